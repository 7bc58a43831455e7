/- The law ReserveShifted: her function. -/
import Derived.Test.YtmjeocinfoeeeaaReUK
import Derived.Test.YtmjeocinfoeeeaaPk32
set_option linter.all false
namespace Go.AM.Ytmjeocinfoeeeaa.Re
open Go.Proofs
set_option maxRecDepth 100000
set_option maxHeartbeats 8000000

def sigShf : List (Nat × Spec) := [(7, saneS), (15, pickP), (8, bookedS), (16, newS), (17, bookS), (10, mkReqS), (9, makeS)]
theorem sigShfOk : SigOk Try.prog (look sigShf) := sigCons (sigCons (sigCons (sigCons (sigCons (sigCons (sigCons sigNil
  Try.func9 (by kernel_rfl) (c := body Try.f9) rfl makeOk)
  Try.func10 (by kernel_rfl) (c := body Try.f10) rfl mkReqOk)
  Try.func17 (by kernel_rfl) (c := body Try.f17) rfl bookOk)
  Try.func16 (by kernel_rfl) (c := body Try.f16) rfl newOk)
  Try.func8 (by kernel_rfl) (c := body Try.f8) rfl bookedOk)
  Try.func15 (by kernel_rfl) (c := body Try.f15) rfl pickLOk)
  Try.func7 (by kernel_rfl) (c := body Try.f7) rfl saneOk

def lshS : Spec := plain fun
  | [.sl (.pair (.int .i64) (.pair (.int .i64) (.pair (.int .i64) (.int .i64)))) _, .agg [.int .i64 _, .int .i64 _, .int .i64 _, .int .i64 _], .sl (.pair (.int .i64) (.pair (.int .i64) (.pair (.int .i64) (.int .i64)))) _, .sl (.pair (.int .i64) (.int .i64)) _, .int .i64 _] => outV True (.bool true)
  | _ => none

theorem lshOk : SpecSound Try.prog 4 lshS := by
  refine soundP (envOf sigShfOk) Try.func4 (c := body Try.f4) rfl (by kernel_rfl) rfl ?_
  intro args out hf hpre
  split at hf <;> try (cases hf; done)
  rename_i bk y0 y1 y2 y3 needs ws by'
  cases hf
  refine ⟨Nat.le_of_ble_eq_true rfl, initI (args := [.sl t4 bk, .agg [.int .i64 y0, .int .i64 y1, .int .i64 y2, .int .i64 y3], .sl t4 needs, .sl tP2 ws, .int .i64 by']) rfl ?_⟩
  obtain ⟨c, hc⟩ : ∃ c, c = calOf bk := ⟨_, rfl⟩
  obtain ⟨hcg, hcl⟩ := calOf_good bk
  have hE := calOf_ends bk
  rw [← hc] at hcg hcl hE
  obtain ⟨ns, hns⟩ : ∃ ns, ns = ndL (y0, y1, y2, y3) needs := ⟨_, rfl⟩
  obtain ⟨wl, hwl⟩ : ∃ wl, wl = winL (ndN needs) ws := ⟨_, rfl⟩
  obtain ⟨e, he⟩ : ∃ e, e = rqE (y0, y1, y2, y3) := ⟨_, rfl⟩
  obtain ⟨a, ha⟩ : ∃ a, a = rqA (y0, y1, y2, y3) := ⟨_, rfl⟩
  obtain ⟨b, hb⟩ : ∃ b, b = rqB (y0, y1, y2, y3) := ⟨_, rfl⟩
  obtain ⟨k, hk⟩ : ∃ k, k = pickF by' 1001 := ⟨_, rfl⟩
  have hkb := pick_b (c := by') (n := 1001) (by omega)
  rw [← hk] at hkb
  have heb : 0 ≤ e ∧ e < 100 := by rw [he]; exact pick_b (by omega)
  have hnl := ndL_len (y0, y1, y2, y3) needs
  have hwll := winL_len (ndN needs) ws
  rw [← hns] at hnl
  rw [← hwl] at hwll
  obtain ⟨L, hL⟩ : ∃ L, L = c.flatten := ⟨_, rfl⟩
  have hLl : L.length ≤ 15 := by rw [hL, flat_len]; exact hcl
  have hall := later_all hcg hE hkb.1 (show (339 : Int) + k ≤ 1000000 by omega)
  have heq := later_eq hcg hE hkb.1 (show (339 : Int) + k ≤ 1000000 by omega)
  rw [← hL] at hall heq
  have hLb : ∀ d ∈ L, (0 ≤ stB d ∧ stB d < enB d) ∧ enB d ≤ 339 := fun d hd => by
    rw [hL] at hd
    obtain ⟨t0, t1, hin⟩ := ((flat_all hcg).2 d).1 hd
    have g := hcg.good hin t0 t1
    exact ⟨⟨g.s0, g.se⟩, tool_ends hE d hin⟩
  repeat' (first | with_reducible (first | apply pN | apply cN | apply bN | apply cE | apply cR | apply bR | apply lE | apply lR | apply jE | apply jR) | refine bE rfl ?_ | refine bP rfl ?_ | refine seqI rfl ?_ | refine scopeI rfl ?_ | refine blockI rfl ?_ | refine exitI rfl ?_ | refine retI rfl ?_ | refine skipI rfl ?_)
  refine regI rfl ?_
  repeat' (first | with_reducible refine pN ?_ | refine pC (by first | exact ⟨⟩ | omega | (intros; first | exact ⟨⟩ | omega) | (simp only [lcQ, lnQ, tnQ]; omega)) ?_)
  repeat with_reducible refine cN ?_
  repeat' (first | with_reducible (first | apply pN | apply cN | apply bN | apply cE | apply cR | apply bR | apply lE | apply lR | apply jE | apply jR) | refine bE rfl ?_ | refine bP rfl ?_ | refine seqI rfl ?_ | refine scopeI rfl ?_ | refine blockI rfl ?_ | refine exitI rfl ?_ | refine retI rfl ?_ | refine skipI rfl ?_)
  refine regI rfl ?_
  repeat' (first | with_reducible refine pN ?_ | refine pC (by first | exact ⟨⟩ | omega | (intros; first | exact ⟨⟩ | omega) | (simp only [lcQ, lnQ, tnQ]; omega)) ?_)
  repeat with_reducible refine cN ?_
  repeat' (first | with_reducible (first | apply pN | apply cN | apply bN | apply cE | apply cR | apply bR | apply lE | apply lR | apply jE | apply jR) | refine bE rfl ?_ | refine bP rfl ?_ | refine seqI rfl ?_ | refine scopeI rfl ?_ | refine blockI rfl ?_ | refine exitI rfl ?_ | refine retI rfl ?_ | refine skipI rfl ?_)
  refine regI rfl ?_
  repeat' (first | with_reducible refine pN ?_ | refine pC (by first | exact ⟨⟩ | omega | (intros; first | exact ⟨⟩ | omega) | (simp only [lcQ, lnQ, tnQ]; omega)) ?_)
  repeat with_reducible refine cN ?_
  repeat' (first | with_reducible (first | apply pN | apply cN | apply bN | apply cE | apply cR | apply bR | apply lE | apply lR | apply jE | apply jR) | refine bE rfl ?_ | refine bP rfl ?_ | refine seqI rfl ?_ | refine scopeI rfl ?_ | refine blockI rfl ?_ | refine exitI rfl ?_ | refine retI rfl ?_ | refine skipI rfl ?_)
  refine regI rfl ?_
  repeat' (first | with_reducible refine pN ?_ | refine pC (by first | exact ⟨⟩ | omega | (intros; first | exact ⟨⟩ | omega) | (simp only [lcQ, lnQ, tnQ]; omega)) ?_)
  repeat with_reducible refine cN ?_
  rw [← hc, ← hL, ← hk]
  repeat' (first | with_reducible (first | apply pN | apply cN | apply bN | apply cE | apply cR | apply bR | apply lE | apply lR | apply jE | apply jR) | refine bE rfl ?_ | refine bP rfl ?_ | refine seqI rfl ?_ | refine scopeI rfl ?_ | refine blockI rfl ?_ | refine exitI rfl ?_ | refine retI rfl ?_ | refine skipI rfl ?_)
  refine regI rfl ?_
  repeat' (first | with_reducible refine pN ?_ | refine pC (by first | exact ⟨⟩ | omega | (intros; first | exact ⟨⟩ | omega) | (simp only [lcQ, lnQ, tnQ]; omega)) ?_)
  repeat with_reducible refine cN ?_
  repeat' (first | with_reducible (first | apply pN | apply cN | apply bN | apply cE | apply cR | apply bR | apply lE | apply lR | apply jE | apply jR) | refine bE rfl ?_ | refine bP rfl ?_ | refine seqI rfl ?_ | refine scopeI rfl ?_ | refine blockI rfl ?_ | refine exitI rfl ?_ | refine retI rfl ?_ | refine skipI rfl ?_)
  refine regI rfl ?_
  repeat' (first | with_reducible refine pN ?_ | refine pC (by first | exact ⟨⟩ | omega | (intros; first | exact ⟨⟩ | omega) | (simp only [lcQ, lnQ, tnQ]; omega)) ?_)
  repeat with_reducible refine cN ?_
  obtain ⟨M, hM⟩ : ∃ M, M = L.map (shB k) := ⟨_, rfl⟩
  have hMl : M.length = L.length := by rw [hM, List.length_map]
  rw [← hM] at hall heq
  repeat' (first | with_reducible refine cN ?_ | refine seqI rfl ?_ | refine blockI rfl ?_)
  refine loopI (σ := Nat) (fun i => [(15, .ptr 3000 0), (16, .int .i64 i)]) (fun i => [(3000, .arr Bk (bookAll (M.take i) noCal) none)]) (fun i => i ≤ L.length) (fun i => L.length - i) 0 rfl (fun _ => rfl) rfl ?_ ?_ ?_
  · exact Nat.zero_le _
  · repeat' (first | exact trivial | with_reducible exact rfl | refine And.intro ?_ ?_)
    all_goals rfl
  intro i hi
  obtain ⟨kg, kc, ks⟩ := bookAll_ok (M.take i) (by rw [List.length_take]; omega)
  repeat' (first | with_reducible (first | apply pN | apply cN | apply bN | apply cE | apply cR | apply bR | apply lE | apply lR | apply jE | apply jR) | refine bE rfl ?_ | refine bP rfl ?_ | refine pC (by first | exact ⟨⟩ | omega | (intros; first | exact ⟨⟩ | omega) | (simp only [lcQ, lnQ, tnQ]; omega)) ?_ | refine seqI rfl ?_ | refine regI rfl ?_ | refine scopeI rfl ?_ | refine blockI rfl ?_ | refine exitI rfl ?_ | refine retI rfl ?_ | refine skipI rfl ?_)
  refine condI rfl (fun c1 => ?_) (fun c1 => ?_)
  · simp only [decide_eq_true_eq] at c1
    have hil : i < L.length := by omega
    have hin : ((i : Int)).toNat = i := by omega
    obtain ⟨d, hd⟩ : ∃ d : Int × Int × Int × Int, d = getI L Bk.dflt i := ⟨_, rfl⟩
    obtain ⟨⟨b1, b2⟩, b3⟩ := hLb d (by rw [hd]; exact Pl.getI_mem hil)
    have b1 : 0 ≤ d.2.1 := b1
    have b2 : d.2.1 < d.2.2.1 := b2
    have b3 : d.2.2.1 ≤ 339 := b3
    have hd' : getI L Bk.dflt ((i : Int)).toNat = d := by rw [hin]; exact hd.symm
    have hMd : getI M Bk.dflt i = (d.1, d.2.1 + k, d.2.2.1 + k, d.2.2.2) := by rw [hM, getI_map (d := Bk.dflt) hil, ← hd]; rfl
    have hfr := allFree_at hall (show i < M.length by omega)
    have herr : errF (bookAll (M.take i) noCal) (d.1, d.2.1 + k, d.2.2.1 + k, d.2.2.2) = 0 := by rw [← hMd]; unfold errF; rw [if_pos hfr]
    repeat' (first | with_reducible (first | apply pN | apply cN | apply bN | apply cE | apply cR | apply bR | apply lE | apply lR | apply jE | apply jR) | refine bE rfl ?_ | refine bP rfl ?_ | refine seqI rfl ?_ | refine scopeI rfl ?_ | refine blockI rfl ?_ | refine exitI rfl ?_ | refine retI rfl ?_ | refine skipI rfl ?_)
    refine regI rfl ?_
    repeat' (first | with_reducible refine pN ?_ | refine pC (by first | exact ⟨⟩ | omega | (intros; first | exact ⟨⟩ | omega) | (simp only [lcQ, lnQ, tnQ]; omega) | (simp only [hin]; omega)) ?_)
    repeat with_reducible refine cN ?_
    simp only [hd']
    repeat' (first | with_reducible (first | apply pN | apply cN | apply bN | apply cE | apply cR | apply bR | apply lE | apply lR | apply jE | apply jR) | refine bE rfl ?_ | refine bP rfl ?_ | refine pC (by first | exact ⟨⟩ | omega | (intros; first | exact ⟨⟩ | omega) | (simp only [lcQ, lnQ, tnQ]; omega) | first | exact ⟨kc, ks⟩ | (unfold In64; omega)) ?_ | refine seqI rfl ?_ | refine regI rfl ?_ | refine scopeI rfl ?_ | refine blockI rfl ?_ | refine exitI rfl ?_ | refine retI rfl ?_ | refine skipI rfl ?_)
    rw [herr]
    refine condF rfl ?_
    repeat' (first | with_reducible (first | apply pN | apply cN | apply bN | apply cE | apply cR | apply bR | apply lE | apply lR | apply jE | apply jR) | refine bE rfl ?_ | refine bP rfl ?_ | refine pC (by first | exact ⟨⟩ | omega | (intros; first | exact ⟨⟩ | omega) | (simp only [lcQ, lnQ, tnQ]; omega)) ?_ | refine seqI rfl ?_ | refine regI rfl ?_ | refine scopeI rfl ?_ | refine blockI rfl ?_ | refine exitI rfl ?_ | refine retI rfl ?_ | refine skipI rfl ?_)
    refine roundI (i + 1) rfl ?_ ?_ ?_
    · show i + 1 ≤ L.length
      omega
    · show L.length - (i + 1) < L.length - i
      omega
    · repeat' (first | exact trivial | with_reducible exact rfl | refine And.intro ?_ ?_)
      all_goals (first | rfl | (rw [bookAll_take (show i < M.length by omega), hMd]; rfl) | (rw [bookAll_take (show i < M.length by omega), hMd]; done))
  · simp only [decide_eq_false_iff_not] at c1
    rw [List.take_of_length_le (by omega), heq]
    have hsg := good_sh hcg hE hkb.1 (show (339 : Int) + k ≤ 1000000 by omega)
    have hsl : lenF (shC k c) ≤ 1000 := by
      rw [← heq]
      have := (bookAll_good (l := M) noCal_good).2
      rw [lenF_no] at this
      omega
    repeat' (first | with_reducible (first | apply pN | apply cN | apply bN | apply cE | apply cR | apply bR | apply lE | apply lR | apply jE | apply jR) | refine bE rfl ?_ | refine bP rfl ?_ | refine seqI rfl ?_ | refine scopeI rfl ?_ | refine blockI rfl ?_ | refine exitI rfl ?_ | refine retI rfl ?_ | refine skipI rfl ?_)
    refine regI rfl ?_
    repeat' (first | with_reducible refine pN ?_ | refine pC (by first | exact ⟨⟩ | omega | (intros; first | exact ⟨⟩ | omega) | (simp only [lcQ, lnQ, tnQ]; omega)) ?_)
    repeat with_reducible refine cN ?_
    rw [← hns, ← hwl, ← he, ← ha, ← hb]
    repeat' (first | with_reducible (first | apply pN | apply cN | apply bN | apply cE | apply cR | apply bR | apply lE | apply lR | apply jE | apply jR) | refine bE rfl ?_ | refine bP rfl ?_ | refine seqI rfl ?_ | refine scopeI rfl ?_ | refine blockI rfl ?_ | refine exitI rfl ?_ | refine retI rfl ?_ | refine skipI rfl ?_)
    refine regI rfl ?_
    repeat' (first | with_reducible refine pN ?_ | refine pC (by first | exact ⟨⟩ | omega | (intros; first | exact ⟨⟩ | omega) | (simp only [lcQ, lnQ, tnQ]; omega) | first | exact ⟨⟨hcg, by omega⟩, by omega, by omega⟩ | (unfold In64; omega)) ?_)
    repeat with_reducible refine cN ?_
    repeat' (first | with_reducible (first | apply pN | apply cN | apply bN | apply cE | apply cR | apply bR | apply lE | apply lR | apply jE | apply jR) | refine bE rfl ?_ | refine bP rfl ?_ | refine seqI rfl ?_ | refine scopeI rfl ?_ | refine blockI rfl ?_ | refine exitI rfl ?_ | refine retI rfl ?_ | refine skipI rfl ?_)
    refine regI rfl ?_
    repeat' (first | with_reducible refine pN ?_ | refine pC (by first | exact ⟨⟩ | omega | (intros; first | exact ⟨⟩ | omega) | (simp only [lcQ, lnQ, tnQ]; omega) | first | exact ⟨⟨hcg, by omega⟩, by omega, by omega⟩ | (unfold In64; omega)) ?_)
    repeat with_reducible refine cN ?_
    have hsh := make_sh (a := a) (b := b) (ns := ns) (ws := wl) hcg hE hkb.1 heb.1 (show e ≤ 339 by omega) (by omega)
    obtain ⟨o, ho⟩ : ∃ o, o = makeG c e a b ns wl := ⟨_, rfl⟩
    rw [← ho] at hsh
    repeat' (first | with_reducible (first | apply pN | apply cN | apply bN | apply cE | apply cR | apply bR | apply lE | apply lR | apply jE | apply jR) | refine bE rfl ?_ | refine bP rfl ?_ | refine seqI rfl ?_ | refine scopeI rfl ?_ | refine blockI rfl ?_ | refine exitI rfl ?_ | refine retI rfl ?_ | refine skipI rfl ?_)
    refine regI rfl ?_
    repeat' (first | with_reducible refine pN ?_ | refine pC (by first | exact ⟨⟩ | omega | (intros; first | exact ⟨⟩ | omega) | (simp only [lcQ, lnQ, tnQ]; omega) | exact ⟨⟨hsg, by omega⟩, by omega, by omega⟩) ?_)
    repeat with_reducible refine cN ?_
    rw [hsh, ← ho]
    obtain ⟨xs, hxs⟩ : ∃ xs, xs = bStg o := ⟨_, rfl⟩
    have hxb : ∀ x ∈ xs, (0 ≤ mSt x ∧ mSt x ≤ 1000000) ∧ 0 ≤ sSt x ∧ sSt x ≤ 1000000 := fun x hx => by
      cases o with
      | none => rw [hxs] at hx; simp [bStg] at hx
      | some y =>
        rw [hxs] at hx
        have := made_st hcg ho.symm x hx
        have h1 := this.m0
        have h2 := this.m1
        have h3 := this.s0
        have h4 := this.s1
        have h5 := this.l0
        exact ⟨⟨h1, by omega⟩, h3, by omega⟩
    have hxl : xs.length ≤ 3 := by
      cases o with
      | none => rw [hxs]; exact Nat.zero_le _
      | some y => rw [hxs]; exact Nat.le_trans (Nat.le_of_eq (made hcg ho.symm).len) hnl
    obtain ⟨ev, hev⟩ : ∃ ev : Int, ev = sel o 0 100 := ⟨_, rfl⟩
    obtain ⟨e1, he1⟩ : ∃ e1 : Int, e1 = sel o e 0 := ⟨_, rfl⟩
    obtain ⟨e2, he2⟩ : ∃ e2 : Int, e2 = sel o (e + k) 0 := ⟨_, rfl⟩
    have hfin : (decide (ev ≠ 0) || decide (e2 = e1 + k)) = true ∧ In64 (e1 + k) := by
      rw [hev, he1, he2]
      unfold In64
      cases o with
      | none => exact ⟨rfl, by show -9223372036854775808 ≤ (0 : Int) + k ∧ (0 : Int) + k ≤ 9223372036854775807; omega⟩
      | some y => exact ⟨by show (false || decide (e + k = e + k)) = true; simp, by show -9223372036854775808 ≤ e + k ∧ e + k ≤ 9223372036854775807; omega⟩
    repeat' (first | with_reducible (first | apply pN | apply cN | apply bN | apply cE | apply cR | apply bR | apply lE | apply lR | apply jE | apply jR) | refine bE rfl ?_ | refine bP rfl ?_ | refine seqI rfl ?_ | refine scopeI rfl ?_ | refine blockI rfl ?_ | refine exitI rfl ?_ | refine retI rfl ?_ | refine skipI rfl ?_)
    refine regI rfl ?_
    repeat' (first | with_reducible refine pN ?_ | refine pC (by first | exact ⟨⟩ | omega | (intros; first | exact ⟨⟩ | omega) | (simp only [lcQ, lnQ, tnQ]; omega)) ?_)
    repeat with_reducible refine cN ?_
    have hs1 : ∀ u v : Int, sel (o.map (shY k)) u v = sel o u v := fun u v => by cases o <;> rfl
    have hs2 : bStg (o.map (shY k)) = xs.map (shS k) := by rw [hxs]; cases o <;> rfl
    simp only [hs1, hs2, ← hxs, ← hev, ← he1, ← he2]
    repeat' (first | with_reducible refine cN ?_ | refine seqI rfl ?_)
    refine condI rfl (fun c2 => ?_) (fun c2 => ?_)
    · exfalso
      simp at c2
    repeat' (first | with_reducible (first | apply pN | apply cN | apply bN | apply cE | apply cR | apply bR | apply lE | apply lR | apply jE | apply jR) | refine bE rfl ?_ | refine bP rfl ?_ | refine pC (by first | exact ⟨⟩ | omega | (intros; first | exact ⟨⟩ | omega) | (simp only [lcQ, lnQ, tnQ]; omega)) ?_ | refine seqI rfl ?_ | refine regI rfl ?_ | refine scopeI rfl ?_ | refine blockI rfl ?_ | refine exitI rfl ?_ | refine retI rfl ?_ | refine skipI rfl ?_)
    refine loopI (σ := Nat) (fun i => [(23, .int .i64 i)]) (fun i => []) (fun i => i ≤ xs.length) (fun i => xs.length - i) 0 rfl (fun _ => rfl) rfl ?_ ?_ ?_
    · exact Nat.zero_le _
    · repeat' (first | exact trivial | exact rfl | refine ⟨rfl, ?_⟩ | refine And.intro ?_ ?_)
    intro i hi
    repeat' (first | with_reducible (first | apply pN | apply cN | apply bN | apply cE | apply cR | apply bR | apply lE | apply lR | apply jE | apply jR) | refine bE rfl ?_ | refine bP rfl ?_ | refine pC (by first | exact ⟨⟩ | omega | (intros; first | exact ⟨⟩ | omega) | (simp only [lcQ, lnQ, tnQ]; omega)) ?_ | refine seqI rfl ?_ | refine regI rfl ?_ | refine scopeI rfl ?_ | refine blockI rfl ?_ | refine exitI rfl ?_ | refine retI rfl ?_ | refine skipI rfl ?_)
    refine condI rfl (fun c3 => ?_) (fun c3 => ?_)
    · simp only [decide_eq_true_eq] at c3
      have hil : i < xs.length := by omega
      have hin : ((i : Int)).toNat = i := by omega
      obtain ⟨x, hx⟩ : ∃ x : StT, x = getI xs tStage.dflt i := ⟨_, rfl⟩
      obtain ⟨⟨x1, x2⟩, x3, x4⟩ := hxb x (by rw [hx]; exact Pl.getI_mem hil)
      have hx' : getI xs tStage.dflt ((i : Int)).toNat = x := by rw [hin]; exact hx.symm
      have hy' : getI (xs.map (shS k)) tStage.dflt ((i : Int)).toNat = shS k x := by rw [hin, getI_map (d := tStage.dflt) hil, ← hx]
      have y1 : In64 (x.2.2.1.2 + k) := by
        have x1 : 0 ≤ x.2.2.1.2 := x1
        have x2 : x.2.2.1.2 ≤ 1000000 := x2
        unfold In64; omega
      have y2 : In64 (x.2.2.2.2 + k) := by
        have x3 : 0 ≤ x.2.2.2.2 := x3
        have x4 : x.2.2.2.2 ≤ 1000000 := x4
        unfold In64; omega
      repeat' (first | with_reducible (first | apply pN | apply cN | apply bN | apply cE | apply cR | apply bR | apply lE | apply lR | apply jE | apply jR) | refine bE rfl ?_ | refine bP rfl ?_ | refine seqI rfl ?_ | refine scopeI rfl ?_ | refine blockI rfl ?_ | refine exitI rfl ?_ | refine retI rfl ?_ | refine skipI rfl ?_)
      refine regI rfl ?_
      repeat' (first | with_reducible refine pN ?_ | refine pC (by first | exact ⟨⟩ | omega | (intros; first | exact ⟨⟩ | omega) | (simp only [lcQ, lnQ, tnQ]; omega) | (simp only [hin]; omega)) ?_)
      repeat with_reducible refine cN ?_
      simp only [hx']
      repeat' (first | with_reducible (first | apply pN | apply cN | apply bN | apply cE | apply cR | apply bR | apply lE | apply lR | apply jE | apply jR) | refine bE rfl ?_ | refine bP rfl ?_ | refine seqI rfl ?_ | refine scopeI rfl ?_ | refine blockI rfl ?_ | refine exitI rfl ?_ | refine retI rfl ?_ | refine skipI rfl ?_)
      refine regI rfl ?_
      repeat' (first | with_reducible refine pN ?_ | refine pC (by first | exact ⟨⟩ | omega | (intros; first | exact ⟨⟩ | omega) | (simp only [lcQ, lnQ, tnQ]; omega) | first | exact y1 | exact y2) ?_)
      repeat with_reducible refine cN ?_
      repeat' (first | with_reducible (first | apply pN | apply cN | apply bN | apply cE | apply cR | apply bR | apply lE | apply lR | apply jE | apply jR) | refine bE rfl ?_ | refine bP rfl ?_ | refine seqI rfl ?_ | refine scopeI rfl ?_ | refine blockI rfl ?_ | refine exitI rfl ?_ | refine retI rfl ?_ | refine skipI rfl ?_)
      refine regI rfl ?_
      repeat' (first | with_reducible refine pN ?_ | refine pC (by first | exact ⟨⟩ | omega | (intros; first | exact ⟨⟩ | omega) | (simp only [lcQ, lnQ, tnQ]; omega) | first | exact y1 | exact y2) ?_)
      repeat with_reducible refine cN ?_
      repeat' (first | with_reducible (first | apply pN | apply cN | apply bN | apply cE | apply cR | apply bR | apply lE | apply lR | apply jE | apply jR) | refine bE rfl ?_ | refine bP rfl ?_ | refine seqI rfl ?_ | refine scopeI rfl ?_ | refine blockI rfl ?_ | refine exitI rfl ?_ | refine retI rfl ?_ | refine skipI rfl ?_)
      refine regI rfl ?_
      repeat' (first | with_reducible refine pN ?_ | refine pC (by first | exact ⟨⟩ | omega | (intros; first | exact ⟨⟩ | omega) | (simp only [lcQ, lnQ, tnQ]; omega) | (simp only [hin, List.length_map]; omega)) ?_)
      repeat with_reducible refine cN ?_
      simp only [hy']
      repeat' (first | with_reducible refine cN ?_ | refine seqI rfl ?_)
      refine condI rfl (fun c4 => ?_) (fun c4 => ?_)
      · exfalso
        simp [shS] at c4
      repeat' (first | with_reducible (first | apply pN | apply cN | apply bN | apply cE | apply cR | apply bR | apply lE | apply lR | apply jE | apply jR) | refine bE rfl ?_ | refine bP rfl ?_ | refine pC (by first | exact ⟨⟩ | omega | (intros; first | exact ⟨⟩ | omega) | (simp only [lcQ, lnQ, tnQ]; omega)) ?_ | refine seqI rfl ?_ | refine regI rfl ?_ | refine scopeI rfl ?_ | refine blockI rfl ?_ | refine exitI rfl ?_ | refine retI rfl ?_ | refine skipI rfl ?_)
      refine roundI (i + 1) rfl ?_ ?_ ?_
      · show i + 1 ≤ xs.length
        omega
      · show xs.length - (i + 1) < xs.length - i
        omega
      · repeat' (first | exact trivial | with_reducible exact rfl | refine And.intro ?_ ?_)
        all_goals rfl
    · repeat' (first | with_reducible (first | apply pN | apply cN | apply bN | apply cE | apply cR | apply bR | apply lE | apply lR | apply jE | apply jR) | refine bE rfl ?_ | refine bP rfl ?_ | refine pC (by first | exact ⟨⟩ | omega | (intros; first | exact ⟨⟩ | omega) | (simp only [lcQ, lnQ, tnQ]; omega) | (intro _; exact hfin.2)) ?_ | refine seqI rfl ?_ | refine regI rfl ?_ | refine scopeI rfl ?_ | refine blockI rfl ?_ | refine exitI rfl ?_ | refine retI rfl ?_ | refine skipI rfl ?_)
      refine endR rfl ?_
      repeat' (first | exact trivial | exact rfl | refine ⟨rfl, ?_⟩ | refine And.intro ?_ ?_)
      rw [hfin.1]
      rfl
end Go.AM.Ytmjeocinfoeeeaa.Re
