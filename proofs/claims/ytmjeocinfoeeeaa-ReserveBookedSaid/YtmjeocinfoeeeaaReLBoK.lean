/- The law ReserveBooked: her function. -/
import Derived.Test.YtmjeocinfoeeeaaPk33
import Derived.Test.YtmjeocinfoeeeaaPk32
set_option linter.all false
namespace Go.AM.Ytmjeocinfoeeeaa.Re
open Go.Proofs
set_option maxRecDepth 100000
set_option maxHeartbeats 8000000

def eqK (a b : Bk.El) : Bool := decide (a.1 = b.1) && (decide (a.2.1 = b.2.1) && (decide (a.2.2.1 = b.2.2.1) && decide (a.2.2.2 = b.2.2.2)))
theorem eqK_self (a : Bk.El) : eqK a a = true := by unfold eqK; simp

def sigBo : List (Nat × Spec) := [(7, saneS), (8, bookedS), (18, lenS), (10, mkReqS), (9, makeS), (19, reBookS),
  (20, ownedS), (21, Pl.bookS), (22, freeS)]
theorem sigBoOk : SigOk Try.prog (look sigBo) := sigCons (sigCons (sigCons (sigCons (sigCons (sigCons (sigCons (sigCons (sigCons sigNil
  Try.func22 (by kernel_rfl) (c := body Try.f22) rfl freeOk)
  Try.func21 (by kernel_rfl) (c := body Try.f21) rfl Pl.bookOk)
  Try.func20 (by kernel_rfl) (c := body Try.f20) rfl ownedOk)
  Try.func19 (by kernel_rfl) (c := body Try.f19) rfl reBookOk)
  Try.func9 (by kernel_rfl) (c := body Try.f9) rfl makeOk)
  Try.func10 (by kernel_rfl) (c := body Try.f10) rfl mkReqOk)
  Try.func18 (by kernel_rfl) (c := body Try.f18) rfl lenOk)
  Try.func8 (by kernel_rfl) (c := body Try.f8) rfl bookedOk)
  Try.func7 (by kernel_rfl) (c := body Try.f7) rfl saneOk

def lboS : Spec := plain fun
  | [.sl (.pair (.int .i64) (.pair (.int .i64) (.pair (.int .i64) (.int .i64)))) _, .agg [.int .i64 _, .int .i64 _, .int .i64 _, .int .i64 _], .sl (.pair (.int .i64) (.pair (.int .i64) (.pair (.int .i64) (.int .i64)))) _, .sl (.pair (.int .i64) (.int .i64)) _, .agg [.int .i64 _, .int .i64 _, .int .i64 _, .int .i64 _]] => outV True (.bool true)
  | _ => none

theorem lboOk : SpecSound Try.prog 5 lboS := by
  refine soundP (envOf sigBoOk) Try.func5 (c := body Try.f5) rfl (by kernel_rfl) rfl ?_
  intro args out hf hpre
  split at hf <;> try (cases hf; done)
  rename_i bk y0 y1 y2 y3 needs ws z0 z1 z2 z3
  cases hf
  refine ⟨Nat.le_of_ble_eq_true rfl, initI (args := [.sl t4 bk, .agg [.int .i64 y0, .int .i64 y1, .int .i64 y2, .int .i64 y3], .sl t4 needs, .sl tP2 ws, .agg [.int .i64 z0, .int .i64 z1, .int .i64 z2, .int .i64 z3]]) rfl ?_⟩
  obtain ⟨c, hc⟩ : ∃ c, c = calOf bk := ⟨_, rfl⟩
  obtain ⟨hcg, hcl⟩ := calOf_good bk
  have hco := calOf_own bk (o := 7) (by omega)
  rw [← hc] at hcg hcl hco
  obtain ⟨ns, hns⟩ : ∃ ns, ns = ndL (y0, y1, y2, y3) needs := ⟨_, rfl⟩
  obtain ⟨wl, hwl⟩ : ∃ wl, wl = winL (ndN needs) ws := ⟨_, rfl⟩
  obtain ⟨e, he⟩ : ∃ e, e = rqE (y0, y1, y2, y3) := ⟨_, rfl⟩
  obtain ⟨a, ha⟩ : ∃ a, a = rqA (y0, y1, y2, y3) := ⟨_, rfl⟩
  obtain ⟨b, hb⟩ : ∃ b, b = rqB (y0, y1, y2, y3) := ⟨_, rfl⟩
  have hnl := ndL_len (y0, y1, y2, y3) needs
  have hwll := winL_len (ndN needs) ws
  rw [← hns] at hnl
  rw [← hwl] at hwll
  repeat' (first | with_reducible (first | apply pN | apply cN | apply bN | apply cE | apply cR | apply bR | apply lE | apply lR | apply jE | apply jR) | refine bE rfl ?_ | refine bP rfl ?_ | refine seqI rfl ?_ | refine scopeI rfl ?_ | refine blockI rfl ?_ | refine exitI rfl ?_ | refine retI rfl ?_ | refine skipI rfl ?_)
  refine regI rfl ?_
  repeat' (first | with_reducible refine pN ?_ | refine pC (by first | exact ⟨⟩ | omega | (intros; first | exact ⟨⟩ | omega) | (simp only [lcQ, lnQ, tnQ]; omega)) ?_)
  repeat with_reducible refine cN ?_
  repeat' (first | with_reducible (first | apply pN | apply cN | apply bN | apply cE | apply cR | apply bR | apply lE | apply lR | apply jE | apply jR) | refine bE rfl ?_ | refine bP rfl ?_ | refine seqI rfl ?_ | refine scopeI rfl ?_ | refine blockI rfl ?_ | refine exitI rfl ?_ | refine retI rfl ?_ | refine skipI rfl ?_)
  refine regI rfl ?_
  repeat' (first | with_reducible refine pN ?_ | refine pC (by first | exact ⟨⟩ | omega | (intros; first | exact ⟨⟩ | omega) | (simp only [lcQ, lnQ, tnQ]; omega)) ?_)
  repeat with_reducible refine cN ?_
  repeat' (first | with_reducible (first | apply pN | apply cN | apply bN | apply cE | apply cR | apply bR | apply lE | apply lR | apply jE | apply jR) | refine bE rfl ?_ | refine bP rfl ?_ | refine seqI rfl ?_ | refine scopeI rfl ?_ | refine blockI rfl ?_ | refine exitI rfl ?_ | refine retI rfl ?_ | refine skipI rfl ?_)
  refine regI rfl ?_
  repeat' (first | with_reducible refine pN ?_ | refine pC (by first | exact ⟨⟩ | omega | (intros; first | exact ⟨⟩ | omega) | (simp only [lcQ, lnQ, tnQ]; omega)) ?_)
  repeat with_reducible refine cN ?_
  rw [← hc]
  repeat' (first | with_reducible (first | apply pN | apply cN | apply bN | apply cE | apply cR | apply bR | apply lE | apply lR | apply jE | apply jR) | refine bE rfl ?_ | refine bP rfl ?_ | refine seqI rfl ?_ | refine scopeI rfl ?_ | refine blockI rfl ?_ | refine exitI rfl ?_ | refine retI rfl ?_ | refine skipI rfl ?_)
  refine regI rfl ?_
  repeat' (first | with_reducible refine pN ?_ | refine pC (by first | exact ⟨⟩ | omega | (intros; first | exact ⟨⟩ | omega) | (simp only [lcQ, lnQ, tnQ]; omega) | exact hcg.cal (by omega)) ?_)
  repeat with_reducible refine cN ?_
  repeat' (first | with_reducible (first | apply pN | apply cN | apply bN | apply cE | apply cR | apply bR | apply lE | apply lR | apply jE | apply jR) | refine bE rfl ?_ | refine bP rfl ?_ | refine seqI rfl ?_ | refine scopeI rfl ?_ | refine blockI rfl ?_ | refine exitI rfl ?_ | refine retI rfl ?_ | refine skipI rfl ?_)
  refine regI rfl ?_
  repeat' (first | with_reducible refine pN ?_ | refine pC (by first | exact ⟨⟩ | omega | (intros; first | exact ⟨⟩ | omega) | (simp only [lcQ, lnQ, tnQ]; omega) | exact hcg.cal (by omega)) ?_)
  repeat with_reducible refine cN ?_
  rw [← hns, ← hwl, ← he, ← ha, ← hb]
  repeat' (first | with_reducible (first | apply pN | apply cN | apply bN | apply cE | apply cR | apply bR | apply lE | apply lR | apply jE | apply jR) | refine bE rfl ?_ | refine bP rfl ?_ | refine seqI rfl ?_ | refine scopeI rfl ?_ | refine blockI rfl ?_ | refine exitI rfl ?_ | refine retI rfl ?_ | refine skipI rfl ?_)
  refine regI rfl ?_
  repeat' (first | with_reducible refine pN ?_ | refine pC (by first | exact ⟨⟩ | omega | (intros; first | exact ⟨⟩ | omega) | (simp only [lcQ, lnQ, tnQ]; omega) | exact ⟨⟨hcg, by omega⟩, by omega, by omega⟩) ?_)
  repeat with_reducible refine cN ?_
  cases ho : makeG c e a b ns wl with
  | none =>
    repeat' (first | with_reducible (first | apply pN | apply cN | apply bN | apply cE | apply cR | apply bR | apply lE | apply lR | apply jE | apply jR) | refine bE rfl ?_ | refine bP rfl ?_ | refine pC (by first | exact ⟨⟩ | omega | (intros; first | exact ⟨⟩ | omega) | (simp only [lcQ, lnQ, tnQ]; omega)) ?_ | refine seqI rfl ?_ | refine regI rfl ?_ | refine scopeI rfl ?_ | refine blockI rfl ?_ | refine exitI rfl ?_ | refine retI rfl ?_ | refine skipI rfl ?_)
    refine condT rfl ?_
    repeat' (first | with_reducible (first | apply pN | apply cN | apply bN | apply cE | apply cR | apply bR | apply lE | apply lR | apply jE | apply jR) | refine bE rfl ?_ | refine bP rfl ?_ | refine pC (by first | exact ⟨⟩ | omega | (intros; first | exact ⟨⟩ | omega) | (simp only [lcQ, lnQ, tnQ]; omega) | first | exact hcg.cal (by omega) | (intro _; exact hcg.cal (by omega))) ?_ | refine seqI rfl ?_ | refine regI rfl ?_ | refine scopeI rfl ?_ | refine blockI rfl ?_ | refine exitI rfl ?_ | refine retI rfl ?_ | refine skipI rfl ?_)
    refine endR rfl ?_
    repeat' (first | exact trivial | exact rfl | refine ⟨rfl, ?_⟩ | refine And.intro ?_ ?_)
    simp
  | some y =>
    have m := made hcg ho
    obtain ⟨xs, ov⟩ := y
    dsimp only at m
    refine tidyI [(17, .int .i64 0)] [(16, .box [.int .i64 e, .int .i64 a, .int .i64 b, .sl tStage xs, .sl tWin wl])] rfl rfl ?_ ?_
    · repeat' (first | exact trivial | exact rfl | refine ⟨rfl, ?_⟩ | refine And.intro ?_ ?_)
    repeat' (first | with_reducible (first | apply pN | apply cN | apply bN | apply cE | apply cR | apply bR | apply lE | apply lR | apply jE | apply jR) | refine bE rfl ?_ | refine bP rfl ?_ | refine pC (by first | exact ⟨⟩ | omega | (intros; first | exact ⟨⟩ | omega) | (simp only [lcQ, lnQ, tnQ]; omega)) ?_ | refine seqI rfl ?_ | refine regI rfl ?_ | refine scopeI rfl ?_ | refine blockI rfl ?_ | refine exitI rfl ?_ | refine retI rfl ?_ | refine skipI rfl ?_)
    refine condF rfl ?_
    obtain ⟨hE1, hC1⟩ := m.book hcg (ow := 7) (by omega) (by omega)
    obtain ⟨c1, hc1⟩ : ∃ c1, c1 = bookAll (bks xs 7) c := ⟨_, rfl⟩
    obtain ⟨hE2, hC2⟩ := m.again hcg (ow := 7) (o2 := 8) (by omega) (by omega) (by omega) (by omega)
    rw [← hc1] at hC1 hE2 hC2
    have hm := m.len
    have hc1g : CalG c1 := by rw [hc1]; exact (bookAll_good hcg).1
    obtain ⟨hmem, hlen, hcnt⟩ := all_book hcg (m.free 7 (by omega) (by omega))
    rw [← hc1] at hmem hlen hcnt
    rw [bks_len] at hlen
    have hc1l : lenF c1 ≤ 100 := by omega
    repeat' (first | with_reducible refine cN ?_ | refine seqI rfl ?_ | refine skipI rfl ?_)
    refine regH [(57, false), (68, false), (74, false)] rfl ?_
    repeat' (first | with_reducible refine pN ?_ | refine pC (by first | trivial | exact ⟨hcg, by omega⟩ | (rw [hE1]; rfl) | (rw [hC1]; exact hc1g.cal (by omega)) | (rw [hC1]; exact ⟨hc1g, by omega⟩) | (rw [hC1, hE2]; rfl) | (rw [hC1, hC2]; exact hc1g.cal (by omega)) | (rw [hC1]; simp only [Bool.false_or, decide_eq_false_iff_not]; omega) | (unfold In64; omega)) ?_)
    rw [hC1, hC2]
    repeat' (first | with_reducible refine cN ?_ | refine seqI rfl ?_ | refine skipI rfl ?_)
    refine condI rfl (fun c1x => ?_) (fun c1x => ?_)
    · exfalso
      simp only [Bool.false_or, decide_eq_true_eq] at c1x
      omega
    obtain ⟨w, hw⟩ : ∃ w, w = bks xs 7 := ⟨_, rfl⟩
    obtain ⟨ow, how⟩ : ∃ ow, ow = ownedF c1 7 := ⟨_, rfl⟩
    have hwl2 : w.length = 2 * xs.length := by rw [hw, bks_len]
    have howl : ow.length = 2 * xs.length := by
      rw [how, owned_len, hcnt, hco, bks_cnt]
      omega
    have hpl : Pl.bookF e a b xs wl 7 = w := by rw [hw]; exact planL_eq m.valid (by omega) (by omega)
    have hall : ∀ d ∈ w, ow.any (fun x => eqK x d) = true := fun d hd => by
      have hd' := hd
      rw [hw] at hd'
      obtain ⟨f1, _⟩ := free_iff.1 (((allFree_iff hcg).1 (m.free 7 (by omega) (by omega))).1 d hd')
      rw [List.any_eq_true]
      refine ⟨d, ?_, eqK_self d⟩
      rw [how]
      refine mem_owned hc1g f1.t0 f1.t1 ((hmem (tlB d) f1.t0 f1.t1 d).2 (.inl ⟨hd', rfl⟩)) ?_
      have := List.countP_eq_length.1 ((bks_cnt xs 7).trans (bks_len xs 7).symm) d hd'
      exact this
    repeat' (first | with_reducible refine cN ?_ | refine seqI rfl ?_ | refine skipI rfl ?_)
    repeat' (first | with_reducible (first | apply pN | apply cN | apply bN | apply cE | apply cR | apply bR | apply lE | apply lR | apply jE | apply jR) | refine bE rfl ?_ | refine bP rfl ?_ | refine seqI rfl ?_ | refine scopeI rfl ?_ | refine blockI rfl ?_ | refine exitI rfl ?_ | refine retI rfl ?_ | refine skipI rfl ?_)
    refine regI rfl ?_
    repeat' (first | with_reducible refine pN ?_ | refine pC (by first | exact ⟨⟩ | omega | (intros; first | exact ⟨⟩ | omega) | (simp only [lcQ, lnQ, tnQ]; omega) | exact hc1g.cal (by omega)) ?_)
    repeat with_reducible refine cN ?_
    repeat' (first | with_reducible (first | apply pN | apply cN | apply bN | apply cE | apply cR | apply bR | apply lE | apply lR | apply jE | apply jR) | refine bE rfl ?_ | refine bP rfl ?_ | refine seqI rfl ?_ | refine scopeI rfl ?_ | refine blockI rfl ?_ | refine exitI rfl ?_ | refine retI rfl ?_ | refine skipI rfl ?_)
    refine regI rfl ?_
    repeat' (first | with_reducible refine pN ?_ | refine pC (by first | exact ⟨⟩ | omega | (intros; first | exact ⟨⟩ | omega) | (simp only [lcQ, lnQ, tnQ]; omega) | exact hc1g.cal (by omega)) ?_)
    repeat with_reducible refine cN ?_
    rw [← how, hpl]
    repeat' (first | with_reducible (first | apply pN | apply cN | apply bN | apply cE | apply cR | apply bR | apply lE | apply lR | apply jE | apply jR) | refine bE rfl ?_ | refine bP rfl ?_ | refine pC (by first | exact ⟨⟩ | omega | (intros; first | exact ⟨⟩ | omega) | (simp only [lcQ, lnQ, tnQ]; omega)) ?_ | refine seqI rfl ?_ | refine regI rfl ?_ | refine scopeI rfl ?_ | refine blockI rfl ?_ | refine exitI rfl ?_ | refine retI rfl ?_ | refine skipI rfl ?_)
    refine condI rfl (fun c2x => ?_) (fun c2x => ?_)
    · exfalso
      simp only [decide_eq_true_eq] at c2x
      omega
    repeat' (first | with_reducible (first | apply pN | apply cN | apply bN | apply cE | apply cR | apply bR | apply lE | apply lR | apply jE | apply jR) | refine bE rfl ?_ | refine bP rfl ?_ | refine pC (by first | exact ⟨⟩ | omega | (intros; first | exact ⟨⟩ | omega) | (simp only [lcQ, lnQ, tnQ]; omega)) ?_ | refine seqI rfl ?_ | refine regI rfl ?_ | refine scopeI rfl ?_ | refine blockI rfl ?_ | refine exitI rfl ?_ | refine retI rfl ?_ | refine skipI rfl ?_)
    refine loopI (σ := Nat) (fun i => [(20, .int .i64 i)]) (fun i => []) (fun i => i ≤ w.length) (fun i => w.length - i) 0 rfl (fun _ => rfl) rfl ?_ ?_ ?_
    · exact Nat.zero_le _
    · repeat' (first | exact trivial | exact rfl | refine ⟨rfl, ?_⟩ | refine And.intro ?_ ?_)
    · intro i hi
      repeat' (first | with_reducible (first | apply pN | apply cN | apply bN | apply cE | apply cR | apply bR | apply lE | apply lR | apply jE | apply jR) | refine bE rfl ?_ | refine bP rfl ?_ | refine pC (by first | exact ⟨⟩ | omega | (intros; first | exact ⟨⟩ | omega) | (simp only [lcQ, lnQ, tnQ]; omega)) ?_ | refine seqI rfl ?_ | refine regI rfl ?_ | refine scopeI rfl ?_ | refine blockI rfl ?_ | refine exitI rfl ?_ | refine retI rfl ?_ | refine skipI rfl ?_)
      refine condI rfl (fun c3 => ?_) (fun c3 => ?_)
      · simp only [decide_eq_true_eq] at c3
        have hil : i < w.length := by omega
        have hin : ((i : Int)).toNat = i := by omega
        obtain ⟨d, hd⟩ : ∃ d, d = getI w Bk.dflt i := ⟨_, rfl⟩
        repeat' (first | with_reducible (first | apply pN | apply cN | apply bN | apply cE | apply cR | apply bR | apply lE | apply lR | apply jE | apply jR) | refine bE rfl ?_ | refine bP rfl ?_ | refine pC (by first | exact ⟨⟩ | omega | (intros; first | exact ⟨⟩ | omega) | (simp only [lcQ, lnQ, tnQ]; omega)) ?_ | refine seqI rfl ?_ | refine regI rfl ?_ | refine scopeI rfl ?_ | refine blockI rfl ?_ | refine exitI rfl ?_ | refine retI rfl ?_ | refine skipI rfl ?_)
        refine loopI (σ := Nat) (fun k => [(22, .int .i64 k), (21, .bool ((ow.take k).any fun x => eqK x d))]) (fun k => []) (fun k => k ≤ ow.length) (fun k => ow.length - k) 0 rfl (fun _ => rfl) rfl ?_ ?_ ?_
        · exact Nat.zero_le _
        · repeat' (first | exact trivial | exact rfl | refine ⟨rfl, ?_⟩ | refine And.intro ?_ ?_)
        · intro k hk
          repeat' (first | with_reducible (first | apply pN | apply cN | apply bN | apply cE | apply cR | apply bR | apply lE | apply lR | apply jE | apply jR) | refine bE rfl ?_ | refine bP rfl ?_ | refine pC (by first | exact ⟨⟩ | omega | (intros; first | exact ⟨⟩ | omega) | (simp only [lcQ, lnQ, tnQ]; omega)) ?_ | refine seqI rfl ?_ | refine regI rfl ?_ | refine scopeI rfl ?_ | refine blockI rfl ?_ | refine exitI rfl ?_ | refine retI rfl ?_ | refine skipI rfl ?_)
          refine condI rfl (fun c4 => ?_) (fun c4 => ?_)
          · simp only [decide_eq_true_eq] at c4
            have hkl : k < ow.length := by omega
            have hkn : ((k : Int)).toNat = k := by omega
            repeat' (first | with_reducible (first | apply pN | apply cN | apply bN | apply cE | apply cR | apply bR | apply lE | apply lR | apply jE | apply jR) | refine bE rfl ?_ | refine bP rfl ?_ | refine pC (by first | exact ⟨⟩ | omega | (intros; first | exact ⟨⟩ | omega) | (simp only [lcQ, lnQ, tnQ]; omega) | (intro _; first | omega | (rw [hkn]; omega) | (rw [hin]; omega))) ?_ | refine seqI rfl ?_ | refine regI rfl ?_ | refine scopeI rfl ?_ | refine blockI rfl ?_ | refine exitI rfl ?_ | refine retI rfl ?_ | refine skipI rfl ?_)
            refine roundI (k + 1) rfl ?_ ?_ ?_
            · show k + 1 ≤ ow.length
              omega
            · show ow.length - (k + 1) < ow.length - k
              omega
            · repeat' (first | exact trivial | with_reducible exact rfl | refine And.intro ?_ ?_)
              all_goals (first | rfl | (rw [take_getI (d := Bk.dflt) hkl, List.any_append, List.any_cons, List.any_nil, Bool.or_false, hd, hkn, hin]; rfl))
          · simp only [decide_eq_false_iff_not] at c4
            rw [List.take_of_length_le (by omega), hall d (by rw [hd]; exact Pl.getI_mem hil)]
            repeat' (first | with_reducible (first | apply pN | apply cN | apply bN | apply cE | apply cR | apply bR | apply lE | apply lR | apply jE | apply jR) | refine bE rfl ?_ | refine bP rfl ?_ | refine pC (by first | exact ⟨⟩ | omega | (intros; first | exact ⟨⟩ | omega) | (simp only [lcQ, lnQ, tnQ]; omega)) ?_ | refine seqI rfl ?_ | refine regI rfl ?_ | refine scopeI rfl ?_ | refine blockI rfl ?_ | refine exitI rfl ?_ | refine retI rfl ?_ | refine skipI rfl ?_)
            refine condF rfl ?_
            repeat' (first | with_reducible (first | apply pN | apply cN | apply bN | apply cE | apply cR | apply bR | apply lE | apply lR | apply jE | apply jR) | refine bE rfl ?_ | refine bP rfl ?_ | refine pC (by first | exact ⟨⟩ | omega | (intros; first | exact ⟨⟩ | omega) | (simp only [lcQ, lnQ, tnQ]; omega)) ?_ | refine seqI rfl ?_ | refine regI rfl ?_ | refine scopeI rfl ?_ | refine blockI rfl ?_ | refine exitI rfl ?_ | refine retI rfl ?_ | refine skipI rfl ?_)
            refine roundI (i + 1) rfl ?_ ?_ ?_
            · show i + 1 ≤ w.length
              omega
            · show w.length - (i + 1) < w.length - i
              omega
            · repeat' (first | exact trivial | with_reducible exact rfl | refine And.intro ?_ ?_)
              all_goals rfl
      · simp only [decide_eq_false_iff_not] at c3
        obtain ⟨n2, hn2⟩ : ∃ n2, n2 = ndL (z0, z1, z2, z3) needs := ⟨_, rfl⟩
        obtain ⟨e2, he2⟩ : ∃ e2, e2 = rqE (z0, z1, z2, z3) := ⟨_, rfl⟩
        obtain ⟨a2, ha2⟩ : ∃ a2, a2 = rqA (z0, z1, z2, z3) := ⟨_, rfl⟩
        obtain ⟨b2, hb2⟩ : ∃ b2, b2 = rqB (z0, z1, z2, z3) := ⟨_, rfl⟩
        have hnl2 := ndL_len (z0, z1, z2, z3) needs
        rw [← hn2] at hnl2
        repeat' (first | with_reducible (first | apply pN | apply cN | apply bN | apply cE | apply cR | apply bR | apply lE | apply lR | apply jE | apply jR) | refine bE rfl ?_ | refine bP rfl ?_ | refine seqI rfl ?_ | refine scopeI rfl ?_ | refine blockI rfl ?_ | refine exitI rfl ?_ | refine retI rfl ?_ | refine skipI rfl ?_)
        refine regI rfl ?_
        repeat' (first | with_reducible refine pN ?_ | refine pC (by first | exact ⟨⟩ | omega | (intros; first | exact ⟨⟩ | omega) | (simp only [lcQ, lnQ, tnQ]; omega)) ?_)
        repeat with_reducible refine cN ?_
        rw [← hn2, ← hwl, ← he2, ← ha2, ← hb2]
        repeat' (first | with_reducible (first | apply pN | apply cN | apply bN | apply cE | apply cR | apply bR | apply lE | apply lR | apply jE | apply jR) | refine bE rfl ?_ | refine bP rfl ?_ | refine seqI rfl ?_ | refine scopeI rfl ?_ | refine blockI rfl ?_ | refine exitI rfl ?_ | refine retI rfl ?_ | refine skipI rfl ?_)
        refine regI rfl ?_
        repeat' (first | with_reducible refine pN ?_ | refine pC (by first | exact ⟨⟩ | omega | (intros; first | exact ⟨⟩ | omega) | (simp only [lcQ, lnQ, tnQ]; omega) | exact ⟨⟨hc1g, by omega⟩, by omega, by omega⟩) ?_)
        repeat with_reducible refine cN ?_
        have hfin : ∀ d : CalT, cntC (ownsB 7) d = 2 * xs.length → decide (((lenF d : Nat) : Int) - ((lenF (freedF d 7) : Nat) : Int) = 2 * ((ns.length : Nat) : Int)) = true := fun d hd => by
          have := freed_cnt 7 d
          rw [decide_eq_true_eq]
          omega
        have hk1 : cntC (ownsB 7) c1 = 2 * xs.length := by rw [hcnt, hco, bks_cnt]; omega
        cases ho2 : makeG c1 e2 a2 b2 n2 wl with
        | none =>
          refine tidyI [(25, .int .i64 100)] [] rfl rfl ?_ ?_
          · repeat' (first | exact trivial | exact rfl | refine ⟨rfl, ?_⟩ | refine And.intro ?_ ?_)
          repeat' (first | with_reducible refine cN ?_ | refine seqI rfl ?_ | refine skipI rfl ?_)
          refine regH [(132, false)] rfl ?_
          repeat' (first | with_reducible refine pN ?_ | refine pC (by first | trivial | rfl | decide) ?_)
          repeat' (first | with_reducible refine cN ?_ | refine seqI rfl ?_ | refine skipI rfl ?_)
          refine condF rfl ?_
          repeat' (first | with_reducible refine cN ?_ | refine seqI rfl ?_ | refine skipI rfl ?_)
          refine regH [(139, true)] rfl ?_
          repeat' (first | with_reducible refine pN ?_ | refine pC (by first | trivial | rfl | decide | exact hc1g.cal (by omega) | (unfold In64; omega)) ?_)
          repeat' (first | with_reducible (first | apply pN | apply cN | apply bN | apply cE | apply cR | apply bR | apply lE | apply lR | apply jE | apply jR) | refine bE rfl ?_ | refine bP rfl ?_ | refine pC (by first | exact ⟨⟩ | omega | (intros; first | exact ⟨⟩ | omega) | (simp only [lcQ, lnQ, tnQ]; omega)) ?_ | refine seqI rfl ?_ | refine regI rfl ?_ | refine scopeI rfl ?_ | refine blockI rfl ?_ | refine exitI rfl ?_ | refine retI rfl ?_ | refine skipI rfl ?_)
          refine endR rfl ?_
          repeat' (first | exact trivial | exact rfl | refine ⟨rfl, ?_⟩ | refine And.intro ?_ ?_)
          rw [hfin c1 hk1]
          rfl
        | some y2 =>
          obtain ⟨xs2, ov2⟩ := y2
          have m2 := made hc1g ho2
          dsimp only at m2
          obtain ⟨hE3, hC3⟩ := m2.book hc1g (ow := 8) (by omega) (by omega)
          obtain ⟨c2, hc2⟩ : ∃ c2, c2 = bookAll (bks xs2 8) c1 := ⟨_, rfl⟩
          rw [← hc2] at hC3
          have hc2g : CalG c2 ∧ lenF c2 ≤ 1000 := by
            obtain ⟨k1, k2⟩ := bookAll_good (l := bks xs2 8) hc1g
            rw [bks_len] at k2
            rw [hc2]
            have := m2.len
            exact ⟨k1, by omega⟩
          have hk2 : cntC (ownsB 7) c2 = 2 * xs.length := by rw [hc2, cnt_none hc1g (bks_other (by omega)), hk1]
          refine tidyI [(25, .int .i64 0)] [(24, .box [.int .i64 e2, .int .i64 a2, .int .i64 b2, .sl tStage xs2, .sl tWin wl])] rfl rfl ?_ ?_
          · repeat' (first | exact trivial | exact rfl | refine ⟨rfl, ?_⟩ | refine And.intro ?_ ?_)
          repeat' (first | with_reducible refine cN ?_ | refine seqI rfl ?_ | refine skipI rfl ?_)
          refine regH [(132, true)] rfl ?_
          repeat' (first | with_reducible refine pN ?_ | refine pC (by first | trivial | rfl | decide | exact ⟨hc1g, by omega⟩) ?_)
          rw [hE3, hC3]
          repeat' (first | with_reducible refine cN ?_ | refine seqI rfl ?_ | refine skipI rfl ?_)
          refine condF rfl ?_
          repeat' (first | with_reducible refine cN ?_ | refine seqI rfl ?_ | refine skipI rfl ?_)
          refine regH [(139, true)] rfl ?_
          repeat' (first | with_reducible refine pN ?_ | refine pC (by first | trivial | rfl | decide | exact hc2g.1.cal (by have := hc2g.2; omega) | (unfold In64; omega)) ?_)
          repeat' (first | with_reducible (first | apply pN | apply cN | apply bN | apply cE | apply cR | apply bR | apply lE | apply lR | apply jE | apply jR) | refine bE rfl ?_ | refine bP rfl ?_ | refine pC (by first | exact ⟨⟩ | omega | (intros; first | exact ⟨⟩ | omega) | (simp only [lcQ, lnQ, tnQ]; omega)) ?_ | refine seqI rfl ?_ | refine regI rfl ?_ | refine scopeI rfl ?_ | refine blockI rfl ?_ | refine exitI rfl ?_ | refine retI rfl ?_ | refine skipI rfl ?_)
          refine endR rfl ?_
          repeat' (first | exact trivial | exact rfl | refine ⟨rfl, ?_⟩ | refine And.intro ?_ ?_)
          rw [hfin c2 hk2]
          rfl
end Go.AM.Ytmjeocinfoeeeaa.Re
