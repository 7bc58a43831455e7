/- The law ReserveSafe: her function. -/
import Derived.Test.YtmjeocinfoeeeaaReXK
set_option linter.all false
namespace Go.AM.Ytmjeocinfoeeeaa.Re
open Go.Proofs
set_option maxRecDepth 100000
set_option maxHeartbeats 8000000
abbrev VisT := Int × Int × Int × Int
theorem vis_win {e a b : Int} {xs : List tStage.El} {ws : List tWin.El} {du mo : List Int} {de tl fa : Int} (hs : safeF e a b xs ws = true) (C : Pl.Chance e a b xs ws du mo de tl fa) {out : List VisT} (hv : ∀ j, j < xs.length → VisOk xs du tl fa j (getI out Pl.tVisit.dflt j)) :
    (∀ j, j < xs.length → (0 ≤ (getI out Pl.tVisit.dflt j).2.2.1 ∧ (getI out Pl.tVisit.dflt j).2.2.1 ≤ 1000000) ∧ 0 ≤ (getI out Pl.tVisit.dflt j).2.2.2 ∧ (getI out Pl.tVisit.dflt j).2.2.2 ≤ 2000000) ∧
    ∀ k, k < ws.length → ∀ w : WiT, w = getI ws tWin.dflt k → (0 ≤ w.1 ∧ w.1 < (xs.length : Int) ∧ 0 ≤ w.2.1 ∧ w.2.1 < (xs.length : Int)) ∧ (getI out Pl.tVisit.dflt w.2.1.toNat).2.2.1 - (getI out Pl.tVisit.dflt w.1.toNat).2.2.2 ≤ w.2.2 := by
  unfold safeF at hs
  simp only [Bool.and_eq_true, Bool.not_eq_true'] at hs
  obtain ⟨⟨hv1, hs1⟩, hs2⟩ := hs
  unfold slotsF at hs1
  rw [List.any_cons, Bool.or_eq_false_iff] at hs1
  obtain ⟨mg1, _⟩ := slotsG_mg hs1.2
  have hab := C.ab
  have key : ∀ j, j < xs.length → ∀ x : StT, x = getI xs tStage.dflt j → ∀ v : VisT, v = getI out Pl.tVisit.dflt j → (mSt x ≤ v.2.2.1 ∧ v.2.2.1 ≤ sSt x) ∧ (mSt x + sMin x ≤ v.2.2.2) ∧ (0 ≤ v.2.2.1 ∧ v.2.2.1 ≤ 1000000) ∧ 0 ≤ v.2.2.2 ∧ v.2.2.2 ≤ 2000000 := fun j hj x hx v hvv => by
    have h1 := hv j hj
    rw [← hvv] at h1
    obtain ⟨_, v2, v3⟩ := h1
    rw [← hx] at v3
    have hg := mg1 j hj
    rw [← hx] at hg
    unfold Mg1 at hg
    have hst := C.st j hj
    unfold Pl.StOk at hst
    have hat := C.at' j hj
    unfold Pl.AtOk at hat
    have a1 : sMin x ≤ getI du 0 j := by rw [hx]; exact hat.1.1
    have a2 : getI du 0 j ≤ sMax x := by rw [hx]; exact hat.1.2
    have a3 : 1 ≤ sMin x := by rw [hx]; exact hst.1.1
    have a4 : 0 ≤ mSt x := by rw [hx]; exact hst.2.1.2.2.1
    have a5 : sSt x ≤ 1000000 - sMax x := by rw [hx]; exact hst.2.2.1.2.2.2
    have a6 : sMax x ≤ 10000 := by rw [hx]; exact hst.1.2.2
    rcases v3 with ⟨_, h6, _⟩ | ⟨_, h6, _⟩ <;> refine ⟨⟨by omega, by omega⟩, by omega, ⟨by omega, by omega⟩, by omega, by omega⟩
  refine ⟨fun j hj => (key j hj _ rfl _ rfl).2.2, fun k hk w hw => ?_⟩
  have hW := C.ws k hk
  unfold Pl.WiOk at hW
  rw [← hw] at hW
  have k1 : (0 : Int) ≤ w.1 := hW.1
  have k2 : (w.1 : Int) < w.2.1 := hW.2.1
  have k3 : (w.2.1 : Int) < (xs.length : Int) := hW.2.2.1
  refine ⟨⟨k1, by omega, by omega, k3⟩, ?_⟩
  have f1 := key w.1.toNat (by omega) _ rfl _ rfl
  have f2 := key w.2.1.toNat (by omega) _ rfl _ rfl
  have hm := List.any_eq_false.1 hs2 (winM xs w) (List.mem_map.2 ⟨w, by rw [hw]; exact Pl.getI_mem hk, rfl⟩)
  unfold negB at hm
  rw [decide_eq_true_eq] at hm
  unfold winM at hm
  have hm : ¬ (mSt (getI xs tStage.dflt w.1.toNat) + sMin (getI xs tStage.dflt w.1.toNat) + w.2.2 - sSt (getI xs tStage.dflt w.2.1.toNat) < 0) := hm
  omega
def visBad (v : VisT) (x : StT) (tl fa : Int) : Bool :=
  (!(decide (v.2.1 = mTl x) && decide (v.2.2.1 = mSt x)) && !(decide (v.2.1 = sTl x) && decide (v.2.2.1 = sSt x))) || (decide (v.2.1 = tl) && decide (v.2.2.2 > fa))
theorem vis_bad {xs : List StT} {du : List Int} {tl fa : Int} {j : Nat} {v : VisT} (h : VisOk xs du tl fa j v) (hne : mTl (getI xs tStage.dflt j) ≠ sTl (getI xs tStage.dflt j)) : visBad v (getI xs tStage.dflt j) tl fa = false := by
  obtain ⟨_, v2, v3⟩ := h
  unfold visBad
  rw [Bool.or_eq_false_iff]
  rcases v3 with ⟨h1, h2, h3⟩ | ⟨h1, h2, h3⟩
  · refine ⟨by rw [decide_eq_true h1, decide_eq_true h2]; rfl, ?_⟩
    rw [Bool.and_eq_false_iff, decide_eq_false_iff_not, decide_eq_false_iff_not]
    by_cases ht : v.2.1 = tl
    · right
      intro h4
      exact h3 ⟨by rw [← ht, h1], by rw [v2, h2] at h4; exact h4⟩
    · exact .inl ht
  · refine ⟨by rw [decide_eq_true h1, decide_eq_true h2]; simp, ?_⟩
    rw [Bool.and_eq_false_iff, decide_eq_false_iff_not]
    left
    rw [h1, h3]
    exact fun e => hne e.symm
theorem in64_sub {a b : Int} (ha : 0 ≤ a ∧ a ≤ 1000000) (hb : 0 ≤ b ∧ b ≤ 2000000) : In64 (a - b) := by unfold In64; omega
def sigSa : List (Nat × Spec) := [(7, saneS), (8, bookedS), (10, mkReqS), (9, makeS), (11, checkS), (12, scenS), (13, Pl.possS), (14, Pl.runS)]
theorem sigSaOk : SigOk Try.prog (look sigSa) := sigCons (sigCons (sigCons (sigCons (sigCons (sigCons (sigCons (sigCons sigNil
  Try.func14 (by kernel_rfl) (c := body Try.f14) rfl Pl.runOk)
  Try.func13 (by kernel_rfl) (c := body Try.f13) rfl Pl.possOk)
  Try.func12 (by kernel_rfl) (c := body Try.f12) rfl scenOk)
  Try.func11 (by kernel_rfl) (c := body Try.f11) rfl checkOk)
  Try.func9 (by kernel_rfl) (c := body Try.f9) rfl makeOk)
  Try.func10 (by kernel_rfl) (c := body Try.f10) rfl mkReqOk)
  Try.func8 (by kernel_rfl) (c := body Try.f8) rfl bookedOk)
  Try.func7 (by kernel_rfl) (c := body Try.f7) rfl saneOk
abbrev tSix : Ty := .pair (.int .i64) (.pair (.int .i64) (.pair (.int .i64) (.pair (.int .i64) (.pair (.int .i64) (.int .i64)))))
def lsaS : Spec := plain fun
  | [.sl (.pair (.int .i64) (.pair (.int .i64) (.pair (.int .i64) (.int .i64)))) _, .agg [.int .i64 _, .int .i64 _, .int .i64 _, .int .i64 _], .sl (.pair (.int .i64) (.pair (.int .i64) (.pair (.int .i64) (.int .i64)))) _, .sl (.pair (.int .i64) (.int .i64)) _, .sl (.pair (.int .i64) (.pair (.int .i64) (.pair (.int .i64) (.pair (.int .i64) (.pair (.int .i64) (.int .i64)))))) _] => outV True (.bool true)
  | _ => none
theorem lsaOk : SpecSound Try.prog 3 lsaS := by
  refine soundP (envOf sigSaOk) Try.func3 (c := body Try.f3) rfl (by kernel_rfl) rfl ?_
  intro args out hf hpre
  split at hf <;> try (cases hf; done)
  rename_i bk y0 y1 y2 y3 needs ws scs
  cases hf
  refine ⟨Nat.le_of_ble_eq_true rfl, initI (args := [.sl t4 bk, .agg [.int .i64 y0, .int .i64 y1, .int .i64 y2, .int .i64 y3], .sl t4 needs, .sl tP2 ws, .sl tSix scs]) rfl ?_⟩
  obtain ⟨c, hc⟩ : ∃ c, c = calOf bk := ⟨_, rfl⟩
  obtain ⟨hcg, hcl⟩ := calOf_good bk
  rw [← hc] at hcg hcl
  obtain ⟨ns, hns⟩ : ∃ ns, ns = ndL (y0, y1, y2, y3) needs := ⟨_, rfl⟩
  obtain ⟨wl, hwl⟩ : ∃ wl, wl = winL (ndN needs) ws := ⟨_, rfl⟩
  obtain ⟨e, he⟩ : ∃ e, e = rqE (y0, y1, y2, y3) := ⟨_, rfl⟩
  obtain ⟨a, ha⟩ : ∃ a, a = rqA (y0, y1, y2, y3) := ⟨_, rfl⟩
  obtain ⟨b, hb⟩ : ∃ b, b = rqB (y0, y1, y2, y3) := ⟨_, rfl⟩
  have hnl := ndL_len (y0, y1, y2, y3) needs
  have hwll := winL_len (ndN needs) ws
  rw [← hns] at hnl
  rw [← hwl] at hwll
  repeat' (first | with_reducible (first | apply pN | apply cN | apply bN | apply cE | apply cR | apply bR | apply lE | apply lR | apply jE | apply jR) | refine bE rfl ?_ | refine bP rfl ?_ | refine seqI rfl ?_ | refine scopeI rfl ?_ | refine blockI rfl ?_ | refine exitI rfl ?_ | refine retI rfl ?_ | refine skipI rfl ?_)
  refine regI rfl ?_
  repeat' (first | with_reducible refine pN ?_ | refine pC (by first | exact ⟨⟩ | omega | (intros; first | exact ⟨⟩ | omega) | (simp only [lcQ, lnQ, tnQ]; omega)) ?_)
  repeat with_reducible refine cN ?_
  repeat' (first | with_reducible (first | apply pN | apply cN | apply bN | apply cE | apply cR | apply bR | apply lE | apply lR | apply jE | apply jR) | refine bE rfl ?_ | refine bP rfl ?_ | refine seqI rfl ?_ | refine scopeI rfl ?_ | refine blockI rfl ?_ | refine exitI rfl ?_ | refine retI rfl ?_ | refine skipI rfl ?_)
  refine regI rfl ?_
  repeat' (first | with_reducible refine pN ?_ | refine pC (by first | exact ⟨⟩ | omega | (intros; first | exact ⟨⟩ | omega) | (simp only [lcQ, lnQ, tnQ]; omega)) ?_)
  repeat with_reducible refine cN ?_
  repeat' (first | with_reducible (first | apply pN | apply cN | apply bN | apply cE | apply cR | apply bR | apply lE | apply lR | apply jE | apply jR) | refine bE rfl ?_ | refine bP rfl ?_ | refine seqI rfl ?_ | refine scopeI rfl ?_ | refine blockI rfl ?_ | refine exitI rfl ?_ | refine retI rfl ?_ | refine skipI rfl ?_)
  refine regI rfl ?_
  repeat' (first | with_reducible refine pN ?_ | refine pC (by first | exact ⟨⟩ | omega | (intros; first | exact ⟨⟩ | omega) | (simp only [lcQ, lnQ, tnQ]; omega)) ?_)
  repeat with_reducible refine cN ?_
  rw [← hc]
  repeat' (first | with_reducible (first | apply pN | apply cN | apply bN | apply cE | apply cR | apply bR | apply lE | apply lR | apply jE | apply jR) | refine bE rfl ?_ | refine bP rfl ?_ | refine seqI rfl ?_ | refine scopeI rfl ?_ | refine blockI rfl ?_ | refine exitI rfl ?_ | refine retI rfl ?_ | refine skipI rfl ?_)
  refine regI rfl ?_
  repeat' (first | with_reducible refine pN ?_ | refine pC (by first | exact ⟨⟩ | omega | (intros; first | exact ⟨⟩ | omega) | (simp only [lcQ, lnQ, tnQ]; omega) | (show (CalG c ∧ lenF c ≤ 800000) ∧ _; rw [← hns, ← hwl]; exact ⟨⟨hcg, by omega⟩, by omega, by omega⟩)) ?_)
  repeat with_reducible refine cN ?_
  rw [← hns, ← hwl, ← he, ← ha, ← hb]
  cases ho : makeG c e a b ns wl with
  | none =>
    repeat' (first | with_reducible (first | apply pN | apply cN | apply bN | apply cE | apply cR | apply bR | apply lE | apply lR | apply jE | apply jR) | refine bE rfl ?_ | refine bP rfl ?_ | refine pC (by first | exact ⟨⟩ | omega | (intros; first | exact ⟨⟩ | omega) | (simp only [lcQ, lnQ, tnQ]; omega)) ?_ | refine seqI rfl ?_ | refine regI rfl ?_ | refine scopeI rfl ?_ | refine blockI rfl ?_ | refine exitI rfl ?_ | refine retI rfl ?_ | refine skipI rfl ?_)
    refine condT rfl ?_
    repeat' (first | with_reducible (first | apply pN | apply cN | apply bN | apply cE | apply cR | apply bR | apply lE | apply lR | apply jE | apply jR) | refine bE rfl ?_ | refine bP rfl ?_ | refine pC (by first | exact ⟨⟩ | omega | (intros; first | exact ⟨⟩ | omega) | (simp only [lcQ, lnQ, tnQ]; omega)) ?_ | refine seqI rfl ?_ | refine regI rfl ?_ | refine scopeI rfl ?_ | refine blockI rfl ?_ | refine exitI rfl ?_ | refine retI rfl ?_ | refine skipI rfl ?_)
    refine endR rfl ?_
    repeat' (first | exact trivial | exact rfl | refine ⟨rfl, ?_⟩ | refine And.intro ?_ ?_)
  | some y =>
    have m := made hcg ho
    obtain ⟨xs, ov⟩ := y
    dsimp only at m
    have F := Pl.valid_facts m.valid
    have hn8 := F.n
    have hw20 := F.w
    refine tidyI [(15, .int .i64 0)] [(14, .box [.int .i64 e, .int .i64 a, .int .i64 b, .sl tStage xs, .sl tWin wl])] rfl rfl ?_ ?_
    · repeat' (first | exact trivial | exact rfl | refine ⟨rfl, ?_⟩ | refine And.intro ?_ ?_)
    repeat' (first | with_reducible (first | apply pN | apply cN | apply bN | apply cE | apply cR | apply bR | apply lE | apply lR | apply jE | apply jR) | refine bE rfl ?_ | refine bP rfl ?_ | refine pC (by first | exact ⟨⟩ | omega | (intros; first | exact ⟨⟩ | omega) | (simp only [lcQ, lnQ, tnQ]; omega)) ?_ | refine seqI rfl ?_ | refine regI rfl ?_ | refine scopeI rfl ?_ | refine blockI rfl ?_ | refine exitI rfl ?_ | refine retI rfl ?_ | refine skipI rfl ?_)
    refine condF rfl ?_
    repeat' (first | with_reducible refine cN ?_ | refine seqI rfl ?_ | refine skipI rfl ?_)
    repeat' (first | with_reducible (first | apply pN | apply cN | apply bN | apply cE | apply cR | apply bR | apply lE | apply lR | apply jE | apply jR) | refine bE rfl ?_ | refine bP rfl ?_ | refine seqI rfl ?_ | refine scopeI rfl ?_ | refine blockI rfl ?_ | refine exitI rfl ?_ | refine retI rfl ?_ | refine skipI rfl ?_)
    refine regI rfl ?_
    repeat' (first | with_reducible refine pN ?_ | refine pC (by first | exact ⟨⟩ | omega | (intros; first | exact ⟨⟩ | omega) | (simp only [lcQ, lnQ, tnQ]; omega)) ?_)
    repeat with_reducible refine cN ?_
    rw [m.safe]
    repeat' (first | with_reducible (first | apply pN | apply cN | apply bN | apply cE | apply cR | apply bR | apply lE | apply lR | apply jE | apply jR) | refine bE rfl ?_ | refine bP rfl ?_ | refine pC (by first | exact ⟨⟩ | omega | (intros; first | exact ⟨⟩ | omega) | (simp only [lcQ, lnQ, tnQ]; omega)) ?_ | refine seqI rfl ?_ | refine regI rfl ?_ | refine scopeI rfl ?_ | refine blockI rfl ?_ | refine exitI rfl ?_ | refine retI rfl ?_ | refine skipI rfl ?_)
    refine condF rfl ?_
    repeat' (first | with_reducible (first | apply pN | apply cN | apply bN | apply cE | apply cR | apply bR | apply lE | apply lR | apply jE | apply jR) | refine bE rfl ?_ | refine bP rfl ?_ | refine pC (by first | exact ⟨⟩ | omega | (intros; first | exact ⟨⟩ | omega) | (simp only [lcQ, lnQ, tnQ]; omega)) ?_ | refine seqI rfl ?_ | refine regI rfl ?_ | refine scopeI rfl ?_ | refine blockI rfl ?_ | refine exitI rfl ?_ | refine retI rfl ?_ | refine skipI rfl ?_)
    refine loopI (σ := Nat) (fun i => [(18, .int .i64 i)]) (fun i => []) (fun i => i ≤ 10) (fun i => 10 - i) 0 rfl (fun _ => rfl) rfl ?_ ?_ ?_
    · exact Nat.zero_le _
    · repeat' (first | exact trivial | exact rfl | refine ⟨rfl, ?_⟩ | refine And.intro ?_ ?_)
    intro i hi
    repeat' (first | with_reducible (first | apply pN | apply cN | apply bN | apply cE | apply cR | apply bR | apply lE | apply lR | apply jE | apply jR) | refine bE rfl ?_ | refine bP rfl ?_ | refine pC (by first | exact ⟨⟩ | omega | (intros; first | exact ⟨⟩ | omega) | (simp only [lcQ, lnQ, tnQ]; omega)) ?_ | refine seqI rfl ?_ | refine regI rfl ?_ | refine scopeI rfl ?_ | refine blockI rfl ?_ | refine exitI rfl ?_ | refine retI rfl ?_ | refine skipI rfl ?_)
    refine condI rfl (fun c1 => ?_) (fun c1 => ?_)
    · simp only [Bool.and_eq_true, decide_eq_true_eq] at c1
      have hil : i < scs.length := by omega
      have hin : ((i : Int)).toNat = i := by omega
      obtain ⟨z, hz⟩ : ∃ z : Int6, z = getI scs tSix.dflt i := ⟨_, rfl⟩
      have hz' : getI scs tSix.dflt ((i : Int)).toNat = z := by rw [hin]; exact hz.symm
      repeat' (first | with_reducible (first | apply pN | apply cN | apply bN | apply cE | apply cR | apply bR | apply lE | apply lR | apply jE | apply jR) | refine bE rfl ?_ | refine bP rfl ?_ | refine seqI rfl ?_ | refine scopeI rfl ?_ | refine blockI rfl ?_ | refine exitI rfl ?_ | refine retI rfl ?_ | refine skipI rfl ?_)
      refine regI rfl ?_
      repeat' (first | with_reducible refine pN ?_ | refine pC (by first | exact ⟨⟩ | omega | (intros; first | exact ⟨⟩ | omega) | (simp only [lcQ, lnQ, tnQ]; omega) | first | (simp only [hin]; omega) | exact m.valid) ?_)
      repeat with_reducible refine cN ?_
      simp only [hz']
      obtain ⟨du, hdu⟩ : ∃ du, du = duL xs z.1 := ⟨_, rfl⟩
      obtain ⟨mo, hmo⟩ : ∃ mo, mo = moL a b z.2.1 xs.length := ⟨_, rfl⟩
      obtain ⟨de, hde⟩ : ∃ de, de = a + pickF z.2.2.1 (b - a + 1) := ⟨_, rfl⟩
      obtain ⟨tl, htl⟩ : ∃ tl, tl = scT xs z.2.2.2.1 z.2.2.2.2.1 := ⟨_, rfl⟩
      obtain ⟨fa, hfa⟩ : ∃ fa, fa = scF xs z.2.2.2.1 z.2.2.2.2.2 := ⟨_, rfl⟩
      have hp := scen_poss m.valid z.1 z.2.1 z.2.2.1 z.2.2.2.1 z.2.2.2.2.1 z.2.2.2.2.2
      rw [← hdu, ← hmo, ← hde, ← htl, ← hfa] at hp
      have C := Pl.poss_facts hp
      obtain ⟨out, hr, hol, hv⟩ := run_never m.safe hp
      obtain ⟨hvb, hvw⟩ := vis_win (out := out) m.safe C hv
      simp only [← hdu, ← hmo, ← hde, ← htl, ← hfa]
      repeat' (first | with_reducible (first | apply pN | apply cN | apply bN | apply cE | apply cR | apply bR | apply lE | apply lR | apply jE | apply jR) | refine bE rfl ?_ | refine bP rfl ?_ | refine seqI rfl ?_ | refine scopeI rfl ?_ | refine blockI rfl ?_ | refine exitI rfl ?_ | refine retI rfl ?_ | refine skipI rfl ?_)
      refine regI rfl ?_
      repeat' (first | with_reducible refine pN ?_ | refine pC (by first | exact ⟨⟩ | omega | (intros; first | exact ⟨⟩ | omega) | (simp only [lcQ, lnQ, tnQ]; omega) | (show xs.length ≤ _; omega)) ?_)
      repeat with_reducible refine cN ?_
      rw [hp]
      repeat' (first | with_reducible refine cN ?_ | refine seqI rfl ?_ | refine skipI rfl ?_)
      refine condF rfl ?_
      repeat' (first | with_reducible refine cN ?_ | refine seqI rfl ?_ | refine skipI rfl ?_)
      repeat' (first | with_reducible (first | apply pN | apply cN | apply bN | apply cE | apply cR | apply bR | apply lE | apply lR | apply jE | apply jR) | refine bE rfl ?_ | refine bP rfl ?_ | refine seqI rfl ?_ | refine scopeI rfl ?_ | refine blockI rfl ?_ | refine exitI rfl ?_ | refine retI rfl ?_ | refine skipI rfl ?_)
      refine regI rfl ?_
      repeat' (first | with_reducible refine pN ?_ | refine pC (by first | exact ⟨⟩ | omega | (intros; first | exact ⟨⟩ | omega) | (simp only [lcQ, lnQ, tnQ]; omega) | (show xs.length ≤ _; omega)) ?_)
      repeat with_reducible refine cN ?_
      simp only [hr]
      repeat' (first | with_reducible (first | apply pN | apply cN | apply bN | apply cE | apply cR | apply bR | apply lE | apply lR | apply jE | apply jR) | refine bE rfl ?_ | refine bP rfl ?_ | refine pC (by first | exact ⟨⟩ | omega | (intros; first | exact ⟨⟩ | omega) | (simp only [lcQ, lnQ, tnQ]; omega)) ?_ | refine seqI rfl ?_ | refine regI rfl ?_ | refine scopeI rfl ?_ | refine blockI rfl ?_ | refine exitI rfl ?_ | refine retI rfl ?_ | refine skipI rfl ?_)
      refine condI rfl (fun c2 => ?_) (fun c2 => ?_)
      · exfalso
        simp [hol] at c2
      repeat' (first | with_reducible (first | apply pN | apply cN | apply bN | apply cE | apply cR | apply bR | apply lE | apply lR | apply jE | apply jR) | refine bE rfl ?_ | refine bP rfl ?_ | refine pC (by first | exact ⟨⟩ | omega | (intros; first | exact ⟨⟩ | omega) | (simp only [lcQ, lnQ, tnQ]; omega)) ?_ | refine seqI rfl ?_ | refine regI rfl ?_ | refine scopeI rfl ?_ | refine blockI rfl ?_ | refine exitI rfl ?_ | refine retI rfl ?_ | refine skipI rfl ?_)
      refine loopI (σ := Nat) (fun k => [(23, .int .i64 k)]) (fun k => []) (fun k => k ≤ out.length) (fun k => out.length - k) 0 rfl (fun _ => rfl) rfl ?_ ?_ ?_
      · exact Nat.zero_le _
      · repeat' (first | exact trivial | exact rfl | refine ⟨rfl, ?_⟩ | refine And.intro ?_ ?_)
      intro k hk
      repeat' (first | with_reducible (first | apply pN | apply cN | apply bN | apply cE | apply cR | apply bR | apply lE | apply lR | apply jE | apply jR) | refine bE rfl ?_ | refine bP rfl ?_ | refine pC (by first | exact ⟨⟩ | omega | (intros; first | exact ⟨⟩ | omega) | (simp only [lcQ, lnQ, tnQ]; omega)) ?_ | refine seqI rfl ?_ | refine regI rfl ?_ | refine scopeI rfl ?_ | refine blockI rfl ?_ | refine exitI rfl ?_ | refine retI rfl ?_ | refine skipI rfl ?_)
      refine condI rfl (fun c3 => ?_) (fun c3 => ?_)
      · simp only [decide_eq_true_eq] at c3
        have hkl : k < out.length := by omega
        have hkn : ((k : Int)).toNat = k := by omega
        repeat' (first | with_reducible (first | apply pN | apply cN | apply bN | apply cE | apply cR | apply bR | apply lE | apply lR | apply jE | apply jR) | refine bE rfl ?_ | refine bP rfl ?_ | refine pC (by first | exact ⟨⟩ | omega | (intros; first | exact ⟨⟩ | omega) | (simp only [lcQ, lnQ, tnQ]; omega) | (simp only [hkn]; omega)) ?_ | refine seqI rfl ?_ | refine regI rfl ?_ | refine scopeI rfl ?_ | refine blockI rfl ?_ | refine exitI rfl ?_ | refine retI rfl ?_ | refine skipI rfl ?_)
        refine condI rfl (fun c4 => ?_) (fun c4 => ?_)
        · exfalso
          simp only [hkn] at c4
          have hbad := vis_bad (hv k (by omega)) (C.st k (by omega)).2.2.2
          have c4' : visBad (getI out Pl.tVisit.dflt k) (getI xs tStage.dflt k) tl fa = true := c4
          rw [hbad] at c4'
          cases c4'
        repeat' (first | with_reducible (first | apply pN | apply cN | apply bN | apply cE | apply cR | apply bR | apply lE | apply lR | apply jE | apply jR) | refine bE rfl ?_ | refine bP rfl ?_ | refine pC (by first | exact ⟨⟩ | omega | (intros; first | exact ⟨⟩ | omega) | (simp only [lcQ, lnQ, tnQ]; omega)) ?_ | refine seqI rfl ?_ | refine regI rfl ?_ | refine scopeI rfl ?_ | refine blockI rfl ?_ | refine exitI rfl ?_ | refine retI rfl ?_ | refine skipI rfl ?_)
        refine roundI (k + 1) rfl ?_ ?_ ?_
        · show k + 1 ≤ out.length
          omega
        · show out.length - (k + 1) < out.length - k
          omega
        · repeat' (first | exact trivial | with_reducible exact rfl | refine And.intro ?_ ?_)
          all_goals rfl
      · repeat' (first | with_reducible (first | apply pN | apply cN | apply bN | apply cE | apply cR | apply bR | apply lE | apply lR | apply jE | apply jR) | refine bE rfl ?_ | refine bP rfl ?_ | refine pC (by first | exact ⟨⟩ | omega | (intros; first | exact ⟨⟩ | omega) | (simp only [lcQ, lnQ, tnQ]; omega)) ?_ | refine seqI rfl ?_ | refine regI rfl ?_ | refine scopeI rfl ?_ | refine blockI rfl ?_ | refine exitI rfl ?_ | refine retI rfl ?_ | refine skipI rfl ?_)
        refine loopI (σ := Nat) (fun k => [(28, .int .i64 k)]) (fun k => []) (fun k => k ≤ wl.length) (fun k => wl.length - k) 0 rfl (fun _ => rfl) rfl ?_ ?_ ?_
        · exact Nat.zero_le _
        · repeat' (first | exact trivial | exact rfl | refine ⟨rfl, ?_⟩ | refine And.intro ?_ ?_)
        intro k hk
        repeat' (first | with_reducible (first | apply pN | apply cN | apply bN | apply cE | apply cR | apply bR | apply lE | apply lR | apply jE | apply jR) | refine bE rfl ?_ | refine bP rfl ?_ | refine pC (by first | exact ⟨⟩ | omega | (intros; first | exact ⟨⟩ | omega) | (simp only [lcQ, lnQ, tnQ]; omega)) ?_ | refine seqI rfl ?_ | refine regI rfl ?_ | refine scopeI rfl ?_ | refine blockI rfl ?_ | refine exitI rfl ?_ | refine retI rfl ?_ | refine skipI rfl ?_)
        refine condI rfl (fun c5 => ?_) (fun c5 => ?_)
        · simp only [decide_eq_true_eq] at c5
          have hkl : k < wl.length := by omega
          have hkn : ((k : Int)).toNat = k := by omega
          obtain ⟨w, hw⟩ : ∃ w : WiT, w = getI wl tWin.dflt k := ⟨_, rfl⟩
          have hw' : getI wl tWin.dflt ((k : Int)).toNat = w := by rw [hkn]; exact hw.symm
          obtain ⟨⟨w1, w2, w3, w4⟩, w5⟩ := hvw k hkl w hw
          obtain ⟨⟨b1, b2⟩, b3, b4⟩ := hvb w.1.toNat (by omega)
          obtain ⟨⟨b5, b6⟩, b7, b8⟩ := hvb w.2.1.toNat (by omega)
          have hin64 : In64 ((getI out Pl.tVisit.dflt w.2.1.toNat).2.2.1 - (getI out Pl.tVisit.dflt w.1.toNat).2.2.2) := in64_sub ⟨b5, b6⟩ ⟨b3, b4⟩
          repeat' (first | with_reducible (first | apply pN | apply cN | apply bN | apply cE | apply cR | apply bR | apply lE | apply lR | apply jE | apply jR) | refine bE rfl ?_ | refine bP rfl ?_ | refine seqI rfl ?_ | refine scopeI rfl ?_ | refine blockI rfl ?_ | refine exitI rfl ?_ | refine retI rfl ?_ | refine skipI rfl ?_)
          refine regI rfl ?_
          repeat' (first | with_reducible refine pN ?_ | refine pC (by first | exact ⟨⟩ | omega | (intros; first | exact ⟨⟩ | omega) | (simp only [lcQ, lnQ, tnQ]; omega) | (simp only [hkn]; omega)) ?_)
          repeat with_reducible refine cN ?_
          simp only [hw']
          repeat' (first | with_reducible (first | apply pN | apply cN | apply bN | apply cE | apply cR | apply bR | apply lE | apply lR | apply jE | apply jR) | refine bE rfl ?_ | refine bP rfl ?_ | refine seqI rfl ?_ | refine scopeI rfl ?_ | refine blockI rfl ?_ | refine exitI rfl ?_ | refine retI rfl ?_ | refine skipI rfl ?_)
          refine regI rfl ?_
          repeat' (first | with_reducible refine pN ?_ | refine pC (by first | exact ⟨⟩ | omega | (intros; first | exact ⟨⟩ | omega) | (simp only [lcQ, lnQ, tnQ]; omega) | first | exact hin64 | omega | (rw [hol]; omega)) ?_)
          repeat with_reducible refine cN ?_
          refine condI rfl (fun c6 => ?_) (fun c6 => ?_)
          · exfalso
            rw [decide_eq_true_eq] at c6
            exact absurd w5 (Int.not_le.2 c6)
          repeat' (first | with_reducible (first | apply pN | apply cN | apply bN | apply cE | apply cR | apply bR | apply lE | apply lR | apply jE | apply jR) | refine bE rfl ?_ | refine bP rfl ?_ | refine pC (by first | exact ⟨⟩ | omega | (intros; first | exact ⟨⟩ | omega) | (simp only [lcQ, lnQ, tnQ]; omega)) ?_ | refine seqI rfl ?_ | refine regI rfl ?_ | refine scopeI rfl ?_ | refine blockI rfl ?_ | refine exitI rfl ?_ | refine retI rfl ?_ | refine skipI rfl ?_)
          refine roundI (k + 1) rfl ?_ ?_ ?_
          · show k + 1 ≤ wl.length
            omega
          · show wl.length - (k + 1) < wl.length - k
            omega
          · repeat' (first | exact trivial | with_reducible exact rfl | refine And.intro ?_ ?_)
            all_goals rfl
        · repeat' (first | with_reducible (first | apply pN | apply cN | apply bN | apply cE | apply cR | apply bR | apply lE | apply lR | apply jE | apply jR) | refine bE rfl ?_ | refine bP rfl ?_ | refine pC (by first | exact ⟨⟩ | omega | (intros; first | exact ⟨⟩ | omega) | (simp only [lcQ, lnQ, tnQ]; omega)) ?_ | refine seqI rfl ?_ | refine regI rfl ?_ | refine scopeI rfl ?_ | refine blockI rfl ?_ | refine exitI rfl ?_ | refine retI rfl ?_ | refine skipI rfl ?_)
          refine roundI (i + 1) rfl ?_ ?_ ?_
          · show i + 1 ≤ 10
            omega
          · show 10 - (i + 1) < 10 - i
            omega
          · repeat' (first | exact trivial | with_reducible exact rfl | refine And.intro ?_ ?_)
            all_goals rfl
    · repeat' (first | with_reducible (first | apply pN | apply cN | apply bN | apply cE | apply cR | apply bR | apply lE | apply lR | apply jE | apply jR) | refine bE rfl ?_ | refine bP rfl ?_ | refine pC (by first | exact ⟨⟩ | omega | (intros; first | exact ⟨⟩ | omega) | (simp only [lcQ, lnQ, tnQ]; omega)) ?_ | refine seqI rfl ?_ | refine regI rfl ?_ | refine scopeI rfl ?_ | refine blockI rfl ?_ | refine exitI rfl ?_ | refine retI rfl ?_ | refine skipI rfl ?_)
      refine endR rfl ?_
      repeat' (first | exact trivial | exact rfl | refine ⟨rfl, ?_⟩ | refine And.intro ?_ ?_)
end Go.AM.Ytmjeocinfoeeeaa.Re
