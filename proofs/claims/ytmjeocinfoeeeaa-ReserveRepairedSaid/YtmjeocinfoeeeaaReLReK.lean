/- The law ReserveRepaired: her function. -/
import Derived.Test.YtmjeocinfoeeeaaReYK
import Derived.Test.YtmjeocinfoeeeaaPq31
set_option linter.all false
namespace Go.AM.Ytmjeocinfoeeeaa.Re
open Go.Proofs
set_option maxRecDepth 100000
set_option maxHeartbeats 8000000
def sigRe : List (Nat × Spec) := [(7, saneS), (15, pickP), (8, bookedS), (10, mkReqS), (9, makeS), (19, reBookS), (24, repairS),
  (23, calCloneS), (26, listS), (20, ownedS), (25, sameS), (11, checkS)]
theorem sigReOk : SigOk Try.prog (look sigRe) := sigCons (sigCons (sigCons (sigCons (sigCons (sigCons (sigCons (sigCons (sigCons (sigCons (sigCons (sigCons sigNil
  Try.func11 (by kernel_rfl) (c := body Try.f11) rfl checkOk)
  Try.func25 (by kernel_rfl) (c := body Try.f25) rfl sameOk)
  Try.func20 (by kernel_rfl) (c := body Try.f20) rfl ownedOk)
  Try.func26 (by kernel_rfl) (c := body Try.f26) rfl listOk)
  Try.func23 (by kernel_rfl) (c := body Try.f23) rfl calCloneOk)
  Try.func24 (by kernel_rfl) (c := body Try.f24) rfl repairOk)
  Try.func19 (by kernel_rfl) (c := body Try.f19) rfl reBookOk)
  Try.func9 (by kernel_rfl) (c := body Try.f9) rfl makeOk)
  Try.func10 (by kernel_rfl) (c := body Try.f10) rfl mkReqOk)
  Try.func8 (by kernel_rfl) (c := body Try.f8) rfl bookedOk)
  Try.func15 (by kernel_rfl) (c := body Try.f15) rfl pickLOk)
  Try.func7 (by kernel_rfl) (c := body Try.f7) rfl saneOk
def lreS : Spec := plain fun
  | [.sl (.pair (.int .i64) (.pair (.int .i64) (.pair (.int .i64) (.int .i64)))) _, .agg [.int .i64 _, .int .i64 _, .int .i64 _, .int .i64 _], .sl (.pair (.int .i64) (.pair (.int .i64) (.pair (.int .i64) (.int .i64)))) _, .sl (.pair (.int .i64) (.int .i64)) _, .agg [.int .i64 _, .int .i64 _, .int .i64 _]] => outV True (.bool true)
  | _ => none
theorem sameB_self : ∀ (l : List Bk.El), sameB l l = true
  | [] => rfl
  | a :: l => by
    have := sameB_self l
    simp [sameB, this]
theorem lreOk : SpecSound Try.prog 6 lreS := by
  refine soundP (envOf sigReOk) Try.func6 (c := body Try.f6) rfl (by kernel_rfl) rfl ?_
  intro args out hf hpre
  split at hf <;> try (cases hf; done)
  rename_i bk y0 y1 y2 y3 needs ws n0 n1 n2
  cases hf
  refine ⟨Nat.le_of_ble_eq_true rfl, initI (args := [.sl t4 bk, .agg [.int .i64 y0, .int .i64 y1, .int .i64 y2, .int .i64 y3], .sl t4 needs, .sl tP2 ws, .agg [.int .i64 n0, .int .i64 n1, .int .i64 n2]]) rfl ?_⟩
  obtain ⟨c, hc⟩ : ∃ c, c = calOf bk := ⟨_, rfl⟩
  obtain ⟨hcg, hcl⟩ := calOf_good bk
  rw [← hc] at hcg hcl
  obtain ⟨ns, hns⟩ : ∃ ns, ns = ndL (y0, y1, y2, y3) needs := ⟨_, rfl⟩
  obtain ⟨wl, hwl⟩ : ∃ wl, wl = winL (ndN needs) ws := ⟨_, rfl⟩
  obtain ⟨e, he⟩ : ∃ e, e = rqE (y0, y1, y2, y3) := ⟨_, rfl⟩
  obtain ⟨a, ha⟩ : ∃ a, a = rqA (y0, y1, y2, y3) := ⟨_, rfl⟩
  obtain ⟨b, hb⟩ : ∃ b, b = rqB (y0, y1, y2, y3) := ⟨_, rfl⟩
  have hnl := ndL_len (y0, y1, y2, y3) needs
  have hwll := winL_len (ndN needs) ws
  rw [← hns] at hnl
  rw [← hwl] at hwll
  repeat' (first | with_reducible (first | apply pN | apply cN | apply bN | apply cE | apply cR | apply bR | apply lE | apply lR | apply jE | apply jR) | refine bE rfl ?_ | refine bP rfl ?_ | refine seqI rfl ?_ | refine scopeI rfl ?_ | refine blockI rfl ?_ | refine exitI rfl ?_ | refine retI rfl ?_ | refine skipI rfl ?_)
  refine regI rfl ?_
  repeat' (first | with_reducible refine pN ?_ | refine pC (by first | exact ⟨⟩ | omega | (intros; first | exact ⟨⟩ | omega) | (simp only [lcQ, lnQ, tnQ]; omega)) ?_)
  repeat with_reducible refine cN ?_
  repeat' (first | with_reducible (first | apply pN | apply cN | apply bN | apply cE | apply cR | apply bR | apply lE | apply lR | apply jE | apply jR) | refine bE rfl ?_ | refine bP rfl ?_ | refine seqI rfl ?_ | refine scopeI rfl ?_ | refine blockI rfl ?_ | refine exitI rfl ?_ | refine retI rfl ?_ | refine skipI rfl ?_)
  refine regI rfl ?_
  repeat' (first | with_reducible refine pN ?_ | refine pC (by first | exact ⟨⟩ | omega | (intros; first | exact ⟨⟩ | omega) | (simp only [lcQ, lnQ, tnQ]; omega)) ?_)
  repeat with_reducible refine cN ?_
  repeat' (first | with_reducible (first | apply pN | apply cN | apply bN | apply cE | apply cR | apply bR | apply lE | apply lR | apply jE | apply jR) | refine bE rfl ?_ | refine bP rfl ?_ | refine seqI rfl ?_ | refine scopeI rfl ?_ | refine blockI rfl ?_ | refine exitI rfl ?_ | refine retI rfl ?_ | refine skipI rfl ?_)
  refine regI rfl ?_
  repeat' (first | with_reducible refine pN ?_ | refine pC (by first | exact ⟨⟩ | omega | (intros; first | exact ⟨⟩ | omega) | (simp only [lcQ, lnQ, tnQ]; omega)) ?_)
  repeat with_reducible refine cN ?_
  rw [← hc]
  repeat' (first | with_reducible (first | apply pN | apply cN | apply bN | apply cE | apply cR | apply bR | apply lE | apply lR | apply jE | apply jR) | refine bE rfl ?_ | refine bP rfl ?_ | refine seqI rfl ?_ | refine scopeI rfl ?_ | refine blockI rfl ?_ | refine exitI rfl ?_ | refine retI rfl ?_ | refine skipI rfl ?_)
  refine regI rfl ?_
  repeat' (first | with_reducible refine pN ?_ | refine pC (by first | exact ⟨⟩ | omega | (intros; first | exact ⟨⟩ | omega) | (simp only [lcQ, lnQ, tnQ]; omega)) ?_)
  repeat with_reducible refine cN ?_
  rw [← hns, ← hwl, ← he, ← ha, ← hb]
  repeat' (first | with_reducible (first | apply pN | apply cN | apply bN | apply cE | apply cR | apply bR | apply lE | apply lR | apply jE | apply jR) | refine bE rfl ?_ | refine bP rfl ?_ | refine seqI rfl ?_ | refine scopeI rfl ?_ | refine blockI rfl ?_ | refine exitI rfl ?_ | refine retI rfl ?_ | refine skipI rfl ?_)
  refine regI rfl ?_
  repeat' (first | with_reducible refine pN ?_ | refine pC (by first | exact ⟨⟩ | omega | (intros; first | exact ⟨⟩ | omega) | (simp only [lcQ, lnQ, tnQ]; omega) | exact ⟨⟨hcg, by omega⟩, by omega, by omega⟩) ?_)
  repeat with_reducible refine cN ?_
  cases ho : makeG c e a b ns wl with
  | none =>
    repeat' (first | with_reducible refine cN ?_ | refine seqI rfl ?_ | refine skipI rfl ?_)
    refine regH [(51, true)] rfl ?_
    repeat' (first | with_reducible refine pN ?_ | refine pC (by first | trivial | rfl | decide) ?_)
    repeat' (first | with_reducible refine cN ?_ | refine seqI rfl ?_ | refine skipI rfl ?_)
    refine condT rfl ?_
    repeat' (first | with_reducible (first | apply pN | apply cN | apply bN | apply cE | apply cR | apply bR | apply lE | apply lR | apply jE | apply jR) | refine bE rfl ?_ | refine bP rfl ?_ | refine pC (by first | exact ⟨⟩ | omega | (intros; first | exact ⟨⟩ | omega) | (simp only [lcQ, lnQ, tnQ]; omega)) ?_ | refine seqI rfl ?_ | refine regI rfl ?_ | refine scopeI rfl ?_ | refine blockI rfl ?_ | refine exitI rfl ?_ | refine retI rfl ?_ | refine skipI rfl ?_)
    refine endR rfl ?_
    repeat' (first | exact trivial | exact rfl | refine ⟨rfl, ?_⟩ | refine And.intro ?_ ?_)
  | some y =>
    have m := made hcg ho
    have hxb := made_st' hcg ho
    obtain ⟨xs, ov⟩ := y
    dsimp only at m hxb
    have F := Pl.valid_facts m.valid
    have hm := m.len
    have hpos := m.pos
    obtain ⟨rv1, rv2, rv3, rv4⟩ := rvalid_facts m.rv
    have rvw := rvalid_win m.rv
    obtain ⟨hE1, hC1⟩ := m.book hcg (ow := 7) (by omega) (by omega)
    obtain ⟨c1, hc1⟩ : ∃ c1, c1 = bookAll (bks xs 7) c := ⟨_, rfl⟩
    rw [← hc1] at hC1
    have hc1g : CalG c1 ∧ lenF c1 ≤ 100 := by
      obtain ⟨k1, k2⟩ := bookAll_good (l := bks xs 7) hcg
      rw [bks_len] at k2
      rw [hc1]
      exact ⟨k1, by omega⟩
    refine tidyI [(16, .int .i64 0)] [(15, .box [.int .i64 e, .int .i64 a, .int .i64 b, .sl tStage xs, .sl tWin wl])] rfl rfl ?_ ?_
    · repeat' (first | exact trivial | exact rfl | refine ⟨rfl, ?_⟩ | refine And.intro ?_ ?_)
    repeat' (first | with_reducible refine cN ?_ | refine seqI rfl ?_ | refine skipI rfl ?_)
    refine regH [(51, false)] rfl ?_
    repeat' (first | with_reducible refine pN ?_ | refine pC (by first | trivial | rfl | decide | exact ⟨hcg, by omega⟩) ?_)
    rw [hE1, hC1]
    repeat' (first | with_reducible refine cN ?_ | refine seqI rfl ?_ | refine skipI rfl ?_)
    refine condF rfl ?_
    have p0 := pick_b (c := n0) (n := (ns.length : Int)) (by omega)
    obtain ⟨done, hdone⟩ : ∃ d, d = pickF n0 (ns.length : Int) := ⟨_, rfl⟩
    rw [← hdone] at p0
    repeat' (first | with_reducible (first | apply pN | apply cN | apply bN | apply cE | apply cR | apply bR | apply lE | apply lR | apply jE | apply jR) | refine bE rfl ?_ | refine bP rfl ?_ | refine seqI rfl ?_ | refine scopeI rfl ?_ | refine blockI rfl ?_ | refine exitI rfl ?_ | refine retI rfl ?_ | refine skipI rfl ?_)
    refine regI rfl ?_
    repeat' (first | with_reducible refine pN ?_ | refine pC (by first | exact ⟨⟩ | omega | (intros; first | exact ⟨⟩ | omega) | (simp only [lcQ, lnQ, tnQ]; omega) | omega) ?_)
    repeat with_reducible refine cN ?_
    repeat' (first | with_reducible (first | apply pN | apply cN | apply bN | apply cE | apply cR | apply bR | apply lE | apply lR | apply jE | apply jR) | refine bE rfl ?_ | refine bP rfl ?_ | refine seqI rfl ?_ | refine scopeI rfl ?_ | refine blockI rfl ?_ | refine exitI rfl ?_ | refine retI rfl ?_ | refine skipI rfl ?_)
    refine regI rfl ?_
    repeat' (first | with_reducible refine pN ?_ | refine pC (by first | exact ⟨⟩ | omega | (intros; first | exact ⟨⟩ | omega) | (simp only [lcQ, lnQ, tnQ]; omega) | omega) ?_)
    repeat with_reducible refine cN ?_
    rw [← hdone]
    repeat' (first | with_reducible (first | apply pN | apply cN | apply bN | apply cE | apply cR | apply bR | apply lE | apply lR | apply jE | apply jR) | refine bE rfl ?_ | refine bP rfl ?_ | refine seqI rfl ?_ | refine scopeI rfl ?_ | refine blockI rfl ?_ | refine exitI rfl ?_ | refine retI rfl ?_ | refine skipI rfl ?_)
    refine regI rfl ?_
    repeat' (first | with_reducible refine pN ?_ | refine pC (by first | exact ⟨⟩ | omega | (intros; first | exact ⟨⟩ | omega) | (simp only [lcQ, lnQ, tnQ]; omega)) ?_)
    repeat with_reducible refine cN ?_
    repeat' (first | with_reducible refine cN ?_ | refine seqI rfl ?_ | refine skipI rfl ?_)
    refine joinC (fun f : Int => [(18, .int .i64 f)]) (fun _ => []) (fun f => In64 f) (fun _ => rfl) ?_ (fun entry hentry => ?_)
    · refine condI rfl (fun c2 => ?_) (fun c2 => ?_)
      · simp only [Bool.and_eq_true, decide_eq_true_eq] at c2
        have hx1 := hxb (getI xs tStage.dflt (done - 1).toNat) (Pl.getI_mem (by omega))
        have hs1 : In64 (max (getI xs tStage.dflt (done - 1).toNat).2.2.1.2 (getI xs tStage.dflt (done - 1).toNat).2.2.2.2 + (getI xs tStage.dflt (done - 1).toNat).2.1) := by
          have k1 : 0 ≤ (getI xs tStage.dflt (done - 1).toNat).2.2.1.2 := hx1.m0
          have k2 : (getI xs tStage.dflt (done - 1).toNat).2.2.1.2 + (getI xs tStage.dflt (done - 1).toNat).2.1 ≤ 1000000 := hx1.m1
          have k3 : (getI xs tStage.dflt (done - 1).toNat).2.2.2.2 + (getI xs tStage.dflt (done - 1).toNat).2.1 ≤ 1000000 := hx1.s1
          have k4 : (1 : Int) ≤ (getI xs tStage.dflt (done - 1).toNat).2.1 := hx1.l0
          exact in64_mx k1 k2 k3 k4
        repeat' (first | with_reducible (first | apply pN | apply cN | apply bN | apply cE | apply cR | apply bR | apply lE | apply lR | apply jE | apply jR) | refine bE rfl ?_ | refine bP rfl ?_ | refine pC (by first | exact ⟨⟩ | omega | (intros; first | exact ⟨⟩ | omega) | (simp only [lcQ, lnQ, tnQ]; omega) | first | (unfold In64; omega) | omega | exact hs1) ?_ | refine seqI rfl ?_ | refine regI rfl ?_ | refine scopeI rfl ?_ | refine blockI rfl ?_ | refine exitI rfl ?_ | refine retI rfl ?_ | refine skipI rfl ?_)
        refine meetI (max (getI xs tStage.dflt (done - 1).toNat).2.2.1.2 (getI xs tStage.dflt (done - 1).toNat).2.2.2.2 + (getI xs tStage.dflt (done - 1).toNat).2.1) rfl hs1 ?_
        repeat' (first | exact trivial | exact rfl | refine ⟨rfl, ?_⟩ | refine And.intro ?_ ?_)
      · repeat' (first | with_reducible (first | apply pN | apply cN | apply bN | apply cE | apply cR | apply bR | apply lE | apply lR | apply jE | apply jR) | refine bE rfl ?_ | refine bP rfl ?_ | refine pC (by first | exact ⟨⟩ | omega | (intros; first | exact ⟨⟩ | omega) | (simp only [lcQ, lnQ, tnQ]; omega)) ?_ | refine seqI rfl ?_ | refine regI rfl ?_ | refine scopeI rfl ?_ | refine blockI rfl ?_ | refine exitI rfl ?_ | refine retI rfl ?_ | refine skipI rfl ?_)
        refine meetI e rfl (by unfold In64; omega) ?_
        repeat' (first | exact trivial | exact rfl | refine ⟨rfl, ?_⟩ | refine And.intro ?_ ?_)
    have p1 := pick_b (c := n1) (n := (ns.length : Int)) (by omega)
    obtain ⟨g, hg⟩ : ∃ g : NeedT, g = getI ns tNeed.dflt (pickF n1 (ns.length : Int)).toNat := ⟨_, rfl⟩
    have hgt := (rv4 g (by rw [hg]; exact Pl.getI_mem (by omega))).1
    have p2 := pick_b (c := n2) (n := (g.1.length : Int)) (by omega)
    repeat' (first | with_reducible (first | apply pN | apply cN | apply bN | apply cE | apply cR | apply bR | apply lE | apply lR | apply jE | apply jR) | refine bE rfl ?_ | refine bP rfl ?_ | refine seqI rfl ?_ | refine scopeI rfl ?_ | refine blockI rfl ?_ | refine exitI rfl ?_ | refine retI rfl ?_ | refine skipI rfl ?_)
    refine regI rfl ?_
    repeat' (first | with_reducible refine pN ?_ | refine pC (by first | exact ⟨⟩ | omega | (intros; first | exact ⟨⟩ | omega) | (simp only [lcQ, lnQ, tnQ]; omega) | omega) ?_)
    repeat with_reducible refine cN ?_
    simp only [← hg]
    repeat' (first | with_reducible (first | apply pN | apply cN | apply bN | apply cE | apply cR | apply bR | apply lE | apply lR | apply jE | apply jR) | refine bE rfl ?_ | refine bP rfl ?_ | refine seqI rfl ?_ | refine scopeI rfl ?_ | refine blockI rfl ?_ | refine exitI rfl ?_ | refine retI rfl ?_ | refine skipI rfl ?_)
    refine regI rfl ?_
    repeat' (first | with_reducible refine pN ?_ | refine pC (by first | exact ⟨⟩ | omega | (intros; first | exact ⟨⟩ | omega) | (simp only [lcQ, lnQ, tnQ]; omega) | omega) ?_)
    repeat with_reducible refine cN ?_
    obtain ⟨failed, hfailed⟩ : ∃ f : Int, f = getI g.1 (Ty.int .i64).dflt (pickF n2 (g.1.length : Int)).toNat := ⟨_, rfl⟩
    simp only [← hfailed]
    repeat' (first | with_reducible (first | apply pN | apply cN | apply bN | apply cE | apply cR | apply bR | apply lE | apply lR | apply jE | apply jR) | refine bE rfl ?_ | refine bP rfl ?_ | refine seqI rfl ?_ | refine scopeI rfl ?_ | refine blockI rfl ?_ | refine exitI rfl ?_ | refine retI rfl ?_ | refine skipI rfl ?_)
    refine regI rfl ?_
    repeat' (first | with_reducible refine pN ?_ | refine pC (by first | exact ⟨⟩ | omega | (intros; first | exact ⟨⟩ | omega) | (simp only [lcQ, lnQ, tnQ]; omega) | exact hc1g.1.cal (by have := hc1g.2; omega)) ?_)
    repeat with_reducible refine cN ?_
    repeat' (first | with_reducible (first | apply pN | apply cN | apply bN | apply cE | apply cR | apply bR | apply lE | apply lR | apply jE | apply jR) | refine bE rfl ?_ | refine bP rfl ?_ | refine seqI rfl ?_ | refine scopeI rfl ?_ | refine blockI rfl ?_ | refine exitI rfl ?_ | refine retI rfl ?_ | refine skipI rfl ?_)
    refine regI rfl ?_
    repeat' (first | with_reducible refine pN ?_ | refine pC (by first | exact ⟨⟩ | omega | (intros; first | exact ⟨⟩ | omega) | (simp only [lcQ, lnQ, tnQ]; omega) | exact ⟨⟨hc1g.1, by have := hc1g.2; omega⟩, by omega, by omega⟩) ?_)
    repeat with_reducible refine cN ?_
    cases hr : repG c1 e a b xs wl e a b ns wl 7 done entry failed with
    | none =>
      refine tidyI [(24, .int .i64 100)] [(36, .arr Bk c1 none)] rfl rfl ?_ ?_
      · repeat' (first | exact trivial | exact rfl | refine ⟨rfl, ?_⟩ | refine And.intro ?_ ?_)
      repeat' (first | with_reducible (first | apply pN | apply cN | apply bN | apply cE | apply cR | apply bR | apply lE | apply lR | apply jE | apply jR) | refine bE rfl ?_ | refine bP rfl ?_ | refine pC (by first | exact ⟨⟩ | omega | (intros; first | exact ⟨⟩ | omega) | (simp only [lcQ, lnQ, tnQ]; omega)) ?_ | refine seqI rfl ?_ | refine regI rfl ?_ | refine scopeI rfl ?_ | refine blockI rfl ?_ | refine exitI rfl ?_ | refine retI rfl ?_ | refine skipI rfl ?_)
      refine condT rfl ?_
      repeat' (first | with_reducible (first | apply pN | apply cN | apply bN | apply cE | apply cR | apply bR | apply lE | apply lR | apply jE | apply jR) | refine bE rfl ?_ | refine bP rfl ?_ | refine pC (by first | exact ⟨⟩ | omega | (intros; first | exact ⟨⟩ | omega) | (simp only [lcQ, lnQ, tnQ]; omega)) ?_ | refine seqI rfl ?_ | refine regI rfl ?_ | refine scopeI rfl ?_ | refine blockI rfl ?_ | refine exitI rfl ?_ | refine retI rfl ?_ | refine skipI rfl ?_)
      refine loopI (σ := Nat) (fun t => [(25, .int .i64 t)]) (fun t => []) (fun t => t ≤ 20) (fun t => 20 - t) 0 rfl (fun _ => rfl) rfl ?_ ?_ ?_
      · exact Nat.zero_le _
      · repeat' (first | exact trivial | exact rfl | refine ⟨rfl, ?_⟩ | refine And.intro ?_ ?_)
      intro t ht
      repeat' (first | with_reducible (first | apply pN | apply cN | apply bN | apply cE | apply cR | apply bR | apply lE | apply lR | apply jE | apply jR) | refine bE rfl ?_ | refine bP rfl ?_ | refine pC (by first | exact ⟨⟩ | omega | (intros; first | exact ⟨⟩ | omega) | (simp only [lcQ, lnQ, tnQ]; omega)) ?_ | refine seqI rfl ?_ | refine regI rfl ?_ | refine scopeI rfl ?_ | refine blockI rfl ?_ | refine exitI rfl ?_ | refine retI rfl ?_ | refine skipI rfl ?_)
      refine condI rfl (fun c3 => ?_) (fun c3 => ?_)
      · simp only [decide_eq_true_eq] at c3
        repeat' (first | with_reducible (first | apply pN | apply cN | apply bN | apply cE | apply cR | apply bR | apply lE | apply lR | apply jE | apply jR) | refine bE rfl ?_ | refine bP rfl ?_ | refine seqI rfl ?_ | refine scopeI rfl ?_ | refine blockI rfl ?_ | refine exitI rfl ?_ | refine retI rfl ?_ | refine skipI rfl ?_)
        refine regI rfl ?_
        repeat' (first | with_reducible refine pN ?_ | refine pC (by first | exact ⟨⟩ | omega | (intros; first | exact ⟨⟩ | omega) | (simp only [lcQ, lnQ, tnQ]; omega) | exact hc1g.1.cal (by have := hc1g.2; omega)) ?_)
        repeat with_reducible refine cN ?_
        rw [sameB_self]
        repeat' (first | with_reducible (first | apply pN | apply cN | apply bN | apply cE | apply cR | apply bR | apply lE | apply lR | apply jE | apply jR) | refine bE rfl ?_ | refine bP rfl ?_ | refine pC (by first | exact ⟨⟩ | omega | (intros; first | exact ⟨⟩ | omega) | (simp only [lcQ, lnQ, tnQ]; omega)) ?_ | refine seqI rfl ?_ | refine regI rfl ?_ | refine scopeI rfl ?_ | refine blockI rfl ?_ | refine exitI rfl ?_ | refine retI rfl ?_ | refine skipI rfl ?_)
        refine condF rfl ?_
        repeat' (first | with_reducible (first | apply pN | apply cN | apply bN | apply cE | apply cR | apply bR | apply lE | apply lR | apply jE | apply jR) | refine bE rfl ?_ | refine bP rfl ?_ | refine pC (by first | exact ⟨⟩ | omega | (intros; first | exact ⟨⟩ | omega) | (simp only [lcQ, lnQ, tnQ]; omega)) ?_ | refine seqI rfl ?_ | refine regI rfl ?_ | refine scopeI rfl ?_ | refine blockI rfl ?_ | refine exitI rfl ?_ | refine retI rfl ?_ | refine skipI rfl ?_)
        refine roundI (t + 1) rfl ?_ ?_ ?_
        · show t + 1 ≤ 20
          omega
        · show 20 - (t + 1) < 20 - t
          omega
        · repeat' (first | exact trivial | with_reducible exact rfl | refine And.intro ?_ ?_)
          all_goals rfl
      · repeat' (first | with_reducible (first | apply pN | apply cN | apply bN | apply cE | apply cR | apply bR | apply lE | apply lR | apply jE | apply jR) | refine bE rfl ?_ | refine bP rfl ?_ | refine pC (by first | exact ⟨⟩ | omega | (intros; first | exact ⟨⟩ | omega) | (simp only [lcQ, lnQ, tnQ]; omega)) ?_ | refine seqI rfl ?_ | refine regI rfl ?_ | refine scopeI rfl ?_ | refine blockI rfl ?_ | refine exitI rfl ?_ | refine retI rfl ?_ | refine skipI rfl ?_)
        refine endR rfl ?_
        repeat' (first | exact trivial | exact rfl | refine ⟨rfl, ?_⟩ | refine And.intro ?_ ?_)
    | some z =>
      obtain ⟨zs, ov2⟩ := z
      have X := fixed hc1g.1 hr
      dsimp only at X
      have Fz := Pl.valid_facts (show Pl.validF entry a b zs (restF xs wl done).2 = true by have := X.safe; unfold safeF at this; simp only [Bool.and_eq_true] at this; exact this.1.1)
      obtain ⟨c2, hc2⟩ : ∃ c2, c2 = bookAll (bks zs 7) (freedF c1 7) := ⟨_, rfl⟩
      have hrc : repCal c1 (some (zs, ov2)) entry a b (restF xs wl done).2 7 = c2 := by rw [hc2, ← X.eq]; rfl
      have hzl := X.len
      have hz8 := Fz.n
      have hc2g : CalG c2 ∧ lenF c2 ≤ 1000 := by
        rw [hc2]
        have := X.good
        have := hc1g.2
        exact ⟨X.good.1, by omega⟩
      obtain ⟨rw', hrw'⟩ : ∃ rw', rw' = (restF xs wl done).2 := ⟨_, rfl⟩
      rw [hrc]
      refine tidyI [(24, .int .i64 0)] [(23, .box [.int .i64 entry, .int .i64 a, .int .i64 b, .sl tStage zs, .sl tWin (restF xs wl done).2])] rfl rfl ?_ ?_
      · repeat' (first | exact trivial | exact rfl | refine ⟨rfl, ?_⟩ | refine And.intro ?_ ?_)
      repeat' (first | with_reducible (first | apply pN | apply cN | apply bN | apply cE | apply cR | apply bR | apply lE | apply lR | apply jE | apply jR) | refine bE rfl ?_ | refine bP rfl ?_ | refine pC (by first | exact ⟨⟩ | omega | (intros; first | exact ⟨⟩ | omega) | (simp only [lcQ, lnQ, tnQ]; omega)) ?_ | refine seqI rfl ?_ | refine regI rfl ?_ | refine scopeI rfl ?_ | refine blockI rfl ?_ | refine exitI rfl ?_ | refine retI rfl ?_ | refine skipI rfl ?_)
      refine condF rfl ?_
      repeat' (first | with_reducible refine cN ?_ | refine seqI rfl ?_ | refine skipI rfl ?_)
      repeat' (first | with_reducible (first | apply pN | apply cN | apply bN | apply cE | apply cR | apply bR | apply lE | apply lR | apply jE | apply jR) | refine bE rfl ?_ | refine bP rfl ?_ | refine seqI rfl ?_ | refine scopeI rfl ?_ | refine blockI rfl ?_ | refine exitI rfl ?_ | refine retI rfl ?_ | refine skipI rfl ?_)
      refine regI rfl ?_
      repeat' (first | with_reducible refine pN ?_ | refine pC (by first | exact ⟨⟩ | omega | (intros; first | exact ⟨⟩ | omega) | (simp only [lcQ, lnQ, tnQ]; omega)) ?_)
      repeat with_reducible refine cN ?_
      rw [X.safe]
      repeat' (first | with_reducible (first | apply pN | apply cN | apply bN | apply cE | apply cR | apply bR | apply lE | apply lR | apply jE | apply jR) | refine bE rfl ?_ | refine bP rfl ?_ | refine pC (by first | exact ⟨⟩ | omega | (intros; first | exact ⟨⟩ | omega) | (simp only [lcQ, lnQ, tnQ]; omega) | (unfold In64; omega)) ?_ | refine seqI rfl ?_ | refine regI rfl ?_ | refine scopeI rfl ?_ | refine blockI rfl ?_ | refine exitI rfl ?_ | refine retI rfl ?_ | refine skipI rfl ?_)
      refine condI rfl (fun c3 => ?_) (fun c3 => ?_)
      · exfalso
        simp at c3
        omega
      repeat' (first | with_reducible (first | apply pN | apply cN | apply bN | apply cE | apply cR | apply bR | apply lE | apply lR | apply jE | apply jR) | refine bE rfl ?_ | refine bP rfl ?_ | refine pC (by first | exact ⟨⟩ | omega | (intros; first | exact ⟨⟩ | omega) | (simp only [lcQ, lnQ, tnQ]; omega)) ?_ | refine seqI rfl ?_ | refine regI rfl ?_ | refine scopeI rfl ?_ | refine blockI rfl ?_ | refine exitI rfl ?_ | refine retI rfl ?_ | refine skipI rfl ?_)
      refine loopI (σ := Nat) (fun i => [(28, .int .i64 i)]) (fun i => []) (fun i => i ≤ zs.length) (fun i => zs.length - i) 0 rfl (fun _ => rfl) rfl ?_ ?_ ?_
      · exact Nat.zero_le _
      · repeat' (first | exact trivial | exact rfl | refine ⟨rfl, ?_⟩ | refine And.intro ?_ ?_)
      intro i hi
      repeat' (first | with_reducible (first | apply pN | apply cN | apply bN | apply cE | apply cR | apply bR | apply lE | apply lR | apply jE | apply jR) | refine bE rfl ?_ | refine bP rfl ?_ | refine pC (by first | exact ⟨⟩ | omega | (intros; first | exact ⟨⟩ | omega) | (simp only [lcQ, lnQ, tnQ]; omega)) ?_ | refine seqI rfl ?_ | refine regI rfl ?_ | refine scopeI rfl ?_ | refine blockI rfl ?_ | refine exitI rfl ?_ | refine retI rfl ?_ | refine skipI rfl ?_)
      refine condI rfl (fun c4 => ?_) (fun c4 => ?_)
      · simp only [decide_eq_true_eq] at c4
        have hil : i < zs.length := by omega
        have hin : ((i : Int)).toNat = i := by omega
        obtain ⟨z, hz⟩ : ∃ z : StT, z = getI zs tStage.dflt i := ⟨_, rfl⟩
        have hz' : getI zs tStage.dflt ((i : Int)).toNat = z := by rw [hin]; exact hz.symm
        obtain ⟨ht1, ht2⟩ := X.tools z (by rw [hz]; exact Pl.getI_mem hil)
        repeat' (first | with_reducible (first | apply pN | apply cN | apply bN | apply cE | apply cR | apply bR | apply lE | apply lR | apply jE | apply jR) | refine bE rfl ?_ | refine bP rfl ?_ | refine seqI rfl ?_ | refine scopeI rfl ?_ | refine blockI rfl ?_ | refine exitI rfl ?_ | refine retI rfl ?_ | refine skipI rfl ?_)
        refine regI rfl ?_
        repeat' (first | with_reducible refine pN ?_ | refine pC (by first | exact ⟨⟩ | omega | (intros; first | exact ⟨⟩ | omega) | (simp only [lcQ, lnQ, tnQ]; omega) | (simp only [hin]; omega)) ?_)
        repeat with_reducible refine cN ?_
        simp only [hz']
        repeat' (first | with_reducible (first | apply pN | apply cN | apply bN | apply cE | apply cR | apply bR | apply lE | apply lR | apply jE | apply jR) | refine bE rfl ?_ | refine bP rfl ?_ | refine pC (by first | exact ⟨⟩ | omega | (intros; first | exact ⟨⟩ | omega) | (simp only [lcQ, lnQ, tnQ]; omega)) ?_ | refine seqI rfl ?_ | refine regI rfl ?_ | refine scopeI rfl ?_ | refine blockI rfl ?_ | refine exitI rfl ?_ | refine retI rfl ?_ | refine skipI rfl ?_)
        refine condI rfl (fun c5 => ?_) (fun c5 => ?_)
        · exfalso
          simp only [Bool.or_eq_true, decide_eq_true_eq] at c5
          rcases c5 with h | h
          · exact ht1 h
          · exact ht2 h
        repeat' (first | with_reducible (first | apply pN | apply cN | apply bN | apply cE | apply cR | apply bR | apply lE | apply lR | apply jE | apply jR) | refine bE rfl ?_ | refine bP rfl ?_ | refine pC (by first | exact ⟨⟩ | omega | (intros; first | exact ⟨⟩ | omega) | (simp only [lcQ, lnQ, tnQ]; omega)) ?_ | refine seqI rfl ?_ | refine regI rfl ?_ | refine scopeI rfl ?_ | refine blockI rfl ?_ | refine exitI rfl ?_ | refine retI rfl ?_ | refine skipI rfl ?_)
        refine loopI (σ := Nat) (fun k => [(30, .int .i64 k)]) (fun k => []) (fun k => k ≤ wl.length) (fun k => wl.length - k) 0 rfl (fun _ => rfl) rfl ?_ ?_ ?_
        · exact Nat.zero_le _
        · repeat' (first | exact trivial | exact rfl | refine ⟨rfl, ?_⟩ | refine And.intro ?_ ?_)
        intro k hk
        repeat' (first | with_reducible (first | apply pN | apply cN | apply bN | apply cE | apply cR | apply bR | apply lE | apply lR | apply jE | apply jR) | refine bE rfl ?_ | refine bP rfl ?_ | refine pC (by first | exact ⟨⟩ | omega | (intros; first | exact ⟨⟩ | omega) | (simp only [lcQ, lnQ, tnQ]; omega)) ?_ | refine seqI rfl ?_ | refine regI rfl ?_ | refine scopeI rfl ?_ | refine blockI rfl ?_ | refine exitI rfl ?_ | refine retI rfl ?_ | refine skipI rfl ?_)
        refine condI rfl (fun c6 => ?_) (fun c6 => ?_)
        · simp only [decide_eq_true_eq] at c6
          have hkl : k < wl.length := by omega
          have hkn : ((k : Int)).toNat = k := by omega
          obtain ⟨w, hw⟩ : ∃ w : WiT, w = getI wl tWin.dflt k := ⟨_, rfl⟩
          have hw' : getI wl tWin.dflt ((k : Int)).toNat = w := by rw [hkn]; exact hw.symm
          have hwm : w ∈ wl := by rw [hw]; exact Pl.getI_mem hkl
          have hW := rvw w hwm
          unfold WiSm at hW
          obtain ⟨x, hx⟩ : ∃ x : StT, x = getI xs tStage.dflt w.1.toNat := ⟨_, rfl⟩
          have hxs := hxb x (by rw [hx]; exact Pl.getI_mem (by omega))
          have hxf := F.st w.1.toNat (by omega)
          unfold Pl.StOk at hxf
          have x1 : 0 ≤ x.2.2.1.2 := hxs.m0
          have x2 : x.2.2.1.2 + x.2.1 ≤ 1000000 := hxs.m1
          have x3 : (1 : Int) ≤ x.2.1 := hxs.l0
          have x4 : (1 : Int) ≤ x.1 := by rw [hx]; exact hxf.1.1
          have x5 : (x.1 : Int) ≤ x.2.1 := by rw [hx]; exact hxf.1.2.1
          repeat' (first | with_reducible (first | apply pN | apply cN | apply bN | apply cE | apply cR | apply bR | apply lE | apply lR | apply jE | apply jR) | refine bE rfl ?_ | refine bP rfl ?_ | refine seqI rfl ?_ | refine scopeI rfl ?_ | refine blockI rfl ?_ | refine exitI rfl ?_ | refine retI rfl ?_ | refine skipI rfl ?_)
          refine regI rfl ?_
          repeat' (first | with_reducible refine pN ?_ | refine pC (by first | exact ⟨⟩ | omega | (intros; first | exact ⟨⟩ | omega) | (simp only [lcQ, lnQ, tnQ]; omega) | (simp only [hkn]; omega)) ?_)
          repeat with_reducible refine cN ?_
          simp only [hw']
          repeat' (first | with_reducible (first | apply pN | apply cN | apply bN | apply cE | apply cR | apply bR | apply lE | apply lR | apply jE | apply jR) | refine bE rfl ?_ | refine bP rfl ?_ | refine seqI rfl ?_ | refine scopeI rfl ?_ | refine blockI rfl ?_ | refine exitI rfl ?_ | refine retI rfl ?_ | refine skipI rfl ?_)
          refine regI rfl ?_
          repeat' (first | with_reducible refine pN ?_ | refine pC (by first | exact ⟨⟩ | omega | (intros; first | exact ⟨⟩ | omega) | (simp only [lcQ, lnQ, tnQ]; omega) | first | (intro _; omega) | (intro _; unfold In64; omega) | (intro _; rw [← hx]; unfold In64; omega) | (intro _ _; omega) | (intro _ _; unfold In64; omega) | (intro _ _; rw [← hx]; unfold In64; omega)) ?_)
          repeat with_reducible refine cN ?_
          simp only [← hx]
          repeat' (first | with_reducible refine cN ?_ | refine seqI rfl ?_)
          refine condI rfl (fun c7 => ?_) (fun c7 => ?_)
          · exfalso
            simp only [Bool.and_eq_true, decide_eq_true_eq] at c7
            obtain ⟨⟨q1, q2⟩, q3⟩ := c7
            have := X.kept i hil w hwm q1 q2
            rw [← hz] at this
            unfold dlOf at this
            rw [← hx] at this
            have this : max z.2.2.1.2 z.2.2.2.2 ≤ x.2.2.1.2 + x.1 + w.2.2 := this
            omega
          repeat' (first | with_reducible (first | apply pN | apply cN | apply bN | apply cE | apply cR | apply bR | apply lE | apply lR | apply jE | apply jR) | refine bE rfl ?_ | refine bP rfl ?_ | refine pC (by first | exact ⟨⟩ | omega | (intros; first | exact ⟨⟩ | omega) | (simp only [lcQ, lnQ, tnQ]; omega)) ?_ | refine seqI rfl ?_ | refine regI rfl ?_ | refine scopeI rfl ?_ | refine blockI rfl ?_ | refine exitI rfl ?_ | refine retI rfl ?_ | refine skipI rfl ?_)
          refine roundI (k + 1) rfl ?_ ?_ ?_
          · show k + 1 ≤ wl.length
            omega
          · show wl.length - (k + 1) < wl.length - k
            omega
          · repeat' (first | exact trivial | with_reducible exact rfl | refine And.intro ?_ ?_)
            all_goals rfl
        · repeat' (first | with_reducible (first | apply pN | apply cN | apply bN | apply cE | apply cR | apply bR | apply lE | apply lR | apply jE | apply jR) | refine bE rfl ?_ | refine bP rfl ?_ | refine pC (by first | exact ⟨⟩ | omega | (intros; first | exact ⟨⟩ | omega) | (simp only [lcQ, lnQ, tnQ]; omega)) ?_ | refine seqI rfl ?_ | refine regI rfl ?_ | refine scopeI rfl ?_ | refine blockI rfl ?_ | refine exitI rfl ?_ | refine retI rfl ?_ | refine skipI rfl ?_)
          refine roundI (i + 1) rfl ?_ ?_ ?_
          · show i + 1 ≤ zs.length
            omega
          · show zs.length - (i + 1) < zs.length - i
            omega
          · repeat' (first | exact trivial | with_reducible exact rfl | refine And.intro ?_ ?_)
            all_goals rfl
      · repeat' (first | with_reducible (first | apply pN | apply cN | apply bN | apply cE | apply cR | apply bR | apply lE | apply lR | apply jE | apply jR) | refine bE rfl ?_ | refine bP rfl ?_ | refine pC (by first | exact ⟨⟩ | omega | (intros; first | exact ⟨⟩ | omega) | (simp only [lcQ, lnQ, tnQ]; omega)) ?_ | refine seqI rfl ?_ | refine regI rfl ?_ | refine scopeI rfl ?_ | refine blockI rfl ?_ | refine exitI rfl ?_ | refine retI rfl ?_ | refine skipI rfl ?_)
        refine loopI (σ := Nat) (fun o => [(32, .int .i64 o)]) (fun o => []) (fun o => 1 ≤ o ∧ o ≤ 7) (fun o => 7 - o) 1 rfl (fun _ => rfl) rfl ?_ ?_ ?_
        · omega
        · repeat' (first | exact trivial | exact rfl | refine ⟨rfl, ?_⟩ | refine And.intro ?_ ?_)
        rintro o ⟨ho1, ho7⟩
        repeat' (first | with_reducible (first | apply pN | apply cN | apply bN | apply cE | apply cR | apply bR | apply lE | apply lR | apply jE | apply jR) | refine bE rfl ?_ | refine bP rfl ?_ | refine pC (by first | exact ⟨⟩ | omega | (intros; first | exact ⟨⟩ | omega) | (simp only [lcQ, lnQ, tnQ]; omega)) ?_ | refine seqI rfl ?_ | refine regI rfl ?_ | refine scopeI rfl ?_ | refine blockI rfl ?_ | refine exitI rfl ?_ | refine retI rfl ?_ | refine skipI rfl ?_)
        refine condI rfl (fun c8 => ?_) (fun c8 => ?_)
        · simp only [decide_eq_true_eq] at c8
          repeat' (first | with_reducible (first | apply pN | apply cN | apply bN | apply cE | apply cR | apply bR | apply lE | apply lR | apply jE | apply jR) | refine bE rfl ?_ | refine bP rfl ?_ | refine seqI rfl ?_ | refine scopeI rfl ?_ | refine blockI rfl ?_ | refine exitI rfl ?_ | refine retI rfl ?_ | refine skipI rfl ?_)
          refine regI rfl ?_
          repeat' (first | with_reducible refine pN ?_ | refine pC (by first | exact ⟨⟩ | omega | (intros; first | exact ⟨⟩ | omega) | (simp only [lcQ, lnQ, tnQ]; omega) | first | exact hc1g.1.cal (by have := hc1g.2; omega) | exact hc2g.1.cal (by have := hc2g.2; omega)) ?_)
          repeat with_reducible refine cN ?_
          rw [show ownedF c2 (o : Int) = ownedF c1 (o : Int) by rw [hc2]; exact X.owned _ (by omega), sameB_self]
          repeat' (first | with_reducible (first | apply pN | apply cN | apply bN | apply cE | apply cR | apply bR | apply lE | apply lR | apply jE | apply jR) | refine bE rfl ?_ | refine bP rfl ?_ | refine pC (by first | exact ⟨⟩ | omega | (intros; first | exact ⟨⟩ | omega) | (simp only [lcQ, lnQ, tnQ]; omega)) ?_ | refine seqI rfl ?_ | refine regI rfl ?_ | refine scopeI rfl ?_ | refine blockI rfl ?_ | refine exitI rfl ?_ | refine retI rfl ?_ | refine skipI rfl ?_)
          refine condF rfl ?_
          repeat' (first | with_reducible (first | apply pN | apply cN | apply bN | apply cE | apply cR | apply bR | apply lE | apply lR | apply jE | apply jR) | refine bE rfl ?_ | refine bP rfl ?_ | refine pC (by first | exact ⟨⟩ | omega | (intros; first | exact ⟨⟩ | omega) | (simp only [lcQ, lnQ, tnQ]; omega)) ?_ | refine seqI rfl ?_ | refine regI rfl ?_ | refine scopeI rfl ?_ | refine blockI rfl ?_ | refine exitI rfl ?_ | refine retI rfl ?_ | refine skipI rfl ?_)
          refine roundI (o + 1) rfl ?_ ?_ ?_
          · omega
          · omega
          · repeat' (first | exact trivial | with_reducible exact rfl | refine And.intro ?_ ?_)
            all_goals rfl
        · repeat' (first | with_reducible (first | apply pN | apply cN | apply bN | apply cE | apply cR | apply bR | apply lE | apply lR | apply jE | apply jR) | refine bE rfl ?_ | refine bP rfl ?_ | refine pC (by first | exact ⟨⟩ | omega | (intros; first | exact ⟨⟩ | omega) | (simp only [lcQ, lnQ, tnQ]; omega) | exact hc2g.1.cal (by have := hc2g.2; omega)) ?_ | refine seqI rfl ?_ | refine regI rfl ?_ | refine scopeI rfl ?_ | refine blockI rfl ?_ | refine exitI rfl ?_ | refine retI rfl ?_ | refine skipI rfl ?_)
          refine endR rfl ?_
          repeat' (first | exact trivial | exact rfl | refine ⟨rfl, ?_⟩ | refine And.intro ?_ ?_)
          have h7 : (ownedF c2 7).length = 2 * zs.length := by rw [owned_len, hc2]; exact X.seven
          rw [h7]
          simp
end Go.AM.Ytmjeocinfoeeeaa.Re
