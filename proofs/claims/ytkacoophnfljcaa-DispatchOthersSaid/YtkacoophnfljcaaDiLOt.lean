/- The law DispatchOthers: her function. -/
import Derived.Test.YtkacoophnfljcaaDiV
set_option linter.all false
namespace Go.AM.Ytkacoophnfljcaa
open Go.Proofs
set_option maxRecDepth 100000
set_option maxHeartbeats 8000000

/-- What else is given makes no difference. -/
theorem pick_same {xss : List (List Bk.El)} {tool now rc : Int} {rs : List Int} (hr : RulesOk rs) {l l' : List JobT} (hl : Lots l) (hl' : Lots l') (hs : ∀ a ∈ l', a ∈ l)
    (h : (pickJ xss tool now rs rc l).2 = true → (pickJ xss tool now rs rc l).1 ∈ l') : pickJ xss tool now rs rc l' = pickJ xss tool now rs rc l := by
  have y1 := pick_spec (xss := xss) (tool := tool) (now := now) (rc := rc) hr hl
  have n1 := pick_no (xss := xss) (tool := tool) (now := now) (rc := rc) hr hl
  have d1 := pick_none (xss := xss) (tool := tool) (now := now) (rc := rc) (rs := rs) (l := l)
  have y2 := pick_spec (xss := xss) (tool := tool) (now := now) (rc := rc) hr hl'
  have n2 := pick_no (xss := xss) (tool := tool) (now := now) (rc := rc) hr hl'
  have d2 := pick_none (xss := xss) (tool := tool) (now := now) (rc := rc) (rs := rs) (l := l')
  generalize pickJ xss tool now rs rc l = p at *
  generalize pickJ xss tool now rs rc l' = q at *
  obtain ⟨j, ok⟩ := p
  obtain ⟨a, one⟩ := q
  dsimp only at *
  cases ok with
  | false =>
    cases one with
    | false => rw [(d1 rfl).1, (d2 rfl).1]
    | true =>
      obtain ⟨h1, h2, _⟩ := y2 rfl
      rw [n1 rfl a (hs a h1)] at h2
      cases h2
  | true =>
    obtain ⟨h1, h2, h3⟩ := y1 rfl
    cases one with
    | false =>
      rw [n2 rfl j (h rfl)] at h2
      cases h2
    | true =>
      obtain ⟨k1, k2, k3⟩ := y2 rfl
      by_cases e : jLot a = jLot j
      · rw [lots_eq hl (hs a k1) h1 e]
      · by_cases ha : aheadV rc a j rs
        · rw [h3 a (hs a k1) ha] at k2
          cases k2
        · rw [k3 j (h rfl) (aheadV_total e ha)] at h2
          cases h2

def loeS : Spec := plain fun
  | [.sl (.pair (.int .i64) (.pair (.int .i64) (.pair (.int .i64) (.int .i64)))) _, .sl (.pair (.int .i64) (.pair (.int .i64) (.pair (.int .i64) (.int .i64)))) _, .int .i64 _, .int .i64 _, .int .i64 _, .int .i64 _, .int .i64 _] => outV True (.bool true)
  | _ => none

theorem loeOk : SpecSound Try.prog 6 loeS := by
  refine soundP (envOf sigDlOk) Try.func6 (c := body Try.f6) rfl (by kernel_rfl) rfl ?_
  intro args out hf hpre
  split at hf <;> try (cases hf; done)
  rename_i bk x n ta na ra wh
  cases hf
  refine ⟨Nat.le_of_ble_eq_true rfl, initI (args := [.sl t4 bk, .sl t4 x, .int .i64 n, .int .i64 ta, .int .i64 na, .int .i64 ra, .int .i64 wh]) rfl ?_⟩
  have hjl := jobsF_len x
  obtain ⟨hr, hrl⟩ := rulesF_ok n
  have hlots := jobsF_lots x
  obtain ⟨g1, g2, g3⟩ := bookAll_ok (someF (bk.take 20)) (by have := someF_len (bk.take 20); omega)
  repeat' (first
    | with_reducible refine pN ?_
    | with_reducible refine cN ?_
    | with_reducible refine bN ?_
    | with_reducible refine cE ?_
    | with_reducible refine cR ?_
    | with_reducible refine bR ?_
    | with_reducible refine lE ?_
    | with_reducible refine lR ?_
    | with_reducible refine jE ?_
    | with_reducible refine jR ?_
    | refine bE rfl ?_
    | refine bP rfl ?_
    | refine pC (by first | exact True.intro | omega | (intros; first | exact True.intro | omega) | (simp only [List.length_cons, List.length_nil, Int.toNat_natCast]; omega)) ?_
    | refine seqI rfl ?_
    | refine regI rfl ?_
    | refine scopeI rfl ?_
    | refine blockI rfl ?_
    | refine exitI rfl ?_
    | refine retI rfl ?_
    | refine skipI rfl ?_)
  generalize bookAll (someF (bk.take 20)) noCal = xss at *
  generalize jobsF x = l at *
  refine condI rfl (fun c0 => ?_) (fun c0 => ?_)
  · repeat' (first
      | with_reducible refine pN ?_
      | with_reducible refine cN ?_
      | with_reducible refine bN ?_
      | with_reducible refine cE ?_
      | with_reducible refine cR ?_
      | with_reducible refine bR ?_
      | with_reducible refine lE ?_
      | with_reducible refine lR ?_
      | with_reducible refine jE ?_
      | with_reducible refine jR ?_
      | refine bE rfl ?_
      | refine bP rfl ?_
      | refine pC (by first | exact True.intro | omega | (intros; first | exact True.intro | omega) | (simp only [List.length_cons, List.length_nil, Int.toNat_natCast]; omega)) ?_
      | refine seqI rfl ?_
      | refine regI rfl ?_
      | refine scopeI rfl ?_
      | refine blockI rfl ?_
      | refine exitI rfl ?_
      | refine retI rfl ?_
      | refine skipI rfl ?_)
    refine endR rfl ?_
    repeat' (first | exact trivial | exact rfl | refine ⟨rfl, ?_⟩ | refine And.intro ?_ ?_)
  simp only [decide_eq_false_iff_not] at c0
  have hk := pick_b (c := wh) (n := (l.length : Int)) (by omega)
  repeat' (first
    | with_reducible refine pN ?_
    | with_reducible refine cN ?_
    | with_reducible refine bN ?_
    | with_reducible refine cE ?_
    | with_reducible refine cR ?_
    | with_reducible refine bR ?_
    | with_reducible refine lE ?_
    | with_reducible refine lR ?_
    | with_reducible refine jE ?_
    | with_reducible refine jR ?_
    | refine bE rfl ?_
    | refine bP rfl ?_
    | refine pC (by first | exact True.intro | omega | (intros; first | exact True.intro | omega) | (simp only [List.length_cons, List.length_nil, Int.toNat_natCast]; omega) | first | exact ⟨g2, by omega, by omega⟩ | (show (0 : Int) < l.length; omega)) ?_
    | refine seqI rfl ?_
    | refine regI rfl ?_
    | refine scopeI rfl ?_
    | refine blockI rfl ?_
    | refine exitI rfl ?_
    | refine retI rfl ?_
    | refine skipI rfl ?_)
  refine freezeI (key 36 0) rfl ?_
  obtain ⟨k, hkk⟩ : ∃ k : Nat, pickF wh (l.length : Int) = k := ⟨(pickF wh (l.length : Int)).toNat, by omega⟩
  rw [hkk] at hk ⊢
  have hkl : k < l.length := by omega
  have hlen : ∀ a b c d : Nat, ((l.take a).drop b).length + ((l.take c).drop d).length ≤ 24 := fun a b c d => by
    simp only [List.length_drop, List.length_take]
    omega
  generalize pickF ra 4 = rc at *
  generalize pickF ta 5 = tool at *
  generalize pickF na 200 = now at *
  generalize rulesF n = rs at *
  have htk : l.take l.length = l := List.take_of_length_le (Nat.le_refl _)
  have l1 : (l.take k ++ (l.take l.length).drop (k + 1)).length ≤ 19 := by simp; omega
  have l2 : ((l.take l.length).drop k ++ l.take k).length ≤ 19 := by simp; omega
  repeat' (first
    | with_reducible refine pN ?_
    | with_reducible refine cN ?_
    | with_reducible refine bN ?_
    | with_reducible refine cE ?_
    | with_reducible refine cR ?_
    | with_reducible refine bR ?_
    | with_reducible refine lE ?_
    | with_reducible refine lR ?_
    | with_reducible refine jE ?_
    | with_reducible refine jR ?_
    | refine bE rfl ?_
    | refine bP rfl ?_
    | refine pC (by first | exact True.intro | omega | (intros; first | exact True.intro | omega) | (simp only [List.length_cons, List.length_nil, Int.toNat_natCast]; omega) | first | exact ⟨g2, by omega, by omega⟩ | exact ⟨g2, by omega, l1⟩ | exact ⟨g2, by omega, l2⟩ | (refine Nat.le_trans (Nat.mul_le_mul_right 56 (?_ : _ ≤ 24)) (by omega); simp only [List.length_append, List.length_nil, List.length_drop, List.length_take]; omega)) ?_
    | refine seqI rfl ?_
    | refine regI rfl ?_
    | refine scopeI rfl ?_
    | refine blockI rfl ?_
    | refine exitI rfl ?_
    | refine retI rfl ?_
    | refine skipI rfl ?_)
  have hsp : l.take k ++ getI l jDf k :: l.drop (k + 1) = l := by
    rw [getI_elem hkl, ← List.drop_eq_getElem_cons hkl, List.take_append_drop]
  have hR : Lots (l.take k ++ l.drop (k + 1)) ∧ ∀ a ∈ l.take k ++ l.drop (k + 1), jLot a ≠ jLot (getI l jDf k) := by
    have h := hlots
    unfold Lots at h ⊢
    rw [← hsp, List.pairwise_append, List.pairwise_cons] at h
    refine ⟨List.pairwise_append.2 ⟨h.1, h.2.1.2, fun a ha b hb => h.2.2 a ha b (List.mem_cons_of_mem _ hb)⟩, fun a ha => ?_⟩
    rcases List.mem_append.1 ha with ha | ha
    · exact h.2.2 a ha _ (by simp)
    · exact fun e => h.2.1.1 a ha e.symm
  have hperm : (l.drop k ++ l.take k).Perm l := List.perm_append_comm.trans (by rw [List.take_append_drop])
  have hT : Lots (l.drop k ++ l.take k) := (hperm.symm.pairwise_iff (fun h => Ne.symm h)).1 hlots
  have eT : pickJ xss tool now rs rc ((l.take l.length).drop k ++ l.take k) = pickJ xss tool now rs rc l := by
    rw [htk]
    exact pick_same hr hlots hT (fun a ha => hperm.mem_iff.1 ha) fun h => hperm.mem_iff.2 (pick_spec hr hlots h).1
  have eR : ((pickJ xss tool now rs rc l).2 = true → jLot (getI l jDf k) ≠ jLot (pickJ xss tool now rs rc l).1) → pickJ xss tool now rs rc (l.take k ++ (l.take l.length).drop (k + 1)) = pickJ xss tool now rs rc l := fun h => by
    rw [htk]
    refine pick_same hr hlots hR.1 (fun a ha => ?_) fun h' => ?_
    · rw [← hsp]
      rcases List.mem_append.1 ha with ha | ha
      · exact List.mem_append_left _ ha
      · exact List.mem_append_right _ (List.mem_cons_of_mem _ ha)
    · have hm := h h'
      have hq := (pick_spec hr hlots h').1
      clear h h'
      generalize (pickJ xss tool now rs rc l).1 = q at *
      rw [← hsp] at hq
      rcases List.mem_append.1 hq with hm' | hm'
      · exact List.mem_append_left _ hm'
      · rcases List.mem_cons.1 hm' with e | hm'
        · exact absurd (congrArg jLot e).symm hm
        · exact List.mem_append_right _ hm'
  have nR : (pickJ xss tool now rs rc (l.take k ++ (l.take l.length).drop (k + 1))).2 = true → jLot (pickJ xss tool now rs rc (l.take k ++ (l.take l.length).drop (k + 1))).1 ≠ jLot (getI l jDf k) := fun h => by
    rw [htk] at h ⊢
    exact hR.2 _ (pick_spec hr hR.1 h).1
  refine condI rfl (fun c2 => ?_) (fun c2 => ?_)
  · exfalso
    have c2' : ((!((pickJ xss tool now rs rc ((l.take l.length).drop k ++ l.take k)).2 == (pickJ xss tool now rs rc l).2)) || !eqJ (pickJ xss tool now rs rc ((l.take l.length).drop k ++ l.take k)).1 (pickJ xss tool now rs rc l).1) = true := c2
    rw [eT, eqJ_iff.2 rfl, beq_self_eq_true] at c2'
    cases c2'
  repeat' (first
    | with_reducible refine pN ?_
    | with_reducible refine cN ?_
    | with_reducible refine bN ?_
    | with_reducible refine cE ?_
    | with_reducible refine cR ?_
    | with_reducible refine bR ?_
    | with_reducible refine lE ?_
    | with_reducible refine lR ?_
    | with_reducible refine jE ?_
    | with_reducible refine jR ?_
    | refine bE rfl ?_
    | refine bP rfl ?_
    | refine pC (by first | exact True.intro | omega | (intros; first | exact True.intro | omega) | (simp only [List.length_cons, List.length_nil, Int.toNat_natCast]; omega)) ?_
    | refine seqI rfl ?_
    | refine regI rfl ?_
    | refine scopeI rfl ?_
    | refine blockI rfl ?_
    | refine exitI rfl ?_
    | refine retI rfl ?_
    | refine skipI rfl ?_)
  refine condI rfl (fun c3 => ?_) (fun c3 => ?_)
  · have c3' : ((pickJ xss tool now rs rc l).2 && decide (jLot (getI l jDf k) = jLot (pickJ xss tool now rs rc l).1)) = true := c3
    simp only [Bool.and_eq_true, decide_eq_true_eq] at c3'
    repeat' (first
      | with_reducible refine pN ?_
      | with_reducible refine cN ?_
      | with_reducible refine bN ?_
      | with_reducible refine cE ?_
      | with_reducible refine cR ?_
      | with_reducible refine bR ?_
      | with_reducible refine lE ?_
      | with_reducible refine lR ?_
      | with_reducible refine jE ?_
      | with_reducible refine jR ?_
      | refine bE rfl ?_
      | refine bP rfl ?_
      | refine pC (by first | exact True.intro | omega | (intros; first | exact True.intro | omega) | (simp only [List.length_cons, List.length_nil, Int.toNat_natCast]; omega)) ?_
      | refine seqI rfl ?_
      | refine regI rfl ?_
      | refine scopeI rfl ?_
      | refine blockI rfl ?_
      | refine exitI rfl ?_
      | refine retI rfl ?_
      | refine skipI rfl ?_)
    refine endR rfl ?_
    repeat' (first | exact trivial | exact rfl | refine ⟨rfl, ?_⟩ | refine And.intro ?_ ?_)
    show true = (true && (!(pickJ xss tool now rs rc (l.take k ++ (l.take l.length).drop (k + 1))).2 || decide (jLot (pickJ xss tool now rs rc (l.take k ++ (l.take l.length).drop (k + 1))).1 ≠ jLot (pickJ xss tool now rs rc l).1)))
    cases hone : (pickJ xss tool now rs rc (l.take k ++ (l.take l.length).drop (k + 1))).2 with
    | false => rfl
    | true =>
      rw [← c3'.2, decide_eq_true (nR hone)]
      rfl
  · have c3' : ((pickJ xss tool now rs rc l).2 && decide (jLot (getI l jDf k) = jLot (pickJ xss tool now rs rc l).1)) = false := c3
    have e := eR fun h e => by
      rw [h, decide_eq_true e] at c3'
      cases c3'
    repeat' (first
      | with_reducible refine pN ?_
      | with_reducible refine cN ?_
      | with_reducible refine bN ?_
      | with_reducible refine cE ?_
      | with_reducible refine cR ?_
      | with_reducible refine bR ?_
      | with_reducible refine lE ?_
      | with_reducible refine lR ?_
      | with_reducible refine jE ?_
      | with_reducible refine jR ?_
      | refine bE rfl ?_
      | refine bP rfl ?_
      | refine pC (by first | exact True.intro | omega | (intros; first | exact True.intro | omega) | (simp only [List.length_cons, List.length_nil, Int.toNat_natCast]; omega)) ?_
      | refine seqI rfl ?_
      | refine regI rfl ?_
      | refine scopeI rfl ?_
      | refine blockI rfl ?_
      | refine exitI rfl ?_
      | refine retI rfl ?_
      | refine skipI rfl ?_)
    refine endR rfl ?_
    repeat' (first | exact trivial | exact rfl | refine ⟨rfl, ?_⟩ | refine And.intro ?_ ?_)
    show true = ((true && ((pickJ xss tool now rs rc (l.take k ++ (l.take l.length).drop (k + 1))).2 == (pickJ xss tool now rs rc l).2)) && eqJ (pickJ xss tool now rs rc (l.take k ++ (l.take l.length).drop (k + 1))).1 (pickJ xss tool now rs rc l).1)
    rw [e, eqJ_iff.2 rfl, beq_self_eq_true]
    rfl
end Go.AM.Ytkacoophnfljcaa
