/- What the laws' helpers mean. -/
import Derived.Test.YtkacoophnfljcaaDiS
set_option linter.all false
namespace Go.AM.Ytkacoophnfljcaa
open Go.Proofs

theorem rbF_spec {r rc : Int} (h : ruleOk r) (a b : JobT) : byF r rc a b = decide (ruleV rc r a < ruleV rc r b) := by
  unfold ruleOk at h
  unfold byF
  obtain rfl | rfl | rfl | rfl | rfl | rfl : r = 1 ∨ r = 2 ∨ r = 3 ∨ r = 4 ∨ r = 5 ∨ r = 6 := by omega
  · show (jHot a && !jHot b) = decide ((if jHot a = true then (0 : Int) else 1) < (if jHot b = true then 0 else 1))
    cases jHot a <;> cases jHot b <;> rfl
  · rfl
  · show (decide (jRec a = rc) && decide (jRec b ≠ rc)) = decide ((if jRec a = rc then (0 : Int) else 1) < (if jRec b = rc then 0 else 1))
    by_cases h1 : jRec a = rc <;> by_cases h2 : jRec b = rc <;> simp [h1, h2]
  · rfl
  · rfl
  · show decide (jCnt b < jCnt a) = decide (- jCnt a < - jCnt b)
    by_cases h1 : jCnt b < jCnt a
    · rw [decide_eq_true h1, decide_eq_true (by omega)]
    · rw [decide_eq_false h1, decide_eq_false (by omega)]

theorem aheadF_iff {rc : Int} {a b : JobT} : ∀ {rs : List Int}, (∀ r ∈ rs, ruleOk r) → (aheadF rc a b rs = true ↔ aheadV rc a b rs)
  | [], _ => by
    show decide (jLot a < jLot b) = true ↔ jLot a < jLot b
    exact decide_eq_true_iff
  | r :: rs, h => by
    have ih := aheadF_iff (rc := rc) (a := a) (b := b) (rs := rs) fun r hr => h r (List.mem_cons_of_mem _ hr)
    have h1 := rbF_spec (rc := rc) (h r (by simp)) a b
    have h2 := rbF_spec (rc := rc) (h r (by simp)) b a
    unfold aheadF aheadV
    rw [h1, h2]
    by_cases h3 : ruleV rc r a < ruleV rc r b
    · rw [decide_eq_true h3, decide_eq_false (by omega : ¬ ruleV rc r b < ruleV rc r a)]
      simp [h3]
    · rw [decide_eq_false h3]
      by_cases h4 : ruleV rc r b < ruleV rc r a
      · rw [decide_eq_true h4]
        simp [h3]
        intro h5
        omega
      · rw [decide_eq_false h4]
        have h5 : ruleV rc r a = ruleV rc r b := by omega
        simp [h3, h5]
        exact ih

theorem jobsF_lots (x : List t4.El) : Lots (jobsF x) := by
  unfold Lots jobsF jobsN
  rw [List.pairwise_map]
  refine List.pairwise_iff_getElem.2 fun i j hi hj hij => ?_
  rw [List.length_range] at hi hj
  rw [List.getElem_range, List.getElem_range]
  show (1 + (7 * (i : Int) + 3).tmod 13) ≠ 1 + (7 * (j : Int) + 3).tmod 13
  rw [Int.tmod_eq_emod_of_nonneg (by omega), Int.tmod_eq_emod_of_nonneg (by omega)]
  omega

theorem Lots.nodup {l : List JobT} (h : Lots l) : l.Nodup := List.Pairwise.imp (fun {a b} hab e => hab (by rw [e])) h

theorem jobsF_ok (x : List t4.El) : ∀ j ∈ jobsF x, 1 ≤ jLen j ∧ jLen j ≤ 60 ∧ 1 ≤ jLot j ∧ jLot j ≤ 13 ∧ 1 ≤ jRec j ∧ jRec j ≤ 3 := fun j hj => by
  unfold jobsF jobsN at hj
  obtain ⟨i, hi, rfl⟩ := List.mem_map.1 hj
  rw [List.mem_range] at hi
  have b1 := pick_b (c := (getI x t4.dflt i).2.2.1) (n := 60) (by omega)
  have b2 := pick_b (c := (getI x t4.dflt i).1) (n := 3) (by omega)
  have e : jLot (jobI i (getI x t4.dflt i)) = 1 + (7 * (i : Int) + 3) % 13 := by
    show 1 + (7 * (i : Int) + 3).tmod 13 = _
    rw [Int.tmod_eq_emod_of_nonneg (by omega)]
  refine ⟨?_, ?_, ?_, ?_, ?_, ?_⟩
  · show 1 ≤ 1 + pickF (getI x t4.dflt i).2.2.1 60
    omega
  · show 1 + pickF (getI x t4.dflt i).2.2.1 60 ≤ 60
    omega
  · rw [e]; omega
  · rw [e]; omega
  · show 1 ≤ 1 + pickF (getI x t4.dflt i).1 3
    omega
  · show 1 + pickF (getI x t4.dflt i).1 3 ≤ 3
    omega

theorem getJ_mem {l : List JobT} {i : Nat} (h : i < l.length) : getI l jDf i ∈ l := by rw [getI_elem h]; exact List.getElem_mem _

/-- Of sorted jobs the earlier one is ahead. -/
theorem Srt.ahead {rs : List Int} {rc : Int} {l : List JobT} (h : Srt rs rc l) {i k : Nat} (hk : k < i) (hi : i < l.length) : aheadV rc (getI l jDf k) (getI l jDf i) rs := by
  have := List.pairwise_iff_getElem.1 h k i (by omega) hi hk
  rwa [getI_elem hi, getI_elem (by omega)]

def fndJ (l : List JobT) (y : JobT) (k : Nat) : Nat := (l.take k).count y
theorem fndJ_succ {l : List JobT} {y : JobT} {k : Nat} (h : k < l.length) : fndJ l y (k + 1) = if y = getI l jDf k then fndJ l y k + 1 else fndJ l y k := by
  unfold fndJ
  rw [take_succ_getI (d := jDf) h, List.count_append, List.count_singleton]
  by_cases e : y = getI l jDf k
  · rw [if_pos e, if_pos (by simp [e])]
  · rw [if_neg e, if_neg (by simpa using fun h => e h.symm)]
    rfl
theorem fndJ_le (l : List JobT) (y : JobT) (k : Nat) : fndJ l y k ≤ l.length := by
  unfold fndJ
  exact Nat.le_trans List.count_le_length (by simp; omega)
theorem fndJ_one {l : List JobT} {y : JobT} (h : l.Nodup) (hy : y ∈ l) : fndJ l y l.length = 1 := by
  unfold fndJ
  rw [List.take_of_length_le (Nat.le_refl _)]
  rw [List.Nodup.count h, if_pos hy]

/-- Two jobs are one. -/
def eqJ (a b : JobT) : Bool := decide (a.1 = b.1) && (decide (a.2.1 = b.2.1) && (a.2.2.1 == b.2.2.1 && (decide (a.2.2.2.1 = b.2.2.2.1) && (decide (a.2.2.2.2.1 = b.2.2.2.2.1) && (decide (a.2.2.2.2.2.1 = b.2.2.2.2.2.1) && decide (a.2.2.2.2.2.2 = b.2.2.2.2.2.2))))))
theorem eqJ_iff {a b : JobT} : eqJ a b = true ↔ a = b := by
  obtain ⟨a1, a2, a3, a4, a5, a6, a7⟩ := a
  obtain ⟨b1, b2, b3, b4, b5, b6, b7⟩ := b
  simp [eqJ]

theorem length_b (rc : Int) (j : JobT) : jLen j ≤ lengthF rc j ∧ lengthF rc j ≤ jLen j + 20 := by
  unfold lengthF lengthI
  split <;> omega

theorem lots_eq {l : List JobT} (h : Lots l) {a b : JobT} (ha : a ∈ l) (hb : b ∈ l) (e : jLot a = jLot b) : a = b := by
  obtain ⟨i, hi, rfl⟩ := List.getElem_of_mem ha
  obtain ⟨k, hk, rfl⟩ := List.getElem_of_mem hb
  rcases Nat.lt_trichotomy i k with h1 | h1 | h1
  · exact absurd e (List.pairwise_iff_getElem.1 h i k hi hk h1)
  · subst h1; rfl
  · exact absurd e.symm (List.pairwise_iff_getElem.1 h k i hk hi h1)

/-- What fits can be booked at once. -/
theorem fit_free {xss : List (List Bk.El)} (g : CalG xss) {tool now rc o : Int} {j : JobT} (h0 : 0 ≤ tool) (h1 : tool < 60) (hn : 0 ≤ now) (hj : 1 ≤ jLen j ∧ jLen j ≤ 10000) (he : now + lengthF rc j ≤ 1000000)
    (ho : 1 ≤ o ∧ o ≤ 1000000) (h : fitB xss tool now rc j = true) : freeF xss ((tool, now, now + lengthF rc j, o) : Bk.El) = true := by
  rw [fit_iff g h0 h1 hn hj he] at h
  have hb := length_b rc j
  refine free_iff.2 ⟨⟨h0, h1, hn, by show now < now + lengthF rc j; omega, he, ho.1, ho.2⟩, fun c hc hm => ?_⟩
  have : busyF xss tool now (now + lengthF rc j) = true := busy_iff.2 ⟨h0, h1, by omega, c, hc, hm⟩
  rw [this] at h
  cases h
end Go.AM.Ytkacoophnfljcaa
