/- Jobs in order: the plain law. -/
import Derived.Test.YtkacoophnfljcaaDiD
import Derived.Test.YtkacoophnfljcaaCaU
import Derived.Test.YtkacoophnfljcaaCaLFi
set_option linter.all false
namespace Go.AM.Ytkacoophnfljcaa
open Go.Proofs

/-! ### What a rule looks at: less comes first -/

def ruleV (rc r : Int) (j : JobT) : Int :=
  if r = 1 then (if jHot j = true then 0 else 1) else if r = 2 then jDue j else if r = 3 then (if jRec j = rc then 0 else 1) else if r = 4 then jArr j else if r = 5 then jLen j else - jCnt j

theorem cmpI_spec (a b : Int) : (cmpI a b < 0 ↔ a < b) ∧ (cmpI a b = 0 ↔ a = b) := by
  unfold cmpI
  split
  · constructor <;> constructor <;> intro <;> omega
  · split
    · constructor <;> constructor <;> intro <;> omega
    · constructor <;> constructor <;> intro <;> omega

theorem holdC_spec (p : JobT → Bool) (x y : JobT) : (holdC p x y < 0 ↔ (if p x = true then (0 : Int) else 1) < (if p y = true then 0 else 1)) ∧ (holdC p x y = 0 ↔ (if p x = true then (0 : Int) else 1) = (if p y = true then 0 else 1)) := by
  unfold holdC
  cases p x <;> cases p y <;> simp

theorem rule_spec {rc r : Int} (h : ruleOk r) (x y : JobT) : (ruleC rc r x y < 0 ↔ ruleV rc r x < ruleV rc r y) ∧ (ruleC rc r x y = 0 ↔ ruleV rc r x = ruleV rc r y) := by
  unfold ruleOk at h
  obtain rfl | rfl | rfl | rfl | rfl | rfl : r = 1 ∨ r = 2 ∨ r = 3 ∨ r = 4 ∨ r = 5 ∨ r = 6 := by omega
  · exact holdC_spec jHot x y
  · exact cmpI_spec (jDue x) (jDue y)
  · have := holdC_spec (fun j => decide (jRec j = rc)) x y
    simp only [decide_eq_true_eq] at this
    exact this
  · exact cmpI_spec (jArr x) (jArr y)
  · exact cmpI_spec (jLen x) (jLen y)
  · have := cmpI_spec (jCnt y) (jCnt x)
    show (cmpI (jCnt y) (jCnt x) < 0 ↔ - jCnt x < - jCnt y) ∧ (cmpI (jCnt y) (jCnt x) = 0 ↔ - jCnt x = - jCnt y)
    omega

/-- One job comes ahead of another. -/
def aheadV (rc : Int) (x y : JobT) : List Int → Prop
  | [] => jLot x < jLot y
  | r :: rs => ruleV rc r x < ruleV rc r y ∨ (ruleV rc r x = ruleV rc r y ∧ aheadV rc x y rs)

theorem ordC_neg {rc : Int} {x y : JobT} : ∀ {rs : List Int}, (∀ r ∈ rs, ruleOk r) → (ordC rs rc x y < 0 ↔ aheadV rc x y rs)
  | [], _ => by
    show (if riseC jLot x y ≠ 0 then riseC jLot x y else 0) < 0 ↔ jLot x < jLot y
    have := cmpI_spec (jLot x) (jLot y)
    unfold riseC
    split
    · exact this.1
    · rename_i h
      have h : cmpI (jLot x) (jLot y) = 0 := Decidable.not_not.1 h
      have := this.2.1 h
      omega
  | r :: rs, h => by
    have ih := ordC_neg (rc := rc) (x := x) (y := y) (rs := rs) fun r hr => h r (List.mem_cons_of_mem _ hr)
    have hs := rule_spec (rc := rc) (h r (by simp)) x y
    show (if ruleC rc r x y ≠ 0 then ruleC rc r x y else ordC rs rc x y) < 0 ↔ _
    unfold aheadV
    split
    · rename_i h0
      constructor
      · exact fun h => .inl (hs.1.1 h)
      · rintro (h | ⟨h, _⟩)
        · exact hs.1.2 h
        · exact absurd (hs.2.2 h) h0
    · rename_i h0
      have h0 := Decidable.not_not.1 h0
      have e := hs.2.1 h0
      constructor
      · exact fun h => .inr ⟨e, ih.1 h⟩
      · rintro (h | ⟨_, h⟩)
        · omega
        · exact ih.2 h

theorem aheadV_trans {rc : Int} {x y z : JobT} : ∀ {rs : List Int}, aheadV rc x y rs → aheadV rc y z rs → aheadV rc x z rs
  | [], h, k => Int.lt_trans h k
  | r :: rs, h, k => by
    unfold aheadV at *
    rcases h with h | ⟨h, h'⟩ <;> rcases k with k | ⟨k, k'⟩
    · exact .inl (by omega)
    · exact .inl (by omega)
    · exact .inl (by omega)
    · exact .inr ⟨by omega, aheadV_trans h' k'⟩
theorem aheadV_irr {rc : Int} {x : JobT} : ∀ {rs : List Int}, ¬ aheadV rc x x rs
  | [], h => Int.lt_irrefl _ h
  | r :: rs, h => by
    unfold aheadV at h
    rcases h with h | ⟨_, h⟩
    · omega
    · exact aheadV_irr h
theorem aheadV_asymm {rc : Int} {x y : JobT} {rs : List Int} (h : aheadV rc x y rs) : ¬ aheadV rc y x rs := fun k => aheadV_irr (aheadV_trans h k)
theorem aheadV_total {rc : Int} {x y : JobT} (hl : jLot x ≠ jLot y) : ∀ {rs : List Int}, ¬ aheadV rc x y rs → aheadV rc y x rs
  | [], h => by
    unfold aheadV at *
    omega
  | r :: rs, h => by
    unfold aheadV at *
    by_cases e : ruleV rc r x = ruleV rc r y
    · exact .inr ⟨e.symm, aheadV_total hl fun k => h (.inr ⟨e, k⟩)⟩
    · exact .inl (by
        have : ¬ ruleV rc r x < ruleV rc r y := fun k => h (.inl k)
        omega)

/-! ### Sorted lists -/

/-- No lot twice. -/
def Lots (l : List JobT) : Prop := l.Pairwise fun a b => jLot a ≠ jLot b
def Srt (rs : List Int) (rc : Int) (l : List JobT) : Prop := l.Pairwise fun a b => aheadV rc a b rs

theorem posI_spec {c : JobT → JobT → Int} {x : JobT} {S : List JobT} : ∀ {k : Nat}, (∀ i, posI c x S k ≤ i → i < k → c x (getI S jDf i) < 0) ∧ (posI c x S k = 0 ∨ ¬ c x (getI S jDf (posI c x S k - 1)) < 0)
  | 0 => ⟨fun i _ h => by omega, .inl rfl⟩
  | k + 1 => by
    obtain ⟨h1, h2⟩ := posI_spec (c := c) (x := x) (S := S) (k := k)
    unfold posI
    split
    · rename_i h
      refine ⟨fun i hi hk => ?_, h2⟩
      by_cases e : i = k
      · subst e; exact h
      · exact h1 i hi (by omega)
    · rename_i h
      exact ⟨fun i hi hk => by omega, .inr h⟩

theorem getI_elem {S : List JobT} {i : Nat} (h : i < S.length) : getI S jDf i = S[i] := by simp [getI, List.getD, List.getElem?_eq_getElem h]

theorem insI_perm {c : JobT → JobT → Int} {x : JobT} {S : List JobT} : (insI c x S).Perm (x :: S) := by
  unfold insI
  have : (S.take (posI c x S S.length) ++ x :: S.drop (posI c x S S.length)).Perm (x :: (S.take (posI c x S S.length) ++ S.drop (posI c x S S.length))) := List.perm_middle
  rwa [List.take_append_drop] at this

theorem insI_srt {rs : List Int} {rc : Int} (hr : ∀ r ∈ rs, ruleOk r) {x : JobT} {S : List JobT} (hS : Srt rs rc S) (hx : ∀ b ∈ S, jLot x ≠ jLot b) : Srt rs rc (insI (ordC rs rc) x S) := by
  obtain ⟨h1, h2⟩ := posI_spec (c := ordC rs rc) (x := x) (S := S) (k := S.length)
  have hle := posI_le (c := ordC rs rc) (x := x) (S := S) (k := S.length)
  unfold insI Srt
  generalize posI (ordC rs rc) x S S.length = j at *
  have hsp : S.take j ++ S.drop j = S := List.take_append_drop j S
  have hS' := hS
  unfold Srt at hS'
  rw [← hsp, List.pairwise_append] at hS'
  have hafter : ∀ b ∈ S.drop j, aheadV rc x b rs := fun b hb => by
    obtain ⟨i, hi, rfl⟩ := List.getElem_of_mem hb
    rw [List.length_drop] at hi
    rw [List.getElem_drop]
    have := h1 (j + i) (by omega) (by omega)
    rw [getI_elem (by omega)] at this
    exact (ordC_neg hr).1 this
  have hbefore : ∀ a ∈ S.take j, aheadV rc a x rs := fun a ha => by
    obtain ⟨i, hi, rfl⟩ := List.getElem_of_mem ha
    rw [List.length_take] at hi
    rw [List.getElem_take]
    have h2' := h2.resolve_left (by omega)
    have hlt : j - 1 < S.length := by omega
    rw [getI_elem hlt] at h2'
    have h3 : aheadV rc S[j - 1] x rs := aheadV_total (hx _ (List.getElem_mem _)) fun k => h2' ((ordC_neg hr).2 k)
    by_cases e : i = j - 1
    · subst e; exact h3
    · exact aheadV_trans (List.pairwise_iff_getElem.1 hS i (j - 1) (by omega) hlt (by omega)) h3
  rw [List.pairwise_append]
  refine ⟨hS'.1, List.pairwise_cons.2 ⟨hafter, hS'.2.1⟩, fun a ha b hb => ?_⟩
  rcases List.mem_cons.1 hb with rfl | hb
  · exact hbefore a ha
  · exact hS'.2.2 a ha b hb

theorem sort_spec {rs : List Int} {rc : Int} (hr : ∀ r ∈ rs, ruleOk r) : ∀ {l S : List JobT}, Srt rs rc S → Lots (S ++ l) → Srt rs rc (l.foldl (fun S x => insI (ordC rs rc) x S) S) ∧ (l.foldl (fun S x => insI (ordC rs rc) x S) S).Perm (S ++ l)
  | [], S, hS, _ => ⟨hS, by simp⟩
  | x :: l, S, hS, hL => by
    have hp := insI_perm (c := ordC rs rc) (x := x) (S := S)
    have hL' := hL
    unfold Lots at hL'
    rw [List.pairwise_append] at hL'
    have hx : ∀ b ∈ S, jLot x ≠ jLot b := fun b hb => Ne.symm (hL'.2.2 b hb x (by simp))
    have hq : (insI (ordC rs rc) x S ++ l).Perm (S ++ x :: l) := (hp.append_right l).trans List.perm_middle.symm
    obtain ⟨h1, h2⟩ := sort_spec hr (l := l) (insI_srt hr hS hx) ((hq.symm.pairwise_iff (fun h => Ne.symm h)).1 hL)
    exact ⟨h1, h2.trans hq⟩

theorem order_spec {rs : List Int} {rc : Int} (h : RulesOk rs) {l : List JobT} (hl : Lots l) : Srt rs rc (orderF rs rc l) ∧ (orderF rs rc l).Perm l := by
  unfold orderF rulesB
  rw [if_pos (decide_eq_true h)]
  have := sort_spec h.1 (rc := rc) (l := l) (S := []) List.Pairwise.nil (by simpa using hl)
  simpa [sortF] using this

/-- Sorted lists of the same jobs are one list. -/
theorem srt_uniq {rs : List Int} {rc : Int} {a b : List JobT} (ha : Srt rs rc a) (hb : Srt rs rc b) (h : a.Perm b) : a = b :=
  List.Perm.eq_of_pairwise (le := fun x y => aheadV rc x y rs) (fun x y _ _ h k => absurd k (aheadV_asymm h)) ha hb h

/-! ### What fits -/

theorem fit_iff {xss : List (List Bk.El)} (g : CalG xss) {tool now rc : Int} {j : JobT} (h0 : 0 ≤ tool) (h1 : tool < 60) (hn : 0 ≤ now) (hj : 1 ≤ jLen j ∧ jLen j ≤ 10000) (he : now + lengthF rc j ≤ 1000000) :
    fitB xss tool now rc j = !busyF xss tool now (now + lengthF rc j) := by
  have hl : 1 ≤ lengthF rc j := by unfold lengthF lengthI; split <;> omega
  have hbusy : busyF xss tool now (now + lengthF rc j) = true ↔ ∃ c ∈ toolL xss tool, stB c < now + lengthF rc j ∧ now < enB c := by
    rw [busy_iff]
    exact ⟨fun h => h.2.2.2, fun h => ⟨h0, h1, by omega, h⟩⟩
  have hfirst := first_eq (xss := xss) (n := lengthF rc j) h0 h1 hn hl
  have hfit : fitB xss tool now rc j = ((firstF xss tool now (lengthF rc j)).2 && decide ((firstF xss tool now (lengthF rc j)).1 = now)) := by
    unfold fitB fitI lengthF
    rw [if_pos hj]
  rw [hfit, hfirst]
  obtain ⟨r, hr⟩ : ∃ r, r = firstG (gapsL (toolL xss tool) now) (lengthF rc j) := ⟨_, rfl⟩
  rw [← hr]
  obtain ⟨a, ok⟩ := r
  cases ok
  · have := first_none (g.tool h0 h1) hn hl hr.symm now (Int.le_refl _) he
    rw [hbusy.2 this]
    rfl
  · obtain ⟨f1, f2, f3, f4⟩ := first_yes (g.tool h0 h1) hn hl hr.symm
    by_cases e : a = now
    · subst e
      have : busyF xss tool a (a + lengthF rc j) = false := by
        cases hb : busyF xss tool a (a + lengthF rc j) with
        | false => rfl
        | true =>
          obtain ⟨c, hc, hm⟩ := hbusy.1 hb
          exact absurd hm (f3 c hc)
      rw [this]
      simp
    · have := f4 now (Int.le_refl _) (by omega)
      rw [hbusy.2 this]
      simp [e]

/-! ### What is picked -/

theorem pick_yes {xss : List (List Bk.El)} {tool now rc : Int} {rs : List Int} {l : List JobT} (h : (pickJ xss tool now rs rc l).2 = true) :
    ∃ i, i < (orderF rs rc l).length ∧ (pickJ xss tool now rs rc l).1 = getI (orderF rs rc l) jDf i ∧ fitB xss tool now rc (getI (orderF rs rc l) jDf i) = true ∧ ∀ k, k < i → fitB xss tool now rc (getI (orderF rs rc l) jDf k) = false := by
  unfold pickJ at h ⊢
  split at h
  · cases h
  · rename_i h0
    rw [if_neg h0]
    obtain ⟨h1, h2, h3⟩ := idxF_ge (d := jDf) h0
    exact ⟨_, h1, rfl, h2, fun k hk => h3 k (by omega)⟩

theorem pick_none {xss : List (List Bk.El)} {tool now rc : Int} {rs : List Int} {l : List JobT} (h : (pickJ xss tool now rs rc l).2 = false) :
    (pickJ xss tool now rs rc l).1 = jDf ∧ ∀ k, k < (orderF rs rc l).length → fitB xss tool now rc (getI (orderF rs rc l) jDf k) = false := by
  unfold pickJ at h ⊢
  split at h
  · rename_i h0
    rw [if_pos h0]
    exact ⟨rfl, idxF_no (d := jDf) h0⟩
  · cases h

/-- The job that is picked is a job that fits; no job ahead of it fits. -/
theorem pick_spec {xss : List (List Bk.El)} {tool now rc : Int} {rs : List Int} (hr : RulesOk rs) {l : List JobT} (hl : Lots l) (h : (pickJ xss tool now rs rc l).2 = true) :
    (pickJ xss tool now rs rc l).1 ∈ l ∧ fitB xss tool now rc (pickJ xss tool now rs rc l).1 = true ∧ ∀ j ∈ l, aheadV rc j (pickJ xss tool now rs rc l).1 rs → fitB xss tool now rc j = false := by
  obtain ⟨i, h1, h2, h3, h4⟩ := pick_yes h
  obtain ⟨hs, hp⟩ := order_spec (rc := rc) hr hl
  rw [h2]
  have hm : getI (orderF rs rc l) jDf i ∈ orderF rs rc l := by rw [getI_elem h1]; exact List.getElem_mem _
  refine ⟨hp.mem_iff.1 hm, h3, fun j hj ha => ?_⟩
  obtain ⟨k, hk, rfl⟩ := List.getElem_of_mem (hp.mem_iff.2 hj)
  rw [← getI_elem hk]
  refine h4 k ?_
  rcases Nat.lt_trichotomy k i with h5 | h5 | h5
  · exact h5
  · subst h5
    rw [getI_elem hk] at ha
    exact absurd ha aheadV_irr
  · have := List.pairwise_iff_getElem.1 hs i k h1 hk h5
    rw [getI_elem h1] at ha
    exact absurd ha (aheadV_asymm this)

theorem pick_no {xss : List (List Bk.El)} {tool now rc : Int} {rs : List Int} (hr : RulesOk rs) {l : List JobT} (hl : Lots l) (h : (pickJ xss tool now rs rc l).2 = false) : ∀ j ∈ l, fitB xss tool now rc j = false := fun j hj => by
  obtain ⟨_, h2⟩ := pick_none h
  obtain ⟨_, hp⟩ := order_spec (rc := rc) hr hl
  obtain ⟨k, hk, rfl⟩ := List.getElem_of_mem (hp.mem_iff.2 hj)
  rw [← getI_elem hk]
  exact h2 k hk
end Go.AM.Ytkacoophnfljcaa
