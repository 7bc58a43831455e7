/- The law CalendarFreed: her function. -/
import Derived.Test.YtkacoophnfljcaaCaLOr
set_option linter.all false
namespace Go.AM.Ytkacoophnfljcaa
open Go.Proofs
set_option maxRecDepth 100000
set_option maxHeartbeats 8000000

def own77 (b : Bk.El) : Bk.El := (b.1, b.2.1, b.2.2.1, 77)

theorem some_owner {x : List t4.El} {b : Bk.El} (h : b ∈ someF x) : owB b ≤ 6 := by
  unfold someF at h
  obtain ⟨e, _, rfl⟩ := List.mem_map.1 h
  have := (pick_b (c := e.2.2.2) (n := 6) (by omega)).2
  show 1 + pickF e.2.2.2 6 ≤ 6
  omega

/-- What others have booked stays as it is. -/
theorem others {l : List Bk.El} (hl : ∀ b ∈ l, owB b = 77) {c : Bk.El} (h0 : 0 ≤ tlB c) (hc : owB c ≠ 77) : ∀ {xss : List (List Bk.El)}, CalG xss → (inC (bookAll l xss) c ↔ inC xss c) := by
  induction l with
  | nil => intro xss _; exact Iff.rfl
  | cons b l ih =>
    intro xss g
    have h1 := ih (fun b hb => hl b (List.mem_cons_of_mem _ hb)) (book_good g b).1
    have h2 : inC (bookAll (b :: l) xss) c ↔ inC (bookF xss b) c := h1
    rw [h2]
    cases hf : freeF xss b
    · rw [book_no hf]
    · rw [(book_yes g hf).2.1 c h0]
      constructor
      · rintro (rfl | h)
        · exact absurd (hl _ (by simp)) hc
        · exact h
      · exact .inr

theorem more {l : List Bk.El} {c : Bk.El} (h0 : 0 ≤ tlB c) : ∀ {xss : List (List Bk.El)}, CalG xss → inC xss c → inC (bookAll l xss) c := by
  induction l with
  | nil => intro xss _ h; exact h
  | cons b l ih =>
    intro xss g h
    refine ih (book_good g b).1 ?_
    cases hf : freeF xss b
    · rw [book_no hf]; exact h
    · exact ((book_yes g hf).2.1 c h0).2 (.inr h)

theorem freed_flat (xss : List (List Bk.El)) (o : Int) : (freedF xss o).flatten = xss.flatten.filter fun b => !ownsB o b := by
  unfold freedF delF
  rw [List.filter_flatten]

theorem freed_in {xss : List (List Bk.El)} (h : xss.length = 60) {o : Int} {c : Bk.El} (h0 : 0 ≤ tlB c) (h1 : tlB c < 60) : inC (freedF xss o) c ↔ inC xss c ∧ owB c ≠ o := by
  unfold inC toolL
  have e : getI (freedF xss o) [] (tlB c).toNat = delF (getI xss [] (tlB c).toNat) o := by
    unfold freedF getI
    rw [List.getD_eq_getElem?_getD, List.getD_eq_getElem?_getD, List.getElem?_map, List.getElem?_eq_getElem (by omega)]
    rfl
  rw [e]
  unfold delF
  rw [List.mem_filter]
  unfold ownsB
  simp [owB]

theorem filter_two (l : List Bk.El) (p : Bk.El → Bool) : (l.filter p).length + (l.filter fun b => !p b).length = l.length := by
  induction l with
  | nil => rfl
  | cons b l ih =>
    cases hp : p b
    · simp only [List.filter_cons, hp, List.length_cons, Bool.not_false, if_true]
      simp
      omega
    · simp only [List.filter_cons, hp, List.length_cons, Bool.not_true, if_true]
      simp
      omega

theorem freed_len (xss : List (List Bk.El)) (o : Int) : lenF (freedF xss o) + (ownedF xss o).length = lenF xss := by
  have := filter_two xss.flatten (ownsB o)
  rw [← freed_flat] at this
  unfold ownedF
  rw [← flat_len, ← flat_len xss]
  omega

/-- Owned bookings: in order. -/
def Before (a b : Bk.El) : Prop := tlB a < tlB b ∨ (tlB a = tlB b ∧ enB a ≤ stB b)

theorem flat_order {xss : List (List Bk.El)} (g : CalG xss) : xss.flatten.Pairwise Before := by
  have hl := g.len
  have e : ∀ j (hj : j < xss.length), xss[j] = getI xss [] j := fun j hj => by simp [getI, List.getD, List.getElem?_eq_getElem hj]
  refine List.pairwise_flatten.2 ⟨fun l hl' => ?_, ?_⟩
  · obtain ⟨j, hj, rfl⟩ := List.getElem_of_mem hl'
    rw [e j hj]
    have hg := g.each j (by omega)
    refine List.pairwise_iff_getElem.2 fun p q hp hq hpq => ?_
    have h1 := List.pairwise_iff_getElem.1 hg.ord p q hp hq hpq
    have h2 := (hg.all _ (List.getElem_mem hp)).2
    have h3 := (hg.all _ (List.getElem_mem hq)).2
    exact .inr ⟨by omega, h1⟩
  · rw [List.pairwise_iff_getElem]
    intro i j hi hj hij a ha b hb
    rw [e i hi] at ha
    rw [e j hj] at hb
    have h1 := ((g.each i (by omega)).all a ha).2
    have h2 := ((g.each j (by omega)).all b hb).2
    exact .inl (by omega)

theorem flat_all {xss : List (List Bk.El)} (g : CalG xss) : Apart xss.flatten ∧ ∀ c, (c ∈ xss.flatten ↔ 0 ≤ tlB c ∧ tlB c < 60 ∧ inC xss c) := by
  have := flat_apart g 60 (by omega)
  rwa [List.take_of_length_le (by rw [g.len]; omega)] at this

/-- Two of a calendar's bookings do not meet. -/
theorem two_apart {xss : List (List Bk.El)} (g : CalG xss) {a b : Bk.El} (ha : inC xss a) (hb : inC xss b) (h0 : 0 ≤ tlB a) (h1 : tlB a < 60) (ht : tlB a = tlB b) (hne : a ≠ b) : ¬ meet a b := fun hm => by
  unfold inC at ha hb
  rw [← ht] at hb
  have hg := g.tool h0 h1
  obtain ⟨i, hi, hia⟩ := List.getElem_of_mem ha
  obtain ⟨j, hj, hjb⟩ := List.getElem_of_mem hb
  have m1 := hm.1
  have m2 := hm.2
  have hp := List.pairwise_iff_getElem.1 hg.ord
  rcases Nat.lt_trichotomy i j with h | h | h
  · have := hp i j hi hj h
    rw [hia, hjb] at this
    omega
  · subst h; exact hne (hia.symm.trans hjb)
  · have := hp j i hj hi h
    rw [hia, hjb] at this
    omega

/-- The owner's bookings made again: what holds on the way. -/
structure Again (x0 x1 xss : List (List Bk.El)) (m : List Bk.El) : Prop where
  mem : ∀ c, 0 ≤ tlB c → (inC xss c ↔ inC x0 c ∨ c ∈ m)
  good : CalG xss
  len : lenF xss = lenF x0 + m.length

theorem again_no {x0 x1 : List (List Bk.El)} (g : CalG x0) : Again x0 x1 x0 [] := ⟨fun c _ => by simp, g, by simp⟩

theorem Again.free {x0 x1 xss : List (List Bk.El)} {m : List Bk.El} (h : Again x0 x1 xss m) (g1 : CalG x1) (h01 : ∀ c, 0 ≤ tlB c → inC x0 c → inC x1 c) (hm : ∀ c ∈ m, inC x1 c) {b : Bk.El} (hb : inC x1 b) (h0 : 0 ≤ tlB b) (h1 : tlB b < 60)
    (hnew : ∀ c, inC x0 c ∨ c ∈ m → c ≠ b) : freeF xss b = true := by
  refine free_iff.2 ⟨g1.good hb h0 h1, fun c hc hcm => ?_⟩
  have ht := ((h.good.tool h0 h1).all c hc)
  have hte : tlB c = tlB b := by have := ht.2; have := ht.1.t0; omega
  have hcc : inC xss c := by unfold inC; rw [hte]; exact hc
  have hor := (h.mem c (by omega)).1 hcc
  have hc1 : inC x1 c := by
    rcases hor with h' | h'
    · exact h01 c (by omega) h'
    · exact hm c h'
  exact two_apart g1 hc1 hb (by omega) (by omega) hte (hnew c hor) hcm

theorem Again.yes {x0 x1 xss : List (List Bk.El)} {m : List Bk.El} (h : Again x0 x1 xss m) {b : Bk.El} (hf : freeF xss b = true) : Again x0 x1 (bookF xss b) (m ++ [b]) := by
  obtain ⟨h1, h2, h3⟩ := book_yes h.good hf
  refine ⟨fun c hc => ?_, h1, by rw [h3, h.len, List.length_append]; rfl⟩
  rw [h2 c hc, h.mem c hc, List.mem_append, List.mem_singleton]
  constructor
  · rintro (h | h | h)
    · exact .inr (.inr h)
    · exact .inl h
    · exact .inr (.inl h)
  · rintro (h | h | h)
    · exact .inr (.inl h)
    · exact .inr (.inr h)
    · exact .inl h

theorem err_free (xss : List (List Bk.El)) (b : Bk.El) : decide (errF xss b = 0) = freeF xss b := by
  unfold errF
  cases freeF xss b <;> decide

theorem err_free' (xss : List (List Bk.El)) (b : Bk.El) : decide (errF xss b ≠ 0) = !freeF xss b := by
  unfold errF
  cases freeF xss b <;> decide

theorem own_take {l : List Bk.El} {i : Nat} (h : i < l.length) (xss : List (List Bk.El)) : bookAll ((l.take (i + 1)).map own77) xss = bookF (bookAll ((l.take i).map own77) xss) (own77 (getI l Bk.dflt i)) := by
  rw [take_succ_getI (d := Bk.dflt) h, List.map_append, bookAll_append]; rfl

def badOrd (j t t' s s' : Int) : Bool := decide (0 < j) && (decide (t < t') || (decide (t = t') && decide (s ≤ s')))

def frS : Spec := plain fun
  | [.sl (.pair (.int .i64) (.pair (.int .i64) (.pair (.int .i64) (.int .i64)))) _, .sl (.pair (.int .i64) (.pair (.int .i64) (.pair (.int .i64) (.int .i64)))) _] => outV True (.bool true)
  | _ => none

end Go.AM.Ytkacoophnfljcaa
