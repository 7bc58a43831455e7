/- The reference's list and the calendar's lists: one and the same. -/
import Derived.Test.YtkacoophnfljcaaCaRefA
import Derived.Test.YtkacoophnfljcaaCaLFr
set_option linter.all false
namespace Go.AM.Ytkacoophnfljcaa
open Go.Proofs

theorem ord_uniq : ∀ {l m : List Bk.El}, (∀ c ∈ l, GoodB c) → (∀ c ∈ m, GoodB c) → l.Pairwise Before → m.Pairwise Before → (∀ c, c ∈ l ↔ c ∈ m) → l = m
  | [], [], _, _, _, _, _ => rfl
  | [], b :: m, _, _, _, _, h => absurd ((h b).2 (by simp)) (by simp)
  | a :: l, [], _, _, _, _, h => absurd ((h a).1 (by simp)) (by simp)
  | a :: l, b :: m, gl, gm, hl, hm, h => by
    obtain ⟨p1, p2⟩ := List.pairwise_cons.1 hl
    obtain ⟨q1, q2⟩ := List.pairwise_cons.1 hm
    have sa := (gl a (by simp)).se
    have sb := (gm b (by simp)).se
    have hab : a = b := by
      rcases List.mem_cons.1 ((h a).1 (by simp)) with h1 | h1
      · exact h1
      · rcases List.mem_cons.1 ((h b).2 (by simp)) with h2 | h2
        · exact h2.symm
        · have h3 := q1 a h1
          have h4 := p1 b h2
          rcases h3 with h3 | h3 <;> rcases h4 with h4 | h4 <;> omega
    subst hab
    have hn1 : a ∉ l := fun h1 => by
      rcases p1 a h1 with h2 | h2 <;> omega
    have hn2 : a ∉ m := fun h1 => by
      rcases q1 a h1 with h2 | h2 <;> omega
    rw [ord_uniq (l := l) (m := m) (fun c hc => gl c (by simp [hc])) (fun c hc => gm c (by simp [hc])) p2 q2 fun c => by
      constructor
      · intro hc
        rcases List.mem_cons.1 ((h c).1 (by simp [hc])) with rfl | h1
        · exact absurd hc hn1
        · exact h1
      · intro hc
        rcases List.mem_cons.1 ((h c).2 (by simp [hc])) with rfl | h1
        · exact absurd hc hn2
        · exact h1]

theorem in_tool {xss : List (List Bk.El)} {t : Int} (h0 : 0 ≤ t) (g : CalG xss) (h1 : t < 60) {c : Bk.El} : c ∈ toolL xss t ↔ tlB c = t ∧ inC xss c := by
  constructor
  · intro h
    obtain ⟨h2, _, h3⟩ := tool_inC g h0 h1 h
    exact ⟨h2, h3⟩
  · rintro ⟨rfl, h⟩
    exact h

theorem ref_busy {xss : List (List Bk.El)} (g : CalG xss) (t s e : Int) : xss.flatten.any (meetR t s e) = busyF xss t s e := by
  rw [Bool.eq_iff_iff, busy_iff, List.any_eq_true]
  obtain ⟨_, hin⟩ := flat_all g
  constructor
  · rintro ⟨c, hc, hm⟩
    obtain ⟨h0, h1, h2⟩ := (hin c).1 hc
    unfold meetR at hm
    simp only [Bool.and_eq_true, decide_eq_true_eq] at hm
    obtain ⟨⟨⟨h3, h4⟩, h5⟩, h6⟩ := hm
    have h3 : tlB c = t := h3
    subst h3
    exact ⟨h0, h1, h4, c, h2, h5, h6⟩
  · rintro ⟨h0, h1, h2, c, hc, h3, h4⟩
    obtain ⟨h5, h6⟩ := (in_tool h0 g h1).1 hc
    refine ⟨c, (hin c).2 ⟨by omega, by omega, h6⟩, ?_⟩
    unfold meetR
    simp only [Bool.and_eq_true, decide_eq_true_eq]
    exact ⟨⟨⟨h5, h2⟩, h3⟩, h4⟩

theorem ref_list {xss : List (List Bk.El)} (g : CalG xss) (t : Int) : xss.flatten.filter (fun b => decide (b.1 = t)) = listF xss t := by
  obtain ⟨ha, hin⟩ := flat_all g
  unfold listF
  by_cases ht : toolB t = true
  · rw [if_pos ht]
    obtain ⟨h0, h1⟩ := toolB_true ht
    have hg := g.tool h0 h1
    refine ord_uniq (fun c hc => ha.good c (List.mem_filter.1 hc).1) (fun c hc => (hg.all c hc).1) ((flat_order g).sublist List.filter_sublist) ?_ fun c => ?_
    · refine List.pairwise_iff_getElem.2 fun p q hp hq hpq => ?_
      have h2 := List.pairwise_iff_getElem.1 hg.ord p q hp hq hpq
      have h3 := (hg.all _ (List.getElem_mem hp)).2
      have h4 := (hg.all _ (List.getElem_mem hq)).2
      exact .inr ⟨by omega, h2⟩
    · rw [List.mem_filter, decide_eq_true_eq, in_tool h0 g h1, hin]
      constructor
      · rintro ⟨⟨h2, h3, h4⟩, h5⟩
        exact ⟨h5, h4⟩
      · rintro ⟨h5, h4⟩
        exact ⟨⟨by omega, by omega, h4⟩, h5⟩
  · rw [if_neg ht, List.filter_eq_nil_iff]
    intro c hc hct
    obtain ⟨h0, h1, _⟩ := (hin c).1 hc
    have hct : tlB c = t := of_decide_eq_true hct
    exact ht (toolB_of (by omega) (by omega))

theorem ref_free {xss : List (List Bk.El)} (g : CalG xss) (b : Bk.El) : freeR xss.flatten b = freeF xss b := by
  unfold freeR freeF
  rw [ref_busy g]

theorem ref_err {xss : List (List Bk.El)} (g : CalG xss) (b : Bk.El) : errR xss.flatten b = errF xss b := by
  unfold errR errF
  rw [ref_free g]

theorem ahead_iff {b c : Bk.El} : aheadB b c = true ↔ tlB c < tlB b ∨ (tlB c = tlB b ∧ stB c < stB b) := by
  unfold aheadB
  simp only [Bool.or_eq_true, Bool.and_eq_true, decide_eq_true_eq]
  exact Iff.rfl

/-- A list in order, split at a booking. -/
theorem ahead_split {l : List Bk.El} (hg : ∀ c ∈ l, GoodB c) (ho : l.Pairwise Before) (b : Bk.El) : (∀ c ∈ l.take (posR l b), aheadB b c = true) ∧ (∀ c ∈ l.drop (posR l b), aheadB b c = false) := by
  unfold posR
  induction l with
  | nil => simp
  | cons x l ih =>
    obtain ⟨h1, h2⟩ := List.pairwise_cons.1 ho
    obtain ⟨i1, i2⟩ := ih (fun c hc => hg c (by simp [hc])) h2
    cases hx : aheadB b x
    · rw [List.takeWhile_cons_of_neg (by rw [hx]; simp)]
      refine ⟨by simp, fun c hc => ?_⟩
      rcases List.mem_cons.1 hc with rfl | hc
      · exact hx
      · have h3 := h1 c hc
        have hxs := (hg x (by simp)).se
        rw [← Bool.not_eq_true, ahead_iff] at hx ⊢
        rcases h3 with h3 | h3 <;> omega
    · rw [List.takeWhile_cons_of_pos hx]
      refine ⟨fun c hc => ?_, i2⟩
      rcases List.mem_cons.1 hc with rfl | hc
      · exact hx
      · exact i1 c hc

theorem ref_book {xss : List (List Bk.El)} (g : CalG xss) (b : Bk.El) : bookR xss.flatten b = (bookF xss b).flatten := by
  unfold bookR
  rw [ref_free g]
  cases hf : freeF xss b
  · rw [book_no hf]; rfl
  · rw [if_pos rfl]
    obtain ⟨g1, h1, _⟩ := book_yes g hf
    obtain ⟨ha, hin⟩ := flat_all g
    obtain ⟨ha1, hin1⟩ := flat_all g1
    obtain ⟨hb, hn⟩ := free_iff.1 hf
    have ho := flat_order g
    obtain ⟨s1, s2⟩ := ahead_split ha.good ho b
    have hmem : ∀ c, c ∈ xss.flatten.take (posR xss.flatten b) ++ ([b] ++ xss.flatten.drop (posR xss.flatten b)) ↔ c = b ∨ c ∈ xss.flatten := fun c => by
      conv => rhs; rw [← List.take_append_drop (posR xss.flatten b) xss.flatten]
      simp only [List.mem_append, List.mem_singleton]
      constructor
      · rintro (h | h | h)
        · exact .inr (.inl h)
        · exact .inl h
        · exact .inr (.inr h)
      · rintro (h | h | h)
        · exact .inr (.inl h)
        · exact .inl h
        · exact .inr (.inr h)
    have hnm : ∀ c ∈ xss.flatten, tlB c = tlB b → ¬ meet c b := fun c hc ht => by
      obtain ⟨c0, c1, c2⟩ := (hin c).1 hc
      exact hn c ((in_tool hb.t0 g hb.t1).2 ⟨ht, c2⟩)
    have hbe := hb.se
    have hleft : ∀ c ∈ xss.flatten.take (posR xss.flatten b), Before c b := fun c hc => by
      have h3 := ahead_iff.1 (s1 c hc)
      have hcl := List.mem_of_mem_take hc
      rcases h3 with h3 | ⟨h3, h4⟩
      · exact .inl h3
      · refine .inr ⟨h3, ?_⟩
        have h5 := hnm c hcl h3
        have h6 : ¬ stB b < enB c := fun h => h5 ⟨by omega, h⟩
        omega
    have hright : ∀ c ∈ xss.flatten.drop (posR xss.flatten b), Before b c := fun c hc => by
      have h3 := s2 c hc
      rw [← Bool.not_eq_true, ahead_iff] at h3
      have hcl := List.mem_of_mem_drop hc
      have hcs := (ha.good c hcl).se
      rcases Int.lt_trichotomy (tlB b) (tlB c) with h4 | h4 | h4
      · exact .inl h4
      · refine .inr ⟨h4, ?_⟩
        have h5 := hnm c hcl h4.symm
        have h6 : ¬ stB c < enB b := fun h => h5 ⟨h, by omega⟩
        omega
      · omega
    refine ord_uniq (fun c hc => ?_) ha1.good ?_ (flat_order g1) fun c => ?_
    · rcases (hmem c).1 hc with rfl | hc
      · exact hb
      · exact ha.good c hc
    · refine List.pairwise_append.2 ⟨ho.sublist (List.take_sublist _ _), List.pairwise_append.2 ⟨by simp, ho.sublist (List.drop_sublist _ _), fun a ha c hc => ?_⟩, fun a ha c hc => ?_⟩
      · rw [List.mem_singleton.1 ha]; exact hright c hc
      · rcases List.mem_append.1 hc with hc | hc
        · rw [List.mem_singleton.1 hc]; exact hleft a ha
        · have := List.pairwise_append.1 (show (xss.flatten.take (posR xss.flatten b) ++ xss.flatten.drop (posR xss.flatten b)).Pairwise Before by rw [List.take_append_drop]; exact ho)
          exact this.2.2 a ha c hc
    · rw [hmem, hin1, hin]
      constructor
      · rintro (rfl | ⟨h2, h3, h4⟩)
        · exact ⟨hb.t0, hb.t1, (h1 _ hb.t0).2 (.inl rfl)⟩
        · exact ⟨h2, h3, (h1 _ h2).2 (.inr h4)⟩
      · rintro ⟨h2, h3, h4⟩
        rcases (h1 _ h2).1 h4 with h5 | h5
        · exact .inl h5
        · exact .inr ⟨h2, h3, h5⟩

/-! ### First -/

theorem fold_stay {t n : Int} : ∀ {l : List Bk.El} {f : Int}, (∀ c ∈ l, ¬ (f ≤ 1000000 - n ∧ stB c < f + n)) → foldR t n l f = f
  | [], f, _ => rfl
  | b :: l, f, h => by
    have h1 := h b (by simp)
    have : stepR t n f b = f := by
      unfold stepR
      rw [if_neg]
      rintro ⟨_, h2, h3, _⟩
      exact h1 ⟨h2, h3⟩
    show foldR t n l (stepR t n f b) = f
    rw [this]
    exact fold_stay fun c hc => h c (by simp [hc])

theorem fold_filter {t n : Int} : ∀ {l : List Bk.El} {f : Int}, foldR t n l f = foldR t n (l.filter fun b => decide (b.1 = t)) f
  | [], f => rfl
  | b :: l, f => by
    by_cases hb : b.1 = t
    · rw [List.filter_cons_of_pos (by simpa using hb)]
      exact fold_filter (l := l)
    · rw [List.filter_cons_of_neg (by simpa using hb)]
      have : stepR t n f b = f := by
        unfold stepR
        rw [if_neg fun h => hb h.1]
      show foldR t n l (stepR t n f b) = _
      rw [this]
      exact fold_filter (l := l)

theorem firstG_cons (g : Int × Int) (gs : List (Int × Int)) (n : Int) : firstG (g :: gs) n = if longB n g = true then (g.1, true) else firstG gs n := by
  unfold firstG
  cases h : longB n g
  · rw [List.find?_cons_of_neg (by rw [h]; simp)]; simp
  · rw [List.find?_cons_of_pos h]; simp

theorem long_eq {n a b : Int} (h0 : 0 ≤ a) (h1 : b ≤ 1000000) (h2 : 0 ≤ b) (h3 : a ≤ 1000000) : longB n (a, b) = decide (n ≤ b - a) := by
  unfold longB
  rw [wrap64_id (by show _ ≤ b - a; omega) (by show b - a < _; omega)]

theorem fold_first {t : Nat} {n : Int} (hn : 1 ≤ n) (hn1 : n ≤ 1000000) : ∀ {l : List Bk.El} {f : Int}, GoodL t l → 0 ≤ f →
    firstG (gapsL l f) n = if 1000000 - n < foldR t n l f then (0, false) else (foldR t n l f, true)
  | [], f, _, hf => by
    show firstG (if f < 1000000 then [(f, 1000000)] else []) n = if 1000000 - n < f then (0, false) else (f, true)
    by_cases h : f < 1000000
    · rw [if_pos h, firstG_cons, long_eq hf (by omega) (by omega) (by omega)]
      by_cases h2 : 1000000 - n < f
      · rw [if_pos h2, if_neg (by rw [decide_eq_true_eq]; omega)]; rfl
      · rw [if_neg h2, if_pos (by rw [decide_eq_true_eq]; omega)]
    · rw [if_neg h, if_pos (by omega)]; rfl
  | b :: l, f, h, hf => by
    have hl : GoodL t l := ⟨fun c hc => h.all c (by simp [hc]), (List.pairwise_cons.1 h.ord).2⟩
    obtain ⟨hb, hbt⟩ := h.all b (by simp)
    have h1 := (List.pairwise_cons.1 h.ord).1
    have hbs := hb.se
    have hb0 := hb.s0
    have hb1 := hb.e1
    have hmx : f ≤ max f (enB b) ∧ enB b ≤ max f (enB b) := ⟨Int.le_max_left _ _, Int.le_max_right _ _⟩
    have ih := fold_first hn hn1 (l := l) (f := max f (enB b)) hl (by omega)
    have e1 : gapsL (b :: l) f = (if f < stB b then [(f, stB b)] else []) ++ gapsL l (max f (enB b)) := rfl
    have e2 : foldR t n (b :: l) f = foldR t n l (stepR t n f b) := rfl
    rw [e1, e2]
    by_cases hlong : f + n ≤ stB b
    · rw [if_pos (by omega), List.singleton_append, firstG_cons, long_eq hf (by omega) (by omega) (by omega), if_pos (by rw [decide_eq_true_eq]; omega)]
      have e3 : stepR t n f b = f := by
        unfold stepR
        rw [if_neg]
        rintro ⟨_, _, h3, _⟩
        have h3 : stB b < f + n := h3
        omega
      rw [e3, fold_stay fun c hc h2 => by have := h1 c hc; omega, if_neg (by omega)]
    · have e4 : firstG ((if f < stB b then [(f, stB b)] else []) ++ gapsL l (max f (enB b))) n = firstG (gapsL l (max f (enB b))) n := by
        by_cases h2 : f < stB b
        · rw [if_pos h2, List.singleton_append, firstG_cons, long_eq hf (by omega) (by omega) (by omega), if_neg (by rw [decide_eq_true_eq]; omega)]
        · rw [if_neg h2, List.nil_append]
      rw [e4, ih]
      by_cases hs : f ≤ 1000000 - n
      · have e3 : stepR t n f b = max f (enB b) := by
          unfold stepR
          by_cases h3 : f < enB b
          · rw [if_pos ⟨hbt, hs, by show stB b < f + n; omega, h3⟩, Int.max_eq_right (by omega)]; rfl
          · rw [if_neg fun h => h3 h.2.2.2, Int.max_eq_left (by omega)]
        rw [e3]
      · have e3 : stepR t n f b = f := by
          unfold stepR
          rw [if_neg fun h => hs h.2.1]
        have h4 := foldR_le t n l (max f (enB b))
        rw [e3, fold_stay fun c hc h2 => hs h2.1, if_pos (by omega), if_pos (by omega)]

theorem ref_first {xss : List (List Bk.El)} (g : CalG xss) (t f n : Int) : refFirstF xss.flatten t f n = firstF xss t f n := by
  unfold refFirstF firstF
  by_cases ht : toolB t = true ∧ 1 ≤ n
  · rw [if_pos ht]
    obtain ⟨h0, h1⟩ := toolB_true ht.1
    have hg := g.tool h0 h1
    have hmx : 0 ≤ max f 0 := Int.le_max_right _ _
    have el : (xss.flatten.filter fun b => decide (b.1 = t)) = toolL xss t := by
      rw [ref_list g]; unfold listF; rw [if_pos ht.1]
    by_cases hn : n ≤ 1000000
    · rw [if_neg (by omega), fold_filter, el]
      have := fold_first ht.2 hn hg hmx
      rw [show ((t.toNat : Nat) : Int) = t by omega] at this
      rw [this]
    · rw [if_pos (by omega)]
      have : firstG (gapsL (toolL xss t) (max f 0)) n = (0, false) := by
        unfold firstG
        have hno : (gapsL (toolL xss t) (max f 0)).find? (longB n) = none := List.find?_eq_none.2 fun g hgm => by
          obtain ⟨a1, a2, a3, _⟩ := gaps_spec hg hmx g hgm
          rw [long_iff hg hmx g hgm]
          omega
        rw [hno]
      rw [this]
  · rw [if_neg ht, if_pos]
    apply Classical.byContradiction
    intro h
    exact ht ⟨toolB_of (by omega) (by omega), by omega⟩
end Go.AM.Ytkacoophnfljcaa
