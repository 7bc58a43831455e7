/- Calendars as sorted lists of bookings that do not overlap: what booking, freeing and looking do, in plain Lean. -/
import Derived.Test.YtkacoophnfljcaaCaS
import Derived.Test.YtkacoophnfljcaaCaE
import Derived.Test.YtkacoophnfljcaaCaFirst
set_option linter.all false
namespace Go.AM.Ytkacoophnfljcaa
open Go.Proofs

def tlB (b : Bk.El) : Int := b.1
def stB (b : Bk.El) : Int := b.2.1
def enB (b : Bk.El) : Int := b.2.2.1
def owB (b : Bk.El) : Int := b.2.2.2

theorem bk_eq {a b : Bk.El} (h1 : tlB a = tlB b) (h2 : stB a = stB b) (h3 : enB a = enB b) (h4 : owB a = owB b) : a = b := Prod.ext h1 (Prod.ext h2 (Prod.ext h3 h4))

structure GoodB (b : Bk.El) : Prop where
  t0 : 0 ≤ tlB b
  t1 : tlB b < 60
  s0 : 0 ≤ stB b
  se : stB b < enB b
  e1 : enB b ≤ 1000000
  o0 : 1 ≤ owB b
  o1 : owB b ≤ 1000000

theorem validB_iff (b : Bk.El) : validB b.1 b.2.1 b.2.2.1 b.2.2.2 = true ↔ GoodB b := by
  unfold validB toolB
  simp only [Bool.and_eq_true, decide_eq_true_eq]
  constructor
  · rintro ⟨⟨⟨⟨⟨h1, h2⟩, h3⟩, h4, h5⟩, h6⟩, h7⟩
    exact ⟨h4, h5, h1, h2, h3, h6, h7⟩
  · rintro ⟨h4, h5, h1, h2, h3, h6, h7⟩
    exact ⟨⟨⟨⟨⟨h1, h2⟩, h3⟩, h4, h5⟩, h6⟩, h7⟩

def meet (a b : Bk.El) : Prop := stB a < enB b ∧ stB b < enB a

structure GoodL (t : Nat) (l : List Bk.El) : Prop where
  all : ∀ b ∈ l, GoodB b ∧ tlB b = t
  ord : l.Pairwise fun a b => enB a ≤ stB b

theorem GoodL.sorted {t : Nat} {l : List Bk.El} (h : GoodL t l) : SortedB l := fun i j hij hj => by
  have := List.pairwise_iff_getElem.1 h.ord i j (by omega) hj hij
  have h1 := (h.all l[i] (List.getElem_mem _)).1.se
  show startB (getI l Bk.dflt i) ≤ startB (getI l Bk.dflt j)
  have e1 : getI l Bk.dflt i = l[i] := by simp [getI, List.getD, List.getElem?_eq_getElem (show i < l.length by omega)]
  have e2 : getI l Bk.dflt j = l[j] := by simp [getI, List.getD, List.getElem?_eq_getElem hj]
  rw [e1, e2]
  show stB l[i] ≤ stB l[j]
  omega

theorem nil_good (t : Nat) : GoodL t [] := ⟨by simp, List.Pairwise.nil⟩

/-- The place of a start in such a list. -/
theorem pos_split {t : Nat} {l : List Bk.El} (h : GoodL t l) (s : Int) : (∀ c ∈ l.take (posF l s), stB c < s) ∧ (∀ c ∈ l.drop (posF l s), s ≤ stB c) := by
  have hp : l.take (posF l s) = l.takeWhile (fun b => decide (startB b < s)) := by
    have := List.takeWhile_prefix (p := fun b => decide (startB b < s)) (l := l)
    unfold posF
    exact (List.prefix_iff_eq_take.1 this).symm
  have hd : l.drop (posF l s) = l.dropWhile (fun b => decide (startB b < s)) := by
    have h1 := List.takeWhile_append_dropWhile (p := fun b => decide (startB b < s)) (l := l)
    have h2 := List.take_append_drop (posF l s) l
    rw [← hp] at h1
    exact List.append_cancel_left (h2.trans h1.symm)
  refine ⟨fun c hc => ?_, fun c hc => ?_⟩
  · rw [hp] at hc
    have : ∀ {m : List Bk.El} {c : Bk.El}, c ∈ m.takeWhile (fun b => decide (startB b < s)) → startB c < s := by
      intro m
      induction m with
      | nil => intro c hc; simp at hc
      | cons x m ih =>
        intro c hc
        by_cases hx : startB x < s
        · rw [List.takeWhile_cons_of_pos (by simpa using hx)] at hc
          rcases List.mem_cons.1 hc with rfl | hc
          · exact hx
          · exact ih hc
        · rw [List.takeWhile_cons_of_neg (by simpa using hx)] at hc; simp at hc
    exact this hc
  · have hsub : (l.drop (posF l s)).Pairwise fun a b => enB a ≤ stB b := h.ord.sublist (List.drop_sublist _ _)
    have hall : ∀ b ∈ l.drop (posF l s), GoodB b := fun b hb => (h.all b (List.mem_of_mem_drop hb)).1
    rw [hd] at hsub hall hc
    generalize hm : l.dropWhile (fun b => decide (startB b < s)) = m at hsub hall hc
    cases m with
    | nil => simp at hc
    | cons x m =>
      have hx : ¬ startB x < s := by
        have := List.head_dropWhile_not (fun b => decide (startB b < s)) (l := l) (by rw [hm]; simp)
        simp only [hm, List.head_cons] at this
        simpa using this
      have hx : s ≤ stB x := by have : ¬ stB x < s := hx; omega
      rcases List.mem_cons.1 hc with rfl | hc
      · exact hx
      · have h1 := (List.pairwise_cons.1 hsub).1 c hc
        have h2 := (hall x (by simp)).se
        omega

/-- A booking that meets no other one is put in. -/
theorem add_good {t : Nat} {l : List Bk.El} {b : Bk.El} (h : GoodL t l) (hb : GoodB b) (ht : tlB b = t) (hn : ∀ c ∈ l, ¬ meet c b) :
    GoodL t (addF l b) ∧ (∀ c, c ∈ addF l b ↔ c = b ∨ c ∈ l) ∧ (addF l b).length = l.length + 1 := by
  obtain ⟨h1, h2⟩ := pos_split h (startB b)
  have e : addF l b = l.take (posF l (startB b)) ++ [b] ++ l.drop (posF l (startB b)) := by unfold addF insF; simp
  have hmem : ∀ c, c ∈ addF l b ↔ c = b ∨ c ∈ l := fun c => by
    rw [e]
    conv => rhs; rw [← List.take_append_drop (posF l (startB b)) l]
    simp only [List.mem_append, List.mem_singleton]
    constructor
    · rintro ((h | h) | h)
      · exact .inr (.inl h)
      · exact .inl h
      · exact .inr (.inr h)
    · rintro (h | h | h)
      · exact .inl (.inr h)
      · exact .inl (.inl h)
      · exact .inr h
  refine ⟨⟨fun c hc => ?_, ?_⟩, hmem, ?_⟩
  · rcases (hmem c).1 hc with rfl | hc
    · exact ⟨hb, ht⟩
    · exact h.all c hc
  · rw [e, List.append_assoc]
    have hbe := hb.se
    have hleft : ∀ c ∈ l.take (posF l (startB b)), enB c ≤ stB b := fun c hc => by
      have h3 : stB c < stB b := h1 c hc
      have h4 := hn c (List.mem_of_mem_take hc)
      have h5 : ¬ stB b < enB c := fun h6 => h4 ⟨by omega, h6⟩
      omega
    have hright : ∀ c ∈ l.drop (posF l (startB b)), enB b ≤ stB c := fun c hc => by
      have h3 : stB b ≤ stB c := h2 c hc
      have hcm := List.mem_of_mem_drop hc
      have h4 := hn c hcm
      have h6 := (h.all c hcm).1.se
      have h5 : ¬ stB c < enB b := fun h7 => h4 ⟨h7, by omega⟩
      omega
    refine List.pairwise_append.2 ⟨h.ord.sublist (List.take_sublist _ _), List.pairwise_cons.2 ⟨hright, h.ord.sublist (List.drop_sublist _ _)⟩, fun a ha c hc => ?_⟩
    rcases List.mem_cons.1 hc with rfl | hc
    · exact hleft a ha
    · have h3 := hleft a ha
      have h4 := hright c hc
      omega
  · rw [e]
    have := congrArg List.length (List.take_append_drop (posF l (startB b)) l)
    simp only [List.length_append, List.length_cons, List.length_nil] at this ⊢
    omega

/-- Such lists are one if they hold the same. -/
theorem good_uniq {t : Nat} : ∀ {l m : List Bk.El}, GoodL t l → GoodL t m → (∀ c, c ∈ l ↔ c ∈ m) → l = m
  | [], [], _, _, _ => rfl
  | [], b :: m, _, _, h => absurd ((h b).2 (by simp)) (by simp)
  | a :: l, [], _, _, h => absurd ((h a).1 (by simp)) (by simp)
  | a :: l, b :: m, hl, hm, h => by
    obtain ⟨p1, p2⟩ := List.pairwise_cons.1 hl.ord
    obtain ⟨q1, q2⟩ := List.pairwise_cons.1 hm.ord
    have sa := (hl.all a (by simp)).1.se
    have sb := (hm.all b (by simp)).1.se
    have hab : a = b := by
      rcases List.mem_cons.1 ((h a).1 (by simp)) with h1 | h1
      · exact h1
      · rcases List.mem_cons.1 ((h b).2 (by simp)) with h2 | h2
        · exact h2.symm
        · have h3 := q1 a h1
          have h4 := p1 b h2
          omega
    subst hab
    have hn1 : a ∉ l := fun h1 => by have := p1 a h1; omega
    have hn2 : a ∉ m := fun h1 => by have := q1 a h1; omega
    rw [good_uniq (l := l) (m := m) ⟨fun c hc => hl.all c (by simp [hc]), p2⟩ ⟨fun c hc => hm.all c (by simp [hc]), q2⟩ fun c => by
      constructor
      · intro hc
        rcases List.mem_cons.1 ((h c).1 (by simp [hc])) with rfl | h1
        · exact absurd hc hn1
        · exact h1
      · intro hc
        rcases List.mem_cons.1 ((h c).2 (by simp [hc])) with rfl | h1
        · exact absurd hc hn2
        · exact h1]

theorem filter_good {t : Nat} {l : List Bk.El} (h : GoodL t l) (p : Bk.El → Bool) : GoodL t (l.filter p) :=
  ⟨fun b hb => h.all b (List.mem_filter.1 hb).1, h.ord.sublist List.filter_sublist⟩

/-! ### Calendars -/

structure CalG (xss : List (List Bk.El)) : Prop where
  len : xss.length = 60
  each : ∀ t, t < 60 → GoodL t (getI xss [] t)

def inC (xss : List (List Bk.El)) (b : Bk.El) : Prop := b ∈ toolL xss (tlB b)

theorem noCal_good : CalG noCal := ⟨by simp [noCal], fun t ht => by
  have : getI noCal [] t = [] := by
    unfold getI noCal
    rw [List.getD_eq_getElem?_getD, List.getElem?_replicate]
    split <;> rfl
  rw [this]; exact nil_good t⟩

theorem CalG.sorted {xss : List (List Bk.El)} (h : CalG xss) : CalS xss := fun xs hx => by
  obtain ⟨i, hi, rfl⟩ := List.getElem_of_mem hx
  have := (h.each i (by rw [← h.len]; exact hi)).sorted
  rwa [show getI xss [] i = xss[i] by simp [getI, List.getD, List.getElem?_eq_getElem hi]] at this

theorem mem_len {xss : List (List Bk.El)} {xs : List Bk.El} (h : xs ∈ xss) : xs.length ≤ lenF xss := by
  induction xss with
  | nil => simp at h
  | cons y r ih =>
    simp only [lenF, List.map_cons, List.sum_cons] at ih ⊢
    rcases List.mem_cons.1 h with rfl | h
    · omega
    · have := ih h; omega

theorem CalG.cal {xss : List (List Bk.El)} (h : CalG xss) (hl : lenF xss ≤ 1000000) : Cal xss := ⟨h.len, fun xs hx => Nat.le_trans (mem_len hx) hl⟩

theorem CalG.tool {xss : List (List Bk.El)} (h : CalG xss) {t : Int} (h0 : 0 ≤ t) (h1 : t < 60) : GoodL t.toNat (toolL xss t) := h.each t.toNat (by omega)

theorem CalG.good {xss : List (List Bk.El)} (h : CalG xss) {b : Bk.El} (hb : inC xss b) (h0 : 0 ≤ tlB b) (h1 : tlB b < 60) : GoodB b := ((h.tool h0 h1).all b hb).1

theorem lenF_set {xss : List (List Bk.El)} {l : List Bk.El} : ∀ {i : Nat}, i < xss.length → lenF (xss.set i l) + (getI xss [] i).length = lenF xss + l.length := by
  induction xss with
  | nil => intro i h; simp at h
  | cons x r ih =>
    intro i h
    cases i with
    | zero => simp [lenF, getI]; omega
    | succ i =>
      have := ih (i := i) (by simpa using h)
      simp only [lenF, getI, List.set_cons_succ, List.map_cons, List.sum_cons, List.getD_cons_succ] at this ⊢
      omega

theorem get_set_same {xss : List (List Bk.El)} {i : Nat} {l : List Bk.El} (h : i < xss.length) : getI (xss.set i l) [] i = l := by
  simp [getI, List.getD, h]
theorem get_set_other {xss : List (List Bk.El)} {i j : Nat} {l : List Bk.El} (h : i ≠ j) : getI (xss.set i l) [] j = getI xss [] j := by
  simp [getI, List.getD, List.getElem?_set_ne h]

/-- A span of a tool is taken. -/
theorem busy_iff {xss : List (List Bk.El)} {t s e : Int} : busyF xss t s e = true ↔ 0 ≤ t ∧ t < 60 ∧ s < e ∧ ∃ c ∈ toolL xss t, stB c < e ∧ s < enB c := by
  unfold busyF
  simp only [Bool.and_eq_true, decide_eq_true_eq, List.any_eq_true]
  constructor
  · rintro ⟨h1, h2, c, hc, h3⟩
    obtain ⟨h4, h5⟩ := toolB_true h1
    refine ⟨h4, h5, h2, c, hc, ?_⟩
    simpa [meetE, meetB, stB, enB] using h3
  · rintro ⟨h1, h2, h3, c, hc, h4⟩
    exact ⟨toolB_of h1 h2, h3, c, hc, by simpa [meetE, meetB, stB, enB] using h4⟩

theorem free_iff {xss : List (List Bk.El)} {b : Bk.El} : freeF xss b = true ↔ GoodB b ∧ ∀ c ∈ toolL xss (tlB b), ¬ meet c b := by
  unfold freeF
  rw [Bool.and_eq_true, validB_iff]
  constructor
  · rintro ⟨h1, h2⟩
    refine ⟨h1, fun c hc hm => ?_⟩
    have : busyF xss b.1 b.2.1 b.2.2.1 = true := busy_iff.2 ⟨h1.t0, h1.t1, h1.se, c, hc, hm⟩
    rw [this] at h2; cases h2
  · rintro ⟨h1, h2⟩
    refine ⟨h1, ?_⟩
    cases hb : busyF xss b.1 b.2.1 b.2.2.1
    · rfl
    · obtain ⟨_, _, _, c, hc, hm⟩ := busy_iff.1 hb
      exact absurd hm (h2 c hc)

/-- What booking does. -/
theorem book_yes {xss : List (List Bk.El)} {b : Bk.El} (h : CalG xss) (hf : freeF xss b = true) : CalG (bookF xss b) ∧ (∀ c, 0 ≤ tlB c → (inC (bookF xss b) c ↔ c = b ∨ inC xss c)) ∧ lenF (bookF xss b) = lenF xss + 1 := by
  obtain ⟨hg, hn⟩ := free_iff.1 hf
  have hlt : (tlB b).toNat < 60 := by have := hg.t1; have := hg.t0; omega
  have hltx : (tlB b).toNat < xss.length := by rw [h.len]; exact hlt
  obtain ⟨a1, a2, a3⟩ := add_good (h.tool hg.t0 hg.t1) hg (by have := hg.t0; omega) hn
  have e : bookF xss b = xss.set (tlB b).toNat (addF (toolL xss (tlB b)) b) := by unfold bookF; rw [if_pos hf]; rfl
  rw [e]
  refine ⟨⟨by simpa using h.len, fun t ht => ?_⟩, fun c hc => ?_, ?_⟩
  · by_cases hte : (tlB b).toNat = t
    · subst hte
      rw [get_set_same hltx]; exact a1
    · rw [get_set_other hte]; exact h.each t ht
  · unfold inC toolL
    by_cases hte : (tlB b).toNat = (tlB c).toNat
    · rw [← hte, get_set_same hltx]; exact a2 c
    · rw [get_set_other hte]
      constructor
      · exact fun h => .inr h
      · rintro (rfl | h)
        · exact absurd rfl hte
        · exact h
  · have := lenF_set (l := addF (toolL xss (tlB b)) b) hltx
    have e2 : (getI xss [] (tlB b).toNat).length = (toolL xss (tlB b)).length := rfl
    omega

theorem book_no {xss : List (List Bk.El)} {b : Bk.El} (hf : freeF xss b = false) : bookF xss b = xss := by unfold bookF; rw [if_neg (by rw [hf]; simp)]

theorem book_good {xss : List (List Bk.El)} (h : CalG xss) (b : Bk.El) : CalG (bookF xss b) ∧ lenF (bookF xss b) ≤ lenF xss + 1 := by
  cases hf : freeF xss b
  · rw [book_no hf]; exact ⟨h, by omega⟩
  · obtain ⟨h1, _, h2⟩ := book_yes h hf
    exact ⟨h1, by omega⟩

/-- Calendars are one if they hold the same. -/
theorem cal_uniq {a b : List (List Bk.El)} (ha : CalG a) (hb : CalG b) (h : ∀ c, 0 ≤ tlB c → tlB c < 60 → (inC a c ↔ inC b c)) : a = b := by
  refine List.ext_getElem (by rw [ha.len, hb.len]) fun i h1 h2 => ?_
  have hi : i < 60 := by rw [← ha.len]; exact h1
  have e1 : a[i] = getI a [] i := by simp [getI, List.getD, List.getElem?_eq_getElem h1]
  have e2 : b[i] = getI b [] i := by simp [getI, List.getD, List.getElem?_eq_getElem h2]
  rw [e1, e2]
  refine good_uniq (ha.each i hi) (hb.each i hi) fun c => ?_
  constructor
  · intro hc
    have ht := ((ha.each i hi).all c hc).2
    have e3 : (tlB c).toNat = i := by omega
    have := (h c (by omega) (by omega)).1 (by unfold inC toolL; rw [e3]; exact hc)
    unfold inC toolL at this
    rwa [e3] at this
  · intro hc
    have ht := ((hb.each i hi).all c hc).2
    have e3 : (tlB c).toNat = i := by omega
    have := (h c (by omega) (by omega)).2 (by unfold inC toolL; rw [e3]; exact hc)
    unfold inC toolL at this
    rwa [e3] at this

/-! ### Many bookings -/

def bookAll (l : List Bk.El) (xss : List (List Bk.El)) : List (List Bk.El) := l.foldl bookF xss

theorem bookAll_good {l : List Bk.El} : ∀ {xss : List (List Bk.El)}, CalG xss → CalG (bookAll l xss) ∧ lenF (bookAll l xss) ≤ lenF xss + l.length := by
  induction l with
  | nil => intro xss h; exact ⟨h, by simp [bookAll]⟩
  | cons b l ih =>
    intro xss h
    obtain ⟨h1, h2⟩ := book_good h b
    obtain ⟨h3, h4⟩ := ih h1
    exact ⟨h3, by simp only [bookAll, List.foldl_cons, List.length_cons] at h4 ⊢; omega⟩

theorem bookAll_append (l m : List Bk.El) (xss : List (List Bk.El)) : bookAll (l ++ m) xss = bookAll m (bookAll l xss) := by unfold bookAll; rw [List.foldl_append]

theorem lenF_no : lenF noCal = 0 := by simp [lenF, noCal]

/-! ### First -/

theorem wrap64_id {n : Int} (h : -9223372036854775808 ≤ n) (k : n < 9223372036854775808) : RowKit.wrap64 n = n := by unfold RowKit.wrap64; omega

/-- The spans without bookings: what they are of a list in order. -/
theorem gaps_spec {t : Nat} : ∀ {l : List Bk.El} {f : Int}, GoodL t l → 0 ≤ f → ∀ g ∈ gapsL l f, f ≤ g.1 ∧ g.1 < g.2 ∧ g.2 ≤ 1000000 ∧ ∀ c ∈ l, enB c ≤ g.1 ∨ g.2 ≤ stB c
  | [], f, _, _, g, hg => by
    unfold gapsL at hg
    split at hg
    · rw [List.mem_singleton.1 hg]; exact ⟨Int.le_refl _, by omega, Int.le_refl _, by simp⟩
    · cases hg
  | b :: l, f, h, hf, g, hg => by
    have hl : GoodL t l := ⟨fun c hc => h.all c (by simp [hc]), (List.pairwise_cons.1 h.ord).2⟩
    have hb := (h.all b (by simp)).1
    have h1 := (List.pairwise_cons.1 h.ord).1
    unfold gapsL at hg
    rcases List.mem_append.1 hg with hg | hg
    · split at hg
      · rename_i hlt
        have hlt : f < stB b := hlt
        rw [List.mem_singleton.1 hg]
        have e1 := hb.e1
        have se := hb.se
        refine ⟨Int.le_refl _, hlt, by show stB b ≤ 1000000; omega, fun c hc => .inr ?_⟩
        show stB b ≤ stB c
        rcases List.mem_cons.1 hc with rfl | hc
        · exact Int.le_refl _
        · have := h1 c hc; omega
      · cases hg
    · have hmx : f ≤ max f (enB b) ∧ enB b ≤ max f (enB b) := ⟨Int.le_max_left _ _, Int.le_max_right _ _⟩
      obtain ⟨a1, a2, a3, a4⟩ := gaps_spec hl (f := max f (enB b)) (by omega) g hg
      refine ⟨by omega, a2, a3, fun c hc => ?_⟩
      rcases List.mem_cons.1 hc with rfl | hc
      · exact .inl (by omega)
      · exact a4 c hc

theorem long_iff {t : Nat} {l : List Bk.El} {f ln : Int} (h : GoodL t l) (hf : 0 ≤ f) : ∀ g ∈ gapsL l f, (longB ln g = true ↔ ln ≤ g.2 - g.1) := fun g hg => by
  obtain ⟨a1, a2, a3, _⟩ := gaps_spec h hf g hg
  unfold longB
  rw [wrap64_id (by omega) (by omega)]
  simp

/-- A span of the length that meets no booking lies in a gap. -/
theorem gaps_cover {t : Nat} : ∀ {l : List Bk.El} {f s ln : Int}, GoodL t l → 0 ≤ f → f ≤ s → 1 ≤ ln → s + ln ≤ 1000000 → (∀ c ∈ l, ¬ (stB c < s + ln ∧ s < enB c)) → ∃ g ∈ gapsL l f, g.1 ≤ s ∧ s + ln ≤ g.2
  | [], f, s, ln, _, _, hs, hl, he, _ => ⟨(f, 1000000), by unfold gapsL; rw [if_pos (by omega)]; simp, hs, he⟩
  | b :: l, f, s, ln, h, hf, hs, hl, he, hn => by
    have hl' : GoodL t l := ⟨fun c hc => h.all c (by simp [hc]), (List.pairwise_cons.1 h.ord).2⟩
    have hb := (h.all b (by simp)).1
    have hbe := hb.se
    have hnb := hn b (by simp)
    have hor : s + ln ≤ stB b ∨ enB b ≤ s := by
      rcases Int.lt_or_le (stB b) (s + ln) with h1 | h1
      · exact .inr (by rcases Int.lt_or_le s (enB b) with h2 | h2; exact absurd ⟨h1, h2⟩ hnb; exact h2)
      · exact .inl h1
    rcases hor with h1 | h1
    · refine ⟨(f, stB b), ?_, hs, h1⟩
      unfold gapsL
      have : f < b.2.1 := by show f < stB b; omega
      rw [if_pos this]
      simp [stB]
    · obtain ⟨g, hg, h2, h3⟩ := gaps_cover (l := l) (f := max f (enB b)) (s := s) (ln := ln) hl' (by have := Int.le_max_left f (enB b); omega) (by rcases Int.le_total f (enB b) with h4 | h4; rw [Int.max_eq_right h4]; exact h1; rw [Int.max_eq_left h4]; exact hs) hl he (fun c hc => hn c (by simp [hc]))
      exact ⟨g, by unfold gapsL; exact List.mem_append.2 (.inr hg), h2, h3⟩

/-- The gaps' starts grow. -/
theorem gaps_sorted {t : Nat} : ∀ {l : List Bk.El} {f : Int}, GoodL t l → 0 ≤ f → (gapsL l f).Pairwise fun a b => a.2 ≤ b.1
  | [], f, _, _ => by unfold gapsL; split <;> simp
  | b :: l, f, h, hf => by
    have hl : GoodL t l := ⟨fun c hc => h.all c (by simp [hc]), (List.pairwise_cons.1 h.ord).2⟩
    have hb := (h.all b (by simp)).1.se
    have hmx : f ≤ max f (enB b) ∧ enB b ≤ max f (enB b) := ⟨Int.le_max_left _ _, Int.le_max_right _ _⟩
    unfold gapsL
    refine List.pairwise_append.2 ⟨by split <;> simp, gaps_sorted hl (by show 0 ≤ max f (enB b); omega), fun a ha g hg => ?_⟩
    split at ha
    · rw [List.mem_singleton.1 ha]
      have := (gaps_spec hl (f := max f (enB b)) (by omega) g hg).1
      show stB b ≤ g.1
      omega
    · cases ha

/-- What First tells. -/
theorem first_yes {t : Nat} {l : List Bk.El} {f ln a : Int} (h : GoodL t l) (hf : 0 ≤ f) (hl : 1 ≤ ln) (hr : firstG (gapsL l f) ln = (a, true)) :
    f ≤ a ∧ a + ln ≤ 1000000 ∧ (∀ c ∈ l, ¬ (stB c < a + ln ∧ a < enB c)) ∧ ∀ s, f ≤ s → s < a → ∃ c ∈ l, stB c < s + ln ∧ s < enB c := by
  unfold firstG at hr
  split at hr
  · rename_i g hg
    have hmem := List.mem_of_find?_eq_some hg
    have hlong := (long_iff (ln := ln) h hf g hmem).1 (List.find?_some hg)
    obtain ⟨a1, a2, a3, a4⟩ := gaps_spec h hf g hmem
    have ea : g.1 = a := by injection hr
    subst ea
    refine ⟨a1, by omega, fun c hc hm => ?_, fun s hs hsa => ?_⟩
    · rcases a4 c hc with h1 | h1 <;> omega
    · apply Classical.byContradiction
      intro hno
      obtain ⟨g', hg', h2, h3⟩ := gaps_cover (s := s) (ln := ln) h hf hs hl (by omega) (fun c hc hm => hno ⟨c, hc, hm⟩)
      obtain ⟨p, q, hpq, hpn⟩ := List.find?_eq_some_iff_append.1 hg |>.2
      have hl' : longB ln g' = true := (long_iff (ln := ln) h hf g' hg').2 (by omega)
      have hgs := gaps_sorted h hf
      rw [hpq] at hg' hgs
      rcases List.mem_append.1 hg' with h4 | h4
      · have := hpn g' h4
        rw [hl'] at this; cases this
      · rcases List.mem_cons.1 h4 with rfl | h4
        · omega
        · have h5 := (List.pairwise_cons.1 (List.pairwise_append.1 hgs).2.1).1 g' h4
          omega
  · injection hr with _ hr; cases hr

theorem first_none {t : Nat} {l : List Bk.El} {f ln a : Int} (h : GoodL t l) (hf : 0 ≤ f) (hl : 1 ≤ ln) (hr : firstG (gapsL l f) ln = (a, false)) : ∀ s, f ≤ s → s + ln ≤ 1000000 → ∃ c ∈ l, stB c < s + ln ∧ s < enB c := by
  unfold firstG at hr
  split at hr
  · injection hr with _ hr; cases hr
  · rename_i hno
    intro s hs he
    apply Classical.byContradiction
    intro hn
    obtain ⟨g, hg, h2, h3⟩ := gaps_cover (s := s) (ln := ln) h hf hs hl he (fun c hc hm => hn ⟨c, hc, hm⟩)
    have := List.find?_eq_none.1 hno g hg
    rw [(long_iff (ln := ln) h hf g hg).2 (by omega)] at this
    exact this rfl
end Go.AM.Ytkacoophnfljcaa
