/- CaT, CaU, CaLEx, CaLFi, CaLOr, CaLFr, CaRefT, PlBase. -/
import Derived.Test.YtmjeocinfoeeeaaPk17
import Derived.Test.YtmjeocinfoeeeaaPk18
import Derived.Test.YtmjeocinfoeeeaaPk21
import Derived.Test.YtmjeocinfoeeeaaPk13

section
set_option linter.all false
namespace Go.AM.Ytmjeocinfoeeeaa
open Go.Proofs
def tlB (b : Bk.El) : Int := b.1
def stB (b : Bk.El) : Int := b.2.1
def enB (b : Bk.El) : Int := b.2.2.1
def owB (b : Bk.El) : Int := b.2.2.2
theorem bk_eq {a b : Bk.El} (h1 : tlB a = tlB b) (h2 : stB a = stB b) (h3 : enB a = enB b) (h4 : owB a = owB b) : a = b := Prod.ext h1 (Prod.ext h2 (Prod.ext h3 h4))
structure GoodB (b : Bk.El) : Prop where
  t0 : 0 ≤ tlB b
  t1 : tlB b < 60
  s0 : 0 ≤ stB b
  se : stB b < enB b
  e1 : enB b ≤ 1000000
  o0 : 1 ≤ owB b
  o1 : owB b ≤ 1000000
theorem validB_iff (b : Bk.El) : validB b.1 b.2.1 b.2.2.1 b.2.2.2 = true ↔ GoodB b := by
  unfold validB toolB
  simp only [Bool.and_eq_true, decide_eq_true_eq]
  constructor
  · rintro ⟨⟨⟨⟨⟨h1, h2⟩, h3⟩, h4, h5⟩, h6⟩, h7⟩
    exact ⟨h4, h5, h1, h2, h3, h6, h7⟩
  · rintro ⟨h4, h5, h1, h2, h3, h6, h7⟩
    exact ⟨⟨⟨⟨⟨h1, h2⟩, h3⟩, h4, h5⟩, h6⟩, h7⟩
def meet (a b : Bk.El) : Prop := stB a < enB b ∧ stB b < enB a
structure GoodL (t : Nat) (l : List Bk.El) : Prop where
  all : ∀ b ∈ l, GoodB b ∧ tlB b = t
  ord : l.Pairwise fun a b => enB a ≤ stB b
theorem GoodL.sorted {t : Nat} {l : List Bk.El} (h : GoodL t l) : SortedB l := fun i j hij hj => by
  have := List.pairwise_iff_getElem.1 h.ord i j (by omega) hj hij
  have h1 := (h.all l[i] (List.getElem_mem _)).1.se
  show startB (getI l Bk.dflt i) ≤ startB (getI l Bk.dflt j)
  have e1 : getI l Bk.dflt i = l[i] := by simp [getI, List.getD, List.getElem?_eq_getElem (show i < l.length by omega)]
  have e2 : getI l Bk.dflt j = l[j] := by simp [getI, List.getD, List.getElem?_eq_getElem hj]
  rw [e1, e2]
  show stB l[i] ≤ stB l[j]
  omega
theorem nil_good (t : Nat) : GoodL t [] := ⟨by simp, List.Pairwise.nil⟩
theorem pos_split {t : Nat} {l : List Bk.El} (h : GoodL t l) (s : Int) : (∀ c ∈ l.take (posF l s), stB c < s) ∧ (∀ c ∈ l.drop (posF l s), s ≤ stB c) := by
  have hp : l.take (posF l s) = l.takeWhile (fun b => decide (startB b < s)) := by
    have := List.takeWhile_prefix (p := fun b => decide (startB b < s)) (l := l)
    unfold posF
    exact (List.prefix_iff_eq_take.1 this).symm
  have hd : l.drop (posF l s) = l.dropWhile (fun b => decide (startB b < s)) := by
    have h1 := List.takeWhile_append_dropWhile (p := fun b => decide (startB b < s)) (l := l)
    have h2 := List.take_append_drop (posF l s) l
    rw [← hp] at h1
    exact List.append_cancel_left (h2.trans h1.symm)
  refine ⟨fun c hc => ?_, fun c hc => ?_⟩
  · rw [hp] at hc
    have : ∀ {m : List Bk.El} {c : Bk.El}, c ∈ m.takeWhile (fun b => decide (startB b < s)) → startB c < s := by
      intro m
      induction m with
      | nil => intro c hc; simp at hc
      | cons x m ih =>
        intro c hc
        by_cases hx : startB x < s
        · rw [List.takeWhile_cons_of_pos (by simpa using hx)] at hc
          rcases List.mem_cons.1 hc with rfl | hc
          · exact hx
          · exact ih hc
        · rw [List.takeWhile_cons_of_neg (by simpa using hx)] at hc; simp at hc
    exact this hc
  · have hsub : (l.drop (posF l s)).Pairwise fun a b => enB a ≤ stB b := h.ord.sublist (List.drop_sublist _ _)
    have hall : ∀ b ∈ l.drop (posF l s), GoodB b := fun b hb => (h.all b (List.mem_of_mem_drop hb)).1
    rw [hd] at hsub hall hc
    generalize hm : l.dropWhile (fun b => decide (startB b < s)) = m at hsub hall hc
    cases m with
    | nil => simp at hc
    | cons x m =>
      have hx : ¬ startB x < s := by
        have := List.head_dropWhile_not (fun b => decide (startB b < s)) (l := l) (by rw [hm]; simp)
        simp only [hm, List.head_cons] at this
        simpa using this
      have hx : s ≤ stB x := by have : ¬ stB x < s := hx; omega
      rcases List.mem_cons.1 hc with rfl | hc
      · exact hx
      · have h1 := (List.pairwise_cons.1 hsub).1 c hc
        have h2 := (hall x (by simp)).se
        omega
theorem add_good {t : Nat} {l : List Bk.El} {b : Bk.El} (h : GoodL t l) (hb : GoodB b) (ht : tlB b = t) (hn : ∀ c ∈ l, ¬ meet c b) :
    GoodL t (addF l b) ∧ (∀ c, c ∈ addF l b ↔ c = b ∨ c ∈ l) ∧ (addF l b).length = l.length + 1 := by
  obtain ⟨h1, h2⟩ := pos_split h (startB b)
  have e : addF l b = l.take (posF l (startB b)) ++ [b] ++ l.drop (posF l (startB b)) := by unfold addF insF; simp
  have hmem : ∀ c, c ∈ addF l b ↔ c = b ∨ c ∈ l := fun c => by
    rw [e]
    conv => rhs; rw [← List.take_append_drop (posF l (startB b)) l]
    simp only [List.mem_append, List.mem_singleton]
    constructor
    · rintro ((h | h) | h)
      · exact .inr (.inl h)
      · exact .inl h
      · exact .inr (.inr h)
    · rintro (h | h | h)
      · exact .inl (.inr h)
      · exact .inl (.inl h)
      · exact .inr h
  refine ⟨⟨fun c hc => ?_, ?_⟩, hmem, ?_⟩
  · rcases (hmem c).1 hc with rfl | hc
    · exact ⟨hb, ht⟩
    · exact h.all c hc
  · rw [e, List.append_assoc]
    have hbe := hb.se
    have hleft : ∀ c ∈ l.take (posF l (startB b)), enB c ≤ stB b := fun c hc => by
      have h3 : stB c < stB b := h1 c hc
      have h4 := hn c (List.mem_of_mem_take hc)
      have h5 : ¬ stB b < enB c := fun h6 => h4 ⟨by omega, h6⟩
      omega
    have hright : ∀ c ∈ l.drop (posF l (startB b)), enB b ≤ stB c := fun c hc => by
      have h3 : stB b ≤ stB c := h2 c hc
      have hcm := List.mem_of_mem_drop hc
      have h4 := hn c hcm
      have h6 := (h.all c hcm).1.se
      have h5 : ¬ stB c < enB b := fun h7 => h4 ⟨h7, by omega⟩
      omega
    refine List.pairwise_append.2 ⟨h.ord.sublist (List.take_sublist _ _), List.pairwise_cons.2 ⟨hright, h.ord.sublist (List.drop_sublist _ _)⟩, fun a ha c hc => ?_⟩
    rcases List.mem_cons.1 hc with rfl | hc
    · exact hleft a ha
    · have h3 := hleft a ha
      have h4 := hright c hc
      omega
  · rw [e]
    have := congrArg List.length (List.take_append_drop (posF l (startB b)) l)
    simp only [List.length_append, List.length_cons, List.length_nil] at this ⊢
    omega
theorem good_uniq {t : Nat} : ∀ {l m : List Bk.El}, GoodL t l → GoodL t m → (∀ c, c ∈ l ↔ c ∈ m) → l = m
  | [], [], _, _, _ => rfl
  | [], b :: m, _, _, h => absurd ((h b).2 (by simp)) (by simp)
  | a :: l, [], _, _, h => absurd ((h a).1 (by simp)) (by simp)
  | a :: l, b :: m, hl, hm, h => by
    obtain ⟨p1, p2⟩ := List.pairwise_cons.1 hl.ord
    obtain ⟨q1, q2⟩ := List.pairwise_cons.1 hm.ord
    have sa := (hl.all a (by simp)).1.se
    have sb := (hm.all b (by simp)).1.se
    have hab : a = b := by
      rcases List.mem_cons.1 ((h a).1 (by simp)) with h1 | h1
      · exact h1
      · rcases List.mem_cons.1 ((h b).2 (by simp)) with h2 | h2
        · exact h2.symm
        · have h3 := q1 a h1
          have h4 := p1 b h2
          omega
    subst hab
    have hn1 : a ∉ l := fun h1 => by have := p1 a h1; omega
    have hn2 : a ∉ m := fun h1 => by have := q1 a h1; omega
    rw [good_uniq (l := l) (m := m) ⟨fun c hc => hl.all c (by simp [hc]), p2⟩ ⟨fun c hc => hm.all c (by simp [hc]), q2⟩ fun c => by
      constructor
      · intro hc
        rcases List.mem_cons.1 ((h c).1 (by simp [hc])) with rfl | h1
        · exact absurd hc hn1
        · exact h1
      · intro hc
        rcases List.mem_cons.1 ((h c).2 (by simp [hc])) with rfl | h1
        · exact absurd hc hn2
        · exact h1]
theorem filter_good {t : Nat} {l : List Bk.El} (h : GoodL t l) (p : Bk.El → Bool) : GoodL t (l.filter p) :=
  ⟨fun b hb => h.all b (List.mem_filter.1 hb).1, h.ord.sublist List.filter_sublist⟩
structure CalG (xss : List (List Bk.El)) : Prop where
  len : xss.length = 60
  each : ∀ t, t < 60 → GoodL t (getI xss [] t)
def inC (xss : List (List Bk.El)) (b : Bk.El) : Prop := b ∈ toolL xss (tlB b)
theorem noCal_good : CalG noCal := ⟨by simp [noCal], fun t ht => by
  have : getI noCal [] t = [] := by
    unfold getI noCal
    rw [List.getD_eq_getElem?_getD, List.getElem?_replicate]
    split <;> rfl
  rw [this]; exact nil_good t⟩
theorem CalG.sorted {xss : List (List Bk.El)} (h : CalG xss) : CalS xss := fun xs hx => by
  obtain ⟨i, hi, rfl⟩ := List.getElem_of_mem hx
  have := (h.each i (by rw [← h.len]; exact hi)).sorted
  rwa [show getI xss [] i = xss[i] by simp [getI, List.getD, List.getElem?_eq_getElem hi]] at this
theorem mem_len {xss : List (List Bk.El)} {xs : List Bk.El} (h : xs ∈ xss) : xs.length ≤ lenF xss := by
  induction xss with
  | nil => simp at h
  | cons y r ih =>
    simp only [lenF, List.map_cons, List.sum_cons] at ih ⊢
    rcases List.mem_cons.1 h with rfl | h
    · omega
    · have := ih h; omega
theorem CalG.cal {xss : List (List Bk.El)} (h : CalG xss) (hl : lenF xss ≤ 1000000) : Cal xss := ⟨h.len, fun xs hx => Nat.le_trans (mem_len hx) hl⟩
theorem CalG.tool {xss : List (List Bk.El)} (h : CalG xss) {t : Int} (h0 : 0 ≤ t) (h1 : t < 60) : GoodL t.toNat (toolL xss t) := h.each t.toNat (by omega)
theorem CalG.good {xss : List (List Bk.El)} (h : CalG xss) {b : Bk.El} (hb : inC xss b) (h0 : 0 ≤ tlB b) (h1 : tlB b < 60) : GoodB b := ((h.tool h0 h1).all b hb).1
theorem lenF_set {xss : List (List Bk.El)} {l : List Bk.El} : ∀ {i : Nat}, i < xss.length → lenF (xss.set i l) + (getI xss [] i).length = lenF xss + l.length := by
  induction xss with
  | nil => intro i h; simp at h
  | cons x r ih =>
    intro i h
    cases i with
    | zero => simp [lenF, getI]; omega
    | succ i =>
      have := ih (i := i) (by simpa using h)
      simp only [lenF, getI, List.set_cons_succ, List.map_cons, List.sum_cons, List.getD_cons_succ] at this ⊢
      omega
theorem get_set_same {xss : List (List Bk.El)} {i : Nat} {l : List Bk.El} (h : i < xss.length) : getI (xss.set i l) [] i = l := by
  simp [getI, List.getD, h]
theorem get_set_other {xss : List (List Bk.El)} {i j : Nat} {l : List Bk.El} (h : i ≠ j) : getI (xss.set i l) [] j = getI xss [] j := by
  simp [getI, List.getD, List.getElem?_set_ne h]
theorem busy_iff {xss : List (List Bk.El)} {t s e : Int} : busyF xss t s e = true ↔ 0 ≤ t ∧ t < 60 ∧ s < e ∧ ∃ c ∈ toolL xss t, stB c < e ∧ s < enB c := by
  unfold busyF
  simp only [Bool.and_eq_true, decide_eq_true_eq, List.any_eq_true]
  constructor
  · rintro ⟨h1, h2, c, hc, h3⟩
    obtain ⟨h4, h5⟩ := toolB_true h1
    refine ⟨h4, h5, h2, c, hc, ?_⟩
    simpa [meetE, meetB, stB, enB] using h3
  · rintro ⟨h1, h2, h3, c, hc, h4⟩
    exact ⟨toolB_of h1 h2, h3, c, hc, by simpa [meetE, meetB, stB, enB] using h4⟩
theorem free_iff {xss : List (List Bk.El)} {b : Bk.El} : freeF xss b = true ↔ GoodB b ∧ ∀ c ∈ toolL xss (tlB b), ¬ meet c b := by
  unfold freeF
  rw [Bool.and_eq_true, validB_iff]
  constructor
  · rintro ⟨h1, h2⟩
    refine ⟨h1, fun c hc hm => ?_⟩
    have : busyF xss b.1 b.2.1 b.2.2.1 = true := busy_iff.2 ⟨h1.t0, h1.t1, h1.se, c, hc, hm⟩
    rw [this] at h2; cases h2
  · rintro ⟨h1, h2⟩
    refine ⟨h1, ?_⟩
    cases hb : busyF xss b.1 b.2.1 b.2.2.1
    · rfl
    · obtain ⟨_, _, _, c, hc, hm⟩ := busy_iff.1 hb
      exact absurd hm (h2 c hc)
theorem book_yes {xss : List (List Bk.El)} {b : Bk.El} (h : CalG xss) (hf : freeF xss b = true) : CalG (bookF xss b) ∧ (∀ c, 0 ≤ tlB c → (inC (bookF xss b) c ↔ c = b ∨ inC xss c)) ∧ lenF (bookF xss b) = lenF xss + 1 := by
  obtain ⟨hg, hn⟩ := free_iff.1 hf
  have hlt : (tlB b).toNat < 60 := by have := hg.t1; have := hg.t0; omega
  have hltx : (tlB b).toNat < xss.length := by rw [h.len]; exact hlt
  obtain ⟨a1, a2, a3⟩ := add_good (h.tool hg.t0 hg.t1) hg (by have := hg.t0; omega) hn
  have e : bookF xss b = xss.set (tlB b).toNat (addF (toolL xss (tlB b)) b) := by unfold bookF; rw [if_pos hf]; rfl
  rw [e]
  refine ⟨⟨by simpa using h.len, fun t ht => ?_⟩, fun c hc => ?_, ?_⟩
  · by_cases hte : (tlB b).toNat = t
    · subst hte
      rw [get_set_same hltx]; exact a1
    · rw [get_set_other hte]; exact h.each t ht
  · unfold inC toolL
    by_cases hte : (tlB b).toNat = (tlB c).toNat
    · rw [← hte, get_set_same hltx]; exact a2 c
    · rw [get_set_other hte]
      constructor
      · exact fun h => .inr h
      · rintro (rfl | h)
        · exact absurd rfl hte
        · exact h
  · have := lenF_set (l := addF (toolL xss (tlB b)) b) hltx
    have e2 : (getI xss [] (tlB b).toNat).length = (toolL xss (tlB b)).length := rfl
    omega
theorem book_no {xss : List (List Bk.El)} {b : Bk.El} (hf : freeF xss b = false) : bookF xss b = xss := by unfold bookF; rw [if_neg (by rw [hf]; simp)]
theorem book_good {xss : List (List Bk.El)} (h : CalG xss) (b : Bk.El) : CalG (bookF xss b) ∧ lenF (bookF xss b) ≤ lenF xss + 1 := by
  cases hf : freeF xss b
  · rw [book_no hf]; exact ⟨h, by omega⟩
  · obtain ⟨h1, _, h2⟩ := book_yes h hf
    exact ⟨h1, by omega⟩
theorem cal_uniq {a b : List (List Bk.El)} (ha : CalG a) (hb : CalG b) (h : ∀ c, 0 ≤ tlB c → tlB c < 60 → (inC a c ↔ inC b c)) : a = b := by
  refine List.ext_getElem (by rw [ha.len, hb.len]) fun i h1 h2 => ?_
  have hi : i < 60 := by rw [← ha.len]; exact h1
  have e1 : a[i] = getI a [] i := by simp [getI, List.getD, List.getElem?_eq_getElem h1]
  have e2 : b[i] = getI b [] i := by simp [getI, List.getD, List.getElem?_eq_getElem h2]
  rw [e1, e2]
  refine good_uniq (ha.each i hi) (hb.each i hi) fun c => ?_
  constructor
  · intro hc
    have ht := ((ha.each i hi).all c hc).2
    have e3 : (tlB c).toNat = i := by omega
    have := (h c (by omega) (by omega)).1 (by unfold inC toolL; rw [e3]; exact hc)
    unfold inC toolL at this
    rwa [e3] at this
  · intro hc
    have ht := ((hb.each i hi).all c hc).2
    have e3 : (tlB c).toNat = i := by omega
    have := (h c (by omega) (by omega)).2 (by unfold inC toolL; rw [e3]; exact hc)
    unfold inC toolL at this
    rwa [e3] at this
def bookAll (l : List Bk.El) (xss : List (List Bk.El)) : List (List Bk.El) := l.foldl bookF xss
theorem bookAll_good {l : List Bk.El} : ∀ {xss : List (List Bk.El)}, CalG xss → CalG (bookAll l xss) ∧ lenF (bookAll l xss) ≤ lenF xss + l.length := by
  induction l with
  | nil => intro xss h; exact ⟨h, by simp [bookAll]⟩
  | cons b l ih =>
    intro xss h
    obtain ⟨h1, h2⟩ := book_good h b
    obtain ⟨h3, h4⟩ := ih h1
    exact ⟨h3, by simp only [bookAll, List.foldl_cons, List.length_cons] at h4 ⊢; omega⟩
theorem bookAll_append (l m : List Bk.El) (xss : List (List Bk.El)) : bookAll (l ++ m) xss = bookAll m (bookAll l xss) := by unfold bookAll; rw [List.foldl_append]
theorem lenF_no : lenF noCal = 0 := by simp [lenF, noCal]
theorem wrap64_id {n : Int} (h : -9223372036854775808 ≤ n) (k : n < 9223372036854775808) : RowKit.wrap64 n = n := by unfold RowKit.wrap64; omega
theorem gaps_spec {t : Nat} : ∀ {l : List Bk.El} {f : Int}, GoodL t l → 0 ≤ f → ∀ g ∈ gapsL l f, f ≤ g.1 ∧ g.1 < g.2 ∧ g.2 ≤ 1000000 ∧ ∀ c ∈ l, enB c ≤ g.1 ∨ g.2 ≤ stB c
  | [], f, _, _, g, hg => by
    unfold gapsL at hg
    split at hg
    · rw [List.mem_singleton.1 hg]; exact ⟨Int.le_refl _, by omega, Int.le_refl _, by simp⟩
    · cases hg
  | b :: l, f, h, hf, g, hg => by
    have hl : GoodL t l := ⟨fun c hc => h.all c (by simp [hc]), (List.pairwise_cons.1 h.ord).2⟩
    have hb := (h.all b (by simp)).1
    have h1 := (List.pairwise_cons.1 h.ord).1
    unfold gapsL at hg
    rcases List.mem_append.1 hg with hg | hg
    · split at hg
      · rename_i hlt
        have hlt : f < stB b := hlt
        rw [List.mem_singleton.1 hg]
        have e1 := hb.e1
        have se := hb.se
        refine ⟨Int.le_refl _, hlt, by show stB b ≤ 1000000; omega, fun c hc => .inr ?_⟩
        show stB b ≤ stB c
        rcases List.mem_cons.1 hc with rfl | hc
        · exact Int.le_refl _
        · have := h1 c hc; omega
      · cases hg
    · have hmx : f ≤ max f (enB b) ∧ enB b ≤ max f (enB b) := ⟨Int.le_max_left _ _, Int.le_max_right _ _⟩
      obtain ⟨a1, a2, a3, a4⟩ := gaps_spec hl (f := max f (enB b)) (by omega) g hg
      refine ⟨by omega, a2, a3, fun c hc => ?_⟩
      rcases List.mem_cons.1 hc with rfl | hc
      · exact .inl (by omega)
      · exact a4 c hc
theorem long_iff {t : Nat} {l : List Bk.El} {f ln : Int} (h : GoodL t l) (hf : 0 ≤ f) : ∀ g ∈ gapsL l f, (longB ln g = true ↔ ln ≤ g.2 - g.1) := fun g hg => by
  obtain ⟨a1, a2, a3, _⟩ := gaps_spec h hf g hg
  unfold longB
  rw [wrap64_id (by omega) (by omega)]
  simp
theorem gaps_cover {t : Nat} : ∀ {l : List Bk.El} {f s ln : Int}, GoodL t l → 0 ≤ f → f ≤ s → 1 ≤ ln → s + ln ≤ 1000000 → (∀ c ∈ l, ¬ (stB c < s + ln ∧ s < enB c)) → ∃ g ∈ gapsL l f, g.1 ≤ s ∧ s + ln ≤ g.2
  | [], f, s, ln, _, _, hs, hl, he, _ => ⟨(f, 1000000), by unfold gapsL; rw [if_pos (by omega)]; simp, hs, he⟩
  | b :: l, f, s, ln, h, hf, hs, hl, he, hn => by
    have hl' : GoodL t l := ⟨fun c hc => h.all c (by simp [hc]), (List.pairwise_cons.1 h.ord).2⟩
    have hb := (h.all b (by simp)).1
    have hbe := hb.se
    have hnb := hn b (by simp)
    have hor : s + ln ≤ stB b ∨ enB b ≤ s := by
      rcases Int.lt_or_le (stB b) (s + ln) with h1 | h1
      · exact .inr (by rcases Int.lt_or_le s (enB b) with h2 | h2; exact absurd ⟨h1, h2⟩ hnb; exact h2)
      · exact .inl h1
    rcases hor with h1 | h1
    · refine ⟨(f, stB b), ?_, hs, h1⟩
      unfold gapsL
      have : f < b.2.1 := by show f < stB b; omega
      rw [if_pos this]
      simp [stB]
    · obtain ⟨g, hg, h2, h3⟩ := gaps_cover (l := l) (f := max f (enB b)) (s := s) (ln := ln) hl' (by have := Int.le_max_left f (enB b); omega) (by rcases Int.le_total f (enB b) with h4 | h4; rw [Int.max_eq_right h4]; exact h1; rw [Int.max_eq_left h4]; exact hs) hl he (fun c hc => hn c (by simp [hc]))
      exact ⟨g, by unfold gapsL; exact List.mem_append.2 (.inr hg), h2, h3⟩
theorem gaps_sorted {t : Nat} : ∀ {l : List Bk.El} {f : Int}, GoodL t l → 0 ≤ f → (gapsL l f).Pairwise fun a b => a.2 ≤ b.1
  | [], f, _, _ => by unfold gapsL; split <;> simp
  | b :: l, f, h, hf => by
    have hl : GoodL t l := ⟨fun c hc => h.all c (by simp [hc]), (List.pairwise_cons.1 h.ord).2⟩
    have hb := (h.all b (by simp)).1.se
    have hmx : f ≤ max f (enB b) ∧ enB b ≤ max f (enB b) := ⟨Int.le_max_left _ _, Int.le_max_right _ _⟩
    unfold gapsL
    refine List.pairwise_append.2 ⟨by split <;> simp, gaps_sorted hl (by show 0 ≤ max f (enB b); omega), fun a ha g hg => ?_⟩
    split at ha
    · rw [List.mem_singleton.1 ha]
      have := (gaps_spec hl (f := max f (enB b)) (by omega) g hg).1
      show stB b ≤ g.1
      omega
    · cases ha
theorem first_yes {t : Nat} {l : List Bk.El} {f ln a : Int} (h : GoodL t l) (hf : 0 ≤ f) (hl : 1 ≤ ln) (hr : firstG (gapsL l f) ln = (a, true)) :
    f ≤ a ∧ a + ln ≤ 1000000 ∧ (∀ c ∈ l, ¬ (stB c < a + ln ∧ a < enB c)) ∧ ∀ s, f ≤ s → s < a → ∃ c ∈ l, stB c < s + ln ∧ s < enB c := by
  unfold firstG at hr
  split at hr
  · rename_i g hg
    have hmem := List.mem_of_find?_eq_some hg
    have hlong := (long_iff (ln := ln) h hf g hmem).1 (List.find?_some hg)
    obtain ⟨a1, a2, a3, a4⟩ := gaps_spec h hf g hmem
    have ea : g.1 = a := by injection hr
    subst ea
    refine ⟨a1, by omega, fun c hc hm => ?_, fun s hs hsa => ?_⟩
    · rcases a4 c hc with h1 | h1 <;> omega
    · apply Classical.byContradiction
      intro hno
      obtain ⟨g', hg', h2, h3⟩ := gaps_cover (s := s) (ln := ln) h hf hs hl (by omega) (fun c hc hm => hno ⟨c, hc, hm⟩)
      obtain ⟨p, q, hpq, hpn⟩ := List.find?_eq_some_iff_append.1 hg |>.2
      have hl' : longB ln g' = true := (long_iff (ln := ln) h hf g' hg').2 (by omega)
      have hgs := gaps_sorted h hf
      rw [hpq] at hg' hgs
      rcases List.mem_append.1 hg' with h4 | h4
      · have := hpn g' h4
        rw [hl'] at this; cases this
      · rcases List.mem_cons.1 h4 with rfl | h4
        · omega
        · have h5 := (List.pairwise_cons.1 (List.pairwise_append.1 hgs).2.1).1 g' h4
          omega
  · injection hr with _ hr; cases hr
theorem first_none {t : Nat} {l : List Bk.El} {f ln a : Int} (h : GoodL t l) (hf : 0 ≤ f) (hl : 1 ≤ ln) (hr : firstG (gapsL l f) ln = (a, false)) : ∀ s, f ≤ s → s + ln ≤ 1000000 → ∃ c ∈ l, stB c < s + ln ∧ s < enB c := by
  unfold firstG at hr
  split at hr
  · injection hr with _ hr; cases hr
  · rename_i hno
    intro s hs he
    apply Classical.byContradiction
    intro hn
    obtain ⟨g, hg, h2, h3⟩ := gaps_cover (s := s) (ln := ln) h hf hs hl he (fun c hc hm => hn ⟨c, hc, hm⟩)
    have := List.find?_eq_none.1 hno g hg
    rw [(long_iff (ln := ln) h hf g hg).2 (by omega)] at this
    exact this rfl
end Go.AM.Ytmjeocinfoeeeaa
end

section
set_option linter.all false
namespace Go.AM.Ytmjeocinfoeeeaa
open Go.Proofs
set_option maxRecDepth 100000
set_option maxHeartbeats 4000000
def sigBk : List (Nat × Spec) := [(16, newS), (17, bookS)]
theorem sigBkOk : SigOk Try.prog (look sigBk) := sigCons (sigCons sigNil Try.func17 (by kernel_rfl) (c := body Try.f17) rfl bookOk)
  Try.func16 (by kernel_rfl) (c := body Try.f16) rfl newOk
theorem bookAll_ok (l : List Bk.El) (h : l.length ≤ 1000) : CalG (bookAll l noCal) ∧ Cal (bookAll l noCal) ∧ CalS (bookAll l noCal) := by
  obtain ⟨h1, h2⟩ := bookAll_good (l := l) noCal_good
  rw [lenF_no] at h2
  exact ⟨h1, h1.cal (by omega), h1.sorted⟩
theorem bookAll_take {l : List Bk.El} {i : Nat} (h : i < l.length) (xss : List (List Bk.El)) : bookAll (l.take (i + 1)) xss = bookF (bookAll (l.take i) xss) (getI l Bk.dflt i) := by
  rw [take_succ_getI (d := Bk.dflt) h, bookAll_append]; rfl
def bookedS : Spec := plain fun
  | [.sl (.pair (.int .i64) (.pair (.int .i64) (.pair (.int .i64) (.int .i64)))) l] => some ⟨l.length ≤ 1000, .ptr 0 0, [.arr Bk (bookAll l noCal) none], false⟩
  | _ => none
def sigSane : List (Nat × Spec) := [(16, newS), (17, bookS), (95, firstS), (41, busyS), (22, freeS),
  (18, lenS), (23, calCloneS), (26, listS), (20, ownedS)]
theorem sigSaneOk : SigOk Try.prog (look sigSane) := sigCons (sigCons (sigCons (sigCons (sigCons (sigCons (sigCons (sigCons (sigCons sigNil
  Try.func20 (by kernel_rfl) (c := body Try.f20) rfl ownedOk)
  Try.func26 (by kernel_rfl) (c := body Try.f26) rfl listOk)
  Try.func23 (by kernel_rfl) (c := body Try.f23) rfl calCloneOk)
  Try.func18 (by kernel_rfl) (c := body Try.f18) rfl lenOk)
  Try.func22 (by kernel_rfl) (c := body Try.f22) rfl freeOk)
  Try.func41 (by kernel_rfl) (c := body Try.f41) rfl busyOk)
  Try.func95 (by kernel_rfl) (c := body Try.f95) rfl firstOk)
  Try.func17 (by kernel_rfl) (c := body Try.f17) rfl bookOk)
  Try.func16 (by kernel_rfl) (c := body Try.f16) rfl newOk
theorem freed_good {xss : List (List Bk.El)} (h : CalG xss) (o : Int) : CalG (freedF xss o) := ⟨by unfold freedF; rw [List.length_map]; exact h.len, fun t ht => by
  have e : getI (freedF xss o) [] t = delF (getI xss [] t) o := by
    have ht' : t < xss.length := by rw [h.len]; exact ht
    unfold freedF getI
    rw [List.getD_eq_getElem?_getD, List.getD_eq_getElem?_getD, List.getElem?_map, List.getElem?_eq_getElem ht']
    rfl
  rw [e]; exact filter_good (h.each t ht) _⟩
def saneS : Spec := plain fun
  | [] => outV True (.bool true)
  | _ => none
end Go.AM.Ytmjeocinfoeeeaa
end

section
set_option linter.all false
namespace Go.AM.Ytmjeocinfoeeeaa
open Go.Proofs
set_option maxRecDepth 100000
set_option maxHeartbeats 8000000
structure Kept (xss : List (List Bk.El)) (kept : List Bk.El) : Prop where
  mem : ∀ c, 0 ≤ tlB c → (inC xss c ↔ c ∈ kept)
  len : lenF xss = kept.length
  pos : ∀ c ∈ kept, 0 ≤ tlB c
theorem kept_no : Kept noCal [] := ⟨fun c _ => by
  unfold inC toolL
  have : getI noCal [] (tlB c).toNat = [] := by
    unfold getI noCal
    rw [List.getD_eq_getElem?_getD, List.getElem?_replicate]
    split <;> rfl
  rw [this], lenF_no, by simp⟩
def clashB (b c : Bk.El) : Bool := decide (c.1 = b.1) && decide (c.2.1 < b.2.2.1) && decide (b.2.1 < c.2.2.1)
theorem clash_iff {b c : Bk.El} : clashB b c = true ↔ tlB c = tlB b ∧ meet c b := by
  unfold clashB
  simp only [Bool.and_eq_true, decide_eq_true_eq]
  exact ⟨fun ⟨⟨h1, h2⟩, h3⟩ => ⟨h1, h2, h3⟩, fun ⟨h1, h2, h3⟩ => ⟨⟨h1, h2⟩, h3⟩⟩
theorem Kept.free {xss : List (List Bk.El)} {kept : List Bk.El} (h : Kept xss kept) (g : CalG xss) (b : Bk.El) : freeF xss b = (!(kept.any (clashB b)) && validB b.1 b.2.1 b.2.2.1 b.2.2.2) := by
  rw [Bool.eq_iff_iff, free_iff, Bool.and_eq_true, validB_iff]
  constructor
  · rintro ⟨h1, h2⟩
    refine ⟨?_, h1⟩
    rw [Bool.not_eq_true', List.any_eq_false]
    intro c hc hcl
    obtain ⟨h3, h4⟩ := clash_iff.1 hcl
    have h5 := (h.mem c (h.pos c hc)).2 hc
    unfold inC at h5
    rw [h3] at h5
    exact h2 c h5 h4
  · rintro ⟨h1, h2⟩
    refine ⟨h2, fun c hc hm => ?_⟩
    rw [Bool.not_eq_true', List.any_eq_false] at h1
    have ht : tlB c = tlB b := by
      have := ((g.tool h2.t0 h2.t1).all c hc).2
      have := h2.t0
      have := ((g.tool h2.t0 h2.t1).all c hc).1.t0
      omega
    exact h1 c ((h.mem c (by rw [ht]; exact h2.t0)).1 (by unfold inC; rw [ht]; exact hc)) (clash_iff.2 ⟨ht, hm⟩)
theorem Kept.yes {xss : List (List Bk.El)} {kept : List Bk.El} (h : Kept xss kept) (g : CalG xss) {b : Bk.El} (hf : freeF xss b = true) : Kept (bookF xss b) (kept ++ [b]) := by
  obtain ⟨_, h2, h3⟩ := book_yes g hf
  refine ⟨fun c hc => ?_, by rw [h3, h.len, List.length_append]; rfl, fun c hc => ?_⟩
  · rw [h2 c hc, h.mem c hc, List.mem_append, List.mem_singleton]
    exact Or.comm
  · rcases List.mem_append.1 hc with hc | hc
    · exact h.pos c hc
    · rw [List.mem_singleton.1 hc]; exact (free_iff.1 hf).1.t0
def exBad (e : Int) (f r : Bool) : Bool := (!(decide (e = 0) == (f && r))) || (decide (e ≠ 0) && decide (e ≠ 70))
theorem exBad_no {xss : List (List Bk.El)} {b : Bk.El} {f r : Bool} (h : freeF xss b = (f && r)) : exBad (errF xss b) f r = false := by
  unfold exBad errF
  rw [← h]
  cases freeF xss b <;> decide
def exS : Spec := plain fun
  | [.sl (.pair (.int .i64) (.pair (.int .i64) (.pair (.int .i64) (.int .i64)))) _, .agg [.int .i64 _, .int .i64 _, .int .i64 _, .int .i64 _]] => outV True (.bool true)
  | _ => none
theorem ord_get {t : Nat} {m : List Bk.El} (h : GoodL t m) {j : Nat} (hj : j + 1 < m.length) : enB (getI m Bk.dflt j) ≤ stB (getI m Bk.dflt (j + 1)) := by
  have := List.pairwise_iff_getElem.1 h.ord j (j + 1) (by omega) hj (by omega)
  simpa [getI, List.getD, List.getElem?_eq_getElem hj, List.getElem?_eq_getElem (show j < m.length by omega)] using this
end Go.AM.Ytmjeocinfoeeeaa
end

section
set_option linter.all false
namespace Go.AM.Ytmjeocinfoeeeaa
open Go.Proofs
set_option maxRecDepth 100000
set_option maxHeartbeats 8000000
theorem tool_inC {xss : List (List Bk.El)} (g : CalG xss) {t : Int} (h0 : 0 ≤ t) (h1 : t < 60) {c : Bk.El} (hc : c ∈ toolL xss t) : tlB c = t ∧ GoodB c ∧ inC xss c := by
  obtain ⟨h2, h3⟩ := (g.tool h0 h1).all c hc
  have e : tlB c = t := by omega
  exact ⟨e, h2, by unfold inC; rw [e]; exact hc⟩
theorem in_all {c : Bk.El} (hc : 0 ≤ tlB c) : ∀ {l : List Bk.El} {xss : List (List Bk.El)}, CalG xss → inC (bookAll l xss) c → c ∈ l ∨ inC xss c
  | [], xss, _, h => .inr h
  | b :: l, xss, g, h => by
    have h : inC (bookAll l (bookF xss b)) c := h
    rcases in_all hc (l := l) (book_good g b).1 h with h | h
    · exact .inl (List.mem_cons_of_mem _ h)
    · cases hf : freeF xss b
      · rw [book_no hf] at h; exact .inr h
      · rcases ((book_yes g hf).2.1 c hc).1 h with rfl | h
        · exact .inl (by simp)
        · exact .inr h
theorem noCal_in (c : Bk.El) : ¬ inC noCal c := by
  unfold inC toolL
  have : getI noCal [] (tlB c).toNat = [] := by
    unfold getI noCal
    rw [List.getD_eq_getElem?_getD, List.getElem?_replicate]
    split <;> rfl
  rw [this]; simp
theorem some_end {x : List t4.El} {b : Bk.El} (h : b ∈ someF x) : enB b ≤ 339 := by
  unfold someF at h
  obtain ⟨e, _, rfl⟩ := List.mem_map.1 h
  have h1 := pick_b (c := e.2.1) (n := 300) (by omega)
  have h2 := pick_b (c := e.2.2.1) (n := 40) (by omega)
  show pickF e.2.1 300 + 1 + pickF e.2.2.1 40 ≤ 339
  omega
theorem some_late {x : List t4.El} {t : Int} (h0 : 0 ≤ t) (h1 : t < 60) {c : Bk.El} (g : CalG (bookAll (someF x) noCal)) (hc : c ∈ toolL (bookAll (someF x) noCal) t) : enB c ≤ 339 := by
  obtain ⟨h2, h3, h4⟩ := tool_inC g h0 h1 hc
  rcases in_all h3.t0 noCal_good h4 with h | h
  · exact some_end h
  · exact absurd h (noCal_in c)
theorem first_eq {xss : List (List Bk.El)} {t f n : Int} (h0 : 0 ≤ t) (h1 : t < 60) (hf : 0 ≤ f) (hn : 1 ≤ n) : firstF xss t f n = firstG (gapsL (toolL xss t) f) n := by
  unfold firstF
  rw [if_pos ⟨toolB_of h0 h1, hn⟩, Int.max_eq_left hf]
def fiS : Spec := plain fun
  | [.sl (.pair (.int .i64) (.pair (.int .i64) (.pair (.int .i64) (.int .i64)))) _, .int .i64 _, .int .i64 _, .int .i64 _, .bool _] => outV True (.bool true)
  | _ => none
end Go.AM.Ytmjeocinfoeeeaa
end

section
set_option linter.all false
namespace Go.AM.Ytmjeocinfoeeeaa
open Go.Proofs
set_option maxRecDepth 100000
set_option maxHeartbeats 8000000
structure Apart (m : List Bk.El) : Prop where
  good : ∀ b ∈ m, GoodB b
  pw : m.Pairwise fun a b => ¬ (tlB a = tlB b ∧ meet a b)
theorem Apart.perm {m l : List Bk.El} (h : Apart m) (p : l.Perm m) : Apart l := ⟨fun b hb => h.good b (p.mem_iff.1 hb), (p.pairwise_iff fun {a b} h k => h ⟨k.1.symm, k.2.2, k.2.1⟩).2 h.pw⟩
theorem getI_mem {m : List Bk.El} {i : Nat} (h : i < m.length) : getI m Bk.dflt i ∈ m := by
  have : getI m Bk.dflt i = m[i] := by simp [getI, List.getD, List.getElem?_eq_getElem h]
  rw [this]; exact List.getElem_mem h
theorem Apart.next {m : List Bk.El} (h : Apart m) {i : Nat} (hi : i < m.length) {xss : List (List Bk.El)} (g : CalG xss) (hk : Kept xss (m.take i)) : freeF xss (getI m Bk.dflt i) = true := by
  rw [hk.free g, Bool.and_eq_true]
  refine ⟨?_, (validB_iff _).2 (h.good _ (getI_mem hi))⟩
  rw [Bool.not_eq_true', List.any_eq_false]
  intro c hc hcl
  obtain ⟨h1, h2⟩ := clash_iff.1 hcl
  obtain ⟨j, hj, rfl⟩ := List.getElem_of_mem hc
  rw [List.length_take] at hj
  have := List.pairwise_iff_getElem.1 h.pw j i (by omega) hi (by omega)
  rw [List.getElem_take] at h1 h2
  have e : getI m Bk.dflt i = m[i] := by simp [getI, List.getD, List.getElem?_eq_getElem hi]
  rw [e] at h1 h2
  exact this ⟨h1, h2⟩
theorem some_tool {x : List t4.El} {b : Bk.El} (h : b ∈ someF x) : tlB b < 6 := by
  unfold someF at h
  obtain ⟨e, _, rfl⟩ := List.mem_map.1 h
  exact (pick_b (c := e.1) (n := 6) (by omega)).2
theorem flat_apart {xss : List (List Bk.El)} (g : CalG xss) (k : Nat) (hk : k ≤ 60) : Apart (xss.take k).flatten ∧ ∀ c, (c ∈ (xss.take k).flatten ↔ 0 ≤ tlB c ∧ tlB c < k ∧ inC xss c) := by
  have hl := g.len
  have e : ∀ j (hj : j < xss.length), xss[j] = getI xss [] j := fun j hj => by simp [getI, List.getD, List.getElem?_eq_getElem hj]
  have hin : ∀ c, c ∈ (xss.take k).flatten ↔ 0 ≤ tlB c ∧ tlB c < k ∧ inC xss c := fun c => by
    rw [List.mem_flatten]
    constructor
    · rintro ⟨l, h1, h2⟩
      obtain ⟨j, hj, rfl⟩ := List.getElem_of_mem h1
      rw [List.length_take] at hj
      rw [List.getElem_take, e j (by omega)] at h2
      have ht := ((g.each j (by omega)).all c h2).2
      refine ⟨by omega, by omega, ?_⟩
      unfold inC toolL
      rw [show (tlB c).toNat = j by omega]
      exact h2
    · rintro ⟨h0, h1, h2⟩
      unfold inC toolL at h2
      refine ⟨_, ?_, h2⟩
      have hj : (tlB c).toNat < xss.length := by omega
      rw [← e _ hj]
      exact List.mem_take_iff_getElem.2 ⟨(tlB c).toNat, by omega, rfl⟩
  refine ⟨⟨fun b hb => ?_, List.pairwise_flatten.2 ⟨fun l hl' => ?_, ?_⟩⟩, hin⟩
  · obtain ⟨h0, h1, h2⟩ := (hin b).1 hb
    exact g.good h2 h0 (by omega)
  · obtain ⟨j, hj, rfl⟩ := List.getElem_of_mem hl'
    rw [List.length_take] at hj
    rw [List.getElem_take, e j (by omega)]
    refine (g.each j (by omega)).ord.imp fun {a b} h1 h2 => ?_
    have := h2.2.2
    omega
  · rw [List.pairwise_iff_getElem]
    intro i j hi hj hij a ha b hb hc
    rw [List.length_take] at hi hj
    rw [List.getElem_take, e i (by omega)] at ha
    rw [List.getElem_take, e j (by omega)] at hb
    have h1 := ((g.each i (by omega)).all a ha).2
    have h2 := ((g.each j (by omega)).all b hb).2
    omega
theorem flat_le (xss : List (List Bk.El)) (k : Nat) : (xss.take k).flatten.length ≤ lenF xss := by
  have := congrArg lenF (List.take_append_drop k xss)
  rw [flat_len]
  unfold lenF at *
  rw [List.map_append, List.sum_append] at this
  omega
def orS : Spec := plain fun
  | [.sl (.pair (.int .i64) (.pair (.int .i64) (.pair (.int .i64) (.int .i64)))) _, .sl (.int .i64) _] => outV True (.bool true)
  | _ => none
end Go.AM.Ytmjeocinfoeeeaa
end

section
set_option linter.all false
namespace Go.AM.Ytmjeocinfoeeeaa
open Go.Proofs
set_option maxRecDepth 100000
set_option maxHeartbeats 8000000
def own77 (b : Bk.El) : Bk.El := (b.1, b.2.1, b.2.2.1, 77)
theorem some_owner {x : List t4.El} {b : Bk.El} (h : b ∈ someF x) : owB b ≤ 6 := by
  unfold someF at h
  obtain ⟨e, _, rfl⟩ := List.mem_map.1 h
  have := (pick_b (c := e.2.2.2) (n := 6) (by omega)).2
  show 1 + pickF e.2.2.2 6 ≤ 6
  omega
theorem others {l : List Bk.El} (hl : ∀ b ∈ l, owB b = 77) {c : Bk.El} (h0 : 0 ≤ tlB c) (hc : owB c ≠ 77) : ∀ {xss : List (List Bk.El)}, CalG xss → (inC (bookAll l xss) c ↔ inC xss c) := by
  induction l with
  | nil => intro xss _; exact Iff.rfl
  | cons b l ih =>
    intro xss g
    have h1 := ih (fun b hb => hl b (List.mem_cons_of_mem _ hb)) (book_good g b).1
    have h2 : inC (bookAll (b :: l) xss) c ↔ inC (bookF xss b) c := h1
    rw [h2]
    cases hf : freeF xss b
    · rw [book_no hf]
    · rw [(book_yes g hf).2.1 c h0]
      constructor
      · rintro (rfl | h)
        · exact absurd (hl _ (by simp)) hc
        · exact h
      · exact .inr
theorem more {l : List Bk.El} {c : Bk.El} (h0 : 0 ≤ tlB c) : ∀ {xss : List (List Bk.El)}, CalG xss → inC xss c → inC (bookAll l xss) c := by
  induction l with
  | nil => intro xss _ h; exact h
  | cons b l ih =>
    intro xss g h
    refine ih (book_good g b).1 ?_
    cases hf : freeF xss b
    · rw [book_no hf]; exact h
    · exact ((book_yes g hf).2.1 c h0).2 (.inr h)
theorem freed_flat (xss : List (List Bk.El)) (o : Int) : (freedF xss o).flatten = xss.flatten.filter fun b => !ownsB o b := by
  unfold freedF delF
  rw [List.filter_flatten]
theorem freed_in {xss : List (List Bk.El)} (h : xss.length = 60) {o : Int} {c : Bk.El} (h0 : 0 ≤ tlB c) (h1 : tlB c < 60) : inC (freedF xss o) c ↔ inC xss c ∧ owB c ≠ o := by
  unfold inC toolL
  have e : getI (freedF xss o) [] (tlB c).toNat = delF (getI xss [] (tlB c).toNat) o := by
    unfold freedF getI
    rw [List.getD_eq_getElem?_getD, List.getD_eq_getElem?_getD, List.getElem?_map, List.getElem?_eq_getElem (by omega)]
    rfl
  rw [e]
  unfold delF
  rw [List.mem_filter]
  unfold ownsB
  simp [owB]
theorem filter_two (l : List Bk.El) (p : Bk.El → Bool) : (l.filter p).length + (l.filter fun b => !p b).length = l.length := by
  induction l with
  | nil => rfl
  | cons b l ih =>
    cases hp : p b
    · simp only [List.filter_cons, hp, List.length_cons, Bool.not_false, if_true]
      simp
      omega
    · simp only [List.filter_cons, hp, List.length_cons, Bool.not_true, if_true]
      simp
      omega
theorem freed_len (xss : List (List Bk.El)) (o : Int) : lenF (freedF xss o) + (ownedF xss o).length = lenF xss := by
  have := filter_two xss.flatten (ownsB o)
  rw [← freed_flat] at this
  unfold ownedF
  rw [← flat_len, ← flat_len xss]
  omega
def Before (a b : Bk.El) : Prop := tlB a < tlB b ∨ (tlB a = tlB b ∧ enB a ≤ stB b)
theorem flat_order {xss : List (List Bk.El)} (g : CalG xss) : xss.flatten.Pairwise Before := by
  have hl := g.len
  have e : ∀ j (hj : j < xss.length), xss[j] = getI xss [] j := fun j hj => by simp [getI, List.getD, List.getElem?_eq_getElem hj]
  refine List.pairwise_flatten.2 ⟨fun l hl' => ?_, ?_⟩
  · obtain ⟨j, hj, rfl⟩ := List.getElem_of_mem hl'
    rw [e j hj]
    have hg := g.each j (by omega)
    refine List.pairwise_iff_getElem.2 fun p q hp hq hpq => ?_
    have h1 := List.pairwise_iff_getElem.1 hg.ord p q hp hq hpq
    have h2 := (hg.all _ (List.getElem_mem hp)).2
    have h3 := (hg.all _ (List.getElem_mem hq)).2
    exact .inr ⟨by omega, h1⟩
  · rw [List.pairwise_iff_getElem]
    intro i j hi hj hij a ha b hb
    rw [e i hi] at ha
    rw [e j hj] at hb
    have h1 := ((g.each i (by omega)).all a ha).2
    have h2 := ((g.each j (by omega)).all b hb).2
    exact .inl (by omega)
theorem flat_all {xss : List (List Bk.El)} (g : CalG xss) : Apart xss.flatten ∧ ∀ c, (c ∈ xss.flatten ↔ 0 ≤ tlB c ∧ tlB c < 60 ∧ inC xss c) := by
  have := flat_apart g 60 (by omega)
  rwa [List.take_of_length_le (by rw [g.len]; omega)] at this
theorem two_apart {xss : List (List Bk.El)} (g : CalG xss) {a b : Bk.El} (ha : inC xss a) (hb : inC xss b) (h0 : 0 ≤ tlB a) (h1 : tlB a < 60) (ht : tlB a = tlB b) (hne : a ≠ b) : ¬ meet a b := fun hm => by
  unfold inC at ha hb
  rw [← ht] at hb
  have hg := g.tool h0 h1
  obtain ⟨i, hi, hia⟩ := List.getElem_of_mem ha
  obtain ⟨j, hj, hjb⟩ := List.getElem_of_mem hb
  have m1 := hm.1
  have m2 := hm.2
  have hp := List.pairwise_iff_getElem.1 hg.ord
  rcases Nat.lt_trichotomy i j with h | h | h
  · have := hp i j hi hj h
    rw [hia, hjb] at this
    omega
  · subst h; exact hne (hia.symm.trans hjb)
  · have := hp j i hj hi h
    rw [hia, hjb] at this
    omega
structure Again (x0 x1 xss : List (List Bk.El)) (m : List Bk.El) : Prop where
  mem : ∀ c, 0 ≤ tlB c → (inC xss c ↔ inC x0 c ∨ c ∈ m)
  good : CalG xss
  len : lenF xss = lenF x0 + m.length
theorem again_no {x0 x1 : List (List Bk.El)} (g : CalG x0) : Again x0 x1 x0 [] := ⟨fun c _ => by simp, g, by simp⟩
theorem Again.free {x0 x1 xss : List (List Bk.El)} {m : List Bk.El} (h : Again x0 x1 xss m) (g1 : CalG x1) (h01 : ∀ c, 0 ≤ tlB c → inC x0 c → inC x1 c) (hm : ∀ c ∈ m, inC x1 c) {b : Bk.El} (hb : inC x1 b) (h0 : 0 ≤ tlB b) (h1 : tlB b < 60)
    (hnew : ∀ c, inC x0 c ∨ c ∈ m → c ≠ b) : freeF xss b = true := by
  refine free_iff.2 ⟨g1.good hb h0 h1, fun c hc hcm => ?_⟩
  have ht := ((h.good.tool h0 h1).all c hc)
  have hte : tlB c = tlB b := by have := ht.2; have := ht.1.t0; omega
  have hcc : inC xss c := by unfold inC; rw [hte]; exact hc
  have hor := (h.mem c (by omega)).1 hcc
  have hc1 : inC x1 c := by
    rcases hor with h' | h'
    · exact h01 c (by omega) h'
    · exact hm c h'
  exact two_apart g1 hc1 hb (by omega) (by omega) hte (hnew c hor) hcm
theorem Again.yes {x0 x1 xss : List (List Bk.El)} {m : List Bk.El} (h : Again x0 x1 xss m) {b : Bk.El} (hf : freeF xss b = true) : Again x0 x1 (bookF xss b) (m ++ [b]) := by
  obtain ⟨h1, h2, h3⟩ := book_yes h.good hf
  refine ⟨fun c hc => ?_, h1, by rw [h3, h.len, List.length_append]; rfl⟩
  rw [h2 c hc, h.mem c hc, List.mem_append, List.mem_singleton]
  constructor
  · rintro (h | h | h)
    · exact .inr (.inr h)
    · exact .inl h
    · exact .inr (.inl h)
  · rintro (h | h | h)
    · exact .inr (.inl h)
    · exact .inr (.inr h)
    · exact .inl h
theorem err_free (xss : List (List Bk.El)) (b : Bk.El) : decide (errF xss b = 0) = freeF xss b := by
  unfold errF
  cases freeF xss b <;> decide
theorem err_free' (xss : List (List Bk.El)) (b : Bk.El) : decide (errF xss b ≠ 0) = !freeF xss b := by
  unfold errF
  cases freeF xss b <;> decide
theorem own_take {l : List Bk.El} {i : Nat} (h : i < l.length) (xss : List (List Bk.El)) : bookAll ((l.take (i + 1)).map own77) xss = bookF (bookAll ((l.take i).map own77) xss) (own77 (getI l Bk.dflt i)) := by
  rw [take_succ_getI (d := Bk.dflt) h, List.map_append, bookAll_append]; rfl
def badOrd (j t t' s s' : Int) : Bool := decide (0 < j) && (decide (t < t') || (decide (t = t') && decide (s ≤ s')))
def frS : Spec := plain fun
  | [.sl (.pair (.int .i64) (.pair (.int .i64) (.pair (.int .i64) (.int .i64)))) _, .sl (.pair (.int .i64) (.pair (.int .i64) (.pair (.int .i64) (.int .i64)))) _] => outV True (.bool true)
  | _ => none
end Go.AM.Ytmjeocinfoeeeaa
end

section
set_option linter.all false
namespace Go.AM.Ytmjeocinfoeeeaa
open Go.Proofs
theorem ord_uniq : ∀ {l m : List Bk.El}, (∀ c ∈ l, GoodB c) → (∀ c ∈ m, GoodB c) → l.Pairwise Before → m.Pairwise Before → (∀ c, c ∈ l ↔ c ∈ m) → l = m
  | [], [], _, _, _, _, _ => rfl
  | [], b :: m, _, _, _, _, h => absurd ((h b).2 (by simp)) (by simp)
  | a :: l, [], _, _, _, _, h => absurd ((h a).1 (by simp)) (by simp)
  | a :: l, b :: m, gl, gm, hl, hm, h => by
    obtain ⟨p1, p2⟩ := List.pairwise_cons.1 hl
    obtain ⟨q1, q2⟩ := List.pairwise_cons.1 hm
    have sa := (gl a (by simp)).se
    have sb := (gm b (by simp)).se
    have hab : a = b := by
      rcases List.mem_cons.1 ((h a).1 (by simp)) with h1 | h1
      · exact h1
      · rcases List.mem_cons.1 ((h b).2 (by simp)) with h2 | h2
        · exact h2.symm
        · have h3 := q1 a h1
          have h4 := p1 b h2
          rcases h3 with h3 | h3 <;> rcases h4 with h4 | h4 <;> omega
    subst hab
    have hn1 : a ∉ l := fun h1 => by
      rcases p1 a h1 with h2 | h2 <;> omega
    have hn2 : a ∉ m := fun h1 => by
      rcases q1 a h1 with h2 | h2 <;> omega
    rw [ord_uniq (l := l) (m := m) (fun c hc => gl c (by simp [hc])) (fun c hc => gm c (by simp [hc])) p2 q2 fun c => by
      constructor
      · intro hc
        rcases List.mem_cons.1 ((h c).1 (by simp [hc])) with rfl | h1
        · exact absurd hc hn1
        · exact h1
      · intro hc
        rcases List.mem_cons.1 ((h c).2 (by simp [hc])) with rfl | h1
        · exact absurd hc hn2
        · exact h1]
theorem in_tool {xss : List (List Bk.El)} {t : Int} (h0 : 0 ≤ t) (g : CalG xss) (h1 : t < 60) {c : Bk.El} : c ∈ toolL xss t ↔ tlB c = t ∧ inC xss c := by
  constructor
  · intro h
    obtain ⟨h2, _, h3⟩ := tool_inC g h0 h1 h
    exact ⟨h2, h3⟩
  · rintro ⟨rfl, h⟩
    exact h
theorem ref_busy {xss : List (List Bk.El)} (g : CalG xss) (t s e : Int) : xss.flatten.any (meetR t s e) = busyF xss t s e := by
  rw [Bool.eq_iff_iff, busy_iff, List.any_eq_true]
  obtain ⟨_, hin⟩ := flat_all g
  constructor
  · rintro ⟨c, hc, hm⟩
    obtain ⟨h0, h1, h2⟩ := (hin c).1 hc
    unfold meetR at hm
    simp only [Bool.and_eq_true, decide_eq_true_eq] at hm
    obtain ⟨⟨⟨h3, h4⟩, h5⟩, h6⟩ := hm
    have h3 : tlB c = t := h3
    subst h3
    exact ⟨h0, h1, h4, c, h2, h5, h6⟩
  · rintro ⟨h0, h1, h2, c, hc, h3, h4⟩
    obtain ⟨h5, h6⟩ := (in_tool h0 g h1).1 hc
    refine ⟨c, (hin c).2 ⟨by omega, by omega, h6⟩, ?_⟩
    unfold meetR
    simp only [Bool.and_eq_true, decide_eq_true_eq]
    exact ⟨⟨⟨h5, h2⟩, h3⟩, h4⟩
theorem ref_list {xss : List (List Bk.El)} (g : CalG xss) (t : Int) : xss.flatten.filter (fun b => decide (b.1 = t)) = listF xss t := by
  obtain ⟨ha, hin⟩ := flat_all g
  unfold listF
  by_cases ht : toolB t = true
  · rw [if_pos ht]
    obtain ⟨h0, h1⟩ := toolB_true ht
    have hg := g.tool h0 h1
    refine ord_uniq (fun c hc => ha.good c (List.mem_filter.1 hc).1) (fun c hc => (hg.all c hc).1) ((flat_order g).sublist List.filter_sublist) ?_ fun c => ?_
    · refine List.pairwise_iff_getElem.2 fun p q hp hq hpq => ?_
      have h2 := List.pairwise_iff_getElem.1 hg.ord p q hp hq hpq
      have h3 := (hg.all _ (List.getElem_mem hp)).2
      have h4 := (hg.all _ (List.getElem_mem hq)).2
      exact .inr ⟨by omega, h2⟩
    · rw [List.mem_filter, decide_eq_true_eq, in_tool h0 g h1, hin]
      constructor
      · rintro ⟨⟨h2, h3, h4⟩, h5⟩
        exact ⟨h5, h4⟩
      · rintro ⟨h5, h4⟩
        exact ⟨⟨by omega, by omega, h4⟩, h5⟩
  · rw [if_neg ht, List.filter_eq_nil_iff]
    intro c hc hct
    obtain ⟨h0, h1, _⟩ := (hin c).1 hc
    have hct : tlB c = t := of_decide_eq_true hct
    exact ht (toolB_of (by omega) (by omega))
theorem ref_free {xss : List (List Bk.El)} (g : CalG xss) (b : Bk.El) : freeR xss.flatten b = freeF xss b := by
  unfold freeR freeF
  rw [ref_busy g]
theorem ref_err {xss : List (List Bk.El)} (g : CalG xss) (b : Bk.El) : errR xss.flatten b = errF xss b := by
  unfold errR errF
  rw [ref_free g]
theorem ahead_iff {b c : Bk.El} : aheadB b c = true ↔ tlB c < tlB b ∨ (tlB c = tlB b ∧ stB c < stB b) := by
  unfold aheadB
  simp only [Bool.or_eq_true, Bool.and_eq_true, decide_eq_true_eq]
  exact Iff.rfl
theorem ahead_split {l : List Bk.El} (hg : ∀ c ∈ l, GoodB c) (ho : l.Pairwise Before) (b : Bk.El) : (∀ c ∈ l.take (posR l b), aheadB b c = true) ∧ (∀ c ∈ l.drop (posR l b), aheadB b c = false) := by
  unfold posR
  induction l with
  | nil => simp
  | cons x l ih =>
    obtain ⟨h1, h2⟩ := List.pairwise_cons.1 ho
    obtain ⟨i1, i2⟩ := ih (fun c hc => hg c (by simp [hc])) h2
    cases hx : aheadB b x
    · rw [List.takeWhile_cons_of_neg (by rw [hx]; simp)]
      refine ⟨by simp, fun c hc => ?_⟩
      rcases List.mem_cons.1 hc with rfl | hc
      · exact hx
      · have h3 := h1 c hc
        have hxs := (hg x (by simp)).se
        rw [← Bool.not_eq_true, ahead_iff] at hx ⊢
        rcases h3 with h3 | h3 <;> omega
    · rw [List.takeWhile_cons_of_pos hx]
      refine ⟨fun c hc => ?_, i2⟩
      rcases List.mem_cons.1 hc with rfl | hc
      · exact hx
      · exact i1 c hc
theorem ref_book {xss : List (List Bk.El)} (g : CalG xss) (b : Bk.El) : bookR xss.flatten b = (bookF xss b).flatten := by
  unfold bookR
  rw [ref_free g]
  cases hf : freeF xss b
  · rw [book_no hf]; rfl
  · rw [if_pos rfl]
    obtain ⟨g1, h1, _⟩ := book_yes g hf
    obtain ⟨ha, hin⟩ := flat_all g
    obtain ⟨ha1, hin1⟩ := flat_all g1
    obtain ⟨hb, hn⟩ := free_iff.1 hf
    have ho := flat_order g
    obtain ⟨s1, s2⟩ := ahead_split ha.good ho b
    have hmem : ∀ c, c ∈ xss.flatten.take (posR xss.flatten b) ++ ([b] ++ xss.flatten.drop (posR xss.flatten b)) ↔ c = b ∨ c ∈ xss.flatten := fun c => by
      conv => rhs; rw [← List.take_append_drop (posR xss.flatten b) xss.flatten]
      simp only [List.mem_append, List.mem_singleton]
      constructor
      · rintro (h | h | h)
        · exact .inr (.inl h)
        · exact .inl h
        · exact .inr (.inr h)
      · rintro (h | h | h)
        · exact .inr (.inl h)
        · exact .inl h
        · exact .inr (.inr h)
    have hnm : ∀ c ∈ xss.flatten, tlB c = tlB b → ¬ meet c b := fun c hc ht => by
      obtain ⟨c0, c1, c2⟩ := (hin c).1 hc
      exact hn c ((in_tool hb.t0 g hb.t1).2 ⟨ht, c2⟩)
    have hbe := hb.se
    have hleft : ∀ c ∈ xss.flatten.take (posR xss.flatten b), Before c b := fun c hc => by
      have h3 := ahead_iff.1 (s1 c hc)
      have hcl := List.mem_of_mem_take hc
      rcases h3 with h3 | ⟨h3, h4⟩
      · exact .inl h3
      · refine .inr ⟨h3, ?_⟩
        have h5 := hnm c hcl h3
        have h6 : ¬ stB b < enB c := fun h => h5 ⟨by omega, h⟩
        omega
    have hright : ∀ c ∈ xss.flatten.drop (posR xss.flatten b), Before b c := fun c hc => by
      have h3 := s2 c hc
      rw [← Bool.not_eq_true, ahead_iff] at h3
      have hcl := List.mem_of_mem_drop hc
      have hcs := (ha.good c hcl).se
      rcases Int.lt_trichotomy (tlB b) (tlB c) with h4 | h4 | h4
      · exact .inl h4
      · refine .inr ⟨h4, ?_⟩
        have h5 := hnm c hcl h4.symm
        have h6 : ¬ stB c < enB b := fun h => h5 ⟨h, by omega⟩
        omega
      · omega
    refine ord_uniq (fun c hc => ?_) ha1.good ?_ (flat_order g1) fun c => ?_
    · rcases (hmem c).1 hc with rfl | hc
      · exact hb
      · exact ha.good c hc
    · refine List.pairwise_append.2 ⟨ho.sublist (List.take_sublist _ _), List.pairwise_append.2 ⟨by simp, ho.sublist (List.drop_sublist _ _), fun a ha c hc => ?_⟩, fun a ha c hc => ?_⟩
      · rw [List.mem_singleton.1 ha]; exact hright c hc
      · rcases List.mem_append.1 hc with hc | hc
        · rw [List.mem_singleton.1 hc]; exact hleft a ha
        · have := List.pairwise_append.1 (show (xss.flatten.take (posR xss.flatten b) ++ xss.flatten.drop (posR xss.flatten b)).Pairwise Before by rw [List.take_append_drop]; exact ho)
          exact this.2.2 a ha c hc
    · rw [hmem, hin1, hin]
      constructor
      · rintro (rfl | ⟨h2, h3, h4⟩)
        · exact ⟨hb.t0, hb.t1, (h1 _ hb.t0).2 (.inl rfl)⟩
        · exact ⟨h2, h3, (h1 _ h2).2 (.inr h4)⟩
      · rintro ⟨h2, h3, h4⟩
        rcases (h1 _ h2).1 h4 with h5 | h5
        · exact .inl h5
        · exact .inr ⟨h2, h3, h5⟩
theorem fold_stay {t n : Int} : ∀ {l : List Bk.El} {f : Int}, (∀ c ∈ l, ¬ (f ≤ 1000000 - n ∧ stB c < f + n)) → foldR t n l f = f
  | [], f, _ => rfl
  | b :: l, f, h => by
    have h1 := h b (by simp)
    have : stepR t n f b = f := by
      unfold stepR
      rw [if_neg]
      rintro ⟨_, h2, h3, _⟩
      exact h1 ⟨h2, h3⟩
    show foldR t n l (stepR t n f b) = f
    rw [this]
    exact fold_stay fun c hc => h c (by simp [hc])
theorem fold_filter {t n : Int} : ∀ {l : List Bk.El} {f : Int}, foldR t n l f = foldR t n (l.filter fun b => decide (b.1 = t)) f
  | [], f => rfl
  | b :: l, f => by
    by_cases hb : b.1 = t
    · rw [List.filter_cons_of_pos (by simpa using hb)]
      exact fold_filter (l := l)
    · rw [List.filter_cons_of_neg (by simpa using hb)]
      have : stepR t n f b = f := by
        unfold stepR
        rw [if_neg fun h => hb h.1]
      show foldR t n l (stepR t n f b) = _
      rw [this]
      exact fold_filter (l := l)
theorem firstG_cons (g : Int × Int) (gs : List (Int × Int)) (n : Int) : firstG (g :: gs) n = if longB n g = true then (g.1, true) else firstG gs n := by
  unfold firstG
  cases h : longB n g
  · rw [List.find?_cons_of_neg (by rw [h]; simp)]; simp
  · rw [List.find?_cons_of_pos h]; simp
theorem long_eq {n a b : Int} (h0 : 0 ≤ a) (h1 : b ≤ 1000000) (h2 : 0 ≤ b) (h3 : a ≤ 1000000) : longB n (a, b) = decide (n ≤ b - a) := by
  unfold longB
  rw [wrap64_id (by show _ ≤ b - a; omega) (by show b - a < _; omega)]
theorem fold_first {t : Nat} {n : Int} (hn : 1 ≤ n) (hn1 : n ≤ 1000000) : ∀ {l : List Bk.El} {f : Int}, GoodL t l → 0 ≤ f →
    firstG (gapsL l f) n = if 1000000 - n < foldR t n l f then (0, false) else (foldR t n l f, true)
  | [], f, _, hf => by
    show firstG (if f < 1000000 then [(f, 1000000)] else []) n = if 1000000 - n < f then (0, false) else (f, true)
    by_cases h : f < 1000000
    · rw [if_pos h, firstG_cons, long_eq hf (by omega) (by omega) (by omega)]
      by_cases h2 : 1000000 - n < f
      · rw [if_pos h2, if_neg (by rw [decide_eq_true_eq]; omega)]; rfl
      · rw [if_neg h2, if_pos (by rw [decide_eq_true_eq]; omega)]
    · rw [if_neg h, if_pos (by omega)]; rfl
  | b :: l, f, h, hf => by
    have hl : GoodL t l := ⟨fun c hc => h.all c (by simp [hc]), (List.pairwise_cons.1 h.ord).2⟩
    obtain ⟨hb, hbt⟩ := h.all b (by simp)
    have h1 := (List.pairwise_cons.1 h.ord).1
    have hbs := hb.se
    have hb0 := hb.s0
    have hb1 := hb.e1
    have hmx : f ≤ max f (enB b) ∧ enB b ≤ max f (enB b) := ⟨Int.le_max_left _ _, Int.le_max_right _ _⟩
    have ih := fold_first hn hn1 (l := l) (f := max f (enB b)) hl (by omega)
    have e1 : gapsL (b :: l) f = (if f < stB b then [(f, stB b)] else []) ++ gapsL l (max f (enB b)) := rfl
    have e2 : foldR t n (b :: l) f = foldR t n l (stepR t n f b) := rfl
    rw [e1, e2]
    by_cases hlong : f + n ≤ stB b
    · rw [if_pos (by omega), List.singleton_append, firstG_cons, long_eq hf (by omega) (by omega) (by omega), if_pos (by rw [decide_eq_true_eq]; omega)]
      have e3 : stepR t n f b = f := by
        unfold stepR
        rw [if_neg]
        rintro ⟨_, _, h3, _⟩
        have h3 : stB b < f + n := h3
        omega
      rw [e3, fold_stay fun c hc h2 => by have := h1 c hc; omega, if_neg (by omega)]
    · have e4 : firstG ((if f < stB b then [(f, stB b)] else []) ++ gapsL l (max f (enB b))) n = firstG (gapsL l (max f (enB b))) n := by
        by_cases h2 : f < stB b
        · rw [if_pos h2, List.singleton_append, firstG_cons, long_eq hf (by omega) (by omega) (by omega), if_neg (by rw [decide_eq_true_eq]; omega)]
        · rw [if_neg h2, List.nil_append]
      rw [e4, ih]
      by_cases hs : f ≤ 1000000 - n
      · have e3 : stepR t n f b = max f (enB b) := by
          unfold stepR
          by_cases h3 : f < enB b
          · rw [if_pos ⟨hbt, hs, by show stB b < f + n; omega, h3⟩, Int.max_eq_right (by omega)]; rfl
          · rw [if_neg fun h => h3 h.2.2.2, Int.max_eq_left (by omega)]
        rw [e3]
      · have e3 : stepR t n f b = f := by
          unfold stepR
          rw [if_neg fun h => hs h.2.1]
        have h4 := foldR_le t n l (max f (enB b))
        rw [e3, fold_stay fun c hc h2 => hs h2.1, if_pos (by omega), if_pos (by omega)]
theorem ref_first {xss : List (List Bk.El)} (g : CalG xss) (t f n : Int) : refFirstF xss.flatten t f n = firstF xss t f n := by
  unfold refFirstF firstF
  by_cases ht : toolB t = true ∧ 1 ≤ n
  · rw [if_pos ht]
    obtain ⟨h0, h1⟩ := toolB_true ht.1
    have hg := g.tool h0 h1
    have hmx : 0 ≤ max f 0 := Int.le_max_right _ _
    have el : (xss.flatten.filter fun b => decide (b.1 = t)) = toolL xss t := by
      rw [ref_list g]; unfold listF; rw [if_pos ht.1]
    by_cases hn : n ≤ 1000000
    · rw [if_neg (by omega), fold_filter, el]
      have := fold_first ht.2 hn hg hmx
      rw [show ((t.toNat : Nat) : Int) = t by omega] at this
      rw [this]
    · rw [if_pos (by omega)]
      have : firstG (gapsL (toolL xss t) (max f 0)) n = (0, false) := by
        unfold firstG
        have hno : (gapsL (toolL xss t) (max f 0)).find? (longB n) = none := List.find?_eq_none.2 fun g hgm => by
          obtain ⟨a1, a2, a3, _⟩ := gaps_spec hg hmx g hgm
          rw [long_iff hg hmx g hgm]
          omega
        rw [hno]
      rw [this]
  · rw [if_neg ht, if_pos]
    apply Classical.byContradiction
    intro h
    exact ht ⟨toolB_of (by omega) (by omega), by omega⟩
end Go.AM.Ytmjeocinfoeeeaa
end

section
set_option linter.all false
namespace Go.AM.Ytmjeocinfoeeeaa.Pl
open Go.Proofs
abbrev tStage : Ty := .pair (.int .i64) (.pair (.int .i64) (.pair (.pair (.int .i64) (.int .i64)) (.pair (.int .i64) (.int .i64))))
abbrev tWin : Ty := .pair (.int .i64) (.pair (.int .i64) (.int .i64))
abbrev tVisit : Ty := .pair (.int .i64) (.pair (.int .i64) (.pair (.int .i64) (.int .i64)))
abbrev tBook : Ty := .pair (.int .i64) (.pair (.int .i64) (.pair (.int .i64) (.int .i64)))
abbrev tSix : Ty := .pair (.int .i64) (.pair (.int .i64) (.pair (.int .i64) (.pair (.int .i64) (.pair (.int .i64) (.int .i64)))))
abbrev tTwo : Ty := .pair (.int .i64) (.int .i64)
end Go.AM.Ytmjeocinfoeeeaa.Pl
end
