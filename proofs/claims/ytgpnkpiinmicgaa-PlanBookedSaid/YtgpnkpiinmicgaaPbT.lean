/- A calendar with one booking of somebody else, in which a plan's bookings are made as far as possible. -/
import Derived.Test.YtgpnkpiinmicgaaCaLFr
set_option linter.all false
namespace Go.AM.Ytgpnkpiinmicgaa
open Go.Proofs

theorem othersO {o : Int} {l : List Bk.El} (hl : ∀ b ∈ l, owB b = o) {c : Bk.El} (h0 : 0 ≤ tlB c) (hc : owB c ≠ o) : ∀ {xss : List (List Bk.El)}, CalG xss → (inC (bookAll l xss) c ↔ inC xss c) := by
  induction l with
  | nil => intro xss _; exact Iff.rfl
  | cons b l ih =>
    intro xss g
    have h1 := ih (fun b hb => hl b (List.mem_cons_of_mem _ hb)) (book_good g b).1
    have h2 : inC (bookAll (b :: l) xss) c ↔ inC (bookF xss b) c := h1
    rw [h2]
    cases hf : freeF xss b
    · rw [book_no hf]
    · rw [(book_yes g hf).2.1 c h0]
      constructor
      · rintro (rfl | h)
        · exact absurd (hl _ (by simp)) hc
        · exact h
      · exact .inr

/-- After i of the bookings, n of them made. -/
structure Pb (b : Bk.El) (l : List Bk.El) (i n : Nat) (xss : List (List Bk.El)) : Prop where
  eq : xss = bookAll (l.take i) (bookF noCal b)
  g : CalG xss
  len : lenF xss = 1 + n
  le : n ≤ i
  all : n = i → ∀ c ∈ l.take i, inC xss c

theorem free_no {b : Bk.El} (h : GoodB b) : freeF noCal b = true := free_iff.2 ⟨h, fun c hc => by
  unfold toolL getI noCal at hc
  rw [List.getD_eq_getElem?_getD, List.getElem?_replicate] at hc
  split at hc <;> simp at hc⟩

theorem pb_zero {b : Bk.El} (h : GoodB b) (l : List Bk.El) : Pb b l 0 0 (bookF noCal b) := by
  obtain ⟨h1, _, h3⟩ := book_yes noCal_good (free_no h)
  rw [lenF_no] at h3
  exact ⟨rfl, h1, h3, Nat.le_refl _, fun _ c hc => by simp at hc⟩

theorem Pb.cal {b : Bk.El} {l : List Bk.El} {i n : Nat} {xss : List (List Bk.El)} (h : Pb b l i n xss) (hi : i ≤ 1000) : Cal xss ∧ CalS xss := by
  have h1 := h.len
  have h2 := h.le
  exact ⟨h.g.cal (by omega), h.g.sorted⟩

theorem Pb.step {b : Bk.El} {l : List Bk.El} {i n : Nat} {xss : List (List Bk.El)} (h : Pb b l i n xss) (hi : i < l.length) :
    (freeF xss (getI l Bk.dflt i) = true → Pb b l (i + 1) (n + 1) (bookF xss (getI l Bk.dflt i))) ∧ (freeF xss (getI l Bk.dflt i) = false → Pb b l (i + 1) n (bookF xss (getI l Bk.dflt i))) := by
  have e : bookAll (l.take (i + 1)) (bookF noCal b) = bookF xss (getI l Bk.dflt i) := by rw [bookAll_take hi, ← h.eq]
  have h2 := h.le
  constructor
  · intro hf
    obtain ⟨y1, y2, y3⟩ := book_yes h.g hf
    refine ⟨e.symm, y1, by rw [y3, h.len]; omega, by omega, fun hn c hc => ?_⟩
    rw [take_succ_getI (d := Bk.dflt) hi, List.mem_append, List.mem_singleton] at hc
    have hg := (free_iff.1 hf).1
    rcases hc with hc | hc
    · have hin := h.all (by omega) c hc
      by_cases h0 : 0 ≤ tlB c
      · exact (y2 c h0).2 (.inr hin)
      · -- a booking of a negative tool lies in no list
        exfalso
        unfold inC toolL at hin
        have := ((h.g.each (tlB c).toNat (by omega)).all c hin).1.t0
        omega
    · rw [hc]; exact (y2 _ hg.t0).2 (.inl rfl)
  · intro hf
    rw [book_no hf] at e ⊢
    exact ⟨e.symm, h.g, h.len, by omega, fun hn => by omega⟩

/-- In the end. -/
theorem Pb.ended {b : Bk.El} (hb : GoodB b) (h9 : owB b = 9) {l : List Bk.El} (hl : ∀ c ∈ l, owB c = 4) {i n : Nat} {xss : List (List Bk.El)} (h : Pb b l i n xss) :
    lenF (freedF xss 4) = 1 := by
  obtain ⟨g0, m0, l0⟩ := book_yes noCal_good (free_no hb)
  rw [lenF_no] at l0
  have : freedF xss 4 = bookF noCal b := cal_uniq (freed_good h.g 4) g0 fun c h0 h1 => by
    rw [freed_in h.g.len h0 h1, h.eq]
    have ho := fun hc => othersO (o := 4) (l := l.take i) (fun c hc => hl c (List.mem_of_mem_take hc)) (c := c) h0 hc g0
    constructor
    · exact fun h => (ho h.2).1 h.1
    · intro h2
      have h3 : owB c ≠ 4 := by
        rcases (m0 c h0).1 h2 with rfl | h4
        · rw [h9]; omega
        · exact absurd h4 (noCal_in c)
      exact ⟨(ho h3).2 h2, h3⟩
  rw [this, l0]

/-- If all were made, none of them meets the other one's. -/
theorem Pb.meets {b : Bk.El} (hb : GoodB b) (h9 : owB b = 9) {l : List Bk.El} (hl : ∀ c ∈ l, owB c = 4) {n : Nat} {xss : List (List Bk.El)} (h : Pb b l l.length n xss) (hn : n = l.length) {c : Bk.El} (hc : c ∈ l) (ht : tlB c = tlB b) : ¬ meet c b := by
  obtain ⟨g0, m0, l0⟩ := book_yes noCal_good (free_no hb)
  have h1 := h.all hn c (by rw [List.take_length]; exact hc)
  have h2 : inC xss b := by
    rw [h.eq]
    exact (othersO (o := 4) (fun c hc => hl c (List.mem_of_mem_take hc)) hb.t0 (by rw [h9]; omega) g0).2 ((m0 b hb.t0).2 (.inl rfl))
  have t0 := hb.t0
  have t1 := hb.t1
  exact two_apart h.g h1 h2 (by omega) (by omega) ht fun e => by
    have := hl c hc
    rw [e, h9] at this
    omega
end Go.AM.Ytgpnkpiinmicgaa
