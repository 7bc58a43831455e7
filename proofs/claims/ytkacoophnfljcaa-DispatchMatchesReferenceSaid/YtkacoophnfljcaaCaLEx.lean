/- The law CalendarExclusive: her function. -/
import Derived.Test.YtkacoophnfljcaaCaU
set_option linter.all false
namespace Go.AM.Ytkacoophnfljcaa
open Go.Proofs
set_option maxRecDepth 100000
set_option maxHeartbeats 8000000

/-- The accepted bookings, and the calendar that they are in. -/
structure Kept (xss : List (List Bk.El)) (kept : List Bk.El) : Prop where
  mem : ∀ c, 0 ≤ tlB c → (inC xss c ↔ c ∈ kept)
  len : lenF xss = kept.length
  pos : ∀ c ∈ kept, 0 ≤ tlB c

theorem kept_no : Kept noCal [] := ⟨fun c _ => by
  unfold inC toolL
  have : getI noCal [] (tlB c).toNat = [] := by
    unfold getI noCal
    rw [List.getD_eq_getElem?_getD, List.getElem?_replicate]
    split <;> rfl
  rw [this], lenF_no, by simp⟩

def clashB (b c : Bk.El) : Bool := decide (c.1 = b.1) && decide (c.2.1 < b.2.2.1) && decide (b.2.1 < c.2.2.1)
theorem clash_iff {b c : Bk.El} : clashB b c = true ↔ tlB c = tlB b ∧ meet c b := by
  unfold clashB
  simp only [Bool.and_eq_true, decide_eq_true_eq]
  exact ⟨fun ⟨⟨h1, h2⟩, h3⟩ => ⟨h1, h2, h3⟩, fun ⟨h1, h2, h3⟩ => ⟨⟨h1, h2⟩, h3⟩⟩

theorem Kept.free {xss : List (List Bk.El)} {kept : List Bk.El} (h : Kept xss kept) (g : CalG xss) (b : Bk.El) : freeF xss b = (!(kept.any (clashB b)) && validB b.1 b.2.1 b.2.2.1 b.2.2.2) := by
  rw [Bool.eq_iff_iff, free_iff, Bool.and_eq_true, validB_iff]
  constructor
  · rintro ⟨h1, h2⟩
    refine ⟨?_, h1⟩
    rw [Bool.not_eq_true', List.any_eq_false]
    intro c hc hcl
    obtain ⟨h3, h4⟩ := clash_iff.1 hcl
    have h5 := (h.mem c (h.pos c hc)).2 hc
    unfold inC at h5
    rw [h3] at h5
    exact h2 c h5 h4
  · rintro ⟨h1, h2⟩
    refine ⟨h2, fun c hc hm => ?_⟩
    rw [Bool.not_eq_true', List.any_eq_false] at h1
    have ht : tlB c = tlB b := by
      have := ((g.tool h2.t0 h2.t1).all c hc).2
      have := h2.t0
      have := ((g.tool h2.t0 h2.t1).all c hc).1.t0
      omega
    exact h1 c ((h.mem c (by rw [ht]; exact h2.t0)).1 (by unfold inC; rw [ht]; exact hc)) (clash_iff.2 ⟨ht, hm⟩)

theorem Kept.yes {xss : List (List Bk.El)} {kept : List Bk.El} (h : Kept xss kept) (g : CalG xss) {b : Bk.El} (hf : freeF xss b = true) : Kept (bookF xss b) (kept ++ [b]) := by
  obtain ⟨_, h2, h3⟩ := book_yes g hf
  refine ⟨fun c hc => ?_, by rw [h3, h.len, List.length_append]; rfl, fun c hc => ?_⟩
  · rw [h2 c hc, h.mem c hc, List.mem_append, List.mem_singleton]
    exact Or.comm
  · rcases List.mem_append.1 hc with hc | hc
    · exact h.pos c hc
    · rw [List.mem_singleton.1 hc]; exact (free_iff.1 hf).1.t0

def exBad (e : Int) (f r : Bool) : Bool := (!(decide (e = 0) == (f && r))) || (decide (e ≠ 0) && decide (e ≠ 70))
theorem exBad_no {xss : List (List Bk.El)} {b : Bk.El} {f r : Bool} (h : freeF xss b = (f && r)) : exBad (errF xss b) f r = false := by
  unfold exBad errF
  rw [← h]
  cases freeF xss b <;> decide

def exS : Spec := plain fun
  | [.sl (.pair (.int .i64) (.pair (.int .i64) (.pair (.int .i64) (.int .i64)))) _, .agg [.int .i64 _, .int .i64 _, .int .i64 _, .int .i64 _]] => outV True (.bool true)
  | _ => none

theorem ord_get {t : Nat} {m : List Bk.El} (h : GoodL t m) {j : Nat} (hj : j + 1 < m.length) : enB (getI m Bk.dflt j) ≤ stB (getI m Bk.dflt (j + 1)) := by
  have := List.pairwise_iff_getElem.1 h.ord j (j + 1) (by omega) hj (by omega)
  simpa [getI, List.getD, List.getElem?_eq_getElem hj, List.getElem?_eq_getElem (show j < m.length by omega)] using this

end Go.AM.Ytkacoophnfljcaa
