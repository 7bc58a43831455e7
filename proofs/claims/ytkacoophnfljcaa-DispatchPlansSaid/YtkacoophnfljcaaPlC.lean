/- plan.Valid. -/
import Derived.Test.YtkacoophnfljcaaPlB
set_option linter.all false
namespace Go.AM.Ytkacoophnfljcaa.Pl
open Go.Proofs
set_option maxRecDepth 100000
set_option maxHeartbeats 4000000

def validF (e a b : Int) (xs : List tStage.El) (ws : List tWin.El) : Bool :=
  withinF e 0 1000000 && withinF a 0 b && decide (b ≤ 10000) && withinF (xs.length : Int) 1 8 && decide ((ws.length : Int) ≤ 20) && (!xs.any badSt && !(duo (-1, 0, 0) ws).any (badW xs.length))

def validS : Spec := plain fun
  | [.agg [.int .i64 e, .int .i64 a, .int .i64 b, .sl (.pair (.int .i64) (.pair (.int .i64) (.pair (.pair (.int .i64) (.int .i64)) (.pair (.int .i64) (.int .i64))))) xs, .sl (.pair (.int .i64) (.pair (.int .i64) (.int .i64))) ws]] => outV True (.bool (validF e a b xs ws))
  | _ => none

theorem validOk : SpecSound Try.prog 67 validS := by
  refine sound0 sigValidOk Try.func67 (c := body Try.f67) rfl (by kernel_rfl) ?_
  intro args out hf hpre
  split at hf <;> try (cases hf; done)
  rename_i e a b xs ws
  cases hf
  refine ⟨Nat.le_of_ble_eq_true rfl, ?_⟩
  conv => whnf
  refine aI trivial ?_
  conv => whnf
  refine aI ?_ ?_
  · conv => whnf
    intro _; trivial
  conv => whnf
  refine bI (fun c1 => ?_) (fun c1 => ?_)
  · conv => whnf
    refine ⟨[], _, rfl, rfl, eBool ?_, trivial, rfl, rfl, rfl, fun _ => ⟨rfl, rfl, rfl⟩⟩
    unfold validF
    simp only [Bool.or_eq_true, Bool.not_eq_true', decide_eq_true_eq] at c1
    rcases c1 with (c1 | c1) | c1
    · simp [c1]
    · simp [c1]
    · have : decide (b ≤ 10000) = false := by simp; omega
      simp [this]
  · simp only [Bool.or_eq_false_iff, Bool.not_eq_false', decide_eq_false_iff_not] at c1
    obtain ⟨⟨c1, c2⟩, c3⟩ := c1
    have c3' : decide (b ≤ 10000) = true := by simp; omega
    conv => whnf
    refine aI trivial ?_
    conv => whnf
    refine bI (fun c4 => ?_) (fun c4 => ?_)
    · conv => whnf
      refine ⟨[], _, rfl, rfl, eBool ?_, trivial, rfl, rfl, rfl, fun _ => ⟨rfl, rfl, rfl⟩⟩
      unfold validF
      simp only [Bool.or_eq_true, Bool.not_eq_true', decide_eq_true_eq] at c4
      rcases c4 with c4 | c4
      · simp [c4]
      · have : decide ((ws.length : Int) ≤ 20) = false := by simp; omega
        rw [this]; simp
    · simp only [Bool.or_eq_false_iff, Bool.not_eq_false', decide_eq_false_iff_not] at c4
      obtain ⟨c4, c5⟩ := c4
      have c5' : decide ((ws.length : Int) ≤ 20) = true := by simp; omega
      have c6 := c4
      unfold withinF at c6
      simp only [Bool.and_eq_true, decide_eq_true_eq] at c6
      conv => whnf
      refine aI (by show xs.length ≤ 1000000000000; omega) ?_
      conv => whnf
      refine aI ?_ ?_
      · conv => whnf
        intro _
        show ws.length ≤ 1000000000000
        omega
      conv => whnf
      refine ⟨[], _, rfl, rfl, eBool ?_, trivial, rfl, rfl, rfl, fun _ => ⟨rfl, rfl, rfl⟩⟩
      unfold validF
      rw [c1, c2, c3', c4, c5']
      rfl

def sigV : List (Nat × Spec) := [(68, withinS), (67, validS)]
theorem sigVOk : SigOk Try.prog (look sigV) := sigCons (sigCons sigNil Try.func67 (by kernel_rfl) (c := body Try.f67) rfl validOk) Try.func68 (by kernel_rfl) (c := body Try.f68) rfl withinOk

end Go.AM.Ytkacoophnfljcaa.Pl
