/- plan: within, none, pick, isSlot, isStage; the stages' list. -/
import Derived.Test.YtkacoophnfljcaaPlBase
set_option linter.all false
namespace Go.AM.Ytkacoophnfljcaa.Pl
open Go.Proofs
set_option maxRecDepth 100000
set_option maxHeartbeats 4000000

def withinF (n lo hi : Int) : Bool := decide (lo ≤ n) && decide (n ≤ hi)
def withinS : Spec := plain fun
  | [.int .i64 n, .int .i64 lo, .int .i64 hi] => outV True (.bool (withinF n lo hi))
  | _ => none

theorem withinOk : SpecSound Try.prog 68 withinS := by
  refine sound0 sigNil Try.func68 (c := body Try.f68) rfl (by kernel_rfl) ?_
  intro args out hf hpre
  split at hf <;> try (cases hf; done)
  cases hf
  refine ⟨Nat.le_of_ble_eq_true rfl, ?_⟩
  conv => whnf
  exact ⟨[], _, rfl, rfl, rfl, trivial, rfl, rfl, rfl, fun _ => ⟨rfl, rfl, rfl⟩⟩

def noneS : Spec := plain fun
  | [] => outV True (.agg [.int .i64 (-1), .int .i64 0])
  | _ => none

theorem noneOk : SpecSound Try.prog 93 noneS := by
  refine sound0 sigNil Try.func93 (c := body Try.f93) rfl (by kernel_rfl) ?_
  intro args out hf hpre
  split at hf <;> try (cases hf; done)
  cases hf
  refine ⟨Nat.le_of_ble_eq_true rfl, ?_⟩
  conv => whnf
  exact ⟨[], _, rfl, rfl, aI rfl (aI rfl trivial), trivial, rfl, rfl, rfl, fun _ => ⟨rfl, rfl, rfl⟩⟩

/-- pick, where n is positive. -/
def pickF (c n : Int) : Int := (if c < 0 then -(c + 1) else c) % n
def pickS : Spec := plain fun
  | [.int .i64 c, .int .i64 n] => outV (0 < n ∧ -9223372036854775808 ≤ c ∧ c < 9223372036854775808) (.int .i64 (pickF c n))
  | _ => none

theorem pick27Ok : SpecSound Try.prog 66 pickS := by
  refine sound0 sigNil Try.func66 (c := body Try.f66) rfl (by kernel_rfl) ?_
  intro args out hf hpre
  split at hf <;> try (cases hf; done)
  rename_i c n
  cases hf
  refine ⟨Nat.le_of_ble_eq_true rfl, ?_⟩
  obtain ⟨h1, h2, h3⟩ := hpre
  conv => whnf
  refine bI (fun c1 => ?_) (fun c1 => ?_)
  · conv => whnf
    refine aI (by omega) ?_
    conv => whnf
    refine ⟨[], _, rfl, rfl, eInt ?_, trivial, rfl, rfl, rfl, fun _ => ⟨rfl, rfl, rfl⟩⟩
    simp only [decide_eq_true_eq] at c1
    simp (disch := omega) only [wrapId]
    unfold pickF
    rw [if_pos c1, Int.tmod_eq_emod_of_nonneg (by omega)]
    congr 1; omega
  · conv => whnf
    refine aI (by omega) ?_
    conv => whnf
    refine ⟨[], _, rfl, rfl, eInt ?_, trivial, rfl, rfl, rfl, fun _ => ⟨rfl, rfl, rfl⟩⟩
    simp only [decide_eq_false_iff_not] at c1
    unfold pickF
    rw [if_neg c1, Int.tmod_eq_emod_of_nonneg (by omega)]

def sigW : List (Nat × Spec) := [(68, withinS)]
theorem sigWOk : SigOk Try.prog (look sigW) := sigCons sigNil Try.func68 (by kernel_rfl) (c := body Try.f68) rfl withinOk

def isSlotF (tool start dur : Int) : Bool := withinF tool 0 59 && withinF start 0 (1000000 - dur)
def isSlotS : Spec := plain fun
  | [.agg [.int .i64 tool, .int .i64 start], .int .i64 dur] => outV (Sm dur) (.bool (isSlotF tool start dur))
  | _ => none

theorem isSlotOk : SpecSound Try.prog 102 isSlotS := by
  refine sound0 sigWOk Try.func102 (c := body Try.f102) rfl (by kernel_rfl) ?_
  intro args out hf hpre
  split at hf <;> try (cases hf; done)
  rename_i tool start dur
  cases hf
  refine ⟨Nat.le_of_ble_eq_true rfl, ?_⟩
  obtain ⟨h1, h2⟩ := hpre
  conv => whnf
  refine aI trivial ?_
  conv => whnf
  refine aI ?_ ?_
  · conv => whnf
    intro _; trivial
  conv => whnf
  refine ⟨[], _, rfl, rfl, eBool ?_, trivial, rfl, rfl, rfl, fun _ => ⟨rfl, rfl, rfl⟩⟩
  simp (disch := omega) only [wrapId]
  rfl

def sigT : List (Nat × Spec) := [(102, isSlotS), (68, withinS)]
theorem sigTOk : SigOk Try.prog (look sigT) := sigCons sigWOk Try.func102 (by kernel_rfl) (c := body Try.f102) rfl isSlotOk

def isStageF (mn mx mt ms st ss : Int) : Bool := withinF mn 1 mx && decide (mx ≤ 10000) && isSlotF mt ms mx && isSlotF st ss mx && decide (mt ≠ st)
def isStageS : Spec := plain fun
  | [.agg [.int .i64 mn, .int .i64 mx, .int .i64 mt, .int .i64 ms, .int .i64 st, .int .i64 ss]] => outV True (.bool (isStageF mn mx mt ms st ss))
  | _ => none

theorem isStageOk : SpecSound Try.prog 90 isStageS := by
  refine sound0 sigTOk Try.func90 (c := body Try.f90) rfl (by kernel_rfl) ?_
  intro args out hf hpre
  split at hf <;> try (cases hf; done)
  rename_i mn mx mt ms st ss
  cases hf
  refine ⟨Nat.le_of_ble_eq_true rfl, ?_⟩
  conv => whnf
  refine aI trivial ?_
  conv => whnf
  refine bI (fun c1 => ?_) (fun c1 => ?_)
  · conv => whnf
    refine ⟨[], _, rfl, rfl, eBool ?_, trivial, rfl, rfl, rfl, fun _ => ⟨rfl, rfl, rfl⟩⟩
    simp only [Bool.or_eq_true, Bool.not_eq_true', decide_eq_true_eq] at c1
    unfold isStageF
    rcases c1 with c1 | c1
    · simp [c1]
    · have : decide (mx ≤ 10000) = false := by simp; omega
      simp [this]
  · simp only [Bool.or_eq_false_iff, Bool.not_eq_false', decide_eq_false_iff_not] at c1
    obtain ⟨c1, c2⟩ := c1
    have c3 := c1
    unfold withinF at c3
    simp only [Bool.and_eq_true, decide_eq_true_eq] at c3
    have hs : Sm mx := by unfold Sm; omega
    conv => whnf
    refine aI hs ?_
    conv => whnf
    refine aI ?_ ?_
    · conv => whnf
      intro _; exact hs
    conv => whnf
    refine ⟨[], _, rfl, rfl, eBool ?_, trivial, rfl, rfl, rfl, fun _ => ⟨rfl, rfl, rfl⟩⟩
    unfold isStageF
    rw [c1]
    have : decide (mx ≤ 10000) = true := by simp; omega
    rw [this]
    rfl

end Go.AM.Ytkacoophnfljcaa.Pl
