/- plan.Possible, plan.reached. -/
import Derived.Test.YtkacoophnfljcaaPlD
set_option linter.all false
namespace Go.AM.Ytkacoophnfljcaa.Pl
open Go.Proofs
set_option maxRecDepth 100000
set_option maxHeartbeats 4000000

def sigPoss : List (Nat × Spec) := [(67, validS), (68, withinS), (93, noneS)]
theorem sigPossOk : SigOk Try.prog (look sigPoss) := sigCons (sigCons (sigCons sigNil Try.func93 (by kernel_rfl) (c := body Try.f93) rfl noneOk) Try.func68 (by kernel_rfl) (c := body Try.f68) rfl withinOk) Try.func67 (by kernel_rfl) (c := body Try.f67) rfl validOk

/-- Stage i's duration and move are within their bounds. -/
def fitsAt (a b : Int) (xs : List tStage.El) (du mo : List Int) (i : Nat) : Bool :=
  withinF (getI du 0 i) (getI xs tStage.dflt i).1 (getI xs tStage.dflt i).2.1 && withinF (getI mo 0 i) a b

def possF (e a b : Int) (xs : List tStage.El) (ws : List tWin.El) (du mo : List Int) (de tl fa : Int) : Bool :=
  validF e a b xs ws && decide (du.length = xs.length) && decide (mo.length = xs.length) && withinF de a b && (List.range xs.length).all (fitsAt a b xs du mo) &&
    ((decide (tl = -1) && decide (fa = 0)) || (withinF tl 0 59 && withinF fa 0 1000000))

def possS : Spec := plain fun
  | [.agg [.int .i64 e, .int .i64 a, .int .i64 b, .sl (.pair (.int .i64) (.pair (.int .i64) (.pair (.pair (.int .i64) (.int .i64)) (.pair (.int .i64) (.int .i64))))) xs, .sl (.pair (.int .i64) (.pair (.int .i64) (.int .i64))) ws],
      .agg [.sl (.int .i64) du, .sl (.int .i64) mo, .int .i64 de, .int .i64 tl, .int .i64 fa]] => outV (xs.length ≤ 1000000000000) (.bool (possF e a b xs ws du mo de tl fa))
  | _ => none

theorem possOk : SpecSound Try.prog 69 possS := by
  refine sound0 sigPossOk Try.func69 (c := body Try.f69) rfl (by kernel_rfl) ?_
  intro args out hf hpre
  split at hf <;> try (cases hf; done)
  rename_i e a b xs ws du mo de tl fa
  cases hf
  change xs.length ≤ 1000000000000 at hpre
  refine ⟨Nat.le_of_ble_eq_true rfl, ?_⟩
  conv => whnf
  refine aI trivial ?_
  conv => whnf
  refine aI ?_ ?_
  · conv => whnf
    intro _; trivial
  conv => whnf
  refine bI (fun c1 => ?_) (fun c1 => ?_)
  · conv => whnf
    refine ⟨[], _, rfl, rfl, eBool ?_, trivial, rfl, rfl, rfl, fun _ => ⟨rfl, rfl, rfl⟩⟩
    simp only [Bool.or_eq_true, Bool.not_eq_true', decide_eq_true_eq] at c1
    unfold possF
    rcases c1 with ((c1 | c1) | c1) | c1
    · simp [c1]
    · have : decide (du.length = xs.length) = false := by rw [decide_eq_false_iff_not]; omega
      rw [this]; simp
    · have : decide (mo.length = xs.length) = false := by rw [decide_eq_false_iff_not]; omega
      rw [this]; simp
    · simp [c1]
  · simp only [Bool.or_eq_false_iff, Bool.not_eq_false', decide_eq_false_iff_not, Decidable.not_not] at c1
    obtain ⟨⟨⟨c1, c2⟩, c3⟩, c4⟩ := c1
    have l1 : du.length = xs.length := by omega
    have l2 : mo.length = xs.length := by omega
    conv => whnf
    refine ⟨Nat, fun i => ⟨90, [(2, ⟨[], .ptr 2 0⟩), (3, ⟨[], .ptr 3 0⟩), (40, ⟨[], .sl tStage xs⟩), (41, ⟨[], .int .i64 xs.length⟩), (42, ⟨[], .int .i64 i⟩)], [], [2, 3],
        [(2, .box [.int .i64 e, .int .i64 a, .int .i64 b, .sl tStage xs, .sl tWin ws]), (3, .box [.sl tInt du, .sl tInt mo, .int .i64 de, .int .i64 tl, .int .i64 fa])]⟩,
      fun i => i ≤ xs.length ∧ ∀ j, j < i → fitsAt a b xs du mo j = true, fun i => xs.length - i, 0, ⟨by omega, fun j hj => by omega⟩, .same ⟨rfl, rfl, rfl, ⟨rfl, rfl, rfl, rfl, rfl, trivial⟩, ⟨rfl, rfl, trivial⟩, rfl, rfl, rfl⟩, ?_⟩
    intro i ⟨hi, hb⟩
    conv => whnf
    refine bI (fun c5 => ?_) (fun c5 => ?_)
    · simp only [decide_eq_true_eq] at c5
      conv => whnf
      refine aI (by omega) ?_
      conv => whnf
      refine aI (by omega) ?_
      conv => whnf
      refine aI (by omega) ?_
      conv => whnf
      refine aI (by omega) ?_
      conv => whnf
      refine aI trivial ?_
      conv => whnf
      refine aI ?_ ?_
      · conv => whnf
        intro _; omega
      conv => whnf
      refine aI ?_ ?_
      · conv => whnf
        intro _; omega
      conv => whnf
      refine aI ?_ ?_
      · conv => whnf
        intro _; trivial
      conv => whnf
      refine bI (fun c6 => ?_) (fun c6 => ?_)
      · conv => whnf
        refine ⟨[], _, rfl, rfl, eBool ?_, trivial, rfl, rfl, rfl, fun _ => ⟨rfl, rfl, rfl⟩⟩
        unfold possF
        have h1 : (List.range xs.length).all (fitsAt a b xs du mo) = false := by
          cases h2 : (List.range xs.length).all (fitsAt a b xs du mo) with
          | false => rfl
          | true =>
            have h3 := List.all_eq_true.1 h2 i (by simp; omega)
            have h4 : (!fitsAt a b xs du mo i) = true := by
              unfold fitsAt
              rw [Bool.not_and]
              exact c6
            rw [h3] at h4; cases h4
        rw [h1]; simp
      · conv => whnf
        refine ⟨i + 1, ⟨by omega, fun j hj => ?_⟩, (by show xs.length - (i + 1) < xs.length - i; omega), .same ⟨rfl, rfl, rfl, ⟨rfl, rfl, rfl, rfl, slotInt rfl (wrapEq (by omega) (by omega) (by omega)), trivial⟩, ⟨rfl, rfl, trivial⟩, rfl, rfl, rfl⟩⟩
        by_cases hji : j = i
        · subst hji
          have h4 : (!fitsAt a b xs du mo j) = false := by
            unfold fitsAt
            rw [Bool.not_and]
            exact c6
          simpa using h4
        · exact hb j (by omega)
    · simp only [decide_eq_false_iff_not] at c5
      have hall : (List.range xs.length).all (fitsAt a b xs du mo) = true := List.all_eq_true.2 fun j hj => hb j (by simp at hj; omega)
      have d1 : decide (du.length = xs.length) = true := by rw [decide_eq_true_eq]; exact l1
      have d2 : decide (mo.length = xs.length) = true := by rw [decide_eq_true_eq]; exact l2
      conv => whnf
      refine aI trivial ?_
      conv => whnf
      refine aI ?_ ?_
      · conv => whnf
        intro _; trivial
      conv => whnf
      refine aI ?_ ?_
      · conv => whnf
        intro _ _; trivial
      conv => whnf
      refine ⟨[], _, rfl, rfl, eBool ?_, trivial, rfl, rfl, rfl, fun _ => ⟨rfl, rfl, rfl⟩⟩
      unfold possF
      rw [c1, d1, d2, c4, hall]
      rfl

def reachedF (mt ms st ss de tl fa t mv du : Int) : (Int × Int) × Bool :=
  if tl = mt ∧ fa < ms + du then
    if fa ≤ t then ((st, ss), decide (t + mv ≤ ss))
    else if fa < ms then ((st, ss), decide (max (t + mv) fa + de ≤ ss))
    else if ms < t + mv then ((mt, ms), false)
    else ((st, ss), decide (fa + de ≤ ss))
  else ((mt, ms), decide (t + mv ≤ ms))

def reachedS : Spec := plain fun
  | [.agg [.int .i64 _, .int .i64 _, .int .i64 mt, .int .i64 ms, .int .i64 st, .int .i64 ss], .agg [.sl (.int .i64) _, .sl (.int .i64) _, .int .i64 de, .int .i64 tl, .int .i64 fa], .int .i64 t, .int .i64 mv, .int .i64 du] =>
    outV (Sm ms ∧ Sm de ∧ Sm fa ∧ Sm t ∧ Sm mv ∧ Sm du) (.tup [.agg [.int .i64 (reachedF mt ms st ss de tl fa t mv du).1.1, .int .i64 (reachedF mt ms st ss de tl fa t mv du).1.2], .bool (reachedF mt ms st ss de tl fa t mv du).2])
  | _ => none

theorem reachedOk : SpecSound Try.prog 70 reachedS := by
  refine sound0 sigNil Try.func70 (c := body Try.f70) rfl (by kernel_rfl) ?_
  intro args out hf hpre
  split at hf <;> try (cases hf; done)
  rename_i mn mx mt ms st ss x1 x2 de tl fa t mv du
  cases hf
  refine ⟨Nat.le_of_ble_eq_true rfl, ?_⟩
  obtain ⟨h1, h2, h3, h4, h5, h6⟩ := hpre
  unfold Sm at h1 h2 h3 h4 h5 h6
  conv => whnf
  refine bI (fun c1 => ?_) (fun c1 => ?_)
  · conv => whnf
    refine ⟨[], _, rfl, rfl, ?_, trivial, rfl, rfl, rfl, fun _ => ⟨rfl, rfl, rfl⟩⟩
    refine aI (aI (eInt ?_) (aI (eInt ?_) trivial)) (aI (eBool ?_) trivial)
    all_goals simp (disch := omega) only [wrapId] at c1 ⊢
    all_goals simp only [Bool.not_eq_true', Bool.and_eq_false_iff, decide_eq_false_iff_not] at c1
    all_goals unfold reachedF
    all_goals (repeat' split) <;> first | rfl | (exfalso; omega)
  · simp (disch := omega) only [wrapId] at c1
    simp only [Bool.not_eq_false', Bool.and_eq_true, decide_eq_true_eq] at c1
    conv => whnf
    refine bI (fun c2 => ?_) (fun c2 => ?_)
    · conv => whnf
      refine ⟨[], _, rfl, rfl, ?_, trivial, rfl, rfl, rfl, fun _ => ⟨rfl, rfl, rfl⟩⟩
      refine aI (aI (eInt ?_) (aI (eInt ?_) trivial)) (aI (eBool ?_) trivial)
      all_goals simp (disch := omega) only [wrapId, decide_eq_true_eq] at c2 ⊢
      all_goals unfold reachedF
      all_goals (repeat' split) <;> first | rfl | (exfalso; omega)
    · simp only [decide_eq_false_iff_not] at c2
      conv => whnf
      refine bI (fun c3 => ?_) (fun c3 => ?_)
      · simp only [decide_eq_true_eq] at c3
        conv => whnf
        refine ⟨[], _, rfl, rfl, ?_, trivial, rfl, rfl, rfl, fun _ => ⟨rfl, rfl, rfl⟩⟩
        refine aI (aI (eInt ?_) (aI (eInt ?_) trivial)) (aI (eBool ?_) trivial)
        all_goals try simp (disch := omega) only [wrapId]
        all_goals unfold reachedF
        all_goals (repeat' split) <;> first | rfl | (exfalso; omega)
      · simp only [decide_eq_false_iff_not] at c3
        conv => whnf
        refine bI (fun c4 => ?_) (fun c4 => ?_)
        · simp (disch := omega) only [wrapId, decide_eq_true_eq] at c4
          conv => whnf
          refine ⟨[], _, rfl, rfl, ?_, trivial, rfl, rfl, rfl, fun _ => ⟨rfl, rfl, rfl⟩⟩
          refine aI (aI (eInt ?_) (aI (eInt ?_) trivial)) (aI (eBool ?_) trivial)
          all_goals unfold reachedF
          all_goals (repeat' split) <;> first | rfl | (exfalso; omega)
        · simp (disch := omega) only [wrapId, decide_eq_false_iff_not] at c4
          conv => whnf
          refine ⟨[], _, rfl, rfl, ?_, trivial, rfl, rfl, rfl, fun _ => ⟨rfl, rfl, rfl⟩⟩
          refine aI (aI (eInt ?_) (aI (eInt ?_) trivial)) (aI (eBool ?_) trivial)
          all_goals try simp (disch := omega) only [wrapId]
          all_goals unfold reachedF
          all_goals (repeat' split) <;> first | rfl | (exfalso; omega)

end Go.AM.Ytkacoophnfljcaa.Pl
