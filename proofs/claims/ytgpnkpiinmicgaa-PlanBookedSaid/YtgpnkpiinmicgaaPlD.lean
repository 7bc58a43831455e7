/- Equality of lists: slices.Equal of stages and windows, SameVisits. -/
import Derived.Test.YtgpnkpiinmicgaaPlC
set_option linter.all false
namespace Go.AM.Ytgpnkpiinmicgaa.Pl
open Go.Proofs
set_option maxRecDepth 100000
set_option maxHeartbeats 4000000

theorem eqTy_iff : ∀ {t : Ty} {x y : t.El} {e : Bool}, eqTy t x y = some e → (e = true ↔ x = y)
  | .int _, x, y, e, h => by cases h; simp
  | .bool, x, y, e, h => by cases h; simp
  | .unit, x, y, e, h => by cases h; simp
  | .str, x, y, e, h => by cases h
  | .slice _, x, y, e, h => by cases h
  | .pair a b, x, y, e, h => by
    simp only [eqTy] at h
    split at h
    · rename_i p q h1 h2
      cases h
      simp only [Bool.and_eq_true, eqTy_iff h1, eqTy_iff h2]
      exact ⟨fun ⟨h3, h4⟩ => Prod.ext h3 h4, fun h => ⟨by rw [h], by rw [h]⟩⟩
    · cases h

theorem list_ext_getI {α : Type} (d : α) : ∀ {xs ys : List α}, xs.length = ys.length → (∀ j, j < xs.length → getI xs d j = getI ys d j) → xs = ys
  | [], [], _, _ => rfl
  | [], _ :: _, h, _ => by simp at h
  | _ :: _, [], h, _ => by simp at h
  | x :: xs, y :: ys, h, hj => by
    have h0 : x = y := hj 0 (by simp)
    rw [h0, list_ext_getI d (by simpa using h) fun j hlt => hj (j + 1) (by simpa using hlt)]


def eqStF (xs ys : List (Int × Int × (Int × Int) × Int × Int)) : Bool := decide (xs = ys)
def eqStS : Spec := plain fun
  | [.sl (.pair (.int .i64) (.pair (.int .i64) (.pair (.pair (.int .i64) (.int .i64)) (.pair (.int .i64) (.int .i64))))) xs, .sl (.pair (.int .i64) (.pair (.int .i64) (.pair (.pair (.int .i64) (.int .i64)) (.pair (.int .i64) (.int .i64))))) ys] => outV (xs.length ≤ 1000000000000 ∧ ys.length ≤ 1000000000000) (.bool (eqStF xs ys))
  | _ => none

theorem eqStOk : SpecSound Try.prog 31 eqStS := by
  refine sound0 sigNil Try.func31 (c := body Try.f31) rfl (by kernel_rfl) ?_
  intro args out hf hpre
  split at hf <;> try (cases hf; done)
  rename_i xs ys
  cases hf
  change xs.length ≤ 1000000000000 ∧ ys.length ≤ 1000000000000 at hpre
  obtain ⟨p1, p2⟩ := hpre
  refine ⟨Nat.le_of_ble_eq_true rfl, ?_⟩
  conv => whnf
  refine bI (fun c1 => ?_) (fun c1 => ?_)
  · conv => whnf
    refine ⟨[], _, rfl, rfl, eBool ?_, trivial, rfl, rfl, rfl, fun _ => ⟨rfl, rfl, rfl⟩⟩
    simp only [decide_eq_true_eq] at c1
    unfold eqStF
    rw [decide_eq_false_iff_not]
    intro he
    exact c1 (by rw [he])
  · simp only [decide_eq_false_iff_not, Decidable.not_not] at c1
    have hl : xs.length = ys.length := by omega
    conv => whnf
    refine ⟨Nat, fun i => ⟨26, [(0, ⟨[], .sl tStage xs⟩), (1, ⟨[], .sl tStage ys⟩), (12, ⟨[], .int .i64 xs.length⟩), (13, ⟨[], .int .i64 i⟩)], [], [], []⟩,
      fun i => i ≤ xs.length ∧ ∀ j, j < i → getI xs (Ty.dflt tStage) j = getI ys (Ty.dflt tStage) j, fun i => xs.length - i, 0, ⟨by omega, fun j hj => by omega⟩, .same ⟨rfl, rfl, rfl, ⟨rfl, rfl, rfl, rfl, trivial⟩, trivial, rfl, rfl, rfl⟩, ?_⟩
    intro i ⟨hi, hb⟩
    conv => whnf
    refine bI (fun c2 => ?_) (fun c2 => ?_)
    · simp only [decide_eq_true_eq] at c2
      conv => whnf
      refine aI (by omega) ?_
      conv => whnf
      refine aI (by omega) ?_
      conv => whnf
      refine aI (by omega) ?_
      conv => whnf
      refine aI (by omega) ?_
      conv => whnf
      have heq := eqTy_iff (t := tStage) (x := getI xs (Ty.dflt tStage) i) (y := getI ys (Ty.dflt tStage) i) rfl
      refine bI (fun c3 => ?_) (fun c3 => ?_)
      · conv => whnf
        refine ⟨[], _, rfl, rfl, eBool ?_, trivial, rfl, rfl, rfl, fun _ => ⟨rfl, rfl, rfl⟩⟩
        unfold eqStF
        rw [decide_eq_false_iff_not]
        intro he
        have h1 : getI xs (Ty.dflt tStage) i = getI ys (Ty.dflt tStage) i := congrArg (fun l : List (Ty.El tStage) => getI l (Ty.dflt tStage) i) he
        rw [Bool.not_eq_true'] at c3
        have h2 := heq.2 h1
        exact absurd (c3.symm.trans h2) (by decide)
      · conv => whnf
        refine ⟨i + 1, ⟨by omega, fun j hj => ?_⟩, (by show xs.length - (i + 1) < xs.length - i; omega), .same ⟨rfl, rfl, rfl, ⟨rfl, rfl, rfl, slotInt rfl (wrapEq (by omega) (by omega) (by omega)), trivial⟩, trivial, rfl, rfl, rfl⟩⟩
        by_cases hji : j = i
        · subst hji
          rw [Bool.not_eq_false'] at c3
          exact heq.1 c3
        · exact hb j (by omega)
    · simp only [decide_eq_false_iff_not] at c2
      conv => whnf
      refine ⟨[], _, rfl, rfl, eBool ?_, trivial, rfl, rfl, rfl, fun _ => ⟨rfl, rfl, rfl⟩⟩
      unfold eqStF
      rw [decide_eq_true_eq]
      exact list_ext_getI (Ty.dflt tStage) hl fun j hj => hb j (by omega)

def eqWiF (xs ys : List (Int × Int × Int)) : Bool := decide (xs = ys)
def eqWiS : Spec := plain fun
  | [.sl (.pair (.int .i64) (.pair (.int .i64) (.int .i64))) xs, .sl (.pair (.int .i64) (.pair (.int .i64) (.int .i64))) ys] => outV (xs.length ≤ 1000000000000 ∧ ys.length ≤ 1000000000000) (.bool (eqWiF xs ys))
  | _ => none

theorem eqWiOk : SpecSound Try.prog 32 eqWiS := by
  refine sound0 sigNil Try.func32 (c := body Try.f32) rfl (by kernel_rfl) ?_
  intro args out hf hpre
  split at hf <;> try (cases hf; done)
  rename_i xs ys
  cases hf
  change xs.length ≤ 1000000000000 ∧ ys.length ≤ 1000000000000 at hpre
  obtain ⟨p1, p2⟩ := hpre
  refine ⟨Nat.le_of_ble_eq_true rfl, ?_⟩
  conv => whnf
  refine bI (fun c1 => ?_) (fun c1 => ?_)
  · conv => whnf
    refine ⟨[], _, rfl, rfl, eBool ?_, trivial, rfl, rfl, rfl, fun _ => ⟨rfl, rfl, rfl⟩⟩
    simp only [decide_eq_true_eq] at c1
    unfold eqWiF
    rw [decide_eq_false_iff_not]
    intro he
    exact c1 (by rw [he])
  · simp only [decide_eq_false_iff_not, Decidable.not_not] at c1
    have hl : xs.length = ys.length := by omega
    conv => whnf
    refine ⟨Nat, fun i => ⟨26, [(0, ⟨[], .sl tWin xs⟩), (1, ⟨[], .sl tWin ys⟩), (12, ⟨[], .int .i64 xs.length⟩), (13, ⟨[], .int .i64 i⟩)], [], [], []⟩,
      fun i => i ≤ xs.length ∧ ∀ j, j < i → getI xs (Ty.dflt tWin) j = getI ys (Ty.dflt tWin) j, fun i => xs.length - i, 0, ⟨by omega, fun j hj => by omega⟩, .same ⟨rfl, rfl, rfl, ⟨rfl, rfl, rfl, rfl, trivial⟩, trivial, rfl, rfl, rfl⟩, ?_⟩
    intro i ⟨hi, hb⟩
    conv => whnf
    refine bI (fun c2 => ?_) (fun c2 => ?_)
    · simp only [decide_eq_true_eq] at c2
      conv => whnf
      refine aI (by omega) ?_
      conv => whnf
      refine aI (by omega) ?_
      conv => whnf
      refine aI (by omega) ?_
      conv => whnf
      refine aI (by omega) ?_
      conv => whnf
      have heq := eqTy_iff (t := tWin) (x := getI xs (Ty.dflt tWin) i) (y := getI ys (Ty.dflt tWin) i) rfl
      refine bI (fun c3 => ?_) (fun c3 => ?_)
      · conv => whnf
        refine ⟨[], _, rfl, rfl, eBool ?_, trivial, rfl, rfl, rfl, fun _ => ⟨rfl, rfl, rfl⟩⟩
        unfold eqWiF
        rw [decide_eq_false_iff_not]
        intro he
        have h1 : getI xs (Ty.dflt tWin) i = getI ys (Ty.dflt tWin) i := congrArg (fun l : List (Ty.El tWin) => getI l (Ty.dflt tWin) i) he
        rw [Bool.not_eq_true'] at c3
        have h2 := heq.2 h1
        exact absurd (c3.symm.trans h2) (by decide)
      · conv => whnf
        refine ⟨i + 1, ⟨by omega, fun j hj => ?_⟩, (by show xs.length - (i + 1) < xs.length - i; omega), .same ⟨rfl, rfl, rfl, ⟨rfl, rfl, rfl, slotInt rfl (wrapEq (by omega) (by omega) (by omega)), trivial⟩, trivial, rfl, rfl, rfl⟩⟩
        by_cases hji : j = i
        · subst hji
          rw [Bool.not_eq_false'] at c3
          exact heq.1 c3
        · exact hb j (by omega)
    · simp only [decide_eq_false_iff_not] at c2
      conv => whnf
      refine ⟨[], _, rfl, rfl, eBool ?_, trivial, rfl, rfl, rfl, fun _ => ⟨rfl, rfl, rfl⟩⟩
      unfold eqWiF
      rw [decide_eq_true_eq]
      exact list_ext_getI (Ty.dflt tWin) hl fun j hj => hb j (by omega)

def eqViF (xs ys : List (Int × Int × Int × Int)) : Bool := decide (xs = ys)
def eqViS : Spec := plain fun
  | [.sl (.pair (.int .i64) (.pair (.int .i64) (.pair (.int .i64) (.int .i64)))) xs, .sl (.pair (.int .i64) (.pair (.int .i64) (.pair (.int .i64) (.int .i64)))) ys] => outV (xs.length ≤ 1000000000000 ∧ ys.length ≤ 1000000000000) (.bool (eqViF xs ys))
  | _ => none

theorem eqViOk : SpecSound Try.prog 16 eqViS := by
  refine sound0 sigNil Try.func16 (c := body Try.f16) rfl (by kernel_rfl) ?_
  intro args out hf hpre
  split at hf <;> try (cases hf; done)
  rename_i xs ys
  cases hf
  change xs.length ≤ 1000000000000 ∧ ys.length ≤ 1000000000000 at hpre
  obtain ⟨p1, p2⟩ := hpre
  refine ⟨Nat.le_of_ble_eq_true rfl, ?_⟩
  conv => whnf
  refine bI (fun c1 => ?_) (fun c1 => ?_)
  · conv => whnf
    refine ⟨[], _, rfl, rfl, eBool ?_, trivial, rfl, rfl, rfl, fun _ => ⟨rfl, rfl, rfl⟩⟩
    simp only [decide_eq_true_eq] at c1
    unfold eqViF
    rw [decide_eq_false_iff_not]
    intro he
    exact c1 (by rw [he])
  · simp only [decide_eq_false_iff_not, Decidable.not_not] at c1
    have hl : xs.length = ys.length := by omega
    conv => whnf
    refine ⟨Nat, fun i => ⟨26, [(0, ⟨[], .sl tVisit xs⟩), (1, ⟨[], .sl tVisit ys⟩), (5, ⟨[], .int .i64 i⟩)], [], [], []⟩,
      fun i => i ≤ xs.length ∧ ∀ j, j < i → getI xs (Ty.dflt tVisit) j = getI ys (Ty.dflt tVisit) j, fun i => xs.length - i, 0, ⟨by omega, fun j hj => by omega⟩, .same ⟨rfl, rfl, rfl, ⟨rfl, rfl, rfl, trivial⟩, trivial, rfl, rfl, rfl⟩, ?_⟩
    intro i ⟨hi, hb⟩
    conv => whnf
    refine bI (fun c2 => ?_) (fun c2 => ?_)
    · simp only [decide_eq_true_eq] at c2
      conv => whnf
      refine aI (by omega) ?_
      conv => whnf
      refine aI (by omega) ?_
      conv => whnf
      refine aI (by omega) ?_
      conv => whnf
      refine aI (by omega) ?_
      conv => whnf
      have heq := eqTy_iff (t := tVisit) (x := getI xs (Ty.dflt tVisit) i) (y := getI ys (Ty.dflt tVisit) i) rfl
      refine bI (fun c3 => ?_) (fun c3 => ?_)
      · conv => whnf
        refine ⟨[], _, rfl, rfl, eBool ?_, trivial, rfl, rfl, rfl, fun _ => ⟨rfl, rfl, rfl⟩⟩
        unfold eqViF
        rw [decide_eq_false_iff_not]
        intro he
        have h1 : getI xs (Ty.dflt tVisit) i = getI ys (Ty.dflt tVisit) i := congrArg (fun l : List (Ty.El tVisit) => getI l (Ty.dflt tVisit) i) he
        rw [Bool.not_eq_true'] at c3
        have h2 := heq.2 h1
        exact absurd (c3.symm.trans h2) (by decide)
      · conv => whnf
        refine ⟨i + 1, ⟨by omega, fun j hj => ?_⟩, (by show xs.length - (i + 1) < xs.length - i; omega), .same ⟨rfl, rfl, rfl, ⟨rfl, rfl, slotInt rfl (wrapEq (by omega) (by omega) (by omega)), trivial⟩, trivial, rfl, rfl, rfl⟩⟩
        by_cases hji : j = i
        · subst hji
          rw [Bool.not_eq_false'] at c3
          exact heq.1 c3
        · exact hb j (by omega)
    · simp only [decide_eq_false_iff_not] at c2
      conv => whnf
      refine ⟨[], _, rfl, rfl, eBool ?_, trivial, rfl, rfl, rfl, fun _ => ⟨rfl, rfl, rfl⟩⟩
      unfold eqViF
      rw [decide_eq_true_eq]
      exact list_ext_getI (Ty.dflt tVisit) hl fun j hj => hb j (by omega)

def sigEq : List (Nat × Spec) := [(31, eqStS), (32, eqWiS)]
theorem sigEqOk : SigOk Try.prog (look sigEq) := sigCons (sigCons sigNil Try.func32 (by kernel_rfl) (c := body Try.f32) rfl eqWiOk) Try.func31 (by kernel_rfl) (c := body Try.f31) rfl eqStOk

/-- plan.Same. -/
def sameF (e a b : Int) (xs : List (Int × Int × (Int × Int) × Int × Int)) (ws : List (Int × Int × Int)) (e' a' b' : Int) (xs' : List (Int × Int × (Int × Int) × Int × Int)) (ws' : List (Int × Int × Int)) : Bool :=
  decide (e = e') && decide (a = a') && decide (b = b') && eqStF xs xs' && eqWiF ws ws'
def sameS : Spec := plain fun
  | [.agg [.int .i64 e, .int .i64 a, .int .i64 b, .sl (.pair (.int .i64) (.pair (.int .i64) (.pair (.pair (.int .i64) (.int .i64)) (.pair (.int .i64) (.int .i64))))) xs, .sl (.pair (.int .i64) (.pair (.int .i64) (.int .i64))) ws], .agg [.int .i64 e', .int .i64 a', .int .i64 b', .sl (.pair (.int .i64) (.pair (.int .i64) (.pair (.pair (.int .i64) (.int .i64)) (.pair (.int .i64) (.int .i64))))) xs', .sl (.pair (.int .i64) (.pair (.int .i64) (.int .i64))) ws']] =>
    outV (xs.length ≤ 1000000000000 ∧ xs'.length ≤ 1000000000000 ∧ ws.length ≤ 1000000000000 ∧ ws'.length ≤ 1000000000000) (.bool (sameF e a b xs ws e' a' b' xs' ws'))
  | _ => none

theorem sameOk : SpecSound Try.prog 19 sameS := by
  refine sound0 sigEqOk Try.func19 (c := body Try.f19) rfl (by kernel_rfl) ?_
  intro args out hf hpre
  split at hf <;> try (cases hf; done)
  cases hf
  obtain ⟨p1, p2, p3, p4⟩ := hpre
  refine ⟨Nat.le_of_ble_eq_true rfl, ?_⟩
  conv => whnf
  refine aI ?_ ?_
  · conv => whnf
    intro _; exact ⟨p1, p2⟩
  conv => whnf
  refine aI ?_ ?_
  · conv => whnf
    intro _; exact ⟨p3, p4⟩
  conv => whnf
  exact ⟨[], _, rfl, rfl, rfl, trivial, rfl, rfl, rfl, fun _ => ⟨rfl, rfl, rfl⟩⟩
end Go.AM.Ytgpnkpiinmicgaa.Pl
