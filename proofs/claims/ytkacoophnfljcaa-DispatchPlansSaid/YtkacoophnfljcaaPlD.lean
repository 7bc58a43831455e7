/- Equality of lists: slices.Equal of stages and windows, SameVisits. -/
import Derived.Test.YtkacoophnfljcaaPlC
set_option linter.all false
namespace Go.AM.Ytkacoophnfljcaa.Pl
open Go.Proofs
set_option maxRecDepth 100000
set_option maxHeartbeats 4000000

theorem eqTy_iff : ∀ {t : Ty} {x y : t.El} {e : Bool}, eqTy t x y = some e → (e = true ↔ x = y)
  | .int _, x, y, e, h => by cases h; simp
  | .bool, x, y, e, h => by cases h; simp
  | .unit, x, y, e, h => by cases h; simp
  | .str, x, y, e, h => by cases h
  | .slice _, x, y, e, h => by cases h
  | .pair a b, x, y, e, h => by
    simp only [eqTy] at h
    split at h
    · rename_i p q h1 h2
      cases h
      simp only [Bool.and_eq_true, eqTy_iff h1, eqTy_iff h2]
      exact ⟨fun ⟨h3, h4⟩ => Prod.ext h3 h4, fun h => ⟨by rw [h], by rw [h]⟩⟩
    · cases h

theorem list_ext_getI {α : Type} (d : α) : ∀ {xs ys : List α}, xs.length = ys.length → (∀ j, j < xs.length → getI xs d j = getI ys d j) → xs = ys
  | [], [], _, _ => rfl
  | [], _ :: _, h, _ => by simp at h
  | _ :: _, [], h, _ => by simp at h
  | x :: xs, y :: ys, h, hj => by
    have h0 : x = y := hj 0 (by simp)
    rw [h0, list_ext_getI d (by simpa using h) fun j hlt => hj (j + 1) (by simpa using hlt)]


def eqStF (xs ys : List (Int × Int × (Int × Int) × Int × Int)) : Bool := decide (xs = ys)
def eqStS : Spec := plain fun
  | [.sl (.pair (.int .i64) (.pair (.int .i64) (.pair (.pair (.int .i64) (.int .i64)) (.pair (.int .i64) (.int .i64))))) xs, .sl (.pair (.int .i64) (.pair (.int .i64) (.pair (.pair (.int .i64) (.int .i64)) (.pair (.int .i64) (.int .i64))))) ys] => outV (xs.length ≤ 1000000000000 ∧ ys.length ≤ 1000000000000) (.bool (eqStF xs ys))
  | _ => none

def eqWiF (xs ys : List (Int × Int × Int)) : Bool := decide (xs = ys)
def eqWiS : Spec := plain fun
  | [.sl (.pair (.int .i64) (.pair (.int .i64) (.int .i64))) xs, .sl (.pair (.int .i64) (.pair (.int .i64) (.int .i64))) ys] => outV (xs.length ≤ 1000000000000 ∧ ys.length ≤ 1000000000000) (.bool (eqWiF xs ys))
  | _ => none

def eqViF (xs ys : List (Int × Int × Int × Int)) : Bool := decide (xs = ys)
def eqViS : Spec := plain fun
  | [.sl (.pair (.int .i64) (.pair (.int .i64) (.pair (.int .i64) (.int .i64)))) xs, .sl (.pair (.int .i64) (.pair (.int .i64) (.pair (.int .i64) (.int .i64)))) ys] => outV (xs.length ≤ 1000000000000 ∧ ys.length ≤ 1000000000000) (.bool (eqViF xs ys))
  | _ => none

/-- plan.Same. -/
def sameF (e a b : Int) (xs : List (Int × Int × (Int × Int) × Int × Int)) (ws : List (Int × Int × Int)) (e' a' b' : Int) (xs' : List (Int × Int × (Int × Int) × Int × Int)) (ws' : List (Int × Int × Int)) : Bool :=
  decide (e = e') && decide (a = a') && decide (b = b') && eqStF xs xs' && eqWiF ws ws'
def sameS : Spec := plain fun
  | [.agg [.int .i64 e, .int .i64 a, .int .i64 b, .sl (.pair (.int .i64) (.pair (.int .i64) (.pair (.pair (.int .i64) (.int .i64)) (.pair (.int .i64) (.int .i64))))) xs, .sl (.pair (.int .i64) (.pair (.int .i64) (.int .i64))) ws], .agg [.int .i64 e', .int .i64 a', .int .i64 b', .sl (.pair (.int .i64) (.pair (.int .i64) (.pair (.pair (.int .i64) (.int .i64)) (.pair (.int .i64) (.int .i64))))) xs', .sl (.pair (.int .i64) (.pair (.int .i64) (.int .i64))) ws']] =>
    outV (xs.length ≤ 1000000000000 ∧ xs'.length ≤ 1000000000000 ∧ ws.length ≤ 1000000000000 ∧ ws'.length ≤ 1000000000000) (.bool (sameF e a b xs ws e' a' b' xs' ws'))
  | _ => none

end Go.AM.Ytkacoophnfljcaa.Pl
