/- Package dispatch: how jobs are compared. -/
import Derived.Test.YtkacoophnfljcaaCaA
set_option linter.all false
namespace Go.AM.Ytkacoophnfljcaa
open Go.Proofs
set_option maxRecDepth 100000
set_option maxHeartbeats 4000000

abbrev tJob : Ty := .pair (.int .i64) (.pair (.int .i64) (.pair .bool (.pair (.int .i64) (.pair (.int .i64) (.pair (.int .i64) (.int .i64))))))
abbrev JobT := Int × Int × Bool × Int × Int × Int × Int
abbrev tCmp : Ty := .fn2 tJob (.int .i64)

def jLot (j : JobT) : Int := j.1
def jRec (j : JobT) : Int := j.2.1
def jHot (j : JobT) : Bool := j.2.2.1
def jDue (j : JobT) : Int := j.2.2.2.1
def jArr (j : JobT) : Int := j.2.2.2.2.1
def jLen (j : JobT) : Int := j.2.2.2.2.2.1
def jCnt (j : JobT) : Int := j.2.2.2.2.2.2

theorem callF {f : Nat} {fn : Func} {c : Code} (hf : Try.prog.funcs[f]? = some fn) (hname : (fn.name == "runtime.NumGoroutine") = false) (hb : fn.body = some c) : ∀ args w, (callFunc f args).run PG w = .ok (.enter f args) w := fun args w => by
  have h1 : fn.name ≠ "runtime.NumGoroutine" := by simpa using hname
  have hf' : PG.funcs[f]? = some fn := hf
  simp [callFunc, hf', h1, hb]

/-! ### What the closures read -/

def k1S : Spec := plain fun
  | [.agg [.int .i64 a, .int .i64 b, .bool c, .int .i64 d, .int .i64 e, .int .i64 f, .int .i64 g]] => outV True (.bool c)
  | _ => none
theorem k1Ok : SpecSound Try.prog 74 k1S := by
  refine soundP (envOf sigNil) Try.func74 (c := body Try.f74) rfl (by kernel_rfl) rfl ?_
  intro args out hf hpre
  split at hf <;> try (cases hf; done)
  rename_i a b c d e f g
  cases hf
  refine ⟨Nat.le_of_ble_eq_true rfl, initI (args := [.agg [.int .i64 a, .int .i64 b, .bool c, .int .i64 d, .int .i64 e, .int .i64 f, .int .i64 g]]) rfl ?_⟩
  repeat' (first
    | with_reducible refine pN ?_
    | with_reducible refine cN ?_
    | with_reducible refine bN ?_
    | with_reducible refine cE ?_
    | with_reducible refine cR ?_
    | with_reducible refine bR ?_
    | with_reducible refine lE ?_
    | with_reducible refine lR ?_
    | with_reducible refine jE ?_
    | with_reducible refine jR ?_
    | refine bE rfl ?_
    | refine bP rfl ?_
    | refine pC (by first | exact True.intro | omega | (intros; first | exact True.intro | omega) | (simp only [List.length_cons, List.length_nil, Int.toNat_natCast]; omega)) ?_
    | refine seqI rfl ?_
    | refine regI rfl ?_
    | refine scopeI rfl ?_
    | refine blockI rfl ?_
    | refine exitI rfl ?_
    | refine retI rfl ?_
    | refine skipI rfl ?_)
  refine endR rfl ?_
  repeat' (first | exact trivial | exact rfl | refine ⟨rfl, ?_⟩ | refine And.intro ?_ ?_)

def k2S : Spec := plain fun
  | [.agg [.int .i64 a, .int .i64 b, .bool c, .int .i64 d, .int .i64 e, .int .i64 f, .int .i64 g]] => outV True (.int .i64 d)
  | _ => none
theorem k2Ok : SpecSound Try.prog 75 k2S := by
  refine soundP (envOf sigNil) Try.func75 (c := body Try.f75) rfl (by kernel_rfl) rfl ?_
  intro args out hf hpre
  split at hf <;> try (cases hf; done)
  rename_i a b c d e f g
  cases hf
  refine ⟨Nat.le_of_ble_eq_true rfl, initI (args := [.agg [.int .i64 a, .int .i64 b, .bool c, .int .i64 d, .int .i64 e, .int .i64 f, .int .i64 g]]) rfl ?_⟩
  repeat' (first
    | with_reducible refine pN ?_
    | with_reducible refine cN ?_
    | with_reducible refine bN ?_
    | with_reducible refine cE ?_
    | with_reducible refine cR ?_
    | with_reducible refine bR ?_
    | with_reducible refine lE ?_
    | with_reducible refine lR ?_
    | with_reducible refine jE ?_
    | with_reducible refine jR ?_
    | refine bE rfl ?_
    | refine bP rfl ?_
    | refine pC (by first | exact True.intro | omega | (intros; first | exact True.intro | omega) | (simp only [List.length_cons, List.length_nil, Int.toNat_natCast]; omega)) ?_
    | refine seqI rfl ?_
    | refine regI rfl ?_
    | refine scopeI rfl ?_
    | refine blockI rfl ?_
    | refine exitI rfl ?_
    | refine retI rfl ?_
    | refine skipI rfl ?_)
  refine endR rfl ?_
  repeat' (first | exact trivial | exact rfl | refine ⟨rfl, ?_⟩ | refine And.intro ?_ ?_)

def k3S : Spec := plain fun
  | [.agg [.int .i64 a, .int .i64 b, .bool c, .int .i64 d, .int .i64 e, .int .i64 f, .int .i64 g], .el (.int .i64) [rc] 0 0] => outV True (.bool (decide (b = rc)))
  | _ => none
theorem k3Ok : SpecSound Try.prog 76 k3S := by
  refine soundP (envOf sigNil) Try.func76 (c := body Try.f76) rfl (by kernel_rfl) rfl ?_
  intro args out hf hpre
  split at hf <;> try (cases hf; done)
  rename_i a b c d e f g rc
  cases hf
  refine ⟨Nat.le_of_ble_eq_true rfl, initI (args := [.agg [.int .i64 a, .int .i64 b, .bool c, .int .i64 d, .int .i64 e, .int .i64 f, .int .i64 g], .el (.int .i64) [rc] 0 0]) rfl ?_⟩
  repeat' (first
    | with_reducible refine pN ?_
    | with_reducible refine cN ?_
    | with_reducible refine bN ?_
    | with_reducible refine cE ?_
    | with_reducible refine cR ?_
    | with_reducible refine bR ?_
    | with_reducible refine lE ?_
    | with_reducible refine lR ?_
    | with_reducible refine jE ?_
    | with_reducible refine jR ?_
    | refine bE rfl ?_
    | refine bP rfl ?_
    | refine pC (by first | exact True.intro | omega | (intros; first | exact True.intro | omega) | (simp only [List.length_cons, List.length_nil, Int.toNat_natCast]; omega)) ?_
    | refine seqI rfl ?_
    | refine regI rfl ?_
    | refine scopeI rfl ?_
    | refine blockI rfl ?_
    | refine exitI rfl ?_
    | refine retI rfl ?_
    | refine skipI rfl ?_)
  refine endR rfl ?_
  repeat' (first | exact trivial | exact rfl | refine ⟨rfl, ?_⟩ | refine And.intro ?_ ?_)

def k4S : Spec := plain fun
  | [.agg [.int .i64 a, .int .i64 b, .bool c, .int .i64 d, .int .i64 e, .int .i64 f, .int .i64 g]] => outV True (.int .i64 e)
  | _ => none
theorem k4Ok : SpecSound Try.prog 77 k4S := by
  refine soundP (envOf sigNil) Try.func77 (c := body Try.f77) rfl (by kernel_rfl) rfl ?_
  intro args out hf hpre
  split at hf <;> try (cases hf; done)
  rename_i a b c d e f g
  cases hf
  refine ⟨Nat.le_of_ble_eq_true rfl, initI (args := [.agg [.int .i64 a, .int .i64 b, .bool c, .int .i64 d, .int .i64 e, .int .i64 f, .int .i64 g]]) rfl ?_⟩
  repeat' (first
    | with_reducible refine pN ?_
    | with_reducible refine cN ?_
    | with_reducible refine bN ?_
    | with_reducible refine cE ?_
    | with_reducible refine cR ?_
    | with_reducible refine bR ?_
    | with_reducible refine lE ?_
    | with_reducible refine lR ?_
    | with_reducible refine jE ?_
    | with_reducible refine jR ?_
    | refine bE rfl ?_
    | refine bP rfl ?_
    | refine pC (by first | exact True.intro | omega | (intros; first | exact True.intro | omega) | (simp only [List.length_cons, List.length_nil, Int.toNat_natCast]; omega)) ?_
    | refine seqI rfl ?_
    | refine regI rfl ?_
    | refine scopeI rfl ?_
    | refine blockI rfl ?_
    | refine exitI rfl ?_
    | refine retI rfl ?_
    | refine skipI rfl ?_)
  refine endR rfl ?_
  repeat' (first | exact trivial | exact rfl | refine ⟨rfl, ?_⟩ | refine And.intro ?_ ?_)

def k5S : Spec := plain fun
  | [.agg [.int .i64 a, .int .i64 b, .bool c, .int .i64 d, .int .i64 e, .int .i64 f, .int .i64 g]] => outV True (.int .i64 f)
  | _ => none
theorem k5Ok : SpecSound Try.prog 78 k5S := by
  refine soundP (envOf sigNil) Try.func78 (c := body Try.f78) rfl (by kernel_rfl) rfl ?_
  intro args out hf hpre
  split at hf <;> try (cases hf; done)
  rename_i a b c d e f g
  cases hf
  refine ⟨Nat.le_of_ble_eq_true rfl, initI (args := [.agg [.int .i64 a, .int .i64 b, .bool c, .int .i64 d, .int .i64 e, .int .i64 f, .int .i64 g]]) rfl ?_⟩
  repeat' (first
    | with_reducible refine pN ?_
    | with_reducible refine cN ?_
    | with_reducible refine bN ?_
    | with_reducible refine cE ?_
    | with_reducible refine cR ?_
    | with_reducible refine bR ?_
    | with_reducible refine lE ?_
    | with_reducible refine lR ?_
    | with_reducible refine jE ?_
    | with_reducible refine jR ?_
    | refine bE rfl ?_
    | refine bP rfl ?_
    | refine pC (by first | exact True.intro | omega | (intros; first | exact True.intro | omega) | (simp only [List.length_cons, List.length_nil, Int.toNat_natCast]; omega)) ?_
    | refine seqI rfl ?_
    | refine regI rfl ?_
    | refine scopeI rfl ?_
    | refine blockI rfl ?_
    | refine exitI rfl ?_
    | refine retI rfl ?_
    | refine skipI rfl ?_)
  refine endR rfl ?_
  repeat' (first | exact trivial | exact rfl | refine ⟨rfl, ?_⟩ | refine And.intro ?_ ?_)

def k6S : Spec := plain fun
  | [.agg [.int .i64 a, .int .i64 b, .bool c, .int .i64 d, .int .i64 e, .int .i64 f, .int .i64 g], .agg [.int .i64 a', .int .i64 b', .bool c', .int .i64 d', .int .i64 e', .int .i64 f', .int .i64 g']] => outV True (.int .i64 (cmpI g' g))
  | _ => none
theorem k6Ok : SpecSound Try.prog 79 k6S := by
  refine soundP (envOf sigCmpOk) Try.func79 (c := body Try.f79) rfl (by kernel_rfl) rfl ?_
  intro args out hf hpre
  split at hf <;> try (cases hf; done)
  rename_i a b c d e f g a' b' c' d' e' f' g'
  cases hf
  refine ⟨Nat.le_of_ble_eq_true rfl, initI (args := [.agg [.int .i64 a, .int .i64 b, .bool c, .int .i64 d, .int .i64 e, .int .i64 f, .int .i64 g], .agg [.int .i64 a', .int .i64 b', .bool c', .int .i64 d', .int .i64 e', .int .i64 f', .int .i64 g']]) rfl ?_⟩
  repeat' (first
    | with_reducible refine pN ?_
    | with_reducible refine cN ?_
    | with_reducible refine bN ?_
    | with_reducible refine cE ?_
    | with_reducible refine cR ?_
    | with_reducible refine bR ?_
    | with_reducible refine lE ?_
    | with_reducible refine lR ?_
    | with_reducible refine jE ?_
    | with_reducible refine jR ?_
    | refine bE rfl ?_
    | refine bP rfl ?_
    | refine pC (by first | exact True.intro | omega | (intros; first | exact True.intro | omega) | (simp only [List.length_cons, List.length_nil, Int.toNat_natCast]; omega)) ?_
    | refine seqI rfl ?_
    | refine regI rfl ?_
    | refine scopeI rfl ?_
    | refine blockI rfl ?_
    | refine exitI rfl ?_
    | refine retI rfl ?_
    | refine skipI rfl ?_)
  refine endR rfl ?_
  repeat' (first | exact trivial | exact rfl | refine ⟨rfl, ?_⟩ | refine And.intro ?_ ?_)

def lotS : Spec := plain fun
  | [.agg [.int .i64 a, .int .i64 b, .bool c, .int .i64 d, .int .i64 e, .int .i64 f, .int .i64 g]] => outV True (.int .i64 a)
  | _ => none
theorem lotOk : SpecSound Try.prog 53 lotS := by
  refine soundP (envOf sigNil) Try.func53 (c := body Try.f53) rfl (by kernel_rfl) rfl ?_
  intro args out hf hpre
  split at hf <;> try (cases hf; done)
  rename_i a b c d e f g
  cases hf
  refine ⟨Nat.le_of_ble_eq_true rfl, initI (args := [.agg [.int .i64 a, .int .i64 b, .bool c, .int .i64 d, .int .i64 e, .int .i64 f, .int .i64 g]]) rfl ?_⟩
  repeat' (first
    | with_reducible refine pN ?_
    | with_reducible refine cN ?_
    | with_reducible refine bN ?_
    | with_reducible refine cE ?_
    | with_reducible refine cR ?_
    | with_reducible refine bR ?_
    | with_reducible refine lE ?_
    | with_reducible refine lR ?_
    | with_reducible refine jE ?_
    | with_reducible refine jR ?_
    | refine bE rfl ?_
    | refine bP rfl ?_
    | refine pC (by first | exact True.intro | omega | (intros; first | exact True.intro | omega) | (simp only [List.length_cons, List.length_nil, Int.toNat_natCast]; omega)) ?_
    | refine seqI rfl ?_
    | refine regI rfl ?_
    | refine scopeI rfl ?_
    | refine blockI rfl ?_
    | refine exitI rfl ?_
    | refine retI rfl ?_
    | refine skipI rfl ?_)
  refine endR rfl ?_
  repeat' (first | exact trivial | exact rfl | refine ⟨rfl, ?_⟩ | refine And.intro ?_ ?_)

/-! ### rising, holding, first -/

def riseC (n : JobT → Int) (x y : JobT) : Int := cmpI (n x) (n y)
def holdC (p : JobT → Bool) (x y : JobT) : Int := if (p x && !p y) = true then -1 else if (p y && !p x) = true then 1 else 0
def firstC : List (JobT → JobT → Int) → JobT → JobT → Int
  | [], _, _ => 0
  | f :: l, x, y => if f x y ≠ 0 then f x y else firstC l x y

def rise1S : Spec := plain fun
  | [.agg [.int .i64 a, .int .i64 b, .bool c, .int .i64 d, .int .i64 e, .int .i64 f, .int .i64 g], .agg [.int .i64 a', .int .i64 b', .bool c', .int .i64 d', .int .i64 e', .int .i64 f', .int .i64 g'],
      .el (.fn1 (.pair (.int .i64) (.pair (.int .i64) (.pair .bool (.pair (.int .i64) (.pair (.int .i64) (.pair (.int .i64) (.int .i64))))))) (.int .i64)) [n] 0 0] => outV True (.int .i64 (riseC n (a, b, c, d, e, f, g) (a', b', c', d', e', f', g')))
  | _ => none
theorem rise1Ok : SpecSound Try.prog 81 rise1S := by
  refine soundP (envOf sigCmpOk) Try.func81 (c := body Try.f81) rfl (by kernel_rfl) rfl ?_
  intro args out hf hpre
  split at hf <;> try (cases hf; done)
  rename_i a b c d e f g a' b' c' d' e' f' g' n
  cases hf
  refine ⟨Nat.le_of_ble_eq_true rfl, initI (args := [.agg [.int .i64 a, .int .i64 b, .bool c, .int .i64 d, .int .i64 e, .int .i64 f, .int .i64 g], .agg [.int .i64 a', .int .i64 b', .bool c', .int .i64 d', .int .i64 e', .int .i64 f', .int .i64 g'], .el (.fn1 tJob (.int .i64)) [n] 0 0]) rfl ?_⟩
  repeat' (first
    | with_reducible refine pN ?_
    | with_reducible refine cN ?_
    | with_reducible refine bN ?_
    | with_reducible refine cE ?_
    | with_reducible refine cR ?_
    | with_reducible refine bR ?_
    | with_reducible refine lE ?_
    | with_reducible refine lR ?_
    | with_reducible refine jE ?_
    | with_reducible refine jR ?_
    | refine bE rfl ?_
    | refine bP rfl ?_
    | refine pC (by first | exact True.intro | omega | (intros; first | exact True.intro | omega) | (simp only [List.length_cons, List.length_nil, Int.toNat_natCast]; omega)) ?_
    | refine seqI rfl ?_
    | refine regI rfl ?_
    | refine scopeI rfl ?_
    | refine blockI rfl ?_
    | refine exitI rfl ?_
    | refine retI rfl ?_
    | refine skipI rfl ?_)
  refine endR rfl ?_
  repeat' (first | exact trivial | exact rfl | refine ⟨rfl, ?_⟩ | refine And.intro ?_ ?_)

abbrev tIs : Ty := .fn1 tJob .bool
abbrev tNum : Ty := .fn1 tJob (.int .i64)

def hold1S : Spec := plain fun
  | [.agg [.int .i64 a, .int .i64 b, .bool c, .int .i64 d, .int .i64 e, .int .i64 f, .int .i64 g], .agg [.int .i64 a', .int .i64 b', .bool c', .int .i64 d', .int .i64 e', .int .i64 f', .int .i64 g'],
      .el (.fn1 (.pair (.int .i64) (.pair (.int .i64) (.pair .bool (.pair (.int .i64) (.pair (.int .i64) (.pair (.int .i64) (.int .i64))))))) .bool) [p] 0 0] => outV True (.int .i64 (holdC p (a, b, c, d, e, f, g) (a', b', c', d', e', f', g')))
  | _ => none
theorem hold1Ok : SpecSound Try.prog 95 hold1S := by
  refine soundP (envOf sigNil) Try.func95 (c := body Try.f95) rfl (by kernel_rfl) rfl ?_
  intro args out hf hpre
  split at hf <;> try (cases hf; done)
  rename_i a b c d e f g a' b' c' d' e' f' g' p
  cases hf
  refine ⟨Nat.le_of_ble_eq_true rfl, initI (args := [.agg [.int .i64 a, .int .i64 b, .bool c, .int .i64 d, .int .i64 e, .int .i64 f, .int .i64 g], .agg [.int .i64 a', .int .i64 b', .bool c', .int .i64 d', .int .i64 e', .int .i64 f', .int .i64 g'], .el tIs [p] 0 0]) rfl ?_⟩
  repeat' (first
    | with_reducible refine pN ?_
    | with_reducible refine cN ?_
    | with_reducible refine bN ?_
    | with_reducible refine cE ?_
    | with_reducible refine cR ?_
    | with_reducible refine bR ?_
    | with_reducible refine lE ?_
    | with_reducible refine lR ?_
    | with_reducible refine jE ?_
    | with_reducible refine jR ?_
    | refine bE rfl ?_
    | refine bP rfl ?_
    | refine pC (by first | exact True.intro | omega | (intros; first | exact True.intro | omega) | (simp only [List.length_cons, List.length_nil, Int.toNat_natCast]; omega)) ?_
    | refine seqI rfl ?_
    | refine regI rfl ?_
    | refine scopeI rfl ?_
    | refine blockI rfl ?_
    | refine exitI rfl ?_
    | refine retI rfl ?_
    | refine skipI rfl ?_)
  refine condI rfl (fun c1 => ?_) (fun c1 => ?_)
  · repeat' (first
      | with_reducible refine pN ?_
      | with_reducible refine cN ?_
      | with_reducible refine bN ?_
      | with_reducible refine cE ?_
      | with_reducible refine cR ?_
      | with_reducible refine bR ?_
      | with_reducible refine lE ?_
      | with_reducible refine lR ?_
      | with_reducible refine jE ?_
      | with_reducible refine jR ?_
      | refine bE rfl ?_
      | refine bP rfl ?_
      | refine pC (by first | exact True.intro | omega | (intros; first | exact True.intro | omega) | (simp only [List.length_cons, List.length_nil, Int.toNat_natCast]; omega)) ?_
      | refine seqI rfl ?_
      | refine regI rfl ?_
      | refine scopeI rfl ?_
      | refine blockI rfl ?_
      | refine exitI rfl ?_
      | refine retI rfl ?_
      | refine skipI rfl ?_)
    refine endR rfl ?_
    repeat' (first | exact trivial | exact rfl | refine ⟨rfl, ?_⟩ | refine And.intro ?_ ?_)
    unfold holdC
    rw [if_pos (by exact c1)]
  · repeat' (first
      | with_reducible refine pN ?_
      | with_reducible refine cN ?_
      | with_reducible refine bN ?_
      | with_reducible refine cE ?_
      | with_reducible refine cR ?_
      | with_reducible refine bR ?_
      | with_reducible refine lE ?_
      | with_reducible refine lR ?_
      | with_reducible refine jE ?_
      | with_reducible refine jR ?_
      | refine bE rfl ?_
      | refine bP rfl ?_
      | refine pC (by first | exact True.intro | omega | (intros; first | exact True.intro | omega) | (simp only [List.length_cons, List.length_nil, Int.toNat_natCast]; omega)) ?_
      | refine seqI rfl ?_
      | refine regI rfl ?_
      | refine scopeI rfl ?_
      | refine blockI rfl ?_
      | refine exitI rfl ?_
      | refine retI rfl ?_
      | refine skipI rfl ?_)
    refine condI rfl (fun c2 => ?_) (fun c2 => ?_)
    · repeat' (first
        | with_reducible refine pN ?_
        | with_reducible refine cN ?_
        | with_reducible refine bN ?_
        | with_reducible refine cE ?_
        | with_reducible refine cR ?_
        | with_reducible refine bR ?_
        | with_reducible refine lE ?_
        | with_reducible refine lR ?_
        | with_reducible refine jE ?_
        | with_reducible refine jR ?_
        | refine bE rfl ?_
        | refine bP rfl ?_
        | refine pC (by first | exact True.intro | omega | (intros; first | exact True.intro | omega) | (simp only [List.length_cons, List.length_nil, Int.toNat_natCast]; omega)) ?_
        | refine seqI rfl ?_
        | refine regI rfl ?_
        | refine scopeI rfl ?_
        | refine blockI rfl ?_
        | refine exitI rfl ?_
        | refine retI rfl ?_
        | refine skipI rfl ?_)
      refine endR rfl ?_
      repeat' (first | exact trivial | exact rfl | refine ⟨rfl, ?_⟩ | refine And.intro ?_ ?_)
      unfold holdC
      rw [if_neg (by rw [show (p (a, b, c, d, e, f, g) && !p (a', b', c', d', e', f', g')) = false from c1]; simp), if_pos (by exact c2)]
    · repeat' (first
        | with_reducible refine pN ?_
        | with_reducible refine cN ?_
        | with_reducible refine bN ?_
        | with_reducible refine cE ?_
        | with_reducible refine cR ?_
        | with_reducible refine bR ?_
        | with_reducible refine lE ?_
        | with_reducible refine lR ?_
        | with_reducible refine jE ?_
        | with_reducible refine jR ?_
        | refine bE rfl ?_
        | refine bP rfl ?_
        | refine pC (by first | exact True.intro | omega | (intros; first | exact True.intro | omega) | (simp only [List.length_cons, List.length_nil, Int.toNat_natCast]; omega)) ?_
        | refine seqI rfl ?_
        | refine regI rfl ?_
        | refine scopeI rfl ?_
        | refine blockI rfl ?_
        | refine exitI rfl ?_
        | refine retI rfl ?_
        | refine skipI rfl ?_)
      refine endR rfl ?_
      repeat' (first | exact trivial | exact rfl | refine ⟨rfl, ?_⟩ | refine And.intro ?_ ?_)
      unfold holdC
      rw [if_neg (by rw [show (p (a, b, c, d, e, f, g) && !p (a', b', c', d', e', f', g')) = false from c1]; simp), if_neg (by rw [show (p (a', b', c', d', e', f', g') && !p (a, b, c, d, e, f, g)) = false from c2]; simp)]

def first1S : Spec := plain fun
  | [.agg [.int .i64 a, .int .i64 b, .bool c, .int .i64 d, .int .i64 e, .int .i64 f, .int .i64 g], .agg [.int .i64 a', .int .i64 b', .bool c', .int .i64 d', .int .i64 e', .int .i64 f', .int .i64 g'],
      .el (.slice (.fn2 (.pair (.int .i64) (.pair (.int .i64) (.pair .bool (.pair (.int .i64) (.pair (.int .i64) (.pair (.int .i64) (.int .i64))))))) (.int .i64))) [l] 0 0] => outV (List.length (α := JobT → JobT → Int) l ≤ 1000000) (.int .i64 (firstC l (a, b, c, d, e, f, g) (a', b', c', d', e', f', g')))
  | _ => none

theorem firstC_skip {l : List (JobT → JobT → Int)} {x y : JobT} {d : JobT → JobT → Int} : ∀ {i : Nat}, (∀ k, k < i → getI l d k x y = 0) → firstC l x y = firstC (l.drop i) x y := by
  intro i
  induction l generalizing i with
  | nil => intro _; simp
  | cons f l ih =>
    intro h
    cases i with
    | zero => rfl
    | succ i =>
      have h0 : f x y = 0 := h 0 (by omega)
      simp only [firstC, h0, List.drop_succ_cons]
      rw [if_neg (by simp)]
      exact ih fun k hk => h (k + 1) (by omega)

theorem first1Ok : SpecSound Try.prog 83 first1S := by
  refine soundP (envOf sigNil) Try.func83 (c := body Try.f83) rfl (by kernel_rfl) rfl ?_
  intro args out hf hpre
  split at hf <;> try (cases hf; done)
  rename_i a b c d e f g a' b' c' d' e' f' g' l
  cases hf
  refine ⟨Nat.le_of_ble_eq_true rfl, initI (args := [.agg [.int .i64 a, .int .i64 b, .bool c, .int .i64 d, .int .i64 e, .int .i64 f, .int .i64 g], .agg [.int .i64 a', .int .i64 b', .bool c', .int .i64 d', .int .i64 e', .int .i64 f', .int .i64 g'], .el (.slice tCmp) [l] 0 0]) rfl ?_⟩
  change List.length (α := JobT → JobT → Int) l ≤ 1000000 at hpre
  repeat' (first
    | with_reducible refine pN ?_
    | with_reducible refine cN ?_
    | with_reducible refine bN ?_
    | with_reducible refine cE ?_
    | with_reducible refine cR ?_
    | with_reducible refine bR ?_
    | with_reducible refine lE ?_
    | with_reducible refine lR ?_
    | with_reducible refine jE ?_
    | with_reducible refine jR ?_
    | refine bE rfl ?_
    | refine bP rfl ?_
    | refine pC (by first | exact True.intro | omega | (intros; first | exact True.intro | omega) | (simp only [List.length_cons, List.length_nil, Int.toNat_natCast]; omega)) ?_
    | refine seqI rfl ?_
    | refine regI rfl ?_
    | refine scopeI rfl ?_
    | refine blockI rfl ?_
    | refine exitI rfl ?_
    | refine retI rfl ?_
    | refine skipI rfl ?_)
  refine tidyI [(9, .sl tCmp l), (10, .int .i64 (List.length (α := JobT → JobT → Int) l))] [] rfl rfl ?_ ?_
  · repeat' (first | exact trivial | exact rfl | refine ⟨rfl, ?_⟩ | refine And.intro ?_ ?_)
  repeat' (first
    | with_reducible refine pN ?_
    | with_reducible refine cN ?_
    | with_reducible refine bN ?_
    | with_reducible refine cE ?_
    | with_reducible refine cR ?_
    | with_reducible refine bR ?_
    | with_reducible refine lE ?_
    | with_reducible refine lR ?_
    | with_reducible refine jE ?_
    | with_reducible refine jR ?_
    | refine bE rfl ?_
    | refine bP rfl ?_
    | refine pC (by first | exact True.intro | omega | (intros; first | exact True.intro | omega) | (simp only [List.length_cons, List.length_nil, Int.toNat_natCast]; omega)) ?_
    | refine seqI rfl ?_
    | refine regI rfl ?_
    | refine scopeI rfl ?_
    | refine blockI rfl ?_
    | refine exitI rfl ?_
    | refine retI rfl ?_
    | refine skipI rfl ?_)
  refine loopI (σ := Nat) (fun i => [(11, .int .i64 i)]) (fun i => []) (fun i => i ≤ List.length (α := JobT → JobT → Int) l ∧ ∀ k, k < i → getI l tCmp.dflt k (a, b, c, d, e, f, g) (a', b', c', d', e', f', g') = 0) (fun i => List.length (α := JobT → JobT → Int) l - i) 0 rfl (fun _ => rfl) rfl ?_ ?_ ?_
  · exact ⟨Nat.zero_le _, fun k hk => by omega⟩
  · repeat' (first | exact trivial | exact rfl | refine ⟨rfl, ?_⟩ | refine And.intro ?_ ?_)
  rintro i ⟨hi, hz⟩
  repeat' (first
    | with_reducible refine pN ?_
    | with_reducible refine cN ?_
    | with_reducible refine bN ?_
    | with_reducible refine cE ?_
    | with_reducible refine cR ?_
    | with_reducible refine bR ?_
    | with_reducible refine lE ?_
    | with_reducible refine lR ?_
    | with_reducible refine jE ?_
    | with_reducible refine jR ?_
    | refine bE rfl ?_
    | refine bP rfl ?_
    | refine pC (by first | exact True.intro | omega | (intros; first | exact True.intro | omega) | (simp only [List.length_cons, List.length_nil, Int.toNat_natCast]; omega)) ?_
    | refine seqI rfl ?_
    | refine regI rfl ?_
    | refine scopeI rfl ?_
    | refine blockI rfl ?_
    | refine exitI rfl ?_
    | refine retI rfl ?_
    | refine skipI rfl ?_)
  refine condI rfl (fun c1 => ?_) (fun c1 => ?_)
  · simp only [decide_eq_true_eq] at c1
    have hil : i < List.length (α := JobT → JobT → Int) l := by omega
    have hin : ((i : Int)).toNat = i := by omega
    repeat' (first
      | with_reducible refine pN ?_
      | with_reducible refine cN ?_
      | with_reducible refine bN ?_
      | with_reducible refine cE ?_
      | with_reducible refine cR ?_
      | with_reducible refine bR ?_
      | with_reducible refine lE ?_
      | with_reducible refine lR ?_
      | with_reducible refine jE ?_
      | with_reducible refine jR ?_
      | refine bE rfl ?_
      | refine bP rfl ?_
      | refine pC (by first | exact True.intro | omega | (intros; first | exact True.intro | omega) | (simp only [List.length_cons, List.length_nil, Int.toNat_natCast]; omega)) ?_
      | refine seqI rfl ?_
      | refine regI rfl ?_
      | refine scopeI rfl ?_
      | refine blockI rfl ?_
      | refine exitI rfl ?_
      | refine retI rfl ?_
      | refine skipI rfl ?_)
    refine condI rfl (fun c2 => ?_) (fun c2 => ?_)
    · simp only [decide_eq_true_eq] at c2
      have c2' : getI l tCmp.dflt i (a, b, c, d, e, f, g) (a', b', c', d', e', f', g') ≠ 0 := c2
      repeat' (first
        | with_reducible refine pN ?_
        | with_reducible refine cN ?_
        | with_reducible refine bN ?_
        | with_reducible refine cE ?_
        | with_reducible refine cR ?_
        | with_reducible refine bR ?_
        | with_reducible refine lE ?_
        | with_reducible refine lR ?_
        | with_reducible refine jE ?_
        | with_reducible refine jR ?_
        | refine bE rfl ?_
        | refine bP rfl ?_
        | refine pC (by first | exact True.intro | omega | (intros; first | exact True.intro | omega) | (simp only [List.length_cons, List.length_nil, Int.toNat_natCast]; omega)) ?_
        | refine seqI rfl ?_
        | refine regI rfl ?_
        | refine scopeI rfl ?_
        | refine blockI rfl ?_
        | refine exitI rfl ?_
        | refine retI rfl ?_
        | refine skipI rfl ?_)
      refine endR rfl ?_
      repeat' (first | exact trivial | exact rfl | refine ⟨rfl, ?_⟩ | refine And.intro ?_ ?_)
      rw [firstC_skip hz, List.drop_eq_getElem_cons hil]
      have hg : l[i] = getI l tCmp.dflt i := by simp [getI, List.getD, List.getElem?_eq_getElem hil]
      rw [hg]
      simp only [firstC]
      rw [if_pos c2']
      rfl
    · simp only [decide_eq_false_iff_not, Decidable.not_not] at c2
      repeat' (first
        | with_reducible refine pN ?_
        | with_reducible refine cN ?_
        | with_reducible refine bN ?_
        | with_reducible refine cE ?_
        | with_reducible refine cR ?_
        | with_reducible refine bR ?_
        | with_reducible refine lE ?_
        | with_reducible refine lR ?_
        | with_reducible refine jE ?_
        | with_reducible refine jR ?_
        | refine bE rfl ?_
        | refine bP rfl ?_
        | refine pC (by first | exact True.intro | omega | (intros; first | exact True.intro | omega) | (simp only [List.length_cons, List.length_nil, Int.toNat_natCast]; omega)) ?_
        | refine seqI rfl ?_
        | refine regI rfl ?_
        | refine scopeI rfl ?_
        | refine blockI rfl ?_
        | refine exitI rfl ?_
        | refine retI rfl ?_
        | refine skipI rfl ?_)
      refine roundI (i + 1) rfl ?_ ?_ ?_
      · refine ⟨by show i + 1 ≤ List.length (α := JobT → JobT → Int) l; omega, fun k hk => ?_⟩
        by_cases hki : k = i
        · subst hki; exact c2
        · exact hz k (by omega)
      · show List.length (α := JobT → JobT → Int) l - (i + 1) < List.length (α := JobT → JobT → Int) l - i
        omega
      · repeat' (first | exact trivial | exact rfl | refine ⟨rfl, ?_⟩ | refine And.intro ?_ ?_)
  · simp only [decide_eq_false_iff_not] at c1
    repeat' (first
      | with_reducible refine pN ?_
      | with_reducible refine cN ?_
      | with_reducible refine bN ?_
      | with_reducible refine cE ?_
      | with_reducible refine cR ?_
      | with_reducible refine bR ?_
      | with_reducible refine lE ?_
      | with_reducible refine lR ?_
      | with_reducible refine jE ?_
      | with_reducible refine jR ?_
      | refine bE rfl ?_
      | refine bP rfl ?_
      | refine pC (by first | exact True.intro | omega | (intros; first | exact True.intro | omega) | (simp only [List.length_cons, List.length_nil, Int.toNat_natCast]; omega)) ?_
      | refine seqI rfl ?_
      | refine regI rfl ?_
      | refine scopeI rfl ?_
      | refine blockI rfl ?_
      | refine exitI rfl ?_
      | refine retI rfl ?_
      | refine skipI rfl ?_)
    refine endR rfl ?_
    repeat' (first | exact trivial | exact rfl | refine ⟨rfl, ?_⟩ | refine And.intro ?_ ?_)
    rw [firstC_skip hz, List.drop_of_length_le (by omega)]
    rfl

/-! ### The functions that make them -/

def riseS : Spec := ⟨true, fun args rows => match args, rows with
  | [.ext (.fn1 (.pair (.int .i64) (.pair (.int .i64) (.pair .bool (.pair (.int .i64) (.pair (.int .i64) (.pair (.int .i64) (.int .i64))))))) (.int .i64) n)], [] => some ⟨True, .ext (.fn2 tJob (.int .i64) (riseC n)), [], true⟩
  | _, _ => none⟩
theorem riseOk : SpecSound Try.prog 52 riseS := by
  refine soundR (envOf sigNil) Try.func52 (c := body Try.f52) rfl (by kernel_rfl) rfl ?_
  intro args rows out hf hpre
  split at hf <;> try (cases hf; done)
  rename_i n
  cases hf
  refine ⟨Nat.le_of_ble_eq_true rfl, initI (args := [.ext (.fn1 tJob (.int .i64) n)]) (rows := []) rfl ?_⟩
  refine seqI rfl ?_
  refine regI rfl ?_
  repeat' (first | with_reducible refine pN ?_ | refine pC (by first | exact True.intro | omega | (intros; first | exact True.intro | omega) | (simp only [List.length_cons, List.length_nil, Int.toNat_natCast]; omega)) ?_)
  with_reducible refine cN ?_
  refine seqI rfl ?_
  refine regI rfl ?_
  repeat' (first | with_reducible refine pN ?_ | refine pC (by first | exact True.intro | omega | (intros; first | exact True.intro | omega) | (simp only [List.length_cons, List.length_nil, Int.toNat_natCast]; omega)) ?_)
  with_reducible refine cN ?_
  refine freezeBoxI 1 tNum rfl ?_
  refine seeI 2 (.ext (.fn2 tJob (.int .i64) (riseC n))) rfl (seen2 rise1Ok (callF Try.func81 (by kernel_rfl) (c := body Try.f81) rfl) rfl rfl rfl rfl fun x y => ⟨_, rfl, trivial, rfl⟩) ?_
  repeat' (first
    | with_reducible refine pN ?_
    | with_reducible refine cN ?_
    | with_reducible refine bN ?_
    | with_reducible refine cE ?_
    | with_reducible refine cR ?_
    | with_reducible refine bR ?_
    | with_reducible refine lE ?_
    | with_reducible refine lR ?_
    | with_reducible refine jE ?_
    | with_reducible refine jR ?_
    | refine bE rfl ?_
    | refine bP rfl ?_
    | refine pC (by first | exact True.intro | omega | (intros; first | exact True.intro | omega) | (simp only [List.length_cons, List.length_nil, Int.toNat_natCast]; omega)) ?_
    | refine seqI rfl ?_
    | refine regI rfl ?_
    | refine scopeI rfl ?_
    | refine blockI rfl ?_
    | refine exitI rfl ?_
    | refine retI rfl ?_
    | refine skipI rfl ?_)
  refine endR rfl ?_
  repeat' (first | exact trivial | exact rfl | refine ⟨rfl, ?_⟩ | refine And.intro ?_ ?_)

def holdS : Spec := ⟨true, fun args rows => match args, rows with
  | [.ext (.fn1 (.pair (.int .i64) (.pair (.int .i64) (.pair .bool (.pair (.int .i64) (.pair (.int .i64) (.pair (.int .i64) (.int .i64))))))) .bool p)], [] => some ⟨True, .ext (.fn2 tJob (.int .i64) (holdC p)), [], true⟩
  | _, _ => none⟩
theorem holdOk : SpecSound Try.prog 73 holdS := by
  refine soundR (envOf sigNil) Try.func73 (c := body Try.f73) rfl (by kernel_rfl) rfl ?_
  intro args rows out hf hpre
  split at hf <;> try (cases hf; done)
  rename_i p
  cases hf
  refine ⟨Nat.le_of_ble_eq_true rfl, initI (args := [.ext (.fn1 tJob .bool p)]) (rows := []) rfl ?_⟩
  refine seqI rfl ?_
  refine regI rfl ?_
  repeat' (first | with_reducible refine pN ?_ | refine pC (by first | exact True.intro | omega | (intros; first | exact True.intro | omega) | (simp only [List.length_cons, List.length_nil, Int.toNat_natCast]; omega)) ?_)
  with_reducible refine cN ?_
  refine seqI rfl ?_
  refine regI rfl ?_
  repeat' (first | with_reducible refine pN ?_ | refine pC (by first | exact True.intro | omega | (intros; first | exact True.intro | omega) | (simp only [List.length_cons, List.length_nil, Int.toNat_natCast]; omega)) ?_)
  with_reducible refine cN ?_
  refine freezeBoxI 1 tIs rfl ?_
  refine seeI 2 (.ext (.fn2 tJob (.int .i64) (holdC p))) rfl (seen2 hold1Ok (callF Try.func95 (by kernel_rfl) (c := body Try.f95) rfl) rfl rfl rfl rfl fun x y => ⟨_, rfl, trivial, rfl⟩) ?_
  repeat' (first
    | with_reducible refine pN ?_
    | with_reducible refine cN ?_
    | with_reducible refine bN ?_
    | with_reducible refine cE ?_
    | with_reducible refine cR ?_
    | with_reducible refine bR ?_
    | with_reducible refine lE ?_
    | with_reducible refine lR ?_
    | with_reducible refine jE ?_
    | with_reducible refine jR ?_
    | refine bE rfl ?_
    | refine bP rfl ?_
    | refine pC (by first | exact True.intro | omega | (intros; first | exact True.intro | omega) | (simp only [List.length_cons, List.length_nil, Int.toNat_natCast]; omega)) ?_
    | refine seqI rfl ?_
    | refine regI rfl ?_
    | refine scopeI rfl ?_
    | refine blockI rfl ?_
    | refine exitI rfl ?_
    | refine retI rfl ?_
    | refine skipI rfl ?_)
  refine endR rfl ?_
  repeat' (first | exact trivial | exact rfl | refine ⟨rfl, ?_⟩ | refine And.intro ?_ ?_)

def firstS' : Spec := ⟨true, fun args rows => match args, rows with
  | [.sl (.fn2 (.pair (.int .i64) (.pair (.int .i64) (.pair .bool (.pair (.int .i64) (.pair (.int .i64) (.pair (.int .i64) (.int .i64))))))) (.int .i64)) l], [] => some ⟨List.length (α := JobT → JobT → Int) l ≤ 1000000, .ext (.fn2 tJob (.int .i64) (firstC l)), [], true⟩
  | _, _ => none⟩
theorem firstOk' : SpecSound Try.prog 56 firstS' := by
  refine soundR (envOf sigNil) Try.func56 (c := body Try.f56) rfl (by kernel_rfl) rfl ?_
  intro args rows out hf hpre
  split at hf <;> try (cases hf; done)
  rename_i l
  cases hf
  refine ⟨Nat.le_of_ble_eq_true rfl, initI (args := [.sl tCmp l]) (rows := []) rfl ?_⟩
  change List.length (α := JobT → JobT → Int) l ≤ 1000000 at hpre
  refine seqI rfl ?_
  refine regI rfl ?_
  repeat' (first | with_reducible refine pN ?_ | refine pC (by first | exact True.intro | omega | (intros; first | exact True.intro | omega) | (simp only [List.length_cons, List.length_nil, Int.toNat_natCast]; omega)) ?_)
  with_reducible refine cN ?_
  refine seqI rfl ?_
  refine regI rfl ?_
  repeat' (first | with_reducible refine pN ?_ | refine pC (by first | exact True.intro | omega | (intros; first | exact True.intro | omega) | (simp only [List.length_cons, List.length_nil, Int.toNat_natCast]; omega)) ?_)
  with_reducible refine cN ?_
  refine freezeBoxI 1 (.slice tCmp) rfl ?_
  refine seeI 2 (.ext (.fn2 tJob (.int .i64) (firstC l))) rfl (seen2 first1Ok (callF Try.func83 (by kernel_rfl) (c := body Try.f83) rfl) rfl rfl rfl rfl fun x y => ⟨_, rfl, hpre, rfl⟩) ?_
  repeat' (first
    | with_reducible refine pN ?_
    | with_reducible refine cN ?_
    | with_reducible refine bN ?_
    | with_reducible refine cE ?_
    | with_reducible refine cR ?_
    | with_reducible refine bR ?_
    | with_reducible refine lE ?_
    | with_reducible refine lR ?_
    | with_reducible refine jE ?_
    | with_reducible refine jR ?_
    | refine bE rfl ?_
    | refine bP rfl ?_
    | refine pC (by first | exact True.intro | omega | (intros; first | exact True.intro | omega) | (simp only [List.length_cons, List.length_nil, Int.toNat_natCast]; omega)) ?_
    | refine seqI rfl ?_
    | refine regI rfl ?_
    | refine scopeI rfl ?_
    | refine blockI rfl ?_
    | refine exitI rfl ?_
    | refine retI rfl ?_
    | refine skipI rfl ?_)
  refine endR rfl ?_
  repeat' (first | exact trivial | exact rfl | refine ⟨rfl, ?_⟩ | refine And.intro ?_ ?_)
end Go.AM.Ytkacoophnfljcaa
