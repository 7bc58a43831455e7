/- What the walks through the code share. -/
import Derived.Test.YtkacoophnfljcaaCaTypes
import Derived.Test.YtkacoophnfljcaaAmWalk
set_option linter.all false
namespace Go.AM.Ytkacoophnfljcaa
open Go.Proofs

def body (f : Func) : Code := match f.body with
  | some c => c
  | none => .skip

theorem bI {b : Bool} {x y : Prop} (h : b = true → x) (k : b = false → y) : branch b x y := ⟨h, k⟩
theorem aI {p q : Prop} (h : p) (k : q) : p ∧ q := ⟨h, k⟩
theorem wrapId {n : Int} (h : -9223372036854775808 ≤ n) (k : n < 9223372036854775808) : IntKind.wrap .i64 n = n := by
  simp [IntKind.wrap, IntKind.signed, IntKind.bits]; omega
theorem wrapEq {n m : Int} (e : n = m) (h : -9223372036854775808 ≤ m) (k : m < 9223372036854775808) : IntKind.wrap .i64 n = m := by
  rw [e]; exact wrapId h k
theorem eInt {k : IntKind} {n m : Int} (h : n = m) : AV.int k n = AV.int k m := by rw [h]
theorem eBool {b c : Bool} (h : b = c) : AV.bool b = AV.bool c := by rw [h]
theorem slotInt {l : List (Nat × Ent)} {t : Nat} {k : IntKind} {n m : Int} (h : look l t = some ⟨[], .int k m⟩) (e : m = n) : look l t = some ⟨[], .int k n⟩ := by rw [h, e]
theorem slotBool {l : List (Nat × Ent)} {t : Nat} {n m : Bool} (h : look l t = some ⟨[], .bool m⟩) (e : m = n) : look l t = some ⟨[], .bool n⟩ := by rw [h, e]
theorem rowSeq {l : List (Nat × AObj)} {r : Nat} {t : Ty} {xs ys : List t.El} (h : look l r = some (.seq t xs)) (e : xs = ys) : look l r = some (.seq t ys) := by rw [h, e]
theorem rowBox {l : List (Nat × AObj)} {r : Nat} {xs ys : List AV} (h : look l r = some (.box xs)) (e : xs = ys) : look l r = some (.box ys) := by rw [h, e]

theorem sigNil : SigOk Try.prog (look []) := fun _ _ h => by simp [look] at h
theorem sigCons {l : List (Nat × Spec)} {f : Nat} {fn : Func} {c : Code} {s : Spec} (h : SigOk Try.prog (look l)) (hf : Try.prog.funcs[f]? = some fn) (hname : (fn.name == "runtime.NumGoroutine") = false) (hb : fn.body = some c) (hs : SpecSound Try.prog f s) :
    SigOk Try.prog (look ((f, s) :: l)) := fun g t hg => by
  simp only [look] at hg
  split at hg
  · rename_i he
    obtain rfl : f = g := Nat.eq_of_beq_eq_true he
    cases hg
    have h1 : fn.name ≠ "runtime.NumGoroutine" := by simpa using hname
    exact ⟨hs, fun args w => by simp [callFunc, hf, h1, hb]⟩
  · exact h g t hg

def plain (F : List AV → Option Out) : Spec := ⟨false, fun args _ => F args⟩
def outV (pre : Prop) (v : AV) : Option Out := some ⟨pre, v, [], false⟩

theorem sound0 {S : Nat → Option Spec} (hS : SigOk Try.prog S) {f : Nat} {fn : Func} {c : Code} {F : List AV → Option Out} (hf : Try.prog.funcs[f]? = some fn) (hb : fn.body = some c) (hc : codeOk c = true)
    (h : ∀ args out, F args = some out → out.pre → args.length ≤ fn.ntmps ∧ wp tt S c (St.init fn.ntmps args []) (endOf tt fn.results.toList 0 out)) : SpecSound Try.prog f (plain F) :=
  spec_of_body ttOk hS mixed hf hb hc fun args rows out hout hpre hr => by
    have := hr rfl
    subst this
    exact h args out hout hpre

theorem sound1 {S : Nat → Option Spec} (hS : SigOk Try.prog S) {f : Nat} {fn : Func} {c : Code} {F : List AV → List AObj → Option Out} (hf : Try.prog.funcs[f]? = some fn) (hb : fn.body = some c) (hc : codeOk c = true)
    (h : ∀ args rows out, F args rows = some out → out.pre → args.length ≤ fn.ntmps ∧ wp tt S c (St.init fn.ntmps args rows) (endOf tt fn.results.toList rows.length out)) : SpecSound Try.prog f ⟨true, F⟩ :=
  spec_of_body ttOk hS mixed hf hb hc fun args rows out hout hpre hr => h args rows out hout hpre

/-- Numbers that no sum of a few makes too great. -/
def Sm (n : Int) : Prop := -1000000000000 ≤ n ∧ n ≤ 1000000000000

/-- The first place where p holds; -1 if there is none. -/
def idxF {α : Type} (p : α → Bool) : List α → Int
  | [] => -1
  | x :: r => if p x then 0 else if idxF p r < 0 then -1 else idxF p r + 1

theorem idxF_none {α : Type} {p : α → Bool} {d : α} : ∀ {xs : List α}, (∀ j, j < xs.length → p (getI xs d j) = false) → idxF p xs = -1
  | [], _ => rfl
  | x :: r, h => by
    have h0 : p x = false := h 0 (by simp)
    have h1 := idxF_none (p := p) (d := d) (xs := r) fun j hj => h (j + 1) (by simpa using hj)
    simp [idxF, h0, h1]

theorem idxF_found {α : Type} {p : α → Bool} {d : α} : ∀ {xs : List α} {i : Nat}, i < xs.length → (∀ j, j < i → p (getI xs d j) = false) → p (getI xs d i) = true → idxF p xs = i
  | [], i, h, _, _ => by simp at h
  | x :: r, 0, _, _, h => by
    have : p x = true := h
    simp [idxF, this]
  | x :: r, i + 1, hi, h, hp => by
    have h0 : p x = false := h 0 (by omega)
    have h1 := idxF_found (p := p) (d := d) (xs := r) (i := i) (by simpa using hi) (fun j hj => h (j + 1) (by omega)) hp
    simp only [idxF, h0, h1]
    simp
    omega

theorem idxF_any {α : Type} {p : α → Bool} : ∀ {xs : List α}, decide (0 ≤ idxF p xs) = xs.any p
  | [] => by simp [idxF]
  | x :: r => by
    have h1 := idxF_any (p := p) (xs := r)
    by_cases hp : p x = true
    · simp [idxF, hp]
    · simp only [idxF, hp, List.any_cons, Bool.false_or, ← h1]
      by_cases h2 : idxF p r < 0
      · simp [h2] <;> omega
      · simp [h2] <;> omega

abbrev Bk : Ty := .pair (.int .i64) (.pair (.int .i64) (.pair (.int .i64) (.int .i64)))
abbrev tInt : Ty := .int .i64
abbrev t3 : Ty := .pair (.int .i64) (.pair (.int .i64) (.int .i64))
abbrev t4 : Ty := .pair (.int .i64) (.pair (.int .i64) (.pair (.int .i64) (.int .i64)))

theorem envOf {S : Nat → Option Spec} (h : SigOk Try.prog S) : Env Try.prog ts S := ⟨tsOk, h, mixed⟩

theorem soundP {S : Nat → Option Spec} (E : Env Try.prog ts S) {K : List Nat} {f : Nat} {fn : Func} {c : Code} {F : List AV → Option Out} (hf : Try.prog.funcs[f]? = some fn) (hb : fn.body = some c) (hc : codeOk c = true) (hk : forceL (keepOf fn c) some = some K)
    (h : ∀ args out, F args = some out → out.pre → args.length ≤ fn.ntmps ∧ WP E K c (St.init fn.ntmps args []) (endOf ts fn.results.toList 0 out)) : SpecSound Try.prog f (plain F) :=
  spec_of_WP E K hf hb hc fun args rows out hout hpre hr => by
    have := hr rfl
    subst this
    exact h args out hout hpre

theorem soundR {S : Nat → Option Spec} (E : Env Try.prog ts S) {K : List Nat} {f : Nat} {fn : Func} {c : Code} {F : List AV → List AObj → Option Out} (hf : Try.prog.funcs[f]? = some fn) (hb : fn.body = some c) (hc : codeOk c = true) (hk : forceL (keepOf fn c) some = some K)
    (h : ∀ args rows out, F args rows = some out → out.pre → args.length ≤ fn.ntmps ∧ WP E K c (St.init fn.ntmps args rows) (endOf ts fn.results.toList rows.length out)) : SpecSound Try.prog f ⟨true, F⟩ :=
  spec_of_WP E K hf hb hc fun args rows out hout hpre hr => h args rows out hout hpre
end Go.AM.Ytkacoophnfljcaa
