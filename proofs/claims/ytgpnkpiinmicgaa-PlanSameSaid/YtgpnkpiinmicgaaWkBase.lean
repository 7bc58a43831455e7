/- What the walks by pieces share. -/
import Derived.Test.YtgpnkpiinmicgaaPlBase
import Derived.Test.YtgpnkpiinmicgaaAmWalk
set_option linter.all false
namespace Go.AM.Ytgpnkpiinmicgaa
open Go.Proofs

theorem envOf {S : Nat → Option Spec} (h : SigOk Try.prog S) : Env Try.prog ts S := ⟨tsOk, h, mixed⟩

theorem soundP {S : Nat → Option Spec} (E : Env Try.prog ts S) {K : List Nat} {f : Nat} {fn : Func} {c : Code} {F : List AV → Option Out} (hf : Try.prog.funcs[f]? = some fn) (hb : fn.body = some c) (hc : codeOk c = true) (hk : forceL (keepOf fn c) some = some K)
    (h : ∀ args out, F args = some out → out.pre → args.length ≤ fn.ntmps ∧ WP E K c (St.init fn.ntmps args []) (endOf ts fn.results.toList 0 out)) : SpecSound Try.prog f (plain F) :=
  spec_of_WP E K hf hb hc fun args rows out hout hpre hr => by
    have := hr rfl
    subst this
    exact h args out hout hpre

theorem soundR {S : Nat → Option Spec} (E : Env Try.prog ts S) {K : List Nat} {f : Nat} {fn : Func} {c : Code} {F : List AV → List AObj → Option Out} (hf : Try.prog.funcs[f]? = some fn) (hb : fn.body = some c) (hc : codeOk c = true) (hk : forceL (keepOf fn c) some = some K)
    (h : ∀ args rows out, F args rows = some out → out.pre → args.length ≤ fn.ntmps ∧ WP E K c (St.init fn.ntmps args rows) (endOf ts fn.results.toList rows.length out)) : SpecSound Try.prog f ⟨true, F⟩ :=
  spec_of_WP E K hf hb hc fun args rows out hout hpre hr => h args rows out hout hpre
end Go.AM.Ytgpnkpiinmicgaa
