/- CaH. -/
import Derived.Test.YtbepaplaahcnkaaGreatPc25
import Derived.Test.YtbepaplaahcnkaaGreatPc20

section
set_option linter.all false
namespace Go.AM.YtbepaplaahcnkaaGreat
open Go.Proofs Go.RowKit
def rfOf:Code→Option (Code × Code)
 | .rangeFunc _ _ a b=>some (a,b)
 | .seq a b=>match rfOf a with
   | some x=>some x
   | none=>rfOf b
 | .block _ c=>rfOf c
 | _=>none
def codeA (c:Code):Code:=match rfOf c with
 | some x=>x.1
 | none=>.skip
def codeB (c:Code):Code:=match rfOf c with
 | some x=>x.2
 | none=>.skip
def rfRec (c:Code) (fn:FuncId) (T:Array Value) (D:Nat) (st:LoopState) (pe:Option Code):Loop:={ state:=st,pending:=pe,fn,tmps:=T,params:=#[27],assign:=codeA c,body:=codeB c,defers:=D }
structure FAt (c:Code) (fn:FuncId) (T:Array Value) (B7 B8 B9 l D:Nat) (ln:Int) (W0:World) (a:Int) (r:Bool) (st:LoopState) (pe:Option Code) (W:World):Prop where
 c7:W.heap[B7]?=some (.cells #[.int .i64 ln] 3 (0,0))
 c8:W.heap[B8]?=some (.cells #[.int .i64 a] 3 (0,0))
 c9:W.heap[B9]?=some (.cells #[.bool r] 4 (0,0))
 L:W.heap[l]?=some (.loop (rfRec c fn T D st pe))
 K:W.heap[D]?=some (.deferred (some []))
 grown:W0.grownBy W none
theorem grown_none {w a b:World} (h:w.grownBy a none) (hsz:a.heap.size≤b.heap.size) (h1:b.os=a.os) (h2:b.tape=a.tape) (h3:b.output=a.output) (hk:∀ k,k < w.heap.size→b.heap[k]?=a.heap[k]?):w.grownBy b none :=
 ⟨h1.trans h.os,h2.trans h.tape,h3.trans h.output,Nat.le_trans h.size hsz,fun k hk' hr=>(hk k hk').trans (h.block k hk' hr)⟩
theorem FAt.turn {c:Code} {fn:FuncId} {T:Array Value} {B7 B8 B9 l D Bf:Nat} {ln:Int} {W0:World} {a:Int} {r:Bool} {st:LoopState} {pe:Option Code} {W W':World} (h:FAt c fn T B7 B8 B9 l D ln W0 a r st pe W)
 (hg:W.grownBy W' (some Bf)) (hn:Bf≠B7∧Bf≠B8∧Bf≠B9∧Bf≠l∧Bf≠D) (hW:W0.heap.size≤Bf):FAt c fn T B7 B8 B9 l D ln W0 a r st pe W':=by
 have key:∀ {k:Nat} {o:Obj},W.heap[k]?=some o→Bf≠k→W'.heap[k]?=some o:=fun {k o} hk hne=>(hg.block k (Array.getElem?_eq_some_iff.1 hk).1 (by simpa using Ne.symm hne)).trans hk
 exact ⟨key h.c7 hn.1,key h.c8 hn.2.1,key h.c9 hn.2.2.1,key h.L hn.2.2.2.1,key h.K hn.2.2.2.2,grown_none h.grown hg.size hg.os hg.tape hg.output fun k hk=>hg.block k (Nat.lt_of_lt_of_le hk h.grown.size) (by simp;omega)⟩
end Go.AM.YtbepaplaahcnkaaGreat
end
