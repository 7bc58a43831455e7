/- CaIns2. -/
import Derived.Test.YtbepaplaahcnkaaGreatPc22

section
set_option linter.all false
namespace Go.AM.YtbepaplaahcnkaaGreat
open Go.Proofs Go.RowKit Go.Lib
def insF (xs ys:List Bk.El) (i:Int):List Bk.El:=xs.take i.toNat++ys++xs.drop i.toNat
def insS:Spec:=⟨true,fun args rows=>match args,rows with
 | [.own 0,.int .i64 i,.own 1],[.seq (.pair (.int .i64) (.pair (.int .i64) (.pair (.int .i64) (.int .i64)))) xs,.seq (.pair (.int .i64) (.pair (.int .i64) (.pair (.int .i64) (.int .i64)))) ys] =>
   some ⟨0≤i∧i≤xs.length∧0 < ys.length∧(xs.length+ys.length) * 32≤140737488355328,.own 2,[.dead,.dead,.seq Bk (insF xs ys i)],true⟩
 | _,_=>none⟩
end Go.AM.YtbepaplaahcnkaaGreat
end
