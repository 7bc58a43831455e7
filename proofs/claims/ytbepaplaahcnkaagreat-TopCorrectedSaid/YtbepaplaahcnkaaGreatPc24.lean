/- CaD, CaS. -/
import Derived.Test.YtbepaplaahcnkaaGreatPc20
import Derived.Test.YtbepaplaahcnkaaGreatPc23

set_option linter.all false
section
namespace Go.AM.YtbepaplaahcnkaaGreat
open Go.Proofs
set_option maxRecDepth 100000
set_option maxHeartbeats 4000000
def startB (b:Bk.El):Int:=b.2.1
def SortedB (xs:List Bk.El):Prop:=∀ i j,i < j→j < xs.length→startB (getI xs Bk.dflt i)≤startB (getI xs Bk.dflt j)
def CalS (xss:List (List Bk.El)):Prop:=∀ xs∈xss,SortedB xs
end Go.AM.YtbepaplaahcnkaaGreat
end

section
namespace Go.AM.YtbepaplaahcnkaaGreat
open Go.Proofs
set_option maxRecDepth 100000
set_option maxHeartbeats 4000000
def pickF (c n:Int):Int:=(if c < 0 then -(c+1) else c) % n
def pickP:Spec:=plain fun
 | [.int .i64 c,.int .i64 n]=>outV (0 < n) (.int .i64 (pickF c n))
 | _=>none
theorem pick_b {c n:Int} (h:0 < n):0≤pickF c n∧pickF c n < n:=⟨Int.emod_nonneg _ (by omega),Int.emod_lt_of_pos _ h⟩
theorem pickF_neg {c n:Int} (h:0 < n) (c1:c < 0):pickF c n=(0 - (c+1)).tmod n:=by
 unfold pickF;rw [if_pos c1,Int.tmod_eq_emod_of_nonneg (by omega)];congr 1;omega
theorem pickF_pos {c n:Int} (h:0 < n) (c1:¬ c < 0):pickF c n=c.tmod n:=by
 unfold pickF;rw [if_neg c1,Int.tmod_eq_emod_of_nonneg (by omega)]
def mkB (e:t4.El):Bk.El:=(pickF e.1 6,pickF e.2.1 300,pickF e.2.1 300+1+pickF e.2.2.1 40,1+pickF e.2.2.2 6)
def someF (x:List t4.El):List Bk.El:=(x.take 40).map mkB
def someS:Spec:=plain fun
 | [.sl (.pair (.int .i64) (.pair (.int .i64) (.pair (.int .i64) (.int .i64)))) x]=>some ⟨True,.own 0,[.seq Bk (someF x)],false⟩
 | _=>none
end Go.AM.YtbepaplaahcnkaaGreat
end
