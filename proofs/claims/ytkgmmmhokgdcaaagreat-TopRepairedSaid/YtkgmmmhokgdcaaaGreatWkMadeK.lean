/- The reference's Made: a plan that integers determine. -/
import Derived.Test.YtkgmmmhokgdcaaaGreatPa23
import Derived.Test.YtkgmmmhokgdcaaaGreatWkPickK
set_option linter.all false
namespace Go.AM.YtkgmmmhokgdcaaaGreat.Pl
open Go.Proofs
set_option maxRecDepth 100000
set_option maxHeartbeats 8000000
abbrev StT:=Int × Int × (Int × Int) × Int × Int
abbrev WiT:=Int × Int × Int
abbrev Six:=Int × Int × Int × Int × Int × Int
def six (x:List Six) (i:Nat):Six:=getI x tSix.dflt i
def mA (x:List Six):Int:=if 0 < (x.length:Int) then pickF (six x 0).2.2.2.2.1 5 else 2
def stMn (y:Six):Int:=1+pickF y.1 20
def stMx (y:Six):Int:=stMn y+pickF (y.1.tdiv 20) 12
theorem getI_append_lt {α:Type} {xs ys:List α} {d:α} {j:Nat} (h:j < xs.length):getI (xs++ys) d j=getI xs d j:=by
  simp [getI,List.getD,List.getElem?_append_left h]
theorem getI_append_eq {α:Type} {xs:List α} {y d:α}:getI (xs++[y]) d xs.length=y:=by
  simp [getI,List.getD]
end Go.AM.YtkgmmmhokgdcaaaGreat.Pl
