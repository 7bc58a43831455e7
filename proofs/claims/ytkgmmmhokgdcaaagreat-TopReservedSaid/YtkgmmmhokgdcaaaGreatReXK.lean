/- Chapter 10's scenarios. -/
import Derived.Test.YtkgmmmhokgdcaaaGreatPc28
import Derived.Test.YtkgmmmhokgdcaaaGreatReWK
set_option linter.all false
namespace Go.AM.YtkgmmmhokgdcaaaGreat.Re
open Go.Proofs
set_option maxRecDepth 100000
set_option maxHeartbeats 4000000
abbrev Int6:=Int × Int × Int × Int × Int × Int
def shr (x:Int) (i:Nat):Int:=x.fdiv (2 ^ (min ((i:Int)).toNat (IntKind.bits .i64)))
end Go.AM.YtkgmmmhokgdcaaaGreat.Re
