/- What Made returns is a valid plan. -/
import Derived.Test.YtkgmmmhokgdcaaaGreatWkMadeK
set_option linter.all false
namespace Go.AM.YtkgmmmhokgdcaaaGreat.Pl
open Go.Proofs
end Go.AM.YtkgmmmhokgdcaaaGreat.Pl
