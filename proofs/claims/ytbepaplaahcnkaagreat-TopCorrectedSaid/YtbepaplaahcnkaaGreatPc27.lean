/- CaFirst. -/
import Derived.Test.YtbepaplaahcnkaaGreatPc26

section
set_option linter.all false
namespace Go.AM.YtbepaplaahcnkaaGreat
open Go.Proofs Go.RowKit
end Go.AM.YtbepaplaahcnkaaGreat
end
