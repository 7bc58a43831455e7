/- CaG. -/
import Derived.Test.YtbepaplaahcnkaaGreatPc17
import Derived.RangeFuncBox
import Derived.RangeFuncLeaves
import Derived.RangeFuncRecord
import Derived.WalkKit
import Derived.OwnWalkIn
import Derived.TacticsInMore
import Derived.LoopNIn
import Derived.LoopIn

section
set_option linter.all false
namespace Go.AM.YtbepaplaahcnkaaGreat
open Go.Proofs Go.RowKit
structure Keep (Y:Nat→Prop) (W W':World):Prop where
 size:W.heap.size≤W'.heap.size
 same:∀ k,k < W.heap.size→¬ Y k→W'.heap[k]?=W.heap[k]?
end Go.AM.YtbepaplaahcnkaaGreat
end
