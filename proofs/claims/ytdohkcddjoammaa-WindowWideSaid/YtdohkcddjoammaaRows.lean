/-
  No cell of these rows narrows 'for every input' (looked for: loops, veiled, ifaces, maps, wideKeys, modest, calm, conditions, laid).
  DERIVED. THE GIVEN ROWS OF THIS SEAT. 6 by the template 'for every input the law returns true; each argument reads behind the call as it read before'; 0 by the template 'total and deterministic' (their statements: YtdohkcddjoammaaTotals.lean).
  GIVEN WITH THE SEED: the statements are not yours to turn. If you find one false, say at which input.
  Laid BY PROGRAM, IN A SANDBOX (cutbox-rows.mjs): the forced cells as the released guide's own fill.sh prints them over the translation 990cb2aa30f4a5ee… (all of the seat's roots in one cut). By AI agents, Wed Nov 11 2026. No macro, syntax, notation, axiom, sorry.
-/
import Derived.Test.YtdohkcddjoammaaChecked
import GoSem.Claim
import GoSem.ClaimJoined
import GoSem.ClaimMapViews
import Derived.JoinedTies
import Derived.KernelRfl
namespace Go.Proofs.Ytdohkcddjoammaa
/- THE CELL 'sum', in the pinned program and in every row, IS THE sha256 OF THE DUMP (.gsa) THAT YtdohkcddjoammaaProg.lean LOADS. Nothing in Lean hashes anything: it is a label: what it is worth is what the hold of that sum in a sandbox is worth. -/
noncomputable def Try.pinned : Pinned := { name := "ytdohkcddjoammaa", sum := "990cb2aa30f4a5eed3018da8613dd28c8f108de4229fbea615a066f26b7ab3b7", checked := Try.checked }
namespace Rows
def none {H : Type} : Left H := { results := [], args := [] }

/-- 'cleanroomlaw06.WindowShift': WHATEVER THE INPUT: true; the input reads as it did. -/
def windowShiftSpec : ChangeSpec := { name := "windowShift", fn := fun _ => fun
  | [d1, d2] => { results := [.lit (.bool true)], args := [d1, d2] }
  | _ => none }
def windowShiftRow : OpenClaim := { program := "ytdohkcddjoammaa", sum := "990cb2aa30f4a5eed3018da8613dd28c8f108de4229fbea615a066f26b7ab3b7", func := "cleanroom/cleanroomlaw06.WindowShift", spec := "windowShift", unfollowed := true, recurses := true, plainKeys := false, apart := false }
def WindowShiftSaid : Prop := windowShiftRow.holds Try.pinned (OpenSpec.ofChange windowShiftSpec)

/-- ITS FALSE NEIGHBOUR: 'it returns false'. Refute it at one input. -/
def windowShiftWrong : ChangeSpec := { name := "windowShift", fn := fun _ => fun
  | [d1, d2] => { results := [.lit (.bool false)], args := [d1, d2] }
  | _ => none }
def WindowShiftWrongFalsely : Prop := windowShiftRow.holds Try.pinned (OpenSpec.ofChange windowShiftWrong)

/-- 'cleanroomlaw06.WindowDeadline': WHATEVER THE INPUT: true; the input reads as it did. -/
def windowDeadlineSpec : ChangeSpec := { name := "windowDeadline", fn := fun _ => fun
  | [d1, d2, d3] => { results := [.lit (.bool true)], args := [d1, d2, d3] }
  | _ => none }
def windowDeadlineRow : OpenClaim := { program := "ytdohkcddjoammaa", sum := "990cb2aa30f4a5eed3018da8613dd28c8f108de4229fbea615a066f26b7ab3b7", func := "cleanroom/cleanroomlaw06.WindowDeadline", spec := "windowDeadline", unfollowed := true, recurses := true, plainKeys := false, apart := false }
def WindowDeadlineSaid : Prop := windowDeadlineRow.holds Try.pinned (OpenSpec.ofChange windowDeadlineSpec)

/-- ITS FALSE NEIGHBOUR: 'it returns false'. Refute it at one input. -/
def windowDeadlineWrong : ChangeSpec := { name := "windowDeadline", fn := fun _ => fun
  | [d1, d2, d3] => { results := [.lit (.bool false)], args := [d1, d2, d3] }
  | _ => none }
def WindowDeadlineWrongFalsely : Prop := windowDeadlineRow.holds Try.pinned (OpenSpec.ofChange windowDeadlineWrong)

/-- 'cleanroomlaw06.WindowSegments': WHATEVER THE INPUT: true; the input reads as it did. -/
def windowSegmentsSpec : ChangeSpec := { name := "windowSegments", fn := fun _ => fun
  | [d] => { results := [.lit (.bool true)], args := [d] }
  | _ => none }
def windowSegmentsRow : OpenClaim := { program := "ytdohkcddjoammaa", sum := "990cb2aa30f4a5eed3018da8613dd28c8f108de4229fbea615a066f26b7ab3b7", func := "cleanroom/cleanroomlaw06.WindowSegments", spec := "windowSegments", unfollowed := true, recurses := true, plainKeys := false, apart := false }
def WindowSegmentsSaid : Prop := windowSegmentsRow.holds Try.pinned (OpenSpec.ofChange windowSegmentsSpec)

/-- ITS FALSE NEIGHBOUR: 'it returns false'. Refute it at one input. -/
def windowSegmentsWrong : ChangeSpec := { name := "windowSegments", fn := fun _ => fun
  | [d] => { results := [.lit (.bool false)], args := [d] }
  | _ => none }
def WindowSegmentsWrongFalsely : Prop := windowSegmentsRow.holds Try.pinned (OpenSpec.ofChange windowSegmentsWrong)

/-- 'cleanroomlaw06.WindowRequests': WHATEVER THE INPUT: true; the input reads as it did. -/
def windowRequestsSpec : ChangeSpec := { name := "windowRequests", fn := fun _ => fun
  | [d] => { results := [.lit (.bool true)], args := [d] }
  | _ => none }
def windowRequestsRow : OpenClaim := { program := "ytdohkcddjoammaa", sum := "990cb2aa30f4a5eed3018da8613dd28c8f108de4229fbea615a066f26b7ab3b7", func := "cleanroom/cleanroomlaw06.WindowRequests", spec := "windowRequests", unfollowed := true, recurses := true, plainKeys := false, apart := false }
def WindowRequestsSaid : Prop := windowRequestsRow.holds Try.pinned (OpenSpec.ofChange windowRequestsSpec)

/-- ITS FALSE NEIGHBOUR: 'it returns false'. Refute it at one input. -/
def windowRequestsWrong : ChangeSpec := { name := "windowRequests", fn := fun _ => fun
  | [d] => { results := [.lit (.bool false)], args := [d] }
  | _ => none }
def WindowRequestsWrongFalsely : Prop := windowRequestsRow.holds Try.pinned (OpenSpec.ofChange windowRequestsWrong)

/-- 'cleanroomlaw06.WindowShort': WHATEVER THE INPUT: true; the input reads as it did. -/
def windowShortSpec : ChangeSpec := { name := "windowShort", fn := fun _ => fun
  | [d1, d2, d3] => { results := [.lit (.bool true)], args := [d1, d2, d3] }
  | _ => none }
def windowShortRow : OpenClaim := { program := "ytdohkcddjoammaa", sum := "990cb2aa30f4a5eed3018da8613dd28c8f108de4229fbea615a066f26b7ab3b7", func := "cleanroom/cleanroomlaw06.WindowShort", spec := "windowShort", unfollowed := true, recurses := true, plainKeys := false, apart := false }
def WindowShortSaid : Prop := windowShortRow.holds Try.pinned (OpenSpec.ofChange windowShortSpec)

/-- ITS FALSE NEIGHBOUR: 'it returns false'. Refute it at one input. -/
def windowShortWrong : ChangeSpec := { name := "windowShort", fn := fun _ => fun
  | [d1, d2, d3] => { results := [.lit (.bool false)], args := [d1, d2, d3] }
  | _ => none }
def WindowShortWrongFalsely : Prop := windowShortRow.holds Try.pinned (OpenSpec.ofChange windowShortWrong)

/-- 'cleanroomlaw06.WindowWide': WHATEVER THE INPUT: true; the input reads as it did. -/
def windowWideSpec : ChangeSpec := { name := "windowWide", fn := fun _ => fun
  | [d] => { results := [.lit (.bool true)], args := [d] }
  | _ => none }
def windowWideRow : OpenClaim := { program := "ytdohkcddjoammaa", sum := "990cb2aa30f4a5eed3018da8613dd28c8f108de4229fbea615a066f26b7ab3b7", func := "cleanroom/cleanroomlaw06.WindowWide", spec := "windowWide", unfollowed := true, recurses := true, plainKeys := false, apart := false }
def WindowWideSaid : Prop := windowWideRow.holds Try.pinned (OpenSpec.ofChange windowWideSpec)

/-- ITS FALSE NEIGHBOUR: 'it returns false'. Refute it at one input. -/
def windowWideWrong : ChangeSpec := { name := "windowWide", fn := fun _ => fun
  | [d] => { results := [.lit (.bool false)], args := [d] }
  | _ => none }
def WindowWideWrongFalsely : Prop := windowWideRow.holds Try.pinned (OpenSpec.ofChange windowWideWrong)

/- THE SECOND FORM. 'bulk': how many values and letters a reading holds, each counted each time it is reached (what is shared counts as often as it is met; a slice's spare places count too). A statement '..UptoSaid' is the law's where the arguments, and the package variables that the reading takes, are together of bulk at most 1048576: NARROWER than '..Said'. Prove '..Said' where nothing that the law and all that it calls make is longer than what came in: it says more and counts as full. Else prove '..UptoSaid'. A law counts once. -/
mutual
def uptoBulk {H : Type} : DataW H → Nat
  | .lit (.string bytes) => bytes.length + 1
  | .lit _ => 1
  | .nil => 1
  | .ptr d => uptoBulk d + 1
  | .slice elems spare => uptoBulkAll elems + uptoBulkAll spare + 1
  | .agg parts => uptoBulkAll parts + 1
  | .iface _ d => uptoBulk d + 1
  | .map entries => uptoBulkEntries entries + 1
  | .held _ => 1
def uptoBulkAll {H : Type} : List (DataW H) → Nat
  | [] => 0
  | d :: r => uptoBulk d + uptoBulkAll r
def uptoBulkEntries {H : Type} : List (Lit × DataW H) → Nat
  | [] => 0
  | x :: r => uptoBulkEntry x + uptoBulkEntries r
def uptoBulkEntry {H : Type} : Lit × DataW H → Nat
  | (.string bytes, d) => bytes.length + uptoBulk d + 1
  | (_, d) => uptoBulk d + 1
 end
def uptoSmall : (H : Type) → List (DataW H) → Bool := fun _ ds => decide (uptoBulkAll ds ≤ 1048576)
def OpenSpec.upto (s : _root_.Go.ChangeSpec) : _root_.Go.OpenSpec := { _root_.Go.OpenSpec.ofChange s with cond := some uptoSmall }

/-- 'cleanroomlaw06.WindowShift', WHERE WHAT IT READS IS OF BULK AT MOST 1048576: true; the input reads as it did. -/
def windowShiftUptoRow : OpenClaim := { program := "ytdohkcddjoammaa", sum := "990cb2aa30f4a5eed3018da8613dd28c8f108de4229fbea615a066f26b7ab3b7", func := "cleanroom/cleanroomlaw06.WindowShift", spec := "windowShift", unfollowed := true, recurses := true, plainKeys := false, apart := false, narrowed := true }
def WindowShiftUptoSaid : Prop := windowShiftUptoRow.holds Try.pinned (OpenSpec.upto windowShiftSpec)

/-- 'cleanroomlaw06.WindowDeadline', WHERE WHAT IT READS IS OF BULK AT MOST 1048576: true; the input reads as it did. -/
def windowDeadlineUptoRow : OpenClaim := { program := "ytdohkcddjoammaa", sum := "990cb2aa30f4a5eed3018da8613dd28c8f108de4229fbea615a066f26b7ab3b7", func := "cleanroom/cleanroomlaw06.WindowDeadline", spec := "windowDeadline", unfollowed := true, recurses := true, plainKeys := false, apart := false, narrowed := true }
def WindowDeadlineUptoSaid : Prop := windowDeadlineUptoRow.holds Try.pinned (OpenSpec.upto windowDeadlineSpec)

/-- 'cleanroomlaw06.WindowSegments', WHERE WHAT IT READS IS OF BULK AT MOST 1048576: true; the input reads as it did. -/
def windowSegmentsUptoRow : OpenClaim := { program := "ytdohkcddjoammaa", sum := "990cb2aa30f4a5eed3018da8613dd28c8f108de4229fbea615a066f26b7ab3b7", func := "cleanroom/cleanroomlaw06.WindowSegments", spec := "windowSegments", unfollowed := true, recurses := true, plainKeys := false, apart := false, narrowed := true }
def WindowSegmentsUptoSaid : Prop := windowSegmentsUptoRow.holds Try.pinned (OpenSpec.upto windowSegmentsSpec)

/-- 'cleanroomlaw06.WindowRequests', WHERE WHAT IT READS IS OF BULK AT MOST 1048576: true; the input reads as it did. -/
def windowRequestsUptoRow : OpenClaim := { program := "ytdohkcddjoammaa", sum := "990cb2aa30f4a5eed3018da8613dd28c8f108de4229fbea615a066f26b7ab3b7", func := "cleanroom/cleanroomlaw06.WindowRequests", spec := "windowRequests", unfollowed := true, recurses := true, plainKeys := false, apart := false, narrowed := true }
def WindowRequestsUptoSaid : Prop := windowRequestsUptoRow.holds Try.pinned (OpenSpec.upto windowRequestsSpec)

/-- 'cleanroomlaw06.WindowShort', WHERE WHAT IT READS IS OF BULK AT MOST 1048576: true; the input reads as it did. -/
def windowShortUptoRow : OpenClaim := { program := "ytdohkcddjoammaa", sum := "990cb2aa30f4a5eed3018da8613dd28c8f108de4229fbea615a066f26b7ab3b7", func := "cleanroom/cleanroomlaw06.WindowShort", spec := "windowShort", unfollowed := true, recurses := true, plainKeys := false, apart := false, narrowed := true }
def WindowShortUptoSaid : Prop := windowShortUptoRow.holds Try.pinned (OpenSpec.upto windowShortSpec)

/-- 'cleanroomlaw06.WindowWide', WHERE WHAT IT READS IS OF BULK AT MOST 1048576: true; the input reads as it did. -/
def windowWideUptoRow : OpenClaim := { program := "ytdohkcddjoammaa", sum := "990cb2aa30f4a5eed3018da8613dd28c8f108de4229fbea615a066f26b7ab3b7", func := "cleanroom/cleanroomlaw06.WindowWide", spec := "windowWide", unfollowed := true, recurses := true, plainKeys := false, apart := false, narrowed := true }
def WindowWideUptoSaid : Prop := windowWideUptoRow.holds Try.pinned (OpenSpec.upto windowWideSpec)

end Rows
end Go.Proofs.Ytdohkcddjoammaa
