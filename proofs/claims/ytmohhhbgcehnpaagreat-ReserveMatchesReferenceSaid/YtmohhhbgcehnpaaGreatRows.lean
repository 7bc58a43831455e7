/-
  No cell of these rows narrows 'for every input' (looked for: loops, veiled, ifaces, maps, wideKeys, modest, calm, conditions, laid).
  DERIVED. THE GIVEN ROWS OF THIS SEAT. 2 by the template 'for every input the law returns true; each argument reads behind the call as it read before'; 0 by the template 'total and deterministic' (their statements: YtmohhhbgcehnpaaGreatTotals.lean).
  GIVEN WITH THE SEED: the statements are not yours to turn. If you find one false, say at which input.
  Laid BY PROGRAM, IN A SANDBOX (cutbox-rows.mjs): the forced cells as the released guide's own fill.sh prints them over the translation a1034d514f001b8a… (all of the seat's roots in one cut). By AI agents, Wed Nov 11 2026. No macro, syntax, notation, axiom, sorry.
-/
import Derived.Test.YtmohhhbgcehnpaaGreatChecked
import GoSem.Claim
import GoSem.ClaimJoined
import GoSem.ClaimMapViews
import Derived.JoinedTies
import Derived.KernelRfl
namespace Go.Proofs.YtmohhhbgcehnpaaGreat
/- THE CELL 'sum', in the pinned program and in every row, IS THE sha256 OF THE DUMP (.gsa) THAT YtmohhhbgcehnpaaGreatProg.lean LOADS. Nothing in Lean hashes anything: it is a label: what it is worth is what the hold of that sum in a sandbox is worth. -/
noncomputable def Tryz.pinned : Pinned := { name := "ytmohhhbgcehnpaagreat", sum := "a1034d514f001b8a0b075922653147e4789bccea5200b93018d7fd7f5ca5c3ef", checked := Tryz.checked }
namespace Rows
def none {H : Type} : Left H := { results := [], args := [] }

/-- 'cleanroomlaw10.ReserveMatchesReference': WHATEVER THE INPUT: true; the input reads as it did. -/
def reserveMatchesReferenceSpec : ChangeSpec := { name := "reserveMatchesReference", fn := fun _ => fun
  | [d1, d2, d3, d4, d5] => { results := [.lit (.bool true)], args := [d1, d2, d3, d4, d5] }
  | _ => none }
def reserveMatchesReferenceRow : OpenClaim := { program := "ytmohhhbgcehnpaagreat", sum := "a1034d514f001b8a0b075922653147e4789bccea5200b93018d7fd7f5ca5c3ef", func := "cleanroom/cleanroomlaw10.ReserveMatchesReference", spec := "reserveMatchesReference", inPlace := ["slices.overlaps[cleanroom/api.Booking]"], unfollowed := true, recurses := true, plainKeys := false, apart := false }
def ReserveMatchesReferenceSaid : Prop := reserveMatchesReferenceRow.holds Tryz.pinned (OpenSpec.ofChange reserveMatchesReferenceSpec)

/-- ITS FALSE NEIGHBOUR: 'it returns false'. Refute it at one input. -/
def reserveMatchesReferenceWrong : ChangeSpec := { name := "reserveMatchesReference", fn := fun _ => fun
  | [d1, d2, d3, d4, d5] => { results := [.lit (.bool false)], args := [d1, d2, d3, d4, d5] }
  | _ => none }
def ReserveMatchesReferenceWrongFalsely : Prop := reserveMatchesReferenceRow.holds Tryz.pinned (OpenSpec.ofChange reserveMatchesReferenceWrong)

/-- 'cleanroomlaw10.ReserveWindows': WHATEVER THE INPUT: true; the input reads as it did. -/
def reserveWindowsSpec : ChangeSpec := { name := "reserveWindows", fn := fun _ => fun
  | [d1, d2, d3, d4, d5] => { results := [.lit (.bool true)], args := [d1, d2, d3, d4, d5] }
  | _ => none }
def reserveWindowsRow : OpenClaim := { program := "ytmohhhbgcehnpaagreat", sum := "a1034d514f001b8a0b075922653147e4789bccea5200b93018d7fd7f5ca5c3ef", func := "cleanroom/cleanroomlaw10.ReserveWindows", spec := "reserveWindows", inPlace := ["slices.overlaps[cleanroom/api.Booking]"], unfollowed := true, recurses := true, plainKeys := false, apart := false }
def ReserveWindowsSaid : Prop := reserveWindowsRow.holds Tryz.pinned (OpenSpec.ofChange reserveWindowsSpec)

/-- ITS FALSE NEIGHBOUR: 'it returns false'. Refute it at one input. -/
def reserveWindowsWrong : ChangeSpec := { name := "reserveWindows", fn := fun _ => fun
  | [d1, d2, d3, d4, d5] => { results := [.lit (.bool false)], args := [d1, d2, d3, d4, d5] }
  | _ => none }
def ReserveWindowsWrongFalsely : Prop := reserveWindowsRow.holds Tryz.pinned (OpenSpec.ofChange reserveWindowsWrong)

/- THE SECOND FORM. 'bulk': how many values and letters a reading holds, each counted each time it is reached (what is shared counts as often as it is met; a slice's spare places count too). A statement '..UptoSaid' is the law's where the arguments, and the package variables that the reading takes, are together of bulk at most 1048576: NARROWER than '..Said'. Prove '..Said' where nothing that the law and all that it calls make is longer than what came in: it says more and counts as full. Else prove '..UptoSaid'. A law counts once. -/
mutual
def uptoBulk {H : Type} : DataW H → Nat
  | .lit (.string bytes) => bytes.length + 1
  | .lit _ => 1
  | .nil => 1
  | .ptr d => uptoBulk d + 1
  | .slice elems spare => uptoBulkAll elems + uptoBulkAll spare + 1
  | .agg parts => uptoBulkAll parts + 1
  | .iface _ d => uptoBulk d + 1
  | .map entries => uptoBulkEntries entries + 1
  | .held _ => 1
def uptoBulkAll {H : Type} : List (DataW H) → Nat
  | [] => 0
  | d :: r => uptoBulk d + uptoBulkAll r
def uptoBulkEntries {H : Type} : List (Lit × DataW H) → Nat
  | [] => 0
  | x :: r => uptoBulkEntry x + uptoBulkEntries r
def uptoBulkEntry {H : Type} : Lit × DataW H → Nat
  | (.string bytes, d) => bytes.length + uptoBulk d + 1
  | (_, d) => uptoBulk d + 1
 end
def uptoSmall : (H : Type) → List (DataW H) → Bool := fun _ ds => decide (uptoBulkAll ds ≤ 1048576)
def OpenSpec.upto (s : _root_.Go.ChangeSpec) : _root_.Go.OpenSpec := { _root_.Go.OpenSpec.ofChange s with cond := some uptoSmall }

/-- 'cleanroomlaw10.ReserveMatchesReference', WHERE WHAT IT READS IS OF BULK AT MOST 1048576: true; the input reads as it did. -/
def reserveMatchesReferenceUptoRow : OpenClaim := { program := "ytmohhhbgcehnpaagreat", sum := "a1034d514f001b8a0b075922653147e4789bccea5200b93018d7fd7f5ca5c3ef", func := "cleanroom/cleanroomlaw10.ReserveMatchesReference", spec := "reserveMatchesReference", inPlace := ["slices.overlaps[cleanroom/api.Booking]"], unfollowed := true, recurses := true, plainKeys := false, apart := false, narrowed := true }
def ReserveMatchesReferenceUptoSaid : Prop := reserveMatchesReferenceUptoRow.holds Tryz.pinned (OpenSpec.upto reserveMatchesReferenceSpec)

/-- 'cleanroomlaw10.ReserveWindows', WHERE WHAT IT READS IS OF BULK AT MOST 1048576: true; the input reads as it did. -/
def reserveWindowsUptoRow : OpenClaim := { program := "ytmohhhbgcehnpaagreat", sum := "a1034d514f001b8a0b075922653147e4789bccea5200b93018d7fd7f5ca5c3ef", func := "cleanroom/cleanroomlaw10.ReserveWindows", spec := "reserveWindows", inPlace := ["slices.overlaps[cleanroom/api.Booking]"], unfollowed := true, recurses := true, plainKeys := false, apart := false, narrowed := true }
def ReserveWindowsUptoSaid : Prop := reserveWindowsUptoRow.holds Tryz.pinned (OpenSpec.upto reserveWindowsSpec)

end Rows
end Go.Proofs.YtmohhhbgcehnpaaGreat
