/-
  No cell of these rows narrows 'for every input' (looked for: loops, veiled, ifaces, maps, wideKeys, modest, calm, conditions, laid).
  DERIVED. THE GIVEN ROWS OF THIS SEAT. 4 by the template 'for every input the law returns true; each argument reads behind the call as it read before'; 0 by the template 'total and deterministic' (their statements: YtmjeocinfoeeeaaTotals.lean).
  GIVEN WITH THE SEED: the statements are not yours to turn. If you find one false, say at which input.
  Laid BY PROGRAM, IN A SANDBOX (cutbox-rows.mjs): the forced cells as the released guide's own fill.sh prints them over the translation 96278e7a16063741… (all of the seat's roots in one cut). By AI agents, Wed Nov 11 2026. No macro, syntax, notation, axiom, sorry.
-/
import Derived.Test.YtmjeocinfoeeeaaChecked
import GoSem.Claim
import GoSem.ClaimJoined
import GoSem.ClaimMapViews
import Derived.JoinedTies
import Derived.KernelRfl
namespace Go.Proofs.Ytmjeocinfoeeeaa
/- THE CELL 'sum', in the pinned program and in every row, IS THE sha256 OF THE DUMP (.gsa) THAT YtmjeocinfoeeeaaProg.lean LOADS. Nothing in Lean hashes anything: it is a label: what it is worth is what the hold of that sum in a sandbox is worth. -/
noncomputable def Try.pinned : Pinned := { name := "ytmjeocinfoeeeaa", sum := "96278e7a160637410e0d3e47b3253d6ec4ce94ceced555fd99c8848dc7a7b7bd", checked := Try.checked }
namespace Rows
def none {H : Type} : Left H := { results := [], args := [] }

/-- 'cleanroomlaw10.ReserveSafe': WHATEVER THE INPUT: true; the input reads as it did. -/
def reserveSafeSpec : ChangeSpec := { name := "reserveSafe", fn := fun _ => fun
  | [d1, d2, d3, d4, d5] => { results := [.lit (.bool true)], args := [d1, d2, d3, d4, d5] }
  | _ => none }
def reserveSafeRow : OpenClaim := { program := "ytmjeocinfoeeeaa", sum := "96278e7a160637410e0d3e47b3253d6ec4ce94ceced555fd99c8848dc7a7b7bd", func := "cleanroom/cleanroomlaw10.ReserveSafe", spec := "reserveSafe", inPlace := ["slices.overlaps[cleanroom/api.Booking]"], unfollowed := true, recurses := true, apart := false }
def ReserveSafeSaid : Prop := reserveSafeRow.holds Try.pinned (OpenSpec.ofChange reserveSafeSpec)

/-- ITS FALSE NEIGHBOUR: 'it returns false'. Refute it at one input. -/
def reserveSafeWrong : ChangeSpec := { name := "reserveSafe", fn := fun _ => fun
  | [d1, d2, d3, d4, d5] => { results := [.lit (.bool false)], args := [d1, d2, d3, d4, d5] }
  | _ => none }
def ReserveSafeWrongFalsely : Prop := reserveSafeRow.holds Try.pinned (OpenSpec.ofChange reserveSafeWrong)

/-- 'cleanroomlaw10.ReserveShifted': WHATEVER THE INPUT: true; the input reads as it did. -/
def reserveShiftedSpec : ChangeSpec := { name := "reserveShifted", fn := fun _ => fun
  | [d1, d2, d3, d4, d5] => { results := [.lit (.bool true)], args := [d1, d2, d3, d4, d5] }
  | _ => none }
def reserveShiftedRow : OpenClaim := { program := "ytmjeocinfoeeeaa", sum := "96278e7a160637410e0d3e47b3253d6ec4ce94ceced555fd99c8848dc7a7b7bd", func := "cleanroom/cleanroomlaw10.ReserveShifted", spec := "reserveShifted", inPlace := ["slices.overlaps[cleanroom/api.Booking]"], unfollowed := true, recurses := true, apart := false }
def ReserveShiftedSaid : Prop := reserveShiftedRow.holds Try.pinned (OpenSpec.ofChange reserveShiftedSpec)

/-- ITS FALSE NEIGHBOUR: 'it returns false'. Refute it at one input. -/
def reserveShiftedWrong : ChangeSpec := { name := "reserveShifted", fn := fun _ => fun
  | [d1, d2, d3, d4, d5] => { results := [.lit (.bool false)], args := [d1, d2, d3, d4, d5] }
  | _ => none }
def ReserveShiftedWrongFalsely : Prop := reserveShiftedRow.holds Try.pinned (OpenSpec.ofChange reserveShiftedWrong)

/-- 'cleanroomlaw10.ReserveBooked': WHATEVER THE INPUT: true; the input reads as it did. -/
def reserveBookedSpec : ChangeSpec := { name := "reserveBooked", fn := fun _ => fun
  | [d1, d2, d3, d4, d5] => { results := [.lit (.bool true)], args := [d1, d2, d3, d4, d5] }
  | _ => none }
def reserveBookedRow : OpenClaim := { program := "ytmjeocinfoeeeaa", sum := "96278e7a160637410e0d3e47b3253d6ec4ce94ceced555fd99c8848dc7a7b7bd", func := "cleanroom/cleanroomlaw10.ReserveBooked", spec := "reserveBooked", inPlace := ["slices.overlaps[cleanroom/api.Booking]"], unfollowed := true, recurses := true, apart := false }
def ReserveBookedSaid : Prop := reserveBookedRow.holds Try.pinned (OpenSpec.ofChange reserveBookedSpec)

/-- ITS FALSE NEIGHBOUR: 'it returns false'. Refute it at one input. -/
def reserveBookedWrong : ChangeSpec := { name := "reserveBooked", fn := fun _ => fun
  | [d1, d2, d3, d4, d5] => { results := [.lit (.bool false)], args := [d1, d2, d3, d4, d5] }
  | _ => none }
def ReserveBookedWrongFalsely : Prop := reserveBookedRow.holds Try.pinned (OpenSpec.ofChange reserveBookedWrong)

/-- 'cleanroomlaw10.ReserveRepaired': WHATEVER THE INPUT: true; the input reads as it did. -/
def reserveRepairedSpec : ChangeSpec := { name := "reserveRepaired", fn := fun _ => fun
  | [d1, d2, d3, d4, d5] => { results := [.lit (.bool true)], args := [d1, d2, d3, d4, d5] }
  | _ => none }
def reserveRepairedRow : OpenClaim := { program := "ytmjeocinfoeeeaa", sum := "96278e7a160637410e0d3e47b3253d6ec4ce94ceced555fd99c8848dc7a7b7bd", func := "cleanroom/cleanroomlaw10.ReserveRepaired", spec := "reserveRepaired", inPlace := ["slices.overlaps[cleanroom/api.Booking]"], unfollowed := true, recurses := true, apart := false }
def ReserveRepairedSaid : Prop := reserveRepairedRow.holds Try.pinned (OpenSpec.ofChange reserveRepairedSpec)

/-- ITS FALSE NEIGHBOUR: 'it returns false'. Refute it at one input. -/
def reserveRepairedWrong : ChangeSpec := { name := "reserveRepaired", fn := fun _ => fun
  | [d1, d2, d3, d4, d5] => { results := [.lit (.bool false)], args := [d1, d2, d3, d4, d5] }
  | _ => none }
def ReserveRepairedWrongFalsely : Prop := reserveRepairedRow.holds Try.pinned (OpenSpec.ofChange reserveRepairedWrong)

/- THE SECOND FORM. 'bulk': how many values and letters a reading holds, each counted each time it is reached (what is shared counts as often as it is met; a slice's spare places count too). A statement '..UptoSaid' is the law's where the arguments, and the package variables that the reading takes, are together of bulk at most 1048576: NARROWER than '..Said'. Prove '..Said' where nothing that the law and all that it calls make is longer than what came in: it says more and counts as full. Else prove '..UptoSaid'. A law counts once. -/
mutual
def uptoBulk {H : Type} : DataW H → Nat
  | .lit (.string bytes) => bytes.length + 1
  | .lit _ => 1
  | .nil => 1
  | .ptr d => uptoBulk d + 1
  | .slice elems spare => uptoBulkAll elems + uptoBulkAll spare + 1
  | .agg parts => uptoBulkAll parts + 1
  | .iface _ d => uptoBulk d + 1
  | .map entries => uptoBulkEntries entries + 1
  | .held _ => 1
def uptoBulkAll {H : Type} : List (DataW H) → Nat
  | [] => 0
  | d :: r => uptoBulk d + uptoBulkAll r
def uptoBulkEntries {H : Type} : List (Lit × DataW H) → Nat
  | [] => 0
  | x :: r => uptoBulkEntry x + uptoBulkEntries r
def uptoBulkEntry {H : Type} : Lit × DataW H → Nat
  | (.string bytes, d) => bytes.length + uptoBulk d + 1
  | (_, d) => uptoBulk d + 1
 end
def uptoSmall : (H : Type) → List (DataW H) → Bool := fun _ ds => decide (uptoBulkAll ds ≤ 1048576)
def OpenSpec.upto (s : _root_.Go.ChangeSpec) : _root_.Go.OpenSpec := { _root_.Go.OpenSpec.ofChange s with cond := some uptoSmall }

/-- 'cleanroomlaw10.ReserveSafe', WHERE WHAT IT READS IS OF BULK AT MOST 1048576: true; the input reads as it did. -/
def reserveSafeUptoRow : OpenClaim := { program := "ytmjeocinfoeeeaa", sum := "96278e7a160637410e0d3e47b3253d6ec4ce94ceced555fd99c8848dc7a7b7bd", func := "cleanroom/cleanroomlaw10.ReserveSafe", spec := "reserveSafe", inPlace := ["slices.overlaps[cleanroom/api.Booking]"], unfollowed := true, recurses := true, apart := false, narrowed := true }
def ReserveSafeUptoSaid : Prop := reserveSafeUptoRow.holds Try.pinned (OpenSpec.upto reserveSafeSpec)

/-- 'cleanroomlaw10.ReserveShifted', WHERE WHAT IT READS IS OF BULK AT MOST 1048576: true; the input reads as it did. -/
def reserveShiftedUptoRow : OpenClaim := { program := "ytmjeocinfoeeeaa", sum := "96278e7a160637410e0d3e47b3253d6ec4ce94ceced555fd99c8848dc7a7b7bd", func := "cleanroom/cleanroomlaw10.ReserveShifted", spec := "reserveShifted", inPlace := ["slices.overlaps[cleanroom/api.Booking]"], unfollowed := true, recurses := true, apart := false, narrowed := true }
def ReserveShiftedUptoSaid : Prop := reserveShiftedUptoRow.holds Try.pinned (OpenSpec.upto reserveShiftedSpec)

/-- 'cleanroomlaw10.ReserveBooked', WHERE WHAT IT READS IS OF BULK AT MOST 1048576: true; the input reads as it did. -/
def reserveBookedUptoRow : OpenClaim := { program := "ytmjeocinfoeeeaa", sum := "96278e7a160637410e0d3e47b3253d6ec4ce94ceced555fd99c8848dc7a7b7bd", func := "cleanroom/cleanroomlaw10.ReserveBooked", spec := "reserveBooked", inPlace := ["slices.overlaps[cleanroom/api.Booking]"], unfollowed := true, recurses := true, apart := false, narrowed := true }
def ReserveBookedUptoSaid : Prop := reserveBookedUptoRow.holds Try.pinned (OpenSpec.upto reserveBookedSpec)

/-- 'cleanroomlaw10.ReserveRepaired', WHERE WHAT IT READS IS OF BULK AT MOST 1048576: true; the input reads as it did. -/
def reserveRepairedUptoRow : OpenClaim := { program := "ytmjeocinfoeeeaa", sum := "96278e7a160637410e0d3e47b3253d6ec4ce94ceced555fd99c8848dc7a7b7bd", func := "cleanroom/cleanroomlaw10.ReserveRepaired", spec := "reserveRepaired", inPlace := ["slices.overlaps[cleanroom/api.Booking]"], unfollowed := true, recurses := true, apart := false, narrowed := true }
def ReserveRepairedUptoSaid : Prop := reserveRepairedUptoRow.holds Try.pinned (OpenSpec.upto reserveRepairedSpec)

end Rows
end Go.Proofs.Ytmjeocinfoeeeaa
