/- The types that the code uses. -/
import Derived.Test.YtibjkdbmlmmcjaaAmLaw
import Derived.Test.YtibjkdbmlmmcjaaChecked
import Derived.KernelRfl
set_option linter.all false
namespace Go.AM.Ytibjkdbmlmmcjaa
open Go.Proofs

def ttL : List (Nat × TI) := [
  (4, ⟨1, false, .bool false, .bool, some .bool⟩),
  (22, ⟨1, false, .nilsl, (.slice (.pair (.int .i64) (.pair (.int .i64) (.pair (.int .i64) (.int .i64)))) 4 32 [.int .i64 0, .int .i64 0, .int .i64 0, .int .i64 0]), none⟩),
  (23, ⟨1, false, .nilsl, (.slice (.pair (.int .i64) (.pair (.int .i64) (.pair (.int .i64) (.int .i64)))) 4 32 [.int .i64 0, .int .i64 0, .int .i64 0, .int .i64 0]), none⟩),
  (24, ⟨1, false, .nilsl, (.slice (.int .i64) 1 8 [.int .i64 0]), none⟩),
  (25, ⟨1, false, .nilsl, (.slice (.pair (.int .i64) (.pair (.int .i64) (.int .i64))) 3 24 [.int .i64 0, .int .i64 0, .int .i64 0]), none⟩),
  (28, ⟨1, false, .nilptr, .ptr, none⟩),
  (30, ⟨1, false, .nilptr, .ptr, none⟩),
  (32, ⟨1, false, .int .i64 0, (.int .i64), some (.int .i64)⟩),
  (35, ⟨4, true, .agg [.int .i64 0, .int .i64 0, .int .i64 0, .int .i64 0], (.struct [(0, 1), (1, 1), (2, 1), (3, 1)]), some (.pair (.int .i64) (.pair (.int .i64) (.pair (.int .i64) (.int .i64))))⟩),
  (38, ⟨3, true, .agg [.int .i64 0, .int .i64 0, .int .i64 0], (.arr 3 1 false), none⟩),
  (46, ⟨1, true, .agg [.nilsl], (.struct [(0, 1)]), none⟩),
  (57, ⟨4, true, .agg [.int .i64 0, .int .i64 0, .int .i64 0, .int .i64 0], (.arr 4 1 false), none⟩),
  (58, ⟨60, true, .agg [.nilsl, .nilsl, .nilsl, .nilsl, .nilsl, .nilsl, .nilsl, .nilsl, .nilsl, .nilsl, .nilsl, .nilsl, .nilsl, .nilsl, .nilsl, .nilsl, .nilsl, .nilsl, .nilsl, .nilsl, .nilsl, .nilsl, .nilsl, .nilsl, .nilsl, .nilsl, .nilsl, .nilsl, .nilsl, .nilsl, .nilsl, .nilsl, .nilsl, .nilsl, .nilsl, .nilsl, .nilsl, .nilsl, .nilsl, .nilsl, .nilsl, .nilsl, .nilsl, .nilsl, .nilsl, .nilsl, .nilsl, .nilsl, .nilsl, .nilsl, .nilsl, .nilsl, .nilsl, .nilsl, .nilsl, .nilsl, .nilsl, .nilsl, .nilsl, .nilsl], (.arr 60 1 false), none⟩),
  (60, ⟨60, true, .agg [.nilsl, .nilsl, .nilsl, .nilsl, .nilsl, .nilsl, .nilsl, .nilsl, .nilsl, .nilsl, .nilsl, .nilsl, .nilsl, .nilsl, .nilsl, .nilsl, .nilsl, .nilsl, .nilsl, .nilsl, .nilsl, .nilsl, .nilsl, .nilsl, .nilsl, .nilsl, .nilsl, .nilsl, .nilsl, .nilsl, .nilsl, .nilsl, .nilsl, .nilsl, .nilsl, .nilsl, .nilsl, .nilsl, .nilsl, .nilsl, .nilsl, .nilsl, .nilsl, .nilsl, .nilsl, .nilsl, .nilsl, .nilsl, .nilsl, .nilsl, .nilsl, .nilsl, .nilsl, .nilsl, .nilsl, .nilsl, .nilsl, .nilsl, .nilsl, .nilsl], (.struct [(0, 60)]), none⟩),
  (69, ⟨2, true, .agg [.int .i64 0, .int .i64 0], (.struct [(0, 1), (1, 1)]), some (.pair (.int .i64) (.int .i64))⟩),
  (76, ⟨1, false, .int .u64 0, (.int .u64), some (.int .u64)⟩),
  (3, ⟨1, false, .int .i64 0, (.int .i64), some (.int .i64)⟩)]

/-- Sums wrap; sums stay within 64 bits. -/
def tt : TT := (ttL, false, [])
def ts : TT := (ttL, true, [])

theorem ttLOk : ttAll Try.prog ttL := ⟨
  by kernel_rfl,
  by kernel_rfl,
  by kernel_rfl,
  by kernel_rfl,
  by kernel_rfl,
  by kernel_rfl,
  by kernel_rfl,
  by kernel_rfl,
  by kernel_rfl,
  by kernel_rfl,
  by kernel_rfl,
  by kernel_rfl,
  by kernel_rfl,
  by kernel_rfl,
  by kernel_rfl,
  by kernel_rfl,
  by kernel_rfl,
  trivial⟩
theorem ttOk : TTok Try.prog tt := TTok.of_all ttLOk
theorem tsOk : TTok Try.prog ts := TTok.of_all ttLOk
theorem mixed : Try.prog.follows .mixedOrders = true := by kernel_rfl
end Go.AM.Ytibjkdbmlmmcjaa
