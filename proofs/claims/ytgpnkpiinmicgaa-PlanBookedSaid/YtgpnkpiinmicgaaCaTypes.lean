/- The types that the code uses. -/
import Derived.Test.YtgpnkpiinmicgaaAmLaw
import Derived.Test.YtgpnkpiinmicgaaChecked
import Derived.KernelRfl
set_option linter.all false
namespace Go.AM.Ytgpnkpiinmicgaa
open Go.Proofs

def ttL : List (Nat × TI) := [
  (4, ⟨1, false, .bool false, .bool, some .bool⟩),
  (54, ⟨1, false, .nilsl, (.slice (.pair (.int .i64) (.pair (.int .i64) (.pair (.int .i64) (.int .i64)))) 4 32 [.int .i64 0, .int .i64 0, .int .i64 0, .int .i64 0]), none⟩),
  (30, ⟨1, false, .nilsl, (.slice (.int .i64) 1 8 [.int .i64 0]), none⟩),
  (59, ⟨1, false, .nilptr, .ptr, none⟩),
  (37, ⟨1, false, .int .i64 0, (.int .i64), some (.int .i64)⟩),
  (62, ⟨4, true, .agg [.int .i64 0, .int .i64 0, .int .i64 0, .int .i64 0], (.struct [(0, 1), (1, 1), (2, 1), (3, 1)]), some (.pair (.int .i64) (.pair (.int .i64) (.pair (.int .i64) (.int .i64))))⟩),
  (58, ⟨3, true, .agg [.int .i64 0, .int .i64 0, .int .i64 0], (.arr 3 1 false), none⟩),
  (81, ⟨60, true, .agg [.nilsl, .nilsl, .nilsl, .nilsl, .nilsl, .nilsl, .nilsl, .nilsl, .nilsl, .nilsl, .nilsl, .nilsl, .nilsl, .nilsl, .nilsl, .nilsl, .nilsl, .nilsl, .nilsl, .nilsl, .nilsl, .nilsl, .nilsl, .nilsl, .nilsl, .nilsl, .nilsl, .nilsl, .nilsl, .nilsl, .nilsl, .nilsl, .nilsl, .nilsl, .nilsl, .nilsl, .nilsl, .nilsl, .nilsl, .nilsl, .nilsl, .nilsl, .nilsl, .nilsl, .nilsl, .nilsl, .nilsl, .nilsl, .nilsl, .nilsl, .nilsl, .nilsl, .nilsl, .nilsl, .nilsl, .nilsl, .nilsl, .nilsl, .nilsl, .nilsl], (.arr 60 1 false), none⟩),
  (83, ⟨60, true, .agg [.nilsl, .nilsl, .nilsl, .nilsl, .nilsl, .nilsl, .nilsl, .nilsl, .nilsl, .nilsl, .nilsl, .nilsl, .nilsl, .nilsl, .nilsl, .nilsl, .nilsl, .nilsl, .nilsl, .nilsl, .nilsl, .nilsl, .nilsl, .nilsl, .nilsl, .nilsl, .nilsl, .nilsl, .nilsl, .nilsl, .nilsl, .nilsl, .nilsl, .nilsl, .nilsl, .nilsl, .nilsl, .nilsl, .nilsl, .nilsl, .nilsl, .nilsl, .nilsl, .nilsl, .nilsl, .nilsl, .nilsl, .nilsl, .nilsl, .nilsl, .nilsl, .nilsl, .nilsl, .nilsl, .nilsl, .nilsl, .nilsl, .nilsl, .nilsl, .nilsl], (.struct [(0, 60)]), none⟩),
  (95, ⟨2, true, .agg [.int .i64 0, .int .i64 0], (.struct [(0, 1), (1, 1)]), some (.pair (.int .i64) (.int .i64))⟩),
  (103, ⟨1, false, .int .u64 0, (.int .u64), some (.int .u64)⟩),
  (22, ⟨1, false, .nilsl, (.slice (.pair (.int .i64) (.pair (.int .i64) (.pair (.int .i64) (.pair (.int .i64) (.pair (.int .i64) (.int .i64)))))) 6 48 [.int .i64 0, .int .i64 0, .int .i64 0, .int .i64 0, .int .i64 0, .int .i64 0]), none⟩),
  (23, ⟨1, false, .nilsl, (.slice (.pair (.int .i64) (.int .i64)) 2 16 [.int .i64 0, .int .i64 0]), none⟩),
  (25, ⟨1, false, .nilsl, (.slice (.pair (.int .i64) (.pair (.int .i64) (.pair (.pair (.int .i64) (.int .i64)) (.pair (.int .i64) (.int .i64))))) 6 48 [.int .i64 0, .int .i64 0, .int .i64 0, .int .i64 0, .int .i64 0, .int .i64 0]), none⟩),
  (26, ⟨1, false, .nilsl, (.slice (.pair (.int .i64) (.pair (.int .i64) (.int .i64))) 3 24 [.int .i64 0, .int .i64 0, .int .i64 0]), none⟩),
  (28, ⟨5, true, .agg [.int .i64 0, .int .i64 0, .int .i64 0, .nilsl, .nilsl], (.struct [(0, 1), (1, 1), (2, 1), (3, 1), (4, 1)]), none⟩),
  (32, ⟨5, true, .agg [.nilsl, .nilsl, .int .i64 0, .int .i64 0, .int .i64 0], (.struct [(0, 1), (1, 1), (2, 1), (3, 1), (4, 1)]), none⟩),
  (34, ⟨1, false, .nilsl, (.slice (.pair (.int .i64) (.pair (.int .i64) (.pair (.int .i64) (.int .i64)))) 4 32 [.int .i64 0, .int .i64 0, .int .i64 0, .int .i64 0]), none⟩),
  (36, ⟨2, true, .agg [.int .i64 0, .int .i64 0], (.struct [(0, 1), (1, 1)]), some (.pair (.int .i64) (.int .i64))⟩),
  (41, ⟨4, true, .agg [.int .i64 0, .int .i64 0, .int .i64 0, .int .i64 0], (.struct [(0, 1), (1, 1), (2, 1), (3, 1)]), some (.pair (.int .i64) (.pair (.int .i64) (.pair (.int .i64) (.int .i64))))⟩),
  (43, ⟨2, true, .agg [.int .i64 0, .int .i64 0], (.struct [(0, 1), (1, 1)]), some (.pair (.int .i64) (.int .i64))⟩),
  (45, ⟨6, true, .agg [.int .i64 0, .int .i64 0, .int .i64 0, .int .i64 0, .int .i64 0, .int .i64 0], (.struct [(0, 1), (1, 1), (2, 2), (4, 2)]), some (.pair (.int .i64) (.pair (.int .i64) (.pair (.pair (.int .i64) (.int .i64)) (.pair (.int .i64) (.int .i64)))))⟩),
  (47, ⟨3, true, .agg [.int .i64 0, .int .i64 0, .int .i64 0], (.struct [(0, 1), (1, 1), (2, 1)]), some (.pair (.int .i64) (.pair (.int .i64) (.int .i64)))⟩),
  (70, ⟨6, true, .agg [.int .i64 0, .int .i64 0, .int .i64 0, .int .i64 0, .int .i64 0, .int .i64 0], (.arr 6 1 false), none⟩),
  (71, ⟨2, true, .agg [.int .i64 0, .int .i64 0], (.arr 2 1 false), none⟩),
  (76, ⟨2, true, .agg [.int .i64 0, .int .i64 0], (.struct [(0, 1), (1, 1)]), some (.pair (.int .i64) (.int .i64))⟩),
  (78, ⟨4, true, .agg [.int .i64 0, .int .i64 0, .int .i64 0, .int .i64 0], (.arr 2 2 true), none⟩),
  (88, ⟨1, false, .nilfn, .fn, none⟩),
  (3, ⟨1, false, .int .i64 0, (.int .i64), some (.int .i64)⟩)]

/-- Sums wrap; sums stay within 64 bits. -/
def tt : TT := (ttL, false, [])
def ts : TT := (ttL, true, [])

theorem ttLOk : ttAll Try.prog ttL := ⟨
  by kernel_rfl,
  by kernel_rfl,
  by kernel_rfl,
  by kernel_rfl,
  by kernel_rfl,
  by kernel_rfl,
  by kernel_rfl,
  by kernel_rfl,
  by kernel_rfl,
  by kernel_rfl,
  by kernel_rfl,
  by kernel_rfl,
  by kernel_rfl,
  by kernel_rfl,
  by kernel_rfl,
  by kernel_rfl,
  by kernel_rfl,
  by kernel_rfl,
  by kernel_rfl,
  by kernel_rfl,
  by kernel_rfl,
  by kernel_rfl,
  by kernel_rfl,
  by kernel_rfl,
  by kernel_rfl,
  by kernel_rfl,
  by kernel_rfl,
  by kernel_rfl,
  by kernel_rfl,
  trivial⟩
theorem ttOk : TTok Try.prog tt := TTok.of_all ttLOk
theorem tsOk : TTok Try.prog ts := TTok.of_all ttLOk
theorem mixed : Try.prog.follows .mixedOrders = true := by kernel_rfl
end Go.AM.Ytgpnkpiinmicgaa
