/- The types that the code uses. -/
import Derived.Test.YtkacoophnfljcaaAmLaw
import Derived.Test.YtkacoophnfljcaaChecked
import Derived.KernelRfl
set_option linter.all false
namespace Go.AM.Ytkacoophnfljcaa
open Go.Proofs

def ttL : List (Nat × TI) := [
  (4, ⟨1, false, .bool false, .bool, some .bool⟩),
  (24, ⟨1, false, .nilsl, (.slice (.pair (.int .i64) (.pair (.int .i64) (.pair (.int .i64) (.int .i64)))) 4 32 [.int .i64 0, .int .i64 0, .int .i64 0, .int .i64 0]), none⟩),
  (31, ⟨1, false, .nilsl, (.slice (.pair (.int .i64) (.pair (.int .i64) (.pair (.int .i64) (.int .i64)))) 4 32 [.int .i64 0, .int .i64 0, .int .i64 0, .int .i64 0]), none⟩),
  (23, ⟨1, false, .nilsl, (.slice (.int .i64) 1 8 [.int .i64 0]), none⟩),
  (26, ⟨1, false, .nilptr, .ptr, none⟩),
  (29, ⟨1, false, .nilptr, .ptr, none⟩),
  (33, ⟨1, false, .int .i64 0, (.int .i64), some (.int .i64)⟩),
  (36, ⟨4, true, .agg [.int .i64 0, .int .i64 0, .int .i64 0, .int .i64 0], (.struct [(0, 1), (1, 1), (2, 1), (3, 1)]), some (.pair (.int .i64) (.pair (.int .i64) (.pair (.int .i64) (.int .i64))))⟩),
  (88, ⟨1, true, .agg [.nilsl], (.struct [(0, 1)]), none⟩),
  (89, ⟨4, true, .agg [.int .i64 0, .int .i64 0, .int .i64 0, .int .i64 0], (.arr 4 1 false), none⟩),
  (108, ⟨60, true, .agg [.nilsl, .nilsl, .nilsl, .nilsl, .nilsl, .nilsl, .nilsl, .nilsl, .nilsl, .nilsl, .nilsl, .nilsl, .nilsl, .nilsl, .nilsl, .nilsl, .nilsl, .nilsl, .nilsl, .nilsl, .nilsl, .nilsl, .nilsl, .nilsl, .nilsl, .nilsl, .nilsl, .nilsl, .nilsl, .nilsl, .nilsl, .nilsl, .nilsl, .nilsl, .nilsl, .nilsl, .nilsl, .nilsl, .nilsl, .nilsl, .nilsl, .nilsl, .nilsl, .nilsl, .nilsl, .nilsl, .nilsl, .nilsl, .nilsl, .nilsl, .nilsl, .nilsl, .nilsl, .nilsl, .nilsl, .nilsl, .nilsl, .nilsl, .nilsl, .nilsl], (.arr 60 1 false), none⟩),
  (110, ⟨60, true, .agg [.nilsl, .nilsl, .nilsl, .nilsl, .nilsl, .nilsl, .nilsl, .nilsl, .nilsl, .nilsl, .nilsl, .nilsl, .nilsl, .nilsl, .nilsl, .nilsl, .nilsl, .nilsl, .nilsl, .nilsl, .nilsl, .nilsl, .nilsl, .nilsl, .nilsl, .nilsl, .nilsl, .nilsl, .nilsl, .nilsl, .nilsl, .nilsl, .nilsl, .nilsl, .nilsl, .nilsl, .nilsl, .nilsl, .nilsl, .nilsl, .nilsl, .nilsl, .nilsl, .nilsl, .nilsl, .nilsl, .nilsl, .nilsl, .nilsl, .nilsl, .nilsl, .nilsl, .nilsl, .nilsl, .nilsl, .nilsl, .nilsl, .nilsl, .nilsl, .nilsl], (.struct [(0, 60)]), none⟩),
  (112, ⟨2, true, .agg [.int .i64 0, .int .i64 0], (.struct [(0, 1), (1, 1)]), some (.pair (.int .i64) (.int .i64))⟩),
  (147, ⟨1, false, .int .u64 0, (.int .u64), some (.int .u64)⟩),
  (67, ⟨1, false, .nilsl, (.slice (.pair (.int .i64) (.pair (.int .i64) (.pair (.int .i64) (.pair (.int .i64) (.pair (.int .i64) (.int .i64)))))) 6 48 [.int .i64 0, .int .i64 0, .int .i64 0, .int .i64 0, .int .i64 0, .int .i64 0]), none⟩),
  (63, ⟨1, false, .nilsl, (.slice (.pair (.int .i64) (.int .i64)) 2 16 [.int .i64 0, .int .i64 0]), none⟩),
  (68, ⟨1, false, .nilsl, (.slice (.pair (.int .i64) (.pair (.int .i64) (.pair (.pair (.int .i64) (.int .i64)) (.pair (.int .i64) (.int .i64))))) 6 48 [.int .i64 0, .int .i64 0, .int .i64 0, .int .i64 0, .int .i64 0, .int .i64 0]), none⟩),
  (69, ⟨1, false, .nilsl, (.slice (.pair (.int .i64) (.pair (.int .i64) (.int .i64))) 3 24 [.int .i64 0, .int .i64 0, .int .i64 0]), none⟩),
  (71, ⟨5, true, .agg [.int .i64 0, .int .i64 0, .int .i64 0, .nilsl, .nilsl], (.struct [(0, 1), (1, 1), (2, 1), (3, 1), (4, 1)]), none⟩),
  (74, ⟨5, true, .agg [.nilsl, .nilsl, .int .i64 0, .int .i64 0, .int .i64 0], (.struct [(0, 1), (1, 1), (2, 1), (3, 1), (4, 1)]), none⟩),
  (77, ⟨1, false, .nilsl, (.slice (.pair (.int .i64) (.pair (.int .i64) (.pair (.int .i64) (.int .i64)))) 4 32 [.int .i64 0, .int .i64 0, .int .i64 0, .int .i64 0]), none⟩),
  (79, ⟨2, true, .agg [.int .i64 0, .int .i64 0], (.struct [(0, 1), (1, 1)]), some (.pair (.int .i64) (.int .i64))⟩),
  (83, ⟨4, true, .agg [.int .i64 0, .int .i64 0, .int .i64 0, .int .i64 0], (.struct [(0, 1), (1, 1), (2, 1), (3, 1)]), some (.pair (.int .i64) (.pair (.int .i64) (.pair (.int .i64) (.int .i64))))⟩),
  (119, ⟨2, true, .agg [.int .i64 0, .int .i64 0], (.struct [(0, 1), (1, 1)]), some (.pair (.int .i64) (.int .i64))⟩),
  (121, ⟨6, true, .agg [.int .i64 0, .int .i64 0, .int .i64 0, .int .i64 0, .int .i64 0, .int .i64 0], (.struct [(0, 1), (1, 1), (2, 2), (4, 2)]), some (.pair (.int .i64) (.pair (.int .i64) (.pair (.pair (.int .i64) (.int .i64)) (.pair (.int .i64) (.int .i64)))))⟩),
  (123, ⟨3, true, .agg [.int .i64 0, .int .i64 0, .int .i64 0], (.struct [(0, 1), (1, 1), (2, 1)]), some (.pair (.int .i64) (.pair (.int .i64) (.int .i64)))⟩),
  (117, ⟨6, true, .agg [.int .i64 0, .int .i64 0, .int .i64 0, .int .i64 0, .int .i64 0, .int .i64 0], (.arr 6 1 false), none⟩),
  (64, ⟨2, true, .agg [.int .i64 0, .int .i64 0], (.arr 2 1 false), none⟩),
  (142, ⟨2, true, .agg [.int .i64 0, .int .i64 0], (.struct [(0, 1), (1, 1)]), some (.pair (.int .i64) (.int .i64))⟩),
  (125, ⟨4, true, .agg [.int .i64 0, .int .i64 0, .int .i64 0, .int .i64 0], (.arr 2 2 true), none⟩),
  (137, ⟨1, false, .nilfn, .fn, none⟩),
  (43, ⟨7, true, .agg [.int .i64 0, .int .i64 0, .bool false, .int .i64 0, .int .i64 0, .int .i64 0, .int .i64 0], (.struct [(0, 1), (1, 1), (2, 1), (3, 1), (4, 1), (5, 1), (6, 1)]), some (.pair (.int .i64) (.pair (.int .i64) (.pair .bool (.pair (.int .i64) (.pair (.int .i64) (.pair (.int .i64) (.int .i64)))))))⟩),
  (22, ⟨1, false, .nilsl, (.slice (.pair (.int .i64) (.pair (.int .i64) (.pair .bool (.pair (.int .i64) (.pair (.int .i64) (.pair (.int .i64) (.int .i64))))))) 7 56 [.int .i64 0, .int .i64 0, .bool false, .int .i64 0, .int .i64 0, .int .i64 0, .int .i64 0]), none⟩),
  (94, ⟨1, false, .nilfn, .fn, none⟩),
  (102, ⟨1, false, .nilfn, .fn, none⟩),
  (100, ⟨1, false, .nilfn, .fn, none⟩),
  (99, ⟨1, false, .nilfn, .fn, none⟩),
  (96, ⟨1, false, .nilsl, (.slice (.fn2 (.pair (.int .i64) (.pair (.int .i64) (.pair .bool (.pair (.int .i64) (.pair (.int .i64) (.pair (.int .i64) (.int .i64))))))) (.int .i64)) 1 8 [.nilfn]), none⟩),
  (97, ⟨1, false, .ext .nilm, (.map (.int .i64) (.fn2 (.pair (.int .i64) (.pair (.int .i64) (.pair .bool (.pair (.int .i64) (.pair (.int .i64) (.pair (.int .i64) (.int .i64))))))) (.int .i64)) .nilfn), none⟩),
  (105, ⟨1, false, .ext .nilm, (.map (.int .i64) .bool (.bool false)), none⟩),
  (3, ⟨1, false, .int .i64 0, (.int .i64), some (.int .i64)⟩)]

/-- Sums wrap; sums stay within 64 bits. -/
def tt : TT := (ttL, false, [])
def ts : TT := (ttL, true, [])

theorem ttLOk : ttAll Try.prog ttL := ⟨
  by kernel_rfl,
  by kernel_rfl,
  by kernel_rfl,
  by kernel_rfl,
  by kernel_rfl,
  by kernel_rfl,
  by kernel_rfl,
  by kernel_rfl,
  by kernel_rfl,
  by kernel_rfl,
  by kernel_rfl,
  by kernel_rfl,
  by kernel_rfl,
  by kernel_rfl,
  by kernel_rfl,
  by kernel_rfl,
  by kernel_rfl,
  by kernel_rfl,
  by kernel_rfl,
  by kernel_rfl,
  by kernel_rfl,
  by kernel_rfl,
  by kernel_rfl,
  by kernel_rfl,
  by kernel_rfl,
  by kernel_rfl,
  by kernel_rfl,
  by kernel_rfl,
  by kernel_rfl,
  by kernel_rfl,
  by kernel_rfl,
  by kernel_rfl,
  by kernel_rfl,
  by kernel_rfl,
  by kernel_rfl,
  by kernel_rfl,
  by kernel_rfl,
  by kernel_rfl,
  by kernel_rfl,
  by kernel_rfl,
  by kernel_rfl,
  trivial⟩
theorem ttOk : TTok Try.prog tt := TTok.of_all ttLOk
theorem tsOk : TTok Try.prog ts := TTok.of_all ttLOk
theorem mixed : Try.prog.follows .mixedOrders = true := by kernel_rfl
end Go.AM.Ytkacoophnfljcaa
