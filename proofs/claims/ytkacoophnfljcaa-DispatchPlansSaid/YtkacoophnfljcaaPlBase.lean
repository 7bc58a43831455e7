/- What the walks through plan's code share. -/
import Derived.Test.YtkacoophnfljcaaCaBase
set_option linter.all false
namespace Go.AM.Ytkacoophnfljcaa.Pl
open Go.Proofs

abbrev tStage : Ty := .pair (.int .i64) (.pair (.int .i64) (.pair (.pair (.int .i64) (.int .i64)) (.pair (.int .i64) (.int .i64))))
abbrev tWin : Ty := .pair (.int .i64) (.pair (.int .i64) (.int .i64))
abbrev tVisit : Ty := .pair (.int .i64) (.pair (.int .i64) (.pair (.int .i64) (.int .i64)))
abbrev tBook : Ty := .pair (.int .i64) (.pair (.int .i64) (.pair (.int .i64) (.int .i64)))
abbrev tSix : Ty := .pair (.int .i64) (.pair (.int .i64) (.pair (.int .i64) (.pair (.int .i64) (.pair (.int .i64) (.int .i64)))))
abbrev tTwo : Ty := .pair (.int .i64) (.int .i64)
end Go.AM.Ytkacoophnfljcaa.Pl
