/- The laws' helpers together. -/
import Derived.Test.YtkacoophnfljcaaDiW
import Derived.Test.YtkacoophnfljcaaDiT
set_option linter.all false
namespace Go.AM.Ytkacoophnfljcaa
open Go.Proofs
set_option maxRecDepth 100000
set_option maxHeartbeats 8000000

def sigDl : List (Nat × Spec) := [(11, dsaneS),
  (12, dbookS),
  (17, jobsS),
  (18, rulesS),
  (31, pickP),
  (33, aheadS),
  (24, sameIS),
  (19, dpickS),
  (22, orderS),
  (25, batchS),
  (29, lengthS),
  (35, newS),
  (34, bookS),
  (32, busyS),
  (36, listS),
  (37, lenS)]
theorem sigDlOk : SigOk Try.prog (look sigDl) := sigCons (sigCons (sigCons (sigCons (sigCons (sigCons (sigCons (sigCons (sigCons (sigCons (sigCons (sigCons (sigCons (sigCons (sigCons (sigCons sigNil
  Try.func37 (by kernel_rfl) (c := body Try.f37) rfl lenOk)
  Try.func36 (by kernel_rfl) (c := body Try.f36) rfl listOk)
  Try.func32 (by kernel_rfl) (c := body Try.f32) rfl busyOk)
  Try.func34 (by kernel_rfl) (c := body Try.f34) rfl bookOk)
  Try.func35 (by kernel_rfl) (c := body Try.f35) rfl newOk)
  Try.func29 (by kernel_rfl) (c := body Try.f29) rfl lengthOk)
  Try.func25 (by kernel_rfl) (c := body Try.f25) rfl batchOk)
  Try.func22 (by kernel_rfl) (c := body Try.f22) rfl orderOk)
  Try.func19 (by kernel_rfl) (c := body Try.f19) rfl dpickOk)
  Try.func24 (by kernel_rfl) (c := body Try.f24) rfl sameIOk)
  Try.func33 (by kernel_rfl) (c := body Try.f33) rfl aheadOk)
  Try.func31 (by kernel_rfl) (c := body Try.f31) rfl pickDOk)
  Try.func18 (by kernel_rfl) (c := body Try.f18) rfl rulesOk)
  Try.func17 (by kernel_rfl) (c := body Try.f17) rfl jobsOk)
  Try.func12 (by kernel_rfl) (c := body Try.f12) rfl dbookOk)
  Try.func11 (by kernel_rfl) (c := body Try.f11) rfl dsaneOk
end Go.AM.Ytkacoophnfljcaa
