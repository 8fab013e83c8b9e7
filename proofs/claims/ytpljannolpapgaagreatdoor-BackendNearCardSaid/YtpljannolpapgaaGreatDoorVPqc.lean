/- BackendNear: the row's closed facts, in a text of their own (they take the kernel much memory). -/
import Derived.Test.YtpljannolpapgaaGreatDoorVCg
import Derived.Test.YtpljannolpapgaaGreatDoorRows
import Derived.JoinedOf
set_option maxRecDepth 100000
namespace Go.Proofs.YtpljannolpapgaaGreatDoor
theorem backendNear_closed : joinedFacts Tryz.pinned.checked.prog 3 Tryz.f3 Rows.backendNearSpec Rows.backendNearRow = true := by kernel_rfl
