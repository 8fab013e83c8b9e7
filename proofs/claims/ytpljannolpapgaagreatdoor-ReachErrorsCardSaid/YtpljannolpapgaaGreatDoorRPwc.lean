/- ReachErrors: the row's closed facts, in a text of their own (they take the kernel much memory). -/
import Derived.Test.YtpljannolpapgaaGreatDoorRCg
import Derived.Test.YtpljannolpapgaaGreatDoorRows
import Derived.JoinedOf
set_option maxRecDepth 100000
namespace Go.Proofs.YtpljannolpapgaaGreatDoor
theorem reachErrors_closed : joinedFacts Tryz.pinned.checked.prog 7 Tryz.f7 Rows.reachErrorsSpec Rows.reachErrorsRow = true := by kernel_rfl
