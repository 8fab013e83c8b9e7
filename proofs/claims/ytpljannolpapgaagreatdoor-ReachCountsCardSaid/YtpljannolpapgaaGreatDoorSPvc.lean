/- ReachCounts: the row's closed facts, in a text of their own (they take the kernel much memory). -/
import Derived.Test.YtpljannolpapgaaGreatDoorSCg
import Derived.Test.YtpljannolpapgaaGreatDoorRows
import Derived.JoinedOf
set_option maxRecDepth 100000
namespace Go.Proofs.YtpljannolpapgaaGreatDoor
theorem reachCounts_closed : joinedFacts Tryz.pinned.checked.prog 8 Tryz.f8 Rows.reachCountsSpec Rows.reachCountsRow = true := by kernel_rfl
