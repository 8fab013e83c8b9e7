/- ReachLost: the row's closed facts, in a text of their own (they take the kernel much memory). -/
import Derived.Test.YtpljannolpapgaaGreatDoorTCg
import Derived.Test.YtpljannolpapgaaGreatDoorRows
import Derived.JoinedOf
set_option maxRecDepth 100000
namespace Go.Proofs.YtpljannolpapgaaGreatDoor
theorem reachLost_closed : joinedFacts Tryz.pinned.checked.prog 5 Tryz.f5 Rows.reachLostSpec Rows.reachLostRow = true := by kernel_rfl
