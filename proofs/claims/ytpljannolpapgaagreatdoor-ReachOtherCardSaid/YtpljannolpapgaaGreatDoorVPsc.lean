/- ReachOther: the row's closed facts, in a text of their own (they take the kernel much memory). -/
import Derived.Test.YtpljannolpapgaaGreatDoorVCg
import Derived.Test.YtpljannolpapgaaGreatDoorRows
import Derived.JoinedOf
set_option maxRecDepth 100000
namespace Go.Proofs.YtpljannolpapgaaGreatDoor
theorem reachOther_closed : joinedFacts Tryz.pinned.checked.prog 6 Tryz.f6 Rows.reachOtherSpec Rows.reachOtherRow = true := by kernel_rfl
