/- OmapOf: the row's closed facts, in a text of their own (they take the kernel much memory). -/
import Derived.Test.YtpljannolpapgaaGreatDoorUCg
import Derived.Test.YtpljannolpapgaaGreatDoorRows
import Derived.JoinedOf
set_option maxRecDepth 100000
namespace Go.Proofs.YtpljannolpapgaaGreatDoor
theorem omapOf_closed : joinedFacts Tryz.pinned.checked.prog 4 Tryz.f4 Rows.omapOfSpec Rows.omapOfRow = true := by kernel_rfl
