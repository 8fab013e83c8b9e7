/- OmapNear: the row's closed facts, in a text of their own (they take the kernel much memory). -/
import Derived.Test.YtcibkdbpicledaaGreatDoorZCg
import Derived.Test.YtcibkdbpicledaaGreatDoorRows
import Derived.JoinedOf
set_option maxRecDepth 100000
namespace Go.Proofs.YtcibkdbpicledaaGreatDoor
theorem omapNear_closed : joinedFacts Tryz.pinned.checked.prog 3 Tryz.f3 Rows.omapNearSpec Rows.omapNearRow = true := by kernel_rfl
