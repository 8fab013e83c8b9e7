/- OmapOver: the row's closed facts, in a text of their own (they take the kernel much memory). -/
import Derived.Test.YtcibkdbpicledaaGreatDoorZCg
import Derived.Test.YtcibkdbpicledaaGreatDoorRows
import Derived.JoinedOf
set_option maxRecDepth 100000
namespace Go.Proofs.YtcibkdbpicledaaGreatDoor
theorem omapOver_closed : joinedFacts Tryz.pinned.checked.prog 4 Tryz.f4 Rows.omapOverSpec Rows.omapOverRow = true := by kernel_rfl
