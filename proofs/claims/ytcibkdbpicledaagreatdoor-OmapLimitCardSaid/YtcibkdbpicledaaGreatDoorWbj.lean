import Derived.Test.YtcibkdbpicledaaGreatDoorWaa
import Derived.Test.YtcibkdbpicledaaGreatDoorRows
import Derived.JoinedOf
set_option maxRecDepth 100000
namespace Go.Proofs.YtcibkdbpicledaaGreatDoor
theorem omapLimit_closed : joinedFacts Tryz.pinned.checked.prog 5 Tryz.f5 Rows.omapLimitSpec Rows.omapLimitRow = true := by kernel_rfl
