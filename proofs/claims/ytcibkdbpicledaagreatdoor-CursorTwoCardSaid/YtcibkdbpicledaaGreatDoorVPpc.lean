/- CursorTwo: the row's closed facts, in a text of their own (they take the kernel much memory). -/
import Derived.Test.YtcibkdbpicledaaGreatDoorVCg
import Derived.Test.YtcibkdbpicledaaGreatDoorRows
import Derived.JoinedOf
set_option maxRecDepth 100000
namespace Go.Proofs.YtcibkdbpicledaaGreatDoor
theorem cursorTwo_closed : joinedFacts Tryz.pinned.checked.prog 10 Tryz.f10 Rows.cursorTwoSpec Rows.cursorTwoRow = true := by kernel_rfl
