/- SpanParts: the row's closed facts, in a text of their own (they take the kernel much memory). -/
import Derived.Test.YtcibkdbpicledaaGreatDoorXCg
import Derived.Test.YtcibkdbpicledaaGreatDoorRows
import Derived.JoinedOf
set_option maxRecDepth 100000
namespace Go.Proofs.YtcibkdbpicledaaGreatDoor
theorem spanParts_closed : joinedFacts Tryz.pinned.checked.prog 7 Tryz.f7 Rows.spanPartsSpec Rows.spanPartsRow = true := by kernel_rfl
