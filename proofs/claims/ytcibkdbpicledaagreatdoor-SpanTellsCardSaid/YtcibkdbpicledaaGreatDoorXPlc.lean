/- SpanTells: the row's closed facts, in a text of their own (they take the kernel much memory). -/
import Derived.Test.YtcibkdbpicledaaGreatDoorXCg
import Derived.Test.YtcibkdbpicledaaGreatDoorRows
import Derived.JoinedOf
set_option maxRecDepth 100000
namespace Go.Proofs.YtcibkdbpicledaaGreatDoor
theorem spanTells_closed : joinedFacts Tryz.pinned.checked.prog 6 Tryz.f6 Rows.spanTellsSpec Rows.spanTellsRow = true := by kernel_rfl
