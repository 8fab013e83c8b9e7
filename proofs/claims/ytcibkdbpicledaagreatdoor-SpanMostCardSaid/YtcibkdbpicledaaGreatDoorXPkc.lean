/- SpanMost: the row's closed facts, in a text of their own (they take the kernel much memory). -/
import Derived.Test.YtcibkdbpicledaaGreatDoorXCg
import Derived.Test.YtcibkdbpicledaaGreatDoorRows
import Derived.JoinedOf
set_option maxRecDepth 100000
namespace Go.Proofs.YtcibkdbpicledaaGreatDoor
theorem spanMost_closed : joinedFacts Tryz.pinned.checked.prog 8 Tryz.f8 Rows.spanMostSpec Rows.spanMostRow = true := by kernel_rfl
