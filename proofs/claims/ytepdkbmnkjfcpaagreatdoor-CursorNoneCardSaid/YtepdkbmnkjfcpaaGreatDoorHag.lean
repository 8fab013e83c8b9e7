/- CursorNone: the row's closed facts, in a text of their own (they take the kernel much memory). -/
import Derived.Test.YtepdkbmnkjfcpaaGreatDoorRows
import Derived.JoinedOf
namespace Go.Proofs.YtepdkbmnkjfcpaaGreatDoor

theorem cursorNone_closed : joinedFacts Tryz.pinned.checked.prog 6 Tryz.f6 Rows.cursorNoneSpec Rows.cursorNoneRow = true := by kernel_rfl
end Go.Proofs.YtepdkbmnkjfcpaaGreatDoor
