/- BackendNone: the row's closed facts, in a text of their own (they take the kernel much memory). -/
import Derived.Test.YtepdkbmnkjfcpaaGreatDoorRows
import Derived.JoinedOf
set_option maxRecDepth 100000
namespace Go.Proofs.YtepdkbmnkjfcpaaGreatDoor
theorem backendNone_closed : joinedFacts Tryz.pinned.checked.prog 4 Tryz.f4 Rows.backendNoneSpec Rows.backendNoneRow = true := by kernel_rfl
end Go.Proofs.YtepdkbmnkjfcpaaGreatDoor
