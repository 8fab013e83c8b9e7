/- CursorTwo: the card's closed facts, each by itself (together they take the kernel too much memory). -/
import Derived.Test.YtcibkdbpicledaaGreatDoorVCg
import Derived.Test.YtcibkdbpicledaaGreatDoorRows
import Derived.Test.YtcibkdbpicledaaGreatDoorCards
import Derived.SevenTiedAt
import Derived.JoinedOf
set_option maxRecDepth 100000
namespace Go.Proofs.YtcibkdbpicledaaGreatDoor
theorem cursorTwo_wfText : Rows.cursorTwoRow.wfByText (OpenSpec.ofChange Rows.cursorTwoSpec) = true := by kernel_rfl
theorem cursorTwo_main : Tryz.pinned.checked.prog.mainIs = some ((true, "501fe5c62b583bc0947045b746384f0f200a3a3ce37a46b716acef8c18e5ba17").1, (true, "501fe5c62b583bc0947045b746384f0f200a3a3ce37a46b716acef8c18e5ba17").2.toList) := by kernel_rfl
theorem cursorTwo_named : Tryz.prog.funcNamed "loft/loftlaw23.CursorTwo" = some 10 := by kernel_rfl
theorem cursorTwo_looks : false = Tryz.pinned.checked.prog.looks [] := by kernel_rfl
theorem cursorTwo_goes : false = Rows.cursorTwoRow.goesBy Tryz.pinned.checked.prog := by kernel_rfl
theorem cursorTwo_stand : ([3, 3, 22, 81, 9].all fun u => !Tryz.prog.wantsStandIn u) = true := by kernel_rfl
