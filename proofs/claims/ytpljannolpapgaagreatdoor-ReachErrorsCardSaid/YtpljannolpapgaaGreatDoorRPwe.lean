/- ReachErrors: the card's closed facts, each by itself (together they take the kernel too much memory). -/
import Derived.Test.YtpljannolpapgaaGreatDoorRCg
import Derived.Test.YtpljannolpapgaaGreatDoorRows
import Derived.Test.YtpljannolpapgaaGreatDoorCards
import Derived.SevenTiedAt
import Derived.JoinedOf
set_option maxRecDepth 100000
namespace Go.Proofs.YtpljannolpapgaaGreatDoor
theorem reachErrors_wfText : Rows.reachErrorsRow.wfByText (OpenSpec.ofChange Rows.reachErrorsSpec) = true := by kernel_rfl
theorem reachErrors_main : Tryz.pinned.checked.prog.mainIs = some ((true, "50dd867a4a864633e8e6038117b4559ba706633593ea6b23486374b995f06bc9").1, (true, "50dd867a4a864633e8e6038117b4559ba706633593ea6b23486374b995f06bc9").2.toList) := by kernel_rfl
theorem reachErrors_named : Tryz.prog.funcNamed "loft/loftlaw24.ReachErrors" = some 7 := by kernel_rfl
theorem reachErrors_looks : true = Tryz.pinned.checked.prog.looks [] := by kernel_rfl
theorem reachErrors_goes : false = Rows.reachErrorsRow.goesBy Tryz.pinned.checked.prog := by kernel_rfl
theorem reachErrors_stand : ([3, 3, 22].all fun u => !Tryz.prog.wantsStandIn u) = true := by kernel_rfl
