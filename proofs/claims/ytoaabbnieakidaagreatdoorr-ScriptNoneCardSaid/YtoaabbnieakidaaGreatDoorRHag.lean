/- ScriptNone: the row's closed facts, put together. ScriptNone: the card's closed facts, each by itself (together they take the kernel too much memory). -/
import Derived.Test.YtoaabbnieakidaaGreatDoorRHaf
import Derived.Test.YtoaabbnieakidaaGreatDoorRRows
import Derived.Test.YtoaabbnieakidaaGreatDoorRCards
import Derived.SevenTiedAt
import Derived.JoinedOf
namespace Go.Proofs.YtoaabbnieakidaaGreatDoorR

set_option maxRecDepth 100000 in
theorem scriptNone_closed : joinedFacts Tryz.pinned.checked.prog 3 Tryz.f3 Rows.scriptNoneSpec Rows.scriptNoneRow = true := by
  unfold joinedFacts
  exact both_true (both_true (both_true (both_true (both_true (both_true (both_true (both_true (both_true (both_true (both_true (both_true (both_true (both_true (both_true (both_true (both_true (both_true (both_true (both_true (both_true (both_true (both_true (both_true (both_true (both_true (both_true (both_true (both_true (both_true (both_true (scriptNone_limb0) scriptNone_limb1) scriptNone_limb2) scriptNone_limb3) scriptNone_limb4) scriptNone_limb5) scriptNone_limb6) scriptNone_limb7) scriptNone_limb8) scriptNone_limb9) scriptNone_limb10) scriptNone_limb11) scriptNone_limb12) scriptNone_limb13) scriptNone_limb14) scriptNone_limb15) scriptNone_limb16) scriptNone_limb17) scriptNone_limb18) scriptNone_limb19) scriptNone_limb20) scriptNone_limb21) scriptNone_limb22) scriptNone_limb23) scriptNone_limb24) scriptNone_limb25) scriptNone_limb26) scriptNone_limb27) scriptNone_limb28) scriptNone_limb29) scriptNone_limb30) scriptNone_limb31
end Go.Proofs.YtoaabbnieakidaaGreatDoorR

namespace Go.Proofs.YtoaabbnieakidaaGreatDoorR

theorem scriptNone_wfText : Rows.scriptNoneRow.wfByText (OpenSpec.ofChange Rows.scriptNoneSpec) = true := by kernel_rfl
theorem scriptNone_main : Tryz.pinned.checked.prog.mainIs = some ((true, "3c66265bc4fe1d855b9c94044c33424ef650d1b28e098fa46a6640001d8dbb4a").1, (true, "3c66265bc4fe1d855b9c94044c33424ef650d1b28e098fa46a6640001d8dbb4a").2.toList) := by kernel_rfl
theorem scriptNone_named : Tryz.prog.funcNamed "loft/loftlaw28.ScriptNone" = some 3 := by kernel_rfl
theorem scriptNone_looks : false = Tryz.pinned.checked.prog.looks [] := by kernel_rfl
theorem scriptNone_goes : false = Rows.scriptNoneRow.goesBy Tryz.pinned.checked.prog := by kernel_rfl
theorem scriptNone_stand : ([23].all fun u => !Tryz.prog.wantsStandIn u) = true := by kernel_rfl
end Go.Proofs.YtoaabbnieakidaaGreatDoorR
