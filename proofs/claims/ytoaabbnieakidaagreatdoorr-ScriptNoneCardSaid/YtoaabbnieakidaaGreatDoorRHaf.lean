/- ScriptNone: the row's closed facts, limb by limb (together they take the kernel too much memory). -/
import Derived.Test.YtoaabbnieakidaaGreatDoorRRows
import Derived.JoinedOf
namespace Go.Proofs.YtoaabbnieakidaaGreatDoorR

theorem both_true {a b : Bool} (ha : a = true) (hb : b = true) : (a && b) = true := by rw [ha, hb]; rfl
theorem scriptNone_limb0 : (Rows.scriptNoneRow.wf (OpenSpec.ofChange Rows.scriptNoneSpec)) = true := by kernel_rfl
theorem scriptNone_limb1 : (laidOutB Tryz.pinned.checked.prog) = true := by kernel_rfl
theorem scriptNone_limb2 : (mapsRowed Tryz.pinned.checked.prog) = true := by kernel_rfl
theorem scriptNone_limb3 : (Tryz.f3.params.all (Tryz.pinned.checked.prog.readableRec ·)) = true := by kernel_rfl
theorem scriptNone_limb4 : (namedTie Tryz.pinned.checked.prog Rows.scriptNoneRow.named Rows.scriptNoneSpec.vars) = true := by kernel_rfl
theorem scriptNone_limb5 : ((Rows.scriptNoneRow.stops == [])) = true := by kernel_rfl
theorem scriptNone_limb6 : ((Tryz.pinned.checked.prog.stops == [])) = true := by kernel_rfl
theorem scriptNone_limb7 : ((Rows.scriptNoneRow.knobs == [])) = true := by kernel_rfl
theorem scriptNone_limb8 : ((Tryz.pinned.checked.prog.stopKnobs == [])) = true := by kernel_rfl
theorem scriptNone_limb9 : ((Rows.scriptNoneRow.inPlace == Tryz.pinned.checked.prog.inPlace 3)) = true := by kernel_rfl
theorem scriptNone_limb10 : ((Rows.scriptNoneRow.unfollowed == Tryz.pinned.checked.prog.unfollowed 3)) = true := by kernel_rfl
theorem scriptNone_limb11 : ((Rows.scriptNoneRow.recurses == Tryz.pinned.checked.prog.recurses 3)) = true := by kernel_rfl
theorem scriptNone_limb12 : ((Rows.scriptNoneRow.named == Tryz.pinned.checked.prog.varsNamed 3)) = true := by kernel_rfl
theorem scriptNone_limb13 : ((Rows.scriptNoneRow.maps == (Tryz.f3.params.toList ++ Rows.scriptNoneSpec.plain.varTypes Tryz.pinned.checked.prog).any (Tryz.pinned.checked.prog.mapsRec ·))) = true := by kernel_rfl
theorem scriptNone_limb14 : ((Rows.scriptNoneRow.ifaces == (Tryz.f3.params.toList ++ Rows.scriptNoneSpec.plain.varTypes Tryz.pinned.checked.prog).any (Tryz.pinned.checked.prog.ifacesRec ·))) = true := by kernel_rfl
theorem scriptNone_limb15 : ((Rows.scriptNoneRow.mapsOut == Tryz.pinned.checked.prog.mapsAmong Tryz.f3.resultTypes.toList)) = true := by kernel_rfl
theorem scriptNone_limb16 : ((Rows.scriptNoneRow.loops == (Tryz.f3.params.toList ++ Rows.scriptNoneSpec.plain.varTypes Tryz.pinned.checked.prog).any (Tryz.pinned.checked.prog.loopsFrom ·))) = true := by kernel_rfl
theorem scriptNone_limb17 : ((Rows.scriptNoneRow.wideKeys == (Tryz.f3.params.toList ++ Rows.scriptNoneSpec.plain.varTypes Tryz.pinned.checked.prog ++ Tryz.f3.resultTypes.toList).any (Tryz.pinned.checked.prog.wideKeysFrom ·))) = true := by kernel_rfl
theorem scriptNone_limb18 : (Rows.scriptNoneSpec.vars.all (Tryz.pinned.checked.prog.varReadable ·)) = true := by kernel_rfl
theorem scriptNone_limb19 : (Tryz.f3.resultTypes.all (fun t => Tryz.pinned.checked.prog.readableRec t && decide (t < Tryz.pinned.checked.prog.types.size))) = true := by kernel_rfl
theorem scriptNone_limb20 : ((Rows.scriptNoneRow.ifacesOut == Tryz.f3.resultTypes.toList.any (Tryz.pinned.checked.prog.ifacesRec ·))) = true := by kernel_rfl
theorem scriptNone_limb21 : ((Rows.scriptNoneRow.loopsOut == Tryz.f3.resultTypes.toList.any (Tryz.pinned.checked.prog.loopsFrom ·))) = true := by kernel_rfl
theorem scriptNone_limb22 : ((Rows.scriptNoneRow.plainKeys == Tryz.pinned.checked.prog.plainKeys)) = true := by kernel_rfl
theorem scriptNone_limb23 : (Rows.scriptNoneRow.shortTexts.isNone) = true := by kernel_rfl
theorem scriptNone_limb24 : (Tryz.pinned.checked.prog.stopsHeard) = true := by kernel_rfl
theorem scriptNone_limb25 : (Tryz.pinned.checked.prog.mayEnter) = true := by kernel_rfl
theorem scriptNone_limb26 : ((Rows.scriptNoneRow.lifted == Tryz.pinned.checked.prog.liftsFinal)) = true := by kernel_rfl
theorem scriptNone_limb27 : ((Tryz.pinned.checked.prog.make == some Rows.scriptNoneRow.make)) = true := by kernel_rfl
theorem scriptNone_limb28 : ((Rows.scriptNoneRow.kinds == (if Rows.scriptNoneRow.domain.isEmpty then [] else Tryz.f3.params.toList.map fun t => match Tryz.pinned.checked.prog.underlying t with | some (.int k) => some k | _ => none))) = true := by kernel_rfl
theorem scriptNone_limb29 : ((Rows.scriptNoneRow.pinned == Rows.scriptNoneRow.pinnedBy)) = true := by kernel_rfl
theorem scriptNone_limb30 : ((Rows.scriptNoneRow.veiled == (Tryz.f3.params.toList ++ Rows.scriptNoneSpec.plain.varTypes Tryz.pinned.checked.prog ++ Tryz.f3.resultTypes.toList).any (Tryz.pinned.checked.prog.veiledRec ·))) = true := by kernel_rfl
theorem scriptNone_limb31 : (Rows.scriptNoneRow.veiledFits Tryz.pinned.checked.prog Tryz.f3.params.toList (Tryz.f3.params.toList ++ Rows.scriptNoneSpec.plain.varTypes Tryz.pinned.checked.prog ++ Tryz.f3.resultTypes.toList)) = true := by kernel_rfl
end Go.Proofs.YtoaabbnieakidaaGreatDoorR
