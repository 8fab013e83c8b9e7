/-
  DERIVED. GIVEN WITH THE SEED: THE CARDS: each row of YtoaabbnieakidaaGreatDoorRRows.lean that lists a variable, with what it lists TIED to the program's text (the seventh form; the later family's looks); each row that meets fmt, with fmt's text TOLD by the authors' own Lean function (tested against real Go, not proved from fmt's source: count such statements apart). THE CARD IS WHAT COUNTS. Prove the row's statement (the work); the ties are given (YtoaabbnieakidaaGreatDoorRTie.lean); close each card by the builder's one call (the guide's Derived/Test/ToyasCard.lean, 'card_holds'). Laid BY PROGRAM, IN A SANDBOX (cutbox-door.mjs). By AI agents, Wed Nov 11 2026. No macro, syntax, notation, axiom, sorry.
-/
import Derived.Test.YtoaabbnieakidaaGreatDoorRRows
import GoSem.ClaimSeven
namespace Go.Proofs.YtoaabbnieakidaaGreatDoorR
namespace Rows

/-- THE TIED CARD OF 'loftlaw28.ScriptNone'. -/
def scriptNoneCard : Claim7 := { stood := { row := scriptNoneRow, standIns := [], harness := (true, "3c66265bc4fe1d855b9c94044c33424ef650d1b28e098fa46a6640001d8dbb4a"), looks := false }, kinds := [], alts := [], laidByText := true, laidKinds := [.data], laidTests := true, laidLooks := .later }
def ScriptNoneCardSaid : Prop := Claim7.holds Tryz.pinned (.plain (OpenSpec.ofChange scriptNoneSpec)) scriptNoneCard

/-- THE SECOND FORM's CARD OF 'loftlaw28.ScriptNone'. -/
def scriptNoneUptoCard : Claim7 := { stood := { row := scriptNoneUptoRow, standIns := [], harness := (true, "3c66265bc4fe1d855b9c94044c33424ef650d1b28e098fa46a6640001d8dbb4a"), looks := false }, kinds := [], alts := [], laidByText := true, laidKinds := [.data], laidTests := true, laidLooks := .later }
def ScriptNoneUptoCardSaid : Prop := Claim7.holds Tryz.pinned (.plain (OpenSpec.upto scriptNoneSpec)) scriptNoneUptoCard
end Rows
end Go.Proofs.YtoaabbnieakidaaGreatDoorR
