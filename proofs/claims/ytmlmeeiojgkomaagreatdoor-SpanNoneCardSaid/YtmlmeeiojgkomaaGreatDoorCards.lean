/-
  DERIVED. GIVEN WITH THE SEED: THE CARDS: each row of YtmlmeeiojgkomaaGreatDoorRows.lean that lists a variable, with what it lists TIED to the program's text (the seventh form; the later family's looks); each row that meets fmt, with fmt's text TOLD by the authors' own Lean function (tested against real Go, not proved from fmt's source: count such statements apart). THE CARD IS WHAT COUNTS. Prove the row's statement (the work); the ties are given (YtmlmeeiojgkomaaGreatDoorTie.lean); close each card by the builder's one call (the guide's Derived/Test/ToyasCard.lean, 'card_holds'). Laid BY PROGRAM, IN A SANDBOX (cutbox-door.mjs). By AI agents, Wed Nov 11 2026. No macro, syntax, notation, axiom, sorry.
-/
import Derived.Test.YtmlmeeiojgkomaaGreatDoorRows
import GoSem.ClaimSeven
namespace Go.Proofs.YtmlmeeiojgkomaaGreatDoor
namespace Rows

/-- THE TIED CARD OF 'loftlaw21.SpanNone'. -/
def spanNoneCard : Claim7 := { stood := { row := spanNoneRow, standIns := [], harness := (true, "016afd651fab23cc9f326dced5e5336265264b265d9b57869d0fa0e7a82dbd88"), looks := false }, kinds := [], alts := [], laidByText := true, laidKinds := [.data], laidTests := true, laidLooks := .later }
def SpanNoneCardSaid : Prop := Claim7.holds Tryz.pinned (.plain (OpenSpec.ofChange spanNoneSpec)) spanNoneCard

/-- THE SECOND FORM's CARD OF 'loftlaw21.SpanNone'. -/
def spanNoneUptoCard : Claim7 := { stood := { row := spanNoneUptoRow, standIns := [], harness := (true, "016afd651fab23cc9f326dced5e5336265264b265d9b57869d0fa0e7a82dbd88"), looks := false }, kinds := [], alts := [], laidByText := true, laidKinds := [.data], laidTests := true, laidLooks := .later }
def SpanNoneUptoCardSaid : Prop := Claim7.holds Tryz.pinned (.plain (OpenSpec.upto spanNoneSpec)) spanNoneUptoCard
end Rows
end Go.Proofs.YtmlmeeiojgkomaaGreatDoor
