/-
  DERIVED. GIVEN WITH THE SEED: THE CARDS: each row of YtepdkbmnkjfcpaaGreatDoorRows.lean that lists a variable, with what it lists TIED to the program's text (the seventh form; the later family's looks); each row that meets fmt, with fmt's text TOLD by the authors' own Lean function (tested against real Go, not proved from fmt's source: count such statements apart). THE CARD IS WHAT COUNTS. Prove the row's statement (the work); the ties are given (YtepdkbmnkjfcpaaGreatDoorTie.lean); close each card by the builder's one call (the guide's Derived/Test/ToyasCard.lean, 'card_holds'). Laid BY PROGRAM, IN A SANDBOX (cutbox-door.mjs). By AI agents, Wed Nov 11 2026. No macro, syntax, notation, axiom, sorry.
-/
import Derived.Test.YtepdkbmnkjfcpaaGreatDoorRows
import GoSem.ClaimSeven
namespace Go.Proofs.YtepdkbmnkjfcpaaGreatDoor
namespace Rows

/-- THE TIED CARD OF 'loftlaw22.SetsNone'. -/
def setsNoneCard : Claim7 := { stood := { row := setsNoneRow, standIns := [], harness := (true, "25257cdaa376dd30901391a701b4490bd4bfe79cd0fa14fa27781c059a0f5870"), looks := true }, kinds := [], alts := [], laidByText := true, laidKinds := [.data], laidTests := true, laidLooks := .later }
def SetsNoneCardSaid : Prop := Claim7.holds Tryz.pinned (.plain (OpenSpec.ofChange setsNoneSpec)) setsNoneCard

/-- THE TIED CARD OF 'loftlaw19.BackendNone'. -/
def backendNoneCard : Claim7 := { stood := { row := backendNoneRow, standIns := [], harness := (true, "25257cdaa376dd30901391a701b4490bd4bfe79cd0fa14fa27781c059a0f5870"), looks := true }, kinds := [], alts := [], laidByText := true, laidKinds := [.data], laidTests := true, laidLooks := .later }
def BackendNoneCardSaid : Prop := Claim7.holds Tryz.pinned (.plain (OpenSpec.ofChange backendNoneSpec)) backendNoneCard

/-- THE TIED CARD OF 'loftlaw20.OmapNone'. -/
def omapNoneCard : Claim7 := { stood := { row := omapNoneRow, standIns := [], harness := (true, "25257cdaa376dd30901391a701b4490bd4bfe79cd0fa14fa27781c059a0f5870"), looks := true }, kinds := [], alts := [], laidByText := true, laidKinds := [.data], laidTests := true, laidLooks := .later }
def OmapNoneCardSaid : Prop := Claim7.holds Tryz.pinned (.plain (OpenSpec.ofChange omapNoneSpec)) omapNoneCard

/-- THE TIED CARD OF 'loftlaw23.CursorNone'. -/
def cursorNoneCard : Claim7 := { stood := { row := cursorNoneRow, standIns := [], harness := (true, "25257cdaa376dd30901391a701b4490bd4bfe79cd0fa14fa27781c059a0f5870"), looks := true }, kinds := [], alts := [], laidByText := true, laidKinds := [.data], laidTests := true, laidLooks := .later }
def CursorNoneCardSaid : Prop := Claim7.holds Tryz.pinned (.plain (OpenSpec.ofChange cursorNoneSpec)) cursorNoneCard

/-- THE SECOND FORM's CARD OF 'loftlaw22.SetsNone'. -/
def setsNoneUptoCard : Claim7 := { stood := { row := setsNoneUptoRow, standIns := [], harness := (true, "25257cdaa376dd30901391a701b4490bd4bfe79cd0fa14fa27781c059a0f5870"), looks := true }, kinds := [], alts := [], laidByText := true, laidKinds := [.data], laidTests := true, laidLooks := .later }
def SetsNoneUptoCardSaid : Prop := Claim7.holds Tryz.pinned (.plain (OpenSpec.upto setsNoneSpec)) setsNoneUptoCard

/-- THE SECOND FORM's CARD OF 'loftlaw19.BackendNone'. -/
def backendNoneUptoCard : Claim7 := { stood := { row := backendNoneUptoRow, standIns := [], harness := (true, "25257cdaa376dd30901391a701b4490bd4bfe79cd0fa14fa27781c059a0f5870"), looks := true }, kinds := [], alts := [], laidByText := true, laidKinds := [.data], laidTests := true, laidLooks := .later }
def BackendNoneUptoCardSaid : Prop := Claim7.holds Tryz.pinned (.plain (OpenSpec.upto backendNoneSpec)) backendNoneUptoCard

/-- THE SECOND FORM's CARD OF 'loftlaw20.OmapNone'. -/
def omapNoneUptoCard : Claim7 := { stood := { row := omapNoneUptoRow, standIns := [], harness := (true, "25257cdaa376dd30901391a701b4490bd4bfe79cd0fa14fa27781c059a0f5870"), looks := true }, kinds := [], alts := [], laidByText := true, laidKinds := [.data], laidTests := true, laidLooks := .later }
def OmapNoneUptoCardSaid : Prop := Claim7.holds Tryz.pinned (.plain (OpenSpec.upto omapNoneSpec)) omapNoneUptoCard

/-- THE SECOND FORM's CARD OF 'loftlaw23.CursorNone'. -/
def cursorNoneUptoCard : Claim7 := { stood := { row := cursorNoneUptoRow, standIns := [], harness := (true, "25257cdaa376dd30901391a701b4490bd4bfe79cd0fa14fa27781c059a0f5870"), looks := true }, kinds := [], alts := [], laidByText := true, laidKinds := [.data], laidTests := true, laidLooks := .later }
def CursorNoneUptoCardSaid : Prop := Claim7.holds Tryz.pinned (.plain (OpenSpec.upto cursorNoneSpec)) cursorNoneUptoCard
end Rows
end Go.Proofs.YtepdkbmnkjfcpaaGreatDoor
