/-
  DERIVED. GIVEN WITH THE SEED: THE CARDS: each row of YtcibkdbpicledaaGreatDoorRows.lean that lists a variable, with what it lists TIED to the program's text (the seventh form; the later family's looks); each row that meets fmt, with fmt's text TOLD by the authors' own Lean function (tested against real Go, not proved from fmt's source: count such statements apart). THE CARD IS WHAT COUNTS. Prove the row's statement (the work); the ties are given (YtcibkdbpicledaaGreatDoorTie.lean); close each card by the builder's one call (the guide's Derived/Test/ToyasCard.lean, 'card_holds'). Laid BY PROGRAM, IN A SANDBOX (cutbox-door.mjs). By AI agents, Wed Nov 11 2026. No macro, syntax, notation, axiom, sorry.
-/
import Derived.Test.YtcibkdbpicledaaGreatDoorRows
import GoSem.ClaimSeven
namespace Go.Proofs.YtcibkdbpicledaaGreatDoor
namespace Rows

/-- THE TIED CARD OF 'loftlaw20.OmapNear'. -/
def omapNearCard : Claim7 := { stood := { row := omapNearRow, standIns := [], harness := (true, "501fe5c62b583bc0947045b746384f0f200a3a3ce37a46b716acef8c18e5ba17"), looks := false }, kinds := [], alts := [], laidByText := true, laidKinds := [.data], laidTests := true, laidLooks := .later }
def OmapNearCardSaid : Prop := Claim7.holds Tryz.pinned (.plain (OpenSpec.ofChange omapNearSpec)) omapNearCard

/-- THE TIED CARD OF 'loftlaw20.OmapOver'. -/
def omapOverCard : Claim7 := { stood := { row := omapOverRow, standIns := [], harness := (true, "501fe5c62b583bc0947045b746384f0f200a3a3ce37a46b716acef8c18e5ba17"), looks := false }, kinds := [], alts := [], laidByText := true, laidKinds := [.data], laidTests := true, laidLooks := .later }
def OmapOverCardSaid : Prop := Claim7.holds Tryz.pinned (.plain (OpenSpec.ofChange omapOverSpec)) omapOverCard

/-- THE TIED CARD OF 'loftlaw20.OmapLimit'. -/
def omapLimitCard : Claim7 := { stood := { row := omapLimitRow, standIns := [], harness := (true, "501fe5c62b583bc0947045b746384f0f200a3a3ce37a46b716acef8c18e5ba17"), looks := false }, kinds := [], alts := [], laidByText := true, laidKinds := [.data], laidTests := true, laidLooks := .later }
def OmapLimitCardSaid : Prop := Claim7.holds Tryz.pinned (.plain (OpenSpec.ofChange omapLimitSpec)) omapLimitCard

/-- THE TIED CARD OF 'loftlaw21.SpanTells'. -/
def spanTellsCard : Claim7 := { stood := { row := spanTellsRow, standIns := [], harness := (true, "501fe5c62b583bc0947045b746384f0f200a3a3ce37a46b716acef8c18e5ba17"), looks := false }, kinds := [], alts := [], laidByText := true, laidKinds := [.data], laidTests := true, laidLooks := .later }
def SpanTellsCardSaid : Prop := Claim7.holds Tryz.pinned (.plain (OpenSpec.ofChange spanTellsSpec)) spanTellsCard

/-- THE TIED CARD OF 'loftlaw21.SpanParts'. -/
def spanPartsCard : Claim7 := { stood := { row := spanPartsRow, standIns := [], harness := (true, "501fe5c62b583bc0947045b746384f0f200a3a3ce37a46b716acef8c18e5ba17"), looks := false }, kinds := [], alts := [], laidByText := true, laidKinds := [.data], laidTests := true, laidLooks := .later }
def SpanPartsCardSaid : Prop := Claim7.holds Tryz.pinned (.plain (OpenSpec.ofChange spanPartsSpec)) spanPartsCard

/-- THE TIED CARD OF 'loftlaw21.SpanMost'. -/
def spanMostCard : Claim7 := { stood := { row := spanMostRow, standIns := [], harness := (true, "501fe5c62b583bc0947045b746384f0f200a3a3ce37a46b716acef8c18e5ba17"), looks := false }, kinds := [], alts := [], laidByText := true, laidKinds := [.data], laidTests := true, laidLooks := .later }
def SpanMostCardSaid : Prop := Claim7.holds Tryz.pinned (.plain (OpenSpec.ofChange spanMostSpec)) spanMostCard

/-- THE TIED CARD OF 'loftlaw23.CursorTurn'. -/
def cursorTurnCard : Claim7 := { stood := { row := cursorTurnRow, standIns := [], harness := (true, "501fe5c62b583bc0947045b746384f0f200a3a3ce37a46b716acef8c18e5ba17"), looks := false }, kinds := [], alts := [], laidByText := true, laidKinds := [.data], laidTests := true, laidLooks := .later }
def CursorTurnCardSaid : Prop := Claim7.holds Tryz.pinned (.plain (OpenSpec.ofChange cursorTurnSpec)) cursorTurnCard

/-- THE TIED CARD OF 'loftlaw23.CursorTwo'. -/
def cursorTwoCard : Claim7 := { stood := { row := cursorTwoRow, standIns := [], harness := (true, "501fe5c62b583bc0947045b746384f0f200a3a3ce37a46b716acef8c18e5ba17"), looks := false }, kinds := [], alts := [], laidByText := true, laidKinds := [.data], laidTests := true, laidLooks := .later }
def CursorTwoCardSaid : Prop := Claim7.holds Tryz.pinned (.plain (OpenSpec.ofChange cursorTwoSpec)) cursorTwoCard

/-- THE SECOND FORM's CARD OF 'loftlaw20.OmapNear'. -/
def omapNearUptoCard : Claim7 := { stood := { row := omapNearUptoRow, standIns := [], harness := (true, "501fe5c62b583bc0947045b746384f0f200a3a3ce37a46b716acef8c18e5ba17"), looks := false }, kinds := [], alts := [], laidByText := true, laidKinds := [.data], laidTests := true, laidLooks := .later }
def OmapNearUptoCardSaid : Prop := Claim7.holds Tryz.pinned (.plain (OpenSpec.upto omapNearSpec)) omapNearUptoCard

/-- THE SECOND FORM's CARD OF 'loftlaw20.OmapOver'. -/
def omapOverUptoCard : Claim7 := { stood := { row := omapOverUptoRow, standIns := [], harness := (true, "501fe5c62b583bc0947045b746384f0f200a3a3ce37a46b716acef8c18e5ba17"), looks := false }, kinds := [], alts := [], laidByText := true, laidKinds := [.data], laidTests := true, laidLooks := .later }
def OmapOverUptoCardSaid : Prop := Claim7.holds Tryz.pinned (.plain (OpenSpec.upto omapOverSpec)) omapOverUptoCard

/-- THE SECOND FORM's CARD OF 'loftlaw20.OmapLimit'. -/
def omapLimitUptoCard : Claim7 := { stood := { row := omapLimitUptoRow, standIns := [], harness := (true, "501fe5c62b583bc0947045b746384f0f200a3a3ce37a46b716acef8c18e5ba17"), looks := false }, kinds := [], alts := [], laidByText := true, laidKinds := [.data], laidTests := true, laidLooks := .later }
def OmapLimitUptoCardSaid : Prop := Claim7.holds Tryz.pinned (.plain (OpenSpec.upto omapLimitSpec)) omapLimitUptoCard

/-- THE SECOND FORM's CARD OF 'loftlaw21.SpanTells'. -/
def spanTellsUptoCard : Claim7 := { stood := { row := spanTellsUptoRow, standIns := [], harness := (true, "501fe5c62b583bc0947045b746384f0f200a3a3ce37a46b716acef8c18e5ba17"), looks := false }, kinds := [], alts := [], laidByText := true, laidKinds := [.data], laidTests := true, laidLooks := .later }
def SpanTellsUptoCardSaid : Prop := Claim7.holds Tryz.pinned (.plain (OpenSpec.upto spanTellsSpec)) spanTellsUptoCard

/-- THE SECOND FORM's CARD OF 'loftlaw21.SpanParts'. -/
def spanPartsUptoCard : Claim7 := { stood := { row := spanPartsUptoRow, standIns := [], harness := (true, "501fe5c62b583bc0947045b746384f0f200a3a3ce37a46b716acef8c18e5ba17"), looks := false }, kinds := [], alts := [], laidByText := true, laidKinds := [.data], laidTests := true, laidLooks := .later }
def SpanPartsUptoCardSaid : Prop := Claim7.holds Tryz.pinned (.plain (OpenSpec.upto spanPartsSpec)) spanPartsUptoCard

/-- THE SECOND FORM's CARD OF 'loftlaw21.SpanMost'. -/
def spanMostUptoCard : Claim7 := { stood := { row := spanMostUptoRow, standIns := [], harness := (true, "501fe5c62b583bc0947045b746384f0f200a3a3ce37a46b716acef8c18e5ba17"), looks := false }, kinds := [], alts := [], laidByText := true, laidKinds := [.data], laidTests := true, laidLooks := .later }
def SpanMostUptoCardSaid : Prop := Claim7.holds Tryz.pinned (.plain (OpenSpec.upto spanMostSpec)) spanMostUptoCard

/-- THE SECOND FORM's CARD OF 'loftlaw23.CursorTurn'. -/
def cursorTurnUptoCard : Claim7 := { stood := { row := cursorTurnUptoRow, standIns := [], harness := (true, "501fe5c62b583bc0947045b746384f0f200a3a3ce37a46b716acef8c18e5ba17"), looks := false }, kinds := [], alts := [], laidByText := true, laidKinds := [.data], laidTests := true, laidLooks := .later }
def CursorTurnUptoCardSaid : Prop := Claim7.holds Tryz.pinned (.plain (OpenSpec.upto cursorTurnSpec)) cursorTurnUptoCard

/-- THE SECOND FORM's CARD OF 'loftlaw23.CursorTwo'. -/
def cursorTwoUptoCard : Claim7 := { stood := { row := cursorTwoUptoRow, standIns := [], harness := (true, "501fe5c62b583bc0947045b746384f0f200a3a3ce37a46b716acef8c18e5ba17"), looks := false }, kinds := [], alts := [], laidByText := true, laidKinds := [.data], laidTests := true, laidLooks := .later }
def CursorTwoUptoCardSaid : Prop := Claim7.holds Tryz.pinned (.plain (OpenSpec.upto cursorTwoSpec)) cursorTwoUptoCard
end Rows
end Go.Proofs.YtcibkdbpicledaaGreatDoor
