/-
  DERIVED. GIVEN WITH THE SEED: THE CARDS: each row of YtpljannolpapgaaGreatDoorRows.lean that lists a variable, with what it lists TIED to the program's text (the seventh form; the later family's looks); each row that meets fmt, with fmt's text TOLD by the authors' own Lean function (tested against real Go, not proved from fmt's source: count such statements apart). THE CARD IS WHAT COUNTS. Prove the row's statement (the work); the ties are given (YtpljannolpapgaaGreatDoorTie.lean); close each card by the builder's one call (the guide's Derived/Test/ToyasCard.lean, 'card_holds'). Laid BY PROGRAM, IN A SANDBOX (cutbox-door.mjs). By AI agents, Wed Nov 11 2026. No macro, syntax, notation, axiom, sorry.
-/
import Derived.Test.YtpljannolpapgaaGreatDoorRows
import GoSem.ClaimSeven
namespace Go.Proofs.YtpljannolpapgaaGreatDoor
namespace Rows

/-- THE TIED CARD OF 'loftlaw19.BackendNear'. -/
def backendNearCard : Claim7 := { stood := { row := backendNearRow, standIns := [], harness := (true, "50dd867a4a864633e8e6038117b4559ba706633593ea6b23486374b995f06bc9"), looks := true }, kinds := [], alts := [], laidByText := true, laidKinds := [.data], laidTests := true, laidLooks := .later }
def BackendNearCardSaid : Prop := Claim7.holds Tryz.pinned (.plain (OpenSpec.ofChange backendNearSpec)) backendNearCard

/-- THE TIED CARD OF 'loftlaw20.OmapOf'. -/
def omapOfCard : Claim7 := { stood := { row := omapOfRow, standIns := [], harness := (true, "50dd867a4a864633e8e6038117b4559ba706633593ea6b23486374b995f06bc9"), looks := true }, kinds := [], alts := [], laidByText := true, laidKinds := [.data], laidTests := true, laidLooks := .later }
def OmapOfCardSaid : Prop := Claim7.holds Tryz.pinned (.plain (OpenSpec.ofChange omapOfSpec)) omapOfCard

/-- THE TIED CARD OF 'loftlaw24.ReachLost'. -/
def reachLostCard : Claim7 := { stood := { row := reachLostRow, standIns := [], harness := (true, "50dd867a4a864633e8e6038117b4559ba706633593ea6b23486374b995f06bc9"), looks := true }, kinds := [], alts := [], laidByText := true, laidKinds := [.data], laidTests := true, laidLooks := .later }
def ReachLostCardSaid : Prop := Claim7.holds Tryz.pinned (.plain (OpenSpec.ofChange reachLostSpec)) reachLostCard

/-- THE TIED CARD OF 'loftlaw24.ReachOther'. -/
def reachOtherCard : Claim7 := { stood := { row := reachOtherRow, standIns := [], harness := (true, "50dd867a4a864633e8e6038117b4559ba706633593ea6b23486374b995f06bc9"), looks := true }, kinds := [], alts := [], laidByText := true, laidKinds := [.data], laidTests := true, laidLooks := .later }
def ReachOtherCardSaid : Prop := Claim7.holds Tryz.pinned (.plain (OpenSpec.ofChange reachOtherSpec)) reachOtherCard

/-- THE TIED CARD OF 'loftlaw24.ReachErrors'. -/
def reachErrorsCard : Claim7 := { stood := { row := reachErrorsRow, standIns := [], harness := (true, "50dd867a4a864633e8e6038117b4559ba706633593ea6b23486374b995f06bc9"), looks := true }, kinds := [], alts := [], laidByText := true, laidKinds := [.data], laidTests := true, laidLooks := .later }
def ReachErrorsCardSaid : Prop := Claim7.holds Tryz.pinned (.plain (OpenSpec.ofChange reachErrorsSpec)) reachErrorsCard

/-- THE TIED CARD OF 'loftlaw24.ReachCounts'. -/
def reachCountsCard : Claim7 := { stood := { row := reachCountsRow, standIns := [], harness := (true, "50dd867a4a864633e8e6038117b4559ba706633593ea6b23486374b995f06bc9"), looks := true }, kinds := [], alts := [], laidByText := true, laidKinds := [.data], laidTests := true, laidLooks := .later }
def ReachCountsCardSaid : Prop := Claim7.holds Tryz.pinned (.plain (OpenSpec.ofChange reachCountsSpec)) reachCountsCard

/-- THE SECOND FORM's CARD OF 'loftlaw19.BackendNear'. -/
def backendNearUptoCard : Claim7 := { stood := { row := backendNearUptoRow, standIns := [], harness := (true, "50dd867a4a864633e8e6038117b4559ba706633593ea6b23486374b995f06bc9"), looks := true }, kinds := [], alts := [], laidByText := true, laidKinds := [.data], laidTests := true, laidLooks := .later }
def BackendNearUptoCardSaid : Prop := Claim7.holds Tryz.pinned (.plain (OpenSpec.upto backendNearSpec)) backendNearUptoCard

/-- THE SECOND FORM's CARD OF 'loftlaw20.OmapOf'. -/
def omapOfUptoCard : Claim7 := { stood := { row := omapOfUptoRow, standIns := [], harness := (true, "50dd867a4a864633e8e6038117b4559ba706633593ea6b23486374b995f06bc9"), looks := true }, kinds := [], alts := [], laidByText := true, laidKinds := [.data], laidTests := true, laidLooks := .later }
def OmapOfUptoCardSaid : Prop := Claim7.holds Tryz.pinned (.plain (OpenSpec.upto omapOfSpec)) omapOfUptoCard

/-- THE SECOND FORM's CARD OF 'loftlaw24.ReachLost'. -/
def reachLostUptoCard : Claim7 := { stood := { row := reachLostUptoRow, standIns := [], harness := (true, "50dd867a4a864633e8e6038117b4559ba706633593ea6b23486374b995f06bc9"), looks := true }, kinds := [], alts := [], laidByText := true, laidKinds := [.data], laidTests := true, laidLooks := .later }
def ReachLostUptoCardSaid : Prop := Claim7.holds Tryz.pinned (.plain (OpenSpec.upto reachLostSpec)) reachLostUptoCard

/-- THE SECOND FORM's CARD OF 'loftlaw24.ReachOther'. -/
def reachOtherUptoCard : Claim7 := { stood := { row := reachOtherUptoRow, standIns := [], harness := (true, "50dd867a4a864633e8e6038117b4559ba706633593ea6b23486374b995f06bc9"), looks := true }, kinds := [], alts := [], laidByText := true, laidKinds := [.data], laidTests := true, laidLooks := .later }
def ReachOtherUptoCardSaid : Prop := Claim7.holds Tryz.pinned (.plain (OpenSpec.upto reachOtherSpec)) reachOtherUptoCard

/-- THE SECOND FORM's CARD OF 'loftlaw24.ReachErrors'. -/
def reachErrorsUptoCard : Claim7 := { stood := { row := reachErrorsUptoRow, standIns := [], harness := (true, "50dd867a4a864633e8e6038117b4559ba706633593ea6b23486374b995f06bc9"), looks := true }, kinds := [], alts := [], laidByText := true, laidKinds := [.data], laidTests := true, laidLooks := .later }
def ReachErrorsUptoCardSaid : Prop := Claim7.holds Tryz.pinned (.plain (OpenSpec.upto reachErrorsSpec)) reachErrorsUptoCard

/-- THE SECOND FORM's CARD OF 'loftlaw24.ReachCounts'. -/
def reachCountsUptoCard : Claim7 := { stood := { row := reachCountsUptoRow, standIns := [], harness := (true, "50dd867a4a864633e8e6038117b4559ba706633593ea6b23486374b995f06bc9"), looks := true }, kinds := [], alts := [], laidByText := true, laidKinds := [.data], laidTests := true, laidLooks := .later }
def ReachCountsUptoCardSaid : Prop := Claim7.holds Tryz.pinned (.plain (OpenSpec.upto reachCountsSpec)) reachCountsUptoCard
end Rows
end Go.Proofs.YtpljannolpapgaaGreatDoor
