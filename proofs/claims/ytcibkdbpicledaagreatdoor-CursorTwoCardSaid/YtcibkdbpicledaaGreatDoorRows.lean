/-
  NARROWER THAN 'FOR EVERY INPUT', by the rows' own cells (each row's printed sentence says how): OmapNear: laid · OmapOver: laid · OmapLimit: laid · SpanTells: laid · SpanParts: laid · SpanMost: laid · CursorTurn: laid · CursorTwo: laid.
  DERIVED. THE GIVEN ROWS OF THIS SEAT. 8 by the template 'for every input the law returns true; each argument reads behind the call as it read before'; 0 by the template 'total and deterministic' (their statements: YtcibkdbpicledaaGreatDoorTotals.lean).
  GIVEN WITH THE SEED: the statements are not yours to turn. If you find one false, say at which input.
  Laid BY PROGRAM, IN A SANDBOX (cutbox-rows.mjs): the forced cells as the released guide's own fill.sh prints them over the translation 58ccabab88af680a… (all of the seat's roots in one cut). By AI agents, Wed Nov 11 2026. No macro, syntax, notation, axiom, sorry.
-/
import Derived.Test.YtcibkdbpicledaaGreatDoorChecked
import GoSem.Claim
import GoSem.ClaimJoined
import GoSem.ClaimMapViews
import Derived.JoinedTies
import Derived.KernelRfl
namespace Go.Proofs.YtcibkdbpicledaaGreatDoor
/- THE CELL 'sum', in the pinned program and in every row, IS THE sha256 OF THE DUMP (.gsa) THAT YtcibkdbpicledaaGreatDoorProg.lean LOADS. Nothing in Lean hashes anything: it is a label: what it is worth is what the hold of that sum in a sandbox is worth. -/
noncomputable def Tryz.pinned : Pinned := { name := "ytcibkdbpicledaagreatdoor", sum := "58ccabab88af680a5c332000b64a89fd41a89bd2aa31a29d5adf4b928af335ed", checked := Tryz.checked }
namespace Rows
def none {H : Type} : Left H := { results := [], args := [] }

/- WHAT THE LISTED PACKAGE-LEVEL VARIABLES READ AS WHEN THE CALL BEGINS. Each datum BY PROGRAM (the guide's laid-datum.mjs) off the statement by which the dump's own 'gosem.cut.vars' lays the variable. In a bare row this is a premise. The card (YtcibkdbpicledaaGreatDoorCards.lean) ties it to the program's text. -/
def laid_math_bits_deBruijn64tab {H : Type} : DataW H := .agg [.lit (.int .u8 0), .lit (.int .u8 1), .lit (.int .u8 56), .lit (.int .u8 2), .lit (.int .u8 57), .lit (.int .u8 49), .lit (.int .u8 28), .lit (.int .u8 3), .lit (.int .u8 61), .lit (.int .u8 58), .lit (.int .u8 42), .lit (.int .u8 50), .lit (.int .u8 38), .lit (.int .u8 29), .lit (.int .u8 17), .lit (.int .u8 4), .lit (.int .u8 62), .lit (.int .u8 47), .lit (.int .u8 59), .lit (.int .u8 36), .lit (.int .u8 45), .lit (.int .u8 43), .lit (.int .u8 51), .lit (.int .u8 22), .lit (.int .u8 53), .lit (.int .u8 39), .lit (.int .u8 33), .lit (.int .u8 30), .lit (.int .u8 24), .lit (.int .u8 18), .lit (.int .u8 12), .lit (.int .u8 5), .lit (.int .u8 63), .lit (.int .u8 55), .lit (.int .u8 48), .lit (.int .u8 27), .lit (.int .u8 60), .lit (.int .u8 41), .lit (.int .u8 37), .lit (.int .u8 16), .lit (.int .u8 46), .lit (.int .u8 35), .lit (.int .u8 44), .lit (.int .u8 21), .lit (.int .u8 52), .lit (.int .u8 32), .lit (.int .u8 23), .lit (.int .u8 11), .lit (.int .u8 54), .lit (.int .u8 26), .lit (.int .u8 40), .lit (.int .u8 15), .lit (.int .u8 34), .lit (.int .u8 20), .lit (.int .u8 31), .lit (.int .u8 10), .lit (.int .u8 25), .lit (.int .u8 14), .lit (.int .u8 19), .lit (.int .u8 9), .lit (.int .u8 13), .lit (.int .u8 8), .lit (.int .u8 7), .lit (.int .u8 6)]

/-- 'loftlaw20.OmapNear': WHATEVER THE INPUT: true; the input reads as it did. -/
def omapNearSpec : ChangeSpec := { name := "omapNear", fn := fun _ => fun
  | [d1, d2, d3, d4] => { results := [.lit (.bool true)], args := [d1, d2, d3, d4] }
  | _ => none }
def omapNearRow : OpenClaim := { program := "ytcibkdbpicledaagreatdoor", sum := "58ccabab88af680a5c332000b64a89fd41a89bd2aa31a29d5adf4b928af335ed", func := "loft/loftlaw20.OmapNear", spec := "omapNear", inPlace := ["internal/bytealg.abigen_runtime_cmpstring"], unfollowed := true, recurses := true, named := ["math/bits.deBruijn64tab"], apart := false, laid := [("math/bits.deBruijn64tab", laid_math_bits_deBruijn64tab)] }
def OmapNearSaid : Prop := omapNearRow.holds Tryz.pinned (OpenSpec.ofChange omapNearSpec)

/-- ITS FALSE NEIGHBOUR: 'it returns false'. Refute it at one input. -/
def omapNearWrong : ChangeSpec := { name := "omapNear", fn := fun _ => fun
  | [d1, d2, d3, d4] => { results := [.lit (.bool false)], args := [d1, d2, d3, d4] }
  | _ => none }
def OmapNearWrongFalsely : Prop := omapNearRow.holds Tryz.pinned (OpenSpec.ofChange omapNearWrong)

/-- 'loftlaw20.OmapOver': WHATEVER THE INPUT: true; the input reads as it did. -/
def omapOverSpec : ChangeSpec := { name := "omapOver", fn := fun _ => fun
  | [d1, d2, d3, d4, d5] => { results := [.lit (.bool true)], args := [d1, d2, d3, d4, d5] }
  | _ => none }
def omapOverRow : OpenClaim := { program := "ytcibkdbpicledaagreatdoor", sum := "58ccabab88af680a5c332000b64a89fd41a89bd2aa31a29d5adf4b928af335ed", func := "loft/loftlaw20.OmapOver", spec := "omapOver", inPlace := ["internal/bytealg.abigen_runtime_cmpstring"], unfollowed := true, recurses := true, named := ["math/bits.deBruijn64tab"], apart := false, laid := [("math/bits.deBruijn64tab", laid_math_bits_deBruijn64tab)] }
def OmapOverSaid : Prop := omapOverRow.holds Tryz.pinned (OpenSpec.ofChange omapOverSpec)

/-- ITS FALSE NEIGHBOUR: 'it returns false'. Refute it at one input. -/
def omapOverWrong : ChangeSpec := { name := "omapOver", fn := fun _ => fun
  | [d1, d2, d3, d4, d5] => { results := [.lit (.bool false)], args := [d1, d2, d3, d4, d5] }
  | _ => none }
def OmapOverWrongFalsely : Prop := omapOverRow.holds Tryz.pinned (OpenSpec.ofChange omapOverWrong)

/-- 'loftlaw20.OmapLimit': WHATEVER THE INPUT: true; the input reads as it did. -/
def omapLimitSpec : ChangeSpec := { name := "omapLimit", fn := fun _ => fun
  | [d1, d2, d3, d4] => { results := [.lit (.bool true)], args := [d1, d2, d3, d4] }
  | _ => none }
def omapLimitRow : OpenClaim := { program := "ytcibkdbpicledaagreatdoor", sum := "58ccabab88af680a5c332000b64a89fd41a89bd2aa31a29d5adf4b928af335ed", func := "loft/loftlaw20.OmapLimit", spec := "omapLimit", inPlace := ["internal/bytealg.abigen_runtime_cmpstring"], unfollowed := true, recurses := true, named := ["math/bits.deBruijn64tab"], apart := false, laid := [("math/bits.deBruijn64tab", laid_math_bits_deBruijn64tab)] }
def OmapLimitSaid : Prop := omapLimitRow.holds Tryz.pinned (OpenSpec.ofChange omapLimitSpec)

/-- ITS FALSE NEIGHBOUR: 'it returns false'. Refute it at one input. -/
def omapLimitWrong : ChangeSpec := { name := "omapLimit", fn := fun _ => fun
  | [d1, d2, d3, d4] => { results := [.lit (.bool false)], args := [d1, d2, d3, d4] }
  | _ => none }
def OmapLimitWrongFalsely : Prop := omapLimitRow.holds Tryz.pinned (OpenSpec.ofChange omapLimitWrong)

/-- 'loftlaw21.SpanTells': WHATEVER THE INPUT: true; the input reads as it did. -/
def spanTellsSpec : ChangeSpec := { name := "spanTells", fn := fun _ => fun
  | [d1, d2, d3, d4] => { results := [.lit (.bool true)], args := [d1, d2, d3, d4] }
  | _ => none }
def spanTellsRow : OpenClaim := { program := "ytcibkdbpicledaagreatdoor", sum := "58ccabab88af680a5c332000b64a89fd41a89bd2aa31a29d5adf4b928af335ed", func := "loft/loftlaw21.SpanTells", spec := "spanTells", inPlace := ["internal/bytealg.abigen_runtime_cmpstring"], unfollowed := true, recurses := true, named := ["math/bits.deBruijn64tab"], apart := false, laid := [("math/bits.deBruijn64tab", laid_math_bits_deBruijn64tab)] }
def SpanTellsSaid : Prop := spanTellsRow.holds Tryz.pinned (OpenSpec.ofChange spanTellsSpec)

/-- ITS FALSE NEIGHBOUR: 'it returns false'. Refute it at one input. -/
def spanTellsWrong : ChangeSpec := { name := "spanTells", fn := fun _ => fun
  | [d1, d2, d3, d4] => { results := [.lit (.bool false)], args := [d1, d2, d3, d4] }
  | _ => none }
def SpanTellsWrongFalsely : Prop := spanTellsRow.holds Tryz.pinned (OpenSpec.ofChange spanTellsWrong)

/-- 'loftlaw21.SpanParts': WHATEVER THE INPUT: true; the input reads as it did. -/
def spanPartsSpec : ChangeSpec := { name := "spanParts", fn := fun _ => fun
  | [d1, d2, d3, d4, d5] => { results := [.lit (.bool true)], args := [d1, d2, d3, d4, d5] }
  | _ => none }
def spanPartsRow : OpenClaim := { program := "ytcibkdbpicledaagreatdoor", sum := "58ccabab88af680a5c332000b64a89fd41a89bd2aa31a29d5adf4b928af335ed", func := "loft/loftlaw21.SpanParts", spec := "spanParts", inPlace := ["internal/bytealg.abigen_runtime_cmpstring"], unfollowed := true, recurses := true, named := ["math/bits.deBruijn64tab"], apart := false, laid := [("math/bits.deBruijn64tab", laid_math_bits_deBruijn64tab)] }
def SpanPartsSaid : Prop := spanPartsRow.holds Tryz.pinned (OpenSpec.ofChange spanPartsSpec)

/-- ITS FALSE NEIGHBOUR: 'it returns false'. Refute it at one input. -/
def spanPartsWrong : ChangeSpec := { name := "spanParts", fn := fun _ => fun
  | [d1, d2, d3, d4, d5] => { results := [.lit (.bool false)], args := [d1, d2, d3, d4, d5] }
  | _ => none }
def SpanPartsWrongFalsely : Prop := spanPartsRow.holds Tryz.pinned (OpenSpec.ofChange spanPartsWrong)

/-- 'loftlaw21.SpanMost': WHATEVER THE INPUT: true; the input reads as it did. -/
def spanMostSpec : ChangeSpec := { name := "spanMost", fn := fun _ => fun
  | [d1, d2, d3, d4, d5, d6] => { results := [.lit (.bool true)], args := [d1, d2, d3, d4, d5, d6] }
  | _ => none }
def spanMostRow : OpenClaim := { program := "ytcibkdbpicledaagreatdoor", sum := "58ccabab88af680a5c332000b64a89fd41a89bd2aa31a29d5adf4b928af335ed", func := "loft/loftlaw21.SpanMost", spec := "spanMost", inPlace := ["internal/bytealg.abigen_runtime_cmpstring"], unfollowed := true, recurses := true, named := ["math/bits.deBruijn64tab"], apart := false, laid := [("math/bits.deBruijn64tab", laid_math_bits_deBruijn64tab)] }
def SpanMostSaid : Prop := spanMostRow.holds Tryz.pinned (OpenSpec.ofChange spanMostSpec)

/-- ITS FALSE NEIGHBOUR: 'it returns false'. Refute it at one input. -/
def spanMostWrong : ChangeSpec := { name := "spanMost", fn := fun _ => fun
  | [d1, d2, d3, d4, d5, d6] => { results := [.lit (.bool false)], args := [d1, d2, d3, d4, d5, d6] }
  | _ => none }
def SpanMostWrongFalsely : Prop := spanMostRow.holds Tryz.pinned (OpenSpec.ofChange spanMostWrong)

/-- 'loftlaw23.CursorTurn': WHATEVER THE INPUT: true; the input reads as it did. -/
def cursorTurnSpec : ChangeSpec := { name := "cursorTurn", fn := fun _ => fun
  | [d1, d2, d3] => { results := [.lit (.bool true)], args := [d1, d2, d3] }
  | _ => none }
def cursorTurnRow : OpenClaim := { program := "ytcibkdbpicledaagreatdoor", sum := "58ccabab88af680a5c332000b64a89fd41a89bd2aa31a29d5adf4b928af335ed", func := "loft/loftlaw23.CursorTurn", spec := "cursorTurn", inPlace := ["internal/bytealg.abigen_runtime_cmpstring"], unfollowed := true, recurses := true, named := ["math/bits.deBruijn64tab"], apart := false, laid := [("math/bits.deBruijn64tab", laid_math_bits_deBruijn64tab)] }
def CursorTurnSaid : Prop := cursorTurnRow.holds Tryz.pinned (OpenSpec.ofChange cursorTurnSpec)

/-- ITS FALSE NEIGHBOUR: 'it returns false'. Refute it at one input. -/
def cursorTurnWrong : ChangeSpec := { name := "cursorTurn", fn := fun _ => fun
  | [d1, d2, d3] => { results := [.lit (.bool false)], args := [d1, d2, d3] }
  | _ => none }
def CursorTurnWrongFalsely : Prop := cursorTurnRow.holds Tryz.pinned (OpenSpec.ofChange cursorTurnWrong)

/-- 'loftlaw23.CursorTwo': WHATEVER THE INPUT: true; the input reads as it did. -/
def cursorTwoSpec : ChangeSpec := { name := "cursorTwo", fn := fun _ => fun
  | [d1, d2, d3, d4, d5] => { results := [.lit (.bool true)], args := [d1, d2, d3, d4, d5] }
  | _ => none }
def cursorTwoRow : OpenClaim := { program := "ytcibkdbpicledaagreatdoor", sum := "58ccabab88af680a5c332000b64a89fd41a89bd2aa31a29d5adf4b928af335ed", func := "loft/loftlaw23.CursorTwo", spec := "cursorTwo", inPlace := ["internal/bytealg.abigen_runtime_cmpstring"], unfollowed := true, recurses := true, named := ["math/bits.deBruijn64tab"], apart := false, laid := [("math/bits.deBruijn64tab", laid_math_bits_deBruijn64tab)] }
def CursorTwoSaid : Prop := cursorTwoRow.holds Tryz.pinned (OpenSpec.ofChange cursorTwoSpec)

/-- ITS FALSE NEIGHBOUR: 'it returns false'. Refute it at one input. -/
def cursorTwoWrong : ChangeSpec := { name := "cursorTwo", fn := fun _ => fun
  | [d1, d2, d3, d4, d5] => { results := [.lit (.bool false)], args := [d1, d2, d3, d4, d5] }
  | _ => none }
def CursorTwoWrongFalsely : Prop := cursorTwoRow.holds Tryz.pinned (OpenSpec.ofChange cursorTwoWrong)

/- THE SECOND FORM. 'bulk': how many values and letters a reading holds, each counted each time it is reached (what is shared counts as often as it is met; a slice's spare places count too). A statement '..UptoSaid' is the law's where the arguments, and the package variables that the reading takes, are together of bulk at most 1048576: NARROWER than '..Said'. Prove '..Said' where nothing that the law and all that it calls make is longer than what came in: it says more and counts as full. Else prove '..UptoSaid'. A law counts once. -/
mutual
def uptoBulk {H : Type} : DataW H → Nat
  | .lit (.string bytes) => bytes.length + 1
  | .lit _ => 1
  | .nil => 1
  | .ptr d => uptoBulk d + 1
  | .slice elems spare => uptoBulkAll elems + uptoBulkAll spare + 1
  | .agg parts => uptoBulkAll parts + 1
  | .iface _ d => uptoBulk d + 1
  | .map entries => uptoBulkEntries entries + 1
  | .held _ => 1
def uptoBulkAll {H : Type} : List (DataW H) → Nat
  | [] => 0
  | d :: r => uptoBulk d + uptoBulkAll r
def uptoBulkEntries {H : Type} : List (Lit × DataW H) → Nat
  | [] => 0
  | x :: r => uptoBulkEntry x + uptoBulkEntries r
def uptoBulkEntry {H : Type} : Lit × DataW H → Nat
  | (.string bytes, d) => bytes.length + uptoBulk d + 1
  | (_, d) => uptoBulk d + 1
 end
def uptoSmall : (H : Type) → List (DataW H) → Bool := fun _ ds => decide (uptoBulkAll ds ≤ 1048576)
def OpenSpec.upto (s : _root_.Go.ChangeSpec) : _root_.Go.OpenSpec := { _root_.Go.OpenSpec.ofChange s with cond := some uptoSmall }

/-- 'loftlaw20.OmapNear', WHERE WHAT IT READS IS OF BULK AT MOST 1048576: true; the input reads as it did. -/
def omapNearUptoRow : OpenClaim := { program := "ytcibkdbpicledaagreatdoor", sum := "58ccabab88af680a5c332000b64a89fd41a89bd2aa31a29d5adf4b928af335ed", func := "loft/loftlaw20.OmapNear", spec := "omapNear", inPlace := ["internal/bytealg.abigen_runtime_cmpstring"], unfollowed := true, recurses := true, named := ["math/bits.deBruijn64tab"], apart := false, laid := [("math/bits.deBruijn64tab", laid_math_bits_deBruijn64tab)], narrowed := true }
def OmapNearUptoSaid : Prop := omapNearUptoRow.holds Tryz.pinned (OpenSpec.upto omapNearSpec)

/-- 'loftlaw20.OmapOver', WHERE WHAT IT READS IS OF BULK AT MOST 1048576: true; the input reads as it did. -/
def omapOverUptoRow : OpenClaim := { program := "ytcibkdbpicledaagreatdoor", sum := "58ccabab88af680a5c332000b64a89fd41a89bd2aa31a29d5adf4b928af335ed", func := "loft/loftlaw20.OmapOver", spec := "omapOver", inPlace := ["internal/bytealg.abigen_runtime_cmpstring"], unfollowed := true, recurses := true, named := ["math/bits.deBruijn64tab"], apart := false, laid := [("math/bits.deBruijn64tab", laid_math_bits_deBruijn64tab)], narrowed := true }
def OmapOverUptoSaid : Prop := omapOverUptoRow.holds Tryz.pinned (OpenSpec.upto omapOverSpec)

/-- 'loftlaw20.OmapLimit', WHERE WHAT IT READS IS OF BULK AT MOST 1048576: true; the input reads as it did. -/
def omapLimitUptoRow : OpenClaim := { program := "ytcibkdbpicledaagreatdoor", sum := "58ccabab88af680a5c332000b64a89fd41a89bd2aa31a29d5adf4b928af335ed", func := "loft/loftlaw20.OmapLimit", spec := "omapLimit", inPlace := ["internal/bytealg.abigen_runtime_cmpstring"], unfollowed := true, recurses := true, named := ["math/bits.deBruijn64tab"], apart := false, laid := [("math/bits.deBruijn64tab", laid_math_bits_deBruijn64tab)], narrowed := true }
def OmapLimitUptoSaid : Prop := omapLimitUptoRow.holds Tryz.pinned (OpenSpec.upto omapLimitSpec)

/-- 'loftlaw21.SpanTells', WHERE WHAT IT READS IS OF BULK AT MOST 1048576: true; the input reads as it did. -/
def spanTellsUptoRow : OpenClaim := { program := "ytcibkdbpicledaagreatdoor", sum := "58ccabab88af680a5c332000b64a89fd41a89bd2aa31a29d5adf4b928af335ed", func := "loft/loftlaw21.SpanTells", spec := "spanTells", inPlace := ["internal/bytealg.abigen_runtime_cmpstring"], unfollowed := true, recurses := true, named := ["math/bits.deBruijn64tab"], apart := false, laid := [("math/bits.deBruijn64tab", laid_math_bits_deBruijn64tab)], narrowed := true }
def SpanTellsUptoSaid : Prop := spanTellsUptoRow.holds Tryz.pinned (OpenSpec.upto spanTellsSpec)

/-- 'loftlaw21.SpanParts', WHERE WHAT IT READS IS OF BULK AT MOST 1048576: true; the input reads as it did. -/
def spanPartsUptoRow : OpenClaim := { program := "ytcibkdbpicledaagreatdoor", sum := "58ccabab88af680a5c332000b64a89fd41a89bd2aa31a29d5adf4b928af335ed", func := "loft/loftlaw21.SpanParts", spec := "spanParts", inPlace := ["internal/bytealg.abigen_runtime_cmpstring"], unfollowed := true, recurses := true, named := ["math/bits.deBruijn64tab"], apart := false, laid := [("math/bits.deBruijn64tab", laid_math_bits_deBruijn64tab)], narrowed := true }
def SpanPartsUptoSaid : Prop := spanPartsUptoRow.holds Tryz.pinned (OpenSpec.upto spanPartsSpec)

/-- 'loftlaw21.SpanMost', WHERE WHAT IT READS IS OF BULK AT MOST 1048576: true; the input reads as it did. -/
def spanMostUptoRow : OpenClaim := { program := "ytcibkdbpicledaagreatdoor", sum := "58ccabab88af680a5c332000b64a89fd41a89bd2aa31a29d5adf4b928af335ed", func := "loft/loftlaw21.SpanMost", spec := "spanMost", inPlace := ["internal/bytealg.abigen_runtime_cmpstring"], unfollowed := true, recurses := true, named := ["math/bits.deBruijn64tab"], apart := false, laid := [("math/bits.deBruijn64tab", laid_math_bits_deBruijn64tab)], narrowed := true }
def SpanMostUptoSaid : Prop := spanMostUptoRow.holds Tryz.pinned (OpenSpec.upto spanMostSpec)

/-- 'loftlaw23.CursorTurn', WHERE WHAT IT READS IS OF BULK AT MOST 1048576: true; the input reads as it did. -/
def cursorTurnUptoRow : OpenClaim := { program := "ytcibkdbpicledaagreatdoor", sum := "58ccabab88af680a5c332000b64a89fd41a89bd2aa31a29d5adf4b928af335ed", func := "loft/loftlaw23.CursorTurn", spec := "cursorTurn", inPlace := ["internal/bytealg.abigen_runtime_cmpstring"], unfollowed := true, recurses := true, named := ["math/bits.deBruijn64tab"], apart := false, laid := [("math/bits.deBruijn64tab", laid_math_bits_deBruijn64tab)], narrowed := true }
def CursorTurnUptoSaid : Prop := cursorTurnUptoRow.holds Tryz.pinned (OpenSpec.upto cursorTurnSpec)

/-- 'loftlaw23.CursorTwo', WHERE WHAT IT READS IS OF BULK AT MOST 1048576: true; the input reads as it did. -/
def cursorTwoUptoRow : OpenClaim := { program := "ytcibkdbpicledaagreatdoor", sum := "58ccabab88af680a5c332000b64a89fd41a89bd2aa31a29d5adf4b928af335ed", func := "loft/loftlaw23.CursorTwo", spec := "cursorTwo", inPlace := ["internal/bytealg.abigen_runtime_cmpstring"], unfollowed := true, recurses := true, named := ["math/bits.deBruijn64tab"], apart := false, laid := [("math/bits.deBruijn64tab", laid_math_bits_deBruijn64tab)], narrowed := true }
def CursorTwoUptoSaid : Prop := cursorTwoUptoRow.holds Tryz.pinned (OpenSpec.upto cursorTwoSpec)

end Rows
end Go.Proofs.YtcibkdbpicledaaGreatDoor
