/-
  NARROWER THAN 'FOR EVERY INPUT', by the rows' own cells (each row's printed sentence says how): BackendNear: laid · OmapOf: laid · ReachLost: laid · ReachOther: laid · ReachErrors: laid · ReachCounts: laid.
  DERIVED. THE GIVEN ROWS OF THIS SEAT. 6 by the template 'for every input the law returns true; each argument reads behind the call as it read before'; 0 by the template 'total and deterministic' (their statements: YtpljannolpapgaaGreatDoorTotals.lean).
  GIVEN WITH THE SEED: the statements are not yours to turn. If you find one false, say at which input.
  Laid BY PROGRAM, IN A SANDBOX (cutbox-rows.mjs): the forced cells as the released guide's own fill.sh prints them over the translation a43d2a7ae723b8ec… (all of the seat's roots in one cut). By AI agents, Wed Nov 11 2026. No macro, syntax, notation, axiom, sorry.
-/
import Derived.Test.YtpljannolpapgaaGreatDoorChecked
import GoSem.Claim
import GoSem.ClaimJoined
import GoSem.ClaimMapViews
import Derived.JoinedTies
import Derived.KernelRfl
namespace Go.Proofs.YtpljannolpapgaaGreatDoor
/- THE CELL 'sum', in the pinned program and in every row, IS THE sha256 OF THE DUMP (.gsa) THAT YtpljannolpapgaaGreatDoorProg.lean LOADS. Nothing in Lean hashes anything: it is a label: what it is worth is what the hold of that sum in a sandbox is worth. -/
noncomputable def Tryz.pinned : Pinned := { name := "ytpljannolpapgaagreatdoor", sum := "a43d2a7ae723b8ecd7a7786701fd9093503180f915a938a1083ceb86e1038eca", checked := Tryz.checked }
namespace Rows
def none {H : Type} : Left H := { results := [], args := [] }

/- WHAT THE LISTED PACKAGE-LEVEL VARIABLES READ AS WHEN THE CALL BEGINS. Each datum BY PROGRAM (the guide's laid-datum.mjs) off the statement by which the dump's own 'gosem.cut.vars' lays the variable. In a bare row this is a premise. The card (YtpljannolpapgaaGreatDoorCards.lean) ties it to the program's text. -/
def laid_math_bits_deBruijn64tab {H : Type} : DataW H := .agg [.lit (.int .u8 0), .lit (.int .u8 1), .lit (.int .u8 56), .lit (.int .u8 2), .lit (.int .u8 57), .lit (.int .u8 49), .lit (.int .u8 28), .lit (.int .u8 3), .lit (.int .u8 61), .lit (.int .u8 58), .lit (.int .u8 42), .lit (.int .u8 50), .lit (.int .u8 38), .lit (.int .u8 29), .lit (.int .u8 17), .lit (.int .u8 4), .lit (.int .u8 62), .lit (.int .u8 47), .lit (.int .u8 59), .lit (.int .u8 36), .lit (.int .u8 45), .lit (.int .u8 43), .lit (.int .u8 51), .lit (.int .u8 22), .lit (.int .u8 53), .lit (.int .u8 39), .lit (.int .u8 33), .lit (.int .u8 30), .lit (.int .u8 24), .lit (.int .u8 18), .lit (.int .u8 12), .lit (.int .u8 5), .lit (.int .u8 63), .lit (.int .u8 55), .lit (.int .u8 48), .lit (.int .u8 27), .lit (.int .u8 60), .lit (.int .u8 41), .lit (.int .u8 37), .lit (.int .u8 16), .lit (.int .u8 46), .lit (.int .u8 35), .lit (.int .u8 44), .lit (.int .u8 21), .lit (.int .u8 52), .lit (.int .u8 32), .lit (.int .u8 23), .lit (.int .u8 11), .lit (.int .u8 54), .lit (.int .u8 26), .lit (.int .u8 40), .lit (.int .u8 15), .lit (.int .u8 34), .lit (.int .u8 20), .lit (.int .u8 31), .lit (.int .u8 10), .lit (.int .u8 25), .lit (.int .u8 14), .lit (.int .u8 19), .lit (.int .u8 9), .lit (.int .u8 13), .lit (.int .u8 8), .lit (.int .u8 7), .lit (.int .u8 6)]

/-- 'loftlaw19.BackendNear': WHATEVER THE INPUT: true; the input reads as it did. -/
def backendNearSpec : ChangeSpec := { name := "backendNear", fn := fun _ => fun
  | [d1, d2, d3, d4] => { results := [.lit (.bool true)], args := [d1, d2, d3, d4] }
  | _ => none }
def backendNearRow : OpenClaim := { program := "ytpljannolpapgaagreatdoor", sum := "a43d2a7ae723b8ecd7a7786701fd9093503180f915a938a1083ceb86e1038eca", func := "loft/loftlaw19.BackendNear", spec := "backendNear", inPlace := ["internal/bytealg.abigen_runtime_cmpstring", "slices.overlaps[loft/api.Handle]"], unfollowed := true, recurses := true, named := ["math/bits.deBruijn64tab"], apart := false, laid := [("math/bits.deBruijn64tab", laid_math_bits_deBruijn64tab)] }
def BackendNearSaid : Prop := backendNearRow.holds Tryz.pinned (OpenSpec.ofChange backendNearSpec)

/-- ITS FALSE NEIGHBOUR: 'it returns false'. Refute it at one input. -/
def backendNearWrong : ChangeSpec := { name := "backendNear", fn := fun _ => fun
  | [d1, d2, d3, d4] => { results := [.lit (.bool false)], args := [d1, d2, d3, d4] }
  | _ => none }
def BackendNearWrongFalsely : Prop := backendNearRow.holds Tryz.pinned (OpenSpec.ofChange backendNearWrong)

/-- 'loftlaw20.OmapOf': WHATEVER THE INPUT: true; the input reads as it did. -/
def omapOfSpec : ChangeSpec := { name := "omapOf", fn := fun _ => fun
  | [d1, d2, d3, d4, d5, d6] => { results := [.lit (.bool true)], args := [d1, d2, d3, d4, d5, d6] }
  | _ => none }
def omapOfRow : OpenClaim := { program := "ytpljannolpapgaagreatdoor", sum := "a43d2a7ae723b8ecd7a7786701fd9093503180f915a938a1083ceb86e1038eca", func := "loft/loftlaw20.OmapOf", spec := "omapOf", inPlace := ["internal/bytealg.abigen_runtime_cmpstring"], unfollowed := true, recurses := true, named := ["math/bits.deBruijn64tab"], apart := false, laid := [("math/bits.deBruijn64tab", laid_math_bits_deBruijn64tab)] }
def OmapOfSaid : Prop := omapOfRow.holds Tryz.pinned (OpenSpec.ofChange omapOfSpec)

/-- ITS FALSE NEIGHBOUR: 'it returns false'. Refute it at one input. -/
def omapOfWrong : ChangeSpec := { name := "omapOf", fn := fun _ => fun
  | [d1, d2, d3, d4, d5, d6] => { results := [.lit (.bool false)], args := [d1, d2, d3, d4, d5, d6] }
  | _ => none }
def OmapOfWrongFalsely : Prop := omapOfRow.holds Tryz.pinned (OpenSpec.ofChange omapOfWrong)

/-- 'loftlaw24.ReachLost': WHATEVER THE INPUT: true; the input reads as it did. -/
def reachLostSpec : ChangeSpec := { name := "reachLost", fn := fun _ => fun
  | [d1, d2, d3, d4] => { results := [.lit (.bool true)], args := [d1, d2, d3, d4] }
  | _ => none }
def reachLostRow : OpenClaim := { program := "ytpljannolpapgaagreatdoor", sum := "a43d2a7ae723b8ecd7a7786701fd9093503180f915a938a1083ceb86e1038eca", func := "loft/loftlaw24.ReachLost", spec := "reachLost", inPlace := ["internal/bytealg.abigen_runtime_cmpstring"], unfollowed := true, recurses := true, named := ["math/bits.deBruijn64tab"], apart := false, laid := [("math/bits.deBruijn64tab", laid_math_bits_deBruijn64tab)] }
def ReachLostSaid : Prop := reachLostRow.holds Tryz.pinned (OpenSpec.ofChange reachLostSpec)

/-- ITS FALSE NEIGHBOUR: 'it returns false'. Refute it at one input. -/
def reachLostWrong : ChangeSpec := { name := "reachLost", fn := fun _ => fun
  | [d1, d2, d3, d4] => { results := [.lit (.bool false)], args := [d1, d2, d3, d4] }
  | _ => none }
def ReachLostWrongFalsely : Prop := reachLostRow.holds Tryz.pinned (OpenSpec.ofChange reachLostWrong)

/-- 'loftlaw24.ReachOther': WHATEVER THE INPUT: true; the input reads as it did. -/
def reachOtherSpec : ChangeSpec := { name := "reachOther", fn := fun _ => fun
  | [d1, d2, d3, d4, d5] => { results := [.lit (.bool true)], args := [d1, d2, d3, d4, d5] }
  | _ => none }
def reachOtherRow : OpenClaim := { program := "ytpljannolpapgaagreatdoor", sum := "a43d2a7ae723b8ecd7a7786701fd9093503180f915a938a1083ceb86e1038eca", func := "loft/loftlaw24.ReachOther", spec := "reachOther", inPlace := ["internal/bytealg.abigen_runtime_cmpstring"], unfollowed := true, recurses := true, named := ["math/bits.deBruijn64tab"], apart := false, laid := [("math/bits.deBruijn64tab", laid_math_bits_deBruijn64tab)] }
def ReachOtherSaid : Prop := reachOtherRow.holds Tryz.pinned (OpenSpec.ofChange reachOtherSpec)

/-- ITS FALSE NEIGHBOUR: 'it returns false'. Refute it at one input. -/
def reachOtherWrong : ChangeSpec := { name := "reachOther", fn := fun _ => fun
  | [d1, d2, d3, d4, d5] => { results := [.lit (.bool false)], args := [d1, d2, d3, d4, d5] }
  | _ => none }
def ReachOtherWrongFalsely : Prop := reachOtherRow.holds Tryz.pinned (OpenSpec.ofChange reachOtherWrong)

/-- 'loftlaw24.ReachErrors': WHATEVER THE INPUT: true; the input reads as it did. -/
def reachErrorsSpec : ChangeSpec := { name := "reachErrors", fn := fun _ => fun
  | [d1, d2, d3] => { results := [.lit (.bool true)], args := [d1, d2, d3] }
  | _ => none }
def reachErrorsRow : OpenClaim := { program := "ytpljannolpapgaagreatdoor", sum := "a43d2a7ae723b8ecd7a7786701fd9093503180f915a938a1083ceb86e1038eca", func := "loft/loftlaw24.ReachErrors", spec := "reachErrors", inPlace := ["internal/bytealg.abigen_runtime_cmpstring"], unfollowed := true, recurses := true, named := ["math/bits.deBruijn64tab"], apart := false, laid := [("math/bits.deBruijn64tab", laid_math_bits_deBruijn64tab)] }
def ReachErrorsSaid : Prop := reachErrorsRow.holds Tryz.pinned (OpenSpec.ofChange reachErrorsSpec)

/-- ITS FALSE NEIGHBOUR: 'it returns false'. Refute it at one input. -/
def reachErrorsWrong : ChangeSpec := { name := "reachErrors", fn := fun _ => fun
  | [d1, d2, d3] => { results := [.lit (.bool false)], args := [d1, d2, d3] }
  | _ => none }
def ReachErrorsWrongFalsely : Prop := reachErrorsRow.holds Tryz.pinned (OpenSpec.ofChange reachErrorsWrong)

/-- 'loftlaw24.ReachCounts': WHATEVER THE INPUT: true; the input reads as it did. -/
def reachCountsSpec : ChangeSpec := { name := "reachCounts", fn := fun _ => fun
  | [d1, d2, d3, d4, d5, d6] => { results := [.lit (.bool true)], args := [d1, d2, d3, d4, d5, d6] }
  | _ => none }
def reachCountsRow : OpenClaim := { program := "ytpljannolpapgaagreatdoor", sum := "a43d2a7ae723b8ecd7a7786701fd9093503180f915a938a1083ceb86e1038eca", func := "loft/loftlaw24.ReachCounts", spec := "reachCounts", inPlace := ["internal/bytealg.abigen_runtime_cmpstring"], unfollowed := true, recurses := true, named := ["math/bits.deBruijn64tab"], apart := false, laid := [("math/bits.deBruijn64tab", laid_math_bits_deBruijn64tab)] }
def ReachCountsSaid : Prop := reachCountsRow.holds Tryz.pinned (OpenSpec.ofChange reachCountsSpec)

/-- ITS FALSE NEIGHBOUR: 'it returns false'. Refute it at one input. -/
def reachCountsWrong : ChangeSpec := { name := "reachCounts", fn := fun _ => fun
  | [d1, d2, d3, d4, d5, d6] => { results := [.lit (.bool false)], args := [d1, d2, d3, d4, d5, d6] }
  | _ => none }
def ReachCountsWrongFalsely : Prop := reachCountsRow.holds Tryz.pinned (OpenSpec.ofChange reachCountsWrong)

/- THE SECOND FORM. 'bulk': how many values and letters a reading holds, each counted each time it is reached (what is shared counts as often as it is met; a slice's spare places count too). A statement '..UptoSaid' is the law's where the arguments, and the package variables that the reading takes, are together of bulk at most 1048576: NARROWER than '..Said'. Prove '..Said' where nothing that the law and all that it calls make is longer than what came in: it says more and counts as full. Else prove '..UptoSaid'. A law counts once. -/
mutual
def uptoBulk {H : Type} : DataW H → Nat
  | .lit (.string bytes) => bytes.length + 1
  | .lit _ => 1
  | .nil => 1
  | .ptr d => uptoBulk d + 1
  | .slice elems spare => uptoBulkAll elems + uptoBulkAll spare + 1
  | .agg parts => uptoBulkAll parts + 1
  | .iface _ d => uptoBulk d + 1
  | .map entries => uptoBulkEntries entries + 1
  | .held _ => 1
def uptoBulkAll {H : Type} : List (DataW H) → Nat
  | [] => 0
  | d :: r => uptoBulk d + uptoBulkAll r
def uptoBulkEntries {H : Type} : List (Lit × DataW H) → Nat
  | [] => 0
  | x :: r => uptoBulkEntry x + uptoBulkEntries r
def uptoBulkEntry {H : Type} : Lit × DataW H → Nat
  | (.string bytes, d) => bytes.length + uptoBulk d + 1
  | (_, d) => uptoBulk d + 1
 end
def uptoSmall : (H : Type) → List (DataW H) → Bool := fun _ ds => decide (uptoBulkAll ds ≤ 1048576)
def OpenSpec.upto (s : _root_.Go.ChangeSpec) : _root_.Go.OpenSpec := { _root_.Go.OpenSpec.ofChange s with cond := some uptoSmall }

/-- 'loftlaw19.BackendNear', WHERE WHAT IT READS IS OF BULK AT MOST 1048576: true; the input reads as it did. -/
def backendNearUptoRow : OpenClaim := { program := "ytpljannolpapgaagreatdoor", sum := "a43d2a7ae723b8ecd7a7786701fd9093503180f915a938a1083ceb86e1038eca", func := "loft/loftlaw19.BackendNear", spec := "backendNear", inPlace := ["internal/bytealg.abigen_runtime_cmpstring", "slices.overlaps[loft/api.Handle]"], unfollowed := true, recurses := true, named := ["math/bits.deBruijn64tab"], apart := false, laid := [("math/bits.deBruijn64tab", laid_math_bits_deBruijn64tab)], narrowed := true }
def BackendNearUptoSaid : Prop := backendNearUptoRow.holds Tryz.pinned (OpenSpec.upto backendNearSpec)

/-- 'loftlaw20.OmapOf', WHERE WHAT IT READS IS OF BULK AT MOST 1048576: true; the input reads as it did. -/
def omapOfUptoRow : OpenClaim := { program := "ytpljannolpapgaagreatdoor", sum := "a43d2a7ae723b8ecd7a7786701fd9093503180f915a938a1083ceb86e1038eca", func := "loft/loftlaw20.OmapOf", spec := "omapOf", inPlace := ["internal/bytealg.abigen_runtime_cmpstring"], unfollowed := true, recurses := true, named := ["math/bits.deBruijn64tab"], apart := false, laid := [("math/bits.deBruijn64tab", laid_math_bits_deBruijn64tab)], narrowed := true }
def OmapOfUptoSaid : Prop := omapOfUptoRow.holds Tryz.pinned (OpenSpec.upto omapOfSpec)

/-- 'loftlaw24.ReachLost', WHERE WHAT IT READS IS OF BULK AT MOST 1048576: true; the input reads as it did. -/
def reachLostUptoRow : OpenClaim := { program := "ytpljannolpapgaagreatdoor", sum := "a43d2a7ae723b8ecd7a7786701fd9093503180f915a938a1083ceb86e1038eca", func := "loft/loftlaw24.ReachLost", spec := "reachLost", inPlace := ["internal/bytealg.abigen_runtime_cmpstring"], unfollowed := true, recurses := true, named := ["math/bits.deBruijn64tab"], apart := false, laid := [("math/bits.deBruijn64tab", laid_math_bits_deBruijn64tab)], narrowed := true }
def ReachLostUptoSaid : Prop := reachLostUptoRow.holds Tryz.pinned (OpenSpec.upto reachLostSpec)

/-- 'loftlaw24.ReachOther', WHERE WHAT IT READS IS OF BULK AT MOST 1048576: true; the input reads as it did. -/
def reachOtherUptoRow : OpenClaim := { program := "ytpljannolpapgaagreatdoor", sum := "a43d2a7ae723b8ecd7a7786701fd9093503180f915a938a1083ceb86e1038eca", func := "loft/loftlaw24.ReachOther", spec := "reachOther", inPlace := ["internal/bytealg.abigen_runtime_cmpstring"], unfollowed := true, recurses := true, named := ["math/bits.deBruijn64tab"], apart := false, laid := [("math/bits.deBruijn64tab", laid_math_bits_deBruijn64tab)], narrowed := true }
def ReachOtherUptoSaid : Prop := reachOtherUptoRow.holds Tryz.pinned (OpenSpec.upto reachOtherSpec)

/-- 'loftlaw24.ReachErrors', WHERE WHAT IT READS IS OF BULK AT MOST 1048576: true; the input reads as it did. -/
def reachErrorsUptoRow : OpenClaim := { program := "ytpljannolpapgaagreatdoor", sum := "a43d2a7ae723b8ecd7a7786701fd9093503180f915a938a1083ceb86e1038eca", func := "loft/loftlaw24.ReachErrors", spec := "reachErrors", inPlace := ["internal/bytealg.abigen_runtime_cmpstring"], unfollowed := true, recurses := true, named := ["math/bits.deBruijn64tab"], apart := false, laid := [("math/bits.deBruijn64tab", laid_math_bits_deBruijn64tab)], narrowed := true }
def ReachErrorsUptoSaid : Prop := reachErrorsUptoRow.holds Tryz.pinned (OpenSpec.upto reachErrorsSpec)

/-- 'loftlaw24.ReachCounts', WHERE WHAT IT READS IS OF BULK AT MOST 1048576: true; the input reads as it did. -/
def reachCountsUptoRow : OpenClaim := { program := "ytpljannolpapgaagreatdoor", sum := "a43d2a7ae723b8ecd7a7786701fd9093503180f915a938a1083ceb86e1038eca", func := "loft/loftlaw24.ReachCounts", spec := "reachCounts", inPlace := ["internal/bytealg.abigen_runtime_cmpstring"], unfollowed := true, recurses := true, named := ["math/bits.deBruijn64tab"], apart := false, laid := [("math/bits.deBruijn64tab", laid_math_bits_deBruijn64tab)], narrowed := true }
def ReachCountsUptoSaid : Prop := reachCountsUptoRow.holds Tryz.pinned (OpenSpec.upto reachCountsSpec)

end Rows
end Go.Proofs.YtpljannolpapgaaGreatDoor
