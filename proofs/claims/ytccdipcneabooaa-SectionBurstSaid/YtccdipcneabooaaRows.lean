/-
  No cell of these rows narrows 'for every input' (looked for: loops, veiled, ifaces, maps, wideKeys, modest, calm, conditions, laid).
  DERIVED. THE GIVEN ROWS OF THIS SEAT. 13 by the template 'for every input the law returns true; each argument reads behind the call as it read before'; 0 by the template 'total and deterministic' (their statements: YtccdipcneabooaaTotals.lean).
  GIVEN WITH THE SEED: the statements are not yours to turn. If you find one false, say at which input.
  Laid BY PROGRAM, IN A SANDBOX (cutbox-rows.mjs): the forced cells as the released guide's own fill.sh prints them over the translation 00ba256a5b91c5b2… (all of the seat's roots in one cut). By AI agents, Wed Nov 11 2026. No macro, syntax, notation, axiom, sorry.
-/
import Derived.Test.YtccdipcneabooaaChecked
import GoSem.Claim
import GoSem.ClaimJoined
import GoSem.ClaimMapViews
import Derived.JoinedTies
import Derived.KernelRfl
namespace Go.Proofs.Ytccdipcneabooaa
/- THE CELL 'sum', in the pinned program and in every row, IS THE sha256 OF THE DUMP (.gsa) THAT YtccdipcneabooaaProg.lean LOADS. Nothing in Lean hashes anything: it is a label: what it is worth is what the hold of that sum in a sandbox is worth. -/
noncomputable def Try.pinned : Pinned := { name := "ytccdipcneabooaa", sum := "00ba256a5b91c5b28d44e73e9792025d6b0804037aa566483ecd2abf73f3448f", checked := Try.checked }
namespace Rows
def none {H : Type} : Left H := { results := [], args := [] }

/-- 'loftlaw25.SumOf': WHATEVER THE INPUT: true; the input reads as it did. -/
def sumOfSpec : ChangeSpec := { name := "sumOf", fn := fun _ => fun
  | [d1, d2, d3] => { results := [.lit (.bool true)], args := [d1, d2, d3] }
  | _ => none }
def sumOfRow : OpenClaim := { program := "ytccdipcneabooaa", sum := "00ba256a5b91c5b28d44e73e9792025d6b0804037aa566483ecd2abf73f3448f", func := "loft/loftlaw25.SumOf", spec := "sumOf", apart := false }
def SumOfSaid : Prop := sumOfRow.holds Try.pinned (OpenSpec.ofChange sumOfSpec)

/-- ITS FALSE NEIGHBOUR: 'it returns false'. Refute it at one input. -/
def sumOfWrong : ChangeSpec := { name := "sumOf", fn := fun _ => fun
  | [d1, d2, d3] => { results := [.lit (.bool false)], args := [d1, d2, d3] }
  | _ => none }
def SumOfWrongFalsely : Prop := sumOfRow.holds Try.pinned (OpenSpec.ofChange sumOfWrong)

/-- 'loftlaw25.SumParts': WHATEVER THE INPUT: true; the input reads as it did. -/
def sumPartsSpec : ChangeSpec := { name := "sumParts", fn := fun _ => fun
  | [d1, d2, d3] => { results := [.lit (.bool true)], args := [d1, d2, d3] }
  | _ => none }
def sumPartsRow : OpenClaim := { program := "ytccdipcneabooaa", sum := "00ba256a5b91c5b28d44e73e9792025d6b0804037aa566483ecd2abf73f3448f", func := "loft/loftlaw25.SumParts", spec := "sumParts", apart := false }
def SumPartsSaid : Prop := sumPartsRow.holds Try.pinned (OpenSpec.ofChange sumPartsSpec)

/-- ITS FALSE NEIGHBOUR: 'it returns false'. Refute it at one input. -/
def sumPartsWrong : ChangeSpec := { name := "sumParts", fn := fun _ => fun
  | [d1, d2, d3] => { results := [.lit (.bool false)], args := [d1, d2, d3] }
  | _ => none }
def SumPartsWrongFalsely : Prop := sumPartsRow.holds Try.pinned (OpenSpec.ofChange sumPartsWrong)

/-- 'loftlaw25.SumThree': WHATEVER THE INPUT: true; the input reads as it did. -/
def sumThreeSpec : ChangeSpec := { name := "sumThree", fn := fun _ => fun
  | [d1, d2, d3] => { results := [.lit (.bool true)], args := [d1, d2, d3] }
  | _ => none }
def sumThreeRow : OpenClaim := { program := "ytccdipcneabooaa", sum := "00ba256a5b91c5b28d44e73e9792025d6b0804037aa566483ecd2abf73f3448f", func := "loft/loftlaw25.SumThree", spec := "sumThree", apart := false }
def SumThreeSaid : Prop := sumThreeRow.holds Try.pinned (OpenSpec.ofChange sumThreeSpec)

/-- ITS FALSE NEIGHBOUR: 'it returns false'. Refute it at one input. -/
def sumThreeWrong : ChangeSpec := { name := "sumThree", fn := fun _ => fun
  | [d1, d2, d3] => { results := [.lit (.bool false)], args := [d1, d2, d3] }
  | _ => none }
def SumThreeWrongFalsely : Prop := sumThreeRow.holds Try.pinned (OpenSpec.ofChange sumThreeWrong)

/-- 'loftlaw25.SumZero': WHATEVER THE INPUT: true; the input reads as it did. -/
def sumZeroSpec : ChangeSpec := { name := "sumZero", fn := fun _ => fun
  | [d] => { results := [.lit (.bool true)], args := [d] }
  | _ => none }
def sumZeroRow : OpenClaim := { program := "ytccdipcneabooaa", sum := "00ba256a5b91c5b28d44e73e9792025d6b0804037aa566483ecd2abf73f3448f", func := "loft/loftlaw25.SumZero", spec := "sumZero", apart := false }
def SumZeroSaid : Prop := sumZeroRow.holds Try.pinned (OpenSpec.ofChange sumZeroSpec)

/-- ITS FALSE NEIGHBOUR: 'it returns false'. Refute it at one input. -/
def sumZeroWrong : ChangeSpec := { name := "sumZero", fn := fun _ => fun
  | [d] => { results := [.lit (.bool false)], args := [d] }
  | _ => none }
def SumZeroWrongFalsely : Prop := sumZeroRow.holds Try.pinned (OpenSpec.ofChange sumZeroWrong)

/-- 'loftlaw25.SumPatch': WHATEVER THE INPUT: true; the input reads as it did. -/
def sumPatchSpec : ChangeSpec := { name := "sumPatch", fn := fun _ => fun
  | [d1, d2, d3] => { results := [.lit (.bool true)], args := [d1, d2, d3] }
  | _ => none }
def sumPatchRow : OpenClaim := { program := "ytccdipcneabooaa", sum := "00ba256a5b91c5b28d44e73e9792025d6b0804037aa566483ecd2abf73f3448f", func := "loft/loftlaw25.SumPatch", spec := "sumPatch", apart := false }
def SumPatchSaid : Prop := sumPatchRow.holds Try.pinned (OpenSpec.ofChange sumPatchSpec)

/-- ITS FALSE NEIGHBOUR: 'it returns false'. Refute it at one input. -/
def sumPatchWrong : ChangeSpec := { name := "sumPatch", fn := fun _ => fun
  | [d1, d2, d3] => { results := [.lit (.bool false)], args := [d1, d2, d3] }
  | _ => none }
def SumPatchWrongFalsely : Prop := sumPatchRow.holds Try.pinned (OpenSpec.ofChange sumPatchWrong)

/-- 'loftlaw25.SumBurst': WHATEVER THE INPUT: true; the input reads as it did. -/
def sumBurstSpec : ChangeSpec := { name := "sumBurst", fn := fun _ => fun
  | [d1, d2, d3] => { results := [.lit (.bool true)], args := [d1, d2, d3] }
  | _ => none }
def sumBurstRow : OpenClaim := { program := "ytccdipcneabooaa", sum := "00ba256a5b91c5b28d44e73e9792025d6b0804037aa566483ecd2abf73f3448f", func := "loft/loftlaw25.SumBurst", spec := "sumBurst", apart := false }
def SumBurstSaid : Prop := sumBurstRow.holds Try.pinned (OpenSpec.ofChange sumBurstSpec)

/-- ITS FALSE NEIGHBOUR: 'it returns false'. Refute it at one input. -/
def sumBurstWrong : ChangeSpec := { name := "sumBurst", fn := fun _ => fun
  | [d1, d2, d3] => { results := [.lit (.bool false)], args := [d1, d2, d3] }
  | _ => none }
def SumBurstWrongFalsely : Prop := sumBurstRow.holds Try.pinned (OpenSpec.ofChange sumBurstWrong)

/-- 'loftlaw26.SectionGet': WHATEVER THE INPUT: true; the input reads as it did. -/
def sectionGetSpec : ChangeSpec := { name := "sectionGet", fn := fun _ => fun
  | [d] => { results := [.lit (.bool true)], args := [d] }
  | _ => none }
def sectionGetRow : OpenClaim := { program := "ytccdipcneabooaa", sum := "00ba256a5b91c5b28d44e73e9792025d6b0804037aa566483ecd2abf73f3448f", func := "loft/loftlaw26.SectionGet", spec := "sectionGet", inPlace := ["internal/abi.NoEscape"], apart := false }
def SectionGetSaid : Prop := sectionGetRow.holds Try.pinned (OpenSpec.ofChange sectionGetSpec)

/-- ITS FALSE NEIGHBOUR: 'it returns false'. Refute it at one input. -/
def sectionGetWrong : ChangeSpec := { name := "sectionGet", fn := fun _ => fun
  | [d] => { results := [.lit (.bool false)], args := [d] }
  | _ => none }
def SectionGetWrongFalsely : Prop := sectionGetRow.holds Try.pinned (OpenSpec.ofChange sectionGetWrong)

/-- 'loftlaw26.SectionWord': WHATEVER THE INPUT: true; the input reads as it did. -/
def sectionWordSpec : ChangeSpec := { name := "sectionWord", fn := fun _ => fun
  | [d1, d2, d3, d4] => { results := [.lit (.bool true)], args := [d1, d2, d3, d4] }
  | _ => none }
def sectionWordRow : OpenClaim := { program := "ytccdipcneabooaa", sum := "00ba256a5b91c5b28d44e73e9792025d6b0804037aa566483ecd2abf73f3448f", func := "loft/loftlaw26.SectionWord", spec := "sectionWord", inPlace := ["internal/abi.NoEscape"], apart := false }
def SectionWordSaid : Prop := sectionWordRow.holds Try.pinned (OpenSpec.ofChange sectionWordSpec)

/-- ITS FALSE NEIGHBOUR: 'it returns false'. Refute it at one input. -/
def sectionWordWrong : ChangeSpec := { name := "sectionWord", fn := fun _ => fun
  | [d1, d2, d3, d4] => { results := [.lit (.bool false)], args := [d1, d2, d3, d4] }
  | _ => none }
def SectionWordWrongFalsely : Prop := sectionWordRow.holds Try.pinned (OpenSpec.ofChange sectionWordWrong)

/-- 'loftlaw26.SectionBack': WHATEVER THE INPUT: true; the input reads as it did. -/
def sectionBackSpec : ChangeSpec := { name := "sectionBack", fn := fun _ => fun
  | [d1, d2] => { results := [.lit (.bool true)], args := [d1, d2] }
  | _ => none }
def sectionBackRow : OpenClaim := { program := "ytccdipcneabooaa", sum := "00ba256a5b91c5b28d44e73e9792025d6b0804037aa566483ecd2abf73f3448f", func := "loft/loftlaw26.SectionBack", spec := "sectionBack", inPlace := ["internal/abi.NoEscape"], apart := false }
def SectionBackSaid : Prop := sectionBackRow.holds Try.pinned (OpenSpec.ofChange sectionBackSpec)

/-- ITS FALSE NEIGHBOUR: 'it returns false'. Refute it at one input. -/
def sectionBackWrong : ChangeSpec := { name := "sectionBack", fn := fun _ => fun
  | [d1, d2] => { results := [.lit (.bool false)], args := [d1, d2] }
  | _ => none }
def SectionBackWrongFalsely : Prop := sectionBackRow.holds Try.pinned (OpenSpec.ofChange sectionBackWrong)

/-- 'loftlaw26.SectionBurst': WHATEVER THE INPUT: true; the input reads as it did. -/
def sectionBurstSpec : ChangeSpec := { name := "sectionBurst", fn := fun _ => fun
  | [d1, d2, d3, d4] => { results := [.lit (.bool true)], args := [d1, d2, d3, d4] }
  | _ => none }
def sectionBurstRow : OpenClaim := { program := "ytccdipcneabooaa", sum := "00ba256a5b91c5b28d44e73e9792025d6b0804037aa566483ecd2abf73f3448f", func := "loft/loftlaw26.SectionBurst", spec := "sectionBurst", inPlace := ["internal/abi.NoEscape"], apart := false }
def SectionBurstSaid : Prop := sectionBurstRow.holds Try.pinned (OpenSpec.ofChange sectionBurstSpec)

/-- ITS FALSE NEIGHBOUR: 'it returns false'. Refute it at one input. -/
def sectionBurstWrong : ChangeSpec := { name := "sectionBurst", fn := fun _ => fun
  | [d1, d2, d3, d4] => { results := [.lit (.bool false)], args := [d1, d2, d3, d4] }
  | _ => none }
def SectionBurstWrongFalsely : Prop := sectionBurstRow.holds Try.pinned (OpenSpec.ofChange sectionBurstWrong)

/-- 'loftlaw26.SectionCut': WHATEVER THE INPUT: true; the input reads as it did. -/
def sectionCutSpec : ChangeSpec := { name := "sectionCut", fn := fun _ => fun
  | [d1, d2, d3] => { results := [.lit (.bool true)], args := [d1, d2, d3] }
  | _ => none }
def sectionCutRow : OpenClaim := { program := "ytccdipcneabooaa", sum := "00ba256a5b91c5b28d44e73e9792025d6b0804037aa566483ecd2abf73f3448f", func := "loft/loftlaw26.SectionCut", spec := "sectionCut", inPlace := ["internal/abi.NoEscape"], apart := false }
def SectionCutSaid : Prop := sectionCutRow.holds Try.pinned (OpenSpec.ofChange sectionCutSpec)

/-- ITS FALSE NEIGHBOUR: 'it returns false'. Refute it at one input. -/
def sectionCutWrong : ChangeSpec := { name := "sectionCut", fn := fun _ => fun
  | [d1, d2, d3] => { results := [.lit (.bool false)], args := [d1, d2, d3] }
  | _ => none }
def SectionCutWrongFalsely : Prop := sectionCutRow.holds Try.pinned (OpenSpec.ofChange sectionCutWrong)

/-- 'loftlaw26.SectionNumbers': WHATEVER THE INPUT: true; the input reads as it did. -/
def sectionNumbersSpec : ChangeSpec := { name := "sectionNumbers", fn := fun _ => fun
  | [d1, d2, d3, d4] => { results := [.lit (.bool true)], args := [d1, d2, d3, d4] }
  | _ => none }
def sectionNumbersRow : OpenClaim := { program := "ytccdipcneabooaa", sum := "00ba256a5b91c5b28d44e73e9792025d6b0804037aa566483ecd2abf73f3448f", func := "loft/loftlaw26.SectionNumbers", spec := "sectionNumbers", inPlace := ["internal/abi.NoEscape"], apart := false }
def SectionNumbersSaid : Prop := sectionNumbersRow.holds Try.pinned (OpenSpec.ofChange sectionNumbersSpec)

/-- ITS FALSE NEIGHBOUR: 'it returns false'. Refute it at one input. -/
def sectionNumbersWrong : ChangeSpec := { name := "sectionNumbers", fn := fun _ => fun
  | [d1, d2, d3, d4] => { results := [.lit (.bool false)], args := [d1, d2, d3, d4] }
  | _ => none }
def SectionNumbersWrongFalsely : Prop := sectionNumbersRow.holds Try.pinned (OpenSpec.ofChange sectionNumbersWrong)

/-- 'loftlaw26.SectionPut': WHATEVER THE INPUT: true; the input reads as it did. -/
def sectionPutSpec : ChangeSpec := { name := "sectionPut", fn := fun _ => fun
  | [d1, d2] => { results := [.lit (.bool true)], args := [d1, d2] }
  | _ => none }
def sectionPutRow : OpenClaim := { program := "ytccdipcneabooaa", sum := "00ba256a5b91c5b28d44e73e9792025d6b0804037aa566483ecd2abf73f3448f", func := "loft/loftlaw26.SectionPut", spec := "sectionPut", inPlace := ["internal/abi.NoEscape"], apart := false }
def SectionPutSaid : Prop := sectionPutRow.holds Try.pinned (OpenSpec.ofChange sectionPutSpec)

/-- ITS FALSE NEIGHBOUR: 'it returns false'. Refute it at one input. -/
def sectionPutWrong : ChangeSpec := { name := "sectionPut", fn := fun _ => fun
  | [d1, d2] => { results := [.lit (.bool false)], args := [d1, d2] }
  | _ => none }
def SectionPutWrongFalsely : Prop := sectionPutRow.holds Try.pinned (OpenSpec.ofChange sectionPutWrong)

/- THE SECOND FORM. 'bulk': how many values and letters a reading holds, each counted each time it is reached (what is shared counts as often as it is met; a slice's spare places count too). A statement '..UptoSaid' is the law's where the arguments, and the package variables that the reading takes, are together of bulk at most 1048576: NARROWER than '..Said'. Prove '..Said' where nothing that the law and all that it calls make is longer than what came in: it says more and counts as full. Else prove '..UptoSaid'. A law counts once. -/
mutual
def uptoBulk {H : Type} : DataW H → Nat
  | .lit (.string bytes) => bytes.length + 1
  | .lit _ => 1
  | .nil => 1
  | .ptr d => uptoBulk d + 1
  | .slice elems spare => uptoBulkAll elems + uptoBulkAll spare + 1
  | .agg parts => uptoBulkAll parts + 1
  | .iface _ d => uptoBulk d + 1
  | .map entries => uptoBulkEntries entries + 1
  | .held _ => 1
def uptoBulkAll {H : Type} : List (DataW H) → Nat
  | [] => 0
  | d :: r => uptoBulk d + uptoBulkAll r
def uptoBulkEntries {H : Type} : List (Lit × DataW H) → Nat
  | [] => 0
  | x :: r => uptoBulkEntry x + uptoBulkEntries r
def uptoBulkEntry {H : Type} : Lit × DataW H → Nat
  | (.string bytes, d) => bytes.length + uptoBulk d + 1
  | (_, d) => uptoBulk d + 1
 end
def uptoSmall : (H : Type) → List (DataW H) → Bool := fun _ ds => decide (uptoBulkAll ds ≤ 1048576)
def OpenSpec.upto (s : _root_.Go.ChangeSpec) : _root_.Go.OpenSpec := { _root_.Go.OpenSpec.ofChange s with cond := some uptoSmall }

/-- 'loftlaw25.SumOf', WHERE WHAT IT READS IS OF BULK AT MOST 1048576: true; the input reads as it did. -/
def sumOfUptoRow : OpenClaim := { program := "ytccdipcneabooaa", sum := "00ba256a5b91c5b28d44e73e9792025d6b0804037aa566483ecd2abf73f3448f", func := "loft/loftlaw25.SumOf", spec := "sumOf", apart := false, narrowed := true }
def SumOfUptoSaid : Prop := sumOfUptoRow.holds Try.pinned (OpenSpec.upto sumOfSpec)

/-- 'loftlaw25.SumParts', WHERE WHAT IT READS IS OF BULK AT MOST 1048576: true; the input reads as it did. -/
def sumPartsUptoRow : OpenClaim := { program := "ytccdipcneabooaa", sum := "00ba256a5b91c5b28d44e73e9792025d6b0804037aa566483ecd2abf73f3448f", func := "loft/loftlaw25.SumParts", spec := "sumParts", apart := false, narrowed := true }
def SumPartsUptoSaid : Prop := sumPartsUptoRow.holds Try.pinned (OpenSpec.upto sumPartsSpec)

/-- 'loftlaw25.SumThree', WHERE WHAT IT READS IS OF BULK AT MOST 1048576: true; the input reads as it did. -/
def sumThreeUptoRow : OpenClaim := { program := "ytccdipcneabooaa", sum := "00ba256a5b91c5b28d44e73e9792025d6b0804037aa566483ecd2abf73f3448f", func := "loft/loftlaw25.SumThree", spec := "sumThree", apart := false, narrowed := true }
def SumThreeUptoSaid : Prop := sumThreeUptoRow.holds Try.pinned (OpenSpec.upto sumThreeSpec)

/-- 'loftlaw25.SumZero', WHERE WHAT IT READS IS OF BULK AT MOST 1048576: true; the input reads as it did. -/
def sumZeroUptoRow : OpenClaim := { program := "ytccdipcneabooaa", sum := "00ba256a5b91c5b28d44e73e9792025d6b0804037aa566483ecd2abf73f3448f", func := "loft/loftlaw25.SumZero", spec := "sumZero", apart := false, narrowed := true }
def SumZeroUptoSaid : Prop := sumZeroUptoRow.holds Try.pinned (OpenSpec.upto sumZeroSpec)

/-- 'loftlaw25.SumPatch', WHERE WHAT IT READS IS OF BULK AT MOST 1048576: true; the input reads as it did. -/
def sumPatchUptoRow : OpenClaim := { program := "ytccdipcneabooaa", sum := "00ba256a5b91c5b28d44e73e9792025d6b0804037aa566483ecd2abf73f3448f", func := "loft/loftlaw25.SumPatch", spec := "sumPatch", apart := false, narrowed := true }
def SumPatchUptoSaid : Prop := sumPatchUptoRow.holds Try.pinned (OpenSpec.upto sumPatchSpec)

/-- 'loftlaw25.SumBurst', WHERE WHAT IT READS IS OF BULK AT MOST 1048576: true; the input reads as it did. -/
def sumBurstUptoRow : OpenClaim := { program := "ytccdipcneabooaa", sum := "00ba256a5b91c5b28d44e73e9792025d6b0804037aa566483ecd2abf73f3448f", func := "loft/loftlaw25.SumBurst", spec := "sumBurst", apart := false, narrowed := true }
def SumBurstUptoSaid : Prop := sumBurstUptoRow.holds Try.pinned (OpenSpec.upto sumBurstSpec)

/-- 'loftlaw26.SectionGet', WHERE WHAT IT READS IS OF BULK AT MOST 1048576: true; the input reads as it did. -/
def sectionGetUptoRow : OpenClaim := { program := "ytccdipcneabooaa", sum := "00ba256a5b91c5b28d44e73e9792025d6b0804037aa566483ecd2abf73f3448f", func := "loft/loftlaw26.SectionGet", spec := "sectionGet", inPlace := ["internal/abi.NoEscape"], apart := false, narrowed := true }
def SectionGetUptoSaid : Prop := sectionGetUptoRow.holds Try.pinned (OpenSpec.upto sectionGetSpec)

/-- 'loftlaw26.SectionWord', WHERE WHAT IT READS IS OF BULK AT MOST 1048576: true; the input reads as it did. -/
def sectionWordUptoRow : OpenClaim := { program := "ytccdipcneabooaa", sum := "00ba256a5b91c5b28d44e73e9792025d6b0804037aa566483ecd2abf73f3448f", func := "loft/loftlaw26.SectionWord", spec := "sectionWord", inPlace := ["internal/abi.NoEscape"], apart := false, narrowed := true }
def SectionWordUptoSaid : Prop := sectionWordUptoRow.holds Try.pinned (OpenSpec.upto sectionWordSpec)

/-- 'loftlaw26.SectionBack', WHERE WHAT IT READS IS OF BULK AT MOST 1048576: true; the input reads as it did. -/
def sectionBackUptoRow : OpenClaim := { program := "ytccdipcneabooaa", sum := "00ba256a5b91c5b28d44e73e9792025d6b0804037aa566483ecd2abf73f3448f", func := "loft/loftlaw26.SectionBack", spec := "sectionBack", inPlace := ["internal/abi.NoEscape"], apart := false, narrowed := true }
def SectionBackUptoSaid : Prop := sectionBackUptoRow.holds Try.pinned (OpenSpec.upto sectionBackSpec)

/-- 'loftlaw26.SectionBurst', WHERE WHAT IT READS IS OF BULK AT MOST 1048576: true; the input reads as it did. -/
def sectionBurstUptoRow : OpenClaim := { program := "ytccdipcneabooaa", sum := "00ba256a5b91c5b28d44e73e9792025d6b0804037aa566483ecd2abf73f3448f", func := "loft/loftlaw26.SectionBurst", spec := "sectionBurst", inPlace := ["internal/abi.NoEscape"], apart := false, narrowed := true }
def SectionBurstUptoSaid : Prop := sectionBurstUptoRow.holds Try.pinned (OpenSpec.upto sectionBurstSpec)

/-- 'loftlaw26.SectionCut', WHERE WHAT IT READS IS OF BULK AT MOST 1048576: true; the input reads as it did. -/
def sectionCutUptoRow : OpenClaim := { program := "ytccdipcneabooaa", sum := "00ba256a5b91c5b28d44e73e9792025d6b0804037aa566483ecd2abf73f3448f", func := "loft/loftlaw26.SectionCut", spec := "sectionCut", inPlace := ["internal/abi.NoEscape"], apart := false, narrowed := true }
def SectionCutUptoSaid : Prop := sectionCutUptoRow.holds Try.pinned (OpenSpec.upto sectionCutSpec)

/-- 'loftlaw26.SectionNumbers', WHERE WHAT IT READS IS OF BULK AT MOST 1048576: true; the input reads as it did. -/
def sectionNumbersUptoRow : OpenClaim := { program := "ytccdipcneabooaa", sum := "00ba256a5b91c5b28d44e73e9792025d6b0804037aa566483ecd2abf73f3448f", func := "loft/loftlaw26.SectionNumbers", spec := "sectionNumbers", inPlace := ["internal/abi.NoEscape"], apart := false, narrowed := true }
def SectionNumbersUptoSaid : Prop := sectionNumbersUptoRow.holds Try.pinned (OpenSpec.upto sectionNumbersSpec)

/-- 'loftlaw26.SectionPut', WHERE WHAT IT READS IS OF BULK AT MOST 1048576: true; the input reads as it did. -/
def sectionPutUptoRow : OpenClaim := { program := "ytccdipcneabooaa", sum := "00ba256a5b91c5b28d44e73e9792025d6b0804037aa566483ecd2abf73f3448f", func := "loft/loftlaw26.SectionPut", spec := "sectionPut", inPlace := ["internal/abi.NoEscape"], apart := false, narrowed := true }
def SectionPutUptoSaid : Prop := sectionPutUptoRow.holds Try.pinned (OpenSpec.upto sectionPutSpec)

end Rows
end Go.Proofs.Ytccdipcneabooaa
