/-
  No cell of these rows narrows 'for every input' (looked for: loops, veiled, ifaces, maps, wideKeys, modest, calm, conditions, laid).
  DERIVED. THE GIVEN ROWS OF THIS SEAT. 10 by the template 'for every input the law returns true; each argument reads behind the call as it read before'; 0 by the template 'total and deterministic' (their statements: YtnmalfhdndnelaaTotals.lean).
  GIVEN WITH THE SEED: the statements are not yours to turn. If you find one false, say at which input.
  Laid BY PROGRAM, IN A SANDBOX (cutbox-rows.mjs): the forced cells as the released guide's own fill.sh prints them over the translation 1a97ac5a8b152edd… (all of the seat's roots in one cut). By AI agents, Wed Nov 11 2026. No macro, syntax, notation, axiom, sorry.
-/
import Derived.Test.YtnmalfhdndnelaaChecked
import GoSem.Claim
import GoSem.ClaimJoined
import GoSem.ClaimMapViews
import Derived.JoinedTies
import Derived.KernelRfl
namespace Go.Proofs.Ytnmalfhdndnelaa
/- THE CELL 'sum', in the pinned program and in every row, IS THE sha256 OF THE DUMP (.gsa) THAT YtnmalfhdndnelaaProg.lean LOADS. Nothing in Lean hashes anything: it is a label: what it is worth is what the hold of that sum in a sandbox is worth. -/
noncomputable def Try.pinned : Pinned := { name := "ytnmalfhdndnelaa", sum := "1a97ac5a8b152edd933775ae6a4a181136d74eedd1c824881a7d3e2eb4e88734", checked := Try.checked }
namespace Rows
def none {H : Type} : Left H := { results := [], args := [] }

/-- 'laws.FnBytesSwap': WHATEVER THE INPUT: true; the input reads as it did. -/
def fnBytesSwapSpec : ChangeSpec := { name := "fnBytesSwap", fn := fun _ => fun
  | [d] => { results := [.lit (.bool true)], args := [d] }
  | _ => none }
def fnBytesSwapRow : OpenClaim := { program := "ytnmalfhdndnelaa", sum := "1a97ac5a8b152edd933775ae6a4a181136d74eedd1c824881a7d3e2eb4e88734", func := "loop.example/g00663/laws.FnBytesSwap", spec := "fnBytesSwap", apart := false }
def FnBytesSwapSaid : Prop := fnBytesSwapRow.holds Try.pinned (OpenSpec.ofChange fnBytesSwapSpec)

/-- ITS FALSE NEIGHBOUR: 'it returns false'. Refute it at one input. -/
def fnBytesSwapWrong : ChangeSpec := { name := "fnBytesSwap", fn := fun _ => fun
  | [d] => { results := [.lit (.bool false)], args := [d] }
  | _ => none }
def FnBytesSwapWrongFalsely : Prop := fnBytesSwapRow.holds Try.pinned (OpenSpec.ofChange fnBytesSwapWrong)

/-- 'laws.FnExactNumsAdd': WHATEVER THE INPUT: true; the input reads as it did. -/
def fnExactNumsAddSpec : ChangeSpec := { name := "fnExactNumsAdd", fn := fun _ => fun
  | [d1, d2] => { results := [.lit (.bool true)], args := [d1, d2] }
  | _ => none }
def fnExactNumsAddRow : OpenClaim := { program := "ytnmalfhdndnelaa", sum := "1a97ac5a8b152edd933775ae6a4a181136d74eedd1c824881a7d3e2eb4e88734", func := "loop.example/g00663/laws.FnExactNumsAdd", spec := "fnExactNumsAdd", apart := false }
def FnExactNumsAddSaid : Prop := fnExactNumsAddRow.holds Try.pinned (OpenSpec.ofChange fnExactNumsAddSpec)

/-- ITS FALSE NEIGHBOUR: 'it returns false'. Refute it at one input. -/
def fnExactNumsAddWrong : ChangeSpec := { name := "fnExactNumsAdd", fn := fun _ => fun
  | [d1, d2] => { results := [.lit (.bool false)], args := [d1, d2] }
  | _ => none }
def FnExactNumsAddWrongFalsely : Prop := fnExactNumsAddRow.holds Try.pinned (OpenSpec.ofChange fnExactNumsAddWrong)

/-- 'laws.FnExactEditText': WHATEVER THE INPUT: true; the input reads as it did. -/
def fnExactEditTextSpec : ChangeSpec := { name := "fnExactEditText", fn := fun _ => fun
  | [d1, d2] => { results := [.lit (.bool true)], args := [d1, d2] }
  | _ => none }
def fnExactEditTextRow : OpenClaim := { program := "ytnmalfhdndnelaa", sum := "1a97ac5a8b152edd933775ae6a4a181136d74eedd1c824881a7d3e2eb4e88734", func := "loop.example/g00663/laws.FnExactEditText", spec := "fnExactEditText", apart := false }
def FnExactEditTextSaid : Prop := fnExactEditTextRow.holds Try.pinned (OpenSpec.ofChange fnExactEditTextSpec)

/-- ITS FALSE NEIGHBOUR: 'it returns false'. Refute it at one input. -/
def fnExactEditTextWrong : ChangeSpec := { name := "fnExactEditText", fn := fun _ => fun
  | [d1, d2] => { results := [.lit (.bool false)], args := [d1, d2] }
  | _ => none }
def FnExactEditTextWrongFalsely : Prop := fnExactEditTextRow.holds Try.pinned (OpenSpec.ofChange fnExactEditTextWrong)

/-- 'laws.FnExactBitsColumn': WHATEVER THE INPUT: true; the input reads as it did. -/
def fnExactBitsColumnSpec : ChangeSpec := { name := "fnExactBitsColumn", fn := fun _ => fun
  | [d] => { results := [.lit (.bool true)], args := [d] }
  | _ => none }
def fnExactBitsColumnRow : OpenClaim := { program := "ytnmalfhdndnelaa", sum := "1a97ac5a8b152edd933775ae6a4a181136d74eedd1c824881a7d3e2eb4e88734", func := "loop.example/g00663/laws.FnExactBitsColumn", spec := "fnExactBitsColumn", apart := false }
def FnExactBitsColumnSaid : Prop := fnExactBitsColumnRow.holds Try.pinned (OpenSpec.ofChange fnExactBitsColumnSpec)

/-- ITS FALSE NEIGHBOUR: 'it returns false'. Refute it at one input. -/
def fnExactBitsColumnWrong : ChangeSpec := { name := "fnExactBitsColumn", fn := fun _ => fun
  | [d] => { results := [.lit (.bool false)], args := [d] }
  | _ => none }
def FnExactBitsColumnWrongFalsely : Prop := fnExactBitsColumnRow.holds Try.pinned (OpenSpec.ofChange fnExactBitsColumnWrong)

/-- 'laws.FnMetric': WHATEVER THE INPUT: true; the input reads as it did. -/
def fnMetricSpec : ChangeSpec := { name := "fnMetric", fn := fun _ => fun
  | [d] => { results := [.lit (.bool true)], args := [d] }
  | _ => none }
def fnMetricRow : OpenClaim := { program := "ytnmalfhdndnelaa", sum := "1a97ac5a8b152edd933775ae6a4a181136d74eedd1c824881a7d3e2eb4e88734", func := "loop.example/g00663/laws.FnMetric", spec := "fnMetric", apart := false }
def FnMetricSaid : Prop := fnMetricRow.holds Try.pinned (OpenSpec.ofChange fnMetricSpec)

/-- ITS FALSE NEIGHBOUR: 'it returns false'. Refute it at one input. -/
def fnMetricWrong : ChangeSpec := { name := "fnMetric", fn := fun _ => fun
  | [d] => { results := [.lit (.bool false)], args := [d] }
  | _ => none }
def FnMetricWrongFalsely : Prop := fnMetricRow.holds Try.pinned (OpenSpec.ofChange fnMetricWrong)

/-- 'laws.FnExactMyersRun': WHATEVER THE INPUT: true; the input reads as it did. -/
def fnExactMyersRunSpec : ChangeSpec := { name := "fnExactMyersRun", fn := fun _ => fun
  | [d1, d2] => { results := [.lit (.bool true)], args := [d1, d2] }
  | _ => none }
def fnExactMyersRunRow : OpenClaim := { program := "ytnmalfhdndnelaa", sum := "1a97ac5a8b152edd933775ae6a4a181136d74eedd1c824881a7d3e2eb4e88734", func := "loop.example/g00663/laws.FnExactMyersRun", spec := "fnExactMyersRun", apart := false }
def FnExactMyersRunSaid : Prop := fnExactMyersRunRow.holds Try.pinned (OpenSpec.ofChange fnExactMyersRunSpec)

/-- ITS FALSE NEIGHBOUR: 'it returns false'. Refute it at one input. -/
def fnExactMyersRunWrong : ChangeSpec := { name := "fnExactMyersRun", fn := fun _ => fun
  | [d1, d2] => { results := [.lit (.bool false)], args := [d1, d2] }
  | _ => none }
def FnExactMyersRunWrongFalsely : Prop := fnExactMyersRunRow.holds Try.pinned (OpenSpec.ofChange fnExactMyersRunWrong)

/-- 'laws.FnExactMyersStep': WHATEVER THE INPUT: true; the input reads as it did. -/
def fnExactMyersStepSpec : ChangeSpec := { name := "fnExactMyersStep", fn := fun _ => fun
  | [d1, d2] => { results := [.lit (.bool true)], args := [d1, d2] }
  | _ => none }
def fnExactMyersStepRow : OpenClaim := { program := "ytnmalfhdndnelaa", sum := "1a97ac5a8b152edd933775ae6a4a181136d74eedd1c824881a7d3e2eb4e88734", func := "loop.example/g00663/laws.FnExactMyersStep", spec := "fnExactMyersStep", apart := false }
def FnExactMyersStepSaid : Prop := fnExactMyersStepRow.holds Try.pinned (OpenSpec.ofChange fnExactMyersStepSpec)

/-- ITS FALSE NEIGHBOUR: 'it returns false'. Refute it at one input. -/
def fnExactMyersStepWrong : ChangeSpec := { name := "fnExactMyersStep", fn := fun _ => fun
  | [d1, d2] => { results := [.lit (.bool false)], args := [d1, d2] }
  | _ => none }
def FnExactMyersStepWrongFalsely : Prop := fnExactMyersStepRow.holds Try.pinned (OpenSpec.ofChange fnExactMyersStepWrong)

/-- 'laws.FnColumns': WHATEVER THE INPUT: true; the input reads as it did. -/
def fnColumnsSpec : ChangeSpec := { name := "fnColumns", fn := fun _ => fun
  | [d] => { results := [.lit (.bool true)], args := [d] }
  | _ => none }
def fnColumnsRow : OpenClaim := { program := "ytnmalfhdndnelaa", sum := "1a97ac5a8b152edd933775ae6a4a181136d74eedd1c824881a7d3e2eb4e88734", func := "loop.example/g00663/laws.FnColumns", spec := "fnColumns", apart := false }
def FnColumnsSaid : Prop := fnColumnsRow.holds Try.pinned (OpenSpec.ofChange fnColumnsSpec)

/-- ITS FALSE NEIGHBOUR: 'it returns false'. Refute it at one input. -/
def fnColumnsWrong : ChangeSpec := { name := "fnColumns", fn := fun _ => fun
  | [d] => { results := [.lit (.bool false)], args := [d] }
  | _ => none }
def FnColumnsWrongFalsely : Prop := fnColumnsRow.holds Try.pinned (OpenSpec.ofChange fnColumnsWrong)

/-- 'laws.FnEdits': WHATEVER THE INPUT: true; the input reads as it did. -/
def fnEditsSpec : ChangeSpec := { name := "fnEdits", fn := fun _ => fun
  | [d] => { results := [.lit (.bool true)], args := [d] }
  | _ => none }
def fnEditsRow : OpenClaim := { program := "ytnmalfhdndnelaa", sum := "1a97ac5a8b152edd933775ae6a4a181136d74eedd1c824881a7d3e2eb4e88734", func := "loop.example/g00663/laws.FnEdits", spec := "fnEdits", apart := false }
def FnEditsSaid : Prop := fnEditsRow.holds Try.pinned (OpenSpec.ofChange fnEditsSpec)

/-- ITS FALSE NEIGHBOUR: 'it returns false'. Refute it at one input. -/
def fnEditsWrong : ChangeSpec := { name := "fnEdits", fn := fun _ => fun
  | [d] => { results := [.lit (.bool false)], args := [d] }
  | _ => none }
def FnEditsWrongFalsely : Prop := fnEditsRow.holds Try.pinned (OpenSpec.ofChange fnEditsWrong)

/-- 'laws.FnEditsLeast': WHATEVER THE INPUT: true; the input reads as it did. -/
def fnEditsLeastSpec : ChangeSpec := { name := "fnEditsLeast", fn := fun _ => fun
  | [d] => { results := [.lit (.bool true)], args := [d] }
  | _ => none }
def fnEditsLeastRow : OpenClaim := { program := "ytnmalfhdndnelaa", sum := "1a97ac5a8b152edd933775ae6a4a181136d74eedd1c824881a7d3e2eb4e88734", func := "loop.example/g00663/laws.FnEditsLeast", spec := "fnEditsLeast", apart := false }
def FnEditsLeastSaid : Prop := fnEditsLeastRow.holds Try.pinned (OpenSpec.ofChange fnEditsLeastSpec)

/-- ITS FALSE NEIGHBOUR: 'it returns false'. Refute it at one input. -/
def fnEditsLeastWrong : ChangeSpec := { name := "fnEditsLeast", fn := fun _ => fun
  | [d] => { results := [.lit (.bool false)], args := [d] }
  | _ => none }
def FnEditsLeastWrongFalsely : Prop := fnEditsLeastRow.holds Try.pinned (OpenSpec.ofChange fnEditsLeastWrong)

/- THE SECOND FORM. 'bulk': how many values and letters a reading holds, each counted each time it is reached (what is shared counts as often as it is met; a slice's spare places count too). A statement '..UptoSaid' is the law's where the arguments, and the package variables that the reading takes, are together of bulk at most 1048576: NARROWER than '..Said'. Prove '..Said' where nothing that the law and all that it calls make is longer than what came in: it says more and counts as full. Else prove '..UptoSaid'. A law counts once. -/
mutual
def uptoBulk {H : Type} : DataW H → Nat
  | .lit (.string bytes) => bytes.length + 1
  | .lit _ => 1
  | .nil => 1
  | .ptr d => uptoBulk d + 1
  | .slice elems spare => uptoBulkAll elems + uptoBulkAll spare + 1
  | .agg parts => uptoBulkAll parts + 1
  | .iface _ d => uptoBulk d + 1
  | .map entries => uptoBulkEntries entries + 1
  | .held _ => 1
def uptoBulkAll {H : Type} : List (DataW H) → Nat
  | [] => 0
  | d :: r => uptoBulk d + uptoBulkAll r
def uptoBulkEntries {H : Type} : List (Lit × DataW H) → Nat
  | [] => 0
  | x :: r => uptoBulkEntry x + uptoBulkEntries r
def uptoBulkEntry {H : Type} : Lit × DataW H → Nat
  | (.string bytes, d) => bytes.length + uptoBulk d + 1
  | (_, d) => uptoBulk d + 1
 end
def uptoSmall : (H : Type) → List (DataW H) → Bool := fun _ ds => decide (uptoBulkAll ds ≤ 1048576)
def OpenSpec.upto (s : _root_.Go.ChangeSpec) : _root_.Go.OpenSpec := { _root_.Go.OpenSpec.ofChange s with cond := some uptoSmall }

/-- 'laws.FnBytesSwap', WHERE WHAT IT READS IS OF BULK AT MOST 1048576: true; the input reads as it did. -/
def fnBytesSwapUptoRow : OpenClaim := { program := "ytnmalfhdndnelaa", sum := "1a97ac5a8b152edd933775ae6a4a181136d74eedd1c824881a7d3e2eb4e88734", func := "loop.example/g00663/laws.FnBytesSwap", spec := "fnBytesSwap", apart := false, narrowed := true }
def FnBytesSwapUptoSaid : Prop := fnBytesSwapUptoRow.holds Try.pinned (OpenSpec.upto fnBytesSwapSpec)

/-- 'laws.FnExactNumsAdd', WHERE WHAT IT READS IS OF BULK AT MOST 1048576: true; the input reads as it did. -/
def fnExactNumsAddUptoRow : OpenClaim := { program := "ytnmalfhdndnelaa", sum := "1a97ac5a8b152edd933775ae6a4a181136d74eedd1c824881a7d3e2eb4e88734", func := "loop.example/g00663/laws.FnExactNumsAdd", spec := "fnExactNumsAdd", apart := false, narrowed := true }
def FnExactNumsAddUptoSaid : Prop := fnExactNumsAddUptoRow.holds Try.pinned (OpenSpec.upto fnExactNumsAddSpec)

/-- 'laws.FnExactEditText', WHERE WHAT IT READS IS OF BULK AT MOST 1048576: true; the input reads as it did. -/
def fnExactEditTextUptoRow : OpenClaim := { program := "ytnmalfhdndnelaa", sum := "1a97ac5a8b152edd933775ae6a4a181136d74eedd1c824881a7d3e2eb4e88734", func := "loop.example/g00663/laws.FnExactEditText", spec := "fnExactEditText", apart := false, narrowed := true }
def FnExactEditTextUptoSaid : Prop := fnExactEditTextUptoRow.holds Try.pinned (OpenSpec.upto fnExactEditTextSpec)

/-- 'laws.FnExactBitsColumn', WHERE WHAT IT READS IS OF BULK AT MOST 1048576: true; the input reads as it did. -/
def fnExactBitsColumnUptoRow : OpenClaim := { program := "ytnmalfhdndnelaa", sum := "1a97ac5a8b152edd933775ae6a4a181136d74eedd1c824881a7d3e2eb4e88734", func := "loop.example/g00663/laws.FnExactBitsColumn", spec := "fnExactBitsColumn", apart := false, narrowed := true }
def FnExactBitsColumnUptoSaid : Prop := fnExactBitsColumnUptoRow.holds Try.pinned (OpenSpec.upto fnExactBitsColumnSpec)

/-- 'laws.FnMetric', WHERE WHAT IT READS IS OF BULK AT MOST 1048576: true; the input reads as it did. -/
def fnMetricUptoRow : OpenClaim := { program := "ytnmalfhdndnelaa", sum := "1a97ac5a8b152edd933775ae6a4a181136d74eedd1c824881a7d3e2eb4e88734", func := "loop.example/g00663/laws.FnMetric", spec := "fnMetric", apart := false, narrowed := true }
def FnMetricUptoSaid : Prop := fnMetricUptoRow.holds Try.pinned (OpenSpec.upto fnMetricSpec)

/-- 'laws.FnExactMyersRun', WHERE WHAT IT READS IS OF BULK AT MOST 1048576: true; the input reads as it did. -/
def fnExactMyersRunUptoRow : OpenClaim := { program := "ytnmalfhdndnelaa", sum := "1a97ac5a8b152edd933775ae6a4a181136d74eedd1c824881a7d3e2eb4e88734", func := "loop.example/g00663/laws.FnExactMyersRun", spec := "fnExactMyersRun", apart := false, narrowed := true }
def FnExactMyersRunUptoSaid : Prop := fnExactMyersRunUptoRow.holds Try.pinned (OpenSpec.upto fnExactMyersRunSpec)

/-- 'laws.FnExactMyersStep', WHERE WHAT IT READS IS OF BULK AT MOST 1048576: true; the input reads as it did. -/
def fnExactMyersStepUptoRow : OpenClaim := { program := "ytnmalfhdndnelaa", sum := "1a97ac5a8b152edd933775ae6a4a181136d74eedd1c824881a7d3e2eb4e88734", func := "loop.example/g00663/laws.FnExactMyersStep", spec := "fnExactMyersStep", apart := false, narrowed := true }
def FnExactMyersStepUptoSaid : Prop := fnExactMyersStepUptoRow.holds Try.pinned (OpenSpec.upto fnExactMyersStepSpec)

/-- 'laws.FnColumns', WHERE WHAT IT READS IS OF BULK AT MOST 1048576: true; the input reads as it did. -/
def fnColumnsUptoRow : OpenClaim := { program := "ytnmalfhdndnelaa", sum := "1a97ac5a8b152edd933775ae6a4a181136d74eedd1c824881a7d3e2eb4e88734", func := "loop.example/g00663/laws.FnColumns", spec := "fnColumns", apart := false, narrowed := true }
def FnColumnsUptoSaid : Prop := fnColumnsUptoRow.holds Try.pinned (OpenSpec.upto fnColumnsSpec)

/-- 'laws.FnEdits', WHERE WHAT IT READS IS OF BULK AT MOST 1048576: true; the input reads as it did. -/
def fnEditsUptoRow : OpenClaim := { program := "ytnmalfhdndnelaa", sum := "1a97ac5a8b152edd933775ae6a4a181136d74eedd1c824881a7d3e2eb4e88734", func := "loop.example/g00663/laws.FnEdits", spec := "fnEdits", apart := false, narrowed := true }
def FnEditsUptoSaid : Prop := fnEditsUptoRow.holds Try.pinned (OpenSpec.upto fnEditsSpec)

/-- 'laws.FnEditsLeast', WHERE WHAT IT READS IS OF BULK AT MOST 1048576: true; the input reads as it did. -/
def fnEditsLeastUptoRow : OpenClaim := { program := "ytnmalfhdndnelaa", sum := "1a97ac5a8b152edd933775ae6a4a181136d74eedd1c824881a7d3e2eb4e88734", func := "loop.example/g00663/laws.FnEditsLeast", spec := "fnEditsLeast", apart := false, narrowed := true }
def FnEditsLeastUptoSaid : Prop := fnEditsLeastUptoRow.holds Try.pinned (OpenSpec.upto fnEditsLeastSpec)

end Rows
end Go.Proofs.Ytnmalfhdndnelaa
