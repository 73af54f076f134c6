/-
  No cell of these rows narrows 'for every input' (looked for: loops, veiled, ifaces, maps, wideKeys, modest, calm, conditions, laid).
  DERIVED. THE GIVEN ROWS OF THIS SEAT. 12 by the template 'for every input the law returns true; each argument reads behind the call as it read before'; 0 by the template 'total and deterministic' (their statements: YtciccdjjjdihdaaTotals.lean).
  GIVEN WITH THE SEED: the statements are not yours to turn. If you find one false, say at which input.
  Laid BY PROGRAM, IN A SANDBOX (cutbox-rows.mjs): the forced cells as the released guide's own fill.sh prints them over the translation 0066182c922eac9a… (all of the seat's roots in one cut). By AI agents, Wed Nov 11 2026. No macro, syntax, notation, axiom, sorry.
-/
import Derived.Test.YtciccdjjjdihdaaChecked
import GoSem.Claim
import GoSem.ClaimJoined
import GoSem.ClaimMapViews
import Derived.JoinedTies
import Derived.KernelRfl
namespace Go.Proofs.Ytciccdjjjdihdaa
/- THE CELL 'sum', in the pinned program and in every row, IS THE sha256 OF THE DUMP (.gsa) THAT YtciccdjjjdihdaaProg.lean LOADS. Nothing in Lean hashes anything: it is a label: what it is worth is what the hold of that sum in a sandbox is worth. -/
noncomputable def Try.pinned : Pinned := { name := "ytciccdjjjdihdaa", sum := "0066182c922eac9aad23977217e423943950685c0897cef8ac12ae5def8e30f3", checked := Try.checked }
namespace Rows
def none {H : Type} : Left H := { results := [], args := [] }

/-- 'laws.FnExactBitCount': WHATEVER THE INPUT: true; the input reads as it did. -/
def fnExactBitCountSpec : ChangeSpec := { name := "fnExactBitCount", fn := fun _ => fun
  | [d] => { results := [.lit (.bool true)], args := [d] }
  | _ => none }
def fnExactBitCountRow : OpenClaim := { program := "ytciccdjjjdihdaa", sum := "0066182c922eac9aad23977217e423943950685c0897cef8ac12ae5def8e30f3", func := "loop.example/g00663/laws.FnExactBitCount", spec := "fnExactBitCount", apart := false }
def FnExactBitCountSaid : Prop := fnExactBitCountRow.holds Try.pinned (OpenSpec.ofChange fnExactBitCountSpec)

/-- ITS FALSE NEIGHBOUR: 'it returns false'. Refute it at one input. -/
def fnExactBitCountWrong : ChangeSpec := { name := "fnExactBitCount", fn := fun _ => fun
  | [d] => { results := [.lit (.bool false)], args := [d] }
  | _ => none }
def FnExactBitCountWrongFalsely : Prop := fnExactBitCountRow.holds Try.pinned (OpenSpec.ofChange fnExactBitCountWrong)

/-- 'laws.FnExactNumAt': WHATEVER THE INPUT: true; the input reads as it did. -/
def fnExactNumAtSpec : ChangeSpec := { name := "fnExactNumAt", fn := fun _ => fun
  | [d1, d2] => { results := [.lit (.bool true)], args := [d1, d2] }
  | _ => none }
def fnExactNumAtRow : OpenClaim := { program := "ytciccdjjjdihdaa", sum := "0066182c922eac9aad23977217e423943950685c0897cef8ac12ae5def8e30f3", func := "loop.example/g00663/laws.FnExactNumAt", spec := "fnExactNumAt", apart := false }
def FnExactNumAtSaid : Prop := fnExactNumAtRow.holds Try.pinned (OpenSpec.ofChange fnExactNumAtSpec)

/-- ITS FALSE NEIGHBOUR: 'it returns false'. Refute it at one input. -/
def fnExactNumAtWrong : ChangeSpec := { name := "fnExactNumAt", fn := fun _ => fun
  | [d1, d2] => { results := [.lit (.bool false)], args := [d1, d2] }
  | _ => none }
def FnExactNumAtWrongFalsely : Prop := fnExactNumAtRow.holds Try.pinned (OpenSpec.ofChange fnExactNumAtWrong)

/-- 'laws.FnExactDistance': WHATEVER THE INPUT: true; the input reads as it did. -/
def fnExactDistanceSpec : ChangeSpec := { name := "fnExactDistance", fn := fun _ => fun
  | [d1, d2] => { results := [.lit (.bool true)], args := [d1, d2] }
  | _ => none }
def fnExactDistanceRow : OpenClaim := { program := "ytciccdjjjdihdaa", sum := "0066182c922eac9aad23977217e423943950685c0897cef8ac12ae5def8e30f3", func := "loop.example/g00663/laws.FnExactDistance", spec := "fnExactDistance", apart := false }
def FnExactDistanceSaid : Prop := fnExactDistanceRow.holds Try.pinned (OpenSpec.ofChange fnExactDistanceSpec)

/-- ITS FALSE NEIGHBOUR: 'it returns false'. Refute it at one input. -/
def fnExactDistanceWrong : ChangeSpec := { name := "fnExactDistance", fn := fun _ => fun
  | [d1, d2] => { results := [.lit (.bool false)], args := [d1, d2] }
  | _ => none }
def FnExactDistanceWrongFalsely : Prop := fnExactDistanceRow.holds Try.pinned (OpenSpec.ofChange fnExactDistanceWrong)

/-- 'laws.FnExactWithin': WHATEVER THE INPUT: true; the input reads as it did. -/
def fnExactWithinSpec : ChangeSpec := { name := "fnExactWithin", fn := fun _ => fun
  | [d1, d2, d3] => { results := [.lit (.bool true)], args := [d1, d2, d3] }
  | _ => none }
def fnExactWithinRow : OpenClaim := { program := "ytciccdjjjdihdaa", sum := "0066182c922eac9aad23977217e423943950685c0897cef8ac12ae5def8e30f3", func := "loop.example/g00663/laws.FnExactWithin", spec := "fnExactWithin", apart := false }
def FnExactWithinSaid : Prop := fnExactWithinRow.holds Try.pinned (OpenSpec.ofChange fnExactWithinSpec)

/-- ITS FALSE NEIGHBOUR: 'it returns false'. Refute it at one input. -/
def fnExactWithinWrong : ChangeSpec := { name := "fnExactWithin", fn := fun _ => fun
  | [d1, d2, d3] => { results := [.lit (.bool false)], args := [d1, d2, d3] }
  | _ => none }
def FnExactWithinWrongFalsely : Prop := fnExactWithinRow.holds Try.pinned (OpenSpec.ofChange fnExactWithinWrong)

/-- 'laws.FnExactCapped': WHATEVER THE INPUT: true; the input reads as it did. -/
def fnExactCappedSpec : ChangeSpec := { name := "fnExactCapped", fn := fun _ => fun
  | [d1, d2] => { results := [.lit (.bool true)], args := [d1, d2] }
  | _ => none }
def fnExactCappedRow : OpenClaim := { program := "ytciccdjjjdihdaa", sum := "0066182c922eac9aad23977217e423943950685c0897cef8ac12ae5def8e30f3", func := "loop.example/g00663/laws.FnExactCapped", spec := "fnExactCapped", apart := false }
def FnExactCappedSaid : Prop := fnExactCappedRow.holds Try.pinned (OpenSpec.ofChange fnExactCappedSpec)

/-- ITS FALSE NEIGHBOUR: 'it returns false'. Refute it at one input. -/
def fnExactCappedWrong : ChangeSpec := { name := "fnExactCapped", fn := fun _ => fun
  | [d1, d2] => { results := [.lit (.bool false)], args := [d1, d2] }
  | _ => none }
def FnExactCappedWrongFalsely : Prop := fnExactCappedRow.holds Try.pinned (OpenSpec.ofChange fnExactCappedWrong)

/-- 'laws.FnExactMyersStart': WHATEVER THE INPUT: true; the input reads as it did. -/
def fnExactMyersStartSpec : ChangeSpec := { name := "fnExactMyersStart", fn := fun _ => fun
  | [d] => { results := [.lit (.bool true)], args := [d] }
  | _ => none }
def fnExactMyersStartRow : OpenClaim := { program := "ytciccdjjjdihdaa", sum := "0066182c922eac9aad23977217e423943950685c0897cef8ac12ae5def8e30f3", func := "loop.example/g00663/laws.FnExactMyersStart", spec := "fnExactMyersStart", apart := false }
def FnExactMyersStartSaid : Prop := fnExactMyersStartRow.holds Try.pinned (OpenSpec.ofChange fnExactMyersStartSpec)

/-- ITS FALSE NEIGHBOUR: 'it returns false'. Refute it at one input. -/
def fnExactMyersStartWrong : ChangeSpec := { name := "fnExactMyersStart", fn := fun _ => fun
  | [d] => { results := [.lit (.bool false)], args := [d] }
  | _ => none }
def FnExactMyersStartWrongFalsely : Prop := fnExactMyersStartRow.holds Try.pinned (OpenSpec.ofChange fnExactMyersStartWrong)

/-- 'laws.FnExactNumsLess': WHATEVER THE INPUT: true; the input reads as it did. -/
def fnExactNumsLessSpec : ChangeSpec := { name := "fnExactNumsLess", fn := fun _ => fun
  | [d1, d2] => { results := [.lit (.bool true)], args := [d1, d2] }
  | _ => none }
def fnExactNumsLessRow : OpenClaim := { program := "ytciccdjjjdihdaa", sum := "0066182c922eac9aad23977217e423943950685c0897cef8ac12ae5def8e30f3", func := "loop.example/g00663/laws.FnExactNumsLess", spec := "fnExactNumsLess", apart := false }
def FnExactNumsLessSaid : Prop := fnExactNumsLessRow.holds Try.pinned (OpenSpec.ofChange fnExactNumsLessSpec)

/-- ITS FALSE NEIGHBOUR: 'it returns false'. Refute it at one input. -/
def fnExactNumsLessWrong : ChangeSpec := { name := "fnExactNumsLess", fn := fun _ => fun
  | [d1, d2] => { results := [.lit (.bool false)], args := [d1, d2] }
  | _ => none }
def FnExactNumsLessWrongFalsely : Prop := fnExactNumsLessRow.holds Try.pinned (OpenSpec.ofChange fnExactNumsLessWrong)

/-- 'laws.FnExactBytesSelect': WHATEVER THE INPUT: true; the input reads as it did. -/
def fnExactBytesSelectSpec : ChangeSpec := { name := "fnExactBytesSelect", fn := fun _ => fun
  | [d1, d2, d3] => { results := [.lit (.bool true)], args := [d1, d2, d3] }
  | _ => none }
def fnExactBytesSelectRow : OpenClaim := { program := "ytciccdjjjdihdaa", sum := "0066182c922eac9aad23977217e423943950685c0897cef8ac12ae5def8e30f3", func := "loop.example/g00663/laws.FnExactBytesSelect", spec := "fnExactBytesSelect", apart := false }
def FnExactBytesSelectSaid : Prop := fnExactBytesSelectRow.holds Try.pinned (OpenSpec.ofChange fnExactBytesSelectSpec)

/-- ITS FALSE NEIGHBOUR: 'it returns false'. Refute it at one input. -/
def fnExactBytesSelectWrong : ChangeSpec := { name := "fnExactBytesSelect", fn := fun _ => fun
  | [d1, d2, d3] => { results := [.lit (.bool false)], args := [d1, d2, d3] }
  | _ => none }
def FnExactBytesSelectWrongFalsely : Prop := fnExactBytesSelectRow.holds Try.pinned (OpenSpec.ofChange fnExactBytesSelectWrong)

/-- 'laws.FnMasks': WHATEVER THE INPUT: true; the input reads as it did. -/
def fnMasksSpec : ChangeSpec := { name := "fnMasks", fn := fun _ => fun
  | [d] => { results := [.lit (.bool true)], args := [d] }
  | _ => none }
def fnMasksRow : OpenClaim := { program := "ytciccdjjjdihdaa", sum := "0066182c922eac9aad23977217e423943950685c0897cef8ac12ae5def8e30f3", func := "loop.example/g00663/laws.FnMasks", spec := "fnMasks", apart := false }
def FnMasksSaid : Prop := fnMasksRow.holds Try.pinned (OpenSpec.ofChange fnMasksSpec)

/-- ITS FALSE NEIGHBOUR: 'it returns false'. Refute it at one input. -/
def fnMasksWrong : ChangeSpec := { name := "fnMasks", fn := fun _ => fun
  | [d] => { results := [.lit (.bool false)], args := [d] }
  | _ => none }
def FnMasksWrongFalsely : Prop := fnMasksRow.holds Try.pinned (OpenSpec.ofChange fnMasksWrong)

/-- 'laws.FnExactEditCost': WHATEVER THE INPUT: true; the input reads as it did. -/
def fnExactEditCostSpec : ChangeSpec := { name := "fnExactEditCost", fn := fun _ => fun
  | [d1, d2, d3] => { results := [.lit (.bool true)], args := [d1, d2, d3] }
  | _ => none }
def fnExactEditCostRow : OpenClaim := { program := "ytciccdjjjdihdaa", sum := "0066182c922eac9aad23977217e423943950685c0897cef8ac12ae5def8e30f3", func := "loop.example/g00663/laws.FnExactEditCost", spec := "fnExactEditCost", apart := false }
def FnExactEditCostSaid : Prop := fnExactEditCostRow.holds Try.pinned (OpenSpec.ofChange fnExactEditCostSpec)

/-- ITS FALSE NEIGHBOUR: 'it returns false'. Refute it at one input. -/
def fnExactEditCostWrong : ChangeSpec := { name := "fnExactEditCost", fn := fun _ => fun
  | [d1, d2, d3] => { results := [.lit (.bool false)], args := [d1, d2, d3] }
  | _ => none }
def FnExactEditCostWrongFalsely : Prop := fnExactEditCostRow.holds Try.pinned (OpenSpec.ofChange fnExactEditCostWrong)

/-- 'laws.FnExactBitsOk': WHATEVER THE INPUT: true; the input reads as it did. -/
def fnExactBitsOkSpec : ChangeSpec := { name := "fnExactBitsOk", fn := fun _ => fun
  | [d] => { results := [.lit (.bool true)], args := [d] }
  | _ => none }
def fnExactBitsOkRow : OpenClaim := { program := "ytciccdjjjdihdaa", sum := "0066182c922eac9aad23977217e423943950685c0897cef8ac12ae5def8e30f3", func := "loop.example/g00663/laws.FnExactBitsOk", spec := "fnExactBitsOk", apart := false }
def FnExactBitsOkSaid : Prop := fnExactBitsOkRow.holds Try.pinned (OpenSpec.ofChange fnExactBitsOkSpec)

/-- ITS FALSE NEIGHBOUR: 'it returns false'. Refute it at one input. -/
def fnExactBitsOkWrong : ChangeSpec := { name := "fnExactBitsOk", fn := fun _ => fun
  | [d] => { results := [.lit (.bool false)], args := [d] }
  | _ => none }
def FnExactBitsOkWrongFalsely : Prop := fnExactBitsOkRow.holds Try.pinned (OpenSpec.ofChange fnExactBitsOkWrong)

/-- 'laws.FnExactBytesSwap': WHATEVER THE INPUT: true; the input reads as it did. -/
def fnExactBytesSwapSpec : ChangeSpec := { name := "fnExactBytesSwap", fn := fun _ => fun
  | [d1, d2, d3] => { results := [.lit (.bool true)], args := [d1, d2, d3] }
  | _ => none }
def fnExactBytesSwapRow : OpenClaim := { program := "ytciccdjjjdihdaa", sum := "0066182c922eac9aad23977217e423943950685c0897cef8ac12ae5def8e30f3", func := "loop.example/g00663/laws.FnExactBytesSwap", spec := "fnExactBytesSwap", apart := false }
def FnExactBytesSwapSaid : Prop := fnExactBytesSwapRow.holds Try.pinned (OpenSpec.ofChange fnExactBytesSwapSpec)

/-- ITS FALSE NEIGHBOUR: 'it returns false'. Refute it at one input. -/
def fnExactBytesSwapWrong : ChangeSpec := { name := "fnExactBytesSwap", fn := fun _ => fun
  | [d1, d2, d3] => { results := [.lit (.bool false)], args := [d1, d2, d3] }
  | _ => none }
def FnExactBytesSwapWrongFalsely : Prop := fnExactBytesSwapRow.holds Try.pinned (OpenSpec.ofChange fnExactBytesSwapWrong)

/- THE SECOND FORM. 'bulk': how many values and letters a reading holds, each counted each time it is reached (what is shared counts as often as it is met; a slice's spare places count too). A statement '..UptoSaid' is the law's where the arguments, and the package variables that the reading takes, are together of bulk at most 1048576: NARROWER than '..Said'. Prove '..Said' where nothing that the law and all that it calls make is longer than what came in: it says more and counts as full. Else prove '..UptoSaid'. A law counts once. -/
mutual
def uptoBulk {H : Type} : DataW H → Nat
  | .lit (.string bytes) => bytes.length + 1
  | .lit _ => 1
  | .nil => 1
  | .ptr d => uptoBulk d + 1
  | .slice elems spare => uptoBulkAll elems + uptoBulkAll spare + 1
  | .agg parts => uptoBulkAll parts + 1
  | .iface _ d => uptoBulk d + 1
  | .map entries => uptoBulkEntries entries + 1
  | .held _ => 1
def uptoBulkAll {H : Type} : List (DataW H) → Nat
  | [] => 0
  | d :: r => uptoBulk d + uptoBulkAll r
def uptoBulkEntries {H : Type} : List (Lit × DataW H) → Nat
  | [] => 0
  | x :: r => uptoBulkEntry x + uptoBulkEntries r
def uptoBulkEntry {H : Type} : Lit × DataW H → Nat
  | (.string bytes, d) => bytes.length + uptoBulk d + 1
  | (_, d) => uptoBulk d + 1
 end
def uptoSmall : (H : Type) → List (DataW H) → Bool := fun _ ds => decide (uptoBulkAll ds ≤ 1048576)
def OpenSpec.upto (s : _root_.Go.ChangeSpec) : _root_.Go.OpenSpec := { _root_.Go.OpenSpec.ofChange s with cond := some uptoSmall }

/-- 'laws.FnExactBitCount', WHERE WHAT IT READS IS OF BULK AT MOST 1048576: true; the input reads as it did. -/
def fnExactBitCountUptoRow : OpenClaim := { program := "ytciccdjjjdihdaa", sum := "0066182c922eac9aad23977217e423943950685c0897cef8ac12ae5def8e30f3", func := "loop.example/g00663/laws.FnExactBitCount", spec := "fnExactBitCount", apart := false, narrowed := true }
def FnExactBitCountUptoSaid : Prop := fnExactBitCountUptoRow.holds Try.pinned (OpenSpec.upto fnExactBitCountSpec)

/-- 'laws.FnExactNumAt', WHERE WHAT IT READS IS OF BULK AT MOST 1048576: true; the input reads as it did. -/
def fnExactNumAtUptoRow : OpenClaim := { program := "ytciccdjjjdihdaa", sum := "0066182c922eac9aad23977217e423943950685c0897cef8ac12ae5def8e30f3", func := "loop.example/g00663/laws.FnExactNumAt", spec := "fnExactNumAt", apart := false, narrowed := true }
def FnExactNumAtUptoSaid : Prop := fnExactNumAtUptoRow.holds Try.pinned (OpenSpec.upto fnExactNumAtSpec)

/-- 'laws.FnExactDistance', WHERE WHAT IT READS IS OF BULK AT MOST 1048576: true; the input reads as it did. -/
def fnExactDistanceUptoRow : OpenClaim := { program := "ytciccdjjjdihdaa", sum := "0066182c922eac9aad23977217e423943950685c0897cef8ac12ae5def8e30f3", func := "loop.example/g00663/laws.FnExactDistance", spec := "fnExactDistance", apart := false, narrowed := true }
def FnExactDistanceUptoSaid : Prop := fnExactDistanceUptoRow.holds Try.pinned (OpenSpec.upto fnExactDistanceSpec)

/-- 'laws.FnExactWithin', WHERE WHAT IT READS IS OF BULK AT MOST 1048576: true; the input reads as it did. -/
def fnExactWithinUptoRow : OpenClaim := { program := "ytciccdjjjdihdaa", sum := "0066182c922eac9aad23977217e423943950685c0897cef8ac12ae5def8e30f3", func := "loop.example/g00663/laws.FnExactWithin", spec := "fnExactWithin", apart := false, narrowed := true }
def FnExactWithinUptoSaid : Prop := fnExactWithinUptoRow.holds Try.pinned (OpenSpec.upto fnExactWithinSpec)

/-- 'laws.FnExactCapped', WHERE WHAT IT READS IS OF BULK AT MOST 1048576: true; the input reads as it did. -/
def fnExactCappedUptoRow : OpenClaim := { program := "ytciccdjjjdihdaa", sum := "0066182c922eac9aad23977217e423943950685c0897cef8ac12ae5def8e30f3", func := "loop.example/g00663/laws.FnExactCapped", spec := "fnExactCapped", apart := false, narrowed := true }
def FnExactCappedUptoSaid : Prop := fnExactCappedUptoRow.holds Try.pinned (OpenSpec.upto fnExactCappedSpec)

/-- 'laws.FnExactMyersStart', WHERE WHAT IT READS IS OF BULK AT MOST 1048576: true; the input reads as it did. -/
def fnExactMyersStartUptoRow : OpenClaim := { program := "ytciccdjjjdihdaa", sum := "0066182c922eac9aad23977217e423943950685c0897cef8ac12ae5def8e30f3", func := "loop.example/g00663/laws.FnExactMyersStart", spec := "fnExactMyersStart", apart := false, narrowed := true }
def FnExactMyersStartUptoSaid : Prop := fnExactMyersStartUptoRow.holds Try.pinned (OpenSpec.upto fnExactMyersStartSpec)

/-- 'laws.FnExactNumsLess', WHERE WHAT IT READS IS OF BULK AT MOST 1048576: true; the input reads as it did. -/
def fnExactNumsLessUptoRow : OpenClaim := { program := "ytciccdjjjdihdaa", sum := "0066182c922eac9aad23977217e423943950685c0897cef8ac12ae5def8e30f3", func := "loop.example/g00663/laws.FnExactNumsLess", spec := "fnExactNumsLess", apart := false, narrowed := true }
def FnExactNumsLessUptoSaid : Prop := fnExactNumsLessUptoRow.holds Try.pinned (OpenSpec.upto fnExactNumsLessSpec)

/-- 'laws.FnExactBytesSelect', WHERE WHAT IT READS IS OF BULK AT MOST 1048576: true; the input reads as it did. -/
def fnExactBytesSelectUptoRow : OpenClaim := { program := "ytciccdjjjdihdaa", sum := "0066182c922eac9aad23977217e423943950685c0897cef8ac12ae5def8e30f3", func := "loop.example/g00663/laws.FnExactBytesSelect", spec := "fnExactBytesSelect", apart := false, narrowed := true }
def FnExactBytesSelectUptoSaid : Prop := fnExactBytesSelectUptoRow.holds Try.pinned (OpenSpec.upto fnExactBytesSelectSpec)

/-- 'laws.FnMasks', WHERE WHAT IT READS IS OF BULK AT MOST 1048576: true; the input reads as it did. -/
def fnMasksUptoRow : OpenClaim := { program := "ytciccdjjjdihdaa", sum := "0066182c922eac9aad23977217e423943950685c0897cef8ac12ae5def8e30f3", func := "loop.example/g00663/laws.FnMasks", spec := "fnMasks", apart := false, narrowed := true }
def FnMasksUptoSaid : Prop := fnMasksUptoRow.holds Try.pinned (OpenSpec.upto fnMasksSpec)

/-- 'laws.FnExactEditCost', WHERE WHAT IT READS IS OF BULK AT MOST 1048576: true; the input reads as it did. -/
def fnExactEditCostUptoRow : OpenClaim := { program := "ytciccdjjjdihdaa", sum := "0066182c922eac9aad23977217e423943950685c0897cef8ac12ae5def8e30f3", func := "loop.example/g00663/laws.FnExactEditCost", spec := "fnExactEditCost", apart := false, narrowed := true }
def FnExactEditCostUptoSaid : Prop := fnExactEditCostUptoRow.holds Try.pinned (OpenSpec.upto fnExactEditCostSpec)

/-- 'laws.FnExactBitsOk', WHERE WHAT IT READS IS OF BULK AT MOST 1048576: true; the input reads as it did. -/
def fnExactBitsOkUptoRow : OpenClaim := { program := "ytciccdjjjdihdaa", sum := "0066182c922eac9aad23977217e423943950685c0897cef8ac12ae5def8e30f3", func := "loop.example/g00663/laws.FnExactBitsOk", spec := "fnExactBitsOk", apart := false, narrowed := true }
def FnExactBitsOkUptoSaid : Prop := fnExactBitsOkUptoRow.holds Try.pinned (OpenSpec.upto fnExactBitsOkSpec)

/-- 'laws.FnExactBytesSwap', WHERE WHAT IT READS IS OF BULK AT MOST 1048576: true; the input reads as it did. -/
def fnExactBytesSwapUptoRow : OpenClaim := { program := "ytciccdjjjdihdaa", sum := "0066182c922eac9aad23977217e423943950685c0897cef8ac12ae5def8e30f3", func := "loop.example/g00663/laws.FnExactBytesSwap", spec := "fnExactBytesSwap", apart := false, narrowed := true }
def FnExactBytesSwapUptoSaid : Prop := fnExactBytesSwapUptoRow.holds Try.pinned (OpenSpec.upto fnExactBytesSwapSpec)

end Rows
end Go.Proofs.Ytciccdjjjdihdaa
