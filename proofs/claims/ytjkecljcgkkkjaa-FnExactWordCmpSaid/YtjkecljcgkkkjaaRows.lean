/-
  No cell of these rows narrows 'for every input' (looked for: loops, veiled, ifaces, maps, wideKeys, modest, calm, conditions, laid).
  DERIVED. THE GIVEN ROWS OF THIS SEAT. 11 by the template 'for every input the law returns true; each argument reads behind the call as it read before'; 0 by the template 'total and deterministic' (their statements: YtjkecljcgkkkjaaTotals.lean).
  GIVEN WITH THE SEED: the statements are not yours to turn. If you find one false, say at which input.
  Laid BY PROGRAM, IN A SANDBOX (cutbox-rows.mjs): the forced cells as the released guide's own fill.sh prints them over the translation d3d06c57140fea53… (all of the seat's roots in one cut). By AI agents, Wed Nov 11 2026. No macro, syntax, notation, axiom, sorry.
-/
import Derived.Test.YtjkecljcgkkkjaaChecked
import GoSem.Claim
import GoSem.ClaimJoined
import GoSem.ClaimMapViews
import Derived.JoinedTies
import Derived.KernelRfl
namespace Go.Proofs.Ytjkecljcgkkkjaa
/- THE CELL 'sum', in the pinned program and in every row, IS THE sha256 OF THE DUMP (.gsa) THAT YtjkecljcgkkkjaaProg.lean LOADS. Nothing in Lean hashes anything: it is a label: what it is worth is what the hold of that sum in a sandbox is worth. -/
noncomputable def Try.pinned : Pinned := { name := "ytjkecljcgkkkjaa", sum := "d3d06c57140fea53a0a5c9dd7e4aad69f14d5693aec238697f707eef96d383af", checked := Try.checked }
namespace Rows
def none {H : Type} : Left H := { results := [], args := [] }

/-- 'laws.FnExactConstants': WHATEVER THE INPUT: true; the input reads as it did. -/
def fnExactConstantsSpec : ChangeSpec := { name := "fnExactConstants", fn := fun _ => fun
  | [] => { results := [.lit (.bool true)], args := [] }
  | _ => none }
def fnExactConstantsRow : OpenClaim := { program := "ytjkecljcgkkkjaa", sum := "d3d06c57140fea53a0a5c9dd7e4aad69f14d5693aec238697f707eef96d383af", func := "loop.example/g00663/laws.FnExactConstants", spec := "fnExactConstants", apart := false }
def FnExactConstantsSaid : Prop := fnExactConstantsRow.holds Try.pinned (OpenSpec.ofChange fnExactConstantsSpec)

/-- ITS FALSE NEIGHBOUR: 'it returns false'. Refute it at one input. -/
def fnExactConstantsWrong : ChangeSpec := { name := "fnExactConstants", fn := fun _ => fun
  | [] => { results := [.lit (.bool false)], args := [] }
  | _ => none }
def FnExactConstantsWrongFalsely : Prop := fnExactConstantsRow.holds Try.pinned (OpenSpec.ofChange fnExactConstantsWrong)

/-- 'laws.FnExactMaskEq': WHATEVER THE INPUT: true; the input reads as it did. -/
def fnExactMaskEqSpec : ChangeSpec := { name := "fnExactMaskEq", fn := fun _ => fun
  | [d1, d2] => { results := [.lit (.bool true)], args := [d1, d2] }
  | _ => none }
def fnExactMaskEqRow : OpenClaim := { program := "ytjkecljcgkkkjaa", sum := "d3d06c57140fea53a0a5c9dd7e4aad69f14d5693aec238697f707eef96d383af", func := "loop.example/g00663/laws.FnExactMaskEq", spec := "fnExactMaskEq", apart := false }
def FnExactMaskEqSaid : Prop := fnExactMaskEqRow.holds Try.pinned (OpenSpec.ofChange fnExactMaskEqSpec)

/-- ITS FALSE NEIGHBOUR: 'it returns false'. Refute it at one input. -/
def fnExactMaskEqWrong : ChangeSpec := { name := "fnExactMaskEq", fn := fun _ => fun
  | [d1, d2] => { results := [.lit (.bool false)], args := [d1, d2] }
  | _ => none }
def FnExactMaskEqWrongFalsely : Prop := fnExactMaskEqRow.holds Try.pinned (OpenSpec.ofChange fnExactMaskEqWrong)

/-- 'laws.FnExactMaskLess': WHATEVER THE INPUT: true; the input reads as it did. -/
def fnExactMaskLessSpec : ChangeSpec := { name := "fnExactMaskLess", fn := fun _ => fun
  | [d1, d2] => { results := [.lit (.bool true)], args := [d1, d2] }
  | _ => none }
def fnExactMaskLessRow : OpenClaim := { program := "ytjkecljcgkkkjaa", sum := "d3d06c57140fea53a0a5c9dd7e4aad69f14d5693aec238697f707eef96d383af", func := "loop.example/g00663/laws.FnExactMaskLess", spec := "fnExactMaskLess", apart := false }
def FnExactMaskLessSaid : Prop := fnExactMaskLessRow.holds Try.pinned (OpenSpec.ofChange fnExactMaskLessSpec)

/-- ITS FALSE NEIGHBOUR: 'it returns false'. Refute it at one input. -/
def fnExactMaskLessWrong : ChangeSpec := { name := "fnExactMaskLess", fn := fun _ => fun
  | [d1, d2] => { results := [.lit (.bool false)], args := [d1, d2] }
  | _ => none }
def FnExactMaskLessWrongFalsely : Prop := fnExactMaskLessRow.holds Try.pinned (OpenSpec.ofChange fnExactMaskLessWrong)

/-- 'laws.FnExactSelect': WHATEVER THE INPUT: true; the input reads as it did. -/
def fnExactSelectSpec : ChangeSpec := { name := "fnExactSelect", fn := fun _ => fun
  | [d1, d2, d3] => { results := [.lit (.bool true)], args := [d1, d2, d3] }
  | _ => none }
def fnExactSelectRow : OpenClaim := { program := "ytjkecljcgkkkjaa", sum := "d3d06c57140fea53a0a5c9dd7e4aad69f14d5693aec238697f707eef96d383af", func := "loop.example/g00663/laws.FnExactSelect", spec := "fnExactSelect", apart := false }
def FnExactSelectSaid : Prop := fnExactSelectRow.holds Try.pinned (OpenSpec.ofChange fnExactSelectSpec)

/-- ITS FALSE NEIGHBOUR: 'it returns false'. Refute it at one input. -/
def fnExactSelectWrong : ChangeSpec := { name := "fnExactSelect", fn := fun _ => fun
  | [d1, d2, d3] => { results := [.lit (.bool false)], args := [d1, d2, d3] }
  | _ => none }
def FnExactSelectWrongFalsely : Prop := fnExactSelectRow.holds Try.pinned (OpenSpec.ofChange fnExactSelectWrong)

/-- 'laws.FnExactMaskLow': WHATEVER THE INPUT: true; the input reads as it did. -/
def fnExactMaskLowSpec : ChangeSpec := { name := "fnExactMaskLow", fn := fun _ => fun
  | [d] => { results := [.lit (.bool true)], args := [d] }
  | _ => none }
def fnExactMaskLowRow : OpenClaim := { program := "ytjkecljcgkkkjaa", sum := "d3d06c57140fea53a0a5c9dd7e4aad69f14d5693aec238697f707eef96d383af", func := "loop.example/g00663/laws.FnExactMaskLow", spec := "fnExactMaskLow", apart := false }
def FnExactMaskLowSaid : Prop := fnExactMaskLowRow.holds Try.pinned (OpenSpec.ofChange fnExactMaskLowSpec)

/-- ITS FALSE NEIGHBOUR: 'it returns false'. Refute it at one input. -/
def fnExactMaskLowWrong : ChangeSpec := { name := "fnExactMaskLow", fn := fun _ => fun
  | [d] => { results := [.lit (.bool false)], args := [d] }
  | _ => none }
def FnExactMaskLowWrongFalsely : Prop := fnExactMaskLowRow.holds Try.pinned (OpenSpec.ofChange fnExactMaskLowWrong)

/-- 'laws.FnExactLeafOf': WHATEVER THE INPUT: true; the input reads as it did. -/
def fnExactLeafOfSpec : ChangeSpec := { name := "fnExactLeafOf", fn := fun _ => fun
  | [d1, d2] => { results := [.lit (.bool true)], args := [d1, d2] }
  | _ => none }
def fnExactLeafOfRow : OpenClaim := { program := "ytjkecljcgkkkjaa", sum := "d3d06c57140fea53a0a5c9dd7e4aad69f14d5693aec238697f707eef96d383af", func := "loop.example/g00663/laws.FnExactLeafOf", spec := "fnExactLeafOf", apart := false }
def FnExactLeafOfSaid : Prop := fnExactLeafOfRow.holds Try.pinned (OpenSpec.ofChange fnExactLeafOfSpec)

/-- ITS FALSE NEIGHBOUR: 'it returns false'. Refute it at one input. -/
def fnExactLeafOfWrong : ChangeSpec := { name := "fnExactLeafOf", fn := fun _ => fun
  | [d1, d2] => { results := [.lit (.bool false)], args := [d1, d2] }
  | _ => none }
def FnExactLeafOfWrongFalsely : Prop := fnExactLeafOfRow.holds Try.pinned (OpenSpec.ofChange fnExactLeafOfWrong)

/-- 'laws.FnExactSwapIf': WHATEVER THE INPUT: true; the input reads as it did. -/
def fnExactSwapIfSpec : ChangeSpec := { name := "fnExactSwapIf", fn := fun _ => fun
  | [d1, d2, d3] => { results := [.lit (.bool true)], args := [d1, d2, d3] }
  | _ => none }
def fnExactSwapIfRow : OpenClaim := { program := "ytjkecljcgkkkjaa", sum := "d3d06c57140fea53a0a5c9dd7e4aad69f14d5693aec238697f707eef96d383af", func := "loop.example/g00663/laws.FnExactSwapIf", spec := "fnExactSwapIf", apart := false }
def FnExactSwapIfSaid : Prop := fnExactSwapIfRow.holds Try.pinned (OpenSpec.ofChange fnExactSwapIfSpec)

/-- ITS FALSE NEIGHBOUR: 'it returns false'. Refute it at one input. -/
def fnExactSwapIfWrong : ChangeSpec := { name := "fnExactSwapIf", fn := fun _ => fun
  | [d1, d2, d3] => { results := [.lit (.bool false)], args := [d1, d2, d3] }
  | _ => none }
def FnExactSwapIfWrongFalsely : Prop := fnExactSwapIfRow.holds Try.pinned (OpenSpec.ofChange fnExactSwapIfWrong)

/-- 'laws.FnExactWordOk': WHATEVER THE INPUT: true; the input reads as it did. -/
def fnExactWordOkSpec : ChangeSpec := { name := "fnExactWordOk", fn := fun _ => fun
  | [d] => { results := [.lit (.bool true)], args := [d] }
  | _ => none }
def fnExactWordOkRow : OpenClaim := { program := "ytjkecljcgkkkjaa", sum := "d3d06c57140fea53a0a5c9dd7e4aad69f14d5693aec238697f707eef96d383af", func := "loop.example/g00663/laws.FnExactWordOk", spec := "fnExactWordOk", apart := false }
def FnExactWordOkSaid : Prop := fnExactWordOkRow.holds Try.pinned (OpenSpec.ofChange fnExactWordOkSpec)

/-- ITS FALSE NEIGHBOUR: 'it returns false'. Refute it at one input. -/
def fnExactWordOkWrong : ChangeSpec := { name := "fnExactWordOk", fn := fun _ => fun
  | [d] => { results := [.lit (.bool false)], args := [d] }
  | _ => none }
def FnExactWordOkWrongFalsely : Prop := fnExactWordOkRow.holds Try.pinned (OpenSpec.ofChange fnExactWordOkWrong)

/-- 'laws.FnExactWordCmp': WHATEVER THE INPUT: true; the input reads as it did. -/
def fnExactWordCmpSpec : ChangeSpec := { name := "fnExactWordCmp", fn := fun _ => fun
  | [d1, d2] => { results := [.lit (.bool true)], args := [d1, d2] }
  | _ => none }
def fnExactWordCmpRow : OpenClaim := { program := "ytjkecljcgkkkjaa", sum := "d3d06c57140fea53a0a5c9dd7e4aad69f14d5693aec238697f707eef96d383af", func := "loop.example/g00663/laws.FnExactWordCmp", spec := "fnExactWordCmp", inPlace := ["internal/bytealg.abigen_runtime_cmpstring"], apart := false }
def FnExactWordCmpSaid : Prop := fnExactWordCmpRow.holds Try.pinned (OpenSpec.ofChange fnExactWordCmpSpec)

/-- ITS FALSE NEIGHBOUR: 'it returns false'. Refute it at one input. -/
def fnExactWordCmpWrong : ChangeSpec := { name := "fnExactWordCmp", fn := fun _ => fun
  | [d1, d2] => { results := [.lit (.bool false)], args := [d1, d2] }
  | _ => none }
def FnExactWordCmpWrongFalsely : Prop := fnExactWordCmpRow.holds Try.pinned (OpenSpec.ofChange fnExactWordCmpWrong)

/-- 'laws.FnExactMyersPeq': WHATEVER THE INPUT: true; the input reads as it did. -/
def fnExactMyersPeqSpec : ChangeSpec := { name := "fnExactMyersPeq", fn := fun _ => fun
  | [d1, d2] => { results := [.lit (.bool true)], args := [d1, d2] }
  | _ => none }
def fnExactMyersPeqRow : OpenClaim := { program := "ytjkecljcgkkkjaa", sum := "d3d06c57140fea53a0a5c9dd7e4aad69f14d5693aec238697f707eef96d383af", func := "loop.example/g00663/laws.FnExactMyersPeq", spec := "fnExactMyersPeq", apart := false }
def FnExactMyersPeqSaid : Prop := fnExactMyersPeqRow.holds Try.pinned (OpenSpec.ofChange fnExactMyersPeqSpec)

/-- ITS FALSE NEIGHBOUR: 'it returns false'. Refute it at one input. -/
def fnExactMyersPeqWrong : ChangeSpec := { name := "fnExactMyersPeq", fn := fun _ => fun
  | [d1, d2] => { results := [.lit (.bool false)], args := [d1, d2] }
  | _ => none }
def FnExactMyersPeqWrongFalsely : Prop := fnExactMyersPeqRow.holds Try.pinned (OpenSpec.ofChange fnExactMyersPeqWrong)

/-- 'laws.FnExactBytesEq': WHATEVER THE INPUT: true; the input reads as it did. -/
def fnExactBytesEqSpec : ChangeSpec := { name := "fnExactBytesEq", fn := fun _ => fun
  | [d1, d2] => { results := [.lit (.bool true)], args := [d1, d2] }
  | _ => none }
def fnExactBytesEqRow : OpenClaim := { program := "ytjkecljcgkkkjaa", sum := "d3d06c57140fea53a0a5c9dd7e4aad69f14d5693aec238697f707eef96d383af", func := "loop.example/g00663/laws.FnExactBytesEq", spec := "fnExactBytesEq", apart := false }
def FnExactBytesEqSaid : Prop := fnExactBytesEqRow.holds Try.pinned (OpenSpec.ofChange fnExactBytesEqSpec)

/-- ITS FALSE NEIGHBOUR: 'it returns false'. Refute it at one input. -/
def fnExactBytesEqWrong : ChangeSpec := { name := "fnExactBytesEq", fn := fun _ => fun
  | [d1, d2] => { results := [.lit (.bool false)], args := [d1, d2] }
  | _ => none }
def FnExactBytesEqWrongFalsely : Prop := fnExactBytesEqRow.holds Try.pinned (OpenSpec.ofChange fnExactBytesEqWrong)

/- THE SECOND FORM. 'bulk': how many values and letters a reading holds, each counted each time it is reached (what is shared counts as often as it is met; a slice's spare places count too). A statement '..UptoSaid' is the law's where the arguments, and the package variables that the reading takes, are together of bulk at most 1048576: NARROWER than '..Said'. Prove '..Said' where nothing that the law and all that it calls make is longer than what came in: it says more and counts as full. Else prove '..UptoSaid'. A law counts once. -/
mutual
def uptoBulk {H : Type} : DataW H → Nat
  | .lit (.string bytes) => bytes.length + 1
  | .lit _ => 1
  | .nil => 1
  | .ptr d => uptoBulk d + 1
  | .slice elems spare => uptoBulkAll elems + uptoBulkAll spare + 1
  | .agg parts => uptoBulkAll parts + 1
  | .iface _ d => uptoBulk d + 1
  | .map entries => uptoBulkEntries entries + 1
  | .held _ => 1
def uptoBulkAll {H : Type} : List (DataW H) → Nat
  | [] => 0
  | d :: r => uptoBulk d + uptoBulkAll r
def uptoBulkEntries {H : Type} : List (Lit × DataW H) → Nat
  | [] => 0
  | x :: r => uptoBulkEntry x + uptoBulkEntries r
def uptoBulkEntry {H : Type} : Lit × DataW H → Nat
  | (.string bytes, d) => bytes.length + uptoBulk d + 1
  | (_, d) => uptoBulk d + 1
 end
def uptoSmall : (H : Type) → List (DataW H) → Bool := fun _ ds => decide (uptoBulkAll ds ≤ 1048576)
def OpenSpec.upto (s : _root_.Go.ChangeSpec) : _root_.Go.OpenSpec := { _root_.Go.OpenSpec.ofChange s with cond := some uptoSmall }

/-- 'laws.FnExactConstants', WHERE WHAT IT READS IS OF BULK AT MOST 1048576: true; the input reads as it did. -/
def fnExactConstantsUptoRow : OpenClaim := { program := "ytjkecljcgkkkjaa", sum := "d3d06c57140fea53a0a5c9dd7e4aad69f14d5693aec238697f707eef96d383af", func := "loop.example/g00663/laws.FnExactConstants", spec := "fnExactConstants", apart := false, narrowed := true }
def FnExactConstantsUptoSaid : Prop := fnExactConstantsUptoRow.holds Try.pinned (OpenSpec.upto fnExactConstantsSpec)

/-- 'laws.FnExactMaskEq', WHERE WHAT IT READS IS OF BULK AT MOST 1048576: true; the input reads as it did. -/
def fnExactMaskEqUptoRow : OpenClaim := { program := "ytjkecljcgkkkjaa", sum := "d3d06c57140fea53a0a5c9dd7e4aad69f14d5693aec238697f707eef96d383af", func := "loop.example/g00663/laws.FnExactMaskEq", spec := "fnExactMaskEq", apart := false, narrowed := true }
def FnExactMaskEqUptoSaid : Prop := fnExactMaskEqUptoRow.holds Try.pinned (OpenSpec.upto fnExactMaskEqSpec)

/-- 'laws.FnExactMaskLess', WHERE WHAT IT READS IS OF BULK AT MOST 1048576: true; the input reads as it did. -/
def fnExactMaskLessUptoRow : OpenClaim := { program := "ytjkecljcgkkkjaa", sum := "d3d06c57140fea53a0a5c9dd7e4aad69f14d5693aec238697f707eef96d383af", func := "loop.example/g00663/laws.FnExactMaskLess", spec := "fnExactMaskLess", apart := false, narrowed := true }
def FnExactMaskLessUptoSaid : Prop := fnExactMaskLessUptoRow.holds Try.pinned (OpenSpec.upto fnExactMaskLessSpec)

/-- 'laws.FnExactSelect', WHERE WHAT IT READS IS OF BULK AT MOST 1048576: true; the input reads as it did. -/
def fnExactSelectUptoRow : OpenClaim := { program := "ytjkecljcgkkkjaa", sum := "d3d06c57140fea53a0a5c9dd7e4aad69f14d5693aec238697f707eef96d383af", func := "loop.example/g00663/laws.FnExactSelect", spec := "fnExactSelect", apart := false, narrowed := true }
def FnExactSelectUptoSaid : Prop := fnExactSelectUptoRow.holds Try.pinned (OpenSpec.upto fnExactSelectSpec)

/-- 'laws.FnExactMaskLow', WHERE WHAT IT READS IS OF BULK AT MOST 1048576: true; the input reads as it did. -/
def fnExactMaskLowUptoRow : OpenClaim := { program := "ytjkecljcgkkkjaa", sum := "d3d06c57140fea53a0a5c9dd7e4aad69f14d5693aec238697f707eef96d383af", func := "loop.example/g00663/laws.FnExactMaskLow", spec := "fnExactMaskLow", apart := false, narrowed := true }
def FnExactMaskLowUptoSaid : Prop := fnExactMaskLowUptoRow.holds Try.pinned (OpenSpec.upto fnExactMaskLowSpec)

/-- 'laws.FnExactLeafOf', WHERE WHAT IT READS IS OF BULK AT MOST 1048576: true; the input reads as it did. -/
def fnExactLeafOfUptoRow : OpenClaim := { program := "ytjkecljcgkkkjaa", sum := "d3d06c57140fea53a0a5c9dd7e4aad69f14d5693aec238697f707eef96d383af", func := "loop.example/g00663/laws.FnExactLeafOf", spec := "fnExactLeafOf", apart := false, narrowed := true }
def FnExactLeafOfUptoSaid : Prop := fnExactLeafOfUptoRow.holds Try.pinned (OpenSpec.upto fnExactLeafOfSpec)

/-- 'laws.FnExactSwapIf', WHERE WHAT IT READS IS OF BULK AT MOST 1048576: true; the input reads as it did. -/
def fnExactSwapIfUptoRow : OpenClaim := { program := "ytjkecljcgkkkjaa", sum := "d3d06c57140fea53a0a5c9dd7e4aad69f14d5693aec238697f707eef96d383af", func := "loop.example/g00663/laws.FnExactSwapIf", spec := "fnExactSwapIf", apart := false, narrowed := true }
def FnExactSwapIfUptoSaid : Prop := fnExactSwapIfUptoRow.holds Try.pinned (OpenSpec.upto fnExactSwapIfSpec)

/-- 'laws.FnExactWordOk', WHERE WHAT IT READS IS OF BULK AT MOST 1048576: true; the input reads as it did. -/
def fnExactWordOkUptoRow : OpenClaim := { program := "ytjkecljcgkkkjaa", sum := "d3d06c57140fea53a0a5c9dd7e4aad69f14d5693aec238697f707eef96d383af", func := "loop.example/g00663/laws.FnExactWordOk", spec := "fnExactWordOk", apart := false, narrowed := true }
def FnExactWordOkUptoSaid : Prop := fnExactWordOkUptoRow.holds Try.pinned (OpenSpec.upto fnExactWordOkSpec)

/-- 'laws.FnExactWordCmp', WHERE WHAT IT READS IS OF BULK AT MOST 1048576: true; the input reads as it did. -/
def fnExactWordCmpUptoRow : OpenClaim := { program := "ytjkecljcgkkkjaa", sum := "d3d06c57140fea53a0a5c9dd7e4aad69f14d5693aec238697f707eef96d383af", func := "loop.example/g00663/laws.FnExactWordCmp", spec := "fnExactWordCmp", inPlace := ["internal/bytealg.abigen_runtime_cmpstring"], apart := false, narrowed := true }
def FnExactWordCmpUptoSaid : Prop := fnExactWordCmpUptoRow.holds Try.pinned (OpenSpec.upto fnExactWordCmpSpec)

/-- 'laws.FnExactMyersPeq', WHERE WHAT IT READS IS OF BULK AT MOST 1048576: true; the input reads as it did. -/
def fnExactMyersPeqUptoRow : OpenClaim := { program := "ytjkecljcgkkkjaa", sum := "d3d06c57140fea53a0a5c9dd7e4aad69f14d5693aec238697f707eef96d383af", func := "loop.example/g00663/laws.FnExactMyersPeq", spec := "fnExactMyersPeq", apart := false, narrowed := true }
def FnExactMyersPeqUptoSaid : Prop := fnExactMyersPeqUptoRow.holds Try.pinned (OpenSpec.upto fnExactMyersPeqSpec)

/-- 'laws.FnExactBytesEq', WHERE WHAT IT READS IS OF BULK AT MOST 1048576: true; the input reads as it did. -/
def fnExactBytesEqUptoRow : OpenClaim := { program := "ytjkecljcgkkkjaa", sum := "d3d06c57140fea53a0a5c9dd7e4aad69f14d5693aec238697f707eef96d383af", func := "loop.example/g00663/laws.FnExactBytesEq", spec := "fnExactBytesEq", apart := false, narrowed := true }
def FnExactBytesEqUptoSaid : Prop := fnExactBytesEqUptoRow.holds Try.pinned (OpenSpec.upto fnExactBytesEqSpec)

end Rows
end Go.Proofs.Ytjkecljcgkkkjaa
