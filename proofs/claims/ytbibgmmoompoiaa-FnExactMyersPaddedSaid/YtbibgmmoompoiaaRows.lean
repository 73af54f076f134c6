/-
  No cell of these rows narrows 'for every input' (looked for: loops, veiled, ifaces, maps, wideKeys, modest, calm, conditions, laid).
  DERIVED. THE GIVEN ROWS OF THIS SEAT. 5 by the template 'for every input the law returns true; each argument reads behind the call as it read before'; 0 by the template 'total and deterministic' (their statements: YtbibgmmoompoiaaTotals.lean).
  GIVEN WITH THE SEED: the statements are not yours to turn. If you find one false, say at which input.
  Laid BY PROGRAM, IN A SANDBOX (cutbox-rows.mjs): the forced cells as the released guide's own fill.sh prints them over the translation 3413fcd58701c9e5… (all of the seat's roots in one cut). By AI agents, Wed Nov 11 2026. No macro, syntax, notation, axiom, sorry.
-/
import Derived.Test.YtbibgmmoompoiaaChecked
import GoSem.Claim
import GoSem.ClaimJoined
import GoSem.ClaimMapViews
import Derived.JoinedTies
import Derived.KernelRfl
namespace Go.Proofs.Ytbibgmmoompoiaa
/- THE CELL 'sum', in the pinned program and in every row, IS THE sha256 OF THE DUMP (.gsa) THAT YtbibgmmoompoiaaProg.lean LOADS. Nothing in Lean hashes anything: it is a label: what it is worth is what the hold of that sum in a sandbox is worth. -/
noncomputable def Try.pinned : Pinned := { name := "ytbibgmmoompoiaa", sum := "3413fcd58701c9e5b9dd7ea84259e95273d60db414412c3920461a5313e38694", checked := Try.checked }
namespace Rows
def none {H : Type} : Left H := { results := [], args := [] }

/-- 'laws.FnExactPad': WHATEVER THE INPUT: true; the input reads as it did. -/
def fnExactPadSpec : ChangeSpec := { name := "fnExactPad", fn := fun _ => fun
  | [d] => { results := [.lit (.bool true)], args := [d] }
  | _ => none }
def fnExactPadRow : OpenClaim := { program := "ytbibgmmoompoiaa", sum := "3413fcd58701c9e5b9dd7ea84259e95273d60db414412c3920461a5313e38694", func := "loop.example/g00663/laws.FnExactPad", spec := "fnExactPad", apart := false }
def FnExactPadSaid : Prop := fnExactPadRow.holds Try.pinned (OpenSpec.ofChange fnExactPadSpec)

/-- ITS FALSE NEIGHBOUR: 'it returns false'. Refute it at one input. -/
def fnExactPadWrong : ChangeSpec := { name := "fnExactPad", fn := fun _ => fun
  | [d] => { results := [.lit (.bool false)], args := [d] }
  | _ => none }
def FnExactPadWrongFalsely : Prop := fnExactPadRow.holds Try.pinned (OpenSpec.ofChange fnExactPadWrong)

/-- 'laws.FnExactUnpad': WHATEVER THE INPUT: true; the input reads as it did. -/
def fnExactUnpadSpec : ChangeSpec := { name := "fnExactUnpad", fn := fun _ => fun
  | [d] => { results := [.lit (.bool true)], args := [d] }
  | _ => none }
def fnExactUnpadRow : OpenClaim := { program := "ytbibgmmoompoiaa", sum := "3413fcd58701c9e5b9dd7ea84259e95273d60db414412c3920461a5313e38694", func := "loop.example/g00663/laws.FnExactUnpad", spec := "fnExactUnpad", apart := false }
def FnExactUnpadSaid : Prop := fnExactUnpadRow.holds Try.pinned (OpenSpec.ofChange fnExactUnpadSpec)

/-- ITS FALSE NEIGHBOUR: 'it returns false'. Refute it at one input. -/
def fnExactUnpadWrong : ChangeSpec := { name := "fnExactUnpad", fn := fun _ => fun
  | [d] => { results := [.lit (.bool false)], args := [d] }
  | _ => none }
def FnExactUnpadWrongFalsely : Prop := fnExactUnpadRow.holds Try.pinned (OpenSpec.ofChange fnExactUnpadWrong)

/-- 'laws.FnPadBack': WHATEVER THE INPUT: true; the input reads as it did. -/
def fnPadBackSpec : ChangeSpec := { name := "fnPadBack", fn := fun _ => fun
  | [d] => { results := [.lit (.bool true)], args := [d] }
  | _ => none }
def fnPadBackRow : OpenClaim := { program := "ytbibgmmoompoiaa", sum := "3413fcd58701c9e5b9dd7ea84259e95273d60db414412c3920461a5313e38694", func := "loop.example/g00663/laws.FnPadBack", spec := "fnPadBack", apart := false }
def FnPadBackSaid : Prop := fnPadBackRow.holds Try.pinned (OpenSpec.ofChange fnPadBackSpec)

/-- ITS FALSE NEIGHBOUR: 'it returns false'. Refute it at one input. -/
def fnPadBackWrong : ChangeSpec := { name := "fnPadBack", fn := fun _ => fun
  | [d] => { results := [.lit (.bool false)], args := [d] }
  | _ => none }
def FnPadBackWrongFalsely : Prop := fnPadBackRow.holds Try.pinned (OpenSpec.ofChange fnPadBackWrong)

/-- 'laws.FnExactMyersPadded': WHATEVER THE INPUT: true; the input reads as it did. -/
def fnExactMyersPaddedSpec : ChangeSpec := { name := "fnExactMyersPadded", fn := fun _ => fun
  | [d1, d2] => { results := [.lit (.bool true)], args := [d1, d2] }
  | _ => none }
def fnExactMyersPaddedRow : OpenClaim := { program := "ytbibgmmoompoiaa", sum := "3413fcd58701c9e5b9dd7ea84259e95273d60db414412c3920461a5313e38694", func := "loop.example/g00663/laws.FnExactMyersPadded", spec := "fnExactMyersPadded", apart := false }
def FnExactMyersPaddedSaid : Prop := fnExactMyersPaddedRow.holds Try.pinned (OpenSpec.ofChange fnExactMyersPaddedSpec)

/-- ITS FALSE NEIGHBOUR: 'it returns false'. Refute it at one input. -/
def fnExactMyersPaddedWrong : ChangeSpec := { name := "fnExactMyersPadded", fn := fun _ => fun
  | [d1, d2] => { results := [.lit (.bool false)], args := [d1, d2] }
  | _ => none }
def FnExactMyersPaddedWrongFalsely : Prop := fnExactMyersPaddedRow.holds Try.pinned (OpenSpec.ofChange fnExactMyersPaddedWrong)

/-- 'laws.FnMyers': WHATEVER THE INPUT: true; the input reads as it did. -/
def fnMyersSpec : ChangeSpec := { name := "fnMyers", fn := fun _ => fun
  | [d] => { results := [.lit (.bool true)], args := [d] }
  | _ => none }
def fnMyersRow : OpenClaim := { program := "ytbibgmmoompoiaa", sum := "3413fcd58701c9e5b9dd7ea84259e95273d60db414412c3920461a5313e38694", func := "loop.example/g00663/laws.FnMyers", spec := "fnMyers", apart := false }
def FnMyersSaid : Prop := fnMyersRow.holds Try.pinned (OpenSpec.ofChange fnMyersSpec)

/-- ITS FALSE NEIGHBOUR: 'it returns false'. Refute it at one input. -/
def fnMyersWrong : ChangeSpec := { name := "fnMyers", fn := fun _ => fun
  | [d] => { results := [.lit (.bool false)], args := [d] }
  | _ => none }
def FnMyersWrongFalsely : Prop := fnMyersRow.holds Try.pinned (OpenSpec.ofChange fnMyersWrong)

/- THE SECOND FORM. 'bulk': how many values and letters a reading holds, each counted each time it is reached (what is shared counts as often as it is met; a slice's spare places count too). A statement '..UptoSaid' is the law's where the arguments, and the package variables that the reading takes, are together of bulk at most 1048576: NARROWER than '..Said'. Prove '..Said' where nothing that the law and all that it calls make is longer than what came in: it says more and counts as full. Else prove '..UptoSaid'. A law counts once. -/
mutual
def uptoBulk {H : Type} : DataW H → Nat
  | .lit (.string bytes) => bytes.length + 1
  | .lit _ => 1
  | .nil => 1
  | .ptr d => uptoBulk d + 1
  | .slice elems spare => uptoBulkAll elems + uptoBulkAll spare + 1
  | .agg parts => uptoBulkAll parts + 1
  | .iface _ d => uptoBulk d + 1
  | .map entries => uptoBulkEntries entries + 1
  | .held _ => 1
def uptoBulkAll {H : Type} : List (DataW H) → Nat
  | [] => 0
  | d :: r => uptoBulk d + uptoBulkAll r
def uptoBulkEntries {H : Type} : List (Lit × DataW H) → Nat
  | [] => 0
  | x :: r => uptoBulkEntry x + uptoBulkEntries r
def uptoBulkEntry {H : Type} : Lit × DataW H → Nat
  | (.string bytes, d) => bytes.length + uptoBulk d + 1
  | (_, d) => uptoBulk d + 1
 end
def uptoSmall : (H : Type) → List (DataW H) → Bool := fun _ ds => decide (uptoBulkAll ds ≤ 1048576)
def OpenSpec.upto (s : _root_.Go.ChangeSpec) : _root_.Go.OpenSpec := { _root_.Go.OpenSpec.ofChange s with cond := some uptoSmall }

/-- 'laws.FnExactPad', WHERE WHAT IT READS IS OF BULK AT MOST 1048576: true; the input reads as it did. -/
def fnExactPadUptoRow : OpenClaim := { program := "ytbibgmmoompoiaa", sum := "3413fcd58701c9e5b9dd7ea84259e95273d60db414412c3920461a5313e38694", func := "loop.example/g00663/laws.FnExactPad", spec := "fnExactPad", apart := false, narrowed := true }
def FnExactPadUptoSaid : Prop := fnExactPadUptoRow.holds Try.pinned (OpenSpec.upto fnExactPadSpec)

/-- 'laws.FnExactUnpad', WHERE WHAT IT READS IS OF BULK AT MOST 1048576: true; the input reads as it did. -/
def fnExactUnpadUptoRow : OpenClaim := { program := "ytbibgmmoompoiaa", sum := "3413fcd58701c9e5b9dd7ea84259e95273d60db414412c3920461a5313e38694", func := "loop.example/g00663/laws.FnExactUnpad", spec := "fnExactUnpad", apart := false, narrowed := true }
def FnExactUnpadUptoSaid : Prop := fnExactUnpadUptoRow.holds Try.pinned (OpenSpec.upto fnExactUnpadSpec)

/-- 'laws.FnPadBack', WHERE WHAT IT READS IS OF BULK AT MOST 1048576: true; the input reads as it did. -/
def fnPadBackUptoRow : OpenClaim := { program := "ytbibgmmoompoiaa", sum := "3413fcd58701c9e5b9dd7ea84259e95273d60db414412c3920461a5313e38694", func := "loop.example/g00663/laws.FnPadBack", spec := "fnPadBack", apart := false, narrowed := true }
def FnPadBackUptoSaid : Prop := fnPadBackUptoRow.holds Try.pinned (OpenSpec.upto fnPadBackSpec)

/-- 'laws.FnExactMyersPadded', WHERE WHAT IT READS IS OF BULK AT MOST 1048576: true; the input reads as it did. -/
def fnExactMyersPaddedUptoRow : OpenClaim := { program := "ytbibgmmoompoiaa", sum := "3413fcd58701c9e5b9dd7ea84259e95273d60db414412c3920461a5313e38694", func := "loop.example/g00663/laws.FnExactMyersPadded", spec := "fnExactMyersPadded", apart := false, narrowed := true }
def FnExactMyersPaddedUptoSaid : Prop := fnExactMyersPaddedUptoRow.holds Try.pinned (OpenSpec.upto fnExactMyersPaddedSpec)

/-- 'laws.FnMyers', WHERE WHAT IT READS IS OF BULK AT MOST 1048576: true; the input reads as it did. -/
def fnMyersUptoRow : OpenClaim := { program := "ytbibgmmoompoiaa", sum := "3413fcd58701c9e5b9dd7ea84259e95273d60db414412c3920461a5313e38694", func := "loop.example/g00663/laws.FnMyers", spec := "fnMyers", apart := false, narrowed := true }
def FnMyersUptoSaid : Prop := fnMyersUptoRow.holds Try.pinned (OpenSpec.upto fnMyersSpec)

end Rows
end Go.Proofs.Ytbibgmmoompoiaa
