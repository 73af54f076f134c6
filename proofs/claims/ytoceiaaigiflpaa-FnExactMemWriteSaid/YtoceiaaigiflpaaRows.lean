/-
  No cell of these rows narrows 'for every input' (looked for: loops, veiled, ifaces, maps, wideKeys, modest, calm, conditions, laid).
  DERIVED. THE GIVEN ROWS OF THIS SEAT. 5 by the template 'for every input the law returns true; each argument reads behind the call as it read before'; 0 by the template 'total and deterministic' (their statements: YtoceiaaigiflpaaTotals.lean).
  GIVEN WITH THE SEED: the statements are not yours to turn. If you find one false, say at which input.
  Laid BY PROGRAM, IN A SANDBOX (cutbox-rows.mjs): the forced cells as the released guide's own fill.sh prints them over the translation 67df37d8150dd08f… (all of the seat's roots in one cut). By AI agents, Wed Nov 11 2026. No macro, syntax, notation, axiom, sorry.
-/
import Derived.Test.YtoceiaaigiflpaaChecked
import GoSem.Claim
import GoSem.ClaimJoined
import GoSem.ClaimMapViews
import Derived.JoinedTies
import Derived.KernelRfl
namespace Go.Proofs.Ytoceiaaigiflpaa
/- THE CELL 'sum', in the pinned program and in every row, IS THE sha256 OF THE DUMP (.gsa) THAT YtoceiaaigiflpaaProg.lean LOADS. Nothing in Lean hashes anything: it is a label: what it is worth is what the hold of that sum in a sandbox is worth. -/
noncomputable def Try.pinned : Pinned := { name := "ytoceiaaigiflpaa", sum := "67df37d8150dd08f2903bf44b9251f152b3769ed87a1e1055112d658a3b41de0", checked := Try.checked }
namespace Rows
def none {H : Type} : Left H := { results := [], args := [] }

/-- 'laws.FnExactMemNew': WHATEVER THE INPUT: true; the input reads as it did. -/
def fnExactMemNewSpec : ChangeSpec := { name := "fnExactMemNew", fn := fun _ => fun
  | [d1, d2] => { results := [.lit (.bool true)], args := [d1, d2] }
  | _ => none }
def fnExactMemNewRow : OpenClaim := { program := "ytoceiaaigiflpaa", sum := "67df37d8150dd08f2903bf44b9251f152b3769ed87a1e1055112d658a3b41de0", func := "loop.example/g00663/laws.FnExactMemNew", spec := "fnExactMemNew", apart := false }
def FnExactMemNewSaid : Prop := fnExactMemNewRow.holds Try.pinned (OpenSpec.ofChange fnExactMemNewSpec)

/-- ITS FALSE NEIGHBOUR: 'it returns false'. Refute it at one input. -/
def fnExactMemNewWrong : ChangeSpec := { name := "fnExactMemNew", fn := fun _ => fun
  | [d1, d2] => { results := [.lit (.bool false)], args := [d1, d2] }
  | _ => none }
def FnExactMemNewWrongFalsely : Prop := fnExactMemNewRow.holds Try.pinned (OpenSpec.ofChange fnExactMemNewWrong)

/-- 'laws.FnExactMemOk': WHATEVER THE INPUT: true; the input reads as it did. -/
def fnExactMemOkSpec : ChangeSpec := { name := "fnExactMemOk", fn := fun _ => fun
  | [d] => { results := [.lit (.bool true)], args := [d] }
  | _ => none }
def fnExactMemOkRow : OpenClaim := { program := "ytoceiaaigiflpaa", sum := "67df37d8150dd08f2903bf44b9251f152b3769ed87a1e1055112d658a3b41de0", func := "loop.example/g00663/laws.FnExactMemOk", spec := "fnExactMemOk", unfollowed := true, recurses := true, apart := false }
def FnExactMemOkSaid : Prop := fnExactMemOkRow.holds Try.pinned (OpenSpec.ofChange fnExactMemOkSpec)

/-- ITS FALSE NEIGHBOUR: 'it returns false'. Refute it at one input. -/
def fnExactMemOkWrong : ChangeSpec := { name := "fnExactMemOk", fn := fun _ => fun
  | [d] => { results := [.lit (.bool false)], args := [d] }
  | _ => none }
def FnExactMemOkWrongFalsely : Prop := fnExactMemOkRow.holds Try.pinned (OpenSpec.ofChange fnExactMemOkWrong)

/-- 'laws.FnExactMemRead': WHATEVER THE INPUT: true; the input reads as it did. -/
def fnExactMemReadSpec : ChangeSpec := { name := "fnExactMemRead", fn := fun _ => fun
  | [d1, d2] => { results := [.lit (.bool true)], args := [d1, d2] }
  | _ => none }
def fnExactMemReadRow : OpenClaim := { program := "ytoceiaaigiflpaa", sum := "67df37d8150dd08f2903bf44b9251f152b3769ed87a1e1055112d658a3b41de0", func := "loop.example/g00663/laws.FnExactMemRead", spec := "fnExactMemRead", unfollowed := true, recurses := true, apart := false }
def FnExactMemReadSaid : Prop := fnExactMemReadRow.holds Try.pinned (OpenSpec.ofChange fnExactMemReadSpec)

/-- ITS FALSE NEIGHBOUR: 'it returns false'. Refute it at one input. -/
def fnExactMemReadWrong : ChangeSpec := { name := "fnExactMemRead", fn := fun _ => fun
  | [d1, d2] => { results := [.lit (.bool false)], args := [d1, d2] }
  | _ => none }
def FnExactMemReadWrongFalsely : Prop := fnExactMemReadRow.holds Try.pinned (OpenSpec.ofChange fnExactMemReadWrong)

/-- 'laws.FnExactMemSweep': WHATEVER THE INPUT: true; the input reads as it did. -/
def fnExactMemSweepSpec : ChangeSpec := { name := "fnExactMemSweep", fn := fun _ => fun
  | [d] => { results := [.lit (.bool true)], args := [d] }
  | _ => none }
def fnExactMemSweepRow : OpenClaim := { program := "ytoceiaaigiflpaa", sum := "67df37d8150dd08f2903bf44b9251f152b3769ed87a1e1055112d658a3b41de0", func := "loop.example/g00663/laws.FnExactMemSweep", spec := "fnExactMemSweep", unfollowed := true, recurses := true, apart := false }
def FnExactMemSweepSaid : Prop := fnExactMemSweepRow.holds Try.pinned (OpenSpec.ofChange fnExactMemSweepSpec)

/-- ITS FALSE NEIGHBOUR: 'it returns false'. Refute it at one input. -/
def fnExactMemSweepWrong : ChangeSpec := { name := "fnExactMemSweep", fn := fun _ => fun
  | [d] => { results := [.lit (.bool false)], args := [d] }
  | _ => none }
def FnExactMemSweepWrongFalsely : Prop := fnExactMemSweepRow.holds Try.pinned (OpenSpec.ofChange fnExactMemSweepWrong)

/-- 'laws.FnExactMemWrite': WHATEVER THE INPUT: true; the input reads as it did. -/
def fnExactMemWriteSpec : ChangeSpec := { name := "fnExactMemWrite", fn := fun _ => fun
  | [d1, d2, d3] => { results := [.lit (.bool true)], args := [d1, d2, d3] }
  | _ => none }
def fnExactMemWriteRow : OpenClaim := { program := "ytoceiaaigiflpaa", sum := "67df37d8150dd08f2903bf44b9251f152b3769ed87a1e1055112d658a3b41de0", func := "loop.example/g00663/laws.FnExactMemWrite", spec := "fnExactMemWrite", unfollowed := true, recurses := true, apart := false }
def FnExactMemWriteSaid : Prop := fnExactMemWriteRow.holds Try.pinned (OpenSpec.ofChange fnExactMemWriteSpec)

/-- ITS FALSE NEIGHBOUR: 'it returns false'. Refute it at one input. -/
def fnExactMemWriteWrong : ChangeSpec := { name := "fnExactMemWrite", fn := fun _ => fun
  | [d1, d2, d3] => { results := [.lit (.bool false)], args := [d1, d2, d3] }
  | _ => none }
def FnExactMemWriteWrongFalsely : Prop := fnExactMemWriteRow.holds Try.pinned (OpenSpec.ofChange fnExactMemWriteWrong)

/- THE SECOND FORM. 'bulk': how many values and letters a reading holds, each counted each time it is reached (what is shared counts as often as it is met; a slice's spare places count too). A statement '..UptoSaid' is the law's where the arguments, and the package variables that the reading takes, are together of bulk at most 1048576: NARROWER than '..Said'. Prove '..Said' where nothing that the law and all that it calls make is longer than what came in: it says more and counts as full. Else prove '..UptoSaid'. A law counts once. -/
mutual
def uptoBulk {H : Type} : DataW H → Nat
  | .lit (.string bytes) => bytes.length + 1
  | .lit _ => 1
  | .nil => 1
  | .ptr d => uptoBulk d + 1
  | .slice elems spare => uptoBulkAll elems + uptoBulkAll spare + 1
  | .agg parts => uptoBulkAll parts + 1
  | .iface _ d => uptoBulk d + 1
  | .map entries => uptoBulkEntries entries + 1
  | .held _ => 1
def uptoBulkAll {H : Type} : List (DataW H) → Nat
  | [] => 0
  | d :: r => uptoBulk d + uptoBulkAll r
def uptoBulkEntries {H : Type} : List (Lit × DataW H) → Nat
  | [] => 0
  | x :: r => uptoBulkEntry x + uptoBulkEntries r
def uptoBulkEntry {H : Type} : Lit × DataW H → Nat
  | (.string bytes, d) => bytes.length + uptoBulk d + 1
  | (_, d) => uptoBulk d + 1
 end
def uptoSmall : (H : Type) → List (DataW H) → Bool := fun _ ds => decide (uptoBulkAll ds ≤ 1048576)
def OpenSpec.upto (s : _root_.Go.ChangeSpec) : _root_.Go.OpenSpec := { _root_.Go.OpenSpec.ofChange s with cond := some uptoSmall }

/-- 'laws.FnExactMemNew', WHERE WHAT IT READS IS OF BULK AT MOST 1048576: true; the input reads as it did. -/
def fnExactMemNewUptoRow : OpenClaim := { program := "ytoceiaaigiflpaa", sum := "67df37d8150dd08f2903bf44b9251f152b3769ed87a1e1055112d658a3b41de0", func := "loop.example/g00663/laws.FnExactMemNew", spec := "fnExactMemNew", apart := false, narrowed := true }
def FnExactMemNewUptoSaid : Prop := fnExactMemNewUptoRow.holds Try.pinned (OpenSpec.upto fnExactMemNewSpec)

/-- 'laws.FnExactMemOk', WHERE WHAT IT READS IS OF BULK AT MOST 1048576: true; the input reads as it did. -/
def fnExactMemOkUptoRow : OpenClaim := { program := "ytoceiaaigiflpaa", sum := "67df37d8150dd08f2903bf44b9251f152b3769ed87a1e1055112d658a3b41de0", func := "loop.example/g00663/laws.FnExactMemOk", spec := "fnExactMemOk", unfollowed := true, recurses := true, apart := false, narrowed := true }
def FnExactMemOkUptoSaid : Prop := fnExactMemOkUptoRow.holds Try.pinned (OpenSpec.upto fnExactMemOkSpec)

/-- 'laws.FnExactMemRead', WHERE WHAT IT READS IS OF BULK AT MOST 1048576: true; the input reads as it did. -/
def fnExactMemReadUptoRow : OpenClaim := { program := "ytoceiaaigiflpaa", sum := "67df37d8150dd08f2903bf44b9251f152b3769ed87a1e1055112d658a3b41de0", func := "loop.example/g00663/laws.FnExactMemRead", spec := "fnExactMemRead", unfollowed := true, recurses := true, apart := false, narrowed := true }
def FnExactMemReadUptoSaid : Prop := fnExactMemReadUptoRow.holds Try.pinned (OpenSpec.upto fnExactMemReadSpec)

/-- 'laws.FnExactMemSweep', WHERE WHAT IT READS IS OF BULK AT MOST 1048576: true; the input reads as it did. -/
def fnExactMemSweepUptoRow : OpenClaim := { program := "ytoceiaaigiflpaa", sum := "67df37d8150dd08f2903bf44b9251f152b3769ed87a1e1055112d658a3b41de0", func := "loop.example/g00663/laws.FnExactMemSweep", spec := "fnExactMemSweep", unfollowed := true, recurses := true, apart := false, narrowed := true }
def FnExactMemSweepUptoSaid : Prop := fnExactMemSweepUptoRow.holds Try.pinned (OpenSpec.upto fnExactMemSweepSpec)

/-- 'laws.FnExactMemWrite', WHERE WHAT IT READS IS OF BULK AT MOST 1048576: true; the input reads as it did. -/
def fnExactMemWriteUptoRow : OpenClaim := { program := "ytoceiaaigiflpaa", sum := "67df37d8150dd08f2903bf44b9251f152b3769ed87a1e1055112d658a3b41de0", func := "loop.example/g00663/laws.FnExactMemWrite", spec := "fnExactMemWrite", unfollowed := true, recurses := true, apart := false, narrowed := true }
def FnExactMemWriteUptoSaid : Prop := fnExactMemWriteUptoRow.holds Try.pinned (OpenSpec.upto fnExactMemWriteSpec)

end Rows
end Go.Proofs.Ytoceiaaigiflpaa
