/-
  No cell of these rows narrows 'for every input' (looked for: loops, veiled, ifaces, maps, wideKeys, modest, calm, conditions, laid).
  DERIVED. THE GIVEN ROWS OF THIS SEAT. 5 by the template 'for every input the law returns true; each argument reads behind the call as it read before'; 0 by the template 'total and deterministic' (their statements: YtlconckfiilfoaaTotals.lean).
  GIVEN WITH THE SEED: the statements are not yours to turn. If you find one false, say at which input.
  Laid BY PROGRAM, IN A SANDBOX (cutbox-rows.mjs): the forced cells as the released guide's own fill.sh prints them over the translation 6e8b3309313cd404… (all of the seat's roots in one cut). By AI agents, Wed Nov 11 2026. No macro, syntax, notation, axiom, sorry.
-/
import Derived.Test.YtlconckfiilfoaaChecked
import GoSem.Claim
import GoSem.ClaimJoined
import GoSem.ClaimMapViews
import Derived.JoinedTies
import Derived.KernelRfl
namespace Go.Proofs.Ytlconckfiilfoaa
/- THE CELL 'sum', in the pinned program and in every row, IS THE sha256 OF THE DUMP (.gsa) THAT YtlconckfiilfoaaProg.lean LOADS. Nothing in Lean hashes anything: it is a label: what it is worth is what the hold of that sum in a sandbox is worth. -/
noncomputable def Try.pinned : Pinned := { name := "ytlconckfiilfoaa", sum := "6e8b3309313cd404b8446e9b7ea84e016cd2922039cf64cb7359c525c234075b", checked := Try.checked }
namespace Rows
def none {H : Type} : Left H := { results := [], args := [] }

/-- 'laws.FnExactTapeOk': WHATEVER THE INPUT: true; the input reads as it did. -/
def fnExactTapeOkSpec : ChangeSpec := { name := "fnExactTapeOk", fn := fun _ => fun
  | [d] => { results := [.lit (.bool true)], args := [d] }
  | _ => none }
def fnExactTapeOkRow : OpenClaim := { program := "ytlconckfiilfoaa", sum := "6e8b3309313cd404b8446e9b7ea84e016cd2922039cf64cb7359c525c234075b", func := "loop.example/g00663/laws.FnExactTapeOk", spec := "fnExactTapeOk", unfollowed := true, recurses := true, apart := false }
def FnExactTapeOkSaid : Prop := fnExactTapeOkRow.holds Try.pinned (OpenSpec.ofChange fnExactTapeOkSpec)

/-- ITS FALSE NEIGHBOUR: 'it returns false'. Refute it at one input. -/
def fnExactTapeOkWrong : ChangeSpec := { name := "fnExactTapeOk", fn := fun _ => fun
  | [d] => { results := [.lit (.bool false)], args := [d] }
  | _ => none }
def FnExactTapeOkWrongFalsely : Prop := fnExactTapeOkRow.holds Try.pinned (OpenSpec.ofChange fnExactTapeOkWrong)

/-- 'laws.FnExactTapeLeft': WHATEVER THE INPUT: true; the input reads as it did. -/
def fnExactTapeLeftSpec : ChangeSpec := { name := "fnExactTapeLeft", fn := fun _ => fun
  | [d] => { results := [.lit (.bool true)], args := [d] }
  | _ => none }
def fnExactTapeLeftRow : OpenClaim := { program := "ytlconckfiilfoaa", sum := "6e8b3309313cd404b8446e9b7ea84e016cd2922039cf64cb7359c525c234075b", func := "loop.example/g00663/laws.FnExactTapeLeft", spec := "fnExactTapeLeft", unfollowed := true, recurses := true, apart := false }
def FnExactTapeLeftSaid : Prop := fnExactTapeLeftRow.holds Try.pinned (OpenSpec.ofChange fnExactTapeLeftSpec)

/-- ITS FALSE NEIGHBOUR: 'it returns false'. Refute it at one input. -/
def fnExactTapeLeftWrong : ChangeSpec := { name := "fnExactTapeLeft", fn := fun _ => fun
  | [d] => { results := [.lit (.bool false)], args := [d] }
  | _ => none }
def FnExactTapeLeftWrongFalsely : Prop := fnExactTapeLeftRow.holds Try.pinned (OpenSpec.ofChange fnExactTapeLeftWrong)

/-- 'laws.FnExactTapeTake': WHATEVER THE INPUT: true; the input reads as it did. -/
def fnExactTapeTakeSpec : ChangeSpec := { name := "fnExactTapeTake", fn := fun _ => fun
  | [d] => { results := [.lit (.bool true)], args := [d] }
  | _ => none }
def fnExactTapeTakeRow : OpenClaim := { program := "ytlconckfiilfoaa", sum := "6e8b3309313cd404b8446e9b7ea84e016cd2922039cf64cb7359c525c234075b", func := "loop.example/g00663/laws.FnExactTapeTake", spec := "fnExactTapeTake", unfollowed := true, recurses := true, apart := false }
def FnExactTapeTakeSaid : Prop := fnExactTapeTakeRow.holds Try.pinned (OpenSpec.ofChange fnExactTapeTakeSpec)

/-- ITS FALSE NEIGHBOUR: 'it returns false'. Refute it at one input. -/
def fnExactTapeTakeWrong : ChangeSpec := { name := "fnExactTapeTake", fn := fun _ => fun
  | [d] => { results := [.lit (.bool false)], args := [d] }
  | _ => none }
def FnExactTapeTakeWrongFalsely : Prop := fnExactTapeTakeRow.holds Try.pinned (OpenSpec.ofChange fnExactTapeTakeWrong)

/-- 'laws.FnExactTapeNext': WHATEVER THE INPUT: true; the input reads as it did. -/
def fnExactTapeNextSpec : ChangeSpec := { name := "fnExactTapeNext", fn := fun _ => fun
  | [d1, d2] => { results := [.lit (.bool true)], args := [d1, d2] }
  | _ => none }
def fnExactTapeNextRow : OpenClaim := { program := "ytlconckfiilfoaa", sum := "6e8b3309313cd404b8446e9b7ea84e016cd2922039cf64cb7359c525c234075b", func := "loop.example/g00663/laws.FnExactTapeNext", spec := "fnExactTapeNext", unfollowed := true, recurses := true, apart := false }
def FnExactTapeNextSaid : Prop := fnExactTapeNextRow.holds Try.pinned (OpenSpec.ofChange fnExactTapeNextSpec)

/-- ITS FALSE NEIGHBOUR: 'it returns false'. Refute it at one input. -/
def fnExactTapeNextWrong : ChangeSpec := { name := "fnExactTapeNext", fn := fun _ => fun
  | [d1, d2] => { results := [.lit (.bool false)], args := [d1, d2] }
  | _ => none }
def FnExactTapeNextWrongFalsely : Prop := fnExactTapeNextRow.holds Try.pinned (OpenSpec.ofChange fnExactTapeNextWrong)

/-- 'laws.FnTapeWalk': WHATEVER THE INPUT: true; the input reads as it did. -/
def fnTapeWalkSpec : ChangeSpec := { name := "fnTapeWalk", fn := fun _ => fun
  | [d] => { results := [.lit (.bool true)], args := [d] }
  | _ => none }
def fnTapeWalkRow : OpenClaim := { program := "ytlconckfiilfoaa", sum := "6e8b3309313cd404b8446e9b7ea84e016cd2922039cf64cb7359c525c234075b", func := "loop.example/g00663/laws.FnTapeWalk", spec := "fnTapeWalk", unfollowed := true, recurses := true, apart := false }
def FnTapeWalkSaid : Prop := fnTapeWalkRow.holds Try.pinned (OpenSpec.ofChange fnTapeWalkSpec)

/-- ITS FALSE NEIGHBOUR: 'it returns false'. Refute it at one input. -/
def fnTapeWalkWrong : ChangeSpec := { name := "fnTapeWalk", fn := fun _ => fun
  | [d] => { results := [.lit (.bool false)], args := [d] }
  | _ => none }
def FnTapeWalkWrongFalsely : Prop := fnTapeWalkRow.holds Try.pinned (OpenSpec.ofChange fnTapeWalkWrong)

/- THE SECOND FORM. 'bulk': how many values and letters a reading holds, each counted each time it is reached (what is shared counts as often as it is met; a slice's spare places count too). A statement '..UptoSaid' is the law's where the arguments, and the package variables that the reading takes, are together of bulk at most 1048576: NARROWER than '..Said'. Prove '..Said' where nothing that the law and all that it calls make is longer than what came in: it says more and counts as full. Else prove '..UptoSaid'. A law counts once. -/
mutual
def uptoBulk {H : Type} : DataW H → Nat
  | .lit (.string bytes) => bytes.length + 1
  | .lit _ => 1
  | .nil => 1
  | .ptr d => uptoBulk d + 1
  | .slice elems spare => uptoBulkAll elems + uptoBulkAll spare + 1
  | .agg parts => uptoBulkAll parts + 1
  | .iface _ d => uptoBulk d + 1
  | .map entries => uptoBulkEntries entries + 1
  | .held _ => 1
def uptoBulkAll {H : Type} : List (DataW H) → Nat
  | [] => 0
  | d :: r => uptoBulk d + uptoBulkAll r
def uptoBulkEntries {H : Type} : List (Lit × DataW H) → Nat
  | [] => 0
  | x :: r => uptoBulkEntry x + uptoBulkEntries r
def uptoBulkEntry {H : Type} : Lit × DataW H → Nat
  | (.string bytes, d) => bytes.length + uptoBulk d + 1
  | (_, d) => uptoBulk d + 1
 end
def uptoSmall : (H : Type) → List (DataW H) → Bool := fun _ ds => decide (uptoBulkAll ds ≤ 1048576)
def OpenSpec.upto (s : _root_.Go.ChangeSpec) : _root_.Go.OpenSpec := { _root_.Go.OpenSpec.ofChange s with cond := some uptoSmall }

/-- 'laws.FnExactTapeOk', WHERE WHAT IT READS IS OF BULK AT MOST 1048576: true; the input reads as it did. -/
def fnExactTapeOkUptoRow : OpenClaim := { program := "ytlconckfiilfoaa", sum := "6e8b3309313cd404b8446e9b7ea84e016cd2922039cf64cb7359c525c234075b", func := "loop.example/g00663/laws.FnExactTapeOk", spec := "fnExactTapeOk", unfollowed := true, recurses := true, apart := false, narrowed := true }
def FnExactTapeOkUptoSaid : Prop := fnExactTapeOkUptoRow.holds Try.pinned (OpenSpec.upto fnExactTapeOkSpec)

/-- 'laws.FnExactTapeLeft', WHERE WHAT IT READS IS OF BULK AT MOST 1048576: true; the input reads as it did. -/
def fnExactTapeLeftUptoRow : OpenClaim := { program := "ytlconckfiilfoaa", sum := "6e8b3309313cd404b8446e9b7ea84e016cd2922039cf64cb7359c525c234075b", func := "loop.example/g00663/laws.FnExactTapeLeft", spec := "fnExactTapeLeft", unfollowed := true, recurses := true, apart := false, narrowed := true }
def FnExactTapeLeftUptoSaid : Prop := fnExactTapeLeftUptoRow.holds Try.pinned (OpenSpec.upto fnExactTapeLeftSpec)

/-- 'laws.FnExactTapeTake', WHERE WHAT IT READS IS OF BULK AT MOST 1048576: true; the input reads as it did. -/
def fnExactTapeTakeUptoRow : OpenClaim := { program := "ytlconckfiilfoaa", sum := "6e8b3309313cd404b8446e9b7ea84e016cd2922039cf64cb7359c525c234075b", func := "loop.example/g00663/laws.FnExactTapeTake", spec := "fnExactTapeTake", unfollowed := true, recurses := true, apart := false, narrowed := true }
def FnExactTapeTakeUptoSaid : Prop := fnExactTapeTakeUptoRow.holds Try.pinned (OpenSpec.upto fnExactTapeTakeSpec)

/-- 'laws.FnExactTapeNext', WHERE WHAT IT READS IS OF BULK AT MOST 1048576: true; the input reads as it did. -/
def fnExactTapeNextUptoRow : OpenClaim := { program := "ytlconckfiilfoaa", sum := "6e8b3309313cd404b8446e9b7ea84e016cd2922039cf64cb7359c525c234075b", func := "loop.example/g00663/laws.FnExactTapeNext", spec := "fnExactTapeNext", unfollowed := true, recurses := true, apart := false, narrowed := true }
def FnExactTapeNextUptoSaid : Prop := fnExactTapeNextUptoRow.holds Try.pinned (OpenSpec.upto fnExactTapeNextSpec)

/-- 'laws.FnTapeWalk', WHERE WHAT IT READS IS OF BULK AT MOST 1048576: true; the input reads as it did. -/
def fnTapeWalkUptoRow : OpenClaim := { program := "ytlconckfiilfoaa", sum := "6e8b3309313cd404b8446e9b7ea84e016cd2922039cf64cb7359c525c234075b", func := "loop.example/g00663/laws.FnTapeWalk", spec := "fnTapeWalk", unfollowed := true, recurses := true, apart := false, narrowed := true }
def FnTapeWalkUptoSaid : Prop := fnTapeWalkUptoRow.holds Try.pinned (OpenSpec.upto fnTapeWalkSpec)

end Rows
end Go.Proofs.Ytlconckfiilfoaa
