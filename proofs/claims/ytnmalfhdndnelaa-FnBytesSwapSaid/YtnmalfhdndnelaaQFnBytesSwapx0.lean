/- The functions that the law FnBytesSwap reaches, as plain Lean functions, and the walks that show that Go comes to their answers; part 0. Its lines are the print's, turned where Lean refused them. -/
import Derived.Test.YtnmalfhdndnelaaProg
import Derived.Below
import Derived.Deep.Draws
import Derived.Deep.AppendLies
import Derived.Maps.AppendAt
import Derived.OwnWalk
import Derived.Laws.BytesArg
import Derived.Laws.MakeOwn
import Derived.Laws.OwnMore
import Derived.Deep.OwnRows
import Derived.Tactics
import Derived.Lib.ConvBytes
import Derived.Laws.Slices
import Derived.WalkKit
import Derived.KernelRfl
import Derived.RowKit3
import Derived.Deep.LoopGhost
import Derived.Deep.QuietTactic
import Derived.BigQuiet
import Derived.WideLaws
import Derived.Deep.DeepCutAuto
import Derived.Deep.CutBlock
import Derived.Deep.RegionHeld3
import Derived.Laws.Rows
import Derived.Lib.AppendStr
import Derived.ArgAppend
import Derived.Laws.IdiomCopy
import Derived.OrdersHeld
import Derived.Laws.BitsLemmas
import Derived.RowKit
import Derived.Test.YtnmalfhdndnelaaWWords
import Derived.Test.YtnmalfhdndnelaaWLast
import Derived.Test.YtnmalfhdndnelaaWTab
import Derived.Test.YtnmalfhdndnelaaWFour
import Derived.Test.YtnmalfhdndnelaaWQPut
import Derived.Test.YtnmalfhdndnelaaWApart
import Derived.Test.YtnmalfhdndnelaaWArr
import Derived.Test.YtnmalfhdndnelaaWZeros
import Derived.Test.YtnmalfhdndnelaaWFoot
import Derived.Test.YtnmalfhdndnelaaWKept
import Derived.Test.YtnmalfhdndnelaaWShare
import Derived.Test.YtnmalfhdndnelaaWN
import Derived.Test.YtnmalfhdndnelaaWFootNe
import Derived.Test.YtnmalfhdndnelaaWAt
import Derived.Test.YtnmalfhdndnelaaWEqStruct
import Derived.Test.YtnmalfhdndnelaaWRepsOne
import Derived.Test.YtnmalfhdndnelaaWInv
import Derived.Test.YtnmalfhdndnelaaWInvWords
import Derived.Test.YtnmalfhdndnelaaWGuard
import Derived.Test.YtnmalfhdndnelaaWNEv
import Derived.Test.YtnmalfhdndnelaaWMore
namespace Go.Proofs.Ytnmalfhdndnelaa.PFnBytesSwap
open Go.RowKit Go.Proofs.YtnmalfhdndnelaaW.PrintWords Go.Proofs.YtnmalfhdndnelaaW.PrintLast Go.Proofs.YtnmalfhdndnelaaW.PrintMore
attribute [local go_sem] max2_int min2_int max_two min_two max_three min_three max_four min_four   -- for this text's walks alone
set_option linter.unusedVariables false
set_option linter.unusedSimpArgs false



def errW : Option Int → Value
  | none => .nilIface
  | some c => .iface 0 (.int .i64 c)
theorem errW_none : errW none = .nilIface := rfl
theorem errW_some (c : Int) : errW (some c) = .iface 0 (.int .i64 c) := rfl

theorem info5 : (Try.prog.info? 5).map (fun i => (i.zero, i.size, i.bytes)) = some (some (.int .u8 0), 1, 1) := by kernel_rfl
-- the values' own types

end Go.Proofs.Ytnmalfhdndnelaa.PFnBytesSwap
