/- The functions that the law FnTapeWalk reaches, as plain Lean functions, and the walks that show that Go comes to their answers; part 0. Its lines are the print's, turned where Lean refused them. -/
import Derived.Test.YtlconckfiilfoaaProg
import Derived.Below
import Derived.Deep.Draws
import Derived.Deep.AppendLies
import Derived.Maps.AppendAt
import Derived.OwnWalk
import Derived.Laws.BytesArg
import Derived.Laws.MakeOwn
import Derived.Laws.OwnMore
import Derived.Deep.OwnRows
import Derived.Tactics
import Derived.Lib.ConvBytes
import Derived.Laws.Slices
import Derived.WalkKit
import Derived.KernelRfl
import Derived.RowKit3
import Derived.Deep.LoopGhost
import Derived.Deep.QuietTactic
import Derived.BigQuiet
import Derived.WideLaws
import Derived.Deep.DeepCutAuto
import Derived.Deep.CutBlock
import Derived.Deep.RegionHeld3
import Derived.Laws.Rows
import Derived.Lib.AppendStr
import Derived.ArgAppend
import Derived.Laws.IdiomCopy
import Derived.OrdersHeld
import Derived.Laws.BitsLemmas
import Derived.RowKit
import Derived.Lib.Bytealg
import Derived.Lib.SliceRun
import Derived.Lib.Slices
import Derived.Lib.Strings
import Derived.Lib.Walk
import Derived.Test.YtlconckfiilfoaaWWords
import Derived.Test.YtlconckfiilfoaaWLast
import Derived.Test.YtlconckfiilfoaaWTab
import Derived.Test.YtlconckfiilfoaaWFour
import Derived.Test.YtlconckfiilfoaaWQPut
import Derived.Test.YtlconckfiilfoaaWApart
import Derived.Test.YtlconckfiilfoaaWArr
import Derived.Test.YtlconckfiilfoaaWZeros
import Derived.Test.YtlconckfiilfoaaWFoot
import Derived.Test.YtlconckfiilfoaaWKept
import Derived.Test.YtlconckfiilfoaaWShare
import Derived.Test.YtlconckfiilfoaaWN
import Derived.Test.YtlconckfiilfoaaWFootNe
import Derived.Test.YtlconckfiilfoaaWAt
import Derived.Test.YtlconckfiilfoaaWEqStruct
import Derived.Test.YtlconckfiilfoaaWRepsOne
import Derived.Test.YtlconckfiilfoaaWInv
import Derived.Test.YtlconckfiilfoaaWInvWords
import Derived.Test.YtlconckfiilfoaaWGuard
import Derived.Test.YtlconckfiilfoaaWNEv
import Derived.Test.YtlconckfiilfoaaWMore
namespace Go.Proofs.Ytlconckfiilfoaa.PFnTapeWalk
open Go.RowKit Go.Proofs.YtlconckfiilfoaaW.PrintWords Go.Proofs.YtlconckfiilfoaaW.PrintLast Go.Proofs.YtlconckfiilfoaaW.PrintMore
attribute [local go_sem] max2_int min2_int max_two min_two max_three min_three max_four min_four   -- for this text's walks alone
set_option linter.unusedVariables false
set_option linter.unusedSimpArgs false



def errW : Option Int → Value
  | none => .nilIface
  | some c => .iface 0 (.int .i64 c)
theorem errW_none : errW none = .nilIface := rfl
theorem errW_some (c : Int) : errW (some c) = .iface 0 (.int .i64 c) := rfl

theorem info3 : (Try.prog.info? 3).map (fun i => (i.zero, i.size, i.bytes)) = some (some (.int .i64 0), 1, 8) := by kernel_rfl
-- the values' own types

end Go.Proofs.Ytlconckfiilfoaa.PFnTapeWalk
