/- The functions that the law FnMaskBits reaches, as plain Lean functions, and the walks that show that Go comes to their answers; part 0. Its lines are the print's, turned where Lean refused them. -/
import Derived.Test.YtflbnknbknbomaaDoorProg
import Derived.Below
import Derived.Deep.Draws
import Derived.Deep.AppendLies
import Derived.Maps.AppendAt
import Derived.OwnWalk
import Derived.Laws.BytesArg
import Derived.Laws.MakeOwn
import Derived.Laws.OwnMore
import Derived.Deep.OwnRows
import Derived.Tactics
import Derived.Lib.ConvBytes
import Derived.Laws.Slices
import Derived.WalkKit
import Derived.KernelRfl
import Derived.RowKit3
import Derived.Deep.LoopGhost
import Derived.Deep.QuietTactic
import Derived.BigQuiet
import Derived.WideLaws
import Derived.Deep.DeepCutAuto
import Derived.Deep.CutBlock
import Derived.Deep.RegionHeld3
import Derived.Laws.Rows
import Derived.Lib.AppendStr
import Derived.ArgAppend
import Derived.Laws.IdiomCopy
import Derived.OrdersHeld
import Derived.Laws.BitsLemmas
import Derived.RowKit
import Derived.Laws.Bits64b
import Derived.Lib.TrailingZeros
import Derived.Test.YtflbnknbknbomaaDoorWWords
import Derived.Test.YtflbnknbknbomaaDoorWLast
import Derived.Test.YtflbnknbknbomaaDoorWTab
import Derived.Test.YtflbnknbknbomaaDoorWFour
import Derived.Test.YtflbnknbknbomaaDoorWQPut
import Derived.Test.YtflbnknbknbomaaDoorWApart
import Derived.Test.YtflbnknbknbomaaDoorWArr
import Derived.Test.YtflbnknbknbomaaDoorWZeros
import Derived.Test.YtflbnknbknbomaaDoorWFoot
import Derived.Test.YtflbnknbknbomaaDoorWKept
import Derived.Test.YtflbnknbknbomaaDoorWShare
import Derived.Test.YtflbnknbknbomaaDoorWN
import Derived.Test.YtflbnknbknbomaaDoorWFootNe
import Derived.Test.YtflbnknbknbomaaDoorWAt
import Derived.Test.YtflbnknbknbomaaDoorWEqStruct
import Derived.Test.YtflbnknbknbomaaDoorWRepsOne
import Derived.Test.YtflbnknbknbomaaDoorWInv
import Derived.Test.YtflbnknbknbomaaDoorWInvWords
import Derived.Test.YtflbnknbknbomaaDoorWGuard
import Derived.Test.YtflbnknbknbomaaDoorWNEv
import Derived.Test.YtflbnknbknbomaaDoorWMore
namespace Go.Proofs.YtflbnknbknbomaaDoor.PFnMaskBits
open Go.RowKit Go.Proofs.YtflbnknbknbomaaDoorW.PrintWords Go.Proofs.YtflbnknbknbomaaDoorW.PrintLast Go.Proofs.YtflbnknbknbomaaDoorW.PrintMore
attribute [local go_sem] max2_int min2_int max_two min_two max_three min_three max_four min_four   -- for this text's walks alone
set_option linter.unusedVariables false
set_option linter.unusedSimpArgs false



def errW : Option Int → Value
  | none => .nilIface
  | some c => .iface 0 (.int .i64 c)
theorem errW_none : errW none = .nilIface := rfl
theorem errW_some (c : Int) : errW (some c) = .iface 0 (.int .i64 c) := rfl

-- the values' own types

end Go.Proofs.YtflbnknbknbomaaDoor.PFnMaskBits
