/- The functions that the law FnExactWordCmp reaches, as plain Lean functions, and the walks that show that Go comes to their answers; part 0. Its lines are the print's, turned where Lean refused them. -/
import Derived.Test.YtjkecljcgkkkjaaProg
import Derived.Below
import Derived.Deep.Draws
import Derived.Deep.AppendLies
import Derived.Maps.AppendAt
import Derived.OwnWalk
import Derived.Laws.BytesArg
import Derived.Laws.MakeOwn
import Derived.Laws.OwnMore
import Derived.Deep.OwnRows
import Derived.Tactics
import Derived.Lib.ConvBytes
import Derived.Laws.Slices
import Derived.WalkKit
import Derived.KernelRfl
import Derived.RowKit3
import Derived.Deep.LoopGhost
import Derived.Deep.QuietTactic
import Derived.BigQuiet
import Derived.WideLaws
import Derived.Deep.DeepCutAuto
import Derived.Deep.CutBlock
import Derived.Deep.RegionHeld3
import Derived.Laws.Rows
import Derived.Lib.AppendStr
import Derived.ArgAppend
import Derived.Laws.IdiomCopy
import Derived.OrdersHeld
import Derived.Laws.BitsLemmas
import Derived.RowKit
import Derived.Lib.Bytealg
import Derived.Lib.Slices
import Derived.Lib.Strings
import Derived.Lib.Walk
import Derived.Test.YtjkecljcgkkkjaaWWords
import Derived.Test.YtjkecljcgkkkjaaWLast
import Derived.Test.YtjkecljcgkkkjaaWTab
import Derived.Test.YtjkecljcgkkkjaaWFour
import Derived.Test.YtjkecljcgkkkjaaWQPut
import Derived.Test.YtjkecljcgkkkjaaWApart
import Derived.Test.YtjkecljcgkkkjaaWArr
import Derived.Test.YtjkecljcgkkkjaaWZeros
import Derived.Test.YtjkecljcgkkkjaaWFoot
import Derived.Test.YtjkecljcgkkkjaaWKept
import Derived.Test.YtjkecljcgkkkjaaWShare
import Derived.Test.YtjkecljcgkkkjaaWN
import Derived.Test.YtjkecljcgkkkjaaWFootNe
import Derived.Test.YtjkecljcgkkkjaaWAt
import Derived.Test.YtjkecljcgkkkjaaWEqStruct
import Derived.Test.YtjkecljcgkkkjaaWRepsOne
import Derived.Test.YtjkecljcgkkkjaaWInv
import Derived.Test.YtjkecljcgkkkjaaWInvWords
import Derived.Test.YtjkecljcgkkkjaaWGuard
import Derived.Test.YtjkecljcgkkkjaaWNEv
import Derived.Test.YtjkecljcgkkkjaaWMore
namespace Go.Proofs.Ytjkecljcgkkkjaa.PFnExactWordCmp
open Go.RowKit Go.Proofs.YtjkecljcgkkkjaaW.PrintWords Go.Proofs.YtjkecljcgkkkjaaW.PrintLast Go.Proofs.YtjkecljcgkkkjaaW.PrintMore
attribute [local go_sem] max2_int min2_int max_two min_two max_three min_three max_four min_four   -- for this text's walks alone
set_option linter.unusedVariables false
set_option linter.unusedSimpArgs false



def errW : Option Int → Value
  | none => .nilIface
  | some c => .iface 0 (.int .i64 c)
theorem errW_none : errW none = .nilIface := rfl
theorem errW_some (c : Int) : errW (some c) = .iface 0 (.int .i64 c) := rfl

-- the values' own types

end Go.Proofs.Ytjkecljcgkkkjaa.PFnExactWordCmp
