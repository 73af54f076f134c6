/- The functions that the law FnTokens reaches, as plain Lean functions, and the walks that show that Go comes to their answers; part 0. Its lines are the print's, turned where Lean refused them. -/
import Derived.Test.YthmbgcpmfmlifaaDoorProg
import Derived.Below
import Derived.Deep.Draws
import Derived.Deep.AppendLies
import Derived.Maps.AppendAt
import Derived.OwnWalk
import Derived.Laws.BytesArg
import Derived.Laws.MakeOwn
import Derived.Laws.OwnMore
import Derived.Deep.OwnRows
import Derived.Tactics
import Derived.Lib.ConvBytes
import Derived.Laws.Slices
import Derived.WalkKit
import Derived.KernelRfl
import Derived.RowKit3
import Derived.Deep.LoopGhost
import Derived.Deep.QuietTactic
import Derived.BigQuiet
import Derived.WideLaws
import Derived.Deep.DeepCutAuto
import Derived.Deep.CutBlock
import Derived.Deep.RegionHeld3
import Derived.Laws.Rows
import Derived.Lib.AppendStr
import Derived.ArgAppend
import Derived.Laws.IdiomCopy
import Derived.OrdersHeld
import Derived.Laws.BitsLemmas
import Derived.RowKit
import Derived.Test.YthmbgcpmfmlifaaDoorShelf
import Derived.Test.YthmbgcpmfmlifaaDoorWWords
import Derived.Test.YthmbgcpmfmlifaaDoorWLast
import Derived.Test.YthmbgcpmfmlifaaDoorWTab
import Derived.Test.YthmbgcpmfmlifaaDoorWFour
import Derived.Test.YthmbgcpmfmlifaaDoorWQPut
import Derived.Test.YthmbgcpmfmlifaaDoorWApart
import Derived.Test.YthmbgcpmfmlifaaDoorWArr
import Derived.Test.YthmbgcpmfmlifaaDoorWZeros
import Derived.Test.YthmbgcpmfmlifaaDoorWFoot
import Derived.Test.YthmbgcpmfmlifaaDoorWKept
import Derived.Test.YthmbgcpmfmlifaaDoorWShare
import Derived.Test.YthmbgcpmfmlifaaDoorWN
import Derived.Test.YthmbgcpmfmlifaaDoorWFootNe
import Derived.Test.YthmbgcpmfmlifaaDoorWAt
import Derived.Test.YthmbgcpmfmlifaaDoorWEqStruct
import Derived.Test.YthmbgcpmfmlifaaDoorWRepsOne
import Derived.Test.YthmbgcpmfmlifaaDoorWInv
import Derived.Test.YthmbgcpmfmlifaaDoorWInvWords
import Derived.Test.YthmbgcpmfmlifaaDoorWGuard
import Derived.Test.YthmbgcpmfmlifaaDoorWNEv
import Derived.Test.YthmbgcpmfmlifaaDoorWMore
namespace Go.Proofs.YthmbgcpmfmlifaaDoor.PFnTokens
open Go.RowKit Go.Proofs.YthmbgcpmfmlifaaDoorW.PrintWords Go.Proofs.YthmbgcpmfmlifaaDoorW.PrintLast Go.Proofs.YthmbgcpmfmlifaaDoorW.PrintMore
attribute [local go_sem] max2_int min2_int max_two min_two max_three min_three max_four min_four   -- for this text's walks alone
set_option linter.unusedVariables false
set_option linter.unusedSimpArgs false



def errW : Option Int → Value
  | none => .nilIface
  | some c => .iface 0 (.int .i64 c)
theorem errW_none : errW none = .nilIface := rfl
theorem errW_some (c : Int) : errW (some c) = .iface 0 (.int .i64 c) := rfl

theorem info3 : (Tryd.prog.info? 3).map (fun i => (i.zero, i.size, i.bytes)) = some (some (.int .i64 0), 1, 8) := by kernel_rfl
theorem info5 : (Tryd.prog.info? 5).map (fun i => (i.zero, i.size, i.bytes)) = some (some (.int .u8 0), 1, 1) := by kernel_rfl
theorem info9 : (Tryd.prog.info? 9).map (fun i => (i.zero, i.size, i.bytes)) = some (some (.string ⟨#[]⟩), 1, 16) := by kernel_rfl
-- the values' own types

end Go.Proofs.YthmbgcpmfmlifaaDoor.PFnTokens
