/- The law FnExactMaskEq holds of the program: whatever its arguments (of the kinds and sizes that the statement names), it answers true. -/
import Derived.Test.YtjkecljcgkkkjaaPFnExactMaskEqx1
import Derived.Test.YtjkecljcgkkkjaaLib
set_option linter.unusedVariables false
set_option linter.unusedSimpArgs false
namespace Go.Proofs.Ytjkecljcgkkkjaa.Pure
open Go.RowKit Go.Proofs.Ytjkecljcgkkkjaa.PFnExactMaskEq Go.Proofs.YtjkecljcgkkkjaaW.PrintWords Go.Proofs.YtjkecljcgkkkjaaW.PrintLast Go.Proofs.Ytjkecljcgkkkjaa.L 

theorem FnExactMaskEq : laws_FnExactMaskEq.Pure := by
  intro a b _ _
  unfold laws_FnExactMaskEq.f spec_MaskEq.f impl_MaskEq.f
  by_cases h : a = b <;> simp [h]

end Go.Proofs.Ytjkecljcgkkkjaa.Pure
