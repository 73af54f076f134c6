/- The law FnExactMaskLess holds of the program: whatever its arguments (of the kinds and sizes that the statement names), it answers true. -/
import Derived.Test.YtjkecljcgkkkjaaPFnExactMaskLessx1
import Derived.Test.YtjkecljcgkkkjaaLib
set_option linter.unusedVariables false
set_option linter.unusedSimpArgs false
namespace Go.Proofs.Ytjkecljcgkkkjaa.Pure
open Go.RowKit Go.Proofs.Ytjkecljcgkkkjaa.PFnExactMaskLess Go.Proofs.YtjkecljcgkkkjaaW.PrintWords Go.Proofs.YtjkecljcgkkkjaaW.PrintLast Go.Proofs.Ytjkecljcgkkkjaa.L 

theorem FnExactMaskLess : laws_FnExactMaskLess.Pure := by
  intro a b _ _
  unfold laws_FnExactMaskLess.f spec_MaskLess.f impl_MaskLess.f
  by_cases h : a < b <;> simp [h]

end Go.Proofs.Ytjkecljcgkkkjaa.Pure
