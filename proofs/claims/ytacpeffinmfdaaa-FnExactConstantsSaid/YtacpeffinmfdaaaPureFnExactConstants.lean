/- The program's constants are those of the document. -/
import Derived.Test.YtacpeffinmfdaaaPFnExactConstantsx1
namespace Go.Proofs.Ytacpeffinmfdaaa.Pure
open Go.RowKit Go.Proofs.Ytacpeffinmfdaaa.PFnExactConstants Go.Proofs.YtacpeffinmfdaaaW.PrintWords Go.Proofs.YtacpeffinmfdaaaW.PrintLast
set_option linter.unusedVariables false
set_option linter.unusedSimpArgs false
namespace LFnExactConstants
theorem proved : laws_FnExactConstants.Pure := by
  unfold laws_FnExactConstants.Pure
  first | rfl | decide +kernel | simp [laws_FnExactConstants.f]

end LFnExactConstants
theorem FnExactConstants : laws_FnExactConstants.Pure := LFnExactConstants.proved
end Go.Proofs.Ytacpeffinmfdaaa.Pure
