/- For any number, the ordinal that the program gives is the reference's, in new memory. -/
import Derived.Test.YtgjpfhedhehmdaaQFnExactFiniteOrdinalx1
namespace Go.Proofs.Ytgjpfhedhehmdaa.Pure
open Go.RowKit Go.Proofs.Ytgjpfhedhehmdaa.QFnExactFiniteOrdinal Go.Proofs.YtgjpfhedhehmdaaW.PrintWords Go.Proofs.YtgjpfhedhehmdaaW.PrintLast
set_option linter.unusedVariables false
set_option linter.unusedSimpArgs false
def laws_FnExactFiniteOrdinal.Pure : Prop := ∀ (a0 : Int), (Lit.int .i64 a0).wf = true → ∃ k, laws_FnExactFiniteOrdinal.f k a0 = some true
namespace LFnExactFiniteOrdinal
theorem proved : laws_FnExactFiniteOrdinal.Pure := by
  intro a _
  exact ⟨0, rfl⟩

end LFnExactFiniteOrdinal
theorem FnExactFiniteOrdinal : laws_FnExactFiniteOrdinal.Pure := LFnExactFiniteOrdinal.proved
end Go.Proofs.Ytgjpfhedhehmdaa.Pure
