/- For any whole number, the size of a nimber's field that the program tells is the reference's. -/
import Derived.Test.YtacpeffinmfdaaaPFnExactNimFieldOfx1
namespace Go.Proofs.Ytacpeffinmfdaaa.Pure
open Go.RowKit Go.Proofs.Ytacpeffinmfdaaa.PFnExactNimFieldOf Go.Proofs.YtacpeffinmfdaaaW.PrintWords Go.Proofs.YtacpeffinmfdaaaW.PrintLast
set_option linter.unusedVariables false
set_option linter.unusedSimpArgs false
namespace LFnExactNimFieldOf
theorem spec_isN (a : Int) : spec_grNimber.f a = some (decide (0 ≤ a ∧ a ≤ 65535)) := by
  unfold spec_grNimber.f spec_l1In.f
  by_cases h : 0 ≤ a <;> simp [h]
theorem impl_isN (a : Int) : impl_isNimber.f a = some (decide (0 ≤ a ∧ a ≤ 65535)) := by
  unfold impl_isNimber.f impl_in.f
  by_cases h : 0 ≤ a <;> simp [h]

theorem loop_same : ∀ (k : Nat) (a x : Int), spec_NimFieldOf.l0 k a x = impl_NimFieldOf.l0 k a x
  | 0, _, _ => rfl
  | k + 1, a, x => by
    simp only [spec_NimFieldOf.l0, impl_NimFieldOf.l0, ge_iff_le]
    rw [loop_same k]
theorem w2 : wrap64 (2 * 2) = 4 := by decide +kernel
theorem w4 : wrap64 (4 * 4) = 16 := by decide +kernel
theorem w16 : wrap64 (16 * 16) = 256 := by decide +kernel
theorem w256 : wrap64 (256 * 256) = 65536 := by decide +kernel
theorem loop_some (a : Int) (h : a ≤ 65535) : ∃ r, impl_NimFieldOf.l0 6 a 2 = some r := by
  simp only [impl_NimFieldOf.l0, ge_iff_le, w2, w4, w16, w256]
  by_cases h1 : 2 ≤ a
  · rw [if_pos h1]
    by_cases h2 : 4 ≤ a
    · rw [if_pos h2]
      by_cases h3 : 16 ≤ a
      · rw [if_pos h3]
        by_cases h4 : 256 ≤ a
        · rw [if_pos h4, if_neg (by omega)]; exact ⟨_, rfl⟩
        · rw [if_neg h4]; exact ⟨_, rfl⟩
      · rw [if_neg h3]; exact ⟨_, rfl⟩
    · rw [if_neg h2]; exact ⟨_, rfl⟩
  · rw [if_neg h1]; exact ⟨_, rfl⟩
theorem proved : laws_FnExactNimFieldOf.Pure := by
  intro a _
  refine ⟨6, ?_⟩
  unfold laws_FnExactNimFieldOf.f spec_NimFieldOf.f impl_NimFieldOf.f
  simp only [spec_isN, impl_isN, Option.bind_some]
  by_cases ha : 0 ≤ a ∧ a ≤ 65535
  · simp only [ha, and_self, decide_true, if_true]
    obtain ⟨r, hr⟩ := loop_some a ha.2
    rw [loop_same, hr]
    simp
  · simp [ha]

end LFnExactNimFieldOf
theorem FnExactNimFieldOf : laws_FnExactNimFieldOf.Pure := LFnExactNimFieldOf.proved
end Go.Proofs.Ytacpeffinmfdaaa.Pure
