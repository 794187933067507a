/- For any whole number, the stalk of twigs that the program makes is the reference's, and it is new memory. -/
import Derived.Test.YtacpeffinmfdaaaPFnExactGreenStalkx2
namespace Go.Proofs.Ytacpeffinmfdaaa.Pure
open Go.RowKit Go.Proofs.Ytacpeffinmfdaaa.PFnExactGreenStalk Go.Proofs.YtacpeffinmfdaaaW.PrintWords Go.Proofs.YtacpeffinmfdaaaW.PrintLast
set_option linter.unusedVariables false
set_option linter.unusedSimpArgs false
namespace LFnExactGreenStalk
theorem in_no (a : Int) (h : ¬ (0 ≤ a ∧ a ≤ 12)) : spec_l1In.f a 0 12 = some false := by
  unfold spec_l1In.f
  by_cases h0 : a ≥ 0
  · rw [if_pos h0, decide_eq_false (by omega)]
  · rw [if_neg h0]
theorem in_no' (a : Int) (h : ¬ (0 ≤ a ∧ a ≤ 12)) : impl_in.f a 0 12 = some false := in_no a h
set_option maxRecDepth 100000 in
theorem proved : laws_FnExactGreenStalk.Pure := by
  intro a _
  refine ⟨60, ?_⟩
  by_cases h : 0 ≤ a ∧ a ≤ 12
  · obtain ⟨n, rfl⟩ := Int.eq_ofNat_of_zero_le h.1
    have key : ∀ n : Fin 13, laws_FnExactGreenStalk.f 60 (n.val : Int) = some true := by decide +kernel
    exact key ⟨n, by omega⟩
  · have e1 : ∀ k, spec_GreenStalk.f k a = some ([], false) := fun k => by unfold spec_GreenStalk.f; rw [in_no a h]; rfl
    have e2 : ∀ k, impl_GreenStalk.f k a = some ([], false) := fun k => by unfold impl_GreenStalk.f; rw [in_no' a h]; rfl
    have c1 : ∀ k, laws_eqTwigS.f (k + 1) [] [] = some true := fun k => by simp [laws_eqTwigS.f, laws_eqTwigS.l0]
    have c2 : ∀ k, laws_markTwigS.f (k + 1) [] 1 = some (1, []) := fun k => by simp [laws_markTwigS.f, laws_markTwigS.l0]
    have c3 : ∀ k, laws_heldTwigS.f (k + 1) [] 1 = some 1 := fun k => by simp [laws_heldTwigS.f, laws_heldTwigS.l0]
    have j1e : ∀ k, laws_FnExactGreenStalk.j1 (k + 2) [] 1 false = some true := fun k => by
      simp only [laws_FnExactGreenStalk.j1, c3, Option.bind_some]
      rfl
    have j0e : ∀ k, laws_FnExactGreenStalk.j0 (k + 4) a [] false [] false = some true := fun k => by
      simp only [laws_FnExactGreenStalk.j0, c2, c3, e2, c1, Option.bind_some]
      exact j1e (k + 1)
    show laws_FnExactGreenStalk.f (56 + 4) a = some true
    simp only [laws_FnExactGreenStalk.f, e1, e2, Option.bind_some, c1]
    exact j0e _

end LFnExactGreenStalk
theorem FnExactGreenStalk : laws_FnExactGreenStalk.Pure := LFnExactGreenStalk.proved
end Go.Proofs.Ytacpeffinmfdaaa.Pure
