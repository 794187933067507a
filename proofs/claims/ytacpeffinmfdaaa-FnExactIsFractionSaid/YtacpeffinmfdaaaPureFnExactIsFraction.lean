/- For any numerator and denominator, the program says 'fraction' just where the reference says so. -/
import Derived.Test.YtacpeffinmfdaaaQFnExactIsFractionx1
namespace Go.Proofs.Ytacpeffinmfdaaa.Pure
open Go.RowKit Go.Proofs.Ytacpeffinmfdaaa.QFnExactIsFraction Go.Proofs.YtacpeffinmfdaaaW.PrintWords Go.Proofs.YtacpeffinmfdaaaW.PrintLast
set_option linter.unusedVariables false
set_option linter.unusedSimpArgs false
def laws_FnExactIsFraction.Pure : Prop := ∀ (a0_0 : Int) (a0_1 : Int), ((Lit.int .i64 a0_0).wf = true ∧ (Lit.int .i64 a0_1).wf = true) → ∃ k, laws_FnExactIsFraction.f k a0_0 a0_1 = some true
namespace LFnExactIsFraction
/-! ### the greatest common divisors of both sides -/
theorem abs_same (a : Int) : spec_l1Abs.f a = impl_size.f a := by
  unfold spec_l1Abs.f spec_l1Most.f impl_size.f mx
  generalize wrap64 (-a) = b
  by_cases h : a > b
  · rw [if_pos h, if_neg (by omega)]; rfl
  · rw [if_neg h]
    by_cases g : a < b
    · rw [if_pos g]; rfl
    · rw [if_neg g]
      have : a = b := by omega
      rw [this]; rfl
theorem gcd_same : ∀ (k : Nat) (a b : Int), spec_shGcd.l0 k a b = impl_gcd.l0 k a b
  | 0, _, _ => rfl
  | k + 1, a, b => by
    simp only [spec_shGcd.l0, impl_gcd.l0, abs_same, gcd_same k]
theorem gcd_some : ∀ (d k : Nat) (a b : Int), b.natAbs ≤ d → d < k → ∃ r, impl_gcd.l0 k a b = some r := by
  intro d
  induction d with
  | zero =>
    intro k a b hb hk
    obtain ⟨k, rfl⟩ : ∃ m, k = m + 1 := ⟨k - 1, by omega⟩
    simp only [impl_gcd.l0]
    rw [if_pos (by omega)]
    exact ⟨_, rfl⟩
  | succ d ih =>
    intro k a b hb hk
    obtain ⟨k, rfl⟩ : ∃ m, k = m + 1 := ⟨k - 1, by omega⟩
    simp only [impl_gcd.l0]
    by_cases h : b = 0
    · rw [if_pos h]
      exact ⟨_, rfl⟩
    · rw [if_neg h]
      refine ih k _ _ ?_ (by omega)
      rw [Int.natAbs_tmod]
      have := Nat.mod_lt a.natAbs (show b.natAbs > 0 by omega)
      omega

theorem in_eq (e a b : Int) : spec_l1In.f e a b = impl_in.f e a b := rfl
theorem in_some (e a b : Int) : impl_in.f e a b = some (decide (a ≤ e ∧ e ≤ b)) := by
  unfold impl_in.f
  by_cases h : e ≥ a
  · rw [if_pos h]; congr 1; simp; omega
  · rw [if_neg h]; congr 1; simp; omega
theorem good_same (k : Nat) (a b : Int) : spec_shGood.f k a b = impl_IsFraction.f k a b := by
  unfold spec_shGood.f impl_IsFraction.f spec_shGcd.f impl_gcd.f
  simp only [in_eq, gcd_same]
theorem good_some (a b : Int) (k : Nat) (hk : 1000000 < k) : ∃ r, impl_IsFraction.f k a b = some r := by
  unfold impl_IsFraction.f impl_gcd.f
  simp only [in_some, Option.bind_some]
  by_cases h : 1 ≤ b ∧ b ≤ 1000000
  · rw [if_pos (decide_eq_true h)]
    by_cases h2 : -1000000 ≤ a ∧ a ≤ 1000000
    · rw [if_pos (decide_eq_true h2)]
      obtain ⟨r, hr⟩ := gcd_some 1000000 k a b (by omega) hk
      rw [hr]
      exact ⟨_, rfl⟩
    · rw [if_neg (by simpa using h2)]; exact ⟨_, rfl⟩
  · rw [if_neg (by simpa using h)]; exact ⟨_, rfl⟩
theorem good_pos {a b : Int} {k : Nat} (h : impl_IsFraction.f k a b = some true) : 1 ≤ b ∧ b ≤ 1000000 ∧ -1000000 ≤ a ∧ a ≤ 1000000 := by
  unfold impl_IsFraction.f at h
  simp only [in_some, Option.bind_some] at h
  by_cases h1 : 1 ≤ b ∧ b ≤ 1000000
  · rw [if_pos (decide_eq_true h1)] at h
    by_cases h2 : -1000000 ≤ a ∧ a ≤ 1000000
    · exact ⟨h1.1, h1.2, h2.1, h2.2⟩
    · rw [if_neg (by simpa using h2)] at h; simp at h
  · rw [if_neg (by simpa using h1)] at h; simp at h

theorem proved : laws_FnExactIsFraction.Pure := by
  intro a b _
  obtain ⟨r, hr⟩ := good_some a b 1000001 (by omega)
  refine ⟨1000001, ?_⟩
  unfold laws_FnExactIsFraction.f spec_IsFraction.f laws_toFraction.f
  simp only [Option.bind_some, good_same, hr]
  simp

end LFnExactIsFraction
theorem FnExactIsFraction : laws_FnExactIsFraction.Pure := LFnExactIsFraction.proved
end Go.Proofs.Ytacpeffinmfdaaa.Pure
