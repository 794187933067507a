/- For any two whole numbers, the program's product of nimbers and the reference's are the same. -/
import Derived.Test.YtacpeffinmfdaaaQFnExactNimProductx2
import Derived.Test.YtacpeffinmfdaaaNim
namespace Go.Proofs.Ytacpeffinmfdaaa.Pure
open Go.RowKit Go.Proofs.Ytacpeffinmfdaaa.QFnExactNimProduct Go.Proofs.YtacpeffinmfdaaaW.PrintWords Go.Proofs.YtacpeffinmfdaaaW.PrintLast
open Go.Proofs.Ytacpeffinmfdaaa.Nim Go.Proofs.YtacpeffinmfdaaaW.PrintMore
set_option linter.unusedVariables false
set_option linter.unusedSimpArgs false
namespace LFnExactNimProduct
theorem spec_isN (a : Int) : spec_grNimber.f a = some (decide (0 ≤ a ∧ a ≤ 65535)) := by
  unfold spec_grNimber.f spec_l1In.f
  by_cases h : 0 ≤ a <;> simp [h]
theorem impl_isN (a : Int) : impl_isNimber.f a = some (decide (0 ≤ a ∧ a ≤ 65535)) := by
  unfold impl_isNimber.f impl_in.f
  by_cases h : 0 ≤ a <;> simp [h]

/-! ### the products of both sides are the plain one -/
/-- Half of the digits of level l, as the program tells it. -/
def hf (l : Nat) : Int := ((2 ^ (l - 1) : Nat) : Int)
theorem hf_next : ∀ l, l ≤ 3 → mx (wrap64 (Int.tdiv (hf (l + 1)) 2)) 1 = hf l := by
  intro l hl
  rcases (by omega : l = 0 ∨ l = 1 ∨ l = 2 ∨ l = 3) with rfl | rfl | rfl | rfl <;> decide +kernel
theorem hf_mask : ∀ l, l ≤ 3 → wrap64 ((shl .i64 1 (hf (l + 1))) - 1) = 2 ^ 2 ^ l - 1 := by
  intro l hl
  rcases (by omega : l = 0 ∨ l = 1 ∨ l = 2 ∨ l = 3) with rfl | rfl | rfl | rfl <;> decide +kernel
theorem hf_top : ∀ l, l ≤ 3 → shl .i64 1 (wrap64 (hf (l + 1) - 1)) = ((2 ^ (2 ^ l - 1) : Nat) : Int) := by
  intro l hl
  rcases (by omega : l = 0 ∨ l = 1 ∨ l = 2 ∨ l = 3) with rfl | rfl | rfl | rfl <;> decide +kernel
theorem hf_pos : ∀ l, l ≤ 3 → 0 ≤ wrap64 (hf (l + 1) - 1) := by
  intro l hl
  rcases (by omega : l = 0 ∨ l = 1 ∨ l = 2 ∨ l = 3) with rfl | rfl | rfl | rfl <;> decide +kernel
theorem hf_succ (l : Nat) : hf (l + 1) = ((2 ^ l : Nat) : Int) := rfl
theorem lv_bd : ∀ l, l ≤ 4 → 2 ^ 2 ^ l ≤ 2 ^ 16 := by
  intro l hl
  exact Nat.pow_le_pow_right (by decide) (Nat.pow_le_pow_right (by decide) hl : 2 ^ l ≤ 2 ^ 4)

theorem impl_nim_eq : ∀ l, l ≤ 4 → ∀ (k a b : Nat), a < 2 ^ 2 ^ l → b < 2 ^ 2 ^ l → 2 * l + 2 ≤ k → impl_nim.f k a b (hf l) = some ((nm l a b : Nat) : Int) := by
  intro l
  induction l with
  | zero =>
    intro _ k a b ha hb hk
    have ha' : a < 2 := ha
    have hb' : b < 2 := hb
    obtain ⟨k, rfl⟩ : ∃ m, k = m + 2 := ⟨k - 2, by omega⟩
    simp only [impl_nim.f]
    rw [if_pos (by omega)]
    simp only [impl_nim.j0, if_true]
    rcases (by omega : a = 0 ∨ a = 1) with rfl | rfl <;> rcases (by omega : b = 0 ∨ b = 1) with rfl | rfl <;> decide +kernel
  | succ l ih =>
    intro hl k a b ha hb hk
    obtain ⟨k, rfl⟩ : ∃ m, k = m + 2 := ⟨k - 2, by omega⟩
    have big4 := lv_bd (l + 1) hl
    have big3 := lv_bd l (by omega)
    by_cases ha2 : a < 2
    · simp only [impl_nim.f]
      rw [if_pos (by omega)]
      simp only [impl_nim.j0, if_true]
      have : nm (l + 1) a b = a * b := by
        rcases (by omega : a = 0 ∨ a = 1) with rfl | rfl
        · rw [nm_zero, Nat.zero_mul]
        · rw [nm_one _ _ hb, Nat.one_mul]
      rw [this]
      have hab : a * b < 2 ^ 17 := by
        rcases (by omega : a = 0 ∨ a = 1) with rfl | rfl <;> omega
      have : wrap64 ((a : Int) * b) = ((a * b : Nat) : Int) := by rw [← Int.natCast_mul]; unfold wrap64; omega
      rw [this]
    · by_cases hb2 : b < 2
      · simp only [impl_nim.f]
        rw [if_neg (by omega)]
        have hd : decide ((b : Int) < 2) = true := decide_eq_true (by omega)
        simp only [impl_nim.j0, hd, if_true]
        have : nm (l + 1) a b = a * b := by
          rcases (by omega : b = 0 ∨ b = 1) with rfl | rfl
          · rw [nm_zero', Nat.mul_zero]
          · rw [nm_one' _ _ ha, Nat.mul_one]
        rw [this]
        have hab : a * b < 2 ^ 17 := by
          rcases (by omega : b = 0 ∨ b = 1) with rfl | rfl <;> omega
        have : wrap64 ((a : Int) * b) = ((a * b : Nat) : Int) := by rw [← Int.natCast_mul]; unfold wrap64; omega
        rw [this]
      · have hl3 : l ≤ 3 := by omega
        have h2l : 2 ^ l ≤ 64 := Nat.le_trans (Nat.pow_le_pow_right (by decide) hl3) (by decide)
        have h2l8 : 2 ^ l ≤ 8 := Nat.le_trans (Nat.pow_le_pow_right (by decide) hl3) (by decide)
        have a62 : a < 2 ^ 62 := by omega
        have b62 : b < 2 ^ 62 := by omega
        have da := div_lt ha
        have db := div_lt hb
        have ma := mod_lt l a
        have mb := mod_lt l b
        have xa := Nat.xor_lt_two_pow da ma
        have xb := Nat.xor_lt_two_pow db mb
        have n1 := nm_lt l _ _ da db
        have n0 := nm_lt l _ _ ma mb
        have nx := nm_lt l _ _ xa xb
        have nh := nm_lt l _ _ n1 (half_lt l)
        have nxx := Nat.xor_lt_two_pow nx n0
        simp only [impl_nim.f]
        rw [if_neg (by omega)]
        have hd : decide ((b : Int) < 2) = false := decide_eq_false (by omega)
        have h0 : (0 : Int) ≤ hf (l + 1) := Int.natCast_nonneg _
        simp only [impl_nim.j0, hd]
        rw [if_neg (by decide), if_pos h0, hf_next l hl3, hf_mask l hl3, hf_succ, shr_nat a _ h2l, shr_nat b _ h2l, mask_nat a _ a62 (by omega), mask_nat b _ b62 (by omega), ← hf_succ,
          xor_nat _ _ (by omega) (by omega), xor_nat _ _ (by omega) (by omega), ih (by omega) _ _ _ da db (by omega)]
        simp only [Option.bind_some]
        rw [ih (by omega) _ _ _ ma mb (by omega)]
        simp only [Option.bind_some]
        rw [ih (by omega) _ _ _ xa xb (by omega)]
        simp only [Option.bind_some]
        rw [if_pos (hf_pos l hl3), hf_top l hl3, ih (by omega) _ _ _ n1 (half_lt l) (by omega)]
        simp only [Option.bind_some]
        have hmul : (nm l (a / 2 ^ 2 ^ l ^^^ a % 2 ^ 2 ^ l) (b / 2 ^ 2 ^ l ^^^ b % 2 ^ 2 ^ l) ^^^ nm l (a % 2 ^ 2 ^ l) (b % 2 ^ 2 ^ l)) * 2 ^ 2 ^ l < 2 ^ 2 ^ (l + 1) := by
          rw [sq_pow]; exact Nat.mul_lt_mul_of_pos_right nxx (Nat.two_pow_pos _)
        rw [xor_nat _ _ (by omega) (by omega), hf_succ, shl_nat _ _ h2l (by omega), xor_nat _ _ (by omega) (by omega),
          xor_nat _ _ (Nat.xor_lt_two_pow (by omega) (by omega)) (by omega)]
        rfl

/-- The level of the reference: 0 at the bottom. -/
def gf (l : Nat) : Int := if l = 0 then 0 else hf l
theorem gf_next : ∀ l, l ≤ 3 → wrap64 (Int.tdiv (hf (l + 1)) 2) = gf l := by
  intro l hl
  rcases (by omega : l = 0 ∨ l = 1 ∨ l = 2 ∨ l = 3) with rfl | rfl | rfl | rfl <;> decide +kernel

theorem spec_times_eq : ∀ l, l ≤ 4 → ∀ (k a b : Nat), a < 2 ^ 2 ^ l → b < 2 ^ 2 ^ l → 2 * l + 2 ≤ k → spec_grTimes.f k a b (gf l) = some ((nm l a b : Nat) : Int) := by
  intro l
  induction l with
  | zero =>
    intro _ k a b ha hb hk
    have ha' : a < 2 := ha
    have hb' : b < 2 := hb
    obtain ⟨k, rfl⟩ : ∃ m, k = m + 2 := ⟨k - 2, by omega⟩
    simp only [spec_grTimes.f, spec_grTimes.j0]
    rcases (by omega : a = 0 ∨ a = 1) with rfl | rfl <;> rcases (by omega : b = 0 ∨ b = 1) with rfl | rfl <;> simp [gf, nm]
  | succ l ih =>
    intro hl k a b ha hb hk
    obtain ⟨k, rfl⟩ : ∃ m, k = m + 2 := ⟨k - 2, by omega⟩
    have big4 := lv_bd (l + 1) hl
    have big3 := lv_bd l (by omega)
    by_cases ha2 : a = 0
    · subst ha2
      simp only [spec_grTimes.f]
      rw [if_pos (by omega), nm_zero]
      simp only [spec_grTimes.j0, if_true]
      rfl
    · by_cases hb2 : b = 0
      · subst hb2
        simp only [spec_grTimes.f]
        rw [if_neg (by omega), nm_zero']
        simp [spec_grTimes.j0]
      · have hl3 : l ≤ 3 := by omega
        have h2l : 2 ^ l ≤ 64 := Nat.le_trans (Nat.pow_le_pow_right (by decide) hl3) (by decide)
        have h2l8 : 2 ^ l ≤ 8 := Nat.le_trans (Nat.pow_le_pow_right (by decide) hl3) (by decide)
        have hg : gf (l + 1) = hf (l + 1) := rfl
        have a62 : a < 2 ^ 62 := by omega
        have b62 : b < 2 ^ 62 := by omega
        have da := div_lt ha
        have db := div_lt hb
        have ma := mod_lt l a
        have mb := mod_lt l b
        have xa := Nat.xor_lt_two_pow da ma
        have xb := Nat.xor_lt_two_pow db mb
        have n1 := nm_lt l _ _ da db
        have n0 := nm_lt l _ _ ma mb
        have nx := nm_lt l _ _ xa xb
        have nh := nm_lt l _ _ n1 (half_lt l)
        have nxx := Nat.xor_lt_two_pow nx n0
        simp only [spec_grTimes.f]
        rw [if_neg (by omega)]
        have hd : ((b : Int) == 0) = false := by simpa using hb2
        have h0 : (0 : Int) ≤ hf (l + 1) := Int.natCast_nonneg _
        have h1 : ¬ hf (l + 1) = 0 := by rw [hf_succ]; have := Nat.two_pow_pos l; omega
        simp only [spec_grTimes.j0, hd, hg]
        rw [if_neg (by decide), if_neg h1, if_pos h0, gf_next l hl3, hf_mask l hl3, hf_succ, shr_nat a _ h2l, shr_nat b _ h2l, mask_nat a _ a62 (by omega), mask_nat b _ b62 (by omega), ← hf_succ,
          xor_nat _ _ (by omega) (by omega), xor_nat _ _ (by omega) (by omega), ih (by omega) _ _ _ ma mb (by omega)]
        simp only [Option.bind_some]
        rw [ih (by omega) _ _ _ da db (by omega)]
        simp only [Option.bind_some]
        rw [ih (by omega) _ _ _ xa xb (by omega)]
        simp only [Option.bind_some]
        rw [if_pos (hf_pos l hl3), hf_top l hl3, ih (by omega) _ _ _ n1 (half_lt l) (by omega)]
        simp only [Option.bind_some]
        have hmul : (nm l (a / 2 ^ 2 ^ l ^^^ a % 2 ^ 2 ^ l) (b / 2 ^ 2 ^ l ^^^ b % 2 ^ 2 ^ l) ^^^ nm l (a % 2 ^ 2 ^ l) (b % 2 ^ 2 ^ l)) * 2 ^ 2 ^ l < 2 ^ 2 ^ (l + 1) := by
          rw [sq_pow]; exact Nat.mul_lt_mul_of_pos_right nxx (Nat.two_pow_pos _)
        rw [xor_nat _ _ (by omega) (by omega), hf_succ, shl_nat _ _ h2l (by omega), xor_nat _ _ (by omega) (by omega),
          xor_nat _ _ (Nat.xor_lt_two_pow (by omega) (by omega)) (by omega)]
        rfl

theorem spec_nim (k a b : Nat) (ha : a < 65536) (hb : b < 65536) (hk : 10 ≤ k) : spec_grNim.f k a b = some ((nm 4 a b : Nat) : Int) := by
  unfold spec_grNim.f
  rw [show (8 : Int) = gf 4 from rfl, spec_times_eq 4 (by omega) k a b ha hb hk]
  rfl
theorem impl_nim (k a b : Nat) (ha : a < 65536) (hb : b < 65536) (hk : 10 ≤ k) : impl_times.f k a b = some ((nm 4 a b : Nat) : Int) := by
  unfold impl_times.f
  rw [show (8 : Int) = hf 4 from rfl, impl_nim_eq 4 (by omega) k a b ha hb hk]
  rfl
theorem nm4_lt {a b : Nat} (ha : a < 65536) (hb : b < 65536) : nm 4 a b < 65536 := nm_lt 4 a b ha hb

theorem proved : laws_FnExactNimProduct.Pure := by
  intro a b _ _
  refine ⟨20, ?_⟩
  unfold laws_FnExactNimProduct.f spec_NimProduct.f impl_NimProduct.f
  simp only [spec_isN, impl_isN, Option.bind_some]
  by_cases ha : 0 ≤ a ∧ a ≤ 65535
  · by_cases hb : 0 ≤ b ∧ b ≤ 65535
    · obtain ⟨a, rfl⟩ := Int.eq_ofNat_of_zero_le ha.1
      obtain ⟨b, rfl⟩ := Int.eq_ofNat_of_zero_le hb.1
      simp only [ha, hb, decide_true, and_self, if_true]
      rw [spec_nim 20 a b (by omega) (by omega) (by omega), impl_nim 20 a b (by omega) (by omega) (by omega)]
      simp
    · simp [ha, hb]
  · simp [ha]

end LFnExactNimProduct
theorem FnExactNimProduct : laws_FnExactNimProduct.Pure := LFnExactNimProduct.proved
end Go.Proofs.Ytacpeffinmfdaaa.Pure
