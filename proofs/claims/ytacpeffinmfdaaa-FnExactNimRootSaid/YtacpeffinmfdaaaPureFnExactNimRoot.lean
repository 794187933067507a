/- For any whole number, the program's root of a nimber and the reference's are the same. -/
import Derived.Test.YtacpeffinmfdaaaQFnExactNimRootx2
import Derived.Test.YtacpeffinmfdaaaNim
namespace Go.Proofs.Ytacpeffinmfdaaa.Pure
open Go.RowKit Go.Proofs.Ytacpeffinmfdaaa.QFnExactNimRoot Go.Proofs.YtacpeffinmfdaaaW.PrintWords Go.Proofs.YtacpeffinmfdaaaW.PrintLast
open Go.Proofs.Ytacpeffinmfdaaa.Nim Go.Proofs.YtacpeffinmfdaaaW.PrintMore
set_option linter.unusedVariables false
set_option linter.unusedSimpArgs false
namespace LFnExactNimRoot
theorem spec_isN (a : Int) : spec_grNimber.f a = some (decide (0 ≤ a ∧ a ≤ 65535)) := by
  unfold spec_grNimber.f spec_l1In.f
  by_cases h : 0 ≤ a <;> simp [h]
theorem impl_isN (a : Int) : impl_isNimber.f a = some (decide (0 ≤ a ∧ a ≤ 65535)) := by
  unfold impl_isNimber.f impl_in.f
  by_cases h : 0 ≤ a <;> simp [h]

/-! ### the products of both sides are the plain one -/
/-- Half of the digits of level l, as the program tells it. -/
def hf (l : Nat) : Int := ((2 ^ (l - 1) : Nat) : Int)
theorem hf_next : ∀ l, l ≤ 3 → mx (wrap64 (Int.tdiv (hf (l + 1)) 2)) 1 = hf l := by
  intro l hl
  rcases (by omega : l = 0 ∨ l = 1 ∨ l = 2 ∨ l = 3) with rfl | rfl | rfl | rfl <;> decide +kernel
theorem hf_mask : ∀ l, l ≤ 3 → wrap64 ((shl .i64 1 (hf (l + 1))) - 1) = 2 ^ 2 ^ l - 1 := by
  intro l hl
  rcases (by omega : l = 0 ∨ l = 1 ∨ l = 2 ∨ l = 3) with rfl | rfl | rfl | rfl <;> decide +kernel
theorem hf_top : ∀ l, l ≤ 3 → shl .i64 1 (wrap64 (hf (l + 1) - 1)) = ((2 ^ (2 ^ l - 1) : Nat) : Int) := by
  intro l hl
  rcases (by omega : l = 0 ∨ l = 1 ∨ l = 2 ∨ l = 3) with rfl | rfl | rfl | rfl <;> decide +kernel
theorem hf_pos : ∀ l, l ≤ 3 → 0 ≤ wrap64 (hf (l + 1) - 1) := by
  intro l hl
  rcases (by omega : l = 0 ∨ l = 1 ∨ l = 2 ∨ l = 3) with rfl | rfl | rfl | rfl <;> decide +kernel
theorem hf_succ (l : Nat) : hf (l + 1) = ((2 ^ l : Nat) : Int) := rfl
theorem lv_bd : ∀ l, l ≤ 4 → 2 ^ 2 ^ l ≤ 2 ^ 16 := by
  intro l hl
  exact Nat.pow_le_pow_right (by decide) (Nat.pow_le_pow_right (by decide) hl : 2 ^ l ≤ 2 ^ 4)

theorem impl_nim_eq : ∀ l, l ≤ 4 → ∀ (k a b : Nat), a < 2 ^ 2 ^ l → b < 2 ^ 2 ^ l → 2 * l + 2 ≤ k → impl_nim.f k a b (hf l) = some ((nm l a b : Nat) : Int) := by
  intro l
  induction l with
  | zero =>
    intro _ k a b ha hb hk
    have ha' : a < 2 := ha
    have hb' : b < 2 := hb
    obtain ⟨k, rfl⟩ : ∃ m, k = m + 2 := ⟨k - 2, by omega⟩
    simp only [impl_nim.f]
    rw [if_pos (by omega)]
    simp only [impl_nim.j0, if_true]
    rcases (by omega : a = 0 ∨ a = 1) with rfl | rfl <;> rcases (by omega : b = 0 ∨ b = 1) with rfl | rfl <;> decide +kernel
  | succ l ih =>
    intro hl k a b ha hb hk
    obtain ⟨k, rfl⟩ : ∃ m, k = m + 2 := ⟨k - 2, by omega⟩
    have big4 := lv_bd (l + 1) hl
    have big3 := lv_bd l (by omega)
    by_cases ha2 : a < 2
    · simp only [impl_nim.f]
      rw [if_pos (by omega)]
      simp only [impl_nim.j0, if_true]
      have : nm (l + 1) a b = a * b := by
        rcases (by omega : a = 0 ∨ a = 1) with rfl | rfl
        · rw [nm_zero, Nat.zero_mul]
        · rw [nm_one _ _ hb, Nat.one_mul]
      rw [this]
      have hab : a * b < 2 ^ 17 := by
        rcases (by omega : a = 0 ∨ a = 1) with rfl | rfl <;> omega
      have : wrap64 ((a : Int) * b) = ((a * b : Nat) : Int) := by rw [← Int.natCast_mul]; unfold wrap64; omega
      rw [this]
    · by_cases hb2 : b < 2
      · simp only [impl_nim.f]
        rw [if_neg (by omega)]
        have hd : decide ((b : Int) < 2) = true := decide_eq_true (by omega)
        simp only [impl_nim.j0, hd, if_true]
        have : nm (l + 1) a b = a * b := by
          rcases (by omega : b = 0 ∨ b = 1) with rfl | rfl
          · rw [nm_zero', Nat.mul_zero]
          · rw [nm_one' _ _ ha, Nat.mul_one]
        rw [this]
        have hab : a * b < 2 ^ 17 := by
          rcases (by omega : b = 0 ∨ b = 1) with rfl | rfl <;> omega
        have : wrap64 ((a : Int) * b) = ((a * b : Nat) : Int) := by rw [← Int.natCast_mul]; unfold wrap64; omega
        rw [this]
      · have hl3 : l ≤ 3 := by omega
        have h2l : 2 ^ l ≤ 64 := Nat.le_trans (Nat.pow_le_pow_right (by decide) hl3) (by decide)
        have h2l8 : 2 ^ l ≤ 8 := Nat.le_trans (Nat.pow_le_pow_right (by decide) hl3) (by decide)
        have a62 : a < 2 ^ 62 := by omega
        have b62 : b < 2 ^ 62 := by omega
        have da := div_lt ha
        have db := div_lt hb
        have ma := mod_lt l a
        have mb := mod_lt l b
        have xa := Nat.xor_lt_two_pow da ma
        have xb := Nat.xor_lt_two_pow db mb
        have n1 := nm_lt l _ _ da db
        have n0 := nm_lt l _ _ ma mb
        have nx := nm_lt l _ _ xa xb
        have nh := nm_lt l _ _ n1 (half_lt l)
        have nxx := Nat.xor_lt_two_pow nx n0
        simp only [impl_nim.f]
        rw [if_neg (by omega)]
        have hd : decide ((b : Int) < 2) = false := decide_eq_false (by omega)
        have h0 : (0 : Int) ≤ hf (l + 1) := Int.natCast_nonneg _
        simp only [impl_nim.j0, hd]
        rw [if_neg (by decide), if_pos h0, hf_next l hl3, hf_mask l hl3, hf_succ, shr_nat a _ h2l, shr_nat b _ h2l, mask_nat a _ a62 (by omega), mask_nat b _ b62 (by omega), ← hf_succ,
          xor_nat _ _ (by omega) (by omega), xor_nat _ _ (by omega) (by omega), ih (by omega) _ _ _ da db (by omega)]
        simp only [Option.bind_some]
        rw [ih (by omega) _ _ _ ma mb (by omega)]
        simp only [Option.bind_some]
        rw [ih (by omega) _ _ _ xa xb (by omega)]
        simp only [Option.bind_some]
        rw [if_pos (hf_pos l hl3), hf_top l hl3, ih (by omega) _ _ _ n1 (half_lt l) (by omega)]
        simp only [Option.bind_some]
        have hmul : (nm l (a / 2 ^ 2 ^ l ^^^ a % 2 ^ 2 ^ l) (b / 2 ^ 2 ^ l ^^^ b % 2 ^ 2 ^ l) ^^^ nm l (a % 2 ^ 2 ^ l) (b % 2 ^ 2 ^ l)) * 2 ^ 2 ^ l < 2 ^ 2 ^ (l + 1) := by
          rw [sq_pow]; exact Nat.mul_lt_mul_of_pos_right nxx (Nat.two_pow_pos _)
        rw [xor_nat _ _ (by omega) (by omega), hf_succ, shl_nat _ _ h2l (by omega), xor_nat _ _ (by omega) (by omega),
          xor_nat _ _ (Nat.xor_lt_two_pow (by omega) (by omega)) (by omega)]
        rfl

/-- The level of the reference: 0 at the bottom. -/
def gf (l : Nat) : Int := if l = 0 then 0 else hf l
theorem gf_next : ∀ l, l ≤ 3 → wrap64 (Int.tdiv (hf (l + 1)) 2) = gf l := by
  intro l hl
  rcases (by omega : l = 0 ∨ l = 1 ∨ l = 2 ∨ l = 3) with rfl | rfl | rfl | rfl <;> decide +kernel

theorem spec_times_eq : ∀ l, l ≤ 4 → ∀ (k a b : Nat), a < 2 ^ 2 ^ l → b < 2 ^ 2 ^ l → 2 * l + 2 ≤ k → spec_grTimes.f k a b (gf l) = some ((nm l a b : Nat) : Int) := by
  intro l
  induction l with
  | zero =>
    intro _ k a b ha hb hk
    have ha' : a < 2 := ha
    have hb' : b < 2 := hb
    obtain ⟨k, rfl⟩ : ∃ m, k = m + 2 := ⟨k - 2, by omega⟩
    simp only [spec_grTimes.f, spec_grTimes.j0]
    rcases (by omega : a = 0 ∨ a = 1) with rfl | rfl <;> rcases (by omega : b = 0 ∨ b = 1) with rfl | rfl <;> simp [gf, nm]
  | succ l ih =>
    intro hl k a b ha hb hk
    obtain ⟨k, rfl⟩ : ∃ m, k = m + 2 := ⟨k - 2, by omega⟩
    have big4 := lv_bd (l + 1) hl
    have big3 := lv_bd l (by omega)
    by_cases ha2 : a = 0
    · subst ha2
      simp only [spec_grTimes.f]
      rw [if_pos (by omega), nm_zero]
      simp only [spec_grTimes.j0, if_true]
      rfl
    · by_cases hb2 : b = 0
      · subst hb2
        simp only [spec_grTimes.f]
        rw [if_neg (by omega), nm_zero']
        simp [spec_grTimes.j0]
      · have hl3 : l ≤ 3 := by omega
        have h2l : 2 ^ l ≤ 64 := Nat.le_trans (Nat.pow_le_pow_right (by decide) hl3) (by decide)
        have h2l8 : 2 ^ l ≤ 8 := Nat.le_trans (Nat.pow_le_pow_right (by decide) hl3) (by decide)
        have hg : gf (l + 1) = hf (l + 1) := rfl
        have a62 : a < 2 ^ 62 := by omega
        have b62 : b < 2 ^ 62 := by omega
        have da := div_lt ha
        have db := div_lt hb
        have ma := mod_lt l a
        have mb := mod_lt l b
        have xa := Nat.xor_lt_two_pow da ma
        have xb := Nat.xor_lt_two_pow db mb
        have n1 := nm_lt l _ _ da db
        have n0 := nm_lt l _ _ ma mb
        have nx := nm_lt l _ _ xa xb
        have nh := nm_lt l _ _ n1 (half_lt l)
        have nxx := Nat.xor_lt_two_pow nx n0
        simp only [spec_grTimes.f]
        rw [if_neg (by omega)]
        have hd : ((b : Int) == 0) = false := by simpa using hb2
        have h0 : (0 : Int) ≤ hf (l + 1) := Int.natCast_nonneg _
        have h1 : ¬ hf (l + 1) = 0 := by rw [hf_succ]; have := Nat.two_pow_pos l; omega
        simp only [spec_grTimes.j0, hd, hg]
        rw [if_neg (by decide), if_neg h1, if_pos h0, gf_next l hl3, hf_mask l hl3, hf_succ, shr_nat a _ h2l, shr_nat b _ h2l, mask_nat a _ a62 (by omega), mask_nat b _ b62 (by omega), ← hf_succ,
          xor_nat _ _ (by omega) (by omega), xor_nat _ _ (by omega) (by omega), ih (by omega) _ _ _ ma mb (by omega)]
        simp only [Option.bind_some]
        rw [ih (by omega) _ _ _ da db (by omega)]
        simp only [Option.bind_some]
        rw [ih (by omega) _ _ _ xa xb (by omega)]
        simp only [Option.bind_some]
        rw [if_pos (hf_pos l hl3), hf_top l hl3, ih (by omega) _ _ _ n1 (half_lt l) (by omega)]
        simp only [Option.bind_some]
        have hmul : (nm l (a / 2 ^ 2 ^ l ^^^ a % 2 ^ 2 ^ l) (b / 2 ^ 2 ^ l ^^^ b % 2 ^ 2 ^ l) ^^^ nm l (a % 2 ^ 2 ^ l) (b % 2 ^ 2 ^ l)) * 2 ^ 2 ^ l < 2 ^ 2 ^ (l + 1) := by
          rw [sq_pow]; exact Nat.mul_lt_mul_of_pos_right nxx (Nat.two_pow_pos _)
        rw [xor_nat _ _ (by omega) (by omega), hf_succ, shl_nat _ _ h2l (by omega), xor_nat _ _ (by omega) (by omega),
          xor_nat _ _ (Nat.xor_lt_two_pow (by omega) (by omega)) (by omega)]
        rfl

theorem spec_nim (k a b : Nat) (ha : a < 65536) (hb : b < 65536) (hk : 10 ≤ k) : spec_grNim.f k a b = some ((nm 4 a b : Nat) : Int) := by
  unfold spec_grNim.f
  rw [show (8 : Int) = gf 4 from rfl, spec_times_eq 4 (by omega) k a b ha hb hk]
  rfl
theorem impl_nim (k a b : Nat) (ha : a < 65536) (hb : b < 65536) (hk : 10 ≤ k) : impl_times.f k a b = some ((nm 4 a b : Nat) : Int) := by
  unfold impl_times.f
  rw [show (8 : Int) = hf 4 from rfl, impl_nim_eq 4 (by omega) k a b ha hb hk]
  rfl
theorem nm4_lt {a b : Nat} (ha : a < 65536) (hb : b < 65536) : nm 4 a b < 65536 := nm_lt 4 a b ha hb

/-! ### powers -/
/-- A power by squares: base, exponent, what is made so far. -/
def pw : Nat → Nat → Nat → Nat → Nat
  | 0, _, _, o => o
  | n + 1, a, e, o => if e = 0 then o else pw n (nm 4 a a) (e / 2) (if e % 2 = 1 then nm 4 o a else o)
theorem pw_lt : ∀ (n a e o : Nat), a < 65536 → o < 65536 → pw n a e o < 65536
  | 0, _, _, _, _, h => h
  | n + 1, a, e, o, ha, ho => by
    unfold pw
    split
    · exact ho
    · refine pw_lt n _ _ _ (nm4_lt ha ha) ?_
      split
      · exact nm4_lt ho ha
      · exact ho
theorem spec_pow_l : ∀ (n k a e o : Nat), a < 65536 → o < 65536 → e < 2 ^ n → n ≤ 60 → n + 10 ≤ k → spec_grPower.l0 k a e o = some ((pw n a e o : Nat) : Int) := by
  intro n
  induction n with
  | zero =>
    intro k a e o ha ho he _ hk
    have he0 : e = 0 := by omega
    subst he0
    obtain ⟨k, rfl⟩ : ∃ m, k = m + 1 := ⟨k - 1, by omega⟩
    simp only [spec_grPower.l0]
    rw [if_neg (by omega)]
    rfl
  | succ n ih =>
    intro k a e o ha ho he hn hk
    obtain ⟨k, rfl⟩ : ∃ m, k = m + 1 := ⟨k - 1, by omega⟩
    have h60 : 2 ^ (n + 1) ≤ 2 ^ 60 := Nat.pow_le_pow_right (by decide) hn
    have hw : wrap64 (Int.tdiv (e : Int) 2) = ((e / 2 : Nat) : Int) := by
      rw [Int.tdiv_eq_ediv_of_nonneg (by omega)]; unfold wrap64; omega
    have hm : Int.tmod (e : Int) 2 = ((e % 2 : Nat) : Int) := by
      rw [Int.tmod_eq_emod_of_nonneg (by omega)]; omega
    have he2 : e / 2 < 2 ^ n := by rw [Nat.pow_succ] at he; omega
    simp only [spec_grPower.l0]
    unfold pw
    by_cases h0 : e = 0
    · rw [if_neg (by omega), if_pos h0]
    · rw [if_pos (by omega), if_neg h0, hm]
      by_cases h1 : e % 2 = 1
      · rw [if_pos (by omega), spec_nim k o a ho ha (by omega)]
        simp only [Option.bind_some]
        rw [spec_nim k a a ha ha (by omega)]
        simp only [Option.bind_some]
        rw [hw, ih k _ _ _ (nm4_lt ha ha) (nm4_lt ho ha) he2 (by omega) (by omega), if_pos h1]
      · rw [if_neg (by omega), spec_nim k a a ha ha (by omega)]
        simp only [Option.bind_some]
        rw [hw, ih k _ _ _ (nm4_lt ha ha) ho he2 (by omega) (by omega), if_neg h1]
theorem impl_pow_l : ∀ (n k a e o : Nat), a < 65536 → o < 65536 → e < 2 ^ n → n ≤ 60 → n + 10 ≤ k → impl_nimPower.l0 k a e o = some ((pw n a e o : Nat) : Int) := by
  intro n
  induction n with
  | zero =>
    intro k a e o ha ho he _ hk
    have he0 : e = 0 := by omega
    subst he0
    obtain ⟨k, rfl⟩ : ∃ m, k = m + 1 := ⟨k - 1, by omega⟩
    simp only [impl_nimPower.l0]
    rw [if_neg (by omega)]
    rfl
  | succ n ih =>
    intro k a e o ha ho he hn hk
    obtain ⟨k, rfl⟩ : ∃ m, k = m + 1 := ⟨k - 1, by omega⟩
    have h60 : 2 ^ (n + 1) ≤ 2 ^ 60 := Nat.pow_le_pow_right (by decide) hn
    have hw : wrap64 (Int.tdiv (e : Int) 2) = ((e / 2 : Nat) : Int) := by
      rw [Int.tdiv_eq_ediv_of_nonneg (by omega)]; unfold wrap64; omega
    have hm : Int.tmod (e : Int) 2 = ((e % 2 : Nat) : Int) := by
      rw [Int.tmod_eq_emod_of_nonneg (by omega)]; omega
    have he2 : e / 2 < 2 ^ n := by rw [Nat.pow_succ] at he; omega
    simp only [impl_nimPower.l0]
    unfold pw
    by_cases h0 : e = 0
    · rw [if_neg (by omega), if_pos h0]
    · rw [if_pos (by omega), if_neg h0, hm]
      by_cases h1 : e % 2 = 1
      · rw [if_pos (by omega), impl_nim k o a ho ha (by omega)]
        simp only [Option.bind_some]
        rw [impl_nim k a a ha ha (by omega)]
        simp only [Option.bind_some]
        rw [hw, ih k _ _ _ (nm4_lt ha ha) (nm4_lt ho ha) he2 (by omega) (by omega), if_pos h1]
      · rw [if_neg (by omega), impl_nim k a a ha ha (by omega)]
        simp only [Option.bind_some]
        rw [hw, ih k _ _ _ (nm4_lt ha ha) ho he2 (by omega) (by omega), if_neg h1]
/-- The power, for exponents below 2^20. -/
def pow4 (a e : Nat) : Nat := pw 20 a e 1
theorem pow4_lt {a e : Nat} (ha : a < 65536) : pow4 a e < 65536 := pw_lt 20 a e 1 ha (by omega)
theorem spec_pow (k a e : Nat) (ha : a < 65536) (he : e < 1048576) (hk : 30 ≤ k) : spec_grPower.f k a e = some ((pow4 a e : Nat) : Int) := by
  unfold spec_grPower.f
  exact spec_pow_l 20 k a e 1 ha (by omega) he (by omega) (by omega)
theorem impl_pow (k a e : Nat) (ha : a < 65536) (he : e < 1048576) (hk : 30 ≤ k) : impl_nimPower.f k a e = some ((pow4 a e : Nat) : Int) := by
  unfold impl_nimPower.f
  exact impl_pow_l 20 k a e 1 ha (by omega) he (by omega) (by omega)

theorem proved : laws_FnExactNimRoot.Pure := by
  intro a _
  refine ⟨40, ?_⟩
  unfold laws_FnExactNimRoot.f spec_NimRoot.f impl_NimRoot.f
  simp only [spec_isN, impl_isN, Option.bind_some, spec_grRoot.f]
  by_cases ha : 0 ≤ a ∧ a ≤ 65535
  · obtain ⟨a, rfl⟩ := Int.eq_ofNat_of_zero_le ha.1
    simp only [ha, decide_true, and_self, if_true]
    have h1 := spec_pow 40 a 32768 (by omega) (by omega) (by omega)
    have h2 := impl_pow 40 a 32768 (by omega) (by omega) (by omega)
    simp only [Int.cast_ofNat_Int] at h1 h2
    simp [h1, h2]
  · simp [ha]

end LFnExactNimRoot
theorem FnExactNimRoot : laws_FnExactNimRoot.Pure := LFnExactNimRoot.proved
end Go.Proofs.Ytacpeffinmfdaaa.Pure
