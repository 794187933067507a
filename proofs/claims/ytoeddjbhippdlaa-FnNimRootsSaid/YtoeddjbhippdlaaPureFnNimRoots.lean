/- Whatever is drawn: the solutions of square equations are right, sorted, as many as told; roots are additive, halves are the lesser solutions. -/
import Derived.Test.YtoeddjbhippdlaaQFnNimRootsx6
import Derived.OpenShut
import Derived.Test.YtoeddjbhippdlaaField
import Derived.Test.YtoeddjbhippdlaaNim
import Derived.Test.YtoeddjbhippdlaaSolve
namespace Go.Proofs.Ytoeddjbhippdlaa.Pure
open Go.RowKit Go.Proofs.Ytoeddjbhippdlaa.QFnNimRoots Go.Proofs.YtoeddjbhippdlaaW.PrintWords Go.Proofs.YtoeddjbhippdlaaW.PrintLast
open Go.Proofs.Ytoeddjbhippdlaa.Field
open Go.Proofs.Ytoeddjbhippdlaa.Field Go.Proofs.Ytoeddjbhippdlaa.Half Go.Proofs.Ytoeddjbhippdlaa.Solve
open Go.Proofs.Ytoeddjbhippdlaa.Nim Go.Proofs.YtoeddjbhippdlaaW.PrintMore
set_option linter.unusedVariables false
set_option linter.unusedSimpArgs false
namespace LFnNimRoots
/-! ### small words -/
theorem wsucc (i : Nat) (h : i < 2 ^ 62) : wrap64 ((i : Int) + 1) = ((i + 1 : Nat) : Int) := by unfold wrap64; omega
theorem drop_rd {l : List Int} {i : Nat} (h : i < l.length) : l.drop i = rd l (i : Int) :: l.drop (i + 1) := by
  rw [List.drop_eq_getElem_cons h]
  simp [rd, List.getD_eq_getElem?_getD, List.getElem?_eq_getElem h]

theorem spec_isN (a : Int) : spec_grNimber.f a = some (decide (0 ≤ a ∧ a ≤ 65535)) := by
  unfold spec_grNimber.f spec_l1In.f
  by_cases h : 0 ≤ a <;> simp [h]
theorem impl_isN (a : Int) : impl_isNimber.f a = some (decide (0 ≤ a ∧ a ≤ 65535)) := by
  unfold impl_isNimber.f impl_in.f
  by_cases h : 0 ≤ a <;> simp [h]

/-! ### the products of both sides are the plain one -/
/-- Half of the digits of level l, as the program tells it. -/
def hf (l : Nat) : Int := ((2 ^ (l - 1) : Nat) : Int)
theorem hf_next : ∀ l, l ≤ 3 → mx (wrap64 (Int.tdiv (hf (l + 1)) 2)) 1 = hf l := by
  intro l hl
  rcases (by omega : l = 0 ∨ l = 1 ∨ l = 2 ∨ l = 3) with rfl | rfl | rfl | rfl <;> decide +kernel
theorem hf_mask : ∀ l, l ≤ 3 → wrap64 ((shl .i64 1 (hf (l + 1))) - 1) = 2 ^ 2 ^ l - 1 := by
  intro l hl
  rcases (by omega : l = 0 ∨ l = 1 ∨ l = 2 ∨ l = 3) with rfl | rfl | rfl | rfl <;> decide +kernel
theorem hf_top : ∀ l, l ≤ 3 → shl .i64 1 (wrap64 (hf (l + 1) - 1)) = ((2 ^ (2 ^ l - 1) : Nat) : Int) := by
  intro l hl
  rcases (by omega : l = 0 ∨ l = 1 ∨ l = 2 ∨ l = 3) with rfl | rfl | rfl | rfl <;> decide +kernel
theorem hf_pos : ∀ l, l ≤ 3 → 0 ≤ wrap64 (hf (l + 1) - 1) := by
  intro l hl
  rcases (by omega : l = 0 ∨ l = 1 ∨ l = 2 ∨ l = 3) with rfl | rfl | rfl | rfl <;> decide +kernel
theorem hf_succ (l : Nat) : hf (l + 1) = ((2 ^ l : Nat) : Int) := rfl
theorem lv_bd : ∀ l, l ≤ 4 → 2 ^ 2 ^ l ≤ 2 ^ 16 := by
  intro l hl
  exact Nat.pow_le_pow_right (by decide) (Nat.pow_le_pow_right (by decide) hl : 2 ^ l ≤ 2 ^ 4)

theorem impl_nim_eq : ∀ l, l ≤ 4 → ∀ (k a b : Nat), a < 2 ^ 2 ^ l → b < 2 ^ 2 ^ l → 2 * l + 2 ≤ k → impl_nim.f k a b (hf l) = some ((nm l a b : Nat) : Int) := by
  intro l
  induction l with
  | zero =>
    intro _ k a b ha hb hk
    have ha' : a < 2 := ha
    have hb' : b < 2 := hb
    obtain ⟨k, rfl⟩ : ∃ m, k = m + 2 := ⟨k - 2, by omega⟩
    simp only [impl_nim.f]
    rw [if_pos (by omega)]
    simp only [impl_nim.j0, if_true]
    rcases (by omega : a = 0 ∨ a = 1) with rfl | rfl <;> rcases (by omega : b = 0 ∨ b = 1) with rfl | rfl <;> decide +kernel
  | succ l ih =>
    intro hl k a b ha hb hk
    obtain ⟨k, rfl⟩ : ∃ m, k = m + 2 := ⟨k - 2, by omega⟩
    have big4 := lv_bd (l + 1) hl
    have big3 := lv_bd l (by omega)
    by_cases ha2 : a < 2
    · simp only [impl_nim.f]
      rw [if_pos (by omega)]
      simp only [impl_nim.j0, if_true]
      have : nm (l + 1) a b = a * b := by
        rcases (by omega : a = 0 ∨ a = 1) with rfl | rfl
        · rw [nm_zero, Nat.zero_mul]
        · rw [nm_one _ _ hb, Nat.one_mul]
      rw [this]
      have hab : a * b < 2 ^ 17 := by
        rcases (by omega : a = 0 ∨ a = 1) with rfl | rfl <;> omega
      have : wrap64 ((a : Int) * b) = ((a * b : Nat) : Int) := by rw [← Int.natCast_mul]; unfold wrap64; omega
      rw [this]
    · by_cases hb2 : b < 2
      · simp only [impl_nim.f]
        rw [if_neg (by omega)]
        have hd : decide ((b : Int) < 2) = true := decide_eq_true (by omega)
        simp only [impl_nim.j0, hd, if_true]
        have : nm (l + 1) a b = a * b := by
          rcases (by omega : b = 0 ∨ b = 1) with rfl | rfl
          · rw [nm_zero', Nat.mul_zero]
          · rw [nm_one' _ _ ha, Nat.mul_one]
        rw [this]
        have hab : a * b < 2 ^ 17 := by
          rcases (by omega : b = 0 ∨ b = 1) with rfl | rfl <;> omega
        have : wrap64 ((a : Int) * b) = ((a * b : Nat) : Int) := by rw [← Int.natCast_mul]; unfold wrap64; omega
        rw [this]
      · have hl3 : l ≤ 3 := by omega
        have h2l : 2 ^ l ≤ 64 := Nat.le_trans (Nat.pow_le_pow_right (by decide) hl3) (by decide)
        have h2l8 : 2 ^ l ≤ 8 := Nat.le_trans (Nat.pow_le_pow_right (by decide) hl3) (by decide)
        have a62 : a < 2 ^ 62 := by omega
        have b62 : b < 2 ^ 62 := by omega
        have da := div_lt ha
        have db := div_lt hb
        have ma := mod_lt l a
        have mb := mod_lt l b
        have xa := Nat.xor_lt_two_pow da ma
        have xb := Nat.xor_lt_two_pow db mb
        have n1 := nm_lt l _ _ da db
        have n0 := nm_lt l _ _ ma mb
        have nx := nm_lt l _ _ xa xb
        have nh := nm_lt l _ _ n1 (half_lt l)
        have nxx := Nat.xor_lt_two_pow nx n0
        simp only [impl_nim.f]
        rw [if_neg (by omega)]
        have hd : decide ((b : Int) < 2) = false := decide_eq_false (by omega)
        have h0 : (0 : Int) ≤ hf (l + 1) := Int.natCast_nonneg _
        simp only [impl_nim.j0, hd]
        rw [if_neg (by decide), if_pos h0, hf_next l hl3, hf_mask l hl3, hf_succ, shr_nat a _ h2l, shr_nat b _ h2l, mask_nat a _ a62 (by omega), mask_nat b _ b62 (by omega), ← hf_succ,
          xor_nat _ _ (by omega) (by omega), xor_nat _ _ (by omega) (by omega), ih (by omega) _ _ _ da db (by omega)]
        simp only [Option.bind_some]
        rw [ih (by omega) _ _ _ ma mb (by omega)]
        simp only [Option.bind_some]
        rw [ih (by omega) _ _ _ xa xb (by omega)]
        simp only [Option.bind_some]
        rw [if_pos (hf_pos l hl3), hf_top l hl3, ih (by omega) _ _ _ n1 (half_lt l) (by omega)]
        simp only [Option.bind_some]
        have hmul : (nm l (a / 2 ^ 2 ^ l ^^^ a % 2 ^ 2 ^ l) (b / 2 ^ 2 ^ l ^^^ b % 2 ^ 2 ^ l) ^^^ nm l (a % 2 ^ 2 ^ l) (b % 2 ^ 2 ^ l)) * 2 ^ 2 ^ l < 2 ^ 2 ^ (l + 1) := by
          rw [sq_pow]; exact Nat.mul_lt_mul_of_pos_right nxx (Nat.two_pow_pos _)
        rw [xor_nat _ _ (by omega) (by omega), hf_succ, shl_nat _ _ h2l (by omega), xor_nat _ _ (by omega) (by omega),
          xor_nat _ _ (Nat.xor_lt_two_pow (by omega) (by omega)) (by omega)]
        rfl

/-- The level of the reference: 0 at the bottom. -/
def gf (l : Nat) : Int := if l = 0 then 0 else hf l
theorem gf_next : ∀ l, l ≤ 3 → wrap64 (Int.tdiv (hf (l + 1)) 2) = gf l := by
  intro l hl
  rcases (by omega : l = 0 ∨ l = 1 ∨ l = 2 ∨ l = 3) with rfl | rfl | rfl | rfl <;> decide +kernel

theorem spec_times_eq : ∀ l, l ≤ 4 → ∀ (k a b : Nat), a < 2 ^ 2 ^ l → b < 2 ^ 2 ^ l → 2 * l + 2 ≤ k → spec_grTimes.f k a b (gf l) = some ((nm l a b : Nat) : Int) := by
  intro l
  induction l with
  | zero =>
    intro _ k a b ha hb hk
    have ha' : a < 2 := ha
    have hb' : b < 2 := hb
    obtain ⟨k, rfl⟩ : ∃ m, k = m + 2 := ⟨k - 2, by omega⟩
    simp only [spec_grTimes.f, spec_grTimes.j0]
    rcases (by omega : a = 0 ∨ a = 1) with rfl | rfl <;> rcases (by omega : b = 0 ∨ b = 1) with rfl | rfl <;> simp [gf, nm]
  | succ l ih =>
    intro hl k a b ha hb hk
    obtain ⟨k, rfl⟩ : ∃ m, k = m + 2 := ⟨k - 2, by omega⟩
    have big4 := lv_bd (l + 1) hl
    have big3 := lv_bd l (by omega)
    by_cases ha2 : a = 0
    · subst ha2
      simp only [spec_grTimes.f]
      rw [if_pos (by omega), nm_zero]
      simp only [spec_grTimes.j0, if_true]
      rfl
    · by_cases hb2 : b = 0
      · subst hb2
        simp only [spec_grTimes.f]
        rw [if_neg (by omega), nm_zero']
        simp [spec_grTimes.j0]
      · have hl3 : l ≤ 3 := by omega
        have h2l : 2 ^ l ≤ 64 := Nat.le_trans (Nat.pow_le_pow_right (by decide) hl3) (by decide)
        have h2l8 : 2 ^ l ≤ 8 := Nat.le_trans (Nat.pow_le_pow_right (by decide) hl3) (by decide)
        have hg : gf (l + 1) = hf (l + 1) := rfl
        have a62 : a < 2 ^ 62 := by omega
        have b62 : b < 2 ^ 62 := by omega
        have da := div_lt ha
        have db := div_lt hb
        have ma := mod_lt l a
        have mb := mod_lt l b
        have xa := Nat.xor_lt_two_pow da ma
        have xb := Nat.xor_lt_two_pow db mb
        have n1 := nm_lt l _ _ da db
        have n0 := nm_lt l _ _ ma mb
        have nx := nm_lt l _ _ xa xb
        have nh := nm_lt l _ _ n1 (half_lt l)
        have nxx := Nat.xor_lt_two_pow nx n0
        simp only [spec_grTimes.f]
        rw [if_neg (by omega)]
        have hd : ((b : Int) == 0) = false := by simpa using hb2
        have h0 : (0 : Int) ≤ hf (l + 1) := Int.natCast_nonneg _
        have h1 : ¬ hf (l + 1) = 0 := by rw [hf_succ]; have := Nat.two_pow_pos l; omega
        simp only [spec_grTimes.j0, hd, hg]
        rw [if_neg (by decide), if_neg h1, if_pos h0, gf_next l hl3, hf_mask l hl3, hf_succ, shr_nat a _ h2l, shr_nat b _ h2l, mask_nat a _ a62 (by omega), mask_nat b _ b62 (by omega), ← hf_succ,
          xor_nat _ _ (by omega) (by omega), xor_nat _ _ (by omega) (by omega), ih (by omega) _ _ _ ma mb (by omega)]
        simp only [Option.bind_some]
        rw [ih (by omega) _ _ _ da db (by omega)]
        simp only [Option.bind_some]
        rw [ih (by omega) _ _ _ xa xb (by omega)]
        simp only [Option.bind_some]
        rw [if_pos (hf_pos l hl3), hf_top l hl3, ih (by omega) _ _ _ n1 (half_lt l) (by omega)]
        simp only [Option.bind_some]
        have hmul : (nm l (a / 2 ^ 2 ^ l ^^^ a % 2 ^ 2 ^ l) (b / 2 ^ 2 ^ l ^^^ b % 2 ^ 2 ^ l) ^^^ nm l (a % 2 ^ 2 ^ l) (b % 2 ^ 2 ^ l)) * 2 ^ 2 ^ l < 2 ^ 2 ^ (l + 1) := by
          rw [sq_pow]; exact Nat.mul_lt_mul_of_pos_right nxx (Nat.two_pow_pos _)
        rw [xor_nat _ _ (by omega) (by omega), hf_succ, shl_nat _ _ h2l (by omega), xor_nat _ _ (by omega) (by omega),
          xor_nat _ _ (Nat.xor_lt_two_pow (by omega) (by omega)) (by omega)]
        rfl

theorem spec_nim (k a b : Nat) (ha : a < 65536) (hb : b < 65536) (hk : 10 ≤ k) : spec_grNim.f k a b = some ((nm 4 a b : Nat) : Int) := by
  unfold spec_grNim.f
  rw [show (8 : Int) = gf 4 from rfl, spec_times_eq 4 (by omega) k a b ha hb hk]
  rfl
theorem impl_nim (k a b : Nat) (ha : a < 65536) (hb : b < 65536) (hk : 10 ≤ k) : impl_times.f k a b = some ((nm 4 a b : Nat) : Int) := by
  unfold impl_times.f
  rw [show (8 : Int) = hf 4 from rfl, impl_nim_eq 4 (by omega) k a b ha hb hk]
  rfl
theorem nm4_lt {a b : Nat} (ha : a < 65536) (hb : b < 65536) : nm 4 a b < 65536 := nm_lt 4 a b ha hb

/-! ### powers -/
/-- A power by squares: base, exponent, what is made so far. -/
def pw : Nat → Nat → Nat → Nat → Nat
  | 0, _, _, o => o
  | n + 1, a, e, o => if e = 0 then o else pw n (nm 4 a a) (e / 2) (if e % 2 = 1 then nm 4 o a else o)
theorem pw_lt : ∀ (n a e o : Nat), a < 65536 → o < 65536 → pw n a e o < 65536
  | 0, _, _, _, _, h => h
  | n + 1, a, e, o, ha, ho => by
    unfold pw
    split
    · exact ho
    · refine pw_lt n _ _ _ (nm4_lt ha ha) ?_
      split
      · exact nm4_lt ho ha
      · exact ho
theorem spec_pow_l : ∀ (n k a e o : Nat), a < 65536 → o < 65536 → e < 2 ^ n → n ≤ 60 → n + 10 ≤ k → spec_grPower.l0 k a e o = some ((pw n a e o : Nat) : Int) := by
  intro n
  induction n with
  | zero =>
    intro k a e o ha ho he _ hk
    have he0 : e = 0 := by omega
    subst he0
    obtain ⟨k, rfl⟩ : ∃ m, k = m + 1 := ⟨k - 1, by omega⟩
    simp only [spec_grPower.l0]
    rw [if_neg (by omega)]
    rfl
  | succ n ih =>
    intro k a e o ha ho he hn hk
    obtain ⟨k, rfl⟩ : ∃ m, k = m + 1 := ⟨k - 1, by omega⟩
    have h60 : 2 ^ (n + 1) ≤ 2 ^ 60 := Nat.pow_le_pow_right (by decide) hn
    have hw : wrap64 (Int.tdiv (e : Int) 2) = ((e / 2 : Nat) : Int) := by
      rw [Int.tdiv_eq_ediv_of_nonneg (by omega)]; unfold wrap64; omega
    have hm : Int.tmod (e : Int) 2 = ((e % 2 : Nat) : Int) := by
      rw [Int.tmod_eq_emod_of_nonneg (by omega)]; omega
    have he2 : e / 2 < 2 ^ n := by rw [Nat.pow_succ] at he; omega
    simp only [spec_grPower.l0]
    unfold pw
    by_cases h0 : e = 0
    · rw [if_neg (by omega), if_pos h0]
    · rw [if_pos (by omega), if_neg h0, hm]
      by_cases h1 : e % 2 = 1
      · rw [if_pos (by omega), spec_nim k o a ho ha (by omega)]
        simp only [Option.bind_some]
        rw [spec_nim k a a ha ha (by omega)]
        simp only [Option.bind_some]
        rw [hw, ih k _ _ _ (nm4_lt ha ha) (nm4_lt ho ha) he2 (by omega) (by omega), if_pos h1]
      · rw [if_neg (by omega), spec_nim k a a ha ha (by omega)]
        simp only [Option.bind_some]
        rw [hw, ih k _ _ _ (nm4_lt ha ha) ho he2 (by omega) (by omega), if_neg h1]
theorem impl_pow_l : ∀ (n k a e o : Nat), a < 65536 → o < 65536 → e < 2 ^ n → n ≤ 60 → n + 10 ≤ k → impl_nimPower.l0 k a e o = some ((pw n a e o : Nat) : Int) := by
  intro n
  induction n with
  | zero =>
    intro k a e o ha ho he _ hk
    have he0 : e = 0 := by omega
    subst he0
    obtain ⟨k, rfl⟩ : ∃ m, k = m + 1 := ⟨k - 1, by omega⟩
    simp only [impl_nimPower.l0]
    rw [if_neg (by omega)]
    rfl
  | succ n ih =>
    intro k a e o ha ho he hn hk
    obtain ⟨k, rfl⟩ : ∃ m, k = m + 1 := ⟨k - 1, by omega⟩
    have h60 : 2 ^ (n + 1) ≤ 2 ^ 60 := Nat.pow_le_pow_right (by decide) hn
    have hw : wrap64 (Int.tdiv (e : Int) 2) = ((e / 2 : Nat) : Int) := by
      rw [Int.tdiv_eq_ediv_of_nonneg (by omega)]; unfold wrap64; omega
    have hm : Int.tmod (e : Int) 2 = ((e % 2 : Nat) : Int) := by
      rw [Int.tmod_eq_emod_of_nonneg (by omega)]; omega
    have he2 : e / 2 < 2 ^ n := by rw [Nat.pow_succ] at he; omega
    simp only [impl_nimPower.l0]
    unfold pw
    by_cases h0 : e = 0
    · rw [if_neg (by omega), if_pos h0]
    · rw [if_pos (by omega), if_neg h0, hm]
      by_cases h1 : e % 2 = 1
      · rw [if_pos (by omega), impl_nim k o a ho ha (by omega)]
        simp only [Option.bind_some]
        rw [impl_nim k a a ha ha (by omega)]
        simp only [Option.bind_some]
        rw [hw, ih k _ _ _ (nm4_lt ha ha) (nm4_lt ho ha) he2 (by omega) (by omega), if_pos h1]
      · rw [if_neg (by omega), impl_nim k a a ha ha (by omega)]
        simp only [Option.bind_some]
        rw [hw, ih k _ _ _ (nm4_lt ha ha) ho he2 (by omega) (by omega), if_neg h1]
/-- The power, for exponents below 2^20. -/
def pow4 (a e : Nat) : Nat := pw 20 a e 1
theorem pow4_lt {a e : Nat} (ha : a < 65536) : pow4 a e < 65536 := pw_lt 20 a e 1 ha (by omega)
theorem spec_pow (k a e : Nat) (ha : a < 65536) (he : e < 1048576) (hk : 30 ≤ k) : spec_grPower.f k a e = some ((pow4 a e : Nat) : Int) := by
  unfold spec_grPower.f
  exact spec_pow_l 20 k a e 1 ha (by omega) he (by omega) (by omega)
theorem impl_pow (k a e : Nat) (ha : a < 65536) (he : e < 1048576) (hk : 30 ≤ k) : impl_nimPower.f k a e = some ((pow4 a e : Nat) : Int) := by
  unfold impl_nimPower.f
  exact impl_pow_l 20 k a e 1 ha (by omega) he (by omega) (by omega)

/-! ### the power is the plain one -/
theorem pw_pn : ∀ (n a e o : Nat), a < 65536 → o < 65536 → e < 2 ^ n → pw n a e o = nm 4 o (pn a e)
  | 0, a, e, o, _, ho, he => by
    have : e = 0 := by simpa using he
    subst this
    exact (nm_one' 4 o ho).symm
  | n + 1, a, e, o, ha, ho, he => by
    unfold pw
    by_cases h : e = 0
    · subst h
      rw [if_pos rfl]
      exact (nm_one' 4 o ho).symm
    · rw [if_neg h]
      have h2 : e / 2 < 2 ^ n := Nat.div_lt_of_lt_mul (by rw [Nat.pow_succ, Nat.mul_comm] at he; exact he)
      have e2 : pn (nm 4 a a) (e / 2) = pn a (2 * (e / 2)) := by
        rw [pn_mul, pn_two a ha]
      rw [pw_pn n _ _ _ (nm4_lt ha ha) (by split; exact nm4_lt ho ha; exact ho) h2, e2]
      by_cases q : e % 2 = 1
      · rw [if_pos q, nm_assoc]
        congr 1
        have : pn a e = pn a (1 + 2 * (e / 2)) := by congr 1; omega
        rw [this, pn_add, pn_one a ha]
      · rw [if_neg q]
        congr 2
        omega
theorem pow4_pn (a e : Nat) (ha : a < 65536) (he : e < 1048576) : pow4 a e = pn a e := by
  unfold pow4
  rw [pw_pn 20 a e 1 ha (by omega) he]
  exact nm_one 4 _ (pn_lt _ _)

/-! ### what the search over all numbers finds -/
theorem and_one (y : Nat) (hy : y < 2 ^ 62) : bits .and .i64 (y : Int) 1 = ((y % 2 : Nat) : Int) := by
  have := mask_nat y 1 hy (by decide)
  simpa using this
theorem bit_iff (x n : Nat) (hx : x < 65536) : bits .and .i64 ((x : Int) / 2 ^ n) 1 = 1 ↔ x.testBit n = true := by
  have e : (x : Int) / 2 ^ n = ((x / 2 ^ n : Nat) : Int) := by
    rw [Int.natCast_ediv]
    congr 1
  have hle : x / 2 ^ n ≤ x := Nat.div_le_self _ _
  rw [e, and_one _ (by omega), Nat.testBit_eq_decide_div_mod_eq]
  generalize x / 2 ^ n % 2 = q
  simp
  omega
theorem lin_xor (a x y : Nat) : lin a (x ^^^ y) = lin a x ^^^ lin a y := by
  unfold lin
  rw [sq_xor, nm_xor_right]
  simp only [Nat.xor_assoc]
  rw [← Nat.xor_assoc (sq y) (nm 4 a x), Nat.xor_comm (sq y) (nm 4 a x), Nat.xor_assoc]
theorem lin_lt (a y : Nat) : lin a y < 65536 := Nat.xor_lt_two_pow (n := 16) (nm_lt4 _ _) (nm_lt4 _ _)
theorem lin_zero (a : Nat) : lin a 0 = 0 := by unfold lin; rw [sq_zero, nm_zero']; rfl
def prt (a n : Nat) : List Int := (List.range n).map fun k => ((lin a (2 ^ k) : Nat) : Int)
theorem two_w (n : Nat) (hn : n < 16) : wrap64 ((2 : Int) ^ n) = ((2 ^ n : Nat) : Int) := by
  have h1 : 2 ^ n < 2 ^ 16 := Nat.pow_lt_pow_right (by decide) hn
  have e : ((2 : Int) ^ n) = ((2 ^ n : Nat) : Int) := by rw [Int.natCast_pow]; rfl
  rw [e]
  generalize 2 ^ n = q at h1
  unfold wrap64
  omega
theorem pow_lt16 (n : Nat) (hn : n < 16) : 2 ^ n < 65536 := by
  have : 2 ^ n < 2 ^ 16 := Nat.pow_lt_pow_right (by decide) hn
  exact this
theorem parts_T (T : Int → Int → Option Int) (hT : ∀ x y : Nat, x < 65536 → y < 65536 → T (x : Int) (y : Int) = some ((nm 4 x y : Nat) : Int)) (a : Nat) (ha : a < 65536) : ∀ n, n ≤ 16 → impl_solutions.parts T a n = some (prt a n) := by
  intro n
  induction n with
  | zero => intro _; rfl
  | succ n ih =>
    intro h
    have h1 := pow_lt16 n (by omega)
    have p1 := hT (2 ^ n) (2 ^ n) h1 h1
    have p2 := hT a (2 ^ n) ha h1
    have n1 : nm 4 (2 ^ n) (2 ^ n) < 2 ^ 62 := Nat.lt_trans (nm_lt4 _ _) (by decide)
    have n2 : nm 4 a (2 ^ n) < 2 ^ 62 := Nat.lt_trans (nm_lt4 _ _) (by decide)
    have e := ih (by omega)
    unfold impl_solutions.parts
    rw [e]
    simp only [Option.bind_some]
    rw [two_w n (by omega), p1]
    simp only [Option.bind_some]
    rw [p2]
    simp only [Option.bind_some]
    rw [xor_nat _ _ n1 n2]
    unfold prt
    rw [List.range_succ, List.map_append]
    rfl
theorem parts_eq (a : Nat) (ha : a < 65536) : impl_solutions.parts (impl_times.f 40) a 16 = some (prt a 16) :=
  parts_T (impl_times.f 40) (fun x y hx hy => impl_nim 40 x y hx hy (by decide)) a ha 16 (Nat.le_refl _)
theorem prt_get (a n : Nat) (hn : n < 16) : (prt a 16).getD n 0 = ((lin a (2 ^ n) : Nat) : Int) := by
  unfold prt
  rw [List.getD_eq_getElem?_getD, List.getElem?_map, List.getElem?_range hn]
  rfl
theorem mod_next (x n : Nat) : x % 2 ^ (n + 1) = if x.testBit n = true then x % 2 ^ n ^^^ 2 ^ n else x % 2 ^ n := by
  apply Nat.eq_of_testBit_eq
  intro j
  by_cases c : x.testBit n = true
  · rw [if_pos c, Nat.testBit_xor, Nat.testBit_mod_two_pow, Nat.testBit_mod_two_pow, Nat.testBit_two_pow]
    by_cases h1 : j < n
    · simp [h1, Nat.lt_succ_of_lt h1, Nat.ne_of_gt h1]
    · by_cases h2 : j = n
      · subst h2; simp [c]
      · simp [h1, show ¬ j < n + 1 by omega, show ¬ n = j by omega]
  · rw [if_neg c, Nat.testBit_mod_two_pow, Nat.testBit_mod_two_pow]
    by_cases h1 : j < n
    · simp [h1, Nat.lt_succ_of_lt h1]
    · by_cases h2 : j = n
      · subst h2; simp [c]
      · simp [h1, show ¬ j < n + 1 by omega]
theorem val_eq (a b x : Nat) (hb : b < 65536) (hx : x < 65536) : ∀ n, n ≤ 16 → impl_solutions.val (prt a 16) b x n = ((b ^^^ lin a (x % 2 ^ n) : Nat) : Int)
  | 0, _ => by
    unfold impl_solutions.val
    rw [Nat.pow_zero, Nat.mod_one, lin_zero, Nat.xor_zero]
  | n + 1, h => by
    unfold impl_solutions.val
    rw [val_eq a b x hb hx n (by omega), mod_next, prt_get a n (by omega)]
    have l1 := lin_lt a (x % 2 ^ n)
    have l2 := lin_lt a (2 ^ n)
    have l3 : b ^^^ lin a (x % 2 ^ n) < 65536 := Nat.xor_lt_two_pow (n := 16) hb l1
    by_cases c : x.testBit n = true
    · rw [if_pos ((bit_iff x n hx).2 c), if_pos c, xor_nat _ _ (by omega) (by omega), lin_xor, Nat.xor_assoc]
    · rw [if_neg (fun q => c ((bit_iff x n hx).1 q)), if_neg c]
theorem val_top (a b x : Nat) (hb : b < 65536) (hx : x < 65536) : impl_solutions.val (prt a 16) b x 16 = ((b ^^^ lin a x : Nat) : Int) := by
  rw [val_eq a b x hb hx 16 (Nat.le_refl _), Nat.mod_eq_of_lt (show x < 2 ^ 16 from hx)]
theorem list_eq (a b : Nat) (hb : b < 65536) : ∀ n, n ≤ 65536 → impl_solutions.list (prt a 16) b n = ((List.range n).filter fun x => lin a x == b).map fun x : Nat => (x : Int)
  | 0, _ => rfl
  | n + 1, h => by
    unfold impl_solutions.list
    rw [list_eq a b hb n (by omega), val_top a b n hb (by omega), List.range_succ, List.filter_append, List.map_append]
    by_cases c : lin a n = b
    · rw [if_pos (by rw [c, Nat.xor_self]; rfl)]
      simp [c]
    · rw [if_neg (fun q => c (xor_zero_eq (by omega)).symm)]
      simp [c]
theorem sol_eq (a b : Nat) (ha : a < 65536) (hb : b < 65536) : impl_solutions.f a b = some (((List.range 65536).filter fun x => lin a x == b).map fun x : Nat => (x : Int)) := by
  unfold impl_solutions.f
  rw [parts_eq a ha]
  simp only [Option.bind_some]
  rw [list_eq a b hb _ (by rw [impl_solutions.top_eq]; exact Nat.le_refl _), impl_solutions.top_eq]

/-! ### the reference's half -/
def imL (t : List (Nat × Nat)) : List Int := t.map fun p => (p.1 : Int)
def mkL (t : List (Nat × Nat)) : List Int := t.map fun p => (p.2 : Int)
theorem imL_len (t : List (Nat × Nat)) : (imL t).length = t.length := List.length_map ..
theorem mkL_len (t : List (Nat × Nat)) : (mkL t).length = t.length := List.length_map ..
theorem imL_rd (t : List (Nat × Nat)) (i : Nat) (h : i < t.length) : rd (imL t) (i : Int) = ((t[i].1 : Nat) : Int) := by
  unfold rd imL
  simp [h]
theorem mkL_rd (t : List (Nat × Nat)) (i : Nat) (h : i < t.length) : rd (mkL t) (i : Int) = ((t[i].2 : Nat) : Int) := by
  unfold rd mkL
  simp [h]
theorem drop_at (t : List (Nat × Nat)) (i : Nat) (h : i < t.length) : t.drop i = t[i] :: t.drop (i + 1) := List.drop_eq_getElem_cons h
theorem ws (i : Nat) (h : i < 2 ^ 62) : wrap64 ((i : Int) + 1) = ((i + 1 : Nat) : Int) := by unfold wrap64; omega
theorem l1_ev (a : Int) (t : List (Nat × Nat)) (ht : ∀ p ∈ t, p.1 < 65536 ∧ p.2 < 65536) (hl : t.length ≤ 100) (n : Int) (res : Int) : ∀ (d i g x : Nat), i + d = t.length → g < 65536 → x < 65536 →
    Ev (fun k => spec_grHalf.l0 k a (imL t ++ [(((rd1 (t.drop i) (g, x)).1 : Nat) : Int)]) (mkL t ++ [(((rd1 (t.drop i) (g, x)).2 : Nat) : Int)]) (wrap64 (n + 1))) res →
    Ev (fun k => spec_grHalf.l1 k a (imL t) (mkL t) n x g (imL t) ((imL t).length : Int) i) res := by
  intro d
  induction d with
  | zero =>
    intro i g x hi hg hx next
    have e : t.drop i = [] := List.drop_eq_nil_of_le (by omega)
    rw [e] at next
    have c0 : ¬ (i : Int) < ((imL t).length : Int) := by rw [imL_len]; omega
    have c1 : (imL t).length < 17592186044416 := by rw [imL_len]; omega
    have c2 : (mkL t).length < 17592186044416 := by rw [mkL_len]; omega
    refine Ev.step (fun k => ?_) next
    simp only [spec_grHalf.l1, if_neg c0, if_pos c1, if_pos c2, rd1]
  | succ d ih =>
    intro i g x hi hg hx next
    have hil : i < t.length := by omega
    have c0 : (i : Int) < ((imL t).length : Int) := by rw [imL_len]; omega
    have c0' : (i : Int) < ((mkL t).length : Int) := by rw [mkL_len]; omega
    have c1 : (0 : Int) ≤ (i : Int) := Int.natCast_nonneg _
    obtain ⟨p1, p2⟩ := ht _ (List.getElem_mem hil)
    have x1 := xor_nat g t[i].1 (by omega) (by omega)
    have x2 := xor_nat x t[i].2 (by omega) (by omega)
    have y1 : g ^^^ t[i].1 < 65536 := Nat.xor_lt_two_pow (n := 16) hg p1
    have y2 : x ^^^ t[i].2 < 65536 := Nat.xor_lt_two_pow (n := 16) hx p2
    rw [drop_at t i hil, rd1] at next
    have hw := ws i (by omega)
    by_cases c : g ^^^ t[i].1 < g
    · rw [if_pos c] at next
      have c' : ((g ^^^ t[i].1 : Nat) : Int) < (g : Int) := Int.ofNat_lt.2 c
      refine Ev.step (fun k => ?_) (ih (i + 1) _ _ (by clear hw x1 x2; omega) y1 y2 next)
      simp only [spec_grHalf.l1, if_pos c0, if_pos c1, imL_rd t i hil, mkL_rd t i hil, x1, x2, if_pos c', if_pos c0', hw]
    · rw [if_neg c] at next
      have c' : ¬ ((g ^^^ t[i].1 : Nat) : Int) < (g : Int) := fun q => c (Int.ofNat_lt.1 q)
      refine Ev.step (fun k => ?_) (ih (i + 1) _ _ (by clear hw x1 x2; omega) hg hx next)
      simp only [spec_grHalf.l1, if_pos c0, if_pos c1, imL_rd t i hil, x1, if_neg c', hw]
theorem l2_ev (t : List (Nat × Nat)) (ht : ∀ p ∈ t, p.1 < 65536 ∧ p.2 < 65536) (hl : t.length ≤ 100) : ∀ (d i g x : Nat), i + d = t.length → g < 65536 → x < 65536 →
    Ev (fun k => spec_grHalf.l2 k g (mkL t) x (imL t) ((imL t).length : Int) i) (if (rd1 (t.drop i) (g, x)).1 = 0 then (((rd1 (t.drop i) (g, x)).2 : Nat) : Int) else -1) := by
  intro d
  induction d with
  | zero =>
    intro i g x hi hg hx
    have e : t.drop i = [] := List.drop_eq_nil_of_le (by omega)
    rw [e]
    show Ev _ (if g = 0 then (x : Int) else -1)
    have c0 : ¬ (i : Int) < ((imL t).length : Int) := by rw [imL_len]; omega
    by_cases q : g = 0
    · have q' : (g : Int) = 0 := by omega
      rw [if_pos q]
      refine Ev.step (fun k => ?_) (Ev.now _)
      simp only [spec_grHalf.l2, if_neg c0, if_pos q']
    · have q' : ¬ (g : Int) = 0 := by omega
      rw [if_neg q]
      refine Ev.step (fun k => ?_) (Ev.now _)
      simp only [spec_grHalf.l2, if_neg c0, if_neg q']
  | succ d ih =>
    intro i g x hi hg hx
    have hil : i < t.length := by omega
    have c0 : (i : Int) < ((imL t).length : Int) := by rw [imL_len]; omega
    have c0' : (i : Int) < ((mkL t).length : Int) := by rw [mkL_len]; omega
    have c1 : (0 : Int) ≤ (i : Int) := Int.natCast_nonneg _
    obtain ⟨p1, p2⟩ := ht _ (List.getElem_mem hil)
    have x1 := xor_nat g t[i].1 (by omega) (by omega)
    have x2 := xor_nat x t[i].2 (by omega) (by omega)
    have y1 : g ^^^ t[i].1 < 65536 := Nat.xor_lt_two_pow (n := 16) hg p1
    have y2 : x ^^^ t[i].2 < 65536 := Nat.xor_lt_two_pow (n := 16) hx p2
    rw [drop_at t i hil, rd1]
    have hw := ws i (by omega)
    by_cases c : g ^^^ t[i].1 < g
    · have c' : ((g ^^^ t[i].1 : Nat) : Int) < (g : Int) := Int.ofNat_lt.2 c
      rw [if_pos c]
      refine Ev.step (fun k => ?_) (ih (i + 1) _ _ (by clear hw x1 x2; omega) y1 y2)
      simp only [spec_grHalf.l2, if_pos c0, if_pos c1, imL_rd t i hil, mkL_rd t i hil, x1, x2, if_pos c', if_pos c0', hw]
    · have c' : ¬ ((g ^^^ t[i].1 : Nat) : Int) < (g : Int) := fun q => c (Int.ofNat_lt.1 q)
      rw [if_neg c]
      refine Ev.step (fun k => ?_) (ih (i + 1) _ _ (by clear hw x1 x2; omega) hg hx)
      simp only [spec_grHalf.l2, if_pos c0, if_pos c1, imL_rd t i hil, x1, if_neg c', hw]
theorem bld_len : ∀ n, (bld n).length = n
  | 0 => rfl
  | n + 1 => by unfold bld; rw [List.length_append, bld_len n]; rfl
theorem bld_all : ∀ n, n ≤ 15 → ∀ p ∈ bld n, p.1 < 65536 ∧ p.2 < 65536 := by
  intro n hn p hp
  have h : (bld n).all (fun p => decide (p.1 < 65536) && decide (p.2 < 65536)) = true := by
    rcases (by omega : n = 0 ∨ n = 1 ∨ n = 2 ∨ n = 3 ∨ n = 4 ∨ n = 5 ∨ n = 6 ∨ n = 7 ∨ n = 8 ∨ n = 9 ∨ n = 10 ∨ n = 11 ∨ n = 12 ∨ n = 13 ∨ n = 14 ∨ n = 15) with rfl | rfl | rfl | rfl | rfl | rfl | rfl | rfl | rfl | rfl | rfl | rfl | rfl | rfl | rfl | rfl <;> decide +kernel
  have := List.all_eq_true.1 h p hp
  simpa [Bool.and_eq_true] using this
theorem imL_snoc (t : List (Nat × Nat)) (p : Nat × Nat) : imL t ++ [(p.1 : Int)] = imL (t ++ [p]) := by unfold imL; rw [List.map_append]; rfl
theorem mkL_snoc (t : List (Nat × Nat)) (p : Nat × Nat) : mkL t ++ [(p.2 : Int)] = mkL (t ++ [p]) := by unfold mkL; rw [List.map_append]; rfl
theorem l0_ev (a : Nat) (ha : a < 65536) : ∀ d m : Nat, m + d = 15 → Ev (fun k => spec_grHalf.l0 k a (imL (bld m)) (mkL (bld m)) ((m + 1 : Nat) : Int)) (if (hlf a).1 = 0 then (((hlf a).2 : Nat) : Int) else -1) := by
  intro d
  induction d with
  | zero =>
    intro m hm
    obtain rfl : m = 15 := by omega
    have h := l2_ev tbl (bld_all 15 (Nat.le_refl _)) (by rw [tbl_len]; decide) 15 0 a 0 (by rw [tbl_len]) ha (show 0 < 65536 by decide)
    have c : ¬ (((15 + 1 : Nat) : Int) < 16) := by decide
    refine Ev.step (fun k => ?_) h
    simp only [spec_grHalf.l0, if_neg c]
    rfl
  | succ d ih =>
    intro m hm
    have c : ((m + 1 : Nat) : Int) < 16 := by omega
    have c0 : (0 : Int) ≤ ((m + 1 : Nat) : Int) := Int.natCast_nonneg _
    have hp := pow_lt16 (m + 1) (by omega)
    have hs : shl .i64 1 ((m + 1 : Nat) : Int) = ((2 ^ (m + 1) : Nat) : Int) := by
      have := shl_nat 1 (m + 1) (by omega) (by rw [Nat.one_mul]; omega)
      rw [Nat.one_mul] at this
      exact this
    have hn : Ev (fun k => spec_grNim.f k ((2 ^ (m + 1) : Nat) : Int) ((2 ^ (m + 1) : Nat) : Int)) ((sq (2 ^ (m + 1)) : Nat) : Int) := ⟨10, fun k hk => spec_nim k _ _ hp hp hk⟩
    have hx := xor_nat (sq (2 ^ (m + 1))) (2 ^ (m + 1)) (Nat.lt_trans (nm_lt4 _ _) (by decide)) (by omega)
    have hS : S (2 ^ (m + 1)) < 65536 := S_lt _ hp
    have nx := ih (m + 1) (by omega)
    have l1 := l1_ev (a : Int) (bld m) (bld_all m (by omega)) (by rw [bld_len]; omega) ((m + 1 : Nat) : Int) _ m 0 (S (2 ^ (m + 1))) (2 ^ (m + 1)) (by rw [bld_len]; omega) hS hp (by
      rw [List.drop_zero, imL_snoc, mkL_snoc, ws (m + 1) (by omega)]
      exact nx)
    refine Ev.step (f := ?gga) (fun k => ?ggb) ?ggc
    case ggb => conv => lhs; simp only [spec_grHalf.l0, if_pos c, if_pos c0, hs]
    case ggc =>
      refine Ev.bind hn ?_
      rw [hx]
      exact l1
theorem half_ev (a : Nat) (ha : a < 65536) : Ev (fun k => spec_grHalf.f k a) (if (hlf a).1 = 0 then (((hlf a).2 : Nat) : Int) else -1) := l0_ev a ha 15 0 (by decide)

/-! ### the program's half -/
theorem first_in (p : Nat → Bool) (N x : Nat) (hx : x < N) (hp : p x = true) (hn : ∀ y, y < x → p y = false) : ∃ r, (List.range N).filter p = x :: r := by
  obtain ⟨m, rfl⟩ : ∃ m, N = x + (m + 1) := ⟨N - x - 1, by omega⟩
  have e : (List.range x).filter p = [] := by
    rw [List.filter_eq_nil_iff]
    intro y hy
    rw [hn y (List.mem_range.1 hy)]
    decide
  rw [List.range_add, List.filter_append, e, List.nil_append, List.range_succ_eq_map, List.map_cons, List.filter_cons, Nat.add_zero, if_pos hp]
  exact ⟨_, rfl⟩
theorem lin_one (x : Nat) (hx : x < 65536) : lin 1 x = S x := by
  unfold lin S
  rw [nm_one 4 x hx]
theorem xor_one_even (x : Nat) (h : x % 2 = 0) : x ^^^ 1 = x + 1 := by
  have d : (x ^^^ 1) / 2 = x / 2 := by
    apply Nat.eq_of_testBit_eq
    intro j
    rw [← Nat.testBit_succ, ← Nat.testBit_succ, Nat.testBit_xor]
    have : (1 : Nat).testBit (j + 1) = false := by rw [Nat.testBit_succ]; exact Nat.zero_testBit j
    rw [this, Bool.xor_false]
  have m := Nat.xor_mod_two_pow (a := x) (b := 1) (n := 1)
  simp only [Nat.pow_one] at m
  rw [h] at m
  have m2 : (x ^^^ 1) % 2 = 1 := m
  omega
theorem least (a x y : Nat) (hx : x < 65536) (h2 : x % 2 = 0) (hS : S x = a) (hy : y < x) : (lin 1 y == a) = false := by
  rw [lin_one y (by omega)]
  apply beq_eq_false_iff_ne.mpr
  intro e
  have h1 : S (y ^^^ x) = 0 := by rw [S_xor, e, hS, Nat.xor_self]
  have h3 := S_ker (y ^^^ x) (Nat.xor_lt_two_pow (n := 16) (by omega) hx) h1
  rcases (by omega : y ^^^ x = 0 ∨ y ^^^ x = 1) with q | q
  · have := xor_zero_eq q
    omega
  · have : y = x ^^^ 1 := by
      rw [← q, Nat.xor_comm y x, ← Nat.xor_assoc, Nat.xor_self, Nat.zero_xor]
    rw [xor_one_even x h2] at this
    omega
theorem impl_half (a : Nat) (ha : a < 65536) : impl_NimHalf.f a = some (if (hlf a).1 = 0 then ((((hlf a).2 : Nat) : Int), true) else (0, false)) := by
  obtain ⟨f1, f2, f3, f4⟩ := hlf_fact a ha
  have h1 : 0 ≤ (a : Int) ∧ (a : Int) ≤ 65535 := by omega
  have hs := sol_eq 1 a (by decide) ha
  rw [Int.natCast_one] at hs
  unfold impl_NimHalf.f
  simp only [impl_isN, Option.bind_some, h1, decide_true, and_self, if_true, hs]
  by_cases c : (hlf a).1 = 0
  · rw [if_pos c]
    rw [c, Nat.xor_zero] at f1
    obtain ⟨r, e⟩ := first_in (fun x => lin 1 x == a) 65536 (hlf a).2 f3 (by rw [lin_one _ f3, f1]; exact beq_self_eq_true a) (fun y hy => least a _ y f3 f2 f1 hy)
    rw [e]
    simp only [List.map_cons, List.length_cons]
    rw [if_neg (by omega), if_pos (by omega)]
    rfl
  · rw [if_neg c]
    have e : (List.range 65536).filter (fun x => lin 1 x == a) = [] := by
      rw [List.filter_eq_nil_iff]
      intro y hy hq
      have hy' := List.mem_range.1 hy
      rw [lin_one y hy'] at hq
      exact c (f4 ⟨y, hy', eq_of_beq hq⟩)
    rw [e]
    rfl

/-! ### the reference's solutions -/
@[irreducible] def solN (a b : Nat) : List Nat := (List.range 65536).filter fun x => lin a x == b
def ints (l : List Nat) : List Int := l.map fun x : Nat => (x : Int)
theorem sol_impl (a b : Nat) (ha : a < 65536) (hb : b < 65536) : impl_solutions.f a b = some (ints (solN a b)) := by
  rw [sol_eq a b ha hb]
  unfold solN ints
  rfl
theorem solN_len (a b : Nat) : (solN a b).length ≤ 65536 := by
  unfold solN
  refine Nat.le_trans (List.length_filter_le ..) ?_
  rw [List.length_range]
  exact Nat.le_refl _
theorem ints_len (l : List Nat) : (ints l).length = l.length := List.length_map ..
theorem put_ev (u v : Nat) (hne : u ≠ v) : Ev (fun k => spec_l1Put.f k [(u : Int)] (v : Int)) (ints (put2 u v)) := by
  refine ⟨3, fun k hk => ?_⟩
  obtain ⟨k, rfl⟩ : ∃ m, k = m + 3 := ⟨k - 3, by omega⟩
  have w1 : wrap64 1 = 1 := by unfold wrap64; omega
  unfold put2 ints
  by_cases c : u < v
  · have c' : (u : Int) < (v : Int) := Int.ofNat_lt.2 c
    simp [spec_l1Put.f, spec_l1Put.l0, rd, c, c', w1]
  · have c' : ¬ (u : Int) < (v : Int) := fun q => c (Int.ofNat_lt.1 q)
    have c2 : ¬ (u : Int) = (v : Int) := fun q => hne (Int.ofNat_inj.1 q)
    simp [spec_l1Put.f, spec_l1Put.l0, rd, c, c', c2, w1]
theorem root_fact (b : Nat) (hb : b < 65536) : ∃ r : Nat, r < 65536 ∧ sq r = b ∧ ∀ k, 30 ≤ k → spec_grPower.f k b 32768 = some (r : Int) := by
  refine ⟨pn b 32768, pn_lt _ _, sq_root b _ hb rfl, fun k hk => ?_⟩
  have h := spec_pow k b 32768 hb (by omega) hk
  rw [pow4_pn b 32768 hb (by omega)] at h
  exact h
theorem inv_fact (a : Nat) (ha : a < 65536) (h0 : a ≠ 0) : ∃ c : Nat, c < 65536 ∧ nm 4 a c = 1 ∧ ∀ k, 30 ≤ k → spec_grPower.f k a 65534 = some (c : Int) := by
  refine ⟨pn a 65534, pn_lt _ _, unit_inv a ha h0, fun k hk => ?_⟩
  have h := spec_pow k a 65534 ha (by omega) hk
  rw [pow4_pn a 65534 ha (by omega)] at h
  exact h
theorem put2_ne (a c y : Nat) (hy : y < 65536) (hac : nm 4 a c = 1) : nm 4 a y ≠ nm 4 a (y ^^^ 1) := by
  intro e
  have inv : ∀ z, z < 65536 → nm 4 c (nm 4 a z) = z := fun z hz => by rw [← nm_assoc, nm_comm 4 c a, hac, nm_one 4 z hz]
  have f3' : y ^^^ 1 < 65536 := Nat.xor_lt_two_pow (n := 16) hy (by decide)
  have e2 : nm 4 c (nm 4 a y) = nm 4 c (nm 4 a (y ^^^ 1)) := by rw [e]
  rw [inv _ hy, inv _ f3'] at e2
  have e3 : y ^^^ 1 ^^^ y = 0 := by rw [← e2, Nat.xor_self]
  rw [Nat.xor_comm y 1, Nat.xor_assoc, Nat.xor_self] at e3
  exact absurd e3 (by decide)
theorem spec_solve (a b : Nat) (ha : a < 65536) (hb : b < 65536) : Ev (fun k => spec_grSolve.f k a b) (ints (solN a b)) := by
  unfold spec_grSolve.f
  by_cases h0 : a = 0
  · subst h0
    obtain ⟨r, r1, r2, r3⟩ := root_fact b hb
    have e : solN 0 b = [r] := by unfold solN; exact sol_z b r r2 r1
    rw [e]
    simp only [Int.natCast_zero, if_true]
    refine Ev.bind (a := (r : Int)) ⟨30, fun k hk => ?_⟩ (Ev.now _)
    unfold spec_grRoot.f
    show (spec_grPower.f k b 32768).bind _ = _
    rw [r3 k hk]
    rfl
  · have h0' : ¬ (a : Int) = 0 := by omega
    obtain ⟨c, c1, c2, c3⟩ := inv_fact a ha h0
    have e : solN a b = (List.range 65536).filter fun x => lin a x == b := by unfold solN; rfl
    rw [e, sol_nz a b c hb c2]
    simp only [if_neg h0']
    refine Ev.bind ⟨30, c3⟩ ?_
    have q1 : c < 65536 := c1
    refine Ev.bind ⟨10, fun k hk => spec_nim k c c q1 q1 hk⟩ ?_
    refine Ev.bind ⟨10, fun k hk => spec_nim k b (nm 4 c c) hb (nm4_lt q1 q1) hk⟩ ?_
    have hd : nm 4 b (nm 4 c c) < 65536 := nm4_lt hb (nm4_lt q1 q1)
    have hE := half_ev _ hd
    obtain ⟨_, _, f3, _⟩ := hlf_fact _ hd
    generalize nm 4 b (nm 4 c c) = d at hE f3 ⊢
    generalize hlf d = w at hE f3 ⊢
    refine Ev.bind hE ?_
    by_cases q : w.1 = 0
    · simp only [if_pos q]
      have g : ¬ ((w.2 : Nat) : Int) < 0 := by omega
      simp only [if_neg g]
      have f3' : w.2 ^^^ 1 < 65536 := Nat.xor_lt_two_pow (n := 16) f3 (by decide)
      have hx := xor_nat w.2 1 (by omega) (by decide)
      rw [Int.natCast_one] at hx
      refine Ev.bind ⟨10, fun k hk => spec_nim k a w.2 ha f3 hk⟩ ?_
      rw [hx]
      refine Ev.bind ⟨10, fun k hk => spec_nim k a (w.2 ^^^ 1) ha f3' hk⟩ ?_
      exact Ev.bind (put_ev _ _ (put2_ne a c _ f3 c2)) (Ev.now _)
    · simp only [if_neg q]
      exact Ev.now _

/-! ### what is drawn -/
theorem u8_bd {x : Int} (h : (Lit.int .u8 x).wf = true) : 0 ≤ x ∧ x ≤ 255 := bounds_u8 h
theorem and255 (x : Int) : 0 ≤ bits .and .u64 x 255 ∧ bits .and .u64 x 255 ≤ 255 := by
  have e : bits .and .u64 x 255 = IntKind.u64.wrap ((BitVec.ofInt 64 x &&& BitVec.ofInt 64 255).toNat : Int) := rfl
  have h : (BitVec.ofInt 64 x &&& BitVec.ofInt 64 255).toNat ≤ 255 := by
    rw [BitVec.toNat_and]
    exact Nat.and_le_right
  rw [e, IntKind.wrap_u64]
  omega
theorem w64 (x : Int) (h0 : 0 ≤ x) (h1 : x < 2 ^ 62) : wrap64 x = x := by unfold wrap64; omega
theorem rd_bd (l : List Int) (hl : ∀ x ∈ l, (Lit.int .u8 x).wf = true) (i : Int) (h0 : 0 ≤ i) (h1 : i < (l.length : Int)) : 0 ≤ rd l i ∧ rd l i ≤ 255 := by
  obtain ⟨n, rfl⟩ := Int.eq_ofNat_of_zero_le h0
  have hn : n < l.length := by omega
  have e : rd l (n : Int) = l[n] := by
    unfold rd
    simp [hn]
  rw [e]
  exact u8_bd (hl _ (List.getElem_mem hn))
theorem next_ok (l : List Int) (hl : ∀ x ∈ l, (Lit.int .u8 x).wf = true) (p s : Int) (h0 : 0 ≤ p) (h1 : p < 1000) : ∃ b s', spec_l1Cur_next.f l p s = some (b, p + 1, s') ∧ 0 ≤ b ∧ b ≤ 255 := by
  have hp : wrap64 (p + 1) = p + 1 := w64 _ (by omega) (by omega)
  unfold spec_l1Cur_next.f
  rw [hp]
  by_cases c : p < (l.length : Int)
  · have hb := rd_bd l hl p h0 c
    rw [if_pos c, if_pos h0, if_pos (by omega), w64 (rd l p) (by omega) (by omega)]
    exact ⟨_, _, rfl, hb⟩
  · rw [if_neg c, if_neg (by omega)]
    refine ⟨_, _, rfl, ?_⟩
    have q := and255 ((IntKind.u64.wrap ((IntKind.u64.wrap ((IntKind.u64.wrap (s * 6364136223846793005)) + 0)) + 1442695040888963407)) / 1099511627776)
    rw [w64 _ q.1 (by omega)]
    exact q
theorem pick_ok (l : List Int) (hl : ∀ x ∈ l, (Lit.int .u8 x).wf = true) (p s n : Int) (h0 : 0 ≤ p) (h1 : p < 900) (hn : 1 ≤ n) : ∃ b p' s', spec_l1Cur_pick.f l p s n = some (b, p', s') ∧ 0 ≤ b ∧ b < n ∧ p ≤ p' ∧ p' ≤ p + 2 := by
  unfold spec_l1Cur_pick.f
  by_cases c : n ≤ 1
  · rw [if_pos c]
    exact ⟨_, _, _, rfl, by omega, by omega, by omega, by omega⟩
  · rw [if_neg c]
    obtain ⟨b, s1, e1, b0, b1⟩ := next_ok l hl p s h0 (by omega)
    rw [e1]
    simp only [Option.bind_some]
    have hz : ¬ n = 0 := by omega
    by_cases g : n > 200
    · obtain ⟨b', s2, e2, d0, d1⟩ := next_ok l hl (p + 1) s1 (by omega) (by omega)
      rw [if_pos g, e2]
      simp only [Option.bind_some, if_neg hz]
      have q1 : wrap64 (b * 256) = b * 256 := w64 _ (by omega) (by omega)
      have q2 : wrap64 (b * 256 + b') = b * 256 + b' := w64 _ (by omega) (by omega)
      rw [q1, q2]
      refine ⟨_, _, _, rfl, Int.tmod_nonneg _ (by omega), Int.tmod_lt_of_pos _ (by omega), by omega, by omega⟩
    · rw [if_neg g, if_neg hz]
      exact ⟨_, _, _, rfl, Int.tmod_nonneg _ (by omega), Int.tmod_lt_of_pos _ (by omega), by omega, by omega⟩
theorem among_ok (l : List Int) (hl : ∀ x ∈ l, (Lit.int .u8 x).wf = true) (p s : Int) (m : List Int) (h0 : 0 ≤ p) (h1 : p < 900) (hm : 1 ≤ m.length) : ∃ b p' s', spec_l1Cur_among.f l p s m = some (b, p', s') ∧ p ≤ p' ∧ p' ≤ p + 2 := by
  unfold spec_l1Cur_among.f
  obtain ⟨b, p', s', e, b0, b1, q⟩ := pick_ok l hl p s (m.length : Int) h0 h1 (by omega)
  rw [e]
  simp only [Option.bind_some, if_pos b0, if_pos b1]
  exact ⟨_, _, _, rfl, q⟩
theorem nimber_ok (l : List Int) (hl : ∀ x ∈ l, (Lit.int .u8 x).wf = true) (p s : Int) (h0 : 0 ≤ p) (h1 : p < 800) : ∃ b p' s', spec_l1Cur_nimber.f l p s = some (b, p', s') ∧ p ≤ p' ∧ p' ≤ p + 4 := by
  unfold spec_l1Cur_nimber.f
  obtain ⟨b, p1, s1, e, b0, b1, q1, q2⟩ := pick_ok l hl p s 6 h0 (by omega) (by omega)
  rw [e]
  simp only [Option.bind_some]
  by_cases c : b = 0
  · obtain ⟨x, p2, s2, e2, r1, r2⟩ := among_ok l hl p1 s1 ([(-1), 0, 1, 65535, 65536] : List Int) (by omega) (by omega) (by decide)
    rw [if_pos c, e2]
    exact ⟨x, p2, s2, rfl, by omega, by omega⟩
  · rw [if_neg c]
    by_cases c1 : b = 1
    · obtain ⟨x, p2, s2, e2, _, _, r1, r2⟩ := pick_ok l hl p1 s1 65536 (by omega) (by omega) (by decide)
      rw [if_pos c1, e2]
      exact ⟨x, p2, s2, rfl, by omega, by omega⟩
    · obtain ⟨x, p2, s2, e2, _, _, r1, r2⟩ := pick_ok l hl p1 s1 40 (by omega) (by omega) (by decide)
      rw [if_neg c1, e2]
      exact ⟨x, p2, s2, rfl, by omega, by omega⟩

theorem draw_ok (l : List Int) (hl : ∀ x ∈ l, (Lit.int .u8 x).wf = true) : ∃ a b, spec_DrawNimSolve.f l = some (a, b) := by
  obtain ⟨a, p, s, e, q1, q2⟩ := nimber_ok l hl 0 0 (by decide) (by decide)
  obtain ⟨b, p', s', e', _⟩ := nimber_ok l hl p s q1 (by omega)
  refine ⟨a, b, ?_⟩
  unfold spec_DrawNimSolve.f
  simp only [e, e', Option.bind_some]
theorem in_ok (a : Nat) (ha : a < 65536) : (0 ≤ (a : Int) ∧ (a : Int) ≤ 65535) := by omega
theorem prod_ev (a b : Nat) (ha : a < 65536) (hb : b < 65536) : Ev (fun k => impl_NimProduct.f k a b) (((nm 4 a b : Nat) : Int), true) := by
  refine ⟨10, fun k hk => ?_⟩
  unfold impl_NimProduct.f
  simp only [impl_isN, in_ok a ha, in_ok b hb, Option.bind_some, decide_true, if_true, and_self]
  rw [impl_nim k a b ha hb hk]
  rfl
theorem root_ev (b : Nat) (hb : b < 65536) : ∃ r : Nat, r < 65536 ∧ sq r = b ∧ Ev (fun k => impl_NimRoot.f k b) ((r : Int), true) := by
  refine ⟨pn b 32768, pn_lt _ _, sq_root b _ hb rfl, 30, fun k hk => ?_⟩
  have h := impl_pow k b 32768 hb (by omega) hk
  rw [pow4_pn b 32768 hb (by omega)] at h
  have h' : impl_nimPower.f k (b : Int) 32768 = some ((pn b 32768 : Nat) : Int) := h
  unfold impl_NimRoot.f
  simp only [impl_isN, in_ok b hb, Option.bind_some, decide_true, if_true, and_self]
  rw [h']
  rfl
theorem rd_ints (l : List Nat) (i : Nat) (h : i < l.length) : rd (ints l) (i : Int) = ((l[i] : Nat) : Int) := by
  unfold rd ints
  simp [h]
theorem fold_lt : ∀ (l : List Nat) (x : Nat), x < 65536 → (∀ y ∈ l, y < 65536) → l.foldl (· ^^^ ·) x < 65536
  | [], _, h, _ => h
  | y :: r, x, h, hl => by
    rw [List.foldl_cons]
    exact fold_lt r _ (Nat.xor_lt_two_pow (n := 16) h (hl y (List.mem_cons_self ..))) (fun z hz => hl z (List.mem_cons_of_mem _ hz))
theorem sum_l (l : List Nat) (hl : ∀ x ∈ l, x < 65536) (h3 : l.length ≤ 40) : ∀ (d i x : Nat), i + d = l.length → x < 65536 → Ev (fun k => impl_NimSum.l0 k x (ints l) ((ints l).length : Int) i) ((((l.drop i).foldl (· ^^^ ·) x : Nat) : Int), true) := by
  intro d
  induction d with
  | zero =>
    intro i x hi hx
    have e : l.drop i = [] := List.drop_eq_nil_of_le (by omega)
    have c : ¬ (i : Int) < ((ints l).length : Int) := by rw [ints_len]; omega
    rw [e]
    refine Ev.step (fun k => ?_) (Ev.now _)
    simp only [impl_NimSum.l0, if_neg c]
    rfl
  | succ d ih =>
    intro i x hi hx
    have hil : i < l.length := by omega
    have c : (i : Int) < ((ints l).length : Int) := by rw [ints_len]; omega
    have c1 : (0 : Int) ≤ (i : Int) := Int.natCast_nonneg _
    have c2 : ¬ (i : Int) = 40 := by omega
    have hy := hl _ (List.getElem_mem hil)
    have hx2 := xor_nat x l[i] (by omega) (by omega)
    have hw := wsucc i (by omega)
    rw [List.drop_eq_getElem_cons hil, List.foldl_cons]
    refine Ev.step (fun k => ?_) (ih (i + 1) _ (by clear hw hx2; omega) (Nat.xor_lt_two_pow (n := 16) hx hy))
    simp only [impl_NimSum.l0, if_pos c, if_pos c1, rd_ints l i hil, impl_isN, in_ok _ hy, and_self, decide_true, Option.bind_some, if_true, if_neg c2, hx2, hw]
theorem sum_ev (l : List Nat) (hl : ∀ x ∈ l, x < 65536) (h3 : l.length ≤ 40) : Ev (fun k => impl_NimSum.f k (ints l)) (((l.foldl (· ^^^ ·) 0 : Nat) : Int), true) :=
  sum_l l hl h3 l.length 0 0 (by omega) (by decide)
theorem sum2 (a b : Nat) (ha : a < 65536) (hb : b < 65536) : Ev (fun k => impl_NimSum.f k [(a : Int), (b : Int)]) (((a ^^^ b : Nat) : Int), true) := by
  have h := sum_ev [a, b] (fun x hx => by
    rcases List.mem_cons.1 hx with rfl | hx
    · exact ha
    · rcases List.mem_cons.1 hx with rfl | hx
      · exact hb
      · cases hx) (by simp)
  simp only [List.foldl_cons, List.foldl_nil, Nat.zero_xor] at h
  exact h
theorem sum3 (a b c : Nat) (ha : a < 65536) (hb : b < 65536) (hc : c < 65536) : Ev (fun k => impl_NimSum.f k [(a : Int), (b : Int), (c : Int)]) (((a ^^^ b ^^^ c : Nat) : Int), true) := by
  have h := sum_ev [a, b, c] (fun x hx => by
    rcases List.mem_cons.1 hx with rfl | hx
    · exact ha
    · rcases List.mem_cons.1 hx with rfl | hx
      · exact hb
      · rcases List.mem_cons.1 hx with rfl | hx
        · exact hc
        · cases hx) (by simp)
  simp only [List.foldl_cons, List.foldl_nil, Nat.zero_xor] at h
  exact h
theorem sol_mem (a b x : Nat) (h : x ∈ solN a b) : x < 65536 ∧ sq x ^^^ nm 4 a x ^^^ b = 0 := by
  unfold solN at h
  obtain ⟨h1, h2⟩ := List.mem_filter.1 h
  refine ⟨List.mem_range.1 h1, ?_⟩
  have e : sq x ^^^ nm 4 a x = b := eq_of_beq h2
  rw [e, Nat.xor_self]
theorem sol_pw (a b : Nat) : (solN a b).Pairwise (· < ·) := by
  unfold solN
  exact List.Pairwise.filter _ List.pairwise_lt_range
theorem sol_zero (b : Nat) (hb : b < 65536) : (solN 0 b).length = 1 := by
  obtain ⟨r, r1, r2, _⟩ := root_fact b hb
  have e : solN 0 b = [r] := by unfold solN; exact sol_z b r r2 r1
  rw [e]
  rfl
theorem sol_two (a b : Nat) (ha : a < 65536) (hb : b < 65536) (h0 : a ≠ 0) : (solN a b).length = 0 ∨ (solN a b).length = 2 := by
  obtain ⟨c, c1, c2, _⟩ := inv_fact a ha h0
  have e : solN a b = (List.range 65536).filter fun x => lin a x == b := by unfold solN; rfl
  rw [e, sol_nz a b c hb c2]
  split
  · right
    unfold put2
    split <;> rfl
  · exact Or.inl rfl
theorem half_some (a : Nat) (ha : a < 65536) (c : (hlf a).1 = 0) : ∃ r, solN 1 a = (hlf a).2 :: r := by
  obtain ⟨f1, f2, f3, f4⟩ := hlf_fact a ha
  rw [c, Nat.xor_zero] at f1
  unfold solN
  exact first_in (fun x => lin 1 x == a) 65536 (hlf a).2 f3 (by rw [lin_one _ f3, f1]; exact beq_self_eq_true a) (fun y hy => least a _ y f3 f2 f1 hy)
theorem half_none (a : Nat) (ha : a < 65536) (c : ¬ (hlf a).1 = 0) : solN 1 a = [] := by
  obtain ⟨f1, f2, f3, f4⟩ := hlf_fact a ha
  unfold solN
  rw [List.filter_eq_nil_iff]
  intro y hy hq
  have hy' := List.mem_range.1 hy
  rw [lin_one y hy'] at hq
  exact c (f4 ⟨y, hy', eq_of_beq hq⟩)
theorem j2_ev (a b : Nat) (ha : a < 65536) (hb : b < 65536) : Ev (fun k => laws_FnNimRoots.j2 k a b false) true := by
  obtain ⟨ra, a1, a2, a3⟩ := root_ev a ha
  obtain ⟨rb, b1, b2, b3⟩ := root_ev b hb
  have hab : a ^^^ b < 65536 := Nat.xor_lt_two_pow (n := 16) ha hb
  obtain ⟨rs, s1, s2, s3⟩ := root_ev (a ^^^ b) hab
  have hs : ra ^^^ rb = rs := by
    have k : sq (ra ^^^ rb ^^^ rs) = 0 := by rw [sq_xor, sq_xor, a2, b2, s2, Nat.xor_self]
    exact xor_zero_eq (sq_inj0 _ (Nat.xor_lt_two_pow (n := 16) (Nat.xor_lt_two_pow (n := 16) a1 b1) s1) k)
  have hp : ((nm 4 ra ra : Nat) : Int) = (a : Int) := by
    have e : nm 4 ra ra = a := a2
    rw [e]
  have hS : impl_NimSolve.f 1 (b : Int) = some (ints (solN 1 b), true) := by
    have h := sol_impl 1 b (by decide) hb
    rw [Int.natCast_one] at h
    unfold impl_NimSolve.f
    have g : (0 : Int) ≤ 1 ∧ (1 : Int) ≤ 65535 := by decide
    simp only [impl_isN, g, in_ok b hb, and_self, decide_true, Option.bind_some, if_true, h]
  have hH := impl_half b hb
  refine Ev.step (f := ?gga) (fun k => ?ggb) ?ggc
  case ggb => conv => lhs; simp only [laws_FnNimRoots.j2, Bool.false_eq_true, if_false]
  case ggc =>
    refine Ev.bind a3 (Ev.bind b3 (Ev.bind (sum2 a b ha hb) (Ev.bind s3 (Ev.bind (sum2 ra rb a1 b1) (Ev.bind (prod_ev ra ra a1 a1) ?_)))))
    rw [hH, hS]
    simp only [Option.bind_some, if_true, hs, hp]
    by_cases c : (hlf b).1 = 0
    · obtain ⟨r, e⟩ := half_some b hb c
      have hl : (ints (solN 1 b)).length = 2 := by
        rw [ints_len]
        have q := sol_two 1 b (by decide) hb (by decide)
        rw [e] at q ⊢
        rw [List.length_cons] at q ⊢
        omega
      have h0 : rd (ints (solN 1 b)) 0 = (((hlf b).2 : Nat) : Int) := by rw [e]; rfl
      simp only [if_pos c, hl, h0]
      exact Ev.congr (f := fun _ => some true) (fun k => by simp) (Ev.now true)
    · have e := half_none b hb c
      rw [e]
      simp only [if_neg c]
      exact Ev.congr (f := fun _ => some true) (fun k => by simp [ints]) (Ev.now true)
theorem loop_ev (a b : Nat) (ha : a < 65536) (hb : b < 65536) (L : List Nat) (hL : L.length ≤ 65536) (h1 : ∀ x ∈ L, x < 65536 ∧ sq x ^^^ nm 4 a x ^^^ b = 0) (h2 : L.Pairwise (· < ·)) (h3 : a = 0 → L.length = 1) (h4 : a ≠ 0 → L.length = 0 ∨ L.length = 2) :
    ∀ d i : Nat, i + d = L.length → Ev (fun k => laws_FnNimRoots.l0 k a b (ints L) (ints L) ((ints L).length : Int) i) true := by
  intro d
  induction d with
  | zero =>
    intro i hi
    have c : ¬ (i : Int) < ((ints L).length : Int) := by rw [ints_len]; omega
    have hj := j2_ev a b ha hb
    by_cases h0 : a = 0
    · have h0' : (a : Int) = 0 := by omega
      have g1 : ((ints L).length : Int) = 1 := by rw [ints_len, h3 h0]; rfl
      have g2 : ¬ (a : Int) > 0 := by omega
      refine Ev.step (fun k => ?_) hj
      simp only [laws_FnNimRoots.l0, if_neg c, if_pos h0', if_pos g1, if_neg g2]
    · have h0' : ¬ (a : Int) = 0 := by omega
      have g2 : (a : Int) > 0 := by omega
      rcases h4 h0 with g | g
      · have g1 : ((ints L).length : Int) = 0 := by rw [ints_len, g]; rfl
        refine Ev.step (fun k => ?_) hj
        simp only [laws_FnNimRoots.l0, if_neg c, if_neg h0', if_pos g1, if_pos g2]
      · have g1 : ((ints L).length : Int) = 2 := by rw [ints_len, g]; rfl
        have g3 : ¬ ((ints L).length : Int) = 0 := by omega
        have g4 : (((ints L).length : Int) != 2) = false := by rw [g1]; rfl
        refine Ev.step (fun k => ?_) hj
        simp only [laws_FnNimRoots.l0, if_neg c, if_neg h0', if_neg g3, if_pos g2, g4]
  | succ d ih =>
    intro i hi
    have hil : i < L.length := by omega
    have c : (i : Int) < ((ints L).length : Int) := by rw [ints_len]; omega
    have c1 : (0 : Int) ≤ (i : Int) := Int.natCast_nonneg _
    obtain ⟨x1, x2⟩ := h1 _ (List.getElem_mem hil)
    have hp1 := prod_ev L[i] L[i] x1 x1
    have hp2 := prod_ev a L[i] ha x1
    have hp3 := sum3 (nm 4 L[i] L[i]) (nm 4 a L[i]) b (nm_lt4 _ _) (nm_lt4 _ _) hb
    have x2' : nm 4 L[i] L[i] ^^^ nm 4 a L[i] ^^^ b = 0 := x2
    rw [x2'] at hp3
    have hn := ih (i + 1) (by omega)
    have hw := wsucc i (by omega)
    refine Ev.step (f := ?gga) (fun k => ?ggb) ?ggc
    case ggb => conv => lhs; simp only [laws_FnNimRoots.l0, if_pos c, if_pos c1, rd_ints L i hil]
    case ggc =>
      refine Ev.bind hp1 (Ev.bind hp2 (Ev.bind hp3 ?_))
      simp only [if_true, Int.natCast_zero]
      by_cases q : i = 0
      · subst q
        have c2 : ¬ ((0 : Nat) : Int) > 0 := by decide
        simp only [if_neg c2, hw]
        exact hn
      · obtain ⟨j, rfl⟩ : ∃ j, i = j + 1 := ⟨i - 1, by omega⟩
        have c2 : ((j + 1 : Nat) : Int) > 0 := by omega
        have c3 : wrap64 (((j + 1 : Nat) : Int) - 1) = (j : Int) := by clear hw; unfold wrap64; omega
        have c4 : (0 : Int) ≤ (j : Int) := Int.natCast_nonneg _
        have c5 : (j : Int) < ((ints L).length : Int) := by rw [ints_len]; clear hw c3; omega
        have hj : j < L.length := by clear hw c3; omega
        have c6 : L[j] < L[j + 1] := List.pairwise_iff_getElem.1 h2 j (j + 1) hj hil (by clear hw c3; omega)
        have c7 : ¬ ((L[j] : Nat) : Int) ≥ ((L[j + 1] : Nat) : Int) := by clear hw c3; omega
        simp only [if_pos c2, c3, if_pos c4, if_pos c5, rd_ints L j hj, if_neg c7, hw]
        exact hn
theorem same_l (x : List Int) (hx : x.length ≤ 65536) : ∀ (d i : Nat), i + d = x.length → Ev (fun k => laws_qSame.l0 k x x (x.length : Int) i) true := by
  intro d
  induction d with
  | zero =>
    intro i hi
    have c : ¬ (i : Int) < (x.length : Int) := by omega
    refine Ev.step (fun k => ?_) (Ev.now _)
    simp only [laws_qSame.l0, if_neg c]
  | succ d ih =>
    intro i hi
    have c : (i : Int) < (x.length : Int) := by omega
    have c1 : (0 : Int) ≤ (i : Int) := Int.natCast_nonneg _
    have hw := wsucc i (by omega)
    refine Ev.step (fun k => ?_) (ih (i + 1) (by clear hw; omega))
    simp only [laws_qSame.l0, if_pos c, if_pos c1, if_true, hw]
theorem same_ev (x : List Int) (hx : x.length ≤ 65536) : Ev (fun k => laws_qSame.f k x x) true := by
  unfold laws_qSame.f
  simp only [if_true]
  exact same_l x hx x.length 0 (by omega)
theorem both (a b : Int) : (∃ x y : Nat, x < 65536 ∧ y < 65536 ∧ a = x ∧ b = y ∧ Ev (fun k => spec_NimSolve.f k a b) (ints (solN x y), true) ∧ impl_NimSolve.f a b = some (ints (solN x y), true)) ∨ (∀ k, spec_NimSolve.f k a b = some ([], false)) ∧ impl_NimSolve.f a b = some ([], false) := by
  unfold spec_NimSolve.f impl_NimSolve.f
  simp only [spec_isN, impl_isN, Option.bind_some]
  by_cases ha : 0 ≤ a ∧ a ≤ 65535
  · by_cases hb : 0 ≤ b ∧ b ≤ 65535
    · obtain ⟨a, rfl⟩ := Int.eq_ofNat_of_zero_le ha.1
      obtain ⟨b, rfl⟩ := Int.eq_ofNat_of_zero_le hb.1
      left
      refine ⟨a, b, by omega, by omega, rfl, rfl, ?_, ?_⟩
      · simp only [ha, hb, decide_true, and_self, if_true]
        exact Ev.bind (spec_solve a b (by omega) (by omega)) (Ev.now _)
      · simp only [ha, hb, decide_true, and_self, if_true, sol_impl a b (by omega) (by omega), Option.bind_some]
    · right
      simp only [ha, hb, decide_true, decide_false, and_self, if_true, Bool.false_eq_true, if_false]
      exact ⟨fun _ => True.intro, True.intro⟩
  · right
    simp only [ha, decide_false, Bool.false_eq_true, if_false]
    exact ⟨fun _ => True.intro, True.intro⟩
theorem big_ok (l m : List Int) : ∃ b, laws_big.f l m = some b := by
  unfold laws_big.f
  split <;> exact ⟨_, rfl⟩
theorem proved : laws_FnNimRoots.Pure := by
  intro l m h1 h2 h3 h4 h5 h6
  refine Ev.rounds ?_
  unfold laws_FnNimRoots.f
  obtain ⟨g, hg⟩ := big_ok l m
  rw [hg]
  simp only [Option.bind_some]
  cases g with
  | true =>
    simp only [if_true]
    exact Ev.now _
  | false =>
    obtain ⟨a, b, hd⟩ := draw_ok l h3
    simp only [Bool.false_eq_true, if_false, hd, Option.bind_some]
    rcases both a b with ⟨x, y, hx, hy, rfl, rfl, s1, s2⟩ | ⟨s1, s2⟩
    · simp only [s2, Option.bind_some]
      refine Ev.bind s1 ?_
      simp only [bne_self_eq_false, Bool.false_eq_true, if_false]
      refine Ev.bind (same_ev _ (by rw [ints_len]; exact solN_len x y)) ?_
      simp only [Bool.not_true]
      refine Ev.step (f := ?gga) (fun k => ?ggb) ?ggc
      case ggb => conv => lhs; simp only [laws_FnNimRoots.j0, Bool.false_eq_true, if_false, if_true]
      case ggc => exact loop_ev x y hx hy (solN x y) (solN_len x y) (fun z hz => sol_mem x y z hz) (sol_pw x y) (fun e => by subst e; exact sol_zero y hy) (fun e => sol_two x y hx hy e) (solN x y).length 0 (by omega)
    · simp only [s2, s1, Option.bind_some, bne_self_eq_false, Bool.false_eq_true, if_false]
      refine Ev.bind (same_ev [] (by simp)) ?_
      simp only [Bool.not_true]
      refine Ev.step (fun k => ?_) (Ev.now _)
      simp only [laws_FnNimRoots.j0, Bool.false_eq_true, if_false]

end LFnNimRoots
theorem FnNimRoots : laws_FnNimRoots.Pure := LFnNimRoots.proved
end Go.Proofs.Ytoeddjbhippdlaa.Pure
