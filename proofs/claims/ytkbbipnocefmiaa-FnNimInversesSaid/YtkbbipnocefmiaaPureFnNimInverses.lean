/- Whatever nimber is drawn: its inverse, its field, its order and its powers are as told. -/
import Derived.Test.YtkbbipnocefmiaaQFnNimInversesx5
import Derived.OpenShut
import Derived.Test.YtkbbipnocefmiaaField
import Derived.Test.YtkbbipnocefmiaaNim
namespace Go.Proofs.Ytkbbipnocefmiaa.Pure
open Go.RowKit Go.Proofs.Ytkbbipnocefmiaa.QFnNimInverses Go.Proofs.YtkbbipnocefmiaaW.PrintWords Go.Proofs.YtkbbipnocefmiaaW.PrintLast
open Go.Proofs.Ytkbbipnocefmiaa.Field
open Go.Proofs.Ytkbbipnocefmiaa.Nim Go.Proofs.YtkbbipnocefmiaaW.PrintMore
set_option linter.unusedVariables false
set_option linter.unusedSimpArgs false
namespace LFnNimInverses
theorem spec_isN (a : Int) : spec_grNimber.f a = some (decide (0 ≤ a ∧ a ≤ 65535)) := by
  unfold spec_grNimber.f spec_l1In.f
  by_cases h : 0 ≤ a <;> simp [h]
theorem impl_isN (a : Int) : impl_isNimber.f a = some (decide (0 ≤ a ∧ a ≤ 65535)) := by
  unfold impl_isNimber.f impl_in.f
  by_cases h : 0 ≤ a <;> simp [h]

/-! ### the products of both sides are the plain one -/
/-- Half of the digits of level l, as the program tells it. -/
def hf (l : Nat) : Int := ((2 ^ (l - 1) : Nat) : Int)
theorem hf_next : ∀ l, l ≤ 3 → mx (wrap64 (Int.tdiv (hf (l + 1)) 2)) 1 = hf l := by
  intro l hl
  rcases (by omega : l = 0 ∨ l = 1 ∨ l = 2 ∨ l = 3) with rfl | rfl | rfl | rfl <;> decide +kernel
theorem hf_mask : ∀ l, l ≤ 3 → wrap64 ((shl .i64 1 (hf (l + 1))) - 1) = 2 ^ 2 ^ l - 1 := by
  intro l hl
  rcases (by omega : l = 0 ∨ l = 1 ∨ l = 2 ∨ l = 3) with rfl | rfl | rfl | rfl <;> decide +kernel
theorem hf_top : ∀ l, l ≤ 3 → shl .i64 1 (wrap64 (hf (l + 1) - 1)) = ((2 ^ (2 ^ l - 1) : Nat) : Int) := by
  intro l hl
  rcases (by omega : l = 0 ∨ l = 1 ∨ l = 2 ∨ l = 3) with rfl | rfl | rfl | rfl <;> decide +kernel
theorem hf_pos : ∀ l, l ≤ 3 → 0 ≤ wrap64 (hf (l + 1) - 1) := by
  intro l hl
  rcases (by omega : l = 0 ∨ l = 1 ∨ l = 2 ∨ l = 3) with rfl | rfl | rfl | rfl <;> decide +kernel
theorem hf_succ (l : Nat) : hf (l + 1) = ((2 ^ l : Nat) : Int) := rfl
theorem lv_bd : ∀ l, l ≤ 4 → 2 ^ 2 ^ l ≤ 2 ^ 16 := by
  intro l hl
  exact Nat.pow_le_pow_right (by decide) (Nat.pow_le_pow_right (by decide) hl : 2 ^ l ≤ 2 ^ 4)

theorem impl_nim_eq : ∀ l, l ≤ 4 → ∀ (k a b : Nat), a < 2 ^ 2 ^ l → b < 2 ^ 2 ^ l → 2 * l + 2 ≤ k → impl_nim.f k a b (hf l) = some ((nm l a b : Nat) : Int) := by
  intro l
  induction l with
  | zero =>
    intro _ k a b ha hb hk
    have ha' : a < 2 := ha
    have hb' : b < 2 := hb
    obtain ⟨k, rfl⟩ : ∃ m, k = m + 2 := ⟨k - 2, by omega⟩
    simp only [impl_nim.f]
    rw [if_pos (by omega)]
    simp only [impl_nim.j0, if_true]
    rcases (by omega : a = 0 ∨ a = 1) with rfl | rfl <;> rcases (by omega : b = 0 ∨ b = 1) with rfl | rfl <;> decide +kernel
  | succ l ih =>
    intro hl k a b ha hb hk
    obtain ⟨k, rfl⟩ : ∃ m, k = m + 2 := ⟨k - 2, by omega⟩
    have big4 := lv_bd (l + 1) hl
    have big3 := lv_bd l (by omega)
    by_cases ha2 : a < 2
    · simp only [impl_nim.f]
      rw [if_pos (by omega)]
      simp only [impl_nim.j0, if_true]
      have : nm (l + 1) a b = a * b := by
        rcases (by omega : a = 0 ∨ a = 1) with rfl | rfl
        · rw [nm_zero, Nat.zero_mul]
        · rw [nm_one _ _ hb, Nat.one_mul]
      rw [this]
      have hab : a * b < 2 ^ 17 := by
        rcases (by omega : a = 0 ∨ a = 1) with rfl | rfl <;> omega
      have : wrap64 ((a : Int) * b) = ((a * b : Nat) : Int) := by rw [← Int.natCast_mul]; unfold wrap64; omega
      rw [this]
    · by_cases hb2 : b < 2
      · simp only [impl_nim.f]
        rw [if_neg (by omega)]
        have hd : decide ((b : Int) < 2) = true := decide_eq_true (by omega)
        simp only [impl_nim.j0, hd, if_true]
        have : nm (l + 1) a b = a * b := by
          rcases (by omega : b = 0 ∨ b = 1) with rfl | rfl
          · rw [nm_zero', Nat.mul_zero]
          · rw [nm_one' _ _ ha, Nat.mul_one]
        rw [this]
        have hab : a * b < 2 ^ 17 := by
          rcases (by omega : b = 0 ∨ b = 1) with rfl | rfl <;> omega
        have : wrap64 ((a : Int) * b) = ((a * b : Nat) : Int) := by rw [← Int.natCast_mul]; unfold wrap64; omega
        rw [this]
      · have hl3 : l ≤ 3 := by omega
        have h2l : 2 ^ l ≤ 64 := Nat.le_trans (Nat.pow_le_pow_right (by decide) hl3) (by decide)
        have h2l8 : 2 ^ l ≤ 8 := Nat.le_trans (Nat.pow_le_pow_right (by decide) hl3) (by decide)
        have a62 : a < 2 ^ 62 := by omega
        have b62 : b < 2 ^ 62 := by omega
        have da := div_lt ha
        have db := div_lt hb
        have ma := mod_lt l a
        have mb := mod_lt l b
        have xa := Nat.xor_lt_two_pow da ma
        have xb := Nat.xor_lt_two_pow db mb
        have n1 := nm_lt l _ _ da db
        have n0 := nm_lt l _ _ ma mb
        have nx := nm_lt l _ _ xa xb
        have nh := nm_lt l _ _ n1 (half_lt l)
        have nxx := Nat.xor_lt_two_pow nx n0
        simp only [impl_nim.f]
        rw [if_neg (by omega)]
        have hd : decide ((b : Int) < 2) = false := decide_eq_false (by omega)
        have h0 : (0 : Int) ≤ hf (l + 1) := Int.natCast_nonneg _
        simp only [impl_nim.j0, hd]
        rw [if_neg (by decide), if_pos h0, hf_next l hl3, hf_mask l hl3, hf_succ, shr_nat a _ h2l, shr_nat b _ h2l, mask_nat a _ a62 (by omega), mask_nat b _ b62 (by omega), ← hf_succ,
          xor_nat _ _ (by omega) (by omega), xor_nat _ _ (by omega) (by omega), ih (by omega) _ _ _ da db (by omega)]
        simp only [Option.bind_some]
        rw [ih (by omega) _ _ _ ma mb (by omega)]
        simp only [Option.bind_some]
        rw [ih (by omega) _ _ _ xa xb (by omega)]
        simp only [Option.bind_some]
        rw [if_pos (hf_pos l hl3), hf_top l hl3, ih (by omega) _ _ _ n1 (half_lt l) (by omega)]
        simp only [Option.bind_some]
        have hmul : (nm l (a / 2 ^ 2 ^ l ^^^ a % 2 ^ 2 ^ l) (b / 2 ^ 2 ^ l ^^^ b % 2 ^ 2 ^ l) ^^^ nm l (a % 2 ^ 2 ^ l) (b % 2 ^ 2 ^ l)) * 2 ^ 2 ^ l < 2 ^ 2 ^ (l + 1) := by
          rw [sq_pow]; exact Nat.mul_lt_mul_of_pos_right nxx (Nat.two_pow_pos _)
        rw [xor_nat _ _ (by omega) (by omega), hf_succ, shl_nat _ _ h2l (by omega), xor_nat _ _ (by omega) (by omega),
          xor_nat _ _ (Nat.xor_lt_two_pow (by omega) (by omega)) (by omega)]
        rfl

/-- The level of the reference: 0 at the bottom. -/
def gf (l : Nat) : Int := if l = 0 then 0 else hf l
theorem gf_next : ∀ l, l ≤ 3 → wrap64 (Int.tdiv (hf (l + 1)) 2) = gf l := by
  intro l hl
  rcases (by omega : l = 0 ∨ l = 1 ∨ l = 2 ∨ l = 3) with rfl | rfl | rfl | rfl <;> decide +kernel

theorem spec_times_eq : ∀ l, l ≤ 4 → ∀ (k a b : Nat), a < 2 ^ 2 ^ l → b < 2 ^ 2 ^ l → 2 * l + 2 ≤ k → spec_grTimes.f k a b (gf l) = some ((nm l a b : Nat) : Int) := by
  intro l
  induction l with
  | zero =>
    intro _ k a b ha hb hk
    have ha' : a < 2 := ha
    have hb' : b < 2 := hb
    obtain ⟨k, rfl⟩ : ∃ m, k = m + 2 := ⟨k - 2, by omega⟩
    simp only [spec_grTimes.f, spec_grTimes.j0]
    rcases (by omega : a = 0 ∨ a = 1) with rfl | rfl <;> rcases (by omega : b = 0 ∨ b = 1) with rfl | rfl <;> simp [gf, nm]
  | succ l ih =>
    intro hl k a b ha hb hk
    obtain ⟨k, rfl⟩ : ∃ m, k = m + 2 := ⟨k - 2, by omega⟩
    have big4 := lv_bd (l + 1) hl
    have big3 := lv_bd l (by omega)
    by_cases ha2 : a = 0
    · subst ha2
      simp only [spec_grTimes.f]
      rw [if_pos (by omega), nm_zero]
      simp only [spec_grTimes.j0, if_true]
      rfl
    · by_cases hb2 : b = 0
      · subst hb2
        simp only [spec_grTimes.f]
        rw [if_neg (by omega), nm_zero']
        simp [spec_grTimes.j0]
      · have hl3 : l ≤ 3 := by omega
        have h2l : 2 ^ l ≤ 64 := Nat.le_trans (Nat.pow_le_pow_right (by decide) hl3) (by decide)
        have h2l8 : 2 ^ l ≤ 8 := Nat.le_trans (Nat.pow_le_pow_right (by decide) hl3) (by decide)
        have hg : gf (l + 1) = hf (l + 1) := rfl
        have a62 : a < 2 ^ 62 := by omega
        have b62 : b < 2 ^ 62 := by omega
        have da := div_lt ha
        have db := div_lt hb
        have ma := mod_lt l a
        have mb := mod_lt l b
        have xa := Nat.xor_lt_two_pow da ma
        have xb := Nat.xor_lt_two_pow db mb
        have n1 := nm_lt l _ _ da db
        have n0 := nm_lt l _ _ ma mb
        have nx := nm_lt l _ _ xa xb
        have nh := nm_lt l _ _ n1 (half_lt l)
        have nxx := Nat.xor_lt_two_pow nx n0
        simp only [spec_grTimes.f]
        rw [if_neg (by omega)]
        have hd : ((b : Int) == 0) = false := by simpa using hb2
        have h0 : (0 : Int) ≤ hf (l + 1) := Int.natCast_nonneg _
        have h1 : ¬ hf (l + 1) = 0 := by rw [hf_succ]; have := Nat.two_pow_pos l; omega
        simp only [spec_grTimes.j0, hd, hg]
        rw [if_neg (by decide), if_neg h1, if_pos h0, gf_next l hl3, hf_mask l hl3, hf_succ, shr_nat a _ h2l, shr_nat b _ h2l, mask_nat a _ a62 (by omega), mask_nat b _ b62 (by omega), ← hf_succ,
          xor_nat _ _ (by omega) (by omega), xor_nat _ _ (by omega) (by omega), ih (by omega) _ _ _ ma mb (by omega)]
        simp only [Option.bind_some]
        rw [ih (by omega) _ _ _ da db (by omega)]
        simp only [Option.bind_some]
        rw [ih (by omega) _ _ _ xa xb (by omega)]
        simp only [Option.bind_some]
        rw [if_pos (hf_pos l hl3), hf_top l hl3, ih (by omega) _ _ _ n1 (half_lt l) (by omega)]
        simp only [Option.bind_some]
        have hmul : (nm l (a / 2 ^ 2 ^ l ^^^ a % 2 ^ 2 ^ l) (b / 2 ^ 2 ^ l ^^^ b % 2 ^ 2 ^ l) ^^^ nm l (a % 2 ^ 2 ^ l) (b % 2 ^ 2 ^ l)) * 2 ^ 2 ^ l < 2 ^ 2 ^ (l + 1) := by
          rw [sq_pow]; exact Nat.mul_lt_mul_of_pos_right nxx (Nat.two_pow_pos _)
        rw [xor_nat _ _ (by omega) (by omega), hf_succ, shl_nat _ _ h2l (by omega), xor_nat _ _ (by omega) (by omega),
          xor_nat _ _ (Nat.xor_lt_two_pow (by omega) (by omega)) (by omega)]
        rfl

theorem spec_nim (k a b : Nat) (ha : a < 65536) (hb : b < 65536) (hk : 10 ≤ k) : spec_grNim.f k a b = some ((nm 4 a b : Nat) : Int) := by
  unfold spec_grNim.f
  rw [show (8 : Int) = gf 4 from rfl, spec_times_eq 4 (by omega) k a b ha hb hk]
  rfl
theorem impl_nim (k a b : Nat) (ha : a < 65536) (hb : b < 65536) (hk : 10 ≤ k) : impl_times.f k a b = some ((nm 4 a b : Nat) : Int) := by
  unfold impl_times.f
  rw [show (8 : Int) = hf 4 from rfl, impl_nim_eq 4 (by omega) k a b ha hb hk]
  rfl
theorem nm4_lt {a b : Nat} (ha : a < 65536) (hb : b < 65536) : nm 4 a b < 65536 := nm_lt 4 a b ha hb

/-! ### powers -/
/-- A power by squares: base, exponent, what is made so far. -/
def pw : Nat → Nat → Nat → Nat → Nat
  | 0, _, _, o => o
  | n + 1, a, e, o => if e = 0 then o else pw n (nm 4 a a) (e / 2) (if e % 2 = 1 then nm 4 o a else o)
theorem pw_lt : ∀ (n a e o : Nat), a < 65536 → o < 65536 → pw n a e o < 65536
  | 0, _, _, _, _, h => h
  | n + 1, a, e, o, ha, ho => by
    unfold pw
    split
    · exact ho
    · refine pw_lt n _ _ _ (nm4_lt ha ha) ?_
      split
      · exact nm4_lt ho ha
      · exact ho
theorem spec_pow_l : ∀ (n k a e o : Nat), a < 65536 → o < 65536 → e < 2 ^ n → n ≤ 60 → n + 10 ≤ k → spec_grPower.l0 k a e o = some ((pw n a e o : Nat) : Int) := by
  intro n
  induction n with
  | zero =>
    intro k a e o ha ho he _ hk
    have he0 : e = 0 := by omega
    subst he0
    obtain ⟨k, rfl⟩ : ∃ m, k = m + 1 := ⟨k - 1, by omega⟩
    simp only [spec_grPower.l0]
    rw [if_neg (by omega)]
    rfl
  | succ n ih =>
    intro k a e o ha ho he hn hk
    obtain ⟨k, rfl⟩ : ∃ m, k = m + 1 := ⟨k - 1, by omega⟩
    have h60 : 2 ^ (n + 1) ≤ 2 ^ 60 := Nat.pow_le_pow_right (by decide) hn
    have hw : wrap64 (Int.tdiv (e : Int) 2) = ((e / 2 : Nat) : Int) := by
      rw [Int.tdiv_eq_ediv_of_nonneg (by omega)]; unfold wrap64; omega
    have hm : Int.tmod (e : Int) 2 = ((e % 2 : Nat) : Int) := by
      rw [Int.tmod_eq_emod_of_nonneg (by omega)]; omega
    have he2 : e / 2 < 2 ^ n := by rw [Nat.pow_succ] at he; omega
    simp only [spec_grPower.l0]
    unfold pw
    by_cases h0 : e = 0
    · rw [if_neg (by omega), if_pos h0]
    · rw [if_pos (by omega), if_neg h0, hm]
      by_cases h1 : e % 2 = 1
      · rw [if_pos (by omega), spec_nim k o a ho ha (by omega)]
        simp only [Option.bind_some]
        rw [spec_nim k a a ha ha (by omega)]
        simp only [Option.bind_some]
        rw [hw, ih k _ _ _ (nm4_lt ha ha) (nm4_lt ho ha) he2 (by omega) (by omega), if_pos h1]
      · rw [if_neg (by omega), spec_nim k a a ha ha (by omega)]
        simp only [Option.bind_some]
        rw [hw, ih k _ _ _ (nm4_lt ha ha) ho he2 (by omega) (by omega), if_neg h1]
theorem impl_pow_l : ∀ (n k a e o : Nat), a < 65536 → o < 65536 → e < 2 ^ n → n ≤ 60 → n + 10 ≤ k → impl_nimPower.l0 k a e o = some ((pw n a e o : Nat) : Int) := by
  intro n
  induction n with
  | zero =>
    intro k a e o ha ho he _ hk
    have he0 : e = 0 := by omega
    subst he0
    obtain ⟨k, rfl⟩ : ∃ m, k = m + 1 := ⟨k - 1, by omega⟩
    simp only [impl_nimPower.l0]
    rw [if_neg (by omega)]
    rfl
  | succ n ih =>
    intro k a e o ha ho he hn hk
    obtain ⟨k, rfl⟩ : ∃ m, k = m + 1 := ⟨k - 1, by omega⟩
    have h60 : 2 ^ (n + 1) ≤ 2 ^ 60 := Nat.pow_le_pow_right (by decide) hn
    have hw : wrap64 (Int.tdiv (e : Int) 2) = ((e / 2 : Nat) : Int) := by
      rw [Int.tdiv_eq_ediv_of_nonneg (by omega)]; unfold wrap64; omega
    have hm : Int.tmod (e : Int) 2 = ((e % 2 : Nat) : Int) := by
      rw [Int.tmod_eq_emod_of_nonneg (by omega)]; omega
    have he2 : e / 2 < 2 ^ n := by rw [Nat.pow_succ] at he; omega
    simp only [impl_nimPower.l0]
    unfold pw
    by_cases h0 : e = 0
    · rw [if_neg (by omega), if_pos h0]
    · rw [if_pos (by omega), if_neg h0, hm]
      by_cases h1 : e % 2 = 1
      · rw [if_pos (by omega), impl_nim k o a ho ha (by omega)]
        simp only [Option.bind_some]
        rw [impl_nim k a a ha ha (by omega)]
        simp only [Option.bind_some]
        rw [hw, ih k _ _ _ (nm4_lt ha ha) (nm4_lt ho ha) he2 (by omega) (by omega), if_pos h1]
      · rw [if_neg (by omega), impl_nim k a a ha ha (by omega)]
        simp only [Option.bind_some]
        rw [hw, ih k _ _ _ (nm4_lt ha ha) ho he2 (by omega) (by omega), if_neg h1]
/-- The power, for exponents below 2^20. -/
def pow4 (a e : Nat) : Nat := pw 20 a e 1
theorem pow4_lt {a e : Nat} (ha : a < 65536) : pow4 a e < 65536 := pw_lt 20 a e 1 ha (by omega)
theorem spec_pow (k a e : Nat) (ha : a < 65536) (he : e < 1048576) (hk : 30 ≤ k) : spec_grPower.f k a e = some ((pow4 a e : Nat) : Int) := by
  unfold spec_grPower.f
  exact spec_pow_l 20 k a e 1 ha (by omega) he (by omega) (by omega)
theorem impl_pow (k a e : Nat) (ha : a < 65536) (he : e < 1048576) (hk : 30 ≤ k) : impl_nimPower.f k a e = some ((pow4 a e : Nat) : Int) := by
  unfold impl_nimPower.f
  exact impl_pow_l 20 k a e 1 ha (by omega) he (by omega) (by omega)

/-! ### what is drawn -/
theorem u8_bd {x : Int} (h : (Lit.int .u8 x).wf = true) : 0 ≤ x ∧ x ≤ 255 := bounds_u8 h
theorem and255 (x : Int) : 0 ≤ bits .and .u64 x 255 ∧ bits .and .u64 x 255 ≤ 255 := by
  have e : bits .and .u64 x 255 = IntKind.u64.wrap ((BitVec.ofInt 64 x &&& BitVec.ofInt 64 255).toNat : Int) := rfl
  have h : (BitVec.ofInt 64 x &&& BitVec.ofInt 64 255).toNat ≤ 255 := by
    rw [BitVec.toNat_and]
    exact Nat.and_le_right
  rw [e, IntKind.wrap_u64]
  omega
theorem w64 (x : Int) (h0 : 0 ≤ x) (h1 : x < 2 ^ 62) : wrap64 x = x := by unfold wrap64; omega
theorem rd_bd (l : List Int) (hl : ∀ x ∈ l, (Lit.int .u8 x).wf = true) (i : Int) (h0 : 0 ≤ i) (h1 : i < (l.length : Int)) : 0 ≤ rd l i ∧ rd l i ≤ 255 := by
  obtain ⟨n, rfl⟩ := Int.eq_ofNat_of_zero_le h0
  have hn : n < l.length := by omega
  have e : rd l (n : Int) = l[n] := by
    unfold rd
    simp [hn]
  rw [e]
  exact u8_bd (hl _ (List.getElem_mem hn))
theorem next_ok (l : List Int) (hl : ∀ x ∈ l, (Lit.int .u8 x).wf = true) (p s : Int) (h0 : 0 ≤ p) (h1 : p < 1000) : ∃ b s', spec_l1Cur_next.f l p s = some (b, p + 1, s') ∧ 0 ≤ b ∧ b ≤ 255 := by
  have hp : wrap64 (p + 1) = p + 1 := w64 _ (by omega) (by omega)
  unfold spec_l1Cur_next.f
  rw [hp]
  by_cases c : p < (l.length : Int)
  · have hb := rd_bd l hl p h0 c
    rw [if_pos c, if_pos h0, if_pos (by omega), w64 (rd l p) (by omega) (by omega)]
    exact ⟨_, _, rfl, hb⟩
  · rw [if_neg c, if_neg (by omega)]
    refine ⟨_, _, rfl, ?_⟩
    have q := and255 ((IntKind.u64.wrap ((IntKind.u64.wrap ((IntKind.u64.wrap (s * 6364136223846793005)) + 0)) + 1442695040888963407)) / 1099511627776)
    rw [w64 _ q.1 (by omega)]
    exact q
theorem pick_ok (l : List Int) (hl : ∀ x ∈ l, (Lit.int .u8 x).wf = true) (p s n : Int) (h0 : 0 ≤ p) (h1 : p < 900) (hn : 1 ≤ n) : ∃ b p' s', spec_l1Cur_pick.f l p s n = some (b, p', s') ∧ 0 ≤ b ∧ b < n ∧ p ≤ p' ∧ p' ≤ p + 2 := by
  unfold spec_l1Cur_pick.f
  by_cases c : n ≤ 1
  · rw [if_pos c]
    exact ⟨_, _, _, rfl, by omega, by omega, by omega, by omega⟩
  · rw [if_neg c]
    obtain ⟨b, s1, e1, b0, b1⟩ := next_ok l hl p s h0 (by omega)
    rw [e1]
    simp only [Option.bind_some]
    have hz : ¬ n = 0 := by omega
    by_cases g : n > 200
    · obtain ⟨b', s2, e2, d0, d1⟩ := next_ok l hl (p + 1) s1 (by omega) (by omega)
      rw [if_pos g, e2]
      simp only [Option.bind_some, if_neg hz]
      have q1 : wrap64 (b * 256) = b * 256 := w64 _ (by omega) (by omega)
      have q2 : wrap64 (b * 256 + b') = b * 256 + b' := w64 _ (by omega) (by omega)
      rw [q1, q2]
      refine ⟨_, _, _, rfl, Int.tmod_nonneg _ (by omega), Int.tmod_lt_of_pos _ (by omega), by omega, by omega⟩
    · rw [if_neg g, if_neg hz]
      exact ⟨_, _, _, rfl, Int.tmod_nonneg _ (by omega), Int.tmod_lt_of_pos _ (by omega), by omega, by omega⟩
theorem among_ok (l : List Int) (hl : ∀ x ∈ l, (Lit.int .u8 x).wf = true) (p s : Int) (m : List Int) (h0 : 0 ≤ p) (h1 : p < 900) (hm : 1 ≤ m.length) : ∃ b p' s', spec_l1Cur_among.f l p s m = some (b, p', s') ∧ p ≤ p' ∧ p' ≤ p + 2 := by
  unfold spec_l1Cur_among.f
  obtain ⟨b, p', s', e, b0, b1, q⟩ := pick_ok l hl p s (m.length : Int) h0 h1 (by omega)
  rw [e]
  simp only [Option.bind_some, if_pos b0, if_pos b1]
  exact ⟨_, _, _, rfl, q⟩
theorem nimber_ok (l : List Int) (hl : ∀ x ∈ l, (Lit.int .u8 x).wf = true) (p s : Int) (h0 : 0 ≤ p) (h1 : p < 800) : ∃ b p' s', spec_l1Cur_nimber.f l p s = some (b, p', s') ∧ p ≤ p' ∧ p' ≤ p + 4 := by
  unfold spec_l1Cur_nimber.f
  obtain ⟨b, p1, s1, e, b0, b1, q1, q2⟩ := pick_ok l hl p s 6 h0 (by omega) (by omega)
  rw [e]
  simp only [Option.bind_some]
  by_cases c : b = 0
  · obtain ⟨x, p2, s2, e2, r1, r2⟩ := among_ok l hl p1 s1 ([(-1), 0, 1, 65535, 65536] : List Int) (by omega) (by omega) (by decide)
    rw [if_pos c, e2]
    exact ⟨x, p2, s2, rfl, by omega, by omega⟩
  · rw [if_neg c]
    by_cases c1 : b = 1
    · obtain ⟨x, p2, s2, e2, _, _, r1, r2⟩ := pick_ok l hl p1 s1 65536 (by omega) (by omega) (by decide)
      rw [if_pos c1, e2]
      exact ⟨x, p2, s2, rfl, by omega, by omega⟩
    · obtain ⟨x, p2, s2, e2, _, _, r1, r2⟩ := pick_ok l hl p1 s1 40 (by omega) (by omega) (by decide)
      rw [if_neg c1, e2]
      exact ⟨x, p2, s2, rfl, by omega, by omega⟩

theorem pw_pn : ∀ (n a e o : Nat), a < 65536 → o < 65536 → e < 2 ^ n → pw n a e o = nm 4 o (pn a e)
  | 0, a, e, o, _, ho, he => by
    have : e = 0 := by simpa using he
    subst this
    exact (nm_one' 4 o ho).symm
  | n + 1, a, e, o, ha, ho, he => by
    unfold pw
    by_cases h : e = 0
    · subst h
      rw [if_pos rfl]
      exact (nm_one' 4 o ho).symm
    · rw [if_neg h]
      have h2 : e / 2 < 2 ^ n := Nat.div_lt_of_lt_mul (by rw [Nat.pow_succ, Nat.mul_comm] at he; exact he)
      have e2 : pn (nm 4 a a) (e / 2) = pn a (2 * (e / 2)) := by
        rw [pn_mul, pn_two a ha]
      rw [pw_pn n _ _ _ (nm4_lt ha ha) (by split; exact nm4_lt ho ha; exact ho) h2, e2]
      by_cases q : e % 2 = 1
      · rw [if_pos q, nm_assoc]
        congr 1
        have : pn a e = pn a (1 + 2 * (e / 2)) := by congr 1; omega
        rw [this, pn_add, pn_one a ha]
      · rw [if_neg q]
        congr 2
        omega
theorem pow4_pn (a e : Nat) (ha : a < 65536) (he : e < 1048576) : pow4 a e = pn a e := by
  unfold pow4
  rw [pw_pn 20 a e 1 ha (by omega) he]
  exact nm_one 4 _ (pn_lt _ _)
theorem order_l (a : Nat) (ha : a < 65536) : ∀ (d k i e : Nat), i + d = 4 → e < 65536 → 31 + d ≤ k →
    spec_NimOrder.l0 k a e [3, 5, 17, 257] 4 i = some (((ordl a e (([3, 5, 17, 257] : List Nat).drop i) : Nat) : Int), true) ∧ impl_NimOrder.l0 k a e [3, 5, 17, 257] 4 i = some (((ordl a e (([3, 5, 17, 257] : List Nat).drop i) : Nat) : Int), true) := by
  intro d
  induction d with
  | zero =>
    intro k i e hi he hk
    obtain ⟨k, rfl⟩ : ∃ m, k = m + 1 := ⟨k - 1, by omega⟩
    obtain rfl : i = 4 := by omega
    simp only [spec_NimOrder.l0, impl_NimOrder.l0]
    rw [if_neg (by omega), if_neg (by omega)]
    exact ⟨rfl, rfl⟩
  | succ d ih =>
    intro k i e hi he hk
    obtain ⟨k, rfl⟩ : ∃ m, k = m + 1 := ⟨k - 1, by omega⟩
    obtain ⟨p, hp, hp2, hp3, hd⟩ : ∃ p : Nat, rd [3, 5, 17, 257] (i : Int) = p ∧ 3 ≤ p ∧ p ≤ 257 ∧ ([3, 5, 17, 257] : List Nat).drop i = p :: ([3, 5, 17, 257] : List Nat).drop (i + 1) := by
      rcases (by omega : i = 0 ∨ i = 1 ∨ i = 2 ∨ i = 3) with rfl | rfl | rfl | rfl
      · exact ⟨3, rfl, by omega, by omega, rfl⟩
      · exact ⟨5, rfl, by omega, by omega, rfl⟩
      · exact ⟨17, rfl, by omega, by omega, rfl⟩
      · exact ⟨257, rfl, by omega, by omega, rfl⟩
    have hqe : e / p ≤ e := Nat.div_le_self _ _
    have g1 : (i : Int) < 4 := by omega
    have g2 : (0 : Int) ≤ (i : Int) := Int.natCast_nonneg _
    have g3 : ¬ (p : Int) = 0 := by omega
    have hl : (i : Int) < (([3, 5, 17, 257] : List Int).length : Int) := g1
    have hs := spec_pow k a (e / p) ha (by omega) (by omega)
    have hm := impl_pow k a (e / p) ha (by omega) (by omega)
    rw [pow4_pn a _ ha (by omega)] at hs hm
    have hr1 := ih k (i + 1) (e / p) (by omega) (by omega) (by omega)
    have hr2 := ih k (i + 1) e (by omega) he (by omega)
    have hw : wrap64 (Int.tdiv (e : Int) (p : Int)) = ((e / p : Nat) : Int) := by
      rw [Int.tdiv_eq_ediv_of_nonneg (by omega), ← Int.natCast_ediv]
      generalize e / p = q at hqe ⊢
      unfold wrap64; omega
    have hi1 : wrap64 ((i : Int) + 1) = ((i + 1 : Nat) : Int) := by unfold wrap64; omega
    rw [hd]
    simp only [spec_NimOrder.l0, impl_NimOrder.l0, if_pos g1, if_pos g2, if_pos hl, hp, if_neg g3, hw, hi1,
      hs, hm, Option.bind_some, ordl]
    by_cases h1 : pn a (e / p) = 1
    · have h1' : ((pn a (e / p) : Nat) : Int) = 1 := by rw [h1]; rfl
      have e1 : st a e p = e / p := by unfold st; rw [if_pos h1]
      rw [if_pos h1', if_pos h1', e1]
      exact hr1
    · have h1' : ¬ ((pn a (e / p) : Nat) : Int) = 1 := by omega
      have e1 : st a e p = e := by unfold st; rw [if_neg h1]
      rw [if_neg h1', if_neg h1', e1]
      exact hr2
theorem order_n (a k : Nat) (ha : a < 65536) (h0 : a ≠ 0) (hk : 40 ≤ k) : impl_NimOrder.f k a = some (((ordl a 65535 [3, 5, 17, 257] : Nat) : Int), true) ∧ spec_NimOrder.f k a = some (((ordl a 65535 [3, 5, 17, 257] : Nat) : Int), true) := by
  obtain ⟨k, rfl⟩ : ∃ m, k = m + 1 := ⟨k - 1, by omega⟩
  obtain ⟨h1, h2⟩ := order_l a ha 4 k 0 65535 (by omega) (by omega) (by omega)
  obtain ⟨h1', h2'⟩ := order_l a ha 4 (k + 1) 0 65535 (by omega) (by omega) (by omega)
  have ha1 : 0 ≤ (a : Int) ∧ (a : Int) ≤ 65535 := by omega
  have hb : ((a : Int) == 0) = false := by simpa using h0
  have e4 : (([3, 5, 17, 257] : List Int).length : Int) = 4 := rfl
  simp only [Int.natCast_zero, Int.cast_ofNat_Int, List.drop_zero] at h1 h2 h1' h2'
  unfold impl_NimOrder.f spec_NimOrder.f
  simp only [spec_isN, impl_isN, Option.bind_some, ha1, decide_true, and_self, if_true, spec_NimOrder.j0, impl_NimOrder.j0, hb, e4, Bool.false_eq_true, if_false, h1, h2, h1', h2']
theorem inverse_n (a k : Nat) (ha : a < 65536) (h0 : a ≠ 0) (hk : 40 ≤ k) : impl_NimInverse.f k a = some (((pn a 65534 : Nat) : Int), true) := by
  obtain ⟨k, rfl⟩ : ∃ m, k = m + 1 := ⟨k - 1, by omega⟩
  have h2 := impl_pow k a 65534 ha (by omega) (by omega)
  have h2' := impl_pow (k + 1) a 65534 ha (by omega) (by omega)
  rw [pow4_pn a _ ha (by omega)] at h2 h2'
  have ha1 : 0 ≤ (a : Int) ∧ (a : Int) ≤ 65535 := by omega
  have hb : ((a : Int) == 0) = false := by simpa using h0
  simp only [Int.cast_ofNat_Int] at h2 h2'
  have hb' : ¬ ((a : Int) = 0) := by omega
  unfold impl_NimInverse.f
  simp only [impl_isN, Option.bind_some, ha1, decide_true, and_self, if_true, if_neg hb', h2, h2']
theorem prod_n (a b : Nat) (ha : a < 65536) (hb : b < 65536) (k : Nat) (hk : 10 ≤ k) : impl_NimProduct.f k a b = some (((nm 4 a b : Nat) : Int), true) := by
  unfold impl_NimProduct.f
  have h1 : 0 ≤ (a : Int) ∧ (a : Int) ≤ 65535 := by omega
  have h2 : 0 ≤ (b : Int) ∧ (b : Int) ≤ 65535 := by omega
  simp only [impl_isN, Option.bind_some, h1, h2, decide_true, and_self, if_true]
  rw [impl_nim k a b ha hb hk]
  rfl
theorem power_n (a e : Nat) (ha : a < 65536) (he : e ≤ 1000000) (k : Nat) (hk : 40 ≤ k) : impl_NimPower.f k a e = some (((pn a e : Nat) : Int), true) := by
  obtain ⟨k, rfl⟩ : ∃ m, k = m + 1 := ⟨k - 1, by omega⟩
  have h2 := impl_pow k a e ha (by omega) (by omega)
  have h2' := impl_pow (k + 1) a e ha (by omega) (by omega)
  rw [pow4_pn a _ ha (by omega)] at h2 h2'
  have ha1 : 0 ≤ (a : Int) ∧ (a : Int) ≤ 65535 := by omega
  have he1 : 0 ≤ (e : Int) ∧ (e : Int) ≤ 1000000 := by omega
  have hin : impl_in.f (e : Int) 0 1000000 = some true := by
    unfold impl_in.f
    simp [he1]
  unfold impl_NimPower.f
  simp only [impl_isN, hin, Option.bind_some, ha1, decide_true, and_self, if_true, h2, h2']
/-- The size of a nimber's field. -/
def fld (a : Nat) : Nat := if a < 2 then 2 else if a < 4 then 4 else if a < 16 then 16 else if a < 256 then 256 else 65536
theorem w2 : wrap64 (2 * 2) = 4 := by decide +kernel
theorem w4 : wrap64 (4 * 4) = 16 := by decide +kernel
theorem w16 : wrap64 (16 * 16) = 256 := by decide +kernel
theorem w256 : wrap64 (256 * 256) = 65536 := by decide +kernel
theorem field_n (a k : Nat) (h : a < 65536) (hk : 6 ≤ k) : impl_NimFieldOf.f k a = some (((fld a : Nat) : Int), true) := by
  obtain ⟨k, rfl⟩ : ∃ m, k = m + 6 := ⟨k - 6, by omega⟩
  have ha1 : 0 ≤ (a : Int) ∧ (a : Int) ≤ 65535 := by omega
  unfold impl_NimFieldOf.f
  simp only [impl_isN, Option.bind_some, ha1, decide_true, and_self, if_true]
  simp only [impl_NimFieldOf.l0, ge_iff_le, w2, w4, w16, w256]
  unfold fld
  by_cases h1 : a < 2
  · rw [if_pos h1, if_neg (by omega)]; rfl
  · rw [if_neg h1, if_pos (by omega)]
    by_cases h2 : a < 4
    · rw [if_pos h2, if_neg (by omega)]; rfl
    · rw [if_neg h2, if_pos (by omega)]
      by_cases h3 : a < 16
      · rw [if_pos h3, if_neg (by omega)]; rfl
      · rw [if_neg h3, if_pos (by omega)]
        by_cases h4 : a < 256
        · rw [if_pos h4, if_neg (by omega)]; rfl
        · rw [if_neg h4, if_pos (by omega), if_neg (by omega)]; rfl
theorem fld_inv (a : Nat) (ha : a < 65536) (h0 : a ≠ 0) : fld (pn a 65534) = fld a := by
  have h : ∀ l, l ≤ 4 → (pn a 65534 < 2 ^ 2 ^ l ↔ a < 2 ^ 2 ^ l) := fun l hl => inv_in l hl a ha h0
  have i0 := h 0 (by decide)
  have i1 := h 1 (by decide)
  have i2 := h 2 (by decide)
  have i3 := h 3 (by decide)
  have e0 : 2 ^ 2 ^ 0 = 2 := by decide
  have e1 : 2 ^ 2 ^ 1 = 4 := by decide
  have e2 : 2 ^ 2 ^ 2 = 16 := by decide
  have e3 : 2 ^ 2 ^ 3 = 256 := by decide
  rw [e0] at i0
  rw [e1] at i1
  rw [e2] at i2
  rw [e3] at i3
  unfold fld
  simp only [i0, i1, i2, i3]
theorem fld_unit (a : Nat) (ha : a < 65536) (h0 : a ≠ 0) : pn a (fld a - 1) = 1 := by
  unfold fld
  by_cases h1 : a < 2
  · rw [if_pos h1]; exact unit 0 (by decide) a h1 h0
  · rw [if_neg h1]
    by_cases h2 : a < 4
    · rw [if_pos h2]; exact unit 1 (by decide) a h2 h0
    · rw [if_neg h2]
      by_cases h3 : a < 16
      · rw [if_pos h3]; exact unit 2 (by decide) a h3 h0
      · rw [if_neg h3]
        by_cases h4 : a < 256
        · rw [if_pos h4]; exact unit 3 (by decide) a h4 h0
        · rw [if_neg h4]; exact unit 4 (by decide) a ha h0
theorem fld_bd (a : Nat) : 2 ≤ fld a ∧ fld a ≤ 65536 := by
  unfold fld
  repeat' split
  all_goals omega
theorem rounds_l (a o : Nat) (ha : a < 65536) (h0 : a ≠ 0) (h1 : pn a o = 1) (h2 : o ∣ 65535) (h3 : ∀ p, p = 3 ∨ p = 5 ∨ p = 17 ∨ p = 257 → p ∣ o → pn a (o / p) ≠ 1) :
    ∀ (d k i : Nat), i + d = 4 → 41 + d ≤ k → laws_FnNimInverses.l0 k a o ((pn a 65534 : Nat) : Int) [3, 5, 17, 257] 4 i = some true := by
  have ho : 0 < o := Nat.pos_of_dvd_of_pos h2 (by decide)
  have ho2 : o ≤ 65535 := Nat.le_of_dvd (by decide) h2
  intro d
  induction d with
  | zero =>
    intro k i hi hk
    obtain ⟨k, rfl⟩ : ∃ m, k = m + 1 := ⟨k - 1, by omega⟩
    obtain rfl : i = 4 := by omega
    have hp := power_n a (o - 1) ha (by omega) k (by omega)
    have hw : wrap64 ((o : Int) - 1) = ((o - 1 : Nat) : Int) := by unfold wrap64; omega
    have e : pn a (o - 1) = pn a 65534 := by
      obtain ⟨c, hc⟩ := h2
      obtain ⟨c, rfl⟩ : ∃ m, c = m + 1 := ⟨c - 1, by
        have : c ≠ 0 := fun e => by rw [e] at hc; simp at hc
        omega⟩
      have : 65534 = o * c + (o - 1) := by rw [Nat.mul_succ] at hc; omega
      conv => rhs; rw [this, pn_add, pn_dvd h1 ⟨c, rfl⟩, nm_one 4 _ (pn_lt _ _)]
    simp only [laws_FnNimInverses.l0]
    rw [if_neg (by omega), hw, hp]
    simp only [Option.bind_some, if_true]
    rw [e, beq_self_eq_true]
  | succ d ih =>
    intro k i hi hk
    obtain ⟨k, rfl⟩ : ∃ m, k = m + 1 := ⟨k - 1, by omega⟩
    obtain ⟨p, hp, hpp⟩ : ∃ p : Nat, rd [3, 5, 17, 257] (i : Int) = p ∧ (p = 3 ∨ p = 5 ∨ p = 17 ∨ p = 257) := by
      rcases (by omega : i = 0 ∨ i = 1 ∨ i = 2 ∨ i = 3) with rfl | rfl | rfl | rfl
      · exact ⟨3, rfl, by omega⟩
      · exact ⟨5, rfl, by omega⟩
      · exact ⟨17, rfl, by omega⟩
      · exact ⟨257, rfl, by omega⟩
    have hqe : o / p ≤ o := Nat.div_le_self _ _
    have g1 : (i : Int) < 4 := by omega
    have g2 : (0 : Int) ≤ (i : Int) := Int.natCast_nonneg _
    have g3 : ¬ (p : Int) = 0 := by omega
    have hl : (i : Int) < (([3, 5, 17, 257] : List Int).length : Int) := g1
    have hm := power_n a (o / p) ha (by omega) k (by omega)
    have nx := ih k (i + 1) (by omega) (by omega)
    have hw : wrap64 (Int.tdiv (o : Int) (p : Int)) = ((o / p : Nat) : Int) := by
      rw [Int.tdiv_eq_ediv_of_nonneg (by omega), ← Int.natCast_ediv]
      generalize o / p = q at hqe ⊢
      unfold wrap64; omega
    have hi1 : wrap64 ((i : Int) + 1) = ((i + 1 : Nat) : Int) := by unfold wrap64; omega
    simp only [laws_FnNimInverses.l0, if_pos g1, if_pos g2, if_pos hl, hp, if_neg g3, hw, hi1, hm, Option.bind_some, if_true]
    clear hw hi1
    by_cases c : Int.tmod (o : Int) (p : Int) = 0
    · have hd : p ∣ o := by
        rw [Int.tmod_eq_emod_of_nonneg (by omega), ← Int.natCast_emod] at c
        exact Nat.dvd_of_mod_eq_zero (by omega)
      have hne := h3 p hpp hd
      rw [if_pos c, if_neg (by omega)]
      exact nx
    · rw [if_neg c]
      exact nx
theorem rounds_g (a o : Nat) (ha : a < 65536) (h0 : a ≠ 0) (h1 : pn a o = 1) (h2 : o ∣ 65535) (h3 : ∀ p, p = 3 ∨ p = 5 ∨ p = 17 ∨ p = 257 → p ∣ o → pn a (o / p) ≠ 1) (n j : Int) (hn : n = 4) (hj : j = 0) :
    laws_FnNimInverses.l0 58 a o ((pn a 65534 : Nat) : Int) [3, 5, 17, 257] n j = some true := by
  subst hn hj
  have h := rounds_l a o ha h0 h1 h2 h3 4 58 0 (by omega) (by omega)
  rw [Int.natCast_zero] at h
  exact h
theorem ord_ex (a : Nat) (ha : a < 65536) (h0 : a ≠ 0) : ∃ o, pn a o = 1 ∧ o ∣ 65535 ∧ (∀ p, p = 3 ∨ p = 5 ∨ p = 17 ∨ p = 257 → p ∣ o → pn a (o / p) ≠ 1) ∧
    impl_NimOrder.f 60 a = some ((o : Int), true) ∧ spec_NimOrder.f 60 a = some ((o : Int), true) :=
  ⟨ordl a 65535 [3, 5, 17, 257], (ord_fact a ha h0).1, (ord_fact a ha h0).2.1, (ord_fact a ha h0).2.2, (order_n a 60 ha h0 (by decide)).1, (order_n a 60 ha h0 (by decide)).2⟩
theorem wless (f : Nat) (h : 2 ≤ f ∧ f ≤ 65536) : wrap64 ((f : Int) - 1) = ((f - 1 : Nat) : Int) := by unfold wrap64; omega
theorem inv_all (a o : Nat) (ha : a < 65536) (h0 : a ≠ 0) (f1 : pn a o = 1) (f2 : o ∣ 65535) (f3 : ∀ p, p = 3 ∨ p = 5 ∨ p = 17 ∨ p = 257 → p ∣ o → pn a (o / p) ≠ 1) :
    ∃ b : Nat, nm 4 a b = 1 ∧ impl_NimInverse.f 59 a = some ((b : Int), true) ∧ impl_NimProduct.f 59 a b = some (((nm 4 a b : Nat) : Int), true) ∧ impl_NimFieldOf.f 59 b = some (((fld a : Nat) : Int), true) ∧
      (∀ n j : Int, n = 4 → j = 0 → laws_FnNimInverses.l0 58 a o (b : Int) [3, 5, 17, 257] n j = some true) := by
  refine ⟨pn a 65534, unit_inv a ha h0, inverse_n a 59 ha h0 (by decide), prod_n a _ ha (pn_lt a 65534) 59 (by decide), ?_, rounds_g a o ha h0 f1 f2 f3⟩
  rw [← fld_inv a ha h0]
  exact field_n _ 59 (pn_lt a 65534) (by decide)
theorem last (a o b f p q : Nat) (one : (p : Int) = 1) (one2 : (q : Int) = 1) (hz : ¬ (o : Int) = 0) (hw : wrap64 ((f : Int) - 1) = ((f - 1 : Nat) : Int)) (hmod : (Int.tmod (((f - 1 : Nat) : Int)) (o : Int) != 0) = false)
    (i1 : impl_NimInverse.f 59 a = some ((b : Int), true)) (i2 : impl_NimProduct.f 59 a b = some ((q : Int), true)) (i3 : impl_NimFieldOf.f 59 a = some ((f : Int), true)) (i4 : impl_NimFieldOf.f 59 b = some ((f : Int), true))
    (i5 : impl_NimPower.f 59 a o = some ((p : Int), true)) (i6 : ∀ n j : Int, n = 4 → j = 0 → laws_FnNimInverses.l0 58 a o (b : Int) [3, 5, 17, 257] n j = some true) :
    laws_FnNimInverses.j0 60 a o true false = some true := by
  show laws_FnNimInverses.j0 (59 + 1) _ _ _ _ = _
  simp only [laws_FnNimInverses.j0, Bool.false_eq_true, if_false, if_true, i1, i2, i3, i4, i5, Option.bind_some]
  rw [if_pos one2, if_pos one, if_neg hz, hw, hmod]
  show laws_FnNimInverses.j1 (58 + 1) _ _ _ _ = _
  simp only [laws_FnNimInverses.j1, Bool.false_eq_true, if_false, Option.bind_some]
  exact i6 _ _ rfl rfl
theorem proved : laws_FnNimInverses.Pure := by
  intro l m hl _ hlw hm _ hmw
  refine ⟨60, ?_⟩
  unfold laws_FnNimInverses.f
  have big : laws_big.f l m = some (decide ((l.length : Int) > 1048576) || decide ((m.length : Int) > wrap64 (1048576 - (l.length : Int)))) := by
    unfold laws_big.f
    by_cases h : (l.length : Int) > 1048576 <;> simp [h]
  rw [big]
  simp only [Option.bind_some]
  cases (decide ((l.length : Int) > 1048576) || decide ((m.length : Int) > wrap64 (1048576 - (l.length : Int)))) with
  | true => rfl
  | false =>
    obtain ⟨a, p, s, e1, _⟩ := nimber_ok l hlw 0 0 (by decide) (by decide)
    have e : spec_DrawNimOrder.f l = some a := by
      unfold spec_DrawNimOrder.f
      simp only [e1, Option.bind_some]
    simp only [e, Option.bind_some, Bool.false_eq_true, if_false]
    by_cases ha : (0 ≤ a ∧ a ≤ 65535) ∧ a ≠ 0
    · obtain ⟨a, rfl⟩ := Int.eq_ofNat_of_zero_le ha.1.1
      have ha4 : a < 65536 := by omega
      have h0 : a ≠ 0 := by have := ha.2; omega
      obtain ⟨o, f1, f2, f3, o1, o2⟩ := ord_ex a ha4 h0
      rw [o1, o2]
      simp only [Option.bind_some, bne_self_eq_false, Bool.false_eq_true, if_false]
      have ho : 0 < o := Nat.pos_of_dvd_of_pos f2 (by decide)
      have ho2 : o ≤ 65535 := Nat.le_of_dvd (by decide) f2
      have hd := ord_dvd a o f1 f2 f3 _ (fld_unit a ha4 h0)
      have hf := fld_bd a
      have hw : wrap64 (((fld a : Nat) : Int) - 1) = ((fld a - 1 : Nat) : Int) := wless _ hf
      have hz : ¬ ((o : Int) = 0) := by omega
      have o6 : o ≤ 1000000 := by omega
      have hmod : (Int.tmod (((fld a - 1 : Nat) : Int)) (o : Int) != 0) = false := by
        rw [Int.tmod_eq_emod_of_nonneg (Int.natCast_nonneg _), ← Int.natCast_emod, Nat.mod_eq_zero_of_dvd hd]
        rfl
      have one : ((pn a o : Nat) : Int) = 1 := by rw [f1]; rfl
      have i3 := field_n a 59 ha4 (by decide)
      have i5 := power_n a o ha4 o6 59 (by decide)
      obtain ⟨b, hb, i1, i2, i4, i6⟩ := inv_all a o ha4 h0 f1 f2 f3
      exact last a o b (fld a) (pn a o) (nm 4 a b) one (by rw [hb]; rfl) hz hw hmod i1 i2 i3 i4 i5 i6
    · have hh : impl_NimOrder.f 60 a = some (0, false) ∧ spec_NimOrder.f 60 a = some (0, false) := by
        unfold impl_NimOrder.f spec_NimOrder.f
        simp only [spec_isN, impl_isN, Option.bind_some]
        by_cases h1 : 0 ≤ a ∧ a ≤ 65535
        · have h2 : a = 0 := by
            apply Classical.byContradiction
            intro q
            exact ha ⟨h1, q⟩
          subst h2
          constructor <;> simp [spec_NimOrder.j0, impl_NimOrder.j0]
        · constructor <;> simp [h1, spec_NimOrder.j0, impl_NimOrder.j0]
      rw [hh.1, hh.2]
      simp only [Option.bind_some, bne_self_eq_false, Bool.false_eq_true, if_false]
      show laws_FnNimInverses.j0 (59 + 1) _ _ _ _ = _
      simp only [laws_FnNimInverses.j0, Bool.false_eq_true, if_false]

end LFnNimInverses
theorem FnNimInverses : laws_FnNimInverses.Pure := LFnNimInverses.proved
end Go.Proofs.Ytkbbipnocefmiaa.Pure
