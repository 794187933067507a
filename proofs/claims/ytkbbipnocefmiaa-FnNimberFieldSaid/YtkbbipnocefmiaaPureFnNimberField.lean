/- Whatever is drawn, the products of nimbers are distributive, associative and commutative, and are the reference's. -/
import Derived.Test.YtkbbipnocefmiaaQFnNimberFieldx4
import Derived.OpenShut
import Derived.Test.YtkbbipnocefmiaaNim
namespace Go.Proofs.Ytkbbipnocefmiaa.Pure
open Go.RowKit Go.Proofs.Ytkbbipnocefmiaa.QFnNimberField Go.Proofs.YtkbbipnocefmiaaW.PrintWords Go.Proofs.YtkbbipnocefmiaaW.PrintLast
open Go.Proofs.Ytkbbipnocefmiaa.Nim Go.Proofs.YtkbbipnocefmiaaW.PrintMore
set_option linter.unusedVariables false
set_option linter.unusedSimpArgs false
namespace LFnNimberField
theorem spec_isN (a : Int) : spec_grNimber.f a = some (decide (0 ≤ a ∧ a ≤ 65535)) := by
  unfold spec_grNimber.f spec_l1In.f
  by_cases h : 0 ≤ a <;> simp [h]
theorem impl_isN (a : Int) : impl_isNimber.f a = some (decide (0 ≤ a ∧ a ≤ 65535)) := by
  unfold impl_isNimber.f impl_in.f
  by_cases h : 0 ≤ a <;> simp [h]

/-! ### the products of both sides are the plain one -/
/-- Half of the digits of level l, as the program tells it. -/
def hf (l : Nat) : Int := ((2 ^ (l - 1) : Nat) : Int)
theorem hf_next : ∀ l, l ≤ 3 → mx (wrap64 (Int.tdiv (hf (l + 1)) 2)) 1 = hf l := by
  intro l hl
  rcases (by omega : l = 0 ∨ l = 1 ∨ l = 2 ∨ l = 3) with rfl | rfl | rfl | rfl <;> decide +kernel
theorem hf_mask : ∀ l, l ≤ 3 → wrap64 ((shl .i64 1 (hf (l + 1))) - 1) = 2 ^ 2 ^ l - 1 := by
  intro l hl
  rcases (by omega : l = 0 ∨ l = 1 ∨ l = 2 ∨ l = 3) with rfl | rfl | rfl | rfl <;> decide +kernel
theorem hf_top : ∀ l, l ≤ 3 → shl .i64 1 (wrap64 (hf (l + 1) - 1)) = ((2 ^ (2 ^ l - 1) : Nat) : Int) := by
  intro l hl
  rcases (by omega : l = 0 ∨ l = 1 ∨ l = 2 ∨ l = 3) with rfl | rfl | rfl | rfl <;> decide +kernel
theorem hf_pos : ∀ l, l ≤ 3 → 0 ≤ wrap64 (hf (l + 1) - 1) := by
  intro l hl
  rcases (by omega : l = 0 ∨ l = 1 ∨ l = 2 ∨ l = 3) with rfl | rfl | rfl | rfl <;> decide +kernel
theorem hf_succ (l : Nat) : hf (l + 1) = ((2 ^ l : Nat) : Int) := rfl
theorem lv_bd : ∀ l, l ≤ 4 → 2 ^ 2 ^ l ≤ 2 ^ 16 := by
  intro l hl
  exact Nat.pow_le_pow_right (by decide) (Nat.pow_le_pow_right (by decide) hl : 2 ^ l ≤ 2 ^ 4)

theorem impl_nim_eq : ∀ l, l ≤ 4 → ∀ (k a b : Nat), a < 2 ^ 2 ^ l → b < 2 ^ 2 ^ l → 2 * l + 2 ≤ k → impl_nim.f k a b (hf l) = some ((nm l a b : Nat) : Int) := by
  intro l
  induction l with
  | zero =>
    intro _ k a b ha hb hk
    have ha' : a < 2 := ha
    have hb' : b < 2 := hb
    obtain ⟨k, rfl⟩ : ∃ m, k = m + 2 := ⟨k - 2, by omega⟩
    simp only [impl_nim.f]
    rw [if_pos (by omega)]
    simp only [impl_nim.j0, if_true]
    rcases (by omega : a = 0 ∨ a = 1) with rfl | rfl <;> rcases (by omega : b = 0 ∨ b = 1) with rfl | rfl <;> decide +kernel
  | succ l ih =>
    intro hl k a b ha hb hk
    obtain ⟨k, rfl⟩ : ∃ m, k = m + 2 := ⟨k - 2, by omega⟩
    have big4 := lv_bd (l + 1) hl
    have big3 := lv_bd l (by omega)
    by_cases ha2 : a < 2
    · simp only [impl_nim.f]
      rw [if_pos (by omega)]
      simp only [impl_nim.j0, if_true]
      have : nm (l + 1) a b = a * b := by
        rcases (by omega : a = 0 ∨ a = 1) with rfl | rfl
        · rw [nm_zero, Nat.zero_mul]
        · rw [nm_one _ _ hb, Nat.one_mul]
      rw [this]
      have hab : a * b < 2 ^ 17 := by
        rcases (by omega : a = 0 ∨ a = 1) with rfl | rfl <;> omega
      have : wrap64 ((a : Int) * b) = ((a * b : Nat) : Int) := by rw [← Int.natCast_mul]; unfold wrap64; omega
      rw [this]
    · by_cases hb2 : b < 2
      · simp only [impl_nim.f]
        rw [if_neg (by omega)]
        have hd : decide ((b : Int) < 2) = true := decide_eq_true (by omega)
        simp only [impl_nim.j0, hd, if_true]
        have : nm (l + 1) a b = a * b := by
          rcases (by omega : b = 0 ∨ b = 1) with rfl | rfl
          · rw [nm_zero', Nat.mul_zero]
          · rw [nm_one' _ _ ha, Nat.mul_one]
        rw [this]
        have hab : a * b < 2 ^ 17 := by
          rcases (by omega : b = 0 ∨ b = 1) with rfl | rfl <;> omega
        have : wrap64 ((a : Int) * b) = ((a * b : Nat) : Int) := by rw [← Int.natCast_mul]; unfold wrap64; omega
        rw [this]
      · have hl3 : l ≤ 3 := by omega
        have h2l : 2 ^ l ≤ 64 := Nat.le_trans (Nat.pow_le_pow_right (by decide) hl3) (by decide)
        have h2l8 : 2 ^ l ≤ 8 := Nat.le_trans (Nat.pow_le_pow_right (by decide) hl3) (by decide)
        have a62 : a < 2 ^ 62 := by omega
        have b62 : b < 2 ^ 62 := by omega
        have da := div_lt ha
        have db := div_lt hb
        have ma := mod_lt l a
        have mb := mod_lt l b
        have xa := Nat.xor_lt_two_pow da ma
        have xb := Nat.xor_lt_two_pow db mb
        have n1 := nm_lt l _ _ da db
        have n0 := nm_lt l _ _ ma mb
        have nx := nm_lt l _ _ xa xb
        have nh := nm_lt l _ _ n1 (half_lt l)
        have nxx := Nat.xor_lt_two_pow nx n0
        simp only [impl_nim.f]
        rw [if_neg (by omega)]
        have hd : decide ((b : Int) < 2) = false := decide_eq_false (by omega)
        have h0 : (0 : Int) ≤ hf (l + 1) := Int.natCast_nonneg _
        simp only [impl_nim.j0, hd]
        rw [if_neg (by decide), if_pos h0, hf_next l hl3, hf_mask l hl3, hf_succ, shr_nat a _ h2l, shr_nat b _ h2l, mask_nat a _ a62 (by omega), mask_nat b _ b62 (by omega), ← hf_succ,
          xor_nat _ _ (by omega) (by omega), xor_nat _ _ (by omega) (by omega), ih (by omega) _ _ _ da db (by omega)]
        simp only [Option.bind_some]
        rw [ih (by omega) _ _ _ ma mb (by omega)]
        simp only [Option.bind_some]
        rw [ih (by omega) _ _ _ xa xb (by omega)]
        simp only [Option.bind_some]
        rw [if_pos (hf_pos l hl3), hf_top l hl3, ih (by omega) _ _ _ n1 (half_lt l) (by omega)]
        simp only [Option.bind_some]
        have hmul : (nm l (a / 2 ^ 2 ^ l ^^^ a % 2 ^ 2 ^ l) (b / 2 ^ 2 ^ l ^^^ b % 2 ^ 2 ^ l) ^^^ nm l (a % 2 ^ 2 ^ l) (b % 2 ^ 2 ^ l)) * 2 ^ 2 ^ l < 2 ^ 2 ^ (l + 1) := by
          rw [sq_pow]; exact Nat.mul_lt_mul_of_pos_right nxx (Nat.two_pow_pos _)
        rw [xor_nat _ _ (by omega) (by omega), hf_succ, shl_nat _ _ h2l (by omega), xor_nat _ _ (by omega) (by omega),
          xor_nat _ _ (Nat.xor_lt_two_pow (by omega) (by omega)) (by omega)]
        rfl

/-- The level of the reference: 0 at the bottom. -/
def gf (l : Nat) : Int := if l = 0 then 0 else hf l
theorem gf_next : ∀ l, l ≤ 3 → wrap64 (Int.tdiv (hf (l + 1)) 2) = gf l := by
  intro l hl
  rcases (by omega : l = 0 ∨ l = 1 ∨ l = 2 ∨ l = 3) with rfl | rfl | rfl | rfl <;> decide +kernel

theorem spec_times_eq : ∀ l, l ≤ 4 → ∀ (k a b : Nat), a < 2 ^ 2 ^ l → b < 2 ^ 2 ^ l → 2 * l + 2 ≤ k → spec_grTimes.f k a b (gf l) = some ((nm l a b : Nat) : Int) := by
  intro l
  induction l with
  | zero =>
    intro _ k a b ha hb hk
    have ha' : a < 2 := ha
    have hb' : b < 2 := hb
    obtain ⟨k, rfl⟩ : ∃ m, k = m + 2 := ⟨k - 2, by omega⟩
    simp only [spec_grTimes.f, spec_grTimes.j0]
    rcases (by omega : a = 0 ∨ a = 1) with rfl | rfl <;> rcases (by omega : b = 0 ∨ b = 1) with rfl | rfl <;> simp [gf, nm]
  | succ l ih =>
    intro hl k a b ha hb hk
    obtain ⟨k, rfl⟩ : ∃ m, k = m + 2 := ⟨k - 2, by omega⟩
    have big4 := lv_bd (l + 1) hl
    have big3 := lv_bd l (by omega)
    by_cases ha2 : a = 0
    · subst ha2
      simp only [spec_grTimes.f]
      rw [if_pos (by omega), nm_zero]
      simp only [spec_grTimes.j0, if_true]
      rfl
    · by_cases hb2 : b = 0
      · subst hb2
        simp only [spec_grTimes.f]
        rw [if_neg (by omega), nm_zero']
        simp [spec_grTimes.j0]
      · have hl3 : l ≤ 3 := by omega
        have h2l : 2 ^ l ≤ 64 := Nat.le_trans (Nat.pow_le_pow_right (by decide) hl3) (by decide)
        have h2l8 : 2 ^ l ≤ 8 := Nat.le_trans (Nat.pow_le_pow_right (by decide) hl3) (by decide)
        have hg : gf (l + 1) = hf (l + 1) := rfl
        have a62 : a < 2 ^ 62 := by omega
        have b62 : b < 2 ^ 62 := by omega
        have da := div_lt ha
        have db := div_lt hb
        have ma := mod_lt l a
        have mb := mod_lt l b
        have xa := Nat.xor_lt_two_pow da ma
        have xb := Nat.xor_lt_two_pow db mb
        have n1 := nm_lt l _ _ da db
        have n0 := nm_lt l _ _ ma mb
        have nx := nm_lt l _ _ xa xb
        have nh := nm_lt l _ _ n1 (half_lt l)
        have nxx := Nat.xor_lt_two_pow nx n0
        simp only [spec_grTimes.f]
        rw [if_neg (by omega)]
        have hd : ((b : Int) == 0) = false := by simpa using hb2
        have h0 : (0 : Int) ≤ hf (l + 1) := Int.natCast_nonneg _
        have h1 : ¬ hf (l + 1) = 0 := by rw [hf_succ]; have := Nat.two_pow_pos l; omega
        simp only [spec_grTimes.j0, hd, hg]
        rw [if_neg (by decide), if_neg h1, if_pos h0, gf_next l hl3, hf_mask l hl3, hf_succ, shr_nat a _ h2l, shr_nat b _ h2l, mask_nat a _ a62 (by omega), mask_nat b _ b62 (by omega), ← hf_succ,
          xor_nat _ _ (by omega) (by omega), xor_nat _ _ (by omega) (by omega), ih (by omega) _ _ _ ma mb (by omega)]
        simp only [Option.bind_some]
        rw [ih (by omega) _ _ _ da db (by omega)]
        simp only [Option.bind_some]
        rw [ih (by omega) _ _ _ xa xb (by omega)]
        simp only [Option.bind_some]
        rw [if_pos (hf_pos l hl3), hf_top l hl3, ih (by omega) _ _ _ n1 (half_lt l) (by omega)]
        simp only [Option.bind_some]
        have hmul : (nm l (a / 2 ^ 2 ^ l ^^^ a % 2 ^ 2 ^ l) (b / 2 ^ 2 ^ l ^^^ b % 2 ^ 2 ^ l) ^^^ nm l (a % 2 ^ 2 ^ l) (b % 2 ^ 2 ^ l)) * 2 ^ 2 ^ l < 2 ^ 2 ^ (l + 1) := by
          rw [sq_pow]; exact Nat.mul_lt_mul_of_pos_right nxx (Nat.two_pow_pos _)
        rw [xor_nat _ _ (by omega) (by omega), hf_succ, shl_nat _ _ h2l (by omega), xor_nat _ _ (by omega) (by omega),
          xor_nat _ _ (Nat.xor_lt_two_pow (by omega) (by omega)) (by omega)]
        rfl

theorem spec_nim (k a b : Nat) (ha : a < 65536) (hb : b < 65536) (hk : 10 ≤ k) : spec_grNim.f k a b = some ((nm 4 a b : Nat) : Int) := by
  unfold spec_grNim.f
  rw [show (8 : Int) = gf 4 from rfl, spec_times_eq 4 (by omega) k a b ha hb hk]
  rfl
theorem impl_nim (k a b : Nat) (ha : a < 65536) (hb : b < 65536) (hk : 10 ≤ k) : impl_times.f k a b = some ((nm 4 a b : Nat) : Int) := by
  unfold impl_times.f
  rw [show (8 : Int) = hf 4 from rfl, impl_nim_eq 4 (by omega) k a b ha hb hk]
  rfl
theorem nm4_lt {a b : Nat} (ha : a < 65536) (hb : b < 65536) : nm 4 a b < 65536 := nm_lt 4 a b ha hb

/-! ### what is drawn -/
theorem u8_bd {x : Int} (h : (Lit.int .u8 x).wf = true) : 0 ≤ x ∧ x ≤ 255 := bounds_u8 h
theorem and255 (x : Int) : 0 ≤ bits .and .u64 x 255 ∧ bits .and .u64 x 255 ≤ 255 := by
  have e : bits .and .u64 x 255 = IntKind.u64.wrap ((BitVec.ofInt 64 x &&& BitVec.ofInt 64 255).toNat : Int) := rfl
  have h : (BitVec.ofInt 64 x &&& BitVec.ofInt 64 255).toNat ≤ 255 := by
    rw [BitVec.toNat_and]
    exact Nat.and_le_right
  rw [e, IntKind.wrap_u64]
  omega
theorem w64 (x : Int) (h0 : 0 ≤ x) (h1 : x < 2 ^ 62) : wrap64 x = x := by unfold wrap64; omega
theorem rd_bd (l : List Int) (hl : ∀ x ∈ l, (Lit.int .u8 x).wf = true) (i : Int) (h0 : 0 ≤ i) (h1 : i < (l.length : Int)) : 0 ≤ rd l i ∧ rd l i ≤ 255 := by
  obtain ⟨n, rfl⟩ := Int.eq_ofNat_of_zero_le h0
  have hn : n < l.length := by omega
  have e : rd l (n : Int) = l[n] := by
    unfold rd
    simp [hn]
  rw [e]
  exact u8_bd (hl _ (List.getElem_mem hn))
theorem next_ok (l : List Int) (hl : ∀ x ∈ l, (Lit.int .u8 x).wf = true) (p s : Int) (h0 : 0 ≤ p) (h1 : p < 1000) : ∃ b s', spec_l1Cur_next.f l p s = some (b, p + 1, s') ∧ 0 ≤ b ∧ b ≤ 255 := by
  have hp : wrap64 (p + 1) = p + 1 := w64 _ (by omega) (by omega)
  unfold spec_l1Cur_next.f
  rw [hp]
  by_cases c : p < (l.length : Int)
  · have hb := rd_bd l hl p h0 c
    rw [if_pos c, if_pos h0, if_pos (by omega), w64 (rd l p) (by omega) (by omega)]
    exact ⟨_, _, rfl, hb⟩
  · rw [if_neg c, if_neg (by omega)]
    refine ⟨_, _, rfl, ?_⟩
    have q := and255 ((IntKind.u64.wrap ((IntKind.u64.wrap ((IntKind.u64.wrap (s * 6364136223846793005)) + 0)) + 1442695040888963407)) / 1099511627776)
    rw [w64 _ q.1 (by omega)]
    exact q
theorem pick_ok (l : List Int) (hl : ∀ x ∈ l, (Lit.int .u8 x).wf = true) (p s n : Int) (h0 : 0 ≤ p) (h1 : p < 900) (hn : 1 ≤ n) : ∃ b p' s', spec_l1Cur_pick.f l p s n = some (b, p', s') ∧ 0 ≤ b ∧ b < n ∧ p ≤ p' ∧ p' ≤ p + 2 := by
  unfold spec_l1Cur_pick.f
  by_cases c : n ≤ 1
  · rw [if_pos c]
    exact ⟨_, _, _, rfl, by omega, by omega, by omega, by omega⟩
  · rw [if_neg c]
    obtain ⟨b, s1, e1, b0, b1⟩ := next_ok l hl p s h0 (by omega)
    rw [e1]
    simp only [Option.bind_some]
    have hz : ¬ n = 0 := by omega
    by_cases g : n > 200
    · obtain ⟨b', s2, e2, d0, d1⟩ := next_ok l hl (p + 1) s1 (by omega) (by omega)
      rw [if_pos g, e2]
      simp only [Option.bind_some, if_neg hz]
      have q1 : wrap64 (b * 256) = b * 256 := w64 _ (by omega) (by omega)
      have q2 : wrap64 (b * 256 + b') = b * 256 + b' := w64 _ (by omega) (by omega)
      rw [q1, q2]
      refine ⟨_, _, _, rfl, Int.tmod_nonneg _ (by omega), Int.tmod_lt_of_pos _ (by omega), by omega, by omega⟩
    · rw [if_neg g, if_neg hz]
      exact ⟨_, _, _, rfl, Int.tmod_nonneg _ (by omega), Int.tmod_lt_of_pos _ (by omega), by omega, by omega⟩
theorem among_ok (l : List Int) (hl : ∀ x ∈ l, (Lit.int .u8 x).wf = true) (p s : Int) (m : List Int) (h0 : 0 ≤ p) (h1 : p < 900) (hm : 1 ≤ m.length) : ∃ b p' s', spec_l1Cur_among.f l p s m = some (b, p', s') ∧ p ≤ p' ∧ p' ≤ p + 2 := by
  unfold spec_l1Cur_among.f
  obtain ⟨b, p', s', e, b0, b1, q⟩ := pick_ok l hl p s (m.length : Int) h0 h1 (by omega)
  rw [e]
  simp only [Option.bind_some, if_pos b0, if_pos b1]
  exact ⟨_, _, _, rfl, q⟩
theorem nimber_ok (l : List Int) (hl : ∀ x ∈ l, (Lit.int .u8 x).wf = true) (p s : Int) (h0 : 0 ≤ p) (h1 : p < 800) : ∃ b p' s', spec_l1Cur_nimber.f l p s = some (b, p', s') ∧ p ≤ p' ∧ p' ≤ p + 4 := by
  unfold spec_l1Cur_nimber.f
  obtain ⟨b, p1, s1, e, b0, b1, q1, q2⟩ := pick_ok l hl p s 6 h0 (by omega) (by omega)
  rw [e]
  simp only [Option.bind_some]
  by_cases c : b = 0
  · obtain ⟨x, p2, s2, e2, r1, r2⟩ := among_ok l hl p1 s1 ([(-1), 0, 1, 65535, 65536] : List Int) (by omega) (by omega) (by decide)
    rw [if_pos c, e2]
    exact ⟨x, p2, s2, rfl, by omega, by omega⟩
  · rw [if_neg c]
    by_cases c1 : b = 1
    · obtain ⟨x, p2, s2, e2, _, _, r1, r2⟩ := pick_ok l hl p1 s1 65536 (by omega) (by omega) (by decide)
      rw [if_pos c1, e2]
      exact ⟨x, p2, s2, rfl, by omega, by omega⟩
    · obtain ⟨x, p2, s2, e2, _, _, r1, r2⟩ := pick_ok l hl p1 s1 40 (by omega) (by omega) (by decide)
      rw [if_neg c1, e2]
      exact ⟨x, p2, s2, rfl, by omega, by omega⟩

theorem draw_ok (l : List Int) (hl : ∀ x ∈ l, (Lit.int .u8 x).wf = true) : ∃ a b, spec_DrawNimProduct.f l = some (a, b) := by
  obtain ⟨a, p, s, e, q1, q2⟩ := nimber_ok l hl 0 0 (by decide) (by decide)
  obtain ⟨b, p', s', e', _⟩ := nimber_ok l hl p s q1 (by omega)
  refine ⟨a, b, ?_⟩
  unfold spec_DrawNimProduct.f
  simp only [e, e', Option.bind_some]
theorem prod_i (a b : Int) : impl_NimProduct.f 20 a b = some (if (0 ≤ a ∧ a ≤ 65535) ∧ (0 ≤ b ∧ b ≤ 65535) then (((nm 4 a.toNat b.toNat : Nat) : Int), true) else (0, false)) := by
  unfold impl_NimProduct.f
  simp only [impl_isN, Option.bind_some]
  by_cases ha : 0 ≤ a ∧ a ≤ 65535
  · by_cases hb : 0 ≤ b ∧ b ≤ 65535
    · obtain ⟨a, rfl⟩ := Int.eq_ofNat_of_zero_le ha.1
      obtain ⟨b, rfl⟩ := Int.eq_ofNat_of_zero_le hb.1
      simp only [ha, hb, decide_true, and_self, if_true]
      rw [impl_nim 20 a b (by omega) (by omega) (by omega)]
      simp
    · simp [ha, hb]
  · simp [ha]
theorem prod_s (a b : Int) : spec_NimProduct.f 20 a b = some (if (0 ≤ a ∧ a ≤ 65535) ∧ (0 ≤ b ∧ b ≤ 65535) then (((nm 4 a.toNat b.toNat : Nat) : Int), true) else (0, false)) := by
  unfold spec_NimProduct.f
  simp only [spec_isN, Option.bind_some]
  by_cases ha : 0 ≤ a ∧ a ≤ 65535
  · by_cases hb : 0 ≤ b ∧ b ≤ 65535
    · obtain ⟨a, rfl⟩ := Int.eq_ofNat_of_zero_le ha.1
      obtain ⟨b, rfl⟩ := Int.eq_ofNat_of_zero_le hb.1
      simp only [ha, hb, decide_true, and_self, if_true]
      rw [spec_nim 20 a b (by omega) (by omega) (by omega)]
      simp
    · simp [ha, hb]
  · simp [ha]
/-- Rounds enough for all that is met. -/
theorem prod_n (a b : Nat) (ha : a < 65536) (hb : b < 65536) (k : Nat) (hk : 10 ≤ k) : impl_NimProduct.f k a b = some (((nm 4 a b : Nat) : Int), true) := by
  unfold impl_NimProduct.f
  have h1 : 0 ≤ (a : Int) ∧ (a : Int) ≤ 65535 := by omega
  have h2 : 0 ≤ (b : Int) ∧ (b : Int) ≤ 65535 := by omega
  simp only [impl_isN, Option.bind_some, h1, h2, decide_true, and_self, if_true]
  rw [impl_nim k a b ha hb hk]
  rfl
theorem sum_n (a b : Nat) (ha : a < 65536) (hb : b < 65536) (k : Nat) (hk : 3 ≤ k) : impl_NimSum.f k [(a : Int), (b : Int)] = some (((a ^^^ b : Nat) : Int), true) := by
  obtain ⟨k, rfl⟩ : ∃ m, k = m + 3 := ⟨k - 3, by omega⟩
  have h1 : 0 ≤ (a : Int) ∧ (a : Int) ≤ 65535 := by omega
  have h2 : 0 ≤ (b : Int) ∧ (b : Int) ≤ 65535 := by omega
  have r0 : rd [(a : Int), (b : Int)] 0 = (a : Int) := rfl
  have r1 : rd [(a : Int), (b : Int)] 1 = (b : Int) := rfl
  have w1 : wrap64 (0 + 1) = 1 := by decide +kernel
  have w2 : wrap64 (1 + 1) = 2 := by decide +kernel
  have x1 : bits .xor .i64 0 (a : Int) = (a : Int) := by
    have := xor_nat 0 a (by decide) (by omega)
    rw [Nat.zero_xor] at this
    exact this
  have x2 := xor_nat a b (by omega) (by omega)
  have c0 : (0 : Int) < (([(a : Int), (b : Int)] : List Int).length : Int) := by show (0 : Int) < 2; decide
  have c1 : (1 : Int) < (([(a : Int), (b : Int)] : List Int).length : Int) := by show (1 : Int) < 2; decide
  have c2 : ¬ (2 : Int) < (([(a : Int), (b : Int)] : List Int).length : Int) := by show ¬ (2 : Int) < 2; decide
  unfold impl_NimSum.f
  have d0 : ((0 : Int) ≤ 0) := by decide
  have d1 : ((0 : Int) ≤ 1) := by decide
  have e0 : ¬ ((0 : Int) = 40) := by decide
  have e1 : ¬ ((1 : Int) = 40) := by decide
  simp only [impl_NimSum.l0, if_pos c0, if_pos c1, if_neg c2, if_pos d0, if_pos d1, if_neg e0, if_neg e1, r0, r1, w1, w2, x1, x2, impl_isN, Option.bind_some, h1, h2, decide_true, and_self, if_true]
theorem proved : laws_FnNimberField.Pure := by
  intro l m hl _ hlw hm _ hmw
  refine ⟨20, ?_⟩
  unfold laws_FnNimberField.f
  have big : laws_big.f l m = some (decide ((l.length : Int) > 1048576) || decide ((m.length : Int) > wrap64 (1048576 - (l.length : Int)))) := by
    unfold laws_big.f
    by_cases h : (l.length : Int) > 1048576 <;> simp [h]
  rw [big]
  simp only [Option.bind_some]
  cases (decide ((l.length : Int) > 1048576) || decide ((m.length : Int) > wrap64 (1048576 - (l.length : Int)))) with
  | true => rfl
  | false =>
    obtain ⟨a, b, e1⟩ := draw_ok l hlw
    obtain ⟨c, d, e2⟩ := draw_ok m hmw
    simp only [e1, e2, Option.bind_some, Bool.false_eq_true, if_false, prod_i, prod_s]
    by_cases hab : (0 ≤ a ∧ a ≤ 65535) ∧ (0 ≤ b ∧ b ≤ 65535)
    · simp only [if_pos hab, bne_self_eq_false, Bool.false_eq_true, if_false]
      obtain ⟨a, rfl⟩ := Int.eq_ofNat_of_zero_le hab.1.1
      obtain ⟨b, rfl⟩ := Int.eq_ofNat_of_zero_le hab.2.1
      have ha : a < 65536 := by omega
      have hb : b < 65536 := by omega
      have hab4 := nm4_lt ha hb
      show laws_FnNimberField.j0 (19 + 1) _ _ _ _ _ _ = _
      simp only [laws_FnNimberField.j0, Bool.false_eq_true, if_false, Int.toNat_natCast]
      by_cases hc : 0 ≤ c ∧ c ≤ 65535
      · obtain ⟨c, rfl⟩ := Int.eq_ofNat_of_zero_le hc.1
        have hc4 : c < 65536 := by omega
        have hbc4 := nm4_lt hb hc4
        have hac4 := nm4_lt ha hc4
        rw [prod_n b c hb hc4 19 (by omega)]
        simp only [Option.bind_some, if_true, Bool.not_true]
        show laws_FnNimberField.j1 (18 + 1) _ _ _ _ _ _ = _
        simp only [laws_FnNimberField.j1, Bool.false_eq_true, if_false]
        rw [prod_n b a hb ha 18 (by omega)]
        simp only [Option.bind_some]
        rw [prod_n _ c hab4 hc4 18 (by omega)]
        simp only [Option.bind_some]
        rw [prod_n a _ ha hbc4 18 (by omega)]
        simp only [Option.bind_some]
        rw [sum_n b c hb hc4 18 (by omega)]
        simp only [Option.bind_some]
        rw [prod_n a _ ha (Nat.xor_lt_two_pow (n := 16) hb hc4) 18 (by omega)]
        simp only [Option.bind_some]
        rw [prod_n a c ha hc4 18 (by omega)]
        simp only [Option.bind_some]
        rw [sum_n _ _ hab4 hac4 18 (by omega)]
        simp only [Option.bind_some, if_true]
        rw [if_pos (by rw [nm_comm 4 b a]), if_pos (by rw [nm_assoc]), nm_xor_right, beq_self_eq_true]
      · have e : ∃ x, impl_NimProduct.f 19 (b : Int) c = some (x, false) := by
          refine ⟨0, ?_⟩
          unfold impl_NimProduct.f
          simp [impl_isN, hc]
        obtain ⟨x, e⟩ := e
        rw [e]
        simp only [Option.bind_some, if_true, Bool.not_false]
        rfl
    · simp only [if_neg hab, bne_self_eq_false, Bool.false_eq_true, if_false]
      show laws_FnNimberField.j0 (19 + 1) _ _ _ _ _ _ = _
      simp only [laws_FnNimberField.j0, Bool.false_eq_true, if_false]
      obtain ⟨r, e⟩ : ∃ r, impl_NimProduct.f 19 b c = some r := by
        have := prod_i b c
        by_cases hbc : (0 ≤ b ∧ b ≤ 65535) ∧ (0 ≤ c ∧ c ≤ 65535)
        · obtain ⟨b, rfl⟩ := Int.eq_ofNat_of_zero_le hbc.1.1
          obtain ⟨c, rfl⟩ := Int.eq_ofNat_of_zero_le hbc.2.1
          exact ⟨_, prod_n b c (by omega) (by omega) 19 (by omega)⟩
        · refine ⟨(0, false), ?_⟩
          unfold impl_NimProduct.f
          simp only [impl_isN, Option.bind_some]
          by_cases h1 : 0 ≤ b ∧ b ≤ 65535
          · have h2 : ¬ (0 ≤ c ∧ c ≤ 65535) := fun h2 => hbc ⟨h1, h2⟩
            simp [h1, h2]
          · simp [h1]
      rw [e]
      simp only [Option.bind_some]
      rfl

end LFnNimberField
theorem FnNimberField : laws_FnNimberField.Pure := LFnNimberField.proved
end Go.Proofs.Ytkbbipnocefmiaa.Pure
