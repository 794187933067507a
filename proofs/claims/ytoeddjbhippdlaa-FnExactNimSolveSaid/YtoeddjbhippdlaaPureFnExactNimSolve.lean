/- For any two whole numbers, the solutions that the program tells are the reference's, in new memory. -/
import Derived.Test.YtoeddjbhippdlaaQFnExactNimSolvex4
import Derived.Test.YtoeddjbhippdlaaField
import Derived.Test.YtoeddjbhippdlaaNim
import Derived.Test.YtoeddjbhippdlaaSolve
namespace Go.Proofs.Ytoeddjbhippdlaa.Pure
open Go.RowKit Go.Proofs.Ytoeddjbhippdlaa.QFnExactNimSolve Go.Proofs.YtoeddjbhippdlaaW.PrintWords Go.Proofs.YtoeddjbhippdlaaW.PrintLast
open Go.Proofs.Ytoeddjbhippdlaa.Field
open Go.Proofs.Ytoeddjbhippdlaa.Field Go.Proofs.Ytoeddjbhippdlaa.Half Go.Proofs.Ytoeddjbhippdlaa.Solve
open Go.Proofs.Ytoeddjbhippdlaa.Nim Go.Proofs.YtoeddjbhippdlaaW.PrintMore
set_option linter.unusedVariables false
set_option linter.unusedSimpArgs false
namespace LFnExactNimSolve
/-! ### small words -/
theorem wsucc (i : Nat) (h : i < 2 ^ 62) : wrap64 ((i : Int) + 1) = ((i + 1 : Nat) : Int) := by unfold wrap64; omega
theorem drop_rd {l : List Int} {i : Nat} (h : i < l.length) : l.drop i = rd l (i : Int) :: l.drop (i + 1) := by
  rw [List.drop_eq_getElem_cons h]
  simp [rd, List.getD_eq_getElem?_getD, List.getElem?_eq_getElem h]

/-! ### marks in a list of numbers, and marks that are held -/
theorem markIntS_l : ∀ (d i m : Nat) (xs : List Int), i + d = xs.length → m + d < 2 ^ 61 → xs.length < 2 ^ 61 →
    ∃ ys : List Int, Ev (fun k => laws_markIntS.l0 k xs (m : Int) (i : Int)) (((m + d : Nat) : Int), ys) ∧ ys.length = xs.length ∧ (∀ j, j < i → ys[j]? = xs[j]?) ∧
      Ev (fun k => laws_heldIntS.l0 k ys (m : Int) (i : Int)) ((m + d : Nat) : Int) := by
  intro d
  induction d with
  | zero =>
    intro i m xs hi hm hx
    refine ⟨xs, Ev.step (fun k => ?_) (Ev.now _), rfl, fun _ _ => rfl, Ev.step (fun k => ?_) (Ev.now _)⟩
    · simp only [laws_markIntS.l0]
      rw [if_neg (by omega)]
      rfl
    · simp only [laws_heldIntS.l0]
      rw [if_neg (by omega)]
      rfl
  | succ d ih =>
    intro i m xs hi hm hx
    obtain ⟨ys, h1, h2, h3, h4⟩ := ih (i + 1) (m + 1) (xs.set i (m : Int)) (by rw [List.length_set]; omega) (by omega) (by rw [List.length_set]; omega)
    rw [List.length_set] at h2
    have e : m + 1 + d = m + (d + 1) := by omega
    rw [e] at h1 h4
    have g1 : (i : Int) < (xs.length : Int) := by omega
    have g1' : (i : Int) < (ys.length : Int) := by omega
    have g2 : (0 : Int) ≤ (i : Int) := Int.natCast_nonneg _
    have g3 : rd ys (i : Int) = (m : Int) := by
      have := h3 i (by omega)
      rw [List.getElem?_set_self (by omega)] at this
      simp [rd, List.getD_eq_getElem?_getD, this]
    refine ⟨ys, Ev.step (fun k => ?_) h1, h2, fun j hj => ?_, Ev.step (fun k => ?_) h4⟩
    · simp only [laws_markIntS.l0, if_pos g1, if_pos g2]
      rw [wsucc i (by omega), wsucc m (by omega), Int.toNat_natCast]
    · have := h3 j (by omega)
      rwa [List.getElem?_set_ne (by omega)] at this
    · simp only [laws_heldIntS.l0, if_pos g1', if_pos g2, g3, if_true]
      rw [wsucc i (by omega), wsucc m (by omega)]
theorem markIntS_ev (xs : List Int) (m : Nat) (h : xs.length + m < 2 ^ 60) : ∃ ys : List Int, Ev (fun k => laws_markIntS.f k xs (m : Int)) (((m + xs.length : Nat) : Int), ys) ∧ ys.length = xs.length ∧
    Ev (fun k => laws_heldIntS.f k ys (m : Int)) ((m + xs.length : Nat) : Int) := by
  obtain ⟨ys, h1, h2, _, h4⟩ := markIntS_l xs.length 0 m xs (by omega) (by omega) (by omega)
  exact ⟨ys, h1, h2, h4⟩

/-! ### a list of numbers equals itself -/
theorem eqIntS_l (x : List Int) (hx : x.length ≤ 2 ^ 60) : ∀ (d k i : Nat), i + d = x.length → d < k → laws_eqIntS.l0 k x x i = some true := by
  intro d
  induction d with
  | zero =>
    intro k i hi hk
    obtain ⟨k, rfl⟩ : ∃ m, k = m + 1 := ⟨k - 1, by omega⟩
    simp only [laws_eqIntS.l0]
    rw [if_neg (by omega)]
  | succ d ih =>
    intro k i hi hk
    obtain ⟨k, rfl⟩ : ∃ m, k = m + 1 := ⟨k - 1, by omega⟩
    have h1 : (i : Int) < (x.length : Int) := by omega
    have h2 : (0 : Int) ≤ (i : Int) := Int.natCast_nonneg _
    simp only [laws_eqIntS.l0, if_pos h1, if_pos h2, if_true]
    rw [wsucc i (by omega)]
    exact ih k (i + 1) (by omega) (by omega)
theorem eqIntS (x : List Int) (hx : x.length ≤ 17592186044416) (k : Nat) (hk : x.length < k) : laws_eqIntS.f k x x = some true := by
  unfold laws_eqIntS.f
  rw [if_pos rfl]
  exact eqIntS_l x (by omega) x.length k 0 (by omega) hk

theorem spec_isN (a : Int) : spec_grNimber.f a = some (decide (0 ≤ a ∧ a ≤ 65535)) := by
  unfold spec_grNimber.f spec_l1In.f
  by_cases h : 0 ≤ a <;> simp [h]
theorem impl_isN (a : Int) : impl_isNimber.f a = some (decide (0 ≤ a ∧ a ≤ 65535)) := by
  unfold impl_isNimber.f impl_in.f
  by_cases h : 0 ≤ a <;> simp [h]

/-! ### the products of both sides are the plain one -/
/-- Half of the digits of level l, as the program tells it. -/
def hf (l : Nat) : Int := ((2 ^ (l - 1) : Nat) : Int)
theorem hf_next : ∀ l, l ≤ 3 → mx (wrap64 (Int.tdiv (hf (l + 1)) 2)) 1 = hf l := by
  intro l hl
  rcases (by omega : l = 0 ∨ l = 1 ∨ l = 2 ∨ l = 3) with rfl | rfl | rfl | rfl <;> decide +kernel
theorem hf_mask : ∀ l, l ≤ 3 → wrap64 ((shl .i64 1 (hf (l + 1))) - 1) = 2 ^ 2 ^ l - 1 := by
  intro l hl
  rcases (by omega : l = 0 ∨ l = 1 ∨ l = 2 ∨ l = 3) with rfl | rfl | rfl | rfl <;> decide +kernel
theorem hf_top : ∀ l, l ≤ 3 → shl .i64 1 (wrap64 (hf (l + 1) - 1)) = ((2 ^ (2 ^ l - 1) : Nat) : Int) := by
  intro l hl
  rcases (by omega : l = 0 ∨ l = 1 ∨ l = 2 ∨ l = 3) with rfl | rfl | rfl | rfl <;> decide +kernel
theorem hf_pos : ∀ l, l ≤ 3 → 0 ≤ wrap64 (hf (l + 1) - 1) := by
  intro l hl
  rcases (by omega : l = 0 ∨ l = 1 ∨ l = 2 ∨ l = 3) with rfl | rfl | rfl | rfl <;> decide +kernel
theorem hf_succ (l : Nat) : hf (l + 1) = ((2 ^ l : Nat) : Int) := rfl
theorem lv_bd : ∀ l, l ≤ 4 → 2 ^ 2 ^ l ≤ 2 ^ 16 := by
  intro l hl
  exact Nat.pow_le_pow_right (by decide) (Nat.pow_le_pow_right (by decide) hl : 2 ^ l ≤ 2 ^ 4)

theorem impl_nim_eq : ∀ l, l ≤ 4 → ∀ (k a b : Nat), a < 2 ^ 2 ^ l → b < 2 ^ 2 ^ l → 2 * l + 2 ≤ k → impl_nim.f k a b (hf l) = some ((nm l a b : Nat) : Int) := by
  intro l
  induction l with
  | zero =>
    intro _ k a b ha hb hk
    have ha' : a < 2 := ha
    have hb' : b < 2 := hb
    obtain ⟨k, rfl⟩ : ∃ m, k = m + 2 := ⟨k - 2, by omega⟩
    simp only [impl_nim.f]
    rw [if_pos (by omega)]
    simp only [impl_nim.j0, if_true]
    rcases (by omega : a = 0 ∨ a = 1) with rfl | rfl <;> rcases (by omega : b = 0 ∨ b = 1) with rfl | rfl <;> decide +kernel
  | succ l ih =>
    intro hl k a b ha hb hk
    obtain ⟨k, rfl⟩ : ∃ m, k = m + 2 := ⟨k - 2, by omega⟩
    have big4 := lv_bd (l + 1) hl
    have big3 := lv_bd l (by omega)
    by_cases ha2 : a < 2
    · simp only [impl_nim.f]
      rw [if_pos (by omega)]
      simp only [impl_nim.j0, if_true]
      have : nm (l + 1) a b = a * b := by
        rcases (by omega : a = 0 ∨ a = 1) with rfl | rfl
        · rw [nm_zero, Nat.zero_mul]
        · rw [nm_one _ _ hb, Nat.one_mul]
      rw [this]
      have hab : a * b < 2 ^ 17 := by
        rcases (by omega : a = 0 ∨ a = 1) with rfl | rfl <;> omega
      have : wrap64 ((a : Int) * b) = ((a * b : Nat) : Int) := by rw [← Int.natCast_mul]; unfold wrap64; omega
      rw [this]
    · by_cases hb2 : b < 2
      · simp only [impl_nim.f]
        rw [if_neg (by omega)]
        have hd : decide ((b : Int) < 2) = true := decide_eq_true (by omega)
        simp only [impl_nim.j0, hd, if_true]
        have : nm (l + 1) a b = a * b := by
          rcases (by omega : b = 0 ∨ b = 1) with rfl | rfl
          · rw [nm_zero', Nat.mul_zero]
          · rw [nm_one' _ _ ha, Nat.mul_one]
        rw [this]
        have hab : a * b < 2 ^ 17 := by
          rcases (by omega : b = 0 ∨ b = 1) with rfl | rfl <;> omega
        have : wrap64 ((a : Int) * b) = ((a * b : Nat) : Int) := by rw [← Int.natCast_mul]; unfold wrap64; omega
        rw [this]
      · have hl3 : l ≤ 3 := by omega
        have h2l : 2 ^ l ≤ 64 := Nat.le_trans (Nat.pow_le_pow_right (by decide) hl3) (by decide)
        have h2l8 : 2 ^ l ≤ 8 := Nat.le_trans (Nat.pow_le_pow_right (by decide) hl3) (by decide)
        have a62 : a < 2 ^ 62 := by omega
        have b62 : b < 2 ^ 62 := by omega
        have da := div_lt ha
        have db := div_lt hb
        have ma := mod_lt l a
        have mb := mod_lt l b
        have xa := Nat.xor_lt_two_pow da ma
        have xb := Nat.xor_lt_two_pow db mb
        have n1 := nm_lt l _ _ da db
        have n0 := nm_lt l _ _ ma mb
        have nx := nm_lt l _ _ xa xb
        have nh := nm_lt l _ _ n1 (half_lt l)
        have nxx := Nat.xor_lt_two_pow nx n0
        simp only [impl_nim.f]
        rw [if_neg (by omega)]
        have hd : decide ((b : Int) < 2) = false := decide_eq_false (by omega)
        have h0 : (0 : Int) ≤ hf (l + 1) := Int.natCast_nonneg _
        simp only [impl_nim.j0, hd]
        rw [if_neg (by decide), if_pos h0, hf_next l hl3, hf_mask l hl3, hf_succ, shr_nat a _ h2l, shr_nat b _ h2l, mask_nat a _ a62 (by omega), mask_nat b _ b62 (by omega), ← hf_succ,
          xor_nat _ _ (by omega) (by omega), xor_nat _ _ (by omega) (by omega), ih (by omega) _ _ _ da db (by omega)]
        simp only [Option.bind_some]
        rw [ih (by omega) _ _ _ ma mb (by omega)]
        simp only [Option.bind_some]
        rw [ih (by omega) _ _ _ xa xb (by omega)]
        simp only [Option.bind_some]
        rw [if_pos (hf_pos l hl3), hf_top l hl3, ih (by omega) _ _ _ n1 (half_lt l) (by omega)]
        simp only [Option.bind_some]
        have hmul : (nm l (a / 2 ^ 2 ^ l ^^^ a % 2 ^ 2 ^ l) (b / 2 ^ 2 ^ l ^^^ b % 2 ^ 2 ^ l) ^^^ nm l (a % 2 ^ 2 ^ l) (b % 2 ^ 2 ^ l)) * 2 ^ 2 ^ l < 2 ^ 2 ^ (l + 1) := by
          rw [sq_pow]; exact Nat.mul_lt_mul_of_pos_right nxx (Nat.two_pow_pos _)
        rw [xor_nat _ _ (by omega) (by omega), hf_succ, shl_nat _ _ h2l (by omega), xor_nat _ _ (by omega) (by omega),
          xor_nat _ _ (Nat.xor_lt_two_pow (by omega) (by omega)) (by omega)]
        rfl

/-- The level of the reference: 0 at the bottom. -/
def gf (l : Nat) : Int := if l = 0 then 0 else hf l
theorem gf_next : ∀ l, l ≤ 3 → wrap64 (Int.tdiv (hf (l + 1)) 2) = gf l := by
  intro l hl
  rcases (by omega : l = 0 ∨ l = 1 ∨ l = 2 ∨ l = 3) with rfl | rfl | rfl | rfl <;> decide +kernel

theorem spec_times_eq : ∀ l, l ≤ 4 → ∀ (k a b : Nat), a < 2 ^ 2 ^ l → b < 2 ^ 2 ^ l → 2 * l + 2 ≤ k → spec_grTimes.f k a b (gf l) = some ((nm l a b : Nat) : Int) := by
  intro l
  induction l with
  | zero =>
    intro _ k a b ha hb hk
    have ha' : a < 2 := ha
    have hb' : b < 2 := hb
    obtain ⟨k, rfl⟩ : ∃ m, k = m + 2 := ⟨k - 2, by omega⟩
    simp only [spec_grTimes.f, spec_grTimes.j0]
    rcases (by omega : a = 0 ∨ a = 1) with rfl | rfl <;> rcases (by omega : b = 0 ∨ b = 1) with rfl | rfl <;> simp [gf, nm]
  | succ l ih =>
    intro hl k a b ha hb hk
    obtain ⟨k, rfl⟩ : ∃ m, k = m + 2 := ⟨k - 2, by omega⟩
    have big4 := lv_bd (l + 1) hl
    have big3 := lv_bd l (by omega)
    by_cases ha2 : a = 0
    · subst ha2
      simp only [spec_grTimes.f]
      rw [if_pos (by omega), nm_zero]
      simp only [spec_grTimes.j0, if_true]
      rfl
    · by_cases hb2 : b = 0
      · subst hb2
        simp only [spec_grTimes.f]
        rw [if_neg (by omega), nm_zero']
        simp [spec_grTimes.j0]
      · have hl3 : l ≤ 3 := by omega
        have h2l : 2 ^ l ≤ 64 := Nat.le_trans (Nat.pow_le_pow_right (by decide) hl3) (by decide)
        have h2l8 : 2 ^ l ≤ 8 := Nat.le_trans (Nat.pow_le_pow_right (by decide) hl3) (by decide)
        have hg : gf (l + 1) = hf (l + 1) := rfl
        have a62 : a < 2 ^ 62 := by omega
        have b62 : b < 2 ^ 62 := by omega
        have da := div_lt ha
        have db := div_lt hb
        have ma := mod_lt l a
        have mb := mod_lt l b
        have xa := Nat.xor_lt_two_pow da ma
        have xb := Nat.xor_lt_two_pow db mb
        have n1 := nm_lt l _ _ da db
        have n0 := nm_lt l _ _ ma mb
        have nx := nm_lt l _ _ xa xb
        have nh := nm_lt l _ _ n1 (half_lt l)
        have nxx := Nat.xor_lt_two_pow nx n0
        simp only [spec_grTimes.f]
        rw [if_neg (by omega)]
        have hd : ((b : Int) == 0) = false := by simpa using hb2
        have h0 : (0 : Int) ≤ hf (l + 1) := Int.natCast_nonneg _
        have h1 : ¬ hf (l + 1) = 0 := by rw [hf_succ]; have := Nat.two_pow_pos l; omega
        simp only [spec_grTimes.j0, hd, hg]
        rw [if_neg (by decide), if_neg h1, if_pos h0, gf_next l hl3, hf_mask l hl3, hf_succ, shr_nat a _ h2l, shr_nat b _ h2l, mask_nat a _ a62 (by omega), mask_nat b _ b62 (by omega), ← hf_succ,
          xor_nat _ _ (by omega) (by omega), xor_nat _ _ (by omega) (by omega), ih (by omega) _ _ _ ma mb (by omega)]
        simp only [Option.bind_some]
        rw [ih (by omega) _ _ _ da db (by omega)]
        simp only [Option.bind_some]
        rw [ih (by omega) _ _ _ xa xb (by omega)]
        simp only [Option.bind_some]
        rw [if_pos (hf_pos l hl3), hf_top l hl3, ih (by omega) _ _ _ n1 (half_lt l) (by omega)]
        simp only [Option.bind_some]
        have hmul : (nm l (a / 2 ^ 2 ^ l ^^^ a % 2 ^ 2 ^ l) (b / 2 ^ 2 ^ l ^^^ b % 2 ^ 2 ^ l) ^^^ nm l (a % 2 ^ 2 ^ l) (b % 2 ^ 2 ^ l)) * 2 ^ 2 ^ l < 2 ^ 2 ^ (l + 1) := by
          rw [sq_pow]; exact Nat.mul_lt_mul_of_pos_right nxx (Nat.two_pow_pos _)
        rw [xor_nat _ _ (by omega) (by omega), hf_succ, shl_nat _ _ h2l (by omega), xor_nat _ _ (by omega) (by omega),
          xor_nat _ _ (Nat.xor_lt_two_pow (by omega) (by omega)) (by omega)]
        rfl

theorem spec_nim (k a b : Nat) (ha : a < 65536) (hb : b < 65536) (hk : 10 ≤ k) : spec_grNim.f k a b = some ((nm 4 a b : Nat) : Int) := by
  unfold spec_grNim.f
  rw [show (8 : Int) = gf 4 from rfl, spec_times_eq 4 (by omega) k a b ha hb hk]
  rfl
theorem impl_nim (k a b : Nat) (ha : a < 65536) (hb : b < 65536) (hk : 10 ≤ k) : impl_times.f k a b = some ((nm 4 a b : Nat) : Int) := by
  unfold impl_times.f
  rw [show (8 : Int) = hf 4 from rfl, impl_nim_eq 4 (by omega) k a b ha hb hk]
  rfl
theorem nm4_lt {a b : Nat} (ha : a < 65536) (hb : b < 65536) : nm 4 a b < 65536 := nm_lt 4 a b ha hb

/-! ### powers -/
/-- A power by squares: base, exponent, what is made so far. -/
def pw : Nat → Nat → Nat → Nat → Nat
  | 0, _, _, o => o
  | n + 1, a, e, o => if e = 0 then o else pw n (nm 4 a a) (e / 2) (if e % 2 = 1 then nm 4 o a else o)
theorem pw_lt : ∀ (n a e o : Nat), a < 65536 → o < 65536 → pw n a e o < 65536
  | 0, _, _, _, _, h => h
  | n + 1, a, e, o, ha, ho => by
    unfold pw
    split
    · exact ho
    · refine pw_lt n _ _ _ (nm4_lt ha ha) ?_
      split
      · exact nm4_lt ho ha
      · exact ho
theorem spec_pow_l : ∀ (n k a e o : Nat), a < 65536 → o < 65536 → e < 2 ^ n → n ≤ 60 → n + 10 ≤ k → spec_grPower.l0 k a e o = some ((pw n a e o : Nat) : Int) := by
  intro n
  induction n with
  | zero =>
    intro k a e o ha ho he _ hk
    have he0 : e = 0 := by omega
    subst he0
    obtain ⟨k, rfl⟩ : ∃ m, k = m + 1 := ⟨k - 1, by omega⟩
    simp only [spec_grPower.l0]
    rw [if_neg (by omega)]
    rfl
  | succ n ih =>
    intro k a e o ha ho he hn hk
    obtain ⟨k, rfl⟩ : ∃ m, k = m + 1 := ⟨k - 1, by omega⟩
    have h60 : 2 ^ (n + 1) ≤ 2 ^ 60 := Nat.pow_le_pow_right (by decide) hn
    have hw : wrap64 (Int.tdiv (e : Int) 2) = ((e / 2 : Nat) : Int) := by
      rw [Int.tdiv_eq_ediv_of_nonneg (by omega)]; unfold wrap64; omega
    have hm : Int.tmod (e : Int) 2 = ((e % 2 : Nat) : Int) := by
      rw [Int.tmod_eq_emod_of_nonneg (by omega)]; omega
    have he2 : e / 2 < 2 ^ n := by rw [Nat.pow_succ] at he; omega
    simp only [spec_grPower.l0]
    unfold pw
    by_cases h0 : e = 0
    · rw [if_neg (by omega), if_pos h0]
    · rw [if_pos (by omega), if_neg h0, hm]
      by_cases h1 : e % 2 = 1
      · rw [if_pos (by omega), spec_nim k o a ho ha (by omega)]
        simp only [Option.bind_some]
        rw [spec_nim k a a ha ha (by omega)]
        simp only [Option.bind_some]
        rw [hw, ih k _ _ _ (nm4_lt ha ha) (nm4_lt ho ha) he2 (by omega) (by omega), if_pos h1]
      · rw [if_neg (by omega), spec_nim k a a ha ha (by omega)]
        simp only [Option.bind_some]
        rw [hw, ih k _ _ _ (nm4_lt ha ha) ho he2 (by omega) (by omega), if_neg h1]
/-- The power, for exponents below 2^20. -/
def pow4 (a e : Nat) : Nat := pw 20 a e 1
theorem pow4_lt {a e : Nat} (ha : a < 65536) : pow4 a e < 65536 := pw_lt 20 a e 1 ha (by omega)
theorem spec_pow (k a e : Nat) (ha : a < 65536) (he : e < 1048576) (hk : 30 ≤ k) : spec_grPower.f k a e = some ((pow4 a e : Nat) : Int) := by
  unfold spec_grPower.f
  exact spec_pow_l 20 k a e 1 ha (by omega) he (by omega) (by omega)

/-! ### the power is the plain one -/
theorem pw_pn : ∀ (n a e o : Nat), a < 65536 → o < 65536 → e < 2 ^ n → pw n a e o = nm 4 o (pn a e)
  | 0, a, e, o, _, ho, he => by
    have : e = 0 := by simpa using he
    subst this
    exact (nm_one' 4 o ho).symm
  | n + 1, a, e, o, ha, ho, he => by
    unfold pw
    by_cases h : e = 0
    · subst h
      rw [if_pos rfl]
      exact (nm_one' 4 o ho).symm
    · rw [if_neg h]
      have h2 : e / 2 < 2 ^ n := Nat.div_lt_of_lt_mul (by rw [Nat.pow_succ, Nat.mul_comm] at he; exact he)
      have e2 : pn (nm 4 a a) (e / 2) = pn a (2 * (e / 2)) := by
        rw [pn_mul, pn_two a ha]
      rw [pw_pn n _ _ _ (nm4_lt ha ha) (by split; exact nm4_lt ho ha; exact ho) h2, e2]
      by_cases q : e % 2 = 1
      · rw [if_pos q, nm_assoc]
        congr 1
        have : pn a e = pn a (1 + 2 * (e / 2)) := by congr 1; omega
        rw [this, pn_add, pn_one a ha]
      · rw [if_neg q]
        congr 2
        omega
theorem pow4_pn (a e : Nat) (ha : a < 65536) (he : e < 1048576) : pow4 a e = pn a e := by
  unfold pow4
  rw [pw_pn 20 a e 1 ha (by omega) he]
  exact nm_one 4 _ (pn_lt _ _)

/-! ### what the search over all numbers finds -/
theorem and_one (y : Nat) (hy : y < 2 ^ 62) : bits .and .i64 (y : Int) 1 = ((y % 2 : Nat) : Int) := by
  have := mask_nat y 1 hy (by decide)
  simpa using this
theorem bit_iff (x n : Nat) (hx : x < 65536) : bits .and .i64 ((x : Int) / 2 ^ n) 1 = 1 ↔ x.testBit n = true := by
  have e : (x : Int) / 2 ^ n = ((x / 2 ^ n : Nat) : Int) := by
    rw [Int.natCast_ediv]
    congr 1
  have hle : x / 2 ^ n ≤ x := Nat.div_le_self _ _
  rw [e, and_one _ (by omega), Nat.testBit_eq_decide_div_mod_eq]
  generalize x / 2 ^ n % 2 = q
  simp
  omega
theorem lin_xor (a x y : Nat) : lin a (x ^^^ y) = lin a x ^^^ lin a y := by
  unfold lin
  rw [sq_xor, nm_xor_right]
  simp only [Nat.xor_assoc]
  rw [← Nat.xor_assoc (sq y) (nm 4 a x), Nat.xor_comm (sq y) (nm 4 a x), Nat.xor_assoc]
theorem lin_lt (a y : Nat) : lin a y < 65536 := Nat.xor_lt_two_pow (n := 16) (nm_lt4 _ _) (nm_lt4 _ _)
theorem lin_zero (a : Nat) : lin a 0 = 0 := by unfold lin; rw [sq_zero, nm_zero']; rfl
def prt (a n : Nat) : List Int := (List.range n).map fun k => ((lin a (2 ^ k) : Nat) : Int)
theorem two_w (n : Nat) (hn : n < 16) : wrap64 ((2 : Int) ^ n) = ((2 ^ n : Nat) : Int) := by
  have h1 : 2 ^ n < 2 ^ 16 := Nat.pow_lt_pow_right (by decide) hn
  have e : ((2 : Int) ^ n) = ((2 ^ n : Nat) : Int) := by rw [Int.natCast_pow]; rfl
  rw [e]
  generalize 2 ^ n = q at h1
  unfold wrap64
  omega
theorem pow_lt16 (n : Nat) (hn : n < 16) : 2 ^ n < 65536 := by
  have : 2 ^ n < 2 ^ 16 := Nat.pow_lt_pow_right (by decide) hn
  exact this
theorem parts_T (T : Int → Int → Option Int) (hT : ∀ x y : Nat, x < 65536 → y < 65536 → T (x : Int) (y : Int) = some ((nm 4 x y : Nat) : Int)) (a : Nat) (ha : a < 65536) : ∀ n, n ≤ 16 → impl_solutions.parts T a n = some (prt a n) := by
  intro n
  induction n with
  | zero => intro _; rfl
  | succ n ih =>
    intro h
    have h1 := pow_lt16 n (by omega)
    have p1 := hT (2 ^ n) (2 ^ n) h1 h1
    have p2 := hT a (2 ^ n) ha h1
    have n1 : nm 4 (2 ^ n) (2 ^ n) < 2 ^ 62 := Nat.lt_trans (nm_lt4 _ _) (by decide)
    have n2 : nm 4 a (2 ^ n) < 2 ^ 62 := Nat.lt_trans (nm_lt4 _ _) (by decide)
    have e := ih (by omega)
    unfold impl_solutions.parts
    rw [e]
    simp only [Option.bind_some]
    rw [two_w n (by omega), p1]
    simp only [Option.bind_some]
    rw [p2]
    simp only [Option.bind_some]
    rw [xor_nat _ _ n1 n2]
    unfold prt
    rw [List.range_succ, List.map_append]
    rfl
theorem parts_eq (a : Nat) (ha : a < 65536) : impl_solutions.parts (impl_times.f 40) a 16 = some (prt a 16) :=
  parts_T (impl_times.f 40) (fun x y hx hy => impl_nim 40 x y hx hy (by decide)) a ha 16 (Nat.le_refl _)
theorem prt_get (a n : Nat) (hn : n < 16) : (prt a 16).getD n 0 = ((lin a (2 ^ n) : Nat) : Int) := by
  unfold prt
  rw [List.getD_eq_getElem?_getD, List.getElem?_map, List.getElem?_range hn]
  rfl
theorem mod_next (x n : Nat) : x % 2 ^ (n + 1) = if x.testBit n = true then x % 2 ^ n ^^^ 2 ^ n else x % 2 ^ n := by
  apply Nat.eq_of_testBit_eq
  intro j
  by_cases c : x.testBit n = true
  · rw [if_pos c, Nat.testBit_xor, Nat.testBit_mod_two_pow, Nat.testBit_mod_two_pow, Nat.testBit_two_pow]
    by_cases h1 : j < n
    · simp [h1, Nat.lt_succ_of_lt h1, Nat.ne_of_gt h1]
    · by_cases h2 : j = n
      · subst h2; simp [c]
      · simp [h1, show ¬ j < n + 1 by omega, show ¬ n = j by omega]
  · rw [if_neg c, Nat.testBit_mod_two_pow, Nat.testBit_mod_two_pow]
    by_cases h1 : j < n
    · simp [h1, Nat.lt_succ_of_lt h1]
    · by_cases h2 : j = n
      · subst h2; simp [c]
      · simp [h1, show ¬ j < n + 1 by omega]
theorem val_eq (a b x : Nat) (hb : b < 65536) (hx : x < 65536) : ∀ n, n ≤ 16 → impl_solutions.val (prt a 16) b x n = ((b ^^^ lin a (x % 2 ^ n) : Nat) : Int)
  | 0, _ => by
    unfold impl_solutions.val
    rw [Nat.pow_zero, Nat.mod_one, lin_zero, Nat.xor_zero]
  | n + 1, h => by
    unfold impl_solutions.val
    rw [val_eq a b x hb hx n (by omega), mod_next, prt_get a n (by omega)]
    have l1 := lin_lt a (x % 2 ^ n)
    have l2 := lin_lt a (2 ^ n)
    have l3 : b ^^^ lin a (x % 2 ^ n) < 65536 := Nat.xor_lt_two_pow (n := 16) hb l1
    by_cases c : x.testBit n = true
    · rw [if_pos ((bit_iff x n hx).2 c), if_pos c, xor_nat _ _ (by omega) (by omega), lin_xor, Nat.xor_assoc]
    · rw [if_neg (fun q => c ((bit_iff x n hx).1 q)), if_neg c]
theorem val_top (a b x : Nat) (hb : b < 65536) (hx : x < 65536) : impl_solutions.val (prt a 16) b x 16 = ((b ^^^ lin a x : Nat) : Int) := by
  rw [val_eq a b x hb hx 16 (Nat.le_refl _), Nat.mod_eq_of_lt (show x < 2 ^ 16 from hx)]
theorem list_eq (a b : Nat) (hb : b < 65536) : ∀ n, n ≤ 65536 → impl_solutions.list (prt a 16) b n = ((List.range n).filter fun x => lin a x == b).map fun x : Nat => (x : Int)
  | 0, _ => rfl
  | n + 1, h => by
    unfold impl_solutions.list
    rw [list_eq a b hb n (by omega), val_top a b n hb (by omega), List.range_succ, List.filter_append, List.map_append]
    by_cases c : lin a n = b
    · rw [if_pos (by rw [c, Nat.xor_self]; rfl)]
      simp [c]
    · rw [if_neg (fun q => c (xor_zero_eq (by omega)).symm)]
      simp [c]
theorem sol_eq (a b : Nat) (ha : a < 65536) (hb : b < 65536) : impl_solutions.f a b = some (((List.range 65536).filter fun x => lin a x == b).map fun x : Nat => (x : Int)) := by
  unfold impl_solutions.f
  rw [parts_eq a ha]
  simp only [Option.bind_some]
  rw [list_eq a b hb _ (by rw [impl_solutions.top_eq]; exact Nat.le_refl _), impl_solutions.top_eq]

/-! ### the reference's half -/
def imL (t : List (Nat × Nat)) : List Int := t.map fun p => (p.1 : Int)
def mkL (t : List (Nat × Nat)) : List Int := t.map fun p => (p.2 : Int)
theorem imL_len (t : List (Nat × Nat)) : (imL t).length = t.length := List.length_map ..
theorem mkL_len (t : List (Nat × Nat)) : (mkL t).length = t.length := List.length_map ..
theorem imL_rd (t : List (Nat × Nat)) (i : Nat) (h : i < t.length) : rd (imL t) (i : Int) = ((t[i].1 : Nat) : Int) := by
  unfold rd imL
  simp [h]
theorem mkL_rd (t : List (Nat × Nat)) (i : Nat) (h : i < t.length) : rd (mkL t) (i : Int) = ((t[i].2 : Nat) : Int) := by
  unfold rd mkL
  simp [h]
theorem drop_at (t : List (Nat × Nat)) (i : Nat) (h : i < t.length) : t.drop i = t[i] :: t.drop (i + 1) := List.drop_eq_getElem_cons h
theorem ws (i : Nat) (h : i < 2 ^ 62) : wrap64 ((i : Int) + 1) = ((i + 1 : Nat) : Int) := by unfold wrap64; omega
theorem l1_ev (a : Int) (t : List (Nat × Nat)) (ht : ∀ p ∈ t, p.1 < 65536 ∧ p.2 < 65536) (hl : t.length ≤ 100) (n : Int) (res : Int) : ∀ (d i g x : Nat), i + d = t.length → g < 65536 → x < 65536 →
    Ev (fun k => spec_grHalf.l0 k a (imL t ++ [(((rd1 (t.drop i) (g, x)).1 : Nat) : Int)]) (mkL t ++ [(((rd1 (t.drop i) (g, x)).2 : Nat) : Int)]) (wrap64 (n + 1))) res →
    Ev (fun k => spec_grHalf.l1 k a (imL t) (mkL t) n x g (imL t) ((imL t).length : Int) i) res := by
  intro d
  induction d with
  | zero =>
    intro i g x hi hg hx next
    have e : t.drop i = [] := List.drop_eq_nil_of_le (by omega)
    rw [e] at next
    have c0 : ¬ (i : Int) < ((imL t).length : Int) := by rw [imL_len]; omega
    have c1 : (imL t).length < 17592186044416 := by rw [imL_len]; omega
    have c2 : (mkL t).length < 17592186044416 := by rw [mkL_len]; omega
    refine Ev.step (fun k => ?_) next
    simp only [spec_grHalf.l1, if_neg c0, if_pos c1, if_pos c2, rd1]
  | succ d ih =>
    intro i g x hi hg hx next
    have hil : i < t.length := by omega
    have c0 : (i : Int) < ((imL t).length : Int) := by rw [imL_len]; omega
    have c0' : (i : Int) < ((mkL t).length : Int) := by rw [mkL_len]; omega
    have c1 : (0 : Int) ≤ (i : Int) := Int.natCast_nonneg _
    obtain ⟨p1, p2⟩ := ht _ (List.getElem_mem hil)
    have x1 := xor_nat g t[i].1 (by omega) (by omega)
    have x2 := xor_nat x t[i].2 (by omega) (by omega)
    have y1 : g ^^^ t[i].1 < 65536 := Nat.xor_lt_two_pow (n := 16) hg p1
    have y2 : x ^^^ t[i].2 < 65536 := Nat.xor_lt_two_pow (n := 16) hx p2
    rw [drop_at t i hil, rd1] at next
    have hw := ws i (by omega)
    by_cases c : g ^^^ t[i].1 < g
    · rw [if_pos c] at next
      have c' : ((g ^^^ t[i].1 : Nat) : Int) < (g : Int) := Int.ofNat_lt.2 c
      refine Ev.step (fun k => ?_) (ih (i + 1) _ _ (by clear hw x1 x2; omega) y1 y2 next)
      simp only [spec_grHalf.l1, if_pos c0, if_pos c1, imL_rd t i hil, mkL_rd t i hil, x1, x2, if_pos c', if_pos c0', hw]
    · rw [if_neg c] at next
      have c' : ¬ ((g ^^^ t[i].1 : Nat) : Int) < (g : Int) := fun q => c (Int.ofNat_lt.1 q)
      refine Ev.step (fun k => ?_) (ih (i + 1) _ _ (by clear hw x1 x2; omega) hg hx next)
      simp only [spec_grHalf.l1, if_pos c0, if_pos c1, imL_rd t i hil, x1, if_neg c', hw]
theorem l2_ev (t : List (Nat × Nat)) (ht : ∀ p ∈ t, p.1 < 65536 ∧ p.2 < 65536) (hl : t.length ≤ 100) : ∀ (d i g x : Nat), i + d = t.length → g < 65536 → x < 65536 →
    Ev (fun k => spec_grHalf.l2 k g (mkL t) x (imL t) ((imL t).length : Int) i) (if (rd1 (t.drop i) (g, x)).1 = 0 then (((rd1 (t.drop i) (g, x)).2 : Nat) : Int) else -1) := by
  intro d
  induction d with
  | zero =>
    intro i g x hi hg hx
    have e : t.drop i = [] := List.drop_eq_nil_of_le (by omega)
    rw [e]
    show Ev _ (if g = 0 then (x : Int) else -1)
    have c0 : ¬ (i : Int) < ((imL t).length : Int) := by rw [imL_len]; omega
    by_cases q : g = 0
    · have q' : (g : Int) = 0 := by omega
      rw [if_pos q]
      refine Ev.step (fun k => ?_) (Ev.now _)
      simp only [spec_grHalf.l2, if_neg c0, if_pos q']
    · have q' : ¬ (g : Int) = 0 := by omega
      rw [if_neg q]
      refine Ev.step (fun k => ?_) (Ev.now _)
      simp only [spec_grHalf.l2, if_neg c0, if_neg q']
  | succ d ih =>
    intro i g x hi hg hx
    have hil : i < t.length := by omega
    have c0 : (i : Int) < ((imL t).length : Int) := by rw [imL_len]; omega
    have c0' : (i : Int) < ((mkL t).length : Int) := by rw [mkL_len]; omega
    have c1 : (0 : Int) ≤ (i : Int) := Int.natCast_nonneg _
    obtain ⟨p1, p2⟩ := ht _ (List.getElem_mem hil)
    have x1 := xor_nat g t[i].1 (by omega) (by omega)
    have x2 := xor_nat x t[i].2 (by omega) (by omega)
    have y1 : g ^^^ t[i].1 < 65536 := Nat.xor_lt_two_pow (n := 16) hg p1
    have y2 : x ^^^ t[i].2 < 65536 := Nat.xor_lt_two_pow (n := 16) hx p2
    rw [drop_at t i hil, rd1]
    have hw := ws i (by omega)
    by_cases c : g ^^^ t[i].1 < g
    · have c' : ((g ^^^ t[i].1 : Nat) : Int) < (g : Int) := Int.ofNat_lt.2 c
      rw [if_pos c]
      refine Ev.step (fun k => ?_) (ih (i + 1) _ _ (by clear hw x1 x2; omega) y1 y2)
      simp only [spec_grHalf.l2, if_pos c0, if_pos c1, imL_rd t i hil, mkL_rd t i hil, x1, x2, if_pos c', if_pos c0', hw]
    · have c' : ¬ ((g ^^^ t[i].1 : Nat) : Int) < (g : Int) := fun q => c (Int.ofNat_lt.1 q)
      rw [if_neg c]
      refine Ev.step (fun k => ?_) (ih (i + 1) _ _ (by clear hw x1 x2; omega) hg hx)
      simp only [spec_grHalf.l2, if_pos c0, if_pos c1, imL_rd t i hil, x1, if_neg c', hw]
theorem bld_len : ∀ n, (bld n).length = n
  | 0 => rfl
  | n + 1 => by unfold bld; rw [List.length_append, bld_len n]; rfl
theorem bld_all : ∀ n, n ≤ 15 → ∀ p ∈ bld n, p.1 < 65536 ∧ p.2 < 65536 := by
  intro n hn p hp
  have h : (bld n).all (fun p => decide (p.1 < 65536) && decide (p.2 < 65536)) = true := by
    rcases (by omega : n = 0 ∨ n = 1 ∨ n = 2 ∨ n = 3 ∨ n = 4 ∨ n = 5 ∨ n = 6 ∨ n = 7 ∨ n = 8 ∨ n = 9 ∨ n = 10 ∨ n = 11 ∨ n = 12 ∨ n = 13 ∨ n = 14 ∨ n = 15) with rfl | rfl | rfl | rfl | rfl | rfl | rfl | rfl | rfl | rfl | rfl | rfl | rfl | rfl | rfl | rfl <;> decide +kernel
  have := List.all_eq_true.1 h p hp
  simpa [Bool.and_eq_true] using this
theorem imL_snoc (t : List (Nat × Nat)) (p : Nat × Nat) : imL t ++ [(p.1 : Int)] = imL (t ++ [p]) := by unfold imL; rw [List.map_append]; rfl
theorem mkL_snoc (t : List (Nat × Nat)) (p : Nat × Nat) : mkL t ++ [(p.2 : Int)] = mkL (t ++ [p]) := by unfold mkL; rw [List.map_append]; rfl
theorem l0_ev (a : Nat) (ha : a < 65536) : ∀ d m : Nat, m + d = 15 → Ev (fun k => spec_grHalf.l0 k a (imL (bld m)) (mkL (bld m)) ((m + 1 : Nat) : Int)) (if (hlf a).1 = 0 then (((hlf a).2 : Nat) : Int) else -1) := by
  intro d
  induction d with
  | zero =>
    intro m hm
    obtain rfl : m = 15 := by omega
    have h := l2_ev tbl (bld_all 15 (Nat.le_refl _)) (by rw [tbl_len]; decide) 15 0 a 0 (by rw [tbl_len]) ha (show 0 < 65536 by decide)
    have c : ¬ (((15 + 1 : Nat) : Int) < 16) := by decide
    refine Ev.step (fun k => ?_) h
    simp only [spec_grHalf.l0, if_neg c]
    rfl
  | succ d ih =>
    intro m hm
    have c : ((m + 1 : Nat) : Int) < 16 := by omega
    have c0 : (0 : Int) ≤ ((m + 1 : Nat) : Int) := Int.natCast_nonneg _
    have hp := pow_lt16 (m + 1) (by omega)
    have hs : shl .i64 1 ((m + 1 : Nat) : Int) = ((2 ^ (m + 1) : Nat) : Int) := by
      have := shl_nat 1 (m + 1) (by omega) (by rw [Nat.one_mul]; omega)
      rw [Nat.one_mul] at this
      exact this
    have hn : Ev (fun k => spec_grNim.f k ((2 ^ (m + 1) : Nat) : Int) ((2 ^ (m + 1) : Nat) : Int)) ((sq (2 ^ (m + 1)) : Nat) : Int) := ⟨10, fun k hk => spec_nim k _ _ hp hp hk⟩
    have hx := xor_nat (sq (2 ^ (m + 1))) (2 ^ (m + 1)) (Nat.lt_trans (nm_lt4 _ _) (by decide)) (by omega)
    have hS : S (2 ^ (m + 1)) < 65536 := S_lt _ hp
    have nx := ih (m + 1) (by omega)
    have l1 := l1_ev (a : Int) (bld m) (bld_all m (by omega)) (by rw [bld_len]; omega) ((m + 1 : Nat) : Int) _ m 0 (S (2 ^ (m + 1))) (2 ^ (m + 1)) (by rw [bld_len]; omega) hS hp (by
      rw [List.drop_zero, imL_snoc, mkL_snoc, ws (m + 1) (by omega)]
      exact nx)
    refine Ev.step (f := ?gga) (fun k => ?ggb) ?ggc
    case ggb => conv => lhs; simp only [spec_grHalf.l0, if_pos c, if_pos c0, hs]
    case ggc =>
      refine Ev.bind hn ?_
      rw [hx]
      exact l1
theorem half_ev (a : Nat) (ha : a < 65536) : Ev (fun k => spec_grHalf.f k a) (if (hlf a).1 = 0 then (((hlf a).2 : Nat) : Int) else -1) := l0_ev a ha 15 0 (by decide)

/-! ### the reference's solutions -/
@[irreducible] def solN (a b : Nat) : List Nat := (List.range 65536).filter fun x => lin a x == b
def ints (l : List Nat) : List Int := l.map fun x : Nat => (x : Int)
theorem sol_impl (a b : Nat) (ha : a < 65536) (hb : b < 65536) : impl_solutions.f a b = some (ints (solN a b)) := by
  rw [sol_eq a b ha hb]
  unfold solN ints
  rfl
theorem solN_len (a b : Nat) : (solN a b).length ≤ 65536 := by
  unfold solN
  refine Nat.le_trans (List.length_filter_le ..) ?_
  rw [List.length_range]
  exact Nat.le_refl _
theorem ints_len (l : List Nat) : (ints l).length = l.length := List.length_map ..
theorem put_ev (u v : Nat) (hne : u ≠ v) : Ev (fun k => spec_l1Put.f k [(u : Int)] (v : Int)) (ints (put2 u v)) := by
  refine ⟨3, fun k hk => ?_⟩
  obtain ⟨k, rfl⟩ : ∃ m, k = m + 3 := ⟨k - 3, by omega⟩
  have w1 : wrap64 1 = 1 := by unfold wrap64; omega
  unfold put2 ints
  by_cases c : u < v
  · have c' : (u : Int) < (v : Int) := Int.ofNat_lt.2 c
    simp [spec_l1Put.f, spec_l1Put.l0, rd, c, c', w1]
  · have c' : ¬ (u : Int) < (v : Int) := fun q => c (Int.ofNat_lt.1 q)
    have c2 : ¬ (u : Int) = (v : Int) := fun q => hne (Int.ofNat_inj.1 q)
    simp [spec_l1Put.f, spec_l1Put.l0, rd, c, c', c2, w1]
theorem root_fact (b : Nat) (hb : b < 65536) : ∃ r : Nat, r < 65536 ∧ sq r = b ∧ ∀ k, 30 ≤ k → spec_grPower.f k b 32768 = some (r : Int) := by
  refine ⟨pn b 32768, pn_lt _ _, sq_root b _ hb rfl, fun k hk => ?_⟩
  have h := spec_pow k b 32768 hb (by omega) hk
  rw [pow4_pn b 32768 hb (by omega)] at h
  exact h
theorem inv_fact (a : Nat) (ha : a < 65536) (h0 : a ≠ 0) : ∃ c : Nat, c < 65536 ∧ nm 4 a c = 1 ∧ ∀ k, 30 ≤ k → spec_grPower.f k a 65534 = some (c : Int) := by
  refine ⟨pn a 65534, pn_lt _ _, unit_inv a ha h0, fun k hk => ?_⟩
  have h := spec_pow k a 65534 ha (by omega) hk
  rw [pow4_pn a 65534 ha (by omega)] at h
  exact h
theorem put2_ne (a c y : Nat) (hy : y < 65536) (hac : nm 4 a c = 1) : nm 4 a y ≠ nm 4 a (y ^^^ 1) := by
  intro e
  have inv : ∀ z, z < 65536 → nm 4 c (nm 4 a z) = z := fun z hz => by rw [← nm_assoc, nm_comm 4 c a, hac, nm_one 4 z hz]
  have f3' : y ^^^ 1 < 65536 := Nat.xor_lt_two_pow (n := 16) hy (by decide)
  have e2 : nm 4 c (nm 4 a y) = nm 4 c (nm 4 a (y ^^^ 1)) := by rw [e]
  rw [inv _ hy, inv _ f3'] at e2
  have e3 : y ^^^ 1 ^^^ y = 0 := by rw [← e2, Nat.xor_self]
  rw [Nat.xor_comm y 1, Nat.xor_assoc, Nat.xor_self] at e3
  exact absurd e3 (by decide)
theorem spec_solve (a b : Nat) (ha : a < 65536) (hb : b < 65536) : Ev (fun k => spec_grSolve.f k a b) (ints (solN a b)) := by
  unfold spec_grSolve.f
  by_cases h0 : a = 0
  · subst h0
    obtain ⟨r, r1, r2, r3⟩ := root_fact b hb
    have e : solN 0 b = [r] := by unfold solN; exact sol_z b r r2 r1
    rw [e]
    simp only [Int.natCast_zero, if_true]
    refine Ev.bind (a := (r : Int)) ⟨30, fun k hk => ?_⟩ (Ev.now _)
    unfold spec_grRoot.f
    show (spec_grPower.f k b 32768).bind _ = _
    rw [r3 k hk]
    rfl
  · have h0' : ¬ (a : Int) = 0 := by omega
    obtain ⟨c, c1, c2, c3⟩ := inv_fact a ha h0
    have e : solN a b = (List.range 65536).filter fun x => lin a x == b := by unfold solN; rfl
    rw [e, sol_nz a b c hb c2]
    simp only [if_neg h0']
    refine Ev.bind ⟨30, c3⟩ ?_
    have q1 : c < 65536 := c1
    refine Ev.bind ⟨10, fun k hk => spec_nim k c c q1 q1 hk⟩ ?_
    refine Ev.bind ⟨10, fun k hk => spec_nim k b (nm 4 c c) hb (nm4_lt q1 q1) hk⟩ ?_
    have hd : nm 4 b (nm 4 c c) < 65536 := nm4_lt hb (nm4_lt q1 q1)
    have hE := half_ev _ hd
    obtain ⟨_, _, f3, _⟩ := hlf_fact _ hd
    generalize nm 4 b (nm 4 c c) = d at hE f3 ⊢
    generalize hlf d = w at hE f3 ⊢
    refine Ev.bind hE ?_
    by_cases q : w.1 = 0
    · simp only [if_pos q]
      have g : ¬ ((w.2 : Nat) : Int) < 0 := by omega
      simp only [if_neg g]
      have f3' : w.2 ^^^ 1 < 65536 := Nat.xor_lt_two_pow (n := 16) f3 (by decide)
      have hx := xor_nat w.2 1 (by omega) (by decide)
      rw [Int.natCast_one] at hx
      refine Ev.bind ⟨10, fun k hk => spec_nim k a w.2 ha f3 hk⟩ ?_
      rw [hx]
      refine Ev.bind ⟨10, fun k hk => spec_nim k a (w.2 ^^^ 1) ha f3' hk⟩ ?_
      exact Ev.bind (put_ev _ _ (put2_ne a c _ f3 c2)) (Ev.now _)
    · simp only [if_neg q]
      exact Ev.now _

theorem both (a b : Int) : ∃ r : List Int × Bool, Ev (fun k => spec_NimSolve.f k a b) r ∧ impl_NimSolve.f a b = some r ∧ r.1.length ≤ 65536 := by
  unfold spec_NimSolve.f impl_NimSolve.f
  simp only [spec_isN, impl_isN, Option.bind_some]
  by_cases ha : 0 ≤ a ∧ a ≤ 65535
  · by_cases hb : 0 ≤ b ∧ b ≤ 65535
    · obtain ⟨a, rfl⟩ := Int.eq_ofNat_of_zero_le ha.1
      obtain ⟨b, rfl⟩ := Int.eq_ofNat_of_zero_le hb.1
      simp only [ha, hb, decide_true, and_self, if_true, sol_impl a b (by omega) (by omega), Option.bind_some]
      refine ⟨_, Ev.bind (spec_solve a b (by omega) (by omega)) (Ev.now _), rfl, ?_⟩
      rw [ints_len]
      exact solN_len a b
    · simp only [ha, hb, decide_true, decide_false, and_self, if_true, Bool.false_eq_true, if_false]
      exact ⟨_, Ev.now _, rfl, by simp⟩
  · simp only [ha, decide_false, Bool.false_eq_true, if_false]
    exact ⟨_, Ev.now _, rfl, by simp⟩
theorem eqI (x : List Int) (hx : x.length ≤ 65536) : Ev (fun k => laws_eqIntS.f k x x) true := ⟨x.length + 1, fun k hk => eqIntS x (by omega) k hk⟩
theorem j1_ev (ys : List Int) (m : Nat) (h : Ev (fun k => laws_heldIntS.f k ys 1) (m : Int)) : Ev (fun k => laws_FnExactNimSolve.j1 k ys (m : Int) false) true := by
  refine Ev.step (f := ?f) (fun k => ?e) ?v
  case e => conv => lhs; simp only [laws_FnExactNimSolve.j1, Bool.false_eq_true, if_false]
  case v =>
    refine Ev.bind h ?_
    simp only [show ¬ ((m : Int) < 0) from by omega, if_false, if_true]
    exact Ev.now _
theorem proved : laws_FnExactNimSolve.Pure := by
  intro a b _ _
  refine Ev.rounds ?_
  unfold laws_FnExactNimSolve.f
  obtain ⟨⟨H, t⟩, s1, s2, s3⟩ := both a b
  have s3' : H.length ≤ 65536 := s3
  refine Ev.bind s1 ?_
  simp only [s2, Option.bind_some]
  refine Ev.bind (eqI H s3') ?_
  simp only [if_true, bne_self_eq_false]
  obtain ⟨ys, m1, m2, m3⟩ := markIntS_ev H 1 (by omega)
  refine Ev.step (f := ?gga) (fun k => ?ggb) ?ggc
  case ggb => conv => lhs; simp only [laws_FnExactNimSolve.j0, Bool.false_eq_true, if_false]
  case ggc =>
    refine Ev.bind m1 (Ev.bind m3 ?_)
    simp only [show ¬ (((1 + H.length : Nat) : Int) < 0) from by omega, if_false, if_true, s2, Option.bind_some]
    refine Ev.bind (eqI H s3') ?_
    simp only [if_true, bne_self_eq_false]
    exact j1_ev ys _ m3

end LFnExactNimSolve
theorem FnExactNimSolve : laws_FnExactNimSolve.Pure := LFnExactNimSolve.proved
end Go.Proofs.Ytoeddjbhippdlaa.Pure
