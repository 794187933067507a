/- Plain nimber arithmetic on natural numbers: the product by levels, its bounds and its laws; no program in sight. -/
import Derived.Laws.BitsLemmas
import Derived.Test.YtoeddjbhippdlaaWWords
import Derived.Test.YtoeddjbhippdlaaWMore
namespace Go.Proofs.Ytoeddjbhippdlaa.Nim
open Go.RowKit Go.Proofs.YtoeddjbhippdlaaW.PrintWords

/-- The nim product of two numbers below 2^(2^l). -/
def nm : Nat → Nat → Nat → Nat
  | 0, a, b => (a % 2) * (b % 2)
  | l + 1, a, b =>
    ((nm l (a / 2 ^ 2 ^ l ^^^ a % 2 ^ 2 ^ l) (b / 2 ^ 2 ^ l ^^^ b % 2 ^ 2 ^ l) ^^^ nm l (a % 2 ^ 2 ^ l) (b % 2 ^ 2 ^ l)) * 2 ^ 2 ^ l
      ^^^ nm l (a % 2 ^ 2 ^ l) (b % 2 ^ 2 ^ l)) ^^^ nm l (nm l (a / 2 ^ 2 ^ l) (b / 2 ^ 2 ^ l)) (2 ^ (2 ^ l - 1))

theorem sq_pow (l : Nat) : 2 ^ 2 ^ (l + 1) = 2 ^ 2 ^ l * 2 ^ 2 ^ l := by
  rw [Nat.pow_succ, Nat.mul_two, Nat.pow_add]

theorem half_lt (l : Nat) : 2 ^ (2 ^ l - 1) < 2 ^ 2 ^ l :=
  Nat.pow_lt_pow_right (by omega) (Nat.sub_lt (Nat.two_pow_pos _) (by omega))

theorem div_lt {l a : Nat} (ha : a < 2 ^ 2 ^ (l + 1)) : a / 2 ^ 2 ^ l < 2 ^ 2 ^ l :=
  Nat.div_lt_of_lt_mul (by rw [← sq_pow]; exact ha)

theorem mod_lt (l a : Nat) : a % 2 ^ 2 ^ l < 2 ^ 2 ^ l := Nat.mod_lt _ (Nat.two_pow_pos _)

theorem big (l : Nat) : 2 ^ 2 ^ l ≤ 2 ^ 2 ^ (l + 1) := by rw [sq_pow]; exact Nat.le_mul_of_pos_left _ (Nat.two_pow_pos _)

theorem nm_bd : ∀ (l a b : Nat), nm l a b < 2 ^ 2 ^ l
  | 0, a, b => by
    show (a % 2) * (b % 2) < 2
    rcases (by omega : a % 2 = 0 ∨ a % 2 = 1) with h | h <;> rcases (by omega : b % 2 = 0 ∨ b % 2 = 1) with h' | h' <;> rw [h, h'] <;> decide
  | l + 1, a, b => by
    unfold nm
    refine Nat.xor_lt_two_pow (Nat.xor_lt_two_pow ?_ (Nat.lt_of_lt_of_le (nm_bd l _ _) (big l))) (Nat.lt_of_lt_of_le (nm_bd l _ _) (big l))
    rw [sq_pow]
    exact Nat.mul_lt_mul_of_pos_right (Nat.xor_lt_two_pow (nm_bd l _ _) (nm_bd l _ _)) (Nat.two_pow_pos _)
theorem nm_lt (l a b : Nat) (_ : a < 2 ^ 2 ^ l) (_ : b < 2 ^ 2 ^ l) : nm l a b < 2 ^ 2 ^ l := nm_bd l a b

theorem nm_zero : ∀ (l b : Nat), nm l 0 b = 0
  | 0, b => by simp [nm]
  | l + 1, b => by simp [nm, nm_zero l]

theorem nm_zero' : ∀ (l a : Nat), nm l a 0 = 0
  | 0, b => by simp [nm]
  | l + 1, b => by simp [nm, nm_zero' l, nm_zero l]

/-- Two halves laid side by side. -/
theorem join_tb (n q r i : Nat) : (q * 2 ^ n ^^^ r).testBit i = ((decide (n ≤ i) && q.testBit (i - n)) ^^ r.testBit i) := by
  rw [Nat.testBit_xor, Nat.testBit_mul_two_pow]

theorem join_div (n q r : Nat) (hr : r < 2 ^ n) : (q * 2 ^ n ^^^ r) / 2 ^ n = q := by
  rw [Nat.xor_div_two_pow, Nat.mul_div_cancel _ (Nat.two_pow_pos n), Nat.div_eq_of_lt hr, Nat.xor_zero]

theorem join_mod (n q r : Nat) (hr : r < 2 ^ n) : (q * 2 ^ n ^^^ r) % 2 ^ n = r := by
  rw [Nat.xor_mod_two_pow, Nat.mul_mod_left, Nat.mod_eq_of_lt hr, Nat.zero_xor]

theorem join_self (n a : Nat) : (a / 2 ^ n) * 2 ^ n ^^^ a % 2 ^ n = a := by
  apply Nat.eq_of_testBit_eq
  intro i
  rw [join_tb, Nat.testBit_div_two_pow, Nat.testBit_mod_two_pow]
  by_cases h : n ≤ i
  · have h2 : ¬ i < n := by omega
    have h3 : i - n + n = i := by omega
    simp [h, h2, h3]
  · have h2 : i < n := by omega
    simp [h, h2]

theorem mul_xor (n a b : Nat) : (a ^^^ b) * 2 ^ n = a * 2 ^ n ^^^ b * 2 ^ n := by
  rw [← Nat.shiftLeft_eq, ← Nat.shiftLeft_eq, ← Nat.shiftLeft_eq, Nat.shiftLeft_xor_distrib]

theorem nm_one : ∀ (l b : Nat), b < 2 ^ 2 ^ l → nm l 1 b = b
  | 0, b, h => by
    have h' : b < 2 := h
    show (1 % 2) * (b % 2) = b
    omega
  | l + 1, b, hb => by
    have h1 : 1 < 2 ^ 2 ^ l := Nat.one_lt_two_pow (Nat.ne_of_gt (Nat.two_pow_pos l))
    unfold nm
    rw [Nat.div_eq_of_lt h1, Nat.mod_eq_of_lt h1, Nat.zero_xor, nm_zero, nm_zero, nm_one l _ (Nat.xor_lt_two_pow (div_lt hb) (mod_lt l b)), nm_one l _ (mod_lt l b), Nat.xor_zero,
      Nat.xor_assoc, Nat.xor_self, Nat.xor_zero, join_self]

theorem nm_one' : ∀ (l b : Nat), b < 2 ^ 2 ^ l → nm l b 1 = b
  | 0, b, h => by
    have h' : b < 2 := h
    show (b % 2) * (1 % 2) = b
    omega
  | l + 1, b, hb => by
    have h1 : 1 < 2 ^ 2 ^ l := Nat.one_lt_two_pow (Nat.ne_of_gt (Nat.two_pow_pos l))
    unfold nm
    rw [Nat.div_eq_of_lt h1, Nat.mod_eq_of_lt h1, Nat.zero_xor, nm_zero', nm_zero, nm_one' l _ (Nat.xor_lt_two_pow (div_lt hb) (mod_lt l b)), nm_one' l _ (mod_lt l b), Nat.xor_zero,
      Nat.xor_assoc, Nat.xor_self, Nat.xor_zero, join_self]

/-! ### The laws of a field, level by level -/
theorem nm_xor_left : ∀ (l a b c : Nat), nm l (a ^^^ b) c = nm l a c ^^^ nm l b c
  | 0, a, b, c => by
    show ((a ^^^ b) % 2) * (c % 2) = (a % 2) * (c % 2) ^^^ (b % 2) * (c % 2)
    have h := Nat.xor_mod_two_pow (a := a) (b := b) (n := 1)
    rw [Nat.pow_one] at h
    rw [h]
    rcases (by omega : a % 2 = 0 ∨ a % 2 = 1) with h | h <;> rcases (by omega : b % 2 = 0 ∨ b % 2 = 1) with h' | h' <;>
      rcases (by omega : c % 2 = 0 ∨ c % 2 = 1) with h2 | h2 <;> rw [h, h', h2] <;> decide
  | l + 1, a, b, c => by
    unfold nm
    have e : (a ^^^ b) / 2 ^ 2 ^ l ^^^ (a ^^^ b) % 2 ^ 2 ^ l = (a / 2 ^ 2 ^ l ^^^ a % 2 ^ 2 ^ l) ^^^ (b / 2 ^ 2 ^ l ^^^ b % 2 ^ 2 ^ l) := by
      rw [Nat.xor_div_two_pow, Nat.xor_mod_two_pow]; ac_rfl
    rw [e, Nat.xor_div_two_pow, Nat.xor_mod_two_pow]
    simp only [nm_xor_left l, mul_xor]
    ac_rfl
theorem nm_comm : ∀ (l a b : Nat), nm l a b = nm l b a
  | 0, a, b => Nat.mul_comm _ _
  | l + 1, a, b => by
    unfold nm
    rw [nm_comm l (a / 2 ^ 2 ^ l ^^^ a % 2 ^ 2 ^ l), nm_comm l (a % 2 ^ 2 ^ l), nm_comm l (a / 2 ^ 2 ^ l) (b / 2 ^ 2 ^ l)]
theorem nm_xor_right (l a b c : Nat) : nm l c (a ^^^ b) = nm l c a ^^^ nm l c b := by
  rw [nm_comm, nm_xor_left, nm_comm l a, nm_comm l b]
/-- The halves of a product. -/
theorem nm_div (l a b : Nat) : nm (l + 1) a b / 2 ^ 2 ^ l = nm l (a / 2 ^ 2 ^ l) (b / 2 ^ 2 ^ l) ^^^ (nm l (a / 2 ^ 2 ^ l) (b % 2 ^ 2 ^ l) ^^^ nm l (a % 2 ^ 2 ^ l) (b / 2 ^ 2 ^ l)) := by
  conv => lhs; unfold nm
  rw [Nat.xor_assoc, join_div _ _ _ (Nat.xor_lt_two_pow (nm_bd l _ _) (nm_bd l _ _))]
  simp only [nm_xor_left, nm_xor_right, Nat.xor_assoc]
  rw [Nat.xor_self, Nat.xor_zero]
  ac_rfl
theorem nm_mod (l a b : Nat) : nm (l + 1) a b % 2 ^ 2 ^ l = nm l (a % 2 ^ 2 ^ l) (b % 2 ^ 2 ^ l) ^^^ nm l (nm l (a / 2 ^ 2 ^ l) (b / 2 ^ 2 ^ l)) (2 ^ (2 ^ l - 1)) := by
  conv => lhs; unfold nm
  rw [Nat.xor_assoc, join_mod _ _ _ (Nat.xor_lt_two_pow (nm_bd l _ _) (nm_bd l _ _))]
theorem nm_assoc : ∀ (l a b c : Nat), nm l (nm l a b) c = nm l a (nm l b c)
  | 0, a, b, c => by
    show ((a % 2) * (b % 2) % 2) * (c % 2) = (a % 2) * ((b % 2) * (c % 2) % 2)
    rcases (by omega : a % 2 = 0 ∨ a % 2 = 1) with h | h <;> rcases (by omega : b % 2 = 0 ∨ b % 2 = 1) with h' | h' <;>
      rcases (by omega : c % 2 = 0 ∨ c % 2 = 1) with h2 | h2 <;> rw [h, h', h2]
  | l + 1, a, b, c => by
    have lc : ∀ x y z : Nat, nm l x (nm l y z) = nm l y (nm l x z) := fun x y z => by
      rw [← nm_assoc l, nm_comm l x, nm_assoc l]
    rw [← join_self (2 ^ l) (nm (l + 1) (nm (l + 1) a b) c), ← join_self (2 ^ l) (nm (l + 1) a (nm (l + 1) b c))]
    simp only [nm_div, nm_mod]
    generalize a / 2 ^ 2 ^ l = a1
    generalize a % 2 ^ 2 ^ l = a0
    generalize b / 2 ^ 2 ^ l = b1
    generalize b % 2 ^ 2 ^ l = b0
    generalize c / 2 ^ 2 ^ l = c1
    generalize c % 2 ^ 2 ^ l = c0
    generalize 2 ^ (2 ^ l - 1) = t
    congr 1
    · congr 1
      simp only [nm_xor_right, nm_assoc l, nm_comm l, lc]
      ac_rfl
    · simp only [nm_xor_right, nm_assoc l, nm_comm l, lc]
      ac_rfl

/-! ### Go's whole numbers -/
theorem xor_nat (a b : Nat) (ha : a < 2 ^ 62) (hb : b < 2 ^ 62) : bits .xor .i64 (a : Int) (b : Int) = ((a ^^^ b : Nat) : Int) := by
  have hx : a ^^^ b < 2 ^ 62 := Nat.xor_lt_two_pow ha hb
  have hB : IntKind.i64.bits = 64 := rfl
  have ha' : a % 2 ^ IntKind.i64.bits = a := Nat.mod_eq_of_lt (by rw [hB]; omega)
  have hb' : b % 2 ^ IntKind.i64.bits = b := Nat.mod_eq_of_lt (by rw [hB]; omega)
  simp only [bits, BitVec.ofInt_natCast, BitVec.toNat_xor, BitVec.toNat_ofNat, ha', hb']
  rw [IntKind.wrap_i64]
  omega

theorem and_nat (a b : Nat) (ha : a < 2 ^ 62) (hb : b < 2 ^ 62) : bits .and .i64 (a : Int) (b : Int) = ((a &&& b : Nat) : Int) := by
  have hx : a &&& b < 2 ^ 62 := Nat.and_lt_two_pow _ hb
  have hB : IntKind.i64.bits = 64 := rfl
  have ha' : a % 2 ^ IntKind.i64.bits = a := Nat.mod_eq_of_lt (by rw [hB]; omega)
  have hb' : b % 2 ^ IntKind.i64.bits = b := Nat.mod_eq_of_lt (by rw [hB]; omega)
  simp only [bits, BitVec.ofInt_natCast, BitVec.toNat_and, BitVec.toNat_ofNat, ha', hb']
  rw [IntKind.wrap_i64]
  omega

theorem mask_nat (a n : Nat) (ha : a < 2 ^ 62) (hn : n ≤ 61) : bits .and .i64 (a : Int) (2 ^ n - 1) = ((a % 2 ^ n : Nat) : Int) := by
  have hp : 2 ^ n ≤ 2 ^ 61 := Nat.pow_le_pow_right (by decide) hn
  have h1 : ((2 : Int) ^ n - 1) = ((2 ^ n - 1 : Nat) : Int) := by
    rw [Int.natCast_sub (Nat.two_pow_pos n)]; simp
  rw [h1, and_nat _ _ ha (by omega), Nat.and_two_pow_sub_one_eq_mod]

theorem shr_nat (a n : Nat) (hn : n ≤ 64) : shr .i64 (a : Int) (n : Int) = ((a / 2 ^ n : Nat) : Int) := by
  unfold shr
  have : min ((n : Int).toNat) IntKind.i64.bits = n := by simp [IntKind.bits]; omega
  rw [this]
  simp

theorem shl_nat (a n : Nat) (hn : n ≤ 64) (h : a * 2 ^ n < 2 ^ 62) : shl .i64 (a : Int) (n : Int) = ((a * 2 ^ n : Nat) : Int) := by
  unfold shl
  have : min ((n : Int).toNat) IntKind.i64.bits = n := by simp [IntKind.bits]; omega
  rw [this, IntKind.wrap_i64]
  have e : (a : Int) * 2 ^ n = ((a * 2 ^ n : Nat) : Int) := by simp
  rw [e]
  omega
end Go.Proofs.Ytoeddjbhippdlaa.Nim
