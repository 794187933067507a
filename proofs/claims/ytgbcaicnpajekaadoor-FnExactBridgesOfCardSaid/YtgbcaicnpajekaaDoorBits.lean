/- Sets of small numbers as the bits of a number: what Go's operations on 64 bits do to them; no program in sight. -/
import Derived.Laws.BitsLemmas
import Derived.Test.YtgbcaicnpajekaaDoorWWords
import Derived.Test.YtgbcaicnpajekaaDoorWMore
namespace Go.Proofs.YtgbcaicnpajekaaDoor.Bits
open Go.RowKit Go.Proofs.YtgbcaicnpajekaaDoorW.PrintWords

theorem u64_bits : IntKind.u64.bits = 64 := rfl
theorem u64_wrap (n : Int) : IntKind.u64.wrap n = n % 18446744073709551616 := by simp [IntKind.wrap, IntKind.bits, IntKind.signed]
theorem u64_small (n : Nat) (h : n < 2 ^ 64) : IntKind.u64.wrap (n : Int) = (n : Int) := by rw [u64_wrap]; omega

theorem or_u (a b : Nat) (ha : a < 2 ^ 64) (hb : b < 2 ^ 64) : bits .or .u64 (a : Int) (b : Int) = ((a ||| b : Nat) : Int) := by
  have hx : a ||| b < 2 ^ 64 := Nat.or_lt_two_pow ha hb
  have ha' : a % 2 ^ IntKind.u64.bits = a := Nat.mod_eq_of_lt (by rw [u64_bits]; omega)
  have hb' : b % 2 ^ IntKind.u64.bits = b := Nat.mod_eq_of_lt (by rw [u64_bits]; omega)
  simp only [bits, BitVec.ofInt_natCast, BitVec.toNat_or, BitVec.toNat_ofNat, ha', hb']
  exact u64_small _ hx
theorem and_u (a b : Nat) (ha : a < 2 ^ 64) (hb : b < 2 ^ 64) : bits .and .u64 (a : Int) (b : Int) = ((a &&& b : Nat) : Int) := by
  have hx : a &&& b < 2 ^ 64 := Nat.and_lt_two_pow _ hb
  have ha' : a % 2 ^ IntKind.u64.bits = a := Nat.mod_eq_of_lt (by rw [u64_bits]; omega)
  have hb' : b % 2 ^ IntKind.u64.bits = b := Nat.mod_eq_of_lt (by rw [u64_bits]; omega)
  simp only [bits, BitVec.ofInt_natCast, BitVec.toNat_and, BitVec.toNat_ofNat, ha', hb']
  exact u64_small _ hx
/-- The bits of the one without those of the other. -/
theorem andNot_u (a b : Nat) (ha : a < 2 ^ 64) : ∃ c : Nat, bits .andNot .u64 (a : Int) (b : Int) = (c : Int) ∧ c < 2 ^ 64 ∧ ∀ j, c.testBit j = (a.testBit j && !b.testBit j) := by
  let x := BitVec.ofInt IntKind.u64.bits (a : Int)
  let y := BitVec.ofInt IntKind.u64.bits (b : Int)
  have hlt : (x &&& ~~~y).toNat < 2 ^ 64 := (x &&& ~~~y).isLt
  refine ⟨(x &&& ~~~y).toNat, u64_small _ hlt, hlt, fun j => ?_⟩
  rw [BitVec.testBit_toNat, BitVec.getLsbD_and, BitVec.getLsbD_not]
  have hx : x.getLsbD j = (decide (j < 64) && a.testBit j) := by
    show (BitVec.ofInt IntKind.u64.bits (a : Int)).getLsbD j = _
    rw [BitVec.ofInt_natCast, BitVec.getLsbD_ofNat]; rfl
  have hy : y.getLsbD j = (decide (j < 64) && b.testBit j) := by
    show (BitVec.ofInt IntKind.u64.bits (b : Int)).getLsbD j = _
    rw [BitVec.ofInt_natCast, BitVec.getLsbD_ofNat]; rfl
  rw [hx, hy, u64_bits]
  by_cases h : j < 64
  · simp [h]
  · have : a.testBit j = false := Nat.testBit_lt_two_pow (Nat.lt_of_lt_of_le ha (Nat.pow_le_pow_right (by decide) (by omega)))
    simp [h, this]

theorem shl_one (j : Nat) (h : j < 64) : shl .u64 1 (j : Int) = ((2 ^ j : Nat) : Int) := by
  unfold shl
  have hm : min ((j : Int).toNat) IntKind.u64.bits = j := by rw [u64_bits]; omega
  have e : (1 : Int) * 2 ^ j = ((2 ^ j : Nat) : Int) := by simp
  rw [hm, e]
  exact u64_small _ (Nat.pow_lt_pow_right (by decide) h)
theorem shr_u (a j : Nat) (h : j < 64) : shr .u64 (a : Int) (j : Int) = ((a / 2 ^ j : Nat) : Int) := by
  unfold shr
  have hm : min ((j : Int).toNat) IntKind.u64.bits = j := by rw [u64_bits]; omega
  rw [hm]
  simp
/-- Is a number in the set. -/
theorem bit_u (a j : Nat) (ha : a < 2 ^ 64) (h : j < 64) : bits .and .u64 (shr .u64 (a : Int) (j : Int)) 1 = if a.testBit j then 1 else 0 := by
  have hd : a / 2 ^ j < 2 ^ 64 := Nat.lt_of_le_of_lt (Nat.div_le_self _ _) ha
  have := and_u (a / 2 ^ j) 1 hd (by decide)
  rw [shr_u a j h]
  simp only [Int.cast_ofNat_Int] at this
  rw [this, Nat.and_one_is_mod, Nat.testBit, Nat.shiftRight_eq_div_pow, Nat.and_comm, Nat.and_one_is_mod]
  rcases (by omega : a / 2 ^ j % 2 = 0 ∨ a / 2 ^ j % 2 = 1) with h | h <;> simp [h]

theorem bit1 (a j : Nat) (ha : a < 2 ^ 64) (h : j < 64) : (bits .and .u64 (shr .u64 (a : Int) (j : Int)) 1 = 1) = (a.testBit j = true) := by
  rw [bit_u a j ha h]
  cases a.testBit j <;> simp
theorem bit0 (a j : Nat) (ha : a < 2 ^ 64) (h : j < 64) : (bits .and .u64 (shr .u64 (a : Int) (j : Int)) 1 = 0) = (a.testBit j = false) := by
  rw [bit_u a j ha h]
  cases a.testBit j <;> simp
theorem add_u (s a b : Nat) (hs : s < 2 ^ 64) (ha : a < 64) (hb : b < 64) : bits .or .u64 (s : Int) (bits .or .u64 (shl .u64 1 (a : Int)) (shl .u64 1 (b : Int))) = ((s ||| (2 ^ a ||| 2 ^ b) : Nat) : Int) := by
  have h1 : 2 ^ a < 2 ^ 64 := Nat.pow_lt_pow_right (by decide) ha
  have h2 : 2 ^ b < 2 ^ 64 := Nat.pow_lt_pow_right (by decide) hb
  rw [shl_one a ha, shl_one b hb, or_u _ _ h1 h2, or_u _ _ hs (Nat.or_lt_two_pow h1 h2)]
theorem add1_u (s a : Nat) (hs : s < 2 ^ 64) (ha : a < 64) : bits .or .u64 (s : Int) (shl .u64 1 (a : Int)) = ((s ||| 2 ^ a : Nat) : Int) := by
  rw [shl_one a ha, or_u _ _ hs (Nat.pow_lt_pow_right (by decide) ha)]

/-- The set of the numbers below n that are told. -/
def mk : Nat → (Nat → Bool) → Nat
  | 0, _ => 0
  | n + 1, f => mk n f ||| (if f n then 2 ^ n else 0)
theorem mk_bit : ∀ (n : Nat) (f : Nat → Bool) (i : Nat), (mk n f).testBit i = (decide (i < n) && f i)
  | 0, f, i => by simp [mk]
  | n + 1, f, i => by
    unfold mk
    rw [Nat.testBit_or, mk_bit n f i]
    by_cases h : i = n
    · subst h
      cases hf : f i <;> simp [Nat.testBit_two_pow_self]
    · have e : decide (i < n + 1) = decide (i < n) := by
        by_cases g : i < n
        · rw [decide_eq_true g, decide_eq_true (by omega)]
        · rw [decide_eq_false g, decide_eq_false (by omega)]
      rw [e]
      cases hf : f n
      · simp
      · have : (2 ^ n).testBit i = false := by rw [Nat.testBit_two_pow]; simp; omega
        simp [this]
theorem mk_lt (n : Nat) (f : Nat → Bool) : mk n f < 2 ^ n := by
  induction n with
  | zero => simp [mk]
  | succ n ih =>
    unfold mk
    refine Nat.or_lt_two_pow (Nat.lt_of_lt_of_le ih (Nat.pow_le_pow_right (by decide) (by omega))) ?_
    split
    · exact Nat.pow_lt_pow_right (by decide) (by omega)
    · exact Nat.two_pow_pos _
theorem bits_ext {a b : Nat} (h : ∀ j, a.testBit j = b.testBit j) : a = b := Nat.eq_of_testBit_eq h
theorem pair_bit (a b j : Nat) : (2 ^ a ||| 2 ^ b).testBit j = (decide (j = a) || decide (j = b)) := by
  rw [Nat.testBit_or, Nat.testBit_two_pow, Nat.testBit_two_pow]
  congr 1 <;> exact decide_eq_decide.2 ⟨fun h => h.symm, fun h => h.symm⟩
/-- A set told by its bits, as a list of bools. -/
def bl (n M : Nat) : List Bool := (List.range n).map fun i => M.testBit i
theorem bl_length (n M : Nat) : (bl n M).length = n := by simp [bl]
theorem bl_rd (n M i : Nat) (h : i < n) : rdOf false (bl n M) (i : Int) = M.testBit i := by
  simp [rdOf, bl, List.getD_eq_getElem?_getD, h]
end Go.Proofs.YtgbcaicnpajekaaDoor.Bits
