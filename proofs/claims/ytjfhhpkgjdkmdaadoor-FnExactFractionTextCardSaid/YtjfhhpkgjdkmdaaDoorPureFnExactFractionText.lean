/- For any numerator and denominator, the program's text of the fraction is the reference's. -/
import Derived.Test.YtjfhhpkgjdkmdaaDoorQFnExactFractionTextx2
import Derived.Lib.ItoaLen
namespace Go.Proofs.YtjfhhpkgjdkmdaaDoor.Pure
open Go.RowKit Go.Proofs.YtjfhhpkgjdkmdaaDoor.QFnExactFractionText Go.Proofs.YtjfhhpkgjdkmdaaDoorW.PrintWords Go.Proofs.YtjfhhpkgjdkmdaaDoorW.PrintLast
set_option linter.unusedVariables false
set_option linter.unusedSimpArgs false
def laws_FnExactFractionText.Pure : Prop := ∀ (a0_0 : Int) (a0_1 : Int), ((Lit.int .i64 a0_0).wf = true ∧ (Lit.int .i64 a0_1).wf = true) → ∃ k, laws_FnExactFractionText.f k a0_0 a0_1 = some true
namespace LFnExactFractionText
/-! ### the greatest common divisors of both sides -/
theorem abs_same (a : Int) : spec_l1Abs.f a = impl_size.f a := by
  unfold spec_l1Abs.f spec_l1Most.f impl_size.f mx
  generalize wrap64 (-a) = b
  by_cases h : a > b
  · rw [if_pos h, if_neg (by omega)]; rfl
  · rw [if_neg h]
    by_cases g : a < b
    · rw [if_pos g]; rfl
    · rw [if_neg g]
      have : a = b := by omega
      rw [this]; rfl
theorem gcd_same : ∀ (k : Nat) (a b : Int), spec_shGcd.l0 k a b = impl_gcd.l0 k a b
  | 0, _, _ => rfl
  | k + 1, a, b => by
    simp only [spec_shGcd.l0, impl_gcd.l0, abs_same, gcd_same k]
theorem gcd_some : ∀ (d k : Nat) (a b : Int), b.natAbs ≤ d → d < k → ∃ r, impl_gcd.l0 k a b = some r := by
  intro d
  induction d with
  | zero =>
    intro k a b hb hk
    obtain ⟨k, rfl⟩ : ∃ m, k = m + 1 := ⟨k - 1, by omega⟩
    simp only [impl_gcd.l0]
    rw [if_pos (by omega)]
    exact ⟨_, rfl⟩
  | succ d ih =>
    intro k a b hb hk
    obtain ⟨k, rfl⟩ : ∃ m, k = m + 1 := ⟨k - 1, by omega⟩
    simp only [impl_gcd.l0]
    by_cases h : b = 0
    · rw [if_pos h]
      exact ⟨_, rfl⟩
    · rw [if_neg h]
      refine ih k _ _ ?_ (by omega)
      rw [Int.natAbs_tmod]
      have := Nat.mod_lt a.natAbs (show b.natAbs > 0 by omega)
      omega

theorem in_eq (e a b : Int) : spec_l1In.f e a b = impl_in.f e a b := rfl
theorem in_some (e a b : Int) : impl_in.f e a b = some (decide (a ≤ e ∧ e ≤ b)) := by
  unfold impl_in.f
  by_cases h : e ≥ a
  · rw [if_pos h]; congr 1; simp; omega
  · rw [if_neg h]; congr 1; simp; omega
theorem good_same (k : Nat) (a b : Int) : spec_shGood.f k a b = impl_IsFraction.f k a b := by
  unfold spec_shGood.f impl_IsFraction.f spec_shGcd.f impl_gcd.f
  simp only [in_eq, gcd_same]
theorem good_some (a b : Int) (k : Nat) (hk : 1000000 < k) : ∃ r, impl_IsFraction.f k a b = some r := by
  unfold impl_IsFraction.f impl_gcd.f
  simp only [in_some, Option.bind_some]
  by_cases h : 1 ≤ b ∧ b ≤ 1000000
  · rw [if_pos (decide_eq_true h)]
    by_cases h2 : -1000000 ≤ a ∧ a ≤ 1000000
    · rw [if_pos (decide_eq_true h2)]
      obtain ⟨r, hr⟩ := gcd_some 1000000 k a b (by omega) hk
      rw [hr]
      exact ⟨_, rfl⟩
    · rw [if_neg (by simpa using h2)]; exact ⟨_, rfl⟩
  · rw [if_neg (by simpa using h)]; exact ⟨_, rfl⟩
theorem good_pos {a b : Int} {k : Nat} (h : impl_IsFraction.f k a b = some true) : 1 ≤ b ∧ b ≤ 1000000 ∧ -1000000 ≤ a ∧ a ≤ 1000000 := by
  unfold impl_IsFraction.f at h
  simp only [in_some, Option.bind_some] at h
  by_cases h1 : 1 ≤ b ∧ b ≤ 1000000
  · rw [if_pos (decide_eq_true h1)] at h
    by_cases h2 : -1000000 ≤ a ∧ a ≤ 1000000
    · exact ⟨h1.1, h1.2, h2.1, h2.2⟩
    · rw [if_neg (by simpa using h2)] at h; simp at h
  · rw [if_neg (by simpa using h1)] at h; simp at h

/-! ### numerals -/
theorem ba_app (a b : List UInt8) : (⟨a.toArray⟩ : ByteArray) ++ ⟨b.toArray⟩ = ⟨(a ++ b).toArray⟩ := by
  apply ByteArray.ext
  rw [ByteArray.data_append, List.append_toArray]
theorem ba_size (a : List UInt8) : (⟨a.toArray⟩ : ByteArray).size = a.length := by show a.toArray.size = _; simp
theorem one_digit (n : Nat) (h : n < 10) : strOfNums [(wrap64 (48 + (n : Int))) % 256] = ⟨[UInt8.ofNat (48 + n)].toArray⟩ := by
  have e : (wrap64 (48 + (n : Int))) % 256 = ((48 + n : Nat) : Int) := by unfold wrap64; omega
  rw [e]
  match n, h with
  | 0, _ | 1, _ | 2, _ | 3, _ | 4, _ | 5, _ | 6, _ | 7, _ | 8, _ | 9, _ => rfl
  | n + 10, h => exact absurd h (by omega)
theorem num_ev : ∀ (u k : Nat), u ≤ 1000000 → u < k → spec_l1Num.f k (u : Int) = some ⟨(Lib.decDigits u).toArray⟩ := by
  intro u
  induction u using Nat.strongRecOn with
  | ind u ih =>
    intro k hu hk
    obtain ⟨k, rfl⟩ : ∃ m, k = m + 1 := ⟨k - 1, by omega⟩
    simp only [spec_l1Num.f]
    by_cases h : u < 10
    · rw [if_pos (by omega), one_digit u h, Lib.decDigits_one h]
    · have e1 : wrap64 (Int.tdiv (u : Int) 10) = ((u / 10 : Nat) : Int) := by
        rw [Int.tdiv_eq_ediv_of_nonneg (by omega)]; unfold wrap64; omega
      have e2 : Int.tmod (u : Int) 10 = ((u % 10 : Nat) : Int) := by
        rw [Int.tmod_eq_emod_of_nonneg (by omega)]; omega
      rw [if_neg (by omega), e1, e2, ih (u / 10) (by omega) k (by omega) (by omega)]
      have l1 := Lib.nDigits_le20 (u / 10) (by omega)
      rw [← Lib.decDigits_length] at l1
      have g : (⟨(Lib.decDigits (u / 10)).toArray⟩ : ByteArray).size + (strOfNums [(wrap64 (48 + ((u % 10 : Nat) : Int))) % 256]).size ≤ 9223372036854775807 := by
        rw [one_digit _ (by omega), ba_size, ba_size, List.length_singleton]; omega
      simp only [Option.bind_some, if_pos g]
      rw [one_digit _ (by omega), ba_app]
      have ed : Lib.decDigits u = Lib.decDigits (u / 10) ++ [UInt8.ofNat (48 + u % 10)] := by
        conv => lhs; rw [Lib.decDigits]
        rw [dif_neg h]
      rw [ed]
theorem digits_len (u : Nat) (h : u ≤ 1000000) : (Lib.decDigits u).length ≤ 20 := by
  rw [Lib.decDigits_length]; exact Lib.nDigits_le20 u (by omega)
theorem itoa_len (a : Int) (h : -1000000 ≤ a ∧ a ≤ 1000000) : (Lib.itoa a).length ≤ 21 := Lib.itoa_length_le a (by omega) (by omega)

theorem int_ev (a : Int) (k : Nat) (h : -1000000 ≤ a ∧ a ≤ 1000000) (hk : 1000000 < k) : spec_l1Int.f k a = some ⟨(Lib.itoa a).toArray⟩ := by
  unfold spec_l1Int.f Lib.itoa
  by_cases c : a < 0
  · have e : wrap64 (-a) = ((a.natAbs : Nat) : Int) := by unfold wrap64; omega
    have l1 := digits_len a.natAbs (by omega)
    have g : 1 + (⟨(Lib.decDigits a.natAbs).toArray⟩ : ByteArray).size ≤ 9223372036854775807 := by rw [ba_size]; omega
    rw [if_pos c, if_pos c, e, num_ev _ k (by omega) (by omega)]
    simp only [Option.bind_some, if_pos g]
    rw [show (⟨#[45]⟩ : ByteArray) = ⟨[45].toArray⟩ from rfl, ba_app]
    rfl
  · have e : a = ((a.toNat : Nat) : Int) := by omega
    rw [if_neg c, if_neg c]
    conv => lhs; rw [e]
    rw [num_ev _ k (by omega) (by omega)]
    rfl
theorem itoa_f (a : Int) (k : Nat) (h : -1000000 ≤ a ∧ a ≤ 1000000) : strconv_Itoa_60.f k a = some ⟨(Lib.itoa a).toArray⟩ := by
  unfold strconv_Itoa_60.f
  rw [if_pos (by omega)]
/-- The text of a fraction. -/
def ftext (a b : Int) : List UInt8 := if b = 1 then Lib.itoa a else Lib.itoa a ++ 47 :: Lib.itoa b
theorem itoa_nat (b : Nat) : Lib.itoa (b : Int) = Lib.decDigits b := by
  unfold Lib.itoa
  rw [if_neg (by omega), Int.toNat_natCast]
theorem specText_ev (a b : Int) (k : Nat) (ha : -1000000 ≤ a ∧ a ≤ 1000000) (hb : 1 ≤ b ∧ b ≤ 1000000) (hk : 1000000 < k) : spec_shText.f k a b = some ⟨(ftext a b).toArray⟩ := by
  unfold spec_shText.f ftext
  rw [int_ev a k ha hk]
  by_cases c : b = 1
  · rw [if_pos c, if_pos c]; rfl
  · have e : b = ((b.toNat : Nat) : Int) := by omega
    have l1 := itoa_len a ha
    have l2 := digits_len b.toNat (by omega)
    have nb := num_ev b.toNat k (by omega) (by omega)
    rw [← e] at nb
    rw [if_neg c, if_neg c]
    simp only [Option.bind_some]
    rw [if_pos (by rw [ba_size]; omega), nb]
    simp only [Option.bind_some]
    rw [show (⟨#[47]⟩ : ByteArray) = ⟨[47].toArray⟩ from rfl, ba_app, if_pos (by rw [ba_size, ba_size, List.length_append, List.length_singleton]; omega), ba_app]
    conv => rhs; rw [e, itoa_nat]
    rw [List.append_assoc]
    rfl
theorem implText_ev (a b : Int) (k : Nat) (ha : -1000000 ≤ a ∧ a ≤ 1000000) (hb : 1 ≤ b ∧ b ≤ 1000000) : impl_fractionText.f k a b = some ⟨(ftext a b).toArray⟩ := by
  unfold impl_fractionText.f ftext
  rw [itoa_f a k ha, itoa_f b k (by omega)]
  by_cases c : b = 1
  · rw [if_pos c, if_pos c]; rfl
  · have l1 := itoa_len a ha
    have l2 := itoa_len b (by omega)
    rw [if_neg c, if_neg c]
    simp only [Option.bind_some]
    rw [if_pos (by rw [ba_size]; omega), show (⟨#[47]⟩ : ByteArray) = ⟨[47].toArray⟩ from rfl, ba_app, if_pos (by rw [ba_size, ba_size, List.length_append, List.length_singleton]; omega), ba_app, List.append_assoc]
    rfl

theorem proved : laws_FnExactFractionText.Pure := by
  intro a b _
  obtain ⟨r, hr⟩ := good_some a b 1000001 (by omega)
  refine ⟨1000001, ?_⟩
  unfold laws_FnExactFractionText.f spec_FractionText.f impl_FractionText.f laws_toFraction.f
  simp only [Option.bind_some, good_same, hr]
  cases r with
  | false => simp
  | true =>
    have hb := good_pos hr
    simp only [if_true, specText_ev a b 1000001 ⟨hb.2.2.1, hb.2.2.2⟩ ⟨hb.1, hb.2.1⟩ (by omega), implText_ev a b 1000001 ⟨hb.2.2.1, hb.2.2.2⟩ ⟨hb.1, hb.2.1⟩, Option.bind_some]
    simp

end LFnExactFractionText
theorem FnExactFractionText : laws_FnExactFractionText.Pure := LFnExactFractionText.proved
end Go.Proofs.YtjfhhpkgjdkmdaaDoor.Pure
