/- For any string, the program's fraction is the reference's. -/
import Derived.Test.YtjfhhpkgjdkmdaaDoorQFnExactParseFractionx4
import Derived.Lib.AtoiAll
import Derived.Lib.IndexMore
import Derived.Lib.ItoaLen
namespace Go.Proofs.YtjfhhpkgjdkmdaaDoor.Pure
open Go.RowKit Go.Proofs.YtjfhhpkgjdkmdaaDoor.QFnExactParseFraction Go.Proofs.YtjfhhpkgjdkmdaaDoorW.PrintWords Go.Proofs.YtjfhhpkgjdkmdaaDoorW.PrintLast
set_option linter.unusedVariables false
set_option linter.unusedSimpArgs false
def laws_FnExactParseFraction.Pure : Prop := ∀ (a0 : ByteArray), a0.size ≤ 140737488351232 → ∃ k, laws_FnExactParseFraction.f k a0 = some true
namespace LFnExactParseFraction
/-! ### small words -/
theorem wsucc (i : Nat) (h : i < 2 ^ 62) : wrap64 ((i : Int) + 1) = ((i + 1 : Nat) : Int) := by unfold wrap64; omega

/-! ### the greatest common divisors of both sides -/
theorem abs_same (a : Int) : spec_l1Abs.f a = impl_size.f a := by
  unfold spec_l1Abs.f spec_l1Most.f impl_size.f mx
  generalize wrap64 (-a) = b
  by_cases h : a > b
  · rw [if_pos h, if_neg (by omega)]; rfl
  · rw [if_neg h]
    by_cases g : a < b
    · rw [if_pos g]; rfl
    · rw [if_neg g]
      have : a = b := by omega
      rw [this]; rfl
theorem gcd_same : ∀ (k : Nat) (a b : Int), spec_shGcd.l0 k a b = impl_gcd.l0 k a b
  | 0, _, _ => rfl
  | k + 1, a, b => by
    simp only [spec_shGcd.l0, impl_gcd.l0, abs_same, gcd_same k]
theorem gcd_some : ∀ (d k : Nat) (a b : Int), b.natAbs ≤ d → d < k → ∃ r, impl_gcd.l0 k a b = some r := by
  intro d
  induction d with
  | zero =>
    intro k a b hb hk
    obtain ⟨k, rfl⟩ : ∃ m, k = m + 1 := ⟨k - 1, by omega⟩
    simp only [impl_gcd.l0]
    rw [if_pos (by omega)]
    exact ⟨_, rfl⟩
  | succ d ih =>
    intro k a b hb hk
    obtain ⟨k, rfl⟩ : ∃ m, k = m + 1 := ⟨k - 1, by omega⟩
    simp only [impl_gcd.l0]
    by_cases h : b = 0
    · rw [if_pos h]
      exact ⟨_, rfl⟩
    · rw [if_neg h]
      refine ih k _ _ ?_ (by omega)
      rw [Int.natAbs_tmod]
      have := Nat.mod_lt a.natAbs (show b.natAbs > 0 by omega)
      omega

theorem in_eq (e a b : Int) : spec_l1In.f e a b = impl_in.f e a b := rfl
theorem in_some (e a b : Int) : impl_in.f e a b = some (decide (a ≤ e ∧ e ≤ b)) := by
  unfold impl_in.f
  by_cases h : e ≥ a
  · rw [if_pos h]; congr 1; simp; omega
  · rw [if_neg h]; congr 1; simp; omega
theorem good_same (k : Nat) (a b : Int) : spec_shGood.f k a b = impl_IsFraction.f k a b := by
  unfold spec_shGood.f impl_IsFraction.f spec_shGcd.f impl_gcd.f
  simp only [in_eq, gcd_same]
theorem good_some (a b : Int) (k : Nat) (hk : 1000000 < k) : ∃ r, impl_IsFraction.f k a b = some r := by
  unfold impl_IsFraction.f impl_gcd.f
  simp only [in_some, Option.bind_some]
  by_cases h : 1 ≤ b ∧ b ≤ 1000000
  · rw [if_pos (decide_eq_true h)]
    by_cases h2 : -1000000 ≤ a ∧ a ≤ 1000000
    · rw [if_pos (decide_eq_true h2)]
      obtain ⟨r, hr⟩ := gcd_some 1000000 k a b (by omega) hk
      rw [hr]
      exact ⟨_, rfl⟩
    · rw [if_neg (by simpa using h2)]; exact ⟨_, rfl⟩
  · rw [if_neg (by simpa using h)]; exact ⟨_, rfl⟩
theorem good_pos {a b : Int} {k : Nat} (h : impl_IsFraction.f k a b = some true) : 1 ≤ b ∧ b ≤ 1000000 ∧ -1000000 ≤ a ∧ a ≤ 1000000 := by
  unfold impl_IsFraction.f at h
  simp only [in_some, Option.bind_some] at h
  by_cases h1 : 1 ≤ b ∧ b ≤ 1000000
  · rw [if_pos (decide_eq_true h1)] at h
    by_cases h2 : -1000000 ≤ a ∧ a ≤ 1000000
    · exact ⟨h1.1, h1.2, h2.1, h2.2⟩
    · rw [if_neg (by simpa using h2)] at h; simp at h
  · rw [if_neg (by simpa using h1)] at h; simp at h

/-! ### numerals -/
theorem ba_app (a b : List UInt8) : (⟨a.toArray⟩ : ByteArray) ++ ⟨b.toArray⟩ = ⟨(a ++ b).toArray⟩ := by
  apply ByteArray.ext
  rw [ByteArray.data_append, List.append_toArray]
theorem ba_size (a : List UInt8) : (⟨a.toArray⟩ : ByteArray).size = a.length := by show a.toArray.size = _; simp
theorem one_digit (n : Nat) (h : n < 10) : strOfNums [(wrap64 (48 + (n : Int))) % 256] = ⟨[UInt8.ofNat (48 + n)].toArray⟩ := by
  have e : (wrap64 (48 + (n : Int))) % 256 = ((48 + n : Nat) : Int) := by unfold wrap64; omega
  rw [e]
  match n, h with
  | 0, _ | 1, _ | 2, _ | 3, _ | 4, _ | 5, _ | 6, _ | 7, _ | 8, _ | 9, _ => rfl
  | n + 10, h => exact absurd h (by omega)
theorem num_ev : ∀ (u k : Nat), u ≤ 1000000 → u < k → spec_l1Num.f k (u : Int) = some ⟨(Lib.decDigits u).toArray⟩ := by
  intro u
  induction u using Nat.strongRecOn with
  | ind u ih =>
    intro k hu hk
    obtain ⟨k, rfl⟩ : ∃ m, k = m + 1 := ⟨k - 1, by omega⟩
    simp only [spec_l1Num.f]
    by_cases h : u < 10
    · rw [if_pos (by omega), one_digit u h, Lib.decDigits_one h]
    · have e1 : wrap64 (Int.tdiv (u : Int) 10) = ((u / 10 : Nat) : Int) := by
        rw [Int.tdiv_eq_ediv_of_nonneg (by omega)]; unfold wrap64; omega
      have e2 : Int.tmod (u : Int) 10 = ((u % 10 : Nat) : Int) := by
        rw [Int.tmod_eq_emod_of_nonneg (by omega)]; omega
      rw [if_neg (by omega), e1, e2, ih (u / 10) (by omega) k (by omega) (by omega)]
      have l1 := Lib.nDigits_le20 (u / 10) (by omega)
      rw [← Lib.decDigits_length] at l1
      have g : (⟨(Lib.decDigits (u / 10)).toArray⟩ : ByteArray).size + (strOfNums [(wrap64 (48 + ((u % 10 : Nat) : Int))) % 256]).size ≤ 9223372036854775807 := by
        rw [one_digit _ (by omega), ba_size, ba_size, List.length_singleton]; omega
      simp only [Option.bind_some, if_pos g]
      rw [one_digit _ (by omega), ba_app]
      have ed : Lib.decDigits u = Lib.decDigits (u / 10) ++ [UInt8.ofNat (48 + u % 10)] := by
        conv => lhs; rw [Lib.decDigits]
        rw [dif_neg h]
      rw [ed]
theorem digits_len (u : Nat) (h : u ≤ 1000000) : (Lib.decDigits u).length ≤ 20 := by
  rw [Lib.decDigits_length]; exact Lib.nDigits_le20 u (by omega)
theorem itoa_len (a : Int) (h : -1000000 ≤ a ∧ a ≤ 1000000) : (Lib.itoa a).length ≤ 21 := Lib.itoa_length_le a (by omega) (by omega)

theorem int_ev (a : Int) (k : Nat) (h : -1000000 ≤ a ∧ a ≤ 1000000) (hk : 1000000 < k) : spec_l1Int.f k a = some ⟨(Lib.itoa a).toArray⟩ := by
  unfold spec_l1Int.f Lib.itoa
  by_cases c : a < 0
  · have e : wrap64 (-a) = ((a.natAbs : Nat) : Int) := by unfold wrap64; omega
    have l1 := digits_len a.natAbs (by omega)
    have g : 1 + (⟨(Lib.decDigits a.natAbs).toArray⟩ : ByteArray).size ≤ 9223372036854775807 := by rw [ba_size]; omega
    rw [if_pos c, if_pos c, e, num_ev _ k (by omega) (by omega)]
    simp only [Option.bind_some, if_pos g]
    rw [show (⟨#[45]⟩ : ByteArray) = ⟨[45].toArray⟩ from rfl, ba_app]
    rfl
  · have e : a = ((a.toNat : Nat) : Int) := by omega
    rw [if_neg c, if_neg c]
    conv => lhs; rw [e]
    rw [num_ev _ k (by omega) (by omega)]
    rfl
theorem itoa_f (a : Int) (k : Nat) (h : -1000000 ≤ a ∧ a ≤ 1000000) : strconv_Itoa_60.f k a = some ⟨(Lib.itoa a).toArray⟩ := by
  unfold strconv_Itoa_60.f
  rw [if_pos (by omega)]
/-- The text of a fraction. -/
def ftext (a b : Int) : List UInt8 := if b = 1 then Lib.itoa a else Lib.itoa a ++ 47 :: Lib.itoa b
theorem itoa_nat (b : Nat) : Lib.itoa (b : Int) = Lib.decDigits b := by
  unfold Lib.itoa
  rw [if_neg (by omega), Int.toNat_natCast]
theorem specText_ev (a b : Int) (k : Nat) (ha : -1000000 ≤ a ∧ a ≤ 1000000) (hb : 1 ≤ b ∧ b ≤ 1000000) (hk : 1000000 < k) : spec_shText.f k a b = some ⟨(ftext a b).toArray⟩ := by
  unfold spec_shText.f ftext
  rw [int_ev a k ha hk]
  by_cases c : b = 1
  · rw [if_pos c, if_pos c]; rfl
  · have e : b = ((b.toNat : Nat) : Int) := by omega
    have l1 := itoa_len a ha
    have l2 := digits_len b.toNat (by omega)
    have nb := num_ev b.toNat k (by omega) (by omega)
    rw [← e] at nb
    rw [if_neg c, if_neg c]
    simp only [Option.bind_some]
    rw [if_pos (by rw [ba_size]; omega), nb]
    simp only [Option.bind_some]
    rw [show (⟨#[47]⟩ : ByteArray) = ⟨[47].toArray⟩ from rfl, ba_app, if_pos (by rw [ba_size, ba_size, List.length_append, List.length_singleton]; omega), ba_app]
    conv => rhs; rw [e, itoa_nat]
    rw [List.append_assoc]
    rfl
theorem implText_ev (a b : Int) (k : Nat) (ha : -1000000 ≤ a ∧ a ≤ 1000000) (hb : 1 ≤ b ∧ b ≤ 1000000) : impl_fractionText.f k a b = some ⟨(ftext a b).toArray⟩ := by
  unfold impl_fractionText.f ftext
  rw [itoa_f a k ha, itoa_f b k (by omega)]
  by_cases c : b = 1
  · rw [if_pos c, if_pos c]; rfl
  · have l1 := itoa_len a ha
    have l2 := itoa_len b (by omega)
    rw [if_neg c, if_neg c]
    simp only [Option.bind_some]
    rw [if_pos (by rw [ba_size]; omega), show (⟨#[47]⟩ : ByteArray) = ⟨[47].toArray⟩ from rfl, ba_app, if_pos (by rw [ba_size, ba_size, List.length_append, List.length_singleton]; omega), ba_app, List.append_assoc]
    rfl

/-! ### texts of numbers, read -/
abbrev mk (l : List UInt8) : ByteArray := ⟨l.toArray⟩
def isD (x : UInt8) : Prop := 48 ≤ x.toNat ∧ x.toNat ≤ 57
def foldv (v : Nat) (l : List UInt8) : Nat := l.foldl (fun n x => n * 10 + (x.toNat - 48)) v
theorem digit (n : Nat) (h : n < 10) : (UInt8.ofNat (48 + n)).toNat = 48 + n := by
  rw [UInt8.toNat_ofNat']
  exact Nat.mod_eq_of_lt (by omega)
theorem dd_big (u : Nat) (h : ¬ u < 10) : Lib.decDigits u = Lib.decDigits (u / 10) ++ [UInt8.ofNat (48 + u % 10)] := by
  conv => lhs; rw [Lib.decDigits]
  rw [dif_neg h]
theorem dd_ind {P : Nat → Prop} (h1 : ∀ u, u < 10 → P u) (h2 : ∀ u, ¬ u < 10 → P (u / 10) → P u) : ∀ u, P u := by
  intro u
  induction u using Nat.strongRecOn with
  | ind u ih =>
    by_cases h : u < 10
    · exact h1 u h
    · exact h2 u h (ih (u / 10) (by omega))
theorem dd_isD : ∀ u : Nat, ∀ x ∈ Lib.decDigits u, isD x := dd_ind
  (fun u h x hx => by
    rw [Lib.decDigits_one h, List.mem_singleton] at hx
    subst hx
    unfold isD; rw [digit u h]; omega)
  (fun u h ih x hx => by
    rw [dd_big u h, List.mem_append, List.mem_singleton] at hx
    rcases hx with a | rfl
    · exact ih x a
    · unfold isD; rw [digit (u % 10) (by omega)]; omega)
theorem dd_ne : ∀ u : Nat, Lib.decDigits u ≠ [] := dd_ind (fun u h => by rw [Lib.decDigits_one h]; simp) (fun u h _ => by rw [dd_big u h]; simp)
theorem dd_val : ∀ u : Nat, foldv 0 (Lib.decDigits u) = u := dd_ind
  (fun u h => by
    rw [Lib.decDigits_one h]
    show 0 * 10 + ((UInt8.ofNat (48 + u)).toNat - 48) = u
    rw [digit u h]; omega)
  (fun u h ih => by
    rw [dd_big u h]
    unfold foldv at ih ⊢
    rw [List.foldl_append, ih]
    show u / 10 * 10 + ((UInt8.ofNat (48 + u % 10)).toNat - 48) = u
    rw [digit (u % 10) (by omega)]; omega)
theorem dd_head : ∀ u : Nat, 1 ≤ u → ∀ x r, Lib.decDigits u = x :: r → x ≠ 48 := dd_ind
  (fun u h h1 x r e => by
    rw [Lib.decDigits_one h] at e
    injection e with e _
    subst e
    intro q
    have := congrArg UInt8.toNat q
    rw [digit u h] at this
    have e48 : (48 : UInt8).toNat = 48 := rfl
    omega)
  (fun u h ih h1 x r e => by
    rw [dd_big u h] at e
    cases hd : Lib.decDigits (u / 10) with
    | nil => exact absurd hd (dd_ne _)
    | cons y t =>
      rw [hd, List.cons_append] at e
      injection e with e _
      subst e
      exact ih (by omega) y t hd)
theorem dd_short : ∀ u : Nat, ∀ n, 1 ≤ n → u < 10 ^ n → (Lib.decDigits u).length ≤ n := dd_ind
  (fun u h n h1 _ => by rw [Lib.decDigits_one h]; simpa using h1)
  (fun u h ih n h1 hu => by
    obtain ⟨m, rfl⟩ : ∃ m, n = m + 1 := ⟨n - 1, by omega⟩
    rw [Nat.pow_succ] at hu
    have hm : 1 ≤ m := by
      rcases Nat.eq_zero_or_pos m with rfl | hm
      · simp at hu; omega
      · exact hm
    rw [dd_big u h, List.length_append, List.length_singleton]
    have := ih m hm (by omega)
    omega)
theorem foldv_ge : ∀ (l : List UInt8) (v : Nat), v ≤ foldv v l
  | [], v => Nat.le_refl _
  | x :: t, v => by
    have := foldv_ge t (v * 10 + (x.toNat - 48))
    show v ≤ foldv (v * 10 + (x.toNat - 48)) t
    omega
/-! what strconv.Atoi makes of a numeral -/
theorem pu_val : ∀ (l : List UInt8) (v : Nat), (∀ x ∈ l, isD x) → foldv v l ≤ 1000000 → Lib.parseUint10 v l = .ok (foldv v l)
  | [], v, _, _ => rfl
  | x :: t, v, hd, hv => by
    have hx := hd x (by simp)
    have hv' : foldv (v * 10 + (x.toNat - 48)) t ≤ 1000000 := hv
    have g := foldv_ge t (v * 10 + (x.toNat - 48))
    unfold isD at hx
    simp only [Lib.parseUint10]
    rw [if_pos hx, if_neg (by omega), if_neg (by omega)]
    exact pu_val t _ (fun y hy => hd y (by simp [hy])) hv'
theorem pm_dd (u : Nat) (h : u ≤ 1000000) : Lib.parseMag (Lib.decDigits u) = .ok u := by
  unfold Lib.parseMag
  have := pu_val (Lib.decDigits u) 0 (dd_isD u) (by rw [dd_val]; exact h)
  rw [if_neg (dd_ne u), this, dd_val]
theorem atoi_dd (u : Nat) (h : u ≤ 1000000) : Lib.atoiAll (Lib.decDigits u) = .ok (u : Int) := by
  have hm := pm_dd u h
  cases hd : Lib.decDigits u with
  | nil => exact absurd hd (dd_ne u)
  | cons c r =>
    have hc := dd_isD u c (by rw [hd]; simp)
    unfold isD at hc
    rw [hd] at hm
    simp only [Lib.atoiAll]
    rw [if_neg (show ¬ (c.toNat = 43 ∨ c.toNat = 45) by omega), hm]
    simp only []
    rw [if_neg (by omega), if_neg (by omega), if_neg (show ¬ c.toNat = 45 by omega)]
theorem atoi_itoa (a : Int) (h : -1000000 ≤ a ∧ a ≤ 1000000) : Lib.atoiAll (Lib.itoa a) = .ok a := by
  unfold Lib.itoa
  by_cases c : a < 0
  · rw [if_pos c]
    simp only [Lib.atoiAll]
    rw [if_pos (show ((45 : UInt8).toNat = 43 ∨ (45 : UInt8).toNat = 45) by decide), pm_dd _ (by omega)]
    simp only []
    rw [if_neg (by rintro ⟨q, _⟩; exact q (by decide)), if_neg (by omega), if_pos (show (45 : UInt8).toNat = 45 from rfl)]
    congr 1
    omega
  · rw [if_neg c, atoi_dd _ (by omega)]
    congr 1
    omega
/-! where a slash stands -/
theorem dd_no47 (u : Nat) : ∀ x ∈ Lib.decDigits u, x ≠ 47 := fun x hx q => by
  have := dd_isD u x hx
  subst q
  unfold isD at this
  have e : (47 : UInt8).toNat = 47 := rfl
  omega
theorem itoa_no47 (a : Int) : ∀ x ∈ Lib.itoa a, x ≠ 47 := fun x hx => by
  unfold Lib.itoa at hx
  split at hx
  · rcases List.mem_cons.1 hx with rfl | hx
    · decide
    · exact dd_no47 _ x hx
  · exact dd_no47 _ x hx
theorem idx_none : ∀ p : List UInt8, (∀ x ∈ p, x ≠ 47) → Lib.index p [47] = -1
  | [], _ => rfl
  | x :: t, h => by
    have hx : (47 == x) = false := beq_eq_false_iff_ne.2 (fun q => h x (by simp) q.symm)
    simp only [Lib.index, List.isPrefixOf, hx, Bool.false_and, idx_none t (fun y hy => h y (by simp [hy]))]
    rfl
theorem idx_some (t : List UInt8) : ∀ p : List UInt8, (∀ x ∈ p, x ≠ 47) → Lib.index (p ++ 47 :: t) [47] = (p.length : Int)
  | [], _ => by simp [Lib.index, List.isPrefixOf]
  | x :: q, h => by
    have hx : (47 == x) = false := beq_eq_false_iff_ne.2 (fun z => h x (by simp) z.symm)
    have ih := idx_some t q (fun y hy => h y (by simp [hy]))
    rw [List.cons_append]
    simp only [Lib.index, List.isPrefixOf, hx, Bool.false_and, ih]
    have n1 : (((q.length : Nat) : Int) == -1) = false := beq_eq_false_iff_ne.2 (by omega)
    rw [n1]
    simp
theorem cut_none (p : List UInt8) (h : ∀ x ∈ p, x ≠ 47) : Lib.cut p [47] = (p, [], false) := by
  unfold Lib.cut
  rw [idx_none p h, if_neg (by decide)]
theorem cut_some (p t : List UInt8) (h : ∀ x ∈ p, x ≠ 47) : Lib.cut (p ++ 47 :: t) [47] = (p, t, true) := by
  unfold Lib.cut
  rw [idx_some t p h, if_pos (by omega), Int.toNat_natCast]
  simp
theorem cut_len (l : List UInt8) : (Lib.cut l [47]).1.length ≤ l.length ∧ (Lib.cut l [47]).2.1.length ≤ l.length := by
  unfold Lib.cut
  split
  · simp only [List.length_take, List.length_drop]; omega
  · simp
/-! the reference's cuts -/
def sp : List UInt8 → List UInt8 → List (List UInt8)
  | cur, [] => [cur]
  | cur, x :: t => if x = 47 then cur :: sp [] t else sp (cur ++ [x]) t
theorem sp_none : ∀ (p cur : List UInt8), (∀ x ∈ p, x ≠ 47) → sp cur p = [cur ++ p]
  | [], cur, _ => by simp [sp]
  | x :: t, cur, h => by
    rw [sp, if_neg (h x (by simp)), sp_none t _ (fun y hy => h y (by simp [hy]))]
    simp
theorem sp_some (t : List UInt8) : ∀ (p cur : List UInt8), (∀ x ∈ p, x ≠ 47) → sp cur (p ++ 47 :: t) = (cur ++ p) :: sp [] t
  | [], cur, _ => by simp [sp]
  | x :: q, cur, h => by
    rw [List.cons_append, sp, if_neg (h x (by simp)), sp_some t q _ (fun y hy => h y (by simp [hy]))]
    simp
theorem sp_first : ∀ (p cur : List UInt8), ∃ h r, sp cur p = (cur ++ h) :: r
  | [], cur => ⟨[], [], by simp [sp]⟩
  | x :: t, cur => by
    by_cases q : x = 47
    · exact ⟨[], sp [] t, by rw [sp, if_pos q]; simp⟩
    · obtain ⟨h, r, e⟩ := sp_first t (cur ++ [x])
      exact ⟨x :: h, r, by rw [sp, if_neg q, e]; simp⟩
theorem mk_data (l : List UInt8) : (mk l).data.toList = l := rfl
theorem mk_toList (l : List UInt8) : (mk l).toList = l := Lib.toList_data _
theorem mk_extract (l : List UInt8) (i j : Nat) : (mk l).extract i j = mk ((l.drop i).take (j - i)) := by
  apply ByteArray.ext
  apply Array.toList_inj.1
  rw [ByteArray.data_extract, Array.toList_extract]
theorem mk_bt (l : List UInt8) (i : Nat) (h : i < l.length) : bt (mk l) (i : Int) = (l[i].toNat : Int) := by
  unfold bt
  rw [dif_pos (by rw [Int.toNat_natCast, ba_size]; exact h)]
  rfl
theorem split_l (l : List UInt8) (hl : l.length ≤ 1048576) : ∀ (d i f : Nat) (acc : List ByteArray), i + d = l.length → f ≤ i → acc.length ≤ i →
    Ev (fun k => spec_l1Split.l0 k (mk l) 47 acc (f : Int) (i : Int)) (acc ++ (sp ((l.drop f).take (i - f)) (l.drop i)).map mk) := by
  intro d
  induction d with
  | zero =>
    intro i f acc hi hf ha
    obtain rfl : i = l.length := by omega
    have c : ¬ (l.length : Int) < (l.length : Int) := by omega
    have g1 : (0 : Int) ≤ (f : Int) := Int.natCast_nonneg _
    have g2 : (f : Int) ≤ (l.length : Int) := by omega
    have g3 : acc.length < 8796093022208 := by omega
    have e : l.drop l.length = [] := List.drop_eq_nil_of_le (by omega)
    rw [e]
    refine Ev.step (fun k => ?_) (Ev.now _)
    simp only [spec_l1Split.l0, ba_size, if_neg c, if_pos g1, if_pos g2, if_pos g3, Int.toNat_natCast, mk_extract, sp, List.map_cons, List.map_nil]
  | succ d ih =>
    intro i f acc hi hf ha
    have hil : i < l.length := by omega
    have c : (i : Int) < ((mk l).size : Int) := by rw [ba_size]; omega
    have g0 : (0 : Int) ≤ (i : Int) := Int.natCast_nonneg _
    have g1 : (0 : Int) ≤ (f : Int) := Int.natCast_nonneg _
    have g2 : (f : Int) ≤ (i : Int) := by omega
    have g3 : (i : Int) ≤ ((mk l).size : Int) := by rw [ba_size]; omega
    have g4 : acc.length < 8796093022208 := by omega
    have hw : wrap64 ((i : Int) + 1) = ((i + 1 : Nat) : Int) := wsucc i (by omega)
    have hb := mk_bt l i hil
    rw [List.drop_eq_getElem_cons hil]
    by_cases q : l[i] = 47
    · have hb' : bt (mk l) (i : Int) = 47 := by rw [hb, q]; rfl
      have nx := ih (i + 1) (i + 1) (acc ++ [mk ((l.drop f).take (i - f))]) (by clear hw; omega) (Nat.le_refl _) (by rw [List.length_append, List.length_singleton]; clear hw; omega)
      rw [Nat.sub_self, List.take_zero, List.append_assoc] at nx
      rw [sp, if_pos q]
      refine Ev.step (fun k => ?_) nx
      simp only [spec_l1Split.l0, if_pos c, if_pos g0, hb', if_true, if_pos g1, if_pos g2, if_pos g3, if_pos g4, hw, Int.toNat_natCast, mk_extract]
    · have hb' : ¬ bt (mk l) (i : Int) = 47 := by
        rw [hb]; intro z
        exact q (UInt8.toNat_inj.1 (by show l[i].toNat = 47; clear hw; omega))
      have nx := ih (i + 1) f acc (by clear hw; omega) (by clear hw; omega) (by clear hw; omega)
      have et : (l.drop f).take (i + 1 - f) = (l.drop f).take (i - f) ++ [l[i]] := by
        rw [show i + 1 - f = (i - f) + 1 by clear hw; omega, List.take_add_one, List.getElem?_drop, show f + (i - f) = i by clear hw; omega, List.getElem?_eq_getElem hil]
        rfl
      rw [et] at nx
      rw [sp, if_neg q]
      refine Ev.step (fun k => ?_) nx
      simp only [spec_l1Split.l0, if_pos c, if_pos g0, if_neg hb', hw]
theorem split_ev (l : List UInt8) (hl : l.length ≤ 1048576) : Ev (fun k => spec_l1Split.f k (mk l) 47) ((sp [] l).map mk) := split_l l hl l.length 0 0 [] (by omega) (Nat.le_refl _) (by simp)
/-! the reference's reading of a numeral -/
def rd (v : Nat) : List UInt8 → Int
  | [] => (v : Int)
  | x :: t => if x.toNat < 48 ∨ 57 < x.toNat then -1 else rd (10 * v + (x.toNat - 48)) t
theorem rd_val : ∀ (l : List UInt8) (v : Nat), (∀ x ∈ l, isD x) → rd v l = (foldv v l : Int)
  | [], v, _ => rfl
  | x :: t, v, h => by
    have hx := h x (by simp)
    unfold isD at hx
    rw [rd, if_neg (by omega), rd_val t _ (fun y hy => h y (by simp [hy]))]
    show ((foldv (10 * v + (x.toNat - 48)) t : Nat) : Int) = ((foldv (v * 10 + (x.toNat - 48)) t : Nat) : Int)
    rw [Nat.mul_comm]
theorem step_v (v d : Nat) (hv : v ≤ 1000000) (h1 : 48 ≤ d) (h2 : d ≤ 57) : wrap64 ((wrap64 (10 * (v : Int))) + (((d : Int) - 48) % 256)) = ((10 * v + (d - 48) : Nat) : Int) := by
  have e1 : ((d : Int) - 48) % 256 = ((d - 48 : Nat) : Int) := by omega
  have e2 : wrap64 (10 * (v : Int)) = ((10 * v : Nat) : Int) := by unfold wrap64; omega
  rw [e1, e2]
  unfold wrap64
  omega
theorem read_l (l : List UInt8) (hl : l.length ≤ 6) : ∀ (d i v : Nat), i + d = l.length → v < 10 ^ i → Ev (fun k => spec_l1Read.l0 k (mk l) (v : Int) (i : Int)) (rd v (l.drop i)) := by
  intro d
  induction d with
  | zero =>
    intro i v hi hv
    have c : ¬ (i : Int) < ((mk l).size : Int) := by rw [ba_size]; omega
    rw [List.drop_eq_nil_of_le (by omega)]
    refine Ev.step (fun k => ?_) (Ev.now _)
    simp only [spec_l1Read.l0, if_neg c, rd]
  | succ d ih =>
    intro i v hi hv
    have hil : i < l.length := by omega
    have c : (i : Int) < ((mk l).size : Int) := by rw [ba_size]; omega
    have g0 : (0 : Int) ≤ (i : Int) := Int.natCast_nonneg _
    have hw : wrap64 ((i : Int) + 1) = ((i + 1 : Nat) : Int) := wsucc i (by omega)
    have hb := mk_bt l i hil
    have hp : 10 ^ i ≤ 10 ^ 6 := Nat.pow_le_pow_right (by decide) (by clear hw; omega)
    rw [List.drop_eq_getElem_cons hil, rd]
    by_cases c1 : l[i].toNat < 48
    · have b1 : bt (mk l) (i : Int) < 48 := by rw [hb]; clear hw; omega
      rw [if_pos (.inl c1)]
      refine Ev.step (fun k => ?_) (Ev.now _)
      simp only [spec_l1Read.l0, if_pos c, if_pos g0, if_pos b1]
    · have b1 : ¬ bt (mk l) (i : Int) < 48 := by rw [hb]; clear hw; omega
      by_cases c2 : 57 < l[i].toNat
      · have b2 : bt (mk l) (i : Int) > 57 := by rw [hb]; clear hw; omega
        rw [if_pos (.inr c2)]
        refine Ev.step (fun k => ?_) (Ev.now _)
        simp only [spec_l1Read.l0, if_pos c, if_pos g0, if_neg b1, if_pos b2]
      · have b2 : ¬ bt (mk l) (i : Int) > 57 := by rw [hb]; clear hw; omega
        rw [if_neg (by omega)]
        have hv2 : 10 * v + (l[i].toNat - 48) < 10 ^ (i + 1) := by rw [Nat.pow_succ]; clear hw; omega
        have ea : wrap64 ((wrap64 (10 * (v : Int))) + ((bt (mk l) (i : Int) - 48) % 256)) = ((10 * v + (l[i].toNat - 48) : Nat) : Int) := by
          rw [hb]; exact step_v v _ (by have := hp; simp at this; clear hw; omega) (by clear hw; omega) (by clear hw; omega)
        clear hb hp
        refine Ev.step (fun k => ?_) (ih (i + 1) _ (by clear hw ea; omega) hv2)
        simp only [spec_l1Read.l0, if_pos c, if_pos g0, if_neg b1, if_neg b2, hw, ea]
theorem j0_false (l : List UInt8) (hl : l.length ≤ 6) : Ev (fun k => spec_l1Read.j0 k (mk l) false) (rd 0 l) := by
  refine Ev.step (f := ?f) (fun k => ?e) ?v
  case e => conv => lhs; simp only [spec_l1Read.j0, Bool.false_eq_true, if_false]
  case v => exact read_l l hl l.length 0 0 (by omega) (by simp)
theorem j0_true (l : List UInt8) : Ev (fun k => spec_l1Read.j0 k (mk l) true) (-1) := Ev.step (fun k => by simp only [spec_l1Read.j0, if_true]) (Ev.now _)
theorem in6 (n : Nat) : spec_l1In.f (n : Int) 1 6 = some (decide (1 ≤ n ∧ n ≤ 6)) := by
  unfold spec_l1In.f
  by_cases h : 1 ≤ n
  · rw [if_pos (by omega)]
    congr 1
    by_cases g : n ≤ 6
    · rw [decide_eq_true (by omega), decide_eq_true ⟨h, g⟩]
    · rw [decide_eq_false (by omega), decide_eq_false (by omega)]
  · rw [if_neg (by omega), decide_eq_false (by omega)]
theorem read_total (l : List UInt8) : ∃ r : Int, Ev (fun k => spec_l1Read.f k (mk l)) r := by
  unfold spec_l1Read.f
  rw [ba_size, in6]
  by_cases h : 1 ≤ l.length ∧ l.length ≤ 6
  · rw [decide_eq_true h]
    simp only [Option.bind_some, if_true, if_pos (show (0 : Int) < (l.length : Int) by omega)]
    by_cases c : bt (mk l) 0 = 48
    · simp only [if_pos c]
      by_cases g : (l.length : Int) > 1
      · rw [decide_eq_true g]; exact ⟨_, j0_true l⟩
      · rw [decide_eq_false g]; exact ⟨_, j0_false l h.2⟩
    · simp only [if_neg c]; exact ⟨_, j0_false l h.2⟩
  · rw [decide_eq_false h]
    simp only [Option.bind_some, Bool.false_eq_true, if_false]
    exact ⟨_, j0_true l⟩
theorem read_dd (u : Nat) (h : u < 1000000) : Ev (fun k => spec_l1Read.f k (mk (Lib.decDigits u))) (u : Int) := by
  have h6 := dd_short u 6 (by decide) (by omega)
  have hr : rd 0 (Lib.decDigits u) = (u : Int) := by rw [rd_val _ _ (dd_isD u), dd_val]
  have hj := j0_false (Lib.decDigits u) h6
  rw [hr] at hj
  unfold spec_l1Read.f
  rw [ba_size, in6]
  cases hd : Lib.decDigits u with
  | nil => exact absurd hd (dd_ne u)
  | cons x t =>
    rw [hd] at h6 hj
    have hl1 : 1 ≤ (x :: t).length ∧ (x :: t).length ≤ 6 := ⟨by simp, h6⟩
    rw [decide_eq_true hl1]
    simp only [Option.bind_some, if_true, if_pos (show (0 : Int) < ((x :: t).length : Int) by have := hl1.1; omega)]
    have hb : bt (mk (x :: t)) 0 = (x.toNat : Int) := mk_bt (x :: t) 0 (by simp)
    by_cases c : bt (mk (x :: t)) 0 = 48
    · simp only [if_pos c]
      have g : ¬ (((x :: t).length : Nat) : Int) > 1 := by
        intro g
        have hu : ¬ 1 ≤ u := fun h1 => dd_head u h1 x t hd (UInt8.toNat_inj.1 (by show x.toNat = 48; rw [hb] at c; omega))
        have e0 : u = 0 := by omega
        subst e0
        rw [Lib.decDigits_one (by decide)] at hd
        injection hd with _ e2
        subst e2
        simp at g
      rw [decide_eq_false g]; exact hj
    · simp only [if_neg c]; exact hj
theorem shr_total (l : List UInt8) : ∃ r : Int, Ev (fun k => spec_shRead.f k (mk l)) r := by
  unfold spec_shRead.f
  by_cases c : (mk l).toList = ([49, 48, 48, 48, 48, 48, 48] : List UInt8)
  · simp only [if_pos c]; exact ⟨_, Ev.now _⟩
  · simp only [if_neg c]
    obtain ⟨r, h⟩ := read_total l
    exact ⟨r, Ev.bind h (Ev.now _)⟩
theorem shr_dd (u : Nat) (h : u ≤ 1000000) : Ev (fun k => spec_shRead.f k (mk (Lib.decDigits u))) (u : Int) := by
  unfold spec_shRead.f
  by_cases c : (mk (Lib.decDigits u)).toList = ([49, 48, 48, 48, 48, 48, 48] : List UInt8)
  · simp only [if_pos c]
    rw [mk_toList] at c
    have e := dd_val u
    rw [c] at e
    have e2 : foldv 0 ([49, 48, 48, 48, 48, 48, 48] : List UInt8) = 1000000 := by decide
    rw [e2] at e
    rw [← e]
    exact Ev.now _
  · simp only [if_neg c]
    have hu : u < 1000000 := by
      rcases Nat.lt_or_ge u 1000000 with g | g
      · exact g
      · obtain rfl : u = 1000000 := by omega
        exfalso
        apply c
        rw [mk_toList, dd_big _ (by decide), dd_big _ (by decide), dd_big _ (by decide), dd_big _ (by decide), dd_big _ (by decide), dd_big _ (by decide), Lib.decDigits_one (by decide)]
        rfl
    exact Ev.bind (read_dd u hu) (Ev.now _)

theorem ev_up {α : Type} {f : Nat → Option α} (mono : ∀ k, LeO (f k) (f (k + 1))) {k0 : Nat} {a : α} (h : f k0 = some a) : Ev f a :=
  ⟨k0, fun k hk => by
    induction hk with
    | refl => exact h
    | step _ ih => exact mono _ _ ih⟩
theorem ev_one {α : Type} {f : Nat → Option α} {a b : α} (h : Ev f a) (g : Ev f b) : a = b := by
  obtain ⟨n, h⟩ := h
  obtain ⟨m, g⟩ := g
  have h1 := h (max n m) (Nat.le_max_left _ _)
  have g1 := g (max n m) (Nat.le_max_right _ _)
  rw [h1] at g1
  exact Option.some.inj g1
noncomputable def gd (a b : Int) : Bool := (impl_IsFraction.f 1000001 a b).getD false
theorem gd_at (a b : Int) : impl_IsFraction.f 1000001 a b = some (gd a b) := by
  obtain ⟨r, hr⟩ := good_some a b 1000001 (by omega)
  rw [gd, hr]; rfl
theorem implG (a b : Int) : Ev (fun k => impl_IsFraction.f k a b) (gd a b) := ev_up (fun k => impl_IsFraction.mono a b k) (gd_at a b)
theorem specG (a b : Int) : Ev (fun k => spec_shGood.f k a b) (gd a b) := by
  have := implG a b
  simp only [← good_same] at this
  exact this
theorem gd_pos {a b : Int} (h : gd a b = true) : 1 ≤ b ∧ b ≤ 1000000 ∧ -1000000 ≤ a ∧ a ≤ 1000000 := good_pos (by rw [gd_at, h])
theorem specT {a b : Int} (h : gd a b = true) : Ev (fun k => spec_shText.f k a b) (mk (ftext a b)) := ⟨1000001, fun k hk => specText_ev a b k ⟨(gd_pos h).2.2.1, (gd_pos h).2.2.2⟩ ⟨(gd_pos h).1, (gd_pos h).2.1⟩ (by omega)⟩
theorem implT {a b : Int} (h : gd a b = true) : Ev (fun k => impl_fractionText.f k a b) (mk (ftext a b)) := ⟨1000001, fun k hk => implText_ev a b k ⟨(gd_pos h).2.2.1, (gd_pos h).2.2.2⟩ ⟨(gd_pos h).1, (gd_pos h).2.1⟩⟩
/-- What may come out: nothing, or a fraction whose text this is. -/
def Res (l : List UInt8) (r : Int × Int × Bool) : Prop := r = (0, 0, false) ∨ ∃ a b, gd a b = true ∧ ftext a b = l ∧ r = (a, b, true)
theorem j4A (l : List UInt8) (a b : Int) : ∃ r, Ev (fun k => spec_shParse.j4 k (mk l) a b) r ∧ Res l r ∧ (gd a b = true → ftext a b = l → r = (a, b, true)) := by
  cases hg : gd a b with
  | false =>
    have g := specG a b
    rw [hg] at g
    refine ⟨(0, 0, false), Ev.step (f := ?f) (fun k => ?e) ?v, .inl rfl, fun q => by cases q⟩
    case e => conv => lhs; simp only [spec_shParse.j4]
    case v => exact Ev.bind g (Ev.now _)
  | true =>
    have g := specG a b
    rw [hg] at g
    by_cases ht : ftext a b = l
    · refine ⟨(a, b, true), Ev.step (f := ?f1) (fun k => ?e1) ?v1, .inr ⟨a, b, hg, ht, rfl⟩, fun _ _ => rfl⟩
      case e1 => conv => lhs; simp only [spec_shParse.j4]
      case v1 =>
        refine Ev.bind g ?_
        simp only [if_true]
        refine Ev.bind (specT hg) ?_
        simp only [mk_toList, ht, if_true]
        exact Ev.now _
    · refine ⟨(0, 0, false), Ev.step (f := ?f2) (fun k => ?e2) ?v2, .inl rfl, fun _ q => absurd q ht⟩
      case e2 => conv => lhs; simp only [spec_shParse.j4]
      case v2 =>
        refine Ev.bind g ?_
        simp only [if_true]
        refine Ev.bind (specT hg) ?_
        simp only [mk_toList, if_neg ht]
        exact Ev.now _
theorem j3A (l : List UInt8) (m x : Bool) (n d : Int) : ∃ r, Ev (fun k => spec_shParse.j3 k (mk l) m x n d) r ∧ Res l r ∧
    (x = false → gd (if m = true then wrap64 (-n) else n) d = true → ftext (if m = true then wrap64 (-n) else n) d = l → r = (if m = true then wrap64 (-n) else n, d, true)) := by
  cases x with
  | true =>
    refine ⟨(0, 0, false), Ev.step (fun k => ?_) (Ev.now _), .inl rfl, fun q => by cases q⟩
    simp only [spec_shParse.j3, if_true]
  | false =>
    cases m with
    | true =>
      obtain ⟨r, h1, h2, h3⟩ := j4A l (wrap64 (-n)) d
      refine ⟨r, Ev.step (f := ?f) (fun k => ?e) ?v, h2, fun _ => h3⟩
      case e => conv => lhs; simp only [spec_shParse.j3, Bool.false_eq_true, if_false, if_true]
      case v => exact h1
    | false =>
      obtain ⟨r, h1, h2, h3⟩ := j4A l n d
      refine ⟨r, Ev.step (f := ?f2) (fun k => ?e2) ?v2, h2, fun _ => h3⟩
      case e2 => conv => lhs; simp only [spec_shParse.j3, Bool.false_eq_true, if_false]
      case v2 => exact h1
theorem j2A (l : List UInt8) (w : List ByteArray) (m : Bool) (n d : Int) : ∃ r, Ev (fun k => spec_shParse.j2 k (mk l) w m n d) r ∧ Res l r := by
  have go : ∀ x : Bool, (∀ k, spec_shParse.j2 (k + 1) (mk l) w m n d = spec_shParse.j3 k (mk l) m x n d) → ∃ r, Ev (fun k => spec_shParse.j2 k (mk l) w m n d) r ∧ Res l r := fun x e => by
    obtain ⟨r, h1, h2, _⟩ := j3A l m x n d
    exact ⟨r, Ev.step e h1, h2⟩
  by_cases c1 : (w.length : Int) > 2
  · exact go true (fun k => by simp only [spec_shParse.j2, if_pos c1])
  · by_cases c2 : n < 0
    · exact go true (fun k => by simp only [spec_shParse.j2, if_neg c1, if_pos c2])
    · by_cases c3 : d < 1
      · exact go true (fun k => by simp only [spec_shParse.j2, if_neg c1, if_neg c2, if_pos c3])
      · cases m with
        | true => exact go (n == 0) (fun k => by simp only [spec_shParse.j2, if_neg c1, if_neg c2, if_neg c3, if_true])
        | false => exact go false (fun k => by simp only [spec_shParse.j2, if_neg c1, if_neg c2, if_neg c3, Bool.false_eq_true, if_false])
theorem any_mk (s : ByteArray) : s = mk s.data.toList := rfl
theorem shr_any (s : ByteArray) : ∃ r : Int, Ev (fun k => spec_shRead.f k s) r := shr_total s.data.toList
theorem j1A (l : List UInt8) (w : List ByteArray) (hw : 0 < w.length) (m : Bool) : ∃ r, Ev (fun k => spec_shParse.j1 k (mk l) w m) r ∧ Res l r := by
  have c0 : (0 : Int) < (w.length : Int) := by omega
  obtain ⟨n, hn⟩ := shr_any (rdOf ByteArray.empty w 0)
  by_cases c2 : (w.length : Int) = 2
  · have c1 : (1 : Int) < (w.length : Int) := by omega
    obtain ⟨d, hd⟩ := shr_any (rdOf ByteArray.empty w 1)
    obtain ⟨r, h1, h2⟩ := j2A l w m n d
    refine ⟨r, Ev.step (f := ?f) (fun k => ?e) ?v, h2⟩
    case e => conv => lhs; simp only [spec_shParse.j1, if_pos c0, if_pos c2, if_pos c1]
    case v => exact Ev.bind hn (Ev.bind hd h1)
  · obtain ⟨r, h1, h2⟩ := j2A l w m n 1
    refine ⟨r, Ev.step (f := ?f2) (fun k => ?e2) ?v2, h2⟩
    case e2 => conv => lhs; simp only [spec_shParse.j1, if_pos c0, if_neg c2]
    case v2 => exact Ev.bind hn h1
theorem j0A (l : List UInt8) (w : List ByteArray) (hw : 0 < w.length) (m : Bool) (h1 : m = true → 1 ≤ (rdOf ByteArray.empty w 0).size) : ∃ r, Ev (fun k => spec_shParse.j0 k (mk l) w m) r ∧ Res l r := by
  have c0 : (0 : Int) < (w.length : Int) := by omega
  cases m with
  | false =>
    obtain ⟨r, g1, g2⟩ := j1A l w hw false
    refine ⟨r, Ev.step (f := ?f) (fun k => ?e) ?v, g2⟩
    case e => conv => lhs; simp only [spec_shParse.j0, Bool.false_eq_true, if_false]
    case v => exact g1
  | true =>
    have c1 : (1 : Int) ≤ ((rdOf ByteArray.empty w 0).size : Int) := by have := h1 rfl; omega
    obtain ⟨r, g1, g2⟩ := j1A l (w.set (0 : Int).toNat ((rdOf ByteArray.empty w 0).extract 1 (rdOf ByteArray.empty w 0).size)) (by rw [List.length_set]; exact hw) true
    refine ⟨r, Ev.step (f := ?f2) (fun k => ?e2) ?v2, g2⟩
    case e2 => conv => lhs; simp only [spec_shParse.j0, if_true, if_pos c0, if_pos c1]
    case v2 => exact g1
theorem specA (l : List UInt8) (hl : l.length ≤ 1048576) : ∃ r, Ev (fun k => spec_shParse.f k (mk l)) r ∧ Res l r := by
  have hs := split_ev l hl
  obtain ⟨h, t, e⟩ := sp_first l []
  have hw : 0 < ((sp [] l).map mk).length := by rw [e]; simp
  unfold spec_shParse.f
  cases l with
  | nil =>
    obtain ⟨r, g1, g2⟩ := j0A [] _ hw false (fun q => by cases q)
    refine ⟨r, Ev.bind hs ?_, g2⟩
    have c : ¬ ((mk []).size : Int) > 0 := by rw [ba_size]; simp
    simp only [if_neg c]
    exact g1
  | cons x p =>
    have c : ((mk (x :: p)).size : Int) > 0 := by rw [ba_size, List.length_cons]; omega
    have hb : bt (mk (x :: p)) 0 = (x.toNat : Int) := mk_bt (x :: p) 0 (by simp)
    obtain ⟨r, g1, g2⟩ := j0A (x :: p) _ hw (bt (mk (x :: p)) 0 == 45) (fun q => by
      rw [hb, beq_iff_eq] at q
      have hx : x = 45 := UInt8.toNat_inj.1 (by show x.toNat = 45; omega)
      subst hx
      obtain ⟨h', t', e'⟩ := sp_first p [45]
      have es : sp [] (45 :: p) = sp [45] p := by rw [sp, if_neg (by decide)]; rfl
      rw [es, e']
      show 1 ≤ (mk ([45] ++ h')).size
      rw [ba_size]; simp)
    refine ⟨r, Ev.bind hs ?_, g2⟩
    simp only [if_pos c]
    exact g1
theorem j1B (l : List UInt8) (N : Nat) (hN : N ≤ 1000000) (b : Int) (m : Bool) (ws : List ByteArray) (hws : (ws = [] ∧ b = 1) ∨ (ws = [mk (Lib.decDigits b.toNat)])) (hb : 1 ≤ b ∧ b ≤ 1000000) (hm : m = true → N ≠ 0)
    (a : Int) (ha : a = if m = true then -(N : Int) else (N : Int)) (hg : gd a b = true) (ht : ftext a b = l) : Ev (fun k => spec_shParse.j1 k (mk l) (mk (Lib.decDigits N) :: ws) m) (a, b, true) := by
  have hn := shr_dd N hN
  have j2 : ∀ w : List ByteArray, ¬ (w.length : Int) > 2 → Ev (fun k => spec_shParse.j2 k (mk l) w m (N : Int) b) (a, b, true) := fun w c1 => by
    have c2 : ¬ (N : Int) < 0 := by omega
    have c3 : ¬ b < 1 := by omega
    have ea : (if m = true then wrap64 (-(N : Int)) else (N : Int)) = a := by
      rw [ha]
      cases m with
      | true => simp only [if_true]; unfold wrap64; omega
      | false => rfl
    have use : ∀ x : Bool, x = false → (∀ k, spec_shParse.j2 (k + 1) (mk l) w m (N : Int) b = spec_shParse.j3 k (mk l) m x (N : Int) b) → Ev (fun k => spec_shParse.j2 k (mk l) w m (N : Int) b) (a, b, true) := fun x hx e => by
      obtain ⟨r, h1, _, h3⟩ := j3A l m x (N : Int) b
      rw [ea] at h3
      rw [h3 hx hg ht] at h1
      exact Ev.step e h1
    cases m with
    | true =>
      have hz : ((N : Int) == 0) = false := beq_eq_false_iff_ne.2 (by have := hm rfl; omega)
      exact use _ hz (fun k => by simp only [spec_shParse.j2, if_neg c1, if_neg c2, if_neg c3, if_true])
    | false => exact use false rfl (fun k => by simp only [spec_shParse.j2, if_neg c1, if_neg c2, if_neg c3, Bool.false_eq_true, if_false])
  rcases hws with ⟨rfl, rfl⟩ | rfl
  · have c0 : (0 : Int) < (([mk (Lib.decDigits N)] : List ByteArray).length : Int) := by simp
    have c2 : ¬ (([mk (Lib.decDigits N)] : List ByteArray).length : Int) = 2 := by simp
    refine Ev.step (f := ?f) (fun k => ?e) ?v
    case e => conv => lhs; simp only [spec_shParse.j1, if_pos c0, if_neg c2]
    case v => exact Ev.bind hn (j2 _ (by simp))
  · have c0 : (0 : Int) < (([mk (Lib.decDigits N), mk (Lib.decDigits b.toNat)] : List ByteArray).length : Int) := by simp
    have c2 : (([mk (Lib.decDigits N), mk (Lib.decDigits b.toNat)] : List ByteArray).length : Int) = 2 := by simp
    have c1 : (1 : Int) < (([mk (Lib.decDigits N), mk (Lib.decDigits b.toNat)] : List ByteArray).length : Int) := by simp
    have hd := shr_dd b.toNat (by omega)
    rw [show ((b.toNat : Nat) : Int) = b by omega] at hd
    refine Ev.step (f := ?f2) (fun k => ?e2) ?v2
    case e2 => conv => lhs; simp only [spec_shParse.j1, if_pos c0, if_pos c2, if_pos c1]
    case v2 => exact Ev.bind hn (Ev.bind hd (j2 _ (by simp)))
theorem sp_text (a b : Int) (hb : 1 ≤ b) : ∃ ws, sp [] (ftext a b) = Lib.itoa a :: ws ∧ ((ws.map mk = [] ∧ b = 1) ∨ ws.map mk = [mk (Lib.decDigits b.toNat)]) := by
  unfold ftext
  by_cases c : b = 1
  · rw [if_pos c, sp_none _ _ (itoa_no47 a)]
    exact ⟨[], by simp, .inl ⟨rfl, c⟩⟩
  · have e : Lib.itoa b = Lib.decDigits b.toNat := by unfold Lib.itoa; rw [if_neg (by omega)]
    rw [if_neg c, sp_some _ _ _ (itoa_no47 a), sp_none _ _ (itoa_no47 b), e]
    exact ⟨[Lib.decDigits b.toNat], by simp, .inr rfl⟩
theorem ftext_head (a b : Int) : ∃ t, ftext a b = Lib.itoa a ++ t := by
  unfold ftext
  split
  · exact ⟨[], by simp⟩
  · exact ⟨_, rfl⟩
theorem specB (l : List UInt8) (hl : l.length ≤ 1048576) (a b : Int) (hg : gd a b = true) (ht : ftext a b = l) : Ev (fun k => spec_shParse.f k (mk l)) (a, b, true) := by
  have hp := gd_pos hg
  have hs := split_ev l hl
  obtain ⟨ws, e, hws⟩ := sp_text a b hp.1
  obtain ⟨tl, et⟩ := ftext_head a b
  rw [← ht, e, List.map_cons, ht] at hs
  unfold spec_shParse.f
  refine Ev.bind hs ?_
  by_cases ca : a < 0
  · have ei : Lib.itoa a = 45 :: Lib.decDigits a.natAbs := by unfold Lib.itoa; rw [if_pos ca]
    have el : l = 45 :: (Lib.decDigits a.natAbs ++ tl) := by rw [← ht, et, ei]; rfl
    have c : ((mk l).size : Int) > 0 := by rw [ba_size, el, List.length_cons]; omega
    have hb0 : bt (mk l) 0 = 45 := by rw [el]; exact mk_bt _ 0 (by simp)
    have hm : (bt (mk l) 0 == 45) = true := by rw [hb0]; rfl
    simp only [if_pos c, hm]
    have c0 : (0 : Int) < ((mk (Lib.itoa a) :: ws.map mk).length : Int) := by rw [List.length_cons]; omega
    have er : rdOf ByteArray.empty (mk (Lib.itoa a) :: ws.map mk) 0 = mk (Lib.itoa a) := rfl
    have c1 : (1 : Int) ≤ ((mk (Lib.itoa a)).size : Int) := by rw [ba_size, ei, List.length_cons]; omega
    have ex : (mk (Lib.itoa a)).extract 1 (mk (Lib.itoa a)).size = mk (Lib.decDigits a.natAbs) := by
      rw [mk_extract, ba_size, ei]
      simp
    refine Ev.step (f := ?f) (fun k => ?e) ?v
    case e => conv => lhs; simp only [spec_shParse.j0, if_true, if_pos c0, er, if_pos c1, ex]
    case v => exact j1B l a.natAbs (by omega) b true (ws.map mk) hws ⟨hp.1, hp.2.1⟩ (fun _ => by omega) a (by rw [if_pos rfl]; omega) hg ht
  · have ei : Lib.itoa a = Lib.decDigits a.toNat := by unfold Lib.itoa; rw [if_neg ca]
    cases hd : Lib.decDigits a.toNat with
    | nil => exact absurd hd (dd_ne _)
    | cons x t =>
      have hx := dd_isD a.toNat x (by rw [hd]; simp)
      unfold isD at hx
      have el : l = x :: (t ++ tl) := by rw [← ht, et, ei, hd]; rfl
      have c : ((mk l).size : Int) > 0 := by rw [ba_size, el, List.length_cons]; omega
      have hb0 : bt (mk l) 0 = (x.toNat : Int) := by rw [el]; exact mk_bt _ 0 (by simp)
      have hm : (bt (mk l) 0 == 45) = false := by rw [hb0]; exact beq_eq_false_iff_ne.2 (by omega)
      simp only [if_pos c, hm]
      refine Ev.step (f := ?f2) (fun k => ?e2) ?v2
      case e2 => conv => lhs; simp only [spec_shParse.j0, Bool.false_eq_true, if_false]
      case v2 =>
        rw [ei]
        exact j1B l a.toNat (by omega) b false (ws.map mk) hws ⟨hp.1, hp.2.1⟩ (fun q => by cases q) a (by rw [if_neg (by decide)]; omega) hg ht
theorem atoiE (l : List UInt8) (hl : l.length ≤ 1048576) : ∃ v e, Ev (fun k => strconv_Atoi_44.f k (mk l)) (v, e) ∧ (∀ a, Lib.atoiAll l = .ok a → v = a ∧ e = false) := by
  have hz : (mk l).size ≤ 281474976710656 := by rw [ba_size]; omega
  cases h : Lib.atoiAll l with
  | ok a => exact ⟨a, false, ⟨0, fun k _ => by show strconv_Atoi_44.f k (mk l) = _; unfold strconv_Atoi_44.f; rw [if_pos hz, mk_data, h]⟩, fun b q => by injection q with q; exact ⟨q, rfl⟩⟩
  | range => exact ⟨Lib.atoiSat l, true, ⟨0, fun k _ => by show strconv_Atoi_44.f k (mk l) = _; unfold strconv_Atoi_44.f; rw [if_pos hz, mk_data, h]⟩, fun b q => by cases q⟩
  | _ => exact ⟨0, true, ⟨0, fun k _ => by show strconv_Atoi_44.f k (mk l) = _; unfold strconv_Atoi_44.f; rw [if_pos hz, mk_data, h]⟩, fun b q => by cases q⟩
theorem implJ (l p q : List UInt8) (hp : p.length ≤ 1048576) (hq : q.length ≤ 1048576) : ∃ r, Ev (fun k => impl_ParseFraction.j0 k (mk l) (mk p) (mk q)) r ∧ Res l r ∧
    (∀ a b, Lib.atoiAll p = .ok a → Lib.atoiAll q = .ok b → gd a b = true → ftext a b = l → r = (a, b, true)) := by
  obtain ⟨v, e, h1, h2⟩ := atoiE p hp
  obtain ⟨v', e', h1', h2'⟩ := atoiE q hq
  have key : ∃ r, Ev (fun k => (if e = true then (some (0, 0, false)) else (if e' = true then (some (0, 0, false)) else ((impl_IsFraction.f k v v').bind fun t167 => (if t167 = true then ((impl_fractionText.f k v v').bind fun t168 => (if t168.toList = (mk l).toList then (some (v, v', true)) else (some (0, 0, false)))) else (some (0, 0, false))))) : Option (Int × Int × Bool))) r ∧ Res l r ∧
      (e = false → e' = false → gd v v' = true → ftext v v' = l → r = (v, v', true)) := by
    cases e with
    | true => exact ⟨_, by simp only [if_true]; exact Ev.now _, .inl rfl, fun q => by cases q⟩
    | false =>
      cases e' with
      | true => exact ⟨_, by simp only [Bool.false_eq_true, if_false, if_true]; exact Ev.now _, .inl rfl, fun _ q => by cases q⟩
      | false =>
        have g := implG v v'
        cases hg : gd v v' with
        | false =>
          rw [hg] at g
          exact ⟨_, by simp only [Bool.false_eq_true, if_false]; exact Ev.bind g (Ev.now _), .inl rfl, fun _ _ q => by cases q⟩
        | true =>
          rw [hg] at g
          by_cases ht : ftext v v' = l
          · refine ⟨(v, v', true), ?_, .inr ⟨v, v', hg, ht, rfl⟩, fun _ _ _ _ => rfl⟩
            simp only [Bool.false_eq_true, if_false]
            refine Ev.bind g ?_
            simp only [if_true]
            refine Ev.bind (implT hg) ?_
            simp only [mk_toList, ht, if_true]
            exact Ev.now _
          · refine ⟨(0, 0, false), ?_, .inl rfl, fun _ _ _ q => absurd q ht⟩
            simp only [Bool.false_eq_true, if_false]
            refine Ev.bind g ?_
            simp only [if_true]
            refine Ev.bind (implT hg) ?_
            simp only [mk_toList, if_neg ht]
            exact Ev.now _
  obtain ⟨r, k1, k2, k3⟩ := key
  refine ⟨r, Ev.step (f := ?f) (fun k => ?e) ?v, k2, fun a b qa qb hg ht => ?_⟩
  case e => conv => lhs; simp only [impl_ParseFraction.j0]
  case v => exact Ev.bind h1 (Ev.bind h1' k1)
  · obtain ⟨rfl, ha⟩ := h2 a qa
    obtain ⟨rfl, hb⟩ := h2' b qb
    exact k3 ha hb hg ht
theorem implE (l : List UInt8) (hl : l.length ≤ 1048576) : ∃ r, Ev (fun k => impl_ParseFraction.f k (mk l)) r ∧ Res l r ∧ (∀ a b, gd a b = true → ftext a b = l → r = (a, b, true)) := by
  have hc : Ev (fun k => strings_Cut.f k (mk l) (⟨#[47]⟩ : ByteArray)) (mk (Lib.cut l [47]).1, mk (Lib.cut l [47]).2.1, (Lib.cut l [47]).2.2) := ⟨0, fun k _ => by
    show strings_Cut.f k (mk l) (⟨#[47]⟩ : ByteArray) = _
    unfold strings_Cut.f
    rw [if_pos (by rw [ba_size]; omega)]⟩
  have hlen := cut_len l
  unfold impl_ParseFraction.f
  cases hf : (Lib.cut l [47]).2.2 with
  | true =>
    obtain ⟨r, h1, h2, h3⟩ := implJ l (Lib.cut l [47]).1 (Lib.cut l [47]).2.1 (by omega) (by omega)
    refine ⟨r, Ev.bind hc ?_, h2, fun a b hg ht => ?_⟩
    · simp only [hf, if_true]; exact h1
    · have hp := gd_pos hg
      have hcut : Lib.cut l [47] = (Lib.itoa a, Lib.itoa b, true) := by
        by_cases c : b = 1
        · have e : l = Lib.itoa a := by rw [← ht, ftext, if_pos c]
          rw [e, cut_none _ (itoa_no47 a)] at hf
          cases hf
        · rw [← ht, ftext, if_neg c, cut_some _ _ (itoa_no47 a)]
      rw [hcut] at h3
      exact h3 a b (atoi_itoa a ⟨hp.2.2.1, hp.2.2.2⟩) (atoi_itoa b (by omega)) hg ht
  | false =>
    obtain ⟨r, h1, h2, h3⟩ := implJ l (Lib.cut l [47]).1 [49] (by omega) (by simp)
    refine ⟨r, Ev.bind hc ?_, h2, fun a b hg ht => ?_⟩
    · simp only [hf, Bool.false_eq_true, if_false]; exact h1
    · have hp := gd_pos hg
      by_cases c : b = 1
      · subst c
        have e : l = Lib.itoa a := by rw [← ht, ftext, if_pos rfl]
        have hcut : Lib.cut l [47] = (Lib.itoa a, [], false) := by rw [e]; exact cut_none _ (itoa_no47 a)
        rw [hcut] at h3
        exact h3 a 1 (atoi_itoa a ⟨hp.2.2.1, hp.2.2.2⟩) (by have := atoi_dd 1 (by omega); rw [Lib.decDigits_one (by decide)] at this; exact this) hg ht
      · rw [← ht, ftext, if_neg c, cut_some _ _ (itoa_no47 a)] at hf
        cases hf
theorem both (l : List UInt8) (hl : l.length ≤ 1048576) : ∃ r, Ev (fun k => spec_ParseFraction.f k (mk l)) r ∧ Ev (fun k => impl_ParseFraction.f k (mk l)) r := by
  obtain ⟨r, s1, s2⟩ := specA l hl
  obtain ⟨r', i1, i2, i3⟩ := implE l hl
  have e : r' = r := by
    rcases s2 with rfl | ⟨a, b, hg, ht, rfl⟩
    · rcases i2 with rfl | ⟨a, b, hg, ht, rfl⟩
      · rfl
      · exact ev_one (specB l hl a b hg ht) s1
    · exact i3 a b hg ht
  subst e
  refine ⟨r', ?_, i1⟩
  unfold spec_ParseFraction.f
  exact Ev.bind s1 (Ev.now _)
theorem proved : laws_FnExactParseFraction.Pure := by
  intro s _
  obtain ⟨⟨l⟩⟩ := s
  show ∃ k, laws_FnExactParseFraction.f k (mk l) = some true
  refine Ev.rounds ?_
  unfold laws_FnExactParseFraction.f
  by_cases hb : ((mk l).size : Int) > 1048576
  · simp only [if_pos hb]
    exact Ev.now _
  · simp only [if_neg hb]
    obtain ⟨r, s1, s2⟩ := both l (by rw [ba_size] at hb; omega)
    refine Ev.bind s1 (Ev.bind s2 ?_)
    simp only [laws_eqFraction.f, if_true, Option.bind_some, bne_self_eq_false, Bool.false_eq_true, if_false]
    exact Ev.now _

end LFnExactParseFraction
theorem FnExactParseFraction : laws_FnExactParseFraction.Pure := LFnExactParseFraction.proved
end Go.Proofs.YtjfhhpkgjdkmdaaDoor.Pure
