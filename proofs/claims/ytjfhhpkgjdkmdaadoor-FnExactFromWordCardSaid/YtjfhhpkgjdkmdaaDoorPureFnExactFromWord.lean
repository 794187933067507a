/- For any string, the program's fraction of a word of signs is the reference's. -/
import Derived.Test.YtjfhhpkgjdkmdaaDoorQFnExactFromWordx5
namespace Go.Proofs.YtjfhhpkgjdkmdaaDoor.Pure
open Go.RowKit Go.Proofs.YtjfhhpkgjdkmdaaDoor.QFnExactFromWord Go.Proofs.YtjfhhpkgjdkmdaaDoorW.PrintWords Go.Proofs.YtjfhhpkgjdkmdaaDoorW.PrintLast
set_option linter.unusedVariables false
set_option linter.unusedSimpArgs false
namespace LFnExactFromWord
/-! ### small words -/
theorem wsucc (i : Nat) (h : i < 2 ^ 62) : wrap64 ((i : Int) + 1) = ((i + 1 : Nat) : Int) := by unfold wrap64; omega

/-! ### the greatest common divisors of both sides -/
theorem abs_same (a : Int) : spec_l1Abs.f a = impl_size.f a := by
  unfold spec_l1Abs.f spec_l1Most.f impl_size.f mx
  generalize wrap64 (-a) = b
  by_cases h : a > b
  · rw [if_pos h, if_neg (by omega)]; rfl
  · rw [if_neg h]
    by_cases g : a < b
    · rw [if_pos g]; rfl
    · rw [if_neg g]
      have : a = b := by omega
      rw [this]; rfl
theorem gcd_same : ∀ (k : Nat) (a b : Int), spec_shGcd.l0 k a b = impl_gcd.l0 k a b
  | 0, _, _ => rfl
  | k + 1, a, b => by
    simp only [spec_shGcd.l0, impl_gcd.l0, abs_same, gcd_same k]
theorem gcd_some : ∀ (d k : Nat) (a b : Int), b.natAbs ≤ d → d < k → ∃ r, impl_gcd.l0 k a b = some r := by
  intro d
  induction d with
  | zero =>
    intro k a b hb hk
    obtain ⟨k, rfl⟩ : ∃ m, k = m + 1 := ⟨k - 1, by omega⟩
    simp only [impl_gcd.l0]
    rw [if_pos (by omega)]
    exact ⟨_, rfl⟩
  | succ d ih =>
    intro k a b hb hk
    obtain ⟨k, rfl⟩ : ∃ m, k = m + 1 := ⟨k - 1, by omega⟩
    simp only [impl_gcd.l0]
    by_cases h : b = 0
    · rw [if_pos h]
      exact ⟨_, rfl⟩
    · rw [if_neg h]
      refine ih k _ _ ?_ (by omega)
      rw [Int.natAbs_tmod]
      have := Nat.mod_lt a.natAbs (show b.natAbs > 0 by omega)
      omega

/-! ### bounds -/
theorem in_some (e a b : Int) : impl_in.f e a b = some (decide (a ≤ e ∧ e ≤ b)) := by
  unfold impl_in.f
  by_cases h : e ≥ a
  · rw [if_pos h]; congr 1; simp; omega
  · rw [if_neg h]; congr 1; simp; omega

theorem low_unique {a b c d : Nat} (hb : 0 < b) (hd : 0 < d) (h : a * d = c * b) : b / Nat.gcd a b = d / Nat.gcd c d ∧ a / Nat.gcd a b = c / Nat.gcd c d := by
  have g1 : 0 < Nat.gcd a b := Nat.gcd_pos_of_pos_right a hb
  have g2 : 0 < Nat.gcd c d := Nat.gcd_pos_of_pos_right c hd
  obtain ⟨A, hA⟩ := Nat.gcd_dvd_left a b
  obtain ⟨B, hB⟩ := Nat.gcd_dvd_right a b
  obtain ⟨C, hC⟩ := Nat.gcd_dvd_left c d
  obtain ⟨D, hD⟩ := Nat.gcd_dvd_right c d
  have c1 : Nat.Coprime A B := by
    have := Nat.coprime_div_gcd_div_gcd (m := a) (n := b) g1
    have e1 : a / Nat.gcd a b = A := Nat.div_eq_of_eq_mul_right g1 hA
    have e2 : b / Nat.gcd a b = B := Nat.div_eq_of_eq_mul_right g1 hB
    rwa [e1, e2] at this
  have c2 : Nat.Coprime C D := by
    have := Nat.coprime_div_gcd_div_gcd (m := c) (n := d) g2
    have e1 : c / Nat.gcd c d = C := Nat.div_eq_of_eq_mul_right g2 hC
    have e2 : d / Nat.gcd c d = D := Nat.div_eq_of_eq_mul_right g2 hD
    rwa [e1, e2] at this
  have e1 : a / Nat.gcd a b = A := Nat.div_eq_of_eq_mul_right g1 hA
  have e2 : b / Nat.gcd a b = B := Nat.div_eq_of_eq_mul_right g1 hB
  have e3 : c / Nat.gcd c d = C := Nat.div_eq_of_eq_mul_right g2 hC
  have e4 : d / Nat.gcd c d = D := Nat.div_eq_of_eq_mul_right g2 hD
  rw [e1, e2, e3, e4]
  have hh : A * D = C * B := by
    have : (a.gcd b * c.gcd d) * (A * D) = (a.gcd b * c.gcd d) * (C * B) := by
      calc _ = (a.gcd b * A) * (c.gcd d * D) := by ac_rfl
        _ = a * d := by rw [← hA, ← hD]
        _ = c * b := h
        _ = (c.gcd d * C) * (a.gcd b * B) := by rw [← hC, ← hB]
        _ = _ := by ac_rfl
    exact Nat.eq_of_mul_eq_mul_left (Nat.mul_pos g1 g2) this
  have d1 : B ∣ D := by
    have : B ∣ A * D := by rw [hh]; exact Nat.dvd_mul_left _ _
    exact (Nat.Coprime.symm c1).dvd_of_dvd_mul_left this
  have d2 : D ∣ B := by
    have : D ∣ C * B := by rw [← hh]; exact Nat.dvd_mul_left _ _
    exact (Nat.Coprime.symm c2).dvd_of_dvd_mul_left this
  have hBD := Nat.dvd_antisymm d1 d2
  refine ⟨hBD, ?_⟩
  have hBpos : 0 < B := by
    rcases Nat.eq_zero_or_pos B with h0 | h0
    · subst h0; simp at hB; omega
    · exact h0
  rw [← hBD] at hh
  exact Nat.eq_of_mul_eq_mul_right hBpos hh
/-- The quotient in lowest terms. -/
def lowT (p q : Int) : Int × Int := (Int.tdiv p (Int.gcd p q : Int), Int.tdiv q (Int.gcd p q : Int))
theorem lowT_eq {p q n d : Int} (hq : 0 < q) (hd : 0 < d) (h : p * d = n * q) : lowT p q = lowT n d := by
  unfold lowT
  have hn : p.natAbs * d.natAbs = n.natAbs * q.natAbs := by rw [← Int.natAbs_mul, ← Int.natAbs_mul, h]
  obtain ⟨e1, e2⟩ := low_unique (show 0 < q.natAbs by omega) (show 0 < d.natAbs by omega) hn
  have hs : (0 ≤ p ↔ 0 ≤ n) := by
    constructor
    · intro hp
      have h1 : 0 ≤ n * q := by rw [← h]; exact Int.mul_nonneg hp (by omega)
      by_cases c : 0 ≤ n
      · exact c
      · have := Int.mul_neg_of_neg_of_pos (show n < 0 by omega) hq
        omega
    · intro hp
      have h1 : 0 ≤ p * d := by rw [h]; exact Int.mul_nonneg hp (by omega)
      by_cases c : 0 ≤ p
      · exact c
      · have := Int.mul_neg_of_neg_of_pos (show p < 0 by omega) hd
        omega
  have hg1 : Int.gcd p q = Nat.gcd p.natAbs q.natAbs := rfl
  have hg2 : Int.gcd n d = Nat.gcd n.natAbs d.natAbs := rfl
  rw [hg1, hg2]
  generalize Nat.gcd p.natAbs q.natAbs = g at e1 e2
  generalize Nat.gcd n.natAbs d.natAbs = g' at e1 e2
  have hqn : q = (q.natAbs : Int) := by omega
  have hdn : d = (d.natAbs : Int) := by omega
  have b1 : Int.tdiv q g = Int.tdiv d g' := by
    rw [hqn, hdn, ← Int.ofNat_tdiv, ← Int.ofNat_tdiv]
    rw [e1]
  have b2 : Int.tdiv p g = Int.tdiv n g' := by
    by_cases c : 0 ≤ p
    · have c' := hs.1 c
      rw [show p = (p.natAbs : Int) by omega, show n = (n.natAbs : Int) by omega, ← Int.ofNat_tdiv, ← Int.ofNat_tdiv]
      rw [e2]
    · have c' : ¬ 0 ≤ n := fun h' => c (hs.2 h')
      rw [show p = -(p.natAbs : Int) by omega, show n = -(n.natAbs : Int) by omega, Int.neg_tdiv, Int.neg_tdiv, ← Int.ofNat_tdiv, ← Int.ofNat_tdiv]
      rw [e2]
  rw [b1, b2]
theorem size_is {a : Int} (h1 : -4611686018427387904 ≤ a) (h2 : a ≤ 4611686018427387904) : impl_size.f a = some (a.natAbs : Int) := by
  have hw : wrap64 (-a) = -a := by unfold wrap64; omega
  unfold impl_size.f
  rw [hw]
  clear hw
  unfold mx
  split <;> (congr 1; omega)
theorem gcd_is : ∀ (d k : Nat) (a b : Int), -4611686018427387904 ≤ a → a ≤ 4611686018427387904 → b.natAbs ≤ d → -4611686018427387904 ≤ b → b ≤ 4611686018427387904 → d < k → impl_gcd.l0 k a b = some ((Int.gcd a b : Nat) : Int) := by
  intro d
  induction d with
  | zero =>
    intro k a b h1 h2 hb h3 h4 hk
    obtain ⟨k, rfl⟩ : ∃ m, k = m + 1 := ⟨k - 1, by omega⟩
    have hb0 : b = 0 := by omega
    subst hb0
    simp only [impl_gcd.l0, if_true, size_is h1 h2, Option.bind_some]
    simp
  | succ d ih =>
    intro k a b h1 h2 hb h3 h4 hk
    obtain ⟨k, rfl⟩ : ∃ m, k = m + 1 := ⟨k - 1, by omega⟩
    simp only [impl_gcd.l0]
    by_cases h : b = 0
    · subst h
      simp only [if_true, size_is h1 h2, Option.bind_some]
      simp
    · rw [if_neg h]
      have hm : (Int.tmod a b).natAbs < b.natAbs := by
        rw [Int.natAbs_tmod]
        exact Nat.mod_lt a.natAbs (show b.natAbs > 0 by omega)
      rw [ih k b (Int.tmod a b) h3 h4 (by omega) (by omega) (by omega) (by omega)]
      congr 2
      show Nat.gcd b.natAbs (Int.tmod a b).natAbs = Nat.gcd a.natAbs b.natAbs
      rw [Int.natAbs_tmod, Nat.gcd_comm, ← Nat.gcd_rec, Nat.gcd_comm]
theorem gcd_ev2 (a b : Int) (h1 : -4611686018427387904 ≤ a) (h2 : a ≤ 4611686018427387904) (h3 : -4611686018427387904 ≤ b) (h4 : b ≤ 4611686018427387904) : Ev (fun k => impl_gcd.f k a b) ((Int.gcd a b : Nat) : Int) :=
  Ev.of (impl_gcd.mono a b) (k := b.natAbs + 1) (gcd_is b.natAbs _ a b h1 h2 (Nat.le_refl _) h3 h4 (by omega))
theorem tdiv_abs (p : Int) (g : Nat) : (Int.tdiv p (g : Int)).natAbs ≤ p.natAbs := by
  rw [Int.natAbs_tdiv]
  exact Nat.div_le_self _ _
/-- What a quotient in lowest terms is. -/
theorem lowT_facts (p : Int) {q : Int} (hq : 0 < q) : 0 < (lowT p q).2 ∧ (lowT p q).2 ≤ q ∧ (lowT p q).1.natAbs ≤ p.natAbs ∧ (lowT p q).1 * q = p * (lowT p q).2 := by
  have hg : 0 < Int.gcd p q := Int.gcd_pos_of_ne_zero_right _ (by omega)
  have d1 : ((Int.gcd p q : Nat) : Int) ∣ p := Int.gcd_dvd_left ..
  have d2 : ((Int.gcd p q : Nat) : Int) ∣ q := Int.gcd_dvd_right ..
  unfold lowT
  generalize Int.gcd p q = g at hg d1 d2
  obtain ⟨a, ha⟩ := d1
  obtain ⟨b, hb⟩ := d2
  have e1 : Int.tdiv p g = a := by rw [ha]; exact Int.mul_tdiv_cancel_left _ (by omega)
  have e2 : Int.tdiv q g = b := by rw [hb]; exact Int.mul_tdiv_cancel_left _ (by omega)
  have hb0 : 0 < b := by
    by_cases c : 0 < b
    · exact c
    · have := Int.mul_nonpos_of_nonneg_of_nonpos (show (0 : Int) ≤ g by omega) (show b ≤ 0 by omega)
      omega
  have t1 := tdiv_abs p g
  have t2 := tdiv_abs q g
  refine ⟨by simp only [e2]; exact hb0, by omega, t1, ?_⟩
  simp only [e1, e2]
  rw [ha, hb]
  simp only [Int.mul_assoc, Int.mul_comm, Int.mul_left_comm]
theorem make_ev (p q : Int) (h1 : -4611686018427387904 ≤ p) (h2 : p ≤ 4611686018427387904) (h3 : 0 < q) (h4 : q ≤ 4611686018427387904) : Ev (fun k => spec_shMake.f k p q) (lowT p q) := by
  have hg : Ev (fun k => spec_shGcd.f k p q) ((Int.gcd p q : Nat) : Int) := Ev.congr (fun k => gcd_same k p q) (gcd_ev2 p q h1 h2 (by omega) h4)
  have hg0 : 0 < Int.gcd p q := Int.gcd_pos_of_ne_zero_right _ (by omega)
  obtain ⟨f1, f2, f3, _⟩ := lowT_facts p h3
  unfold spec_shMake.f
  refine Ev.bind hg ?_
  rw [if_neg (show ¬ q < 0 by omega), if_neg (show ¬ ((Int.gcd p q : Nat) : Int) = 0 by omega)]
  have w1 : wrap64 (Int.tdiv p (Int.gcd p q : Nat)) = (lowT p q).1 := by
    show wrap64 (lowT p q).1 = _
    generalize (lowT p q).1 = z at f3
    unfold wrap64; omega
  have w2 : wrap64 (Int.tdiv q (Int.gcd p q : Nat)) = (lowT p q).2 := by
    show wrap64 (lowT p q).2 = _
    generalize (lowT p q).2 = z at f1 f2
    unfold wrap64; omega
  rw [w1, w2]
  exact Ev.now _
/-- The fraction of so many parts of 1048576. -/
def U (n : Int) : Int × Int := lowT n 1048576
def LF (l : List Int) : Int × Int := match l.getLast? with
  | none => (0, 0)
  | some y => U y
theorem LF_snoc (l : List Int) (x : Int) : LF (l ++ [x]) = U x := by
  unfold LF
  rw [List.getLast?_append]
  rfl
theorem U_facts (n : Int) : 0 < (U n).2 ∧ (U n).2 ≤ 1048576 ∧ (U n).1.natAbs ≤ n.natAbs ∧ (U n).1 * 1048576 = n * (U n).2 := lowT_facts n (by decide)
theorem mul_bd {a b A B : Int} (h1 : -A ≤ a) (h2 : a ≤ A) (h3 : 0 ≤ b) (h4 : b ≤ B) (hA : 0 ≤ A) : -(A * B) ≤ a * b ∧ a * b ≤ A * B := by
  have e1 : a * b ≤ A * b := Int.mul_le_mul_of_nonneg_right h2 h3
  have e2 : (-A) * b ≤ a * b := Int.mul_le_mul_of_nonneg_right h1 h3
  have e3 : A * b ≤ A * B := Int.mul_le_mul_of_nonneg_left h4 hA
  rw [Int.neg_mul] at e2
  omega
theorem add_ev (a1 a2 b1 b2 : Int) (hx1 : -41943040 ≤ a1) (hx2 : a1 ≤ 41943040) (hy1 : -41943040 ≤ b1) (hy2 : b1 ≤ 41943040) (ha1 : 0 < a2) (ha2 : a2 ≤ 1048576) (hb1 : 0 < b2) (hb2 : b2 ≤ 1048576) :
    Ev (fun k => spec_shAdd.f k a1 a2 b1 b2) (lowT (a1 * b2 + b1 * a2) (a2 * b2)) := by
  have p1 := mul_bd hx1 hx2 (Int.le_of_lt hb1) hb2 (by decide)
  have p2 := mul_bd hy1 hy2 (Int.le_of_lt ha1) ha2 (by decide)
  have p3 := mul_bd (show -1048576 ≤ a2 by omega) ha2 (Int.le_of_lt hb1) hb2 (by decide)
  have p4 := Int.mul_pos ha1 hb1
  have w1 : wrap64 (a1 * b2) = a1 * b2 := by unfold wrap64; omega
  have w2 : wrap64 (b1 * a2) = b1 * a2 := by unfold wrap64; omega
  have w3 : wrap64 (a2 * b2) = a2 * b2 := by unfold wrap64; omega
  have w4 : wrap64 (a1 * b2 + b1 * a2) = a1 * b2 + b1 * a2 := by clear w1 w2 w3; unfold wrap64; omega
  unfold spec_shAdd.f
  rw [w1, w2, w3, w4]
  clear w1 w2 w3 w4
  exact Ev.bind (make_ev _ _ (by omega) (by omega) p4 (by omega)) (Ev.now _)
theorem addU_ev (x y : Int) (hx1 : -20971520 ≤ x) (hx2 : x ≤ 20971520) (hy1 : -20971520 ≤ y) (hy2 : y ≤ 20971520) : Ev (fun k => spec_shAdd.f k (U x).1 (U x).2 (U y).1 (U y).2) (U (x + y)) := by
  obtain ⟨a1, a2, a3, a4⟩ := U_facts x
  obtain ⟨b1, b2, b3, b4⟩ := U_facts y
  have e : lowT ((U x).1 * (U y).2 + (U y).1 * (U x).2) ((U x).2 * (U y).2) = U (x + y) := by
    refine lowT_eq (Int.mul_pos a1 b1) (by decide) ?_
    rw [Int.add_mul, Int.add_mul, show (U x).1 * (U y).2 * 1048576 = (U x).1 * 1048576 * (U y).2 by simp only [Int.mul_assoc, Int.mul_comm, Int.mul_left_comm], a4, show (U y).1 * (U x).2 * 1048576 = (U y).1 * 1048576 * (U x).2 by simp only [Int.mul_assoc, Int.mul_comm, Int.mul_left_comm], b4]
    simp only [Int.mul_assoc, Int.mul_comm, Int.mul_left_comm]
  rw [← e]
  exact add_ev _ _ _ _ (by omega) (by omega) (by omega) (by omega) a1 a2 b1 b2
theorem addI_ev (x j : Int) (hx1 : -20971520 ≤ x) (hx2 : x ≤ 20971520) (hj : j = 1 ∨ j = -1) : Ev (fun k => spec_shAdd.f k (U x).1 (U x).2 j 1) (U (x + j * 1048576)) := by
  obtain ⟨a1, a2, a3, a4⟩ := U_facts x
  have e : lowT ((U x).1 * 1 + j * (U x).2) ((U x).2 * 1) = U (x + j * 1048576) := by
    refine lowT_eq (by omega) (by decide) ?_
    rw [Int.mul_one, Int.mul_one, Int.add_mul, a4, Int.add_mul]
    simp only [Int.mul_assoc, Int.mul_comm, Int.mul_left_comm]
  rw [← e]
  exact add_ev _ _ _ _ (by omega) (by omega) (by omega) (by omega) a1 a2 (by decide) (by decide)
theorem halfU_ev (z : Int) (hz1 : -20971520 ≤ z) (hz2 : z ≤ 20971520) : Ev (fun k => spec_shMul.f k (U (z + z)).1 (U (z + z)).2 1 2) (U z) := by
  obtain ⟨a1, a2, a3, a4⟩ := U_facts (z + z)
  have e : lowT ((U (z + z)).1 * 1) ((U (z + z)).2 * 2) = U z := by
    refine lowT_eq (by omega) (by decide) ?_
    rw [Int.mul_one, a4, show z + z = z * 2 by omega]
    simp only [Int.mul_assoc, Int.mul_comm, Int.mul_left_comm]
  have w1 : wrap64 ((U (z + z)).1 * 1) = (U (z + z)).1 * 1 := by unfold wrap64; omega
  have w2 : wrap64 ((U (z + z)).2 * 2) = (U (z + z)).2 * 2 := by unfold wrap64; omega
  rw [← e]
  unfold spec_shMul.f
  rw [w1, w2]
  clear w1 w2
  exact Ev.bind (make_ev _ _ (by omega) (by omega) (by omega) (by omega)) (Ev.now _)
/-- A walk's state behind i letters: m whole steps, c halvings. -/
def St (i : Nat) (x : Int) (lo hi : List Int) : Prop :=
  ∃ m c : Nat, m + c = i ∧ (∀ y, y = x ∨ lo.getLast? = some y ∨ hi.getLast? = some y → -((m : Int) * 1048576) ≤ y ∧ y ≤ (m : Int) * 1048576 ∧ ∃ a : Int, y * ((2 ^ c : Nat) : Int) = a * 1048576) ∧
    (lo = [] ∨ hi = [] → c = 0) ∧ (lo ≠ [] ∨ hi ≠ [] → 1 ≤ m)
theorem St.start : St 0 0 [] [] := by
  refine ⟨0, 0, rfl, ?_, fun _ => rfl, ?_⟩
  · intro y h
    rcases h with rfl | h | h
    · exact ⟨by decide, by decide, 0, by decide⟩
    · cases h
    · cases h
  · intro h
    rcases h with h | h <;> exact absurd rfl h
theorem St.bd {i : Nat} {x : Int} {lo hi : List Int} (h : St i x lo hi) (hi20 : i ≤ 20) : -20971520 ≤ x ∧ x ≤ 20971520 := by
  obtain ⟨m, c, hm, hb, _⟩ := h
  obtain ⟨b1, b2, _⟩ := hb x (.inl rfl)
  omega
theorem St.good {i : Nat} {x : Int} {lo hi : List Int} (h : St i x lo hi) (hi20 : i ≤ 20) : (U x).2 ≤ 1000000 ∧ (U x).1.natAbs ≤ 1000000 := by
  obtain ⟨m, c, hm, hb, h1, h2⟩ := h
  obtain ⟨b1, b2, a, ha⟩ := hb x (.inl rfl)
  have hc : c < 20 := by
    by_cases q : c = 0
    · omega
    · have : 1 ≤ m := h2 (.inl (fun e => q (h1 (.inl e))))
      omega
  have t1 : ∀ c : Nat, c < 20 → 2 ^ c ≤ 1000000 ∧ (20 - c) * 2 ^ c ≤ 1000000 := by decide
  obtain ⟨p1, p2⟩ := t1 c hc
  have hp : 0 < 2 ^ c := Nat.pow_pos (by decide)
  have e : U x = lowT a ((2 ^ c : Nat) : Int) := lowT_eq (by decide) (by omega) ha
  rw [e]
  obtain ⟨f1, f2, f3, f4⟩ := lowT_facts a (show (0 : Int) < ((2 ^ c : Nat) : Int) by omega)
  have hab : a.natAbs * 1048576 ≤ m * 1048576 * 2 ^ c := by
    have q := congrArg Int.natAbs ha
    rw [Int.natAbs_mul, Int.natAbs_mul] at q
    have q1 : x.natAbs ≤ m * 1048576 := by omega
    have q2 := Nat.mul_le_mul_right (2 ^ c) q1
    simp only [Int.natAbs_natCast] at q
    show a.natAbs * 1048576 ≤ _
    have q3 : (1048576 : Int).natAbs = 1048576 := rfl
    rw [q3] at q
    omega
  have hm2 : m * 2 ^ c ≤ (20 - c) * 2 ^ c := Nat.mul_le_mul_right _ (by omega)
  rw [show m * 1048576 * 2 ^ c = (m * 2 ^ c) * 1048576 by simp only [Nat.mul_assoc, Nat.mul_comm, Nat.mul_left_comm]] at hab
  exact ⟨by omega, by omega⟩
theorem units_ev {i : Nat} {x : Int} {lo hi : List Int} (h : St i x lo hi) (hi20 : i ≤ 20) : Ev (fun k => impl_fromUnits.f k x) (U x) := by
  obtain ⟨g1, g2⟩ := h.good hi20
  obtain ⟨b1, b2⟩ := h.bd hi20
  obtain ⟨f1, f2, f3, f4⟩ := U_facts x
  have hg0 : 0 < Int.gcd x 1048576 := Int.gcd_pos_of_ne_zero_right _ (by decide)
  have w1 : wrap64 (Int.tdiv x ((Int.gcd x 1048576 : Nat) : Int)) = (U x).1 := by
    show wrap64 (U x).1 = _
    generalize (U x).1 = z at f3 g2
    unfold wrap64; omega
  have w2 : wrap64 (Int.tdiv 1048576 ((Int.gcd x 1048576 : Nat) : Int)) = (U x).2 := by
    show wrap64 (U x).2 = _
    generalize (U x).2 = z at f1 f2
    unfold wrap64; omega
  have hco : Int.gcd (U x).1 (U x).2 = 1 := by
    show Nat.gcd (Int.tdiv x ((Int.gcd x 1048576 : Nat) : Int)).natAbs (Int.tdiv 1048576 ((Int.gcd x 1048576 : Nat) : Int)).natAbs = 1
    rw [Int.natAbs_tdiv, Int.natAbs_tdiv, Int.natAbs_natCast]
    exact Nat.coprime_div_gcd_div_gcd (m := x.natAbs) (n := (1048576 : Int).natAbs) hg0
  have hgd : Ev (fun k => impl_IsFraction.f k (U x).1 (U x).2) true := by
    unfold impl_IsFraction.f
    simp only [in_some, Option.bind_some]
    rw [decide_eq_true (show 1 ≤ (U x).2 ∧ (U x).2 ≤ 1000000 from ⟨by omega, g1⟩), decide_eq_true (show -1000000 ≤ (U x).1 ∧ (U x).1 ≤ 1000000 from ⟨by omega, by omega⟩)]
    simp only [if_true]
    refine Ev.bind (gcd_ev2 _ _ (by omega) (by omega) (by omega) (by omega)) ?_
    rw [hco]
    exact Ev.now _
  unfold impl_fromUnits.f impl_made.f
  simp only [show ¬ (1048576 : Int) = 0 from by decide, if_false, show ¬ (1048576 : Int) < 0 from by decide]
  refine Ev.bind (a := ((U x).1, (U x).2, true)) ?_ (Ev.now _)
  refine Ev.bind (gcd_ev2 _ _ (by omega) (by omega) (by decide) (by decide)) ?_
  simp only [if_neg (show ¬ ((Int.gcd x 1048576 : Nat) : Int) = 0 by omega), w1, w2]
  refine Ev.bind hgd ?_
  simp only [if_true]
  exact Ev.now _
theorem last_rd (l : List Int) (y : Int) (h : l.getLast? = some y) (hl : l.length ≤ 1000000) : 0 ≤ wrap64 ((l.length : Int) - 1) ∧ wrap64 ((l.length : Int) - 1) < (l.length : Int) ∧ rd l (wrap64 ((l.length : Int) - 1)) = y := by
  rw [List.getLast?_eq_getElem?] at h
  obtain ⟨hlt, e⟩ := List.getElem?_eq_some_iff.1 h
  have hw : wrap64 ((l.length : Int) - 1) = ((l.length - 1 : Nat) : Int) := by unfold wrap64; omega
  rw [hw]
  refine ⟨by omega, by omega, ?_⟩
  simp [rd, List.getD_eq_getElem?_getD, List.getElem?_eq_getElem hlt, e]
theorem between_up (x : Int) (lo hi : List Int) (h : hi.length ≤ 1000000) (hx1 : -20971520 ≤ x) (hx2 : x ≤ 20971520) : (hi = [] → impl_between.f x 1 lo hi = some (x + 1 * 1048576)) ∧ (∀ y z, hi.getLast? = some y → x + y = z + z → -20971520 ≤ z → z ≤ 20971520 → impl_between.f x 1 lo hi = some z) := by
  refine ⟨?_, ?_⟩
  · rintro rfl
    have hw : wrap64 (x + wrap64 (1 * 1048576)) = x + 1 * 1048576 := by
      rw [show wrap64 (1 * 1048576) = 1048576 from by unfold wrap64; omega]
      unfold wrap64; omega
    unfold impl_between.f
    rw [hw]
    rfl
  · intro y z hy hz h1 h2
    obtain ⟨e1, e2, e3⟩ := last_rd hi y hy h
    have hne : ¬ (hi.length : Int) = 0 := by
      cases hi with
      | nil => cases hy
      | cons a l => rw [List.length_cons]; omega
    have hw : wrap64 (Int.tdiv (wrap64 (x + y)) 2) = z := by
      rw [hz, show wrap64 (z + z) = z * 2 by unfold wrap64; omega, Int.mul_tdiv_cancel _ (by decide)]
      unfold wrap64; omega
    unfold impl_between.f
    simp only [show (1 : Int) > 0 from by decide, if_true, if_neg hne, if_pos e1, if_pos e2, e3, hw]
theorem between_down (x : Int) (lo hi : List Int) (h : lo.length ≤ 1000000) (hx1 : -20971520 ≤ x) (hx2 : x ≤ 20971520) : (lo = [] → impl_between.f x (-1) lo hi = some (x + (-1) * 1048576)) ∧ (∀ y z, lo.getLast? = some y → x + y = z + z → -20971520 ≤ z → z ≤ 20971520 → impl_between.f x (-1) lo hi = some z) := by
  refine ⟨?_, ?_⟩
  · rintro rfl
    have hw : wrap64 (x + wrap64 ((-1) * 1048576)) = x + (-1) * 1048576 := by
      rw [show wrap64 ((-1) * 1048576) = -1048576 from by unfold wrap64; omega]
      unfold wrap64; omega
    unfold impl_between.f
    rw [hw]
    rfl
  · intro y z hy hz h1 h2
    obtain ⟨e1, e2, e3⟩ := last_rd lo y hy h
    have hne : ¬ (lo.length : Int) = 0 := by
      cases lo with
      | nil => cases hy
      | cons a l => rw [List.length_cons]; omega
    have hw : wrap64 (Int.tdiv (wrap64 (x + y)) 2) = z := by
      rw [hz, show wrap64 (z + z) = z * 2 by unfold wrap64; omega, Int.mul_tdiv_cancel _ (by decide)]
      unfold wrap64; omega
    unfold impl_between.f
    simp only [show ¬ ((-1 : Int) > 0) from by decide, if_false, if_neg hne, if_pos e1, if_pos e2, e3, hw]
/-- A whole step. -/
theorem St.one {i : Nat} {x j : Int} {lo hi lo' hi' : List Int} (h : St i x lo hi) (hj : j = 1 ∨ j = -1) (hc : lo = [] ∨ hi = []) (hc' : lo' = [] ∨ hi' = [])
    (hl : ∀ y, lo'.getLast? = some y ∨ hi'.getLast? = some y → y = x ∨ lo.getLast? = some y ∨ hi.getLast? = some y) : St (i + 1) (x + j * 1048576) lo' hi' := by
  obtain ⟨m, c, hm, hb, h1, h2⟩ := h
  obtain rfl : c = 0 := h1 hc
  refine ⟨m + 1, 0, by omega, ?_, fun _ => rfl, fun _ => by omega⟩
  have one : ∀ y, (y = x ∨ lo.getLast? = some y ∨ hi.getLast? = some y) → -(((m + 1 : Nat) : Int) * 1048576) ≤ y ∧ y ≤ ((m + 1 : Nat) : Int) * 1048576 ∧ ∃ a : Int, y * ((2 ^ 0 : Nat) : Int) = a * 1048576 := by
    intro y hy
    obtain ⟨b1, b2, b3⟩ := hb y hy
    exact ⟨by omega, by omega, b3⟩
  intro y hy
  rcases hy with rfl | hy
  · obtain ⟨b1, b2, a, ha⟩ := hb x (.inl rfl)
    refine ⟨by omega, by omega, a + j, ?_⟩
    rw [show ((2 ^ 0 : Nat) : Int) = 1 from rfl] at ha ⊢
    omega
  · exact one y (hl y hy)
/-- A halving. -/
theorem St.half {i : Nat} {x u : Int} {lo hi lo' hi' : List Int} (h : St i x lo hi) (h0 : lo ≠ [] ∨ hi ≠ []) (hu : lo.getLast? = some u ∨ hi.getLast? = some u) (hn : lo' ≠ []) (hn' : hi' ≠ []) (hi20 : i < 20)
    (hl : ∀ y, lo'.getLast? = some y ∨ hi'.getLast? = some y → y = x ∨ lo.getLast? = some y ∨ hi.getLast? = some y) : ∃ z, x + u = z + z ∧ St (i + 1) z lo' hi' := by
  obtain ⟨m, c, hm, hb, h1, h2⟩ := h
  have hm1 := h2 h0
  obtain ⟨b1, b2, a, ha⟩ := hb x (.inl rfl)
  obtain ⟨d1, d2, b, hb'⟩ := hb u (.inr hu)
  have hev : ∃ z, x + u = z + z ∧ z * ((2 ^ (c + 1) : Nat) : Int) = (a + b) * 1048576 := by
    obtain ⟨e, he⟩ : ∃ e, e + c + 1 = 20 := ⟨19 - c, by omega⟩
    have hQ : (1048576 : Int) = ((2 ^ e : Nat) : Int) * ((2 ^ c : Nat) : Int) * 2 := by
      rw [← Int.natCast_mul, ← Nat.pow_add]
      have : 2 ^ (e + c) * 2 = 2 ^ 20 := by rw [← Nat.pow_succ, Nat.succ_eq_add_one, he]
      have h' : ((2 ^ (e + c) * 2 : Nat) : Int) = ((2 ^ 20 : Nat) : Int) := by rw [this]
      rw [Int.natCast_mul] at h'
      exact h'.symm
    have hp : ((2 ^ c : Nat) : Int) ≠ 0 := by have : 0 < 2 ^ c := Nat.pow_pos (by decide); omega
    have e1 : x = a * ((2 ^ e : Nat) : Int) * 2 := by
      refine Int.eq_of_mul_eq_mul_right hp ?_
      rw [ha, hQ]
      simp only [Int.mul_assoc, Int.mul_comm, Int.mul_left_comm]
    have e2 : u = b * ((2 ^ e : Nat) : Int) * 2 := by
      refine Int.eq_of_mul_eq_mul_right hp ?_
      rw [hb', hQ]
      simp only [Int.mul_assoc, Int.mul_comm, Int.mul_left_comm]
    refine ⟨(a + b) * ((2 ^ e : Nat) : Int), ?_, ?_⟩
    · rw [Int.add_mul]
      generalize a * ((2 ^ e : Nat) : Int) = p at e1 ⊢
      generalize b * ((2 ^ e : Nat) : Int) = q at e2 ⊢
      omega
    · rw [hQ, Nat.pow_succ, Int.natCast_mul]
      simp only [Int.mul_assoc, Int.mul_comm, Int.mul_left_comm]
      rfl
  obtain ⟨z, hz, hz2⟩ := hev
  refine ⟨z, hz, m, c + 1, by omega, ?_, ?_, fun _ => hm1⟩
  · intro y hy
    rcases hy with rfl | hy
    · exact ⟨by omega, by omega, a + b, hz2⟩
    · obtain ⟨f1, f2, g, hg⟩ := hb y (hl y hy)
      refine ⟨f1, f2, g * 2, ?_⟩
      rw [Nat.pow_succ, Int.natCast_mul, ← Int.mul_assoc, hg]
      simp only [Int.mul_assoc, Int.mul_comm, Int.mul_left_comm]
      rfl
  · intro h
    rcases h with h | h
    · exact absurd h hn
    · exact absurd h hn'
theorem LF_some {l : List Int} {y : Int} (h : l.getLast? = some y) : LF l = U y := by unfold LF; rw [h]
theorem snoc_ne (l : List Int) (x : Int) : l ++ [x] ≠ [] := by simp
theorem getLast_snoc (l : List Int) (x : Int) : (l ++ [x]).getLast? = some x := by rw [List.getLast?_append]; rfl
theorem lastOr (l : List Int) : l = [] ∨ ∃ y, l.getLast? = some y := by
  cases l with
  | nil => exact .inl rfl
  | cons a l => exact .inr ⟨_, List.getLast?_eq_some_getLast (by simp)⟩
/-- One letter: both sides take the same step. -/
theorem step_up {i : Nat} {x : Int} {lo hi : List Int} (h : St i x lo hi) (hi20 : i < 20) (hl : hi.length ≤ 1000000) :
    ∃ x', impl_between.f x 1 (lo ++ [x]) hi = some x' ∧ St (i + 1) x' (lo ++ [x]) hi ∧
      Ev (fun k => spec_shWalk_step.f k (U x).1 (U x).2 (LF lo).1 (LF lo).2 (LF hi).1 (LF hi).2 (!lo.isEmpty) (!hi.isEmpty) true)
        ((U x').1, (U x').2, (LF (lo ++ [x])).1, (LF (lo ++ [x])).2, (LF hi).1, (LF hi).2, (!(lo ++ [x]).isEmpty), (!hi.isEmpty)) := by
  obtain ⟨bx1, bx2⟩ := h.bd (by omega)
  obtain ⟨bt1, bt2⟩ := between_up x (lo ++ [x]) hi hl bx1 bx2
  have hne : (!(lo ++ [x]).isEmpty) = true := by simp
  rcases lastOr hi with rfl | ⟨y, hy⟩
  · have hS : St (i + 1) (x + 1 * 1048576) (lo ++ [x]) [] := h.one (.inl rfl) (.inr rfl) (.inr rfl) (fun y hy => by
      rcases hy with hy | hy
      · rw [getLast_snoc] at hy; exact .inl (Option.some.inj hy).symm
      · cases hy)
    refine ⟨_, bt1 rfl, hS, ?_⟩
    rw [LF_snoc, hne]
    unfold spec_shWalk_step.f
    simp only [if_true]
    refine Ev.step (fun k => by simp only [spec_shWalk_step.j0, if_true]; exact rfl) ?_
    refine Ev.step (fun k => by simp only [spec_shWalk_step.j1, List.isEmpty_nil, Bool.not_true, Bool.false_eq_true, if_false, if_true, spec_shInt.f, Option.bind_some]; exact rfl) ?_
    exact Ev.bind (addI_ev x 1 bx1 bx2 (.inl rfl)) (Ev.now _)
  · have hh : hi ≠ [] := by rintro rfl; cases hy
    have hie : hi.isEmpty = false := by cases hi with
      | nil => exact absurd rfl hh
      | cons a l => rfl
    obtain ⟨z, hz, hS⟩ := h.half (lo' := lo ++ [x]) (hi' := hi) (.inr hh) (.inr hy) (snoc_ne _ _) hh hi20 (fun y hy => by
      rcases hy with hy | hy
      · rw [getLast_snoc] at hy; exact .inl (Option.some.inj hy).symm
      · exact .inr (.inr hy))
    obtain ⟨bz1, bz2⟩ := hS.bd (by omega)
    obtain ⟨by1, by2⟩ : -20971520 ≤ y ∧ y ≤ 20971520 := by
      obtain ⟨m, c, hm, hb, _⟩ := h
      obtain ⟨b1, b2, _⟩ := hb y (.inr (.inr hy))
      omega
    refine ⟨z, bt2 y z hy hz bz1 bz2, hS, ?_⟩
    rw [LF_snoc, hne, LF_some hy, hie]
    unfold spec_shWalk_step.f
    simp only [if_true]
    refine Ev.step (fun k => by simp only [spec_shWalk_step.j0, if_true]; exact rfl) ?_
    refine Ev.step (fun k => by simp only [spec_shWalk_step.j1, Bool.not_false, if_true]; exact rfl) ?_
    have e := addU_ev x y bx1 bx2 by1 by2
    rw [hz] at e
    exact Ev.bind e (Ev.bind (halfU_ev z bz1 bz2) (Ev.now _))
theorem step_down {i : Nat} {x : Int} {lo hi : List Int} (h : St i x lo hi) (hi20 : i < 20) (hl : lo.length ≤ 1000000) :
    ∃ x', impl_between.f x (-1) lo (hi ++ [x]) = some x' ∧ St (i + 1) x' lo (hi ++ [x]) ∧
      Ev (fun k => spec_shWalk_step.f k (U x).1 (U x).2 (LF lo).1 (LF lo).2 (LF hi).1 (LF hi).2 (!lo.isEmpty) (!hi.isEmpty) false)
        ((U x').1, (U x').2, (LF lo).1, (LF lo).2, (LF (hi ++ [x])).1, (LF (hi ++ [x])).2, (!lo.isEmpty), (!(hi ++ [x]).isEmpty)) := by
  obtain ⟨bx1, bx2⟩ := h.bd (by omega)
  obtain ⟨bt1, bt2⟩ := between_down x lo (hi ++ [x]) hl bx1 bx2
  have hne : (!(hi ++ [x]).isEmpty) = true := by simp
  rcases lastOr lo with rfl | ⟨y, hy⟩
  · have hS : St (i + 1) (x + (-1) * 1048576) [] (hi ++ [x]) := h.one (.inr rfl) (.inl rfl) (.inl rfl) (fun y hy => by
      rcases hy with hy | hy
      · cases hy
      · rw [getLast_snoc] at hy; exact .inl (Option.some.inj hy).symm)
    refine ⟨_, bt1 rfl, hS, ?_⟩
    rw [LF_snoc, hne]
    unfold spec_shWalk_step.f
    simp only [Bool.false_eq_true, if_false]
    refine Ev.step (fun k => by simp only [spec_shWalk_step.j0, List.isEmpty_nil, Bool.not_true, Bool.false_eq_true, if_false]; exact rfl) ?_
    refine Ev.step (fun k => by simp only [spec_shWalk_step.j1, Bool.false_eq_true, if_false, spec_shInt.f, Option.bind_some]; exact rfl) ?_
    exact Ev.bind (addI_ev x (-1) bx1 bx2 (.inr rfl)) (Ev.now _)
  · have hh : lo ≠ [] := by rintro rfl; cases hy
    have hie : lo.isEmpty = false := by cases lo with
      | nil => exact absurd rfl hh
      | cons a l => rfl
    obtain ⟨z, hz, hS⟩ := h.half (lo' := lo) (hi' := hi ++ [x]) (.inl hh) (.inl hy) hh (snoc_ne _ _) hi20 (fun y hy => by
      rcases hy with hy | hy
      · exact .inr (.inl hy)
      · rw [getLast_snoc] at hy; exact .inl (Option.some.inj hy).symm)
    obtain ⟨bz1, bz2⟩ := hS.bd (by omega)
    obtain ⟨by1, by2⟩ : -20971520 ≤ y ∧ y ≤ 20971520 := by
      obtain ⟨m, c, hm, hb, _⟩ := h
      obtain ⟨b1, b2, _⟩ := hb y (.inr (.inl hy))
      omega
    refine ⟨z, bt2 y z hy hz bz1 bz2, hS, ?_⟩
    rw [LF_snoc, hne, LF_some hy, hie]
    unfold spec_shWalk_step.f
    simp only [Bool.false_eq_true, if_false]
    refine Ev.step (fun k => by simp only [spec_shWalk_step.j0, Bool.not_false, if_true]; exact rfl) ?_
    refine Ev.step (fun k => by simp only [spec_shWalk_step.j1, if_true]; exact rfl) ?_
    have e := addU_ev y x by1 by2 bx1 bx2
    rw [show y + x = z + z by omega] at e
    exact Ev.bind e (Ev.bind (halfU_ev z bz1 bz2) (Ev.now _))

theorem bt_byte (s : ByteArray) (i : Nat) (h : i < s.size) : ∃ b : UInt8, s.data.toList.drop i = b :: s.data.toList.drop (i + 1) ∧ bt s (i : Int) = (b.toNat : Int) := by
  have hl : i < s.data.toList.length := by rw [Array.length_toList]; exact h
  refine ⟨s.data.toList[i], List.drop_eq_getElem_cons hl, ?_⟩
  unfold bt
  rw [dif_pos (by rw [Int.toNat_natCast]; exact h)]
  rfl
theorem word_l (s : ByteArray) (hs : s.size ≤ 1048576) : ∀ (d i : Nat), i + d = s.size → Ev (fun k => spec_shIsWord.l0 k s (i : Int)) ((s.data.toList.drop i).all sw.isW && decide (s.size ≤ 20)) := by
  intro d
  induction d with
  | zero =>
    intro i hi
    have c : ¬ (i : Int) < (s.size : Int) := by omega
    have e : s.data.toList.drop i = [] := List.drop_eq_nil_of_le (by rw [Array.length_toList]; show s.size ≤ i; omega)
    have e2 : decide ((s.size : Int) ≤ 20) = decide (s.size ≤ 20) := by
      by_cases q : s.size ≤ 20
      · rw [decide_eq_true q, decide_eq_true (by omega)]
      · rw [decide_eq_false q, decide_eq_false (by omega)]
    rw [e, List.all_nil, Bool.true_and]
    refine Ev.step (fun k => ?_) (Ev.now _)
    simp only [spec_shIsWord.l0, if_neg c, e2]
  | succ d ih =>
    intro i hi
    have g1 : (i : Int) < (s.size : Int) := by omega
    have g2 : (0 : Int) ≤ (i : Int) := Int.natCast_nonneg _
    have hw : wrap64 ((i : Int) + 1) = ((i + 1 : Nat) : Int) := wsucc i (by omega)
    obtain ⟨b, e, hb⟩ := bt_byte s i (by omega)
    rw [e, List.all_cons]
    have nx := ih (i + 1) (by omega)
    by_cases c1 : b = 43
    · subst c1
      have hb' : bt s (i : Int) = 43 := hb
      rw [show sw.isW 43 = true from rfl, Bool.true_and]
      refine Ev.step (fun k => ?_) nx
      simp only [spec_shIsWord.l0, if_pos g1, if_pos g2, hb', if_true, hw]
    · have n1 : ¬ bt s (i : Int) = 43 := by
        rw [hb]; intro q
        exact c1 (UInt8.toNat_inj.1 (by show b.toNat = 43; omega))
      by_cases c2 : b = 45
      · subst c2
        have hb' : bt s (i : Int) = 45 := hb
        rw [show sw.isW 45 = true from rfl, Bool.true_and]
        refine Ev.step (fun k => ?_) nx
        simp only [spec_shIsWord.l0, if_pos g1, if_pos g2, hb', if_true, hw, show ¬ (45 : Int) = 43 from by decide, if_false]
      · have n2 : ¬ bt s (i : Int) = 45 := by
          rw [hb]; intro q
          exact c2 (UInt8.toNat_inj.1 (by show b.toNat = 45; omega))
        have q : sw.isW b = false := by
          unfold sw.isW
          rw [beq_eq_false_iff_ne.2 c1, beq_eq_false_iff_ne.2 c2]; rfl
        rw [q, Bool.false_and, Bool.false_and]
        refine Ev.step (fun k => ?_) (Ev.now _)
        simp only [spec_shIsWord.l0, if_pos g1, if_pos g2, if_neg n1, if_neg n2]
/-- From letter i on. -/
theorem walk_l (s : ByteArray) (hs : s.size ≤ 20) : ∀ (d i : Nat) (ns : List Int) (wd : ByteArray) (lo hi : List Int) (x : Int), i + d = s.size → ns.length = i → wd.size = i → lo.length ≤ i → hi.length ≤ i → St i x lo hi →
    ∃ (r : List Int × ByteArray × List Int × List Int) (y : Int) (lo' hi' : List Int), Ev (fun k => impl_walk.l0 (ow.sd s) k ns wd lo hi x) r ∧ r.1.getLast? = some y ∧ r.1.length ≤ 21 ∧ St s.size y lo' hi' ∧
      Ev (fun k => spec_shValue.l0 k s (i : Int) (U x).1 (U x).2 (LF lo).1 (LF lo).2 (LF hi).1 (LF hi).2 (!lo.isEmpty) (!hi.isEmpty)) (U y) := by
  intro d
  induction d with
  | zero =>
    intro i ns wd lo hi x hd h1 h2 h3 h4 hS
    obtain rfl : i = s.size := by omega
    refine ⟨(ns ++ [x], wd, lo, hi), x, lo, hi, ?_, getLast_snoc _ _, by rw [List.length_append, List.length_singleton]; omega, hS, ?_⟩
    · have e : ow.sd s ns.length x = 0 := by unfold ow.sd; rw [if_neg (by omega)]
      refine Ev.step (fun k => by simp only [impl_walk.l0, if_pos (show ns.length < 17592186044416 by omega), Option.bind_some, e, if_true]; exact rfl) ?_
      refine Ev.step (fun k => by simp only [impl_walk.j1, if_true]) (Ev.now _)
    · refine Ev.step (fun k => by simp only [spec_shValue.l0, if_neg (show ¬ (s.size : Int) < (s.size : Int) by omega)]) (Ev.now _)
  | succ d ih =>
    intro i ns wd lo hi x hd h1 h2 h3 h4 hS
    have hw : wrap64 ((i : Int) + 1) = ((i + 1 : Nat) : Int) := wsucc i (by omega)
    have g1 : (i : Int) < (s.size : Int) := by omega
    have g2 : (0 : Int) ≤ (i : Int) := Int.natCast_nonneg _
    have f20 : ((wd.size : Int) == 20) = false := beq_eq_false_iff_ne.2 (by omega)
    have n1 : ns.length < 17592186044416 := by omega
    have hsz : ∀ b : UInt8, (wd ++ (⟨#[b]⟩ : ByteArray)).size = i + 1 := fun b => by rw [ByteArray.size_append, h2]; rfl
    by_cases c : bt s (i : Int) = 43
    · have e : ow.sd s ns.length x = 1 := by unfold ow.sd; rw [if_pos (by omega), h1, if_pos c]
      obtain ⟨x', q1, q2, q3⟩ := step_up hS (by omega) (by omega)
      obtain ⟨r, y, lo', hi', r1, r2, r3, r4, r5⟩ := ih (i + 1) (ns ++ [x]) (wd ++ (⟨#[43]⟩ : ByteArray)) (lo ++ [x]) hi x' (by omega) (by rw [List.length_append, List.length_singleton]; omega) (hsz _) (by rw [List.length_append, List.length_singleton]; omega) (by omega) q2
      refine ⟨r, y, lo', hi', ?_, r2, r3, r4, ?_⟩
      · refine Ev.step (fun k => by simp only [impl_walk.l0, if_pos n1, Option.bind_some, e, show ¬ (1 : Int) = 0 from by decide, if_false, f20]; exact rfl) ?_
        refine Ev.step (fun k => by simp only [impl_walk.j1, Bool.false_eq_true, if_false, show (1 : Int) > 0 from by decide, if_true, if_pos (show wd.size + 1 ≤ 9223372036854775807 by omega), if_pos (show lo.length < 17592186044416 by omega), Option.bind_some, q1]) r1
      · refine Ev.step (f := ?f) (fun k => ?e) ?v
        case e => conv => lhs; simp only [spec_shValue.l0, if_pos g1, if_pos g2, c, beq_self_eq_true, hw]
        case v => exact Ev.bind q3 r5
    · have e : ow.sd s ns.length x = -1 := by unfold ow.sd; rw [if_pos (by omega), h1, if_neg c]
      have cb : (bt s (i : Int) == 43) = false := beq_eq_false_iff_ne.2 c
      obtain ⟨x', q1, q2, q3⟩ := step_down hS (by omega) (by omega)
      obtain ⟨r, y, lo', hi', r1, r2, r3, r4, r5⟩ := ih (i + 1) (ns ++ [x]) (wd ++ (⟨#[45]⟩ : ByteArray)) lo (hi ++ [x]) x' (by omega) (by rw [List.length_append, List.length_singleton]; omega) (hsz _) (by omega) (by rw [List.length_append, List.length_singleton]; omega) q2
      refine ⟨r, y, lo', hi', ?_, r2, r3, r4, ?_⟩
      · refine Ev.step (fun k => by simp only [impl_walk.l0, if_pos n1, Option.bind_some, e, show ¬ (-1 : Int) = 0 from by decide, if_false, f20]; exact rfl) ?_
        refine Ev.step (fun k => by simp only [impl_walk.j1, Bool.false_eq_true, if_false, show ¬ (-1 : Int) > 0 from by decide, if_pos (show wd.size + 1 ≤ 9223372036854775807 by omega), if_pos (show hi.length < 17592186044416 by omega), Option.bind_some, q1]) r1
      · refine Ev.step (f := ?f2) (fun k => ?e2) ?v2
        case e2 => conv => lhs; simp only [spec_shValue.l0, if_pos g1, if_pos g2, cb, hw]
        case v2 => exact Ev.bind q3 r5
theorem both (s : ByteArray) (hs : s.size ≤ 1048576) : ∃ r : Int × Int × Bool, Ev (fun k => spec_FromWord.f k s) r ∧ Ev (fun k => impl_FromWord.f k s) r := by
  have w1 := word_l s hs s.size 0 (by omega)
  rw [List.drop_zero] at w1
  have w2 : impl_isShortWord.f s = some (s.data.toList.all sw.isW && decide (s.size ≤ 20)) := by
    unfold impl_isShortWord.f
    rw [Bool.and_comm]
  unfold spec_FromWord.f impl_FromWord.f
  cases hb : (s.data.toList.all sw.isW && decide (s.size ≤ 20)) with
  | false =>
    rw [hb] at w1 w2
    refine ⟨(0, 0, false), Ev.bind w1 (Ev.now _), ?_⟩
    simp only [w2, Option.bind_some, Bool.false_eq_true, if_false]
    exact Ev.now _
  | true =>
    rw [hb] at w1 w2
    have h20 : s.size ≤ 20 := by
      rw [Bool.and_eq_true, decide_eq_true_eq] at hb
      exact hb.2
    obtain ⟨r, y, lo', hi', r1, r2, r3, r4, r5⟩ := walk_l s h20 s.size 0 [] ⟨#[]⟩ [] [] 0 (by omega) rfl rfl (by simp) (by simp) St.start
    have hu : U 0 = (0, 1) := by decide
    obtain ⟨l1, l2, l3⟩ := last_rd r.1 y r2 (by omega)
    refine ⟨((U y).1, (U y).2, true), Ev.bind w1 ?_, ?_⟩
    · simp only [if_true]
      refine Ev.bind (a := U y) ?_ (Ev.now _)
      unfold spec_shValue.f spec_shStart.f spec_shInt.f
      simp only [Option.bind_some]
      rw [hu] at r5
      exact r5
    · simp only [w2, Option.bind_some, if_true]
      refine Ev.bind (a := U y) ?_ (Ev.now _)
      unfold impl_fromWord.f
      refine Ev.bind (a := r.1) ?_ ?_
      · unfold impl_ofWord.f
        simp only [if_pos h20]
        exact Ev.bind r1 (Ev.now _)
      · simp only [if_pos l1, if_pos l2, l3]
        exact Ev.bind (units_ev r4 h20) (Ev.now _)
theorem proved : laws_FnExactFromWord.Pure := by
  intro s _
  refine Ev.rounds ?_
  unfold laws_FnExactFromWord.f
  by_cases hb : (s.size : Int) > 1048576
  · simp only [if_pos hb]
    exact Ev.now _
  · simp only [if_neg hb]
    obtain ⟨r, s1, s2⟩ := both s (by omega)
    refine Ev.bind s1 (Ev.bind s2 ?_)
    simp only [laws_eqFraction.f, if_true, Option.bind_some, bne_self_eq_false, Bool.false_eq_true, if_false]
    exact Ev.now _

end LFnExactFromWord
theorem FnExactFromWord : laws_FnExactFromWord.Pure := LFnExactFromWord.proved
end Go.Proofs.YtjfhhpkgjdkmdaaDoor.Pure
