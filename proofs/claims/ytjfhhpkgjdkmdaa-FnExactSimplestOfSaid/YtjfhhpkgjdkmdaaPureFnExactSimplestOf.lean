/- For any two lists of fractions, the program's simplest number between them is the reference's; the lists read as they did. -/
import Derived.Test.YtjfhhpkgjdkmdaaQFnExactSimplestOfx8
namespace Go.Proofs.Ytjfhhpkgjdkmdaa.Pure
open Go.RowKit Go.Proofs.Ytjfhhpkgjdkmdaa.QFnExactSimplestOf Go.Proofs.YtjfhhpkgjdkmdaaW.PrintWords Go.Proofs.YtjfhhpkgjdkmdaaW.PrintLast
set_option linter.unusedVariables false
set_option linter.unusedSimpArgs false
def laws_FnExactSimplestOf.Pure : Prop := ∀ (l0 : List (S35)) (l1 : List (S35)), (l0.length ≤ maxLen ∧ ∀ y0 ∈ l0, ((Lit.int .i64 y0.f0).wf = true ∧ (Lit.int .i64 y0.f1).wf = true)) → (l1.length ≤ maxLen ∧ ∀ y0 ∈ l1, ((Lit.int .i64 y0.f0).wf = true ∧ (Lit.int .i64 y0.f1).wf = true)) → ∃ k, laws_FnExactSimplestOf.f k l0 l1 = some true
namespace LFnExactSimplestOf
/-! ### small words -/
theorem wsucc (i : Nat) (h : i < 2 ^ 62) : wrap64 ((i : Int) + 1) = ((i + 1 : Nat) : Int) := by unfold wrap64; omega

/-! ### the greatest common divisors of both sides -/
theorem abs_same (a : Int) : spec_l1Abs.f a = impl_size.f a := by
  unfold spec_l1Abs.f spec_l1Most.f impl_size.f mx
  generalize wrap64 (-a) = b
  by_cases h : a > b
  · rw [if_pos h, if_neg (by omega)]; rfl
  · rw [if_neg h]
    by_cases g : a < b
    · rw [if_pos g]; rfl
    · rw [if_neg g]
      have : a = b := by omega
      rw [this]; rfl
theorem gcd_same : ∀ (k : Nat) (a b : Int), spec_shGcd.l0 k a b = impl_gcd.l0 k a b
  | 0, _, _ => rfl
  | k + 1, a, b => by
    simp only [spec_shGcd.l0, impl_gcd.l0, abs_same, gcd_same k]
theorem gcd_some : ∀ (d k : Nat) (a b : Int), b.natAbs ≤ d → d < k → ∃ r, impl_gcd.l0 k a b = some r := by
  intro d
  induction d with
  | zero =>
    intro k a b hb hk
    obtain ⟨k, rfl⟩ : ∃ m, k = m + 1 := ⟨k - 1, by omega⟩
    simp only [impl_gcd.l0]
    rw [if_pos (by omega)]
    exact ⟨_, rfl⟩
  | succ d ih =>
    intro k a b hb hk
    obtain ⟨k, rfl⟩ : ∃ m, k = m + 1 := ⟨k - 1, by omega⟩
    simp only [impl_gcd.l0]
    by_cases h : b = 0
    · rw [if_pos h]
      exact ⟨_, rfl⟩
    · rw [if_neg h]
      refine ih k _ _ ?_ (by omega)
      rw [Int.natAbs_tmod]
      have := Nat.mod_lt a.natAbs (show b.natAbs > 0 by omega)
      omega

theorem in_eq (e a b : Int) : spec_l1In.f e a b = impl_in.f e a b := rfl
theorem in_some (e a b : Int) : impl_in.f e a b = some (decide (a ≤ e ∧ e ≤ b)) := by
  unfold impl_in.f
  by_cases h : e ≥ a
  · rw [if_pos h]; congr 1; simp; omega
  · rw [if_neg h]; congr 1; simp; omega
theorem good_same (k : Nat) (a b : Int) : spec_shGood.f k a b = impl_IsFraction.f k a b := by
  unfold spec_shGood.f impl_IsFraction.f spec_shGcd.f impl_gcd.f
  simp only [in_eq, gcd_same]
theorem good_some (a b : Int) (k : Nat) (hk : 1000000 < k) : ∃ r, impl_IsFraction.f k a b = some r := by
  unfold impl_IsFraction.f impl_gcd.f
  simp only [in_some, Option.bind_some]
  by_cases h : 1 ≤ b ∧ b ≤ 1000000
  · rw [if_pos (decide_eq_true h)]
    by_cases h2 : -1000000 ≤ a ∧ a ≤ 1000000
    · rw [if_pos (decide_eq_true h2)]
      obtain ⟨r, hr⟩ := gcd_some 1000000 k a b (by omega) hk
      rw [hr]
      exact ⟨_, rfl⟩
    · rw [if_neg (by simpa using h2)]; exact ⟨_, rfl⟩
  · rw [if_neg (by simpa using h)]; exact ⟨_, rfl⟩
theorem good_pos {a b : Int} {k : Nat} (h : impl_IsFraction.f k a b = some true) : 1 ≤ b ∧ b ≤ 1000000 ∧ -1000000 ≤ a ∧ a ≤ 1000000 := by
  unfold impl_IsFraction.f at h
  simp only [in_some, Option.bind_some] at h
  by_cases h1 : 1 ≤ b ∧ b ≤ 1000000
  · rw [if_pos (decide_eq_true h1)] at h
    by_cases h2 : -1000000 ≤ a ∧ a ≤ 1000000
    · exact ⟨h1.1, h1.2, h2.1, h2.2⟩
    · rw [if_neg (by simpa using h2)] at h; simp at h
  · rw [if_neg (by simpa using h1)] at h; simp at h

theorem low_unique {a b c d : Nat} (hb : 0 < b) (hd : 0 < d) (h : a * d = c * b) : b / Nat.gcd a b = d / Nat.gcd c d ∧ a / Nat.gcd a b = c / Nat.gcd c d := by
  have g1 : 0 < Nat.gcd a b := Nat.gcd_pos_of_pos_right a hb
  have g2 : 0 < Nat.gcd c d := Nat.gcd_pos_of_pos_right c hd
  obtain ⟨A, hA⟩ := Nat.gcd_dvd_left a b
  obtain ⟨B, hB⟩ := Nat.gcd_dvd_right a b
  obtain ⟨C, hC⟩ := Nat.gcd_dvd_left c d
  obtain ⟨D, hD⟩ := Nat.gcd_dvd_right c d
  have c1 : Nat.Coprime A B := by
    have := Nat.coprime_div_gcd_div_gcd (m := a) (n := b) g1
    have e1 : a / Nat.gcd a b = A := Nat.div_eq_of_eq_mul_right g1 hA
    have e2 : b / Nat.gcd a b = B := Nat.div_eq_of_eq_mul_right g1 hB
    rwa [e1, e2] at this
  have c2 : Nat.Coprime C D := by
    have := Nat.coprime_div_gcd_div_gcd (m := c) (n := d) g2
    have e1 : c / Nat.gcd c d = C := Nat.div_eq_of_eq_mul_right g2 hC
    have e2 : d / Nat.gcd c d = D := Nat.div_eq_of_eq_mul_right g2 hD
    rwa [e1, e2] at this
  have e1 : a / Nat.gcd a b = A := Nat.div_eq_of_eq_mul_right g1 hA
  have e2 : b / Nat.gcd a b = B := Nat.div_eq_of_eq_mul_right g1 hB
  have e3 : c / Nat.gcd c d = C := Nat.div_eq_of_eq_mul_right g2 hC
  have e4 : d / Nat.gcd c d = D := Nat.div_eq_of_eq_mul_right g2 hD
  rw [e1, e2, e3, e4]
  have hh : A * D = C * B := by
    have : (a.gcd b * c.gcd d) * (A * D) = (a.gcd b * c.gcd d) * (C * B) := by
      calc _ = (a.gcd b * A) * (c.gcd d * D) := by ac_rfl
        _ = a * d := by rw [← hA, ← hD]
        _ = c * b := h
        _ = (c.gcd d * C) * (a.gcd b * B) := by rw [← hC, ← hB]
        _ = _ := by ac_rfl
    exact Nat.eq_of_mul_eq_mul_left (Nat.mul_pos g1 g2) this
  have d1 : B ∣ D := by
    have : B ∣ A * D := by rw [hh]; exact Nat.dvd_mul_left _ _
    exact (Nat.Coprime.symm c1).dvd_of_dvd_mul_left this
  have d2 : D ∣ B := by
    have : D ∣ C * B := by rw [← hh]; exact Nat.dvd_mul_left _ _
    exact (Nat.Coprime.symm c2).dvd_of_dvd_mul_left this
  have hBD := Nat.dvd_antisymm d1 d2
  refine ⟨hBD, ?_⟩
  have hBpos : 0 < B := by
    rcases Nat.eq_zero_or_pos B with h0 | h0
    · subst h0; simp at hB; omega
    · exact h0
  rw [← hBD] at hh
  exact Nat.eq_of_mul_eq_mul_right hBpos hh
/-- The quotient in lowest terms. -/
def lowT (p q : Int) : Int × Int := (Int.tdiv p (Int.gcd p q : Int), Int.tdiv q (Int.gcd p q : Int))
theorem lowT_eq {p q n d : Int} (hq : 0 < q) (hd : 0 < d) (h : p * d = n * q) : lowT p q = lowT n d := by
  unfold lowT
  have hn : p.natAbs * d.natAbs = n.natAbs * q.natAbs := by rw [← Int.natAbs_mul, ← Int.natAbs_mul, h]
  obtain ⟨e1, e2⟩ := low_unique (show 0 < q.natAbs by omega) (show 0 < d.natAbs by omega) hn
  have hs : (0 ≤ p ↔ 0 ≤ n) := by
    constructor
    · intro hp
      have h1 : 0 ≤ n * q := by rw [← h]; exact Int.mul_nonneg hp (by omega)
      by_cases c : 0 ≤ n
      · exact c
      · have := Int.mul_neg_of_neg_of_pos (show n < 0 by omega) hq
        omega
    · intro hp
      have h1 : 0 ≤ p * d := by rw [h]; exact Int.mul_nonneg hp (by omega)
      by_cases c : 0 ≤ p
      · exact c
      · have := Int.mul_neg_of_neg_of_pos (show p < 0 by omega) hd
        omega
  have hg1 : Int.gcd p q = Nat.gcd p.natAbs q.natAbs := rfl
  have hg2 : Int.gcd n d = Nat.gcd n.natAbs d.natAbs := rfl
  rw [hg1, hg2]
  generalize Nat.gcd p.natAbs q.natAbs = g at e1 e2
  generalize Nat.gcd n.natAbs d.natAbs = g' at e1 e2
  have hqn : q = (q.natAbs : Int) := by omega
  have hdn : d = (d.natAbs : Int) := by omega
  have b1 : Int.tdiv q g = Int.tdiv d g' := by
    rw [hqn, hdn, ← Int.ofNat_tdiv, ← Int.ofNat_tdiv]
    rw [e1]
  have b2 : Int.tdiv p g = Int.tdiv n g' := by
    by_cases c : 0 ≤ p
    · have c' := hs.1 c
      rw [show p = (p.natAbs : Int) by omega, show n = (n.natAbs : Int) by omega, ← Int.ofNat_tdiv, ← Int.ofNat_tdiv]
      rw [e2]
    · have c' : ¬ 0 ≤ n := fun h' => c (hs.2 h')
      rw [show p = -(p.natAbs : Int) by omega, show n = -(n.natAbs : Int) by omega, Int.neg_tdiv, Int.neg_tdiv, ← Int.ofNat_tdiv, ← Int.ofNat_tdiv]
      rw [e2]
  rw [b1, b2]
theorem size_is {a : Int} (h1 : -4611686018427387904 ≤ a) (h2 : a ≤ 4611686018427387904) : impl_size.f a = some (a.natAbs : Int) := by
  have hw : wrap64 (-a) = -a := by unfold wrap64; omega
  unfold impl_size.f
  rw [hw]
  clear hw
  unfold mx
  split <;> (congr 1; omega)
theorem gcd_is : ∀ (d k : Nat) (a b : Int), -4611686018427387904 ≤ a → a ≤ 4611686018427387904 → b.natAbs ≤ d → -4611686018427387904 ≤ b → b ≤ 4611686018427387904 → d < k → impl_gcd.l0 k a b = some ((Int.gcd a b : Nat) : Int) := by
  intro d
  induction d with
  | zero =>
    intro k a b h1 h2 hb h3 h4 hk
    obtain ⟨k, rfl⟩ : ∃ m, k = m + 1 := ⟨k - 1, by omega⟩
    have hb0 : b = 0 := by omega
    subst hb0
    simp only [impl_gcd.l0, if_true, size_is h1 h2, Option.bind_some]
    simp
  | succ d ih =>
    intro k a b h1 h2 hb h3 h4 hk
    obtain ⟨k, rfl⟩ : ∃ m, k = m + 1 := ⟨k - 1, by omega⟩
    simp only [impl_gcd.l0]
    by_cases h : b = 0
    · subst h
      simp only [if_true, size_is h1 h2, Option.bind_some]
      simp
    · rw [if_neg h]
      have hm : (Int.tmod a b).natAbs < b.natAbs := by
        rw [Int.natAbs_tmod]
        exact Nat.mod_lt a.natAbs (show b.natAbs > 0 by omega)
      rw [ih k b (Int.tmod a b) h3 h4 (by omega) (by omega) (by omega) (by omega)]
      congr 2
      show Nat.gcd b.natAbs (Int.tmod a b).natAbs = Nat.gcd a.natAbs b.natAbs
      rw [Int.natAbs_tmod, Nat.gcd_comm, ← Nat.gcd_rec, Nat.gcd_comm]
theorem gcd_ev2 (a b : Int) (h1 : -4611686018427387904 ≤ a) (h2 : a ≤ 4611686018427387904) (h3 : -4611686018427387904 ≤ b) (h4 : b ≤ 4611686018427387904) : Ev (fun k => impl_gcd.f k a b) ((Int.gcd a b : Nat) : Int) :=
  Ev.of (impl_gcd.mono a b) (k := b.natAbs + 1) (gcd_is b.natAbs _ a b h1 h2 (Nat.le_refl _) h3 h4 (by omega))
theorem tdiv_abs (p : Int) (g : Nat) : (Int.tdiv p (g : Int)).natAbs ≤ p.natAbs := by
  rw [Int.natAbs_tdiv]
  exact Nat.div_le_self _ _
/-- What a quotient in lowest terms is. -/
theorem lowT_facts (p : Int) {q : Int} (hq : 0 < q) : 0 < (lowT p q).2 ∧ (lowT p q).2 ≤ q ∧ (lowT p q).1.natAbs ≤ p.natAbs ∧ (lowT p q).1 * q = p * (lowT p q).2 := by
  have hg : 0 < Int.gcd p q := Int.gcd_pos_of_ne_zero_right _ (by omega)
  have d1 : ((Int.gcd p q : Nat) : Int) ∣ p := Int.gcd_dvd_left ..
  have d2 : ((Int.gcd p q : Nat) : Int) ∣ q := Int.gcd_dvd_right ..
  unfold lowT
  generalize Int.gcd p q = g at hg d1 d2
  obtain ⟨a, ha⟩ := d1
  obtain ⟨b, hb⟩ := d2
  have e1 : Int.tdiv p g = a := by rw [ha]; exact Int.mul_tdiv_cancel_left _ (by omega)
  have e2 : Int.tdiv q g = b := by rw [hb]; exact Int.mul_tdiv_cancel_left _ (by omega)
  have hb0 : 0 < b := by
    by_cases c : 0 < b
    · exact c
    · have := Int.mul_nonpos_of_nonneg_of_nonpos (show (0 : Int) ≤ g by omega) (show b ≤ 0 by omega)
      omega
  have t1 := tdiv_abs p g
  have t2 := tdiv_abs q g
  refine ⟨by simp only [e2]; exact hb0, by omega, t1, ?_⟩
  simp only [e1, e2]
  rw [ha, hb]
  simp only [Int.mul_assoc, Int.mul_comm, Int.mul_left_comm]
theorem make_ev (p q : Int) (h1 : -4611686018427387904 ≤ p) (h2 : p ≤ 4611686018427387904) (h3 : 0 < q) (h4 : q ≤ 4611686018427387904) : Ev (fun k => spec_shMake.f k p q) (lowT p q) := by
  have hg : Ev (fun k => spec_shGcd.f k p q) ((Int.gcd p q : Nat) : Int) := Ev.congr (fun k => gcd_same k p q) (gcd_ev2 p q h1 h2 (by omega) h4)
  have hg0 : 0 < Int.gcd p q := Int.gcd_pos_of_ne_zero_right _ (by omega)
  obtain ⟨f1, f2, f3, _⟩ := lowT_facts p h3
  unfold spec_shMake.f
  refine Ev.bind hg ?_
  rw [if_neg (show ¬ q < 0 by omega), if_neg (show ¬ ((Int.gcd p q : Nat) : Int) = 0 by omega)]
  have w1 : wrap64 (Int.tdiv p (Int.gcd p q : Nat)) = (lowT p q).1 := by
    show wrap64 (lowT p q).1 = _
    generalize (lowT p q).1 = z at f3
    unfold wrap64; omega
  have w2 : wrap64 (Int.tdiv q (Int.gcd p q : Nat)) = (lowT p q).2 := by
    show wrap64 (lowT p q).2 = _
    generalize (lowT p q).2 = z at f1 f2
    unfold wrap64; omega
  rw [w1, w2]
  exact Ev.now _
/-- The fraction of so many parts of 1048576. -/
def U (n : Int) : Int × Int := lowT n 1048576
def LF (l : List Int) : Int × Int := match l.getLast? with
  | none => (0, 0)
  | some y => U y
theorem LF_snoc (l : List Int) (x : Int) : LF (l ++ [x]) = U x := by
  unfold LF
  rw [List.getLast?_append]
  rfl
theorem U_facts (n : Int) : 0 < (U n).2 ∧ (U n).2 ≤ 1048576 ∧ (U n).1.natAbs ≤ n.natAbs ∧ (U n).1 * 1048576 = n * (U n).2 := lowT_facts n (by decide)
theorem mul_bd {a b A B : Int} (h1 : -A ≤ a) (h2 : a ≤ A) (h3 : 0 ≤ b) (h4 : b ≤ B) (hA : 0 ≤ A) : -(A * B) ≤ a * b ∧ a * b ≤ A * B := by
  have e1 : a * b ≤ A * b := Int.mul_le_mul_of_nonneg_right h2 h3
  have e2 : (-A) * b ≤ a * b := Int.mul_le_mul_of_nonneg_right h1 h3
  have e3 : A * b ≤ A * B := Int.mul_le_mul_of_nonneg_left h4 hA
  rw [Int.neg_mul] at e2
  omega
theorem add_ev (a1 a2 b1 b2 : Int) (hx1 : -41943040 ≤ a1) (hx2 : a1 ≤ 41943040) (hy1 : -41943040 ≤ b1) (hy2 : b1 ≤ 41943040) (ha1 : 0 < a2) (ha2 : a2 ≤ 1048576) (hb1 : 0 < b2) (hb2 : b2 ≤ 1048576) :
    Ev (fun k => spec_shAdd.f k a1 a2 b1 b2) (lowT (a1 * b2 + b1 * a2) (a2 * b2)) := by
  have p1 := mul_bd hx1 hx2 (Int.le_of_lt hb1) hb2 (by decide)
  have p2 := mul_bd hy1 hy2 (Int.le_of_lt ha1) ha2 (by decide)
  have p3 := mul_bd (show -1048576 ≤ a2 by omega) ha2 (Int.le_of_lt hb1) hb2 (by decide)
  have p4 := Int.mul_pos ha1 hb1
  have w1 : wrap64 (a1 * b2) = a1 * b2 := by unfold wrap64; omega
  have w2 : wrap64 (b1 * a2) = b1 * a2 := by unfold wrap64; omega
  have w3 : wrap64 (a2 * b2) = a2 * b2 := by unfold wrap64; omega
  have w4 : wrap64 (a1 * b2 + b1 * a2) = a1 * b2 + b1 * a2 := by clear w1 w2 w3; unfold wrap64; omega
  unfold spec_shAdd.f
  rw [w1, w2, w3, w4]
  clear w1 w2 w3 w4
  exact Ev.bind (make_ev _ _ (by omega) (by omega) p4 (by omega)) (Ev.now _)
theorem addU_ev (x y : Int) (hx1 : -20971520 ≤ x) (hx2 : x ≤ 20971520) (hy1 : -20971520 ≤ y) (hy2 : y ≤ 20971520) : Ev (fun k => spec_shAdd.f k (U x).1 (U x).2 (U y).1 (U y).2) (U (x + y)) := by
  obtain ⟨a1, a2, a3, a4⟩ := U_facts x
  obtain ⟨b1, b2, b3, b4⟩ := U_facts y
  have e : lowT ((U x).1 * (U y).2 + (U y).1 * (U x).2) ((U x).2 * (U y).2) = U (x + y) := by
    refine lowT_eq (Int.mul_pos a1 b1) (by decide) ?_
    rw [Int.add_mul, Int.add_mul, show (U x).1 * (U y).2 * 1048576 = (U x).1 * 1048576 * (U y).2 by simp only [Int.mul_assoc, Int.mul_comm, Int.mul_left_comm], a4, show (U y).1 * (U x).2 * 1048576 = (U y).1 * 1048576 * (U x).2 by simp only [Int.mul_assoc, Int.mul_comm, Int.mul_left_comm], b4]
    simp only [Int.mul_assoc, Int.mul_comm, Int.mul_left_comm]
  rw [← e]
  exact add_ev _ _ _ _ (by omega) (by omega) (by omega) (by omega) a1 a2 b1 b2
theorem addI_ev (x j : Int) (hx1 : -20971520 ≤ x) (hx2 : x ≤ 20971520) (hj : j = 1 ∨ j = -1) : Ev (fun k => spec_shAdd.f k (U x).1 (U x).2 j 1) (U (x + j * 1048576)) := by
  obtain ⟨a1, a2, a3, a4⟩ := U_facts x
  have e : lowT ((U x).1 * 1 + j * (U x).2) ((U x).2 * 1) = U (x + j * 1048576) := by
    refine lowT_eq (by omega) (by decide) ?_
    rw [Int.mul_one, Int.mul_one, Int.add_mul, a4, Int.add_mul]
    simp only [Int.mul_assoc, Int.mul_comm, Int.mul_left_comm]
  rw [← e]
  exact add_ev _ _ _ _ (by omega) (by omega) (by omega) (by omega) a1 a2 (by decide) (by decide)
theorem halfU_ev (z : Int) (hz1 : -20971520 ≤ z) (hz2 : z ≤ 20971520) : Ev (fun k => spec_shMul.f k (U (z + z)).1 (U (z + z)).2 1 2) (U z) := by
  obtain ⟨a1, a2, a3, a4⟩ := U_facts (z + z)
  have e : lowT ((U (z + z)).1 * 1) ((U (z + z)).2 * 2) = U z := by
    refine lowT_eq (by omega) (by decide) ?_
    rw [Int.mul_one, a4, show z + z = z * 2 by omega]
    simp only [Int.mul_assoc, Int.mul_comm, Int.mul_left_comm]
  have w1 : wrap64 ((U (z + z)).1 * 1) = (U (z + z)).1 * 1 := by unfold wrap64; omega
  have w2 : wrap64 ((U (z + z)).2 * 2) = (U (z + z)).2 * 2 := by unfold wrap64; omega
  rw [← e]
  unfold spec_shMul.f
  rw [w1, w2]
  clear w1 w2
  exact Ev.bind (make_ev _ _ (by omega) (by omega) (by omega) (by omega)) (Ev.now _)
/-- A walk's state behind i letters: m whole steps, c halvings. -/
def St (i : Nat) (x : Int) (lo hi : List Int) : Prop :=
  ∃ m c : Nat, m + c = i ∧ (∀ y, y = x ∨ lo.getLast? = some y ∨ hi.getLast? = some y → -((m : Int) * 1048576) ≤ y ∧ y ≤ (m : Int) * 1048576 ∧ ∃ a : Int, y * ((2 ^ c : Nat) : Int) = a * 1048576) ∧
    (lo = [] ∨ hi = [] → c = 0) ∧ (lo ≠ [] ∨ hi ≠ [] → 1 ≤ m)
theorem St.start : St 0 0 [] [] := by
  refine ⟨0, 0, rfl, ?_, fun _ => rfl, ?_⟩
  · intro y h
    rcases h with rfl | h | h
    · exact ⟨by decide, by decide, 0, by decide⟩
    · cases h
    · cases h
  · intro h
    rcases h with h | h <;> exact absurd rfl h
theorem St.bd {i : Nat} {x : Int} {lo hi : List Int} (h : St i x lo hi) (hi20 : i ≤ 20) : -20971520 ≤ x ∧ x ≤ 20971520 := by
  obtain ⟨m, c, hm, hb, _⟩ := h
  obtain ⟨b1, b2, _⟩ := hb x (.inl rfl)
  omega
theorem St.good {i : Nat} {x : Int} {lo hi : List Int} (h : St i x lo hi) (hi20 : i ≤ 20) : (U x).2 ≤ 1000000 ∧ (U x).1.natAbs ≤ 1000000 := by
  obtain ⟨m, c, hm, hb, h1, h2⟩ := h
  obtain ⟨b1, b2, a, ha⟩ := hb x (.inl rfl)
  have hc : c < 20 := by
    by_cases q : c = 0
    · omega
    · have : 1 ≤ m := h2 (.inl (fun e => q (h1 (.inl e))))
      omega
  have t1 : ∀ c : Nat, c < 20 → 2 ^ c ≤ 1000000 ∧ (20 - c) * 2 ^ c ≤ 1000000 := by decide
  obtain ⟨p1, p2⟩ := t1 c hc
  have hp : 0 < 2 ^ c := Nat.pow_pos (by decide)
  have e : U x = lowT a ((2 ^ c : Nat) : Int) := lowT_eq (by decide) (by omega) ha
  rw [e]
  obtain ⟨f1, f2, f3, f4⟩ := lowT_facts a (show (0 : Int) < ((2 ^ c : Nat) : Int) by omega)
  have hab : a.natAbs * 1048576 ≤ m * 1048576 * 2 ^ c := by
    have q := congrArg Int.natAbs ha
    rw [Int.natAbs_mul, Int.natAbs_mul] at q
    have q1 : x.natAbs ≤ m * 1048576 := by omega
    have q2 := Nat.mul_le_mul_right (2 ^ c) q1
    simp only [Int.natAbs_natCast] at q
    show a.natAbs * 1048576 ≤ _
    have q3 : (1048576 : Int).natAbs = 1048576 := rfl
    rw [q3] at q
    omega
  have hm2 : m * 2 ^ c ≤ (20 - c) * 2 ^ c := Nat.mul_le_mul_right _ (by omega)
  rw [show m * 1048576 * 2 ^ c = (m * 2 ^ c) * 1048576 by simp only [Nat.mul_assoc, Nat.mul_comm, Nat.mul_left_comm]] at hab
  exact ⟨by omega, by omega⟩
theorem units_ev {i : Nat} {x : Int} {lo hi : List Int} (h : St i x lo hi) (hi20 : i ≤ 20) : Ev (fun k => impl_fromUnits.f k x) (U x) := by
  obtain ⟨g1, g2⟩ := h.good hi20
  obtain ⟨b1, b2⟩ := h.bd hi20
  obtain ⟨f1, f2, f3, f4⟩ := U_facts x
  have hg0 : 0 < Int.gcd x 1048576 := Int.gcd_pos_of_ne_zero_right _ (by decide)
  have w1 : wrap64 (Int.tdiv x ((Int.gcd x 1048576 : Nat) : Int)) = (U x).1 := by
    show wrap64 (U x).1 = _
    generalize (U x).1 = z at f3 g2
    unfold wrap64; omega
  have w2 : wrap64 (Int.tdiv 1048576 ((Int.gcd x 1048576 : Nat) : Int)) = (U x).2 := by
    show wrap64 (U x).2 = _
    generalize (U x).2 = z at f1 f2
    unfold wrap64; omega
  have hco : Int.gcd (U x).1 (U x).2 = 1 := by
    show Nat.gcd (Int.tdiv x ((Int.gcd x 1048576 : Nat) : Int)).natAbs (Int.tdiv 1048576 ((Int.gcd x 1048576 : Nat) : Int)).natAbs = 1
    rw [Int.natAbs_tdiv, Int.natAbs_tdiv, Int.natAbs_natCast]
    exact Nat.coprime_div_gcd_div_gcd (m := x.natAbs) (n := (1048576 : Int).natAbs) hg0
  have hgd : Ev (fun k => impl_IsFraction.f k (U x).1 (U x).2) true := by
    unfold impl_IsFraction.f
    simp only [in_some, Option.bind_some]
    rw [decide_eq_true (show 1 ≤ (U x).2 ∧ (U x).2 ≤ 1000000 from ⟨by omega, g1⟩), decide_eq_true (show -1000000 ≤ (U x).1 ∧ (U x).1 ≤ 1000000 from ⟨by omega, by omega⟩)]
    simp only [if_true]
    refine Ev.bind (gcd_ev2 _ _ (by omega) (by omega) (by omega) (by omega)) ?_
    rw [hco]
    exact Ev.now _
  unfold impl_fromUnits.f impl_made.f
  simp only [show ¬ (1048576 : Int) = 0 from by decide, if_false, show ¬ (1048576 : Int) < 0 from by decide]
  refine Ev.bind (a := ((U x).1, (U x).2, true)) ?_ (Ev.now _)
  refine Ev.bind (gcd_ev2 _ _ (by omega) (by omega) (by decide) (by decide)) ?_
  simp only [if_neg (show ¬ ((Int.gcd x 1048576 : Nat) : Int) = 0 by omega), w1, w2]
  refine Ev.bind hgd ?_
  simp only [if_true]
  exact Ev.now _
theorem last_rd (l : List Int) (y : Int) (h : l.getLast? = some y) (hl : l.length ≤ 1000000) : 0 ≤ wrap64 ((l.length : Int) - 1) ∧ wrap64 ((l.length : Int) - 1) < (l.length : Int) ∧ rd l (wrap64 ((l.length : Int) - 1)) = y := by
  rw [List.getLast?_eq_getElem?] at h
  obtain ⟨hlt, e⟩ := List.getElem?_eq_some_iff.1 h
  have hw : wrap64 ((l.length : Int) - 1) = ((l.length - 1 : Nat) : Int) := by unfold wrap64; omega
  rw [hw]
  refine ⟨by omega, by omega, ?_⟩
  simp [rd, List.getD_eq_getElem?_getD, List.getElem?_eq_getElem hlt, e]
theorem between_up (x : Int) (lo hi : List Int) (h : hi.length ≤ 1000000) (hx1 : -20971520 ≤ x) (hx2 : x ≤ 20971520) : (hi = [] → impl_between.f x 1 lo hi = some (x + 1 * 1048576)) ∧ (∀ y z, hi.getLast? = some y → x + y = z + z → -20971520 ≤ z → z ≤ 20971520 → impl_between.f x 1 lo hi = some z) := by
  refine ⟨?_, ?_⟩
  · rintro rfl
    have hw : wrap64 (x + wrap64 (1 * 1048576)) = x + 1 * 1048576 := by
      rw [show wrap64 (1 * 1048576) = 1048576 from by unfold wrap64; omega]
      unfold wrap64; omega
    unfold impl_between.f
    rw [hw]
    rfl
  · intro y z hy hz h1 h2
    obtain ⟨e1, e2, e3⟩ := last_rd hi y hy h
    have hne : ¬ (hi.length : Int) = 0 := by
      cases hi with
      | nil => cases hy
      | cons a l => rw [List.length_cons]; omega
    have hw : wrap64 (Int.tdiv (wrap64 (x + y)) 2) = z := by
      rw [hz, show wrap64 (z + z) = z * 2 by unfold wrap64; omega, Int.mul_tdiv_cancel _ (by decide)]
      unfold wrap64; omega
    unfold impl_between.f
    simp only [show (1 : Int) > 0 from by decide, if_true, if_neg hne, if_pos e1, if_pos e2, e3, hw]
theorem between_down (x : Int) (lo hi : List Int) (h : lo.length ≤ 1000000) (hx1 : -20971520 ≤ x) (hx2 : x ≤ 20971520) : (lo = [] → impl_between.f x (-1) lo hi = some (x + (-1) * 1048576)) ∧ (∀ y z, lo.getLast? = some y → x + y = z + z → -20971520 ≤ z → z ≤ 20971520 → impl_between.f x (-1) lo hi = some z) := by
  refine ⟨?_, ?_⟩
  · rintro rfl
    have hw : wrap64 (x + wrap64 ((-1) * 1048576)) = x + (-1) * 1048576 := by
      rw [show wrap64 ((-1) * 1048576) = -1048576 from by unfold wrap64; omega]
      unfold wrap64; omega
    unfold impl_between.f
    rw [hw]
    rfl
  · intro y z hy hz h1 h2
    obtain ⟨e1, e2, e3⟩ := last_rd lo y hy h
    have hne : ¬ (lo.length : Int) = 0 := by
      cases lo with
      | nil => cases hy
      | cons a l => rw [List.length_cons]; omega
    have hw : wrap64 (Int.tdiv (wrap64 (x + y)) 2) = z := by
      rw [hz, show wrap64 (z + z) = z * 2 by unfold wrap64; omega, Int.mul_tdiv_cancel _ (by decide)]
      unfold wrap64; omega
    unfold impl_between.f
    simp only [show ¬ ((-1 : Int) > 0) from by decide, if_false, if_neg hne, if_pos e1, if_pos e2, e3, hw]
/-- A whole step. -/
theorem St.one {i : Nat} {x j : Int} {lo hi lo' hi' : List Int} (h : St i x lo hi) (hj : j = 1 ∨ j = -1) (hc : lo = [] ∨ hi = []) (hc' : lo' = [] ∨ hi' = [])
    (hl : ∀ y, lo'.getLast? = some y ∨ hi'.getLast? = some y → y = x ∨ lo.getLast? = some y ∨ hi.getLast? = some y) : St (i + 1) (x + j * 1048576) lo' hi' := by
  obtain ⟨m, c, hm, hb, h1, h2⟩ := h
  obtain rfl : c = 0 := h1 hc
  refine ⟨m + 1, 0, by omega, ?_, fun _ => rfl, fun _ => by omega⟩
  have one : ∀ y, (y = x ∨ lo.getLast? = some y ∨ hi.getLast? = some y) → -(((m + 1 : Nat) : Int) * 1048576) ≤ y ∧ y ≤ ((m + 1 : Nat) : Int) * 1048576 ∧ ∃ a : Int, y * ((2 ^ 0 : Nat) : Int) = a * 1048576 := by
    intro y hy
    obtain ⟨b1, b2, b3⟩ := hb y hy
    exact ⟨by omega, by omega, b3⟩
  intro y hy
  rcases hy with rfl | hy
  · obtain ⟨b1, b2, a, ha⟩ := hb x (.inl rfl)
    refine ⟨by omega, by omega, a + j, ?_⟩
    rw [show ((2 ^ 0 : Nat) : Int) = 1 from rfl] at ha ⊢
    omega
  · exact one y (hl y hy)
/-- A halving. -/
theorem St.half {i : Nat} {x u : Int} {lo hi lo' hi' : List Int} (h : St i x lo hi) (h0 : lo ≠ [] ∨ hi ≠ []) (hu : lo.getLast? = some u ∨ hi.getLast? = some u) (hn : lo' ≠ []) (hn' : hi' ≠ []) (hi20 : i ≤ 20)
    (hl : ∀ y, lo'.getLast? = some y ∨ hi'.getLast? = some y → y = x ∨ lo.getLast? = some y ∨ hi.getLast? = some y) : ∃ z, x + u = z + z ∧ St (i + 1) z lo' hi' := by
  obtain ⟨m, c, hm, hb, h1, h2⟩ := h
  have hm1 := h2 h0
  obtain ⟨b1, b2, a, ha⟩ := hb x (.inl rfl)
  obtain ⟨d1, d2, b, hb'⟩ := hb u (.inr hu)
  have hev : ∃ z, x + u = z + z ∧ z * ((2 ^ (c + 1) : Nat) : Int) = (a + b) * 1048576 := by
    obtain ⟨e, he⟩ : ∃ e, e + c + 1 = 20 := ⟨19 - c, by omega⟩
    have hQ : (1048576 : Int) = ((2 ^ e : Nat) : Int) * ((2 ^ c : Nat) : Int) * 2 := by
      rw [← Int.natCast_mul, ← Nat.pow_add]
      have : 2 ^ (e + c) * 2 = 2 ^ 20 := by rw [← Nat.pow_succ, Nat.succ_eq_add_one, he]
      have h' : ((2 ^ (e + c) * 2 : Nat) : Int) = ((2 ^ 20 : Nat) : Int) := by rw [this]
      rw [Int.natCast_mul] at h'
      exact h'.symm
    have hp : ((2 ^ c : Nat) : Int) ≠ 0 := by have : 0 < 2 ^ c := Nat.pow_pos (by decide); omega
    have e1 : x = a * ((2 ^ e : Nat) : Int) * 2 := by
      refine Int.eq_of_mul_eq_mul_right hp ?_
      rw [ha, hQ]
      simp only [Int.mul_assoc, Int.mul_comm, Int.mul_left_comm]
    have e2 : u = b * ((2 ^ e : Nat) : Int) * 2 := by
      refine Int.eq_of_mul_eq_mul_right hp ?_
      rw [hb', hQ]
      simp only [Int.mul_assoc, Int.mul_comm, Int.mul_left_comm]
    refine ⟨(a + b) * ((2 ^ e : Nat) : Int), ?_, ?_⟩
    · rw [Int.add_mul]
      generalize a * ((2 ^ e : Nat) : Int) = p at e1 ⊢
      generalize b * ((2 ^ e : Nat) : Int) = q at e2 ⊢
      omega
    · rw [hQ, Nat.pow_succ, Int.natCast_mul]
      simp only [Int.mul_assoc, Int.mul_comm, Int.mul_left_comm]
      rfl
  obtain ⟨z, hz, hz2⟩ := hev
  refine ⟨z, hz, m, c + 1, by omega, ?_, ?_, fun _ => hm1⟩
  · intro y hy
    rcases hy with rfl | hy
    · exact ⟨by omega, by omega, a + b, hz2⟩
    · obtain ⟨f1, f2, g, hg⟩ := hb y (hl y hy)
      refine ⟨f1, f2, g * 2, ?_⟩
      rw [Nat.pow_succ, Int.natCast_mul, ← Int.mul_assoc, hg]
      simp only [Int.mul_assoc, Int.mul_comm, Int.mul_left_comm]
      rfl
  · intro h
    rcases h with h | h
    · exact absurd h hn
    · exact absurd h hn'
theorem LF_some {l : List Int} {y : Int} (h : l.getLast? = some y) : LF l = U y := by unfold LF; rw [h]
theorem snoc_ne (l : List Int) (x : Int) : l ++ [x] ≠ [] := by simp
theorem getLast_snoc (l : List Int) (x : Int) : (l ++ [x]).getLast? = some x := by rw [List.getLast?_append]; rfl
theorem lastOr (l : List Int) : l = [] ∨ ∃ y, l.getLast? = some y := by
  cases l with
  | nil => exact .inl rfl
  | cons a l => exact .inr ⟨_, List.getLast?_eq_some_getLast (by simp)⟩
/-- One letter: both sides take the same step. -/
theorem step_up {i : Nat} {x : Int} {lo hi : List Int} (h : St i x lo hi) (hi20 : i ≤ 20) (hl : hi.length ≤ 1000000) :
    ∃ x', impl_between.f x 1 (lo ++ [x]) hi = some x' ∧ St (i + 1) x' (lo ++ [x]) hi ∧
      Ev (fun k => spec_shWalk_step.f k (U x).1 (U x).2 (LF lo).1 (LF lo).2 (LF hi).1 (LF hi).2 (!lo.isEmpty) (!hi.isEmpty) true)
        ((U x').1, (U x').2, (LF (lo ++ [x])).1, (LF (lo ++ [x])).2, (LF hi).1, (LF hi).2, (!(lo ++ [x]).isEmpty), (!hi.isEmpty)) := by
  obtain ⟨bx1, bx2⟩ := h.bd (by omega)
  obtain ⟨bt1, bt2⟩ := between_up x (lo ++ [x]) hi hl bx1 bx2
  have hne : (!(lo ++ [x]).isEmpty) = true := by simp
  rcases lastOr hi with rfl | ⟨y, hy⟩
  · have hS : St (i + 1) (x + 1 * 1048576) (lo ++ [x]) [] := h.one (.inl rfl) (.inr rfl) (.inr rfl) (fun y hy => by
      rcases hy with hy | hy
      · rw [getLast_snoc] at hy; exact .inl (Option.some.inj hy).symm
      · cases hy)
    refine ⟨_, bt1 rfl, hS, ?_⟩
    rw [LF_snoc, hne]
    unfold spec_shWalk_step.f
    simp only [if_true]
    refine Ev.step (fun k => by simp only [spec_shWalk_step.j0, if_true]; exact rfl) ?_
    refine Ev.step (fun k => by simp only [spec_shWalk_step.j1, List.isEmpty_nil, Bool.not_true, Bool.false_eq_true, if_false, if_true, spec_shInt.f, Option.bind_some]; exact rfl) ?_
    exact Ev.bind (addI_ev x 1 bx1 bx2 (.inl rfl)) (Ev.now _)
  · have hh : hi ≠ [] := by rintro rfl; cases hy
    have hie : hi.isEmpty = false := by cases hi with
      | nil => exact absurd rfl hh
      | cons a l => rfl
    obtain ⟨z, hz, hS⟩ := h.half (lo' := lo ++ [x]) (hi' := hi) (.inr hh) (.inr hy) (snoc_ne _ _) hh hi20 (fun y hy => by
      rcases hy with hy | hy
      · rw [getLast_snoc] at hy; exact .inl (Option.some.inj hy).symm
      · exact .inr (.inr hy))
    obtain ⟨by1, by2⟩ : -20971520 ≤ y ∧ y ≤ 20971520 := by
      obtain ⟨m, c, hm, hb, _⟩ := h
      obtain ⟨b1, b2, _⟩ := hb y (.inr (.inr hy))
      omega
    obtain ⟨bz1, bz2⟩ : -20971520 ≤ z ∧ z ≤ 20971520 := by omega
    refine ⟨z, bt2 y z hy hz bz1 bz2, hS, ?_⟩
    rw [LF_snoc, hne, LF_some hy, hie]
    unfold spec_shWalk_step.f
    simp only [if_true]
    refine Ev.step (fun k => by simp only [spec_shWalk_step.j0, if_true]; exact rfl) ?_
    refine Ev.step (fun k => by simp only [spec_shWalk_step.j1, Bool.not_false, if_true]; exact rfl) ?_
    have e := addU_ev x y bx1 bx2 by1 by2
    rw [hz] at e
    exact Ev.bind e (Ev.bind (halfU_ev z bz1 bz2) (Ev.now _))
theorem step_down {i : Nat} {x : Int} {lo hi : List Int} (h : St i x lo hi) (hi20 : i ≤ 20) (hl : lo.length ≤ 1000000) :
    ∃ x', impl_between.f x (-1) lo (hi ++ [x]) = some x' ∧ St (i + 1) x' lo (hi ++ [x]) ∧
      Ev (fun k => spec_shWalk_step.f k (U x).1 (U x).2 (LF lo).1 (LF lo).2 (LF hi).1 (LF hi).2 (!lo.isEmpty) (!hi.isEmpty) false)
        ((U x').1, (U x').2, (LF lo).1, (LF lo).2, (LF (hi ++ [x])).1, (LF (hi ++ [x])).2, (!lo.isEmpty), (!(hi ++ [x]).isEmpty)) := by
  obtain ⟨bx1, bx2⟩ := h.bd (by omega)
  obtain ⟨bt1, bt2⟩ := between_down x lo (hi ++ [x]) hl bx1 bx2
  have hne : (!(hi ++ [x]).isEmpty) = true := by simp
  rcases lastOr lo with rfl | ⟨y, hy⟩
  · have hS : St (i + 1) (x + (-1) * 1048576) [] (hi ++ [x]) := h.one (.inr rfl) (.inl rfl) (.inl rfl) (fun y hy => by
      rcases hy with hy | hy
      · cases hy
      · rw [getLast_snoc] at hy; exact .inl (Option.some.inj hy).symm)
    refine ⟨_, bt1 rfl, hS, ?_⟩
    rw [LF_snoc, hne]
    unfold spec_shWalk_step.f
    simp only [Bool.false_eq_true, if_false]
    refine Ev.step (fun k => by simp only [spec_shWalk_step.j0, List.isEmpty_nil, Bool.not_true, Bool.false_eq_true, if_false]; exact rfl) ?_
    refine Ev.step (fun k => by simp only [spec_shWalk_step.j1, Bool.false_eq_true, if_false, spec_shInt.f, Option.bind_some]; exact rfl) ?_
    exact Ev.bind (addI_ev x (-1) bx1 bx2 (.inr rfl)) (Ev.now _)
  · have hh : lo ≠ [] := by rintro rfl; cases hy
    have hie : lo.isEmpty = false := by cases lo with
      | nil => exact absurd rfl hh
      | cons a l => rfl
    obtain ⟨z, hz, hS⟩ := h.half (lo' := lo) (hi' := hi ++ [x]) (.inl hh) (.inl hy) hh (snoc_ne _ _) hi20 (fun y hy => by
      rcases hy with hy | hy
      · exact .inr (.inl hy)
      · rw [getLast_snoc] at hy; exact .inl (Option.some.inj hy).symm)
    obtain ⟨by1, by2⟩ : -20971520 ≤ y ∧ y ≤ 20971520 := by
      obtain ⟨m, c, hm, hb, _⟩ := h
      obtain ⟨b1, b2, _⟩ := hb y (.inr (.inl hy))
      omega
    obtain ⟨bz1, bz2⟩ : -20971520 ≤ z ∧ z ≤ 20971520 := by omega
    refine ⟨z, bt2 y z hy hz bz1 bz2, hS, ?_⟩
    rw [LF_snoc, hne, LF_some hy, hie]
    unfold spec_shWalk_step.f
    simp only [Bool.false_eq_true, if_false]
    refine Ev.step (fun k => by simp only [spec_shWalk_step.j0, Bool.not_false, if_true]; exact rfl) ?_
    refine Ev.step (fun k => by simp only [spec_shWalk_step.j1, if_true]; exact rfl) ?_
    have e := addU_ev y x by1 by2 bx1 bx2
    rw [show y + x = z + z by omega] at e
    exact Ev.bind e (Ev.bind (halfU_ev z bz1 bz2) (Ev.now _))

/-! ### lists of fractions: their size, a copy, the same -/
theorem rdL (xs : List S35) (i : Nat) (h : i < xs.length) : rd_T35 xs (i : Int) = xs[i] := by
  simp [rd_T35, List.getD_eq_getElem?_getD, List.getElem?_eq_getElem h]
theorem rdI (xs : List S25) (i : Nat) (h : i < xs.length) : rd_T25 xs (i : Int) = xs[i] := by
  simp [rd_T25, List.getD_eq_getElem?_getD, List.getElem?_eq_getElem h]
theorem szFr (l : List S35) (left : Int) (h0 : 0 ≤ left) (h1 : left ≤ 1048576) (h : l.length ≤ maxLen) : laws_szFractionS.f l left = some (if (l.length : Int) > left then -1 else left - (l.length : Int)) := by
  unfold maxLen at h
  have hw : wrap64 (left - (l.length : Int)) = left - (l.length : Int) := by unfold wrap64; omega
  unfold laws_szFractionS.f
  rw [hw]
  clear hw
  by_cases g : (l.length : Int) > left
  · rw [if_pos (by omega), if_pos g]
  · rw [if_neg (by omega), if_neg g]
def conv (p : S35) : S25 := ⟨p.f0, p.f1⟩
theorem toFr_l (l : List S35) (hl : l.length ≤ 1048576) : ∀ (d i : Nat) (ys : List S25), i + d = l.length → ys.length = l.length → (∀ j, j < i → ys[j]? = (l.map conv)[j]?) →
    Ev (fun k => laws_toFractionS.l0 k l ys (i : Int)) (l.map conv) := by
  intro d
  induction d with
  | zero =>
    intro i ys hi hy hj
    have c : ¬ (i : Int) < (l.length : Int) := by omega
    have : ys = l.map conv := by
      apply List.ext_getElem?
      intro j
      by_cases g : j < i
      · exact hj j g
      · rw [List.getElem?_eq_none (by omega), List.getElem?_eq_none (by rw [List.length_map]; omega)]
    subst this
    refine Ev.step (fun k => ?_) (Ev.now _)
    simp only [laws_toFractionS.l0, if_neg c]
  | succ d ih =>
    intro i ys hi hy hj
    have g1 : (i : Int) < (l.length : Int) := by omega
    have g1' : (i : Int) < (ys.length : Int) := by omega
    have g2 : (0 : Int) ≤ (i : Int) := Int.natCast_nonneg _
    have hil : i < l.length := by omega
    have hw : wrap64 ((i : Int) + 1) = ((i + 1 : Nat) : Int) := wsucc i (by omega)
    refine Ev.step (fun k => ?_) (ih (i + 1) (ys.set i (conv l[i])) (by clear hw; omega) (by rw [List.length_set]; exact hy) (fun j hjl => ?_))
    · simp only [laws_toFractionS.l0, if_pos g1, if_pos g2, rdL l i hil, laws_toFraction.f, Option.bind_some, if_pos g1', Int.toNat_natCast, hw]
      rfl
    · rw [List.getElem?_set]
      by_cases e : i = j
      · subst e
        rw [if_pos rfl, if_pos (by clear hw; omega), List.getElem?_map, List.getElem?_eq_getElem hil]
        rfl
      · rw [if_neg e]
        exact hj j (by clear hw; omega)
theorem toFr_ev (l : List S35) (hl : l.length ≤ 1048576) : Ev (fun k => laws_toFractionS.f k l) (l.map conv) := by
  unfold laws_toFractionS.f
  simp only [if_pos (Int.natCast_nonneg l.length), Int.toNat_natCast, show l.length ≤ 17592186044416 from by omega, if_true]
  exact toFr_l l hl l.length 0 _ (by omega) (by simp) (fun j hj => by omega)
theorem eqFr_l (l : List S25) (hl : l.length ≤ 1048576) : ∀ (d i : Nat), i + d = l.length → Ev (fun k => laws_eqFractionS.l0 k l l (i : Int)) true := by
  intro d
  induction d with
  | zero =>
    intro i hi
    have c : ¬ (i : Int) < (l.length : Int) := by omega
    refine Ev.step (fun k => ?_) (Ev.now _)
    simp only [laws_eqFractionS.l0, if_neg c]
  | succ d ih =>
    intro i hi
    have g1 : (i : Int) < (l.length : Int) := by omega
    have g2 : (0 : Int) ≤ (i : Int) := Int.natCast_nonneg _
    have hw : wrap64 ((i : Int) + 1) = ((i + 1 : Nat) : Int) := wsucc i (by omega)
    refine Ev.step (fun k => ?_) (ih (i + 1) (by clear hw; omega))
    simp only [laws_eqFractionS.l0, if_pos g1, if_pos g2, laws_eqFraction.f, if_true, Option.bind_some, hw]
theorem eqFr_ev (l : List S25) (hl : l.length ≤ 1048576) : Ev (fun k => laws_eqFractionS.f k l l) true := by
  unfold laws_eqFractionS.f
  simp only [if_true]
  exact eqFr_l l hl l.length 0 (by omega)

theorem is_ok {a : S25} (h : fr.is a = true) : 1 ≤ a.f1 ∧ a.f1 ≤ 1000000 ∧ -1000000 ≤ a.f0 ∧ a.f0 ≤ 1000000 := by
  have := fr.is_some a
  rw [h] at this
  exact good_pos this
theorem shGood_ev (a : S25) : Ev (fun k => spec_shGood.f k a.f0 a.f1) (fr.is a) :=
  Ev.congr (fun k => good_same k a.f0 a.f1) (Ev.of (impl_IsFraction.mono a.f0 a.f1) (fr.is_some a))
theorem list_l (l : List S25) (hl : l.length ≤ 1048576) : ∀ (d i : Nat), i + d = l.length → Ev (fun k => spec_shList.l0 k l 20 l (l.length : Int) (i : Int)) ((l.drop i).all fr.is && decide (l.length ≤ 20)) := by
  intro d
  induction d with
  | zero =>
    intro i hi
    have c : ¬ (i : Int) < (l.length : Int) := by omega
    rw [List.drop_eq_nil_of_le (by omega), List.all_nil, Bool.true_and, show decide (l.length ≤ 20) = decide ((l.length : Int) ≤ 20) from decide_eq_decide.2 (by omega)]
    refine Ev.step (fun k => ?_) (Ev.now _)
    simp only [spec_shList.l0, if_neg c]
  | succ d ih =>
    intro i hi
    have g1 : (i : Int) < (l.length : Int) := by omega
    have g2 : (0 : Int) ≤ (i : Int) := Int.natCast_nonneg _
    have hil : i < l.length := by omega
    have hw : wrap64 ((i : Int) + 1) = ((i + 1 : Nat) : Int) := wsucc i (by omega)
    have nx := ih (i + 1) (by clear hw; omega)
    rw [List.drop_eq_getElem_cons hil, List.all_cons]
    have e := shGood_ev l[i]
    refine Ev.step (f := ?fa) (fun k => ?ea) ?va
    case ea => conv => lhs; simp only [spec_shList.l0, if_pos g1, if_pos g2, rdI l i hil, hw]
    case va =>
      refine Ev.bind e ?_
      cases fr.is l[i] with
      | true => simpa using nx
      | false => simpa using Ev.now false
theorem list_ev (l : List S25) (hl : l.length ≤ 1048576) : Ev (fun k => spec_shList.f k l 20) (l.all fr.is && decide (l.length ≤ 20)) := by
  have := list_l l hl l.length 0 (by omega)
  rw [List.drop_zero] at this
  exact this
theorem listI (l : List S25) : impl_fractionsOk.f l = some (l.all fr.is && decide (l.length ≤ 20)) := by
  unfold impl_fractionsOk.f
  rw [Bool.and_comm, List.any_eq_not_all_not]
  simp
/-- What is asked of each fraction. -/
def ok (a : S25) : Prop := 1 ≤ a.f1 ∧ a.f1 ≤ 1000000 ∧ -1000000 ≤ a.f0 ∧ a.f0 ≤ 1000000
theorem sign_is (z : Int) : ∃ t, spec_l1Sign.f z = some t ∧ (0 ≤ t ↔ 0 ≤ z) ∧ (t ≤ 0 ↔ z ≤ 0) ∧ (0 < t ↔ 0 < z) := by
  unfold spec_l1Sign.f
  by_cases h : z > 0
  · rw [if_pos h]; exact ⟨_, rfl, by omega, by omega, by omega⟩
  · rw [if_neg h]
    by_cases g : z < 0
    · rw [if_pos g]; exact ⟨_, rfl, by omega, by omega, by omega⟩
    · rw [if_neg g]; exact ⟨_, rfl, by omega, by omega, by omega⟩
theorem cmp_is (a0 a1 b0 b1 : Int) (h1 : -41943040 ≤ a0) (h2 : a0 ≤ 41943040) (h3 : 0 ≤ a1) (h4 : a1 ≤ 1048576) (g1 : -41943040 ≤ b0) (g2 : b0 ≤ 41943040) (g3 : 0 ≤ b1) (g4 : b1 ≤ 1048576) :
    ∃ t, spec_shCmp.f a0 a1 b0 b1 = some t ∧ (0 ≤ t ↔ b0 * a1 ≤ a0 * b1) ∧ (t ≤ 0 ↔ a0 * b1 ≤ b0 * a1) ∧ (0 < t ↔ b0 * a1 < a0 * b1) := by
  have p1 := mul_bd h1 h2 g3 g4 (by decide)
  have p2 := mul_bd g1 g2 h3 h4 (by decide)
  have w1 : wrap64 (a0 * b1) = a0 * b1 := by unfold wrap64; omega
  have w2 : wrap64 (b0 * a1) = b0 * a1 := by unfold wrap64; omega
  have w3 : wrap64 (a0 * b1 - b0 * a1) = a0 * b1 - b0 * a1 := by clear w1 w2; unfold wrap64; omega
  obtain ⟨t, ht, e1, e2, e3⟩ := sign_is (a0 * b1 - b0 * a1)
  refine ⟨t, ?_, by rw [e1]; clear w1 w2 w3; omega, by rw [e2]; clear w1 w2 w3; omega, by rw [e3]; clear w1 w2 w3; omega⟩
  unfold spec_shCmp.f
  rw [w1, w2, w3, ht]
  rfl
theorem le_is {x : Int} {a : S25} (h : ok a) (hx1 : -20971520 ≤ x) (hx2 : x ≤ 20971520) : (si.le x a = true ↔ x * a.f1 ≤ a.f0 * 1048576) ∧ (si.ge x a = true ↔ a.f0 * 1048576 ≤ x * a.f1) := by
  obtain ⟨a1, a2, a3, a4⟩ := h
  have p1 := mul_bd hx1 hx2 (show 0 ≤ a.f1 by omega) a2 (by decide)
  have w1 : wrap64 (x * a.f1) = x * a.f1 := by unfold wrap64; omega
  have w2 : wrap64 (a.f0 * 1048576) = a.f0 * 1048576 := by unfold wrap64; omega
  unfold si.le si.ge
  rw [w1, w2, decide_eq_true_eq, decide_eq_true_eq]
  exact ⟨Iff.rfl, Iff.rfl⟩
/-- A fraction against a number in units. -/
theorem cross {a0 a1 x : Int} : (x * a1 ≤ a0 * 1048576 ↔ (U x).1 * a1 ≤ a0 * (U x).2) ∧ (a0 * 1048576 ≤ x * a1 ↔ a0 * (U x).2 ≤ (U x).1 * a1) := by
  obtain ⟨u1, u2, u3, u4⟩ := U_facts x
  have e1 : (U x).1 * a1 * 1048576 = (x * a1) * (U x).2 := by
    rw [Int.mul_right_comm, u4]
    simp only [Int.mul_assoc, Int.mul_comm, Int.mul_left_comm]
  have e2 : a0 * (U x).2 * 1048576 = (a0 * 1048576) * (U x).2 := Int.mul_right_comm ..
  have k1 : ∀ p q : Int, p ≤ q ↔ p * (U x).2 ≤ q * (U x).2 := fun p q => ⟨fun h => Int.mul_le_mul_of_nonneg_right h (by omega), fun h => Int.le_of_mul_le_mul_right h u1⟩
  generalize (U x).1 * a1 = P at e1 ⊢
  generalize a0 * (U x).2 = R at e2 ⊢
  refine ⟨?_, ?_⟩
  · rw [k1, ← e1, ← e2]; omega
  · rw [k1, ← e1, ← e2]; omega
theorem trans3 {a0 a1 b0 b1 c0 c1 : Int} (ha : 0 < a1) (hb : 0 < b1) (hc : 0 < c1) (h1 : a0 * b1 ≤ b0 * a1) (h2 : b0 * c1 ≤ c0 * b1) : a0 * c1 ≤ c0 * a1 := by
  have e1 : a0 * b1 * c1 ≤ b0 * a1 * c1 := Int.mul_le_mul_of_nonneg_right h1 (by omega)
  have e2 : b0 * c1 * a1 ≤ c0 * b1 * a1 := Int.mul_le_mul_of_nonneg_right h2 (by omega)
  rw [Int.mul_right_comm a0 b1 c1] at e1
  rw [show b0 * c1 * a1 = b0 * a1 * c1 from Int.mul_right_comm .., Int.mul_right_comm c0 b1 a1] at e2
  exact Int.le_of_mul_le_mul_right (Int.le_trans e1 e2) hb
theorem most_l (l : List S25) (hl : l.length ≤ 1048576) (hok : ∀ a ∈ l, ok a) : ∀ (d i : Nat) (m : S25), i + d = l.length → m ∈ l → (∀ j, j < i → ∀ hj : j < l.length, l[j].f0 * m.f1 ≤ m.f0 * l[j].f1) →
    ∃ M, Ev (fun k => spec_shMost.l0 k l (l.length : Int) (i : Int) m.f0 m.f1) (M.f0, M.f1) ∧ M ∈ l ∧ ∀ a ∈ l, a.f0 * M.f1 ≤ M.f0 * a.f1 := by
  intro d
  induction d with
  | zero =>
    intro i m hi hm hj
    have c : ¬ (i : Int) < (l.length : Int) := by omega
    refine ⟨m, Ev.step (fun k => ?_) (Ev.now _), hm, fun a ha => ?_⟩
    · simp only [spec_shMost.l0, if_neg c]
    · obtain ⟨j, hjl, rfl⟩ := List.mem_iff_getElem.1 ha
      exact hj j (by omega) hjl
  | succ d ih =>
    intro i m hi hm hj
    have g1 : (i : Int) < (l.length : Int) := by omega
    have g2 : (0 : Int) ≤ (i : Int) := Int.natCast_nonneg _
    have hil : i < l.length := by omega
    have hw : wrap64 ((i : Int) + 1) = ((i + 1 : Nat) : Int) := wsucc i (by omega)
    have hin := List.getElem_mem hil
    obtain ⟨a1, a2, a3, a4⟩ := hok _ hin
    obtain ⟨b1, b2, b3, b4⟩ := hok _ hm
    obtain ⟨t, ht, e1, e2, e3⟩ := cmp_is l[i].f0 l[i].f1 m.f0 m.f1 (by omega) (by omega) (by omega) (by omega) (by omega) (by omega) (by omega) (by omega)
    by_cases c : t > 0
    · obtain ⟨M, q1, q2, q3⟩ := ih (i + 1) l[i] (by clear hw; omega) hin (fun j hj1 hjl => by
        by_cases e : j = i
        · subst e; exact Int.le_refl _
        · exact trans3 (by have := hok _ (List.getElem_mem hjl); unfold ok at this; omega) (show 0 < m.f1 by omega) (by omega) (hj j (by clear hw; omega) hjl) (Int.le_of_lt (e3.1 c)))
      refine ⟨M, Ev.step (fun k => ?_) q1, q2, q3⟩
      simp only [spec_shMost.l0, if_pos g1, if_pos g2, rdI l i hil, ht, Option.bind_some, if_pos c, hw]
    · obtain ⟨M, q1, q2, q3⟩ := ih (i + 1) m (by clear hw; omega) hm (fun j hj1 hjl => by
        by_cases e : j = i
        · subst e; exact e2.1 (by omega)
        · exact hj j (by clear hw; omega) hjl)
      refine ⟨M, Ev.step (fun k => ?_) q1, q2, q3⟩
      simp only [spec_shMost.l0, if_pos g1, if_pos g2, rdI l i hil, ht, Option.bind_some, if_neg c, hw]
theorem most_ev (l : List S25) (hl : l.length ≤ 1048576) (hok : ∀ a ∈ l, ok a) (hne : 0 < l.length) : ∃ M, Ev (fun k => spec_shMost.f k l) (M.f0, M.f1) ∧ M ∈ l ∧ ∀ a ∈ l, a.f0 * M.f1 ≤ M.f0 * a.f1 := by
  obtain ⟨M, q1, q2, q3⟩ := most_l l hl hok l.length 0 l[0] (by omega) (List.getElem_mem hne) (fun j hj => absurd hj (Nat.not_lt_zero _))
  refine ⟨M, ?_, q2, q3⟩
  unfold spec_shMost.f
  have r0 : rd_T25 l 0 = l[0] := rdI l 0 hne
  simp only [if_pos (show 0 < (l.length : Int) by omega), r0]
  exact q1
def neg (a : S25) : S25 := ⟨-a.f0, a.f1⟩
theorem ok_neg {a : S25} (h : ok a) : ok (neg a) := ⟨h.1, h.2.1, by have := h.2.2; show -1000000 ≤ -a.f0; omega, by have := h.2.2; show -a.f0 ≤ 1000000; omega⟩
theorem neg_is {a : S25} (h : ok a) : spec_shNeg.f a.f0 a.f1 = some (-a.f0, a.f1) := by
  have := h.2.2
  have hw : wrap64 (-a.f0) = -a.f0 := by unfold wrap64; omega
  unfold spec_shNeg.f
  rw [hw]
theorem negAll_l (l : List S25) (hl : l.length ≤ 1048576) (hok : ∀ a ∈ l, ok a) : ∀ (d i : Nat) (acc : List S25), i + d = l.length → acc = (l.take i).map neg →
    Ev (fun k => spec_shNegAll.l0 k acc l (l.length : Int) (i : Int)) (l.map neg) := by
  intro d
  induction d with
  | zero =>
    intro i acc hi ha
    have c : ¬ (i : Int) < (l.length : Int) := by omega
    subst ha
    rw [List.take_of_length_le (by omega)]
    refine Ev.step (fun k => ?_) (Ev.now _)
    simp only [spec_shNegAll.l0, if_neg c]
  | succ d ih =>
    intro i acc hi ha
    have g1 : (i : Int) < (l.length : Int) := by omega
    have g2 : (0 : Int) ≤ (i : Int) := Int.natCast_nonneg _
    have hil : i < l.length := by omega
    have hw : wrap64 ((i : Int) + 1) = ((i + 1 : Nat) : Int) := wsucc i (by omega)
    have g3 : acc.length < 8796093022208 := by rw [ha, List.length_map, List.length_take]; clear hw; omega
    refine Ev.step (fun k => ?_) (ih (i + 1) (acc ++ [neg l[i]]) (by clear hw; omega) (by rw [ha, List.take_succ_eq_append_getElem hil, List.map_append]; rfl))
    simp only [spec_shNegAll.l0, if_pos g1, if_pos g2, rdI l i hil, neg_is (hok _ (List.getElem_mem hil)), Option.bind_some, if_pos g3, hw]
    rfl
theorem negAll_ev (l : List S25) (hl : l.length ≤ 1048576) (hok : ∀ a ∈ l, ok a) : Ev (fun k => spec_shNegAll.f k l) (l.map neg) := negAll_l l hl hok l.length 0 [] (by omega) (by simp)
/-- The head of a round: up and down are told. -/
theorem head_ev (l0 l1 : List S25) (h0 : l0.length ≤ 20) (h1 : l1.length ≤ 20) (k0 : ∀ a ∈ l0, ok a) (k1 : ∀ a ∈ l1, ok a) (x i : Int) (hx1 : -20971520 ≤ x) (hx2 : x ≤ 20971520) (hi : i ≤ 20) (s2 s3 s4 s5 : Int) (s6 s7 : Bool) (r : Int × Int × Bool)
    (h : Ev (fun k => spec_shSimplest.j2 k l0 l1 i (l0.any (si.le x)) (l1.any (si.ge x)) (U x).1 (U x).2 s2 s3 s4 s5 s6 s7) r) : Ev (fun k => spec_shSimplest.l0 k l0 l1 i (U x).1 (U x).2 s2 s3 s4 s5 s6 s7) r := by
  obtain ⟨u1, u2, u3, u4⟩ := U_facts x
  have hj1 : Ev (fun k => spec_shSimplest.j1 k l0 l1 i (l0.any (si.le x)) (U x).1 (U x).2 s2 s3 s4 s5 s6 s7) r := by
    by_cases c : 0 < l1.length
    · obtain ⟨M, q1, q2, q3⟩ := most_ev (l1.map neg) (by rw [List.length_map]; omega) (fun a ha => by obtain ⟨b, hb, rfl⟩ := List.mem_map.1 ha; exact ok_neg (k1 b hb)) (by rw [List.length_map]; exact c)
      obtain ⟨b, hb, rfl⟩ := List.mem_map.1 q2
      obtain ⟨b1, b2, b3, b4⟩ := k1 b hb
      obtain ⟨t, ht, e1, e2, e3⟩ := cmp_is b.f0 b.f1 (U x).1 (U x).2 (by omega) (by omega) (by omega) (by omega) (by omega) (by omega) (by omega) (by omega)
      have hd : decide (t ≤ 0) = l1.any (si.ge x) := by
        rw [Bool.eq_iff_iff, decide_eq_true_eq, e2, ← cross.2, List.any_eq_true]
        constructor
        · intro z
          exact ⟨b, hb, (le_is (k1 b hb) hx1 hx2).2.2 z⟩
        · rintro ⟨a, ha, z⟩
          have z' := (le_is (k1 a ha) hx1 hx2).2.1 z
          have q := q3 (neg a) (List.mem_map.2 ⟨a, ha, rfl⟩)
          have q' : -a.f0 * b.f1 ≤ -b.f0 * a.f1 := q
          rw [Int.neg_mul, Int.neg_mul] at q'
          exact trans3 (a0 := b.f0) (a1 := b.f1) (b0 := a.f0) (b1 := a.f1) (c0 := x) (c1 := 1048576) (by omega) (by have := k1 a ha; unfold ok at this; omega) (by decide) (by omega) z'
      have hn : spec_shNeg.f (neg b).f0 (neg b).f1 = some (b.f0, b.f1) := by
        rw [neg_is (ok_neg (k1 b hb))]
        show some (- -b.f0, b.f1) = _
        rw [Int.neg_neg]
      refine Ev.step (f := ?f1) (fun k => ?e1) ?v1
      case e1 => conv => lhs; simp only [spec_shSimplest.j1, if_pos (show (l1.length : Int) > 0 by omega)]
      case v1 =>
        refine Ev.bind (negAll_ev l1 (by omega) k1) (Ev.bind q1 ?_)
        simp only [hn, Option.bind_some, ht, hd]
        exact h
    · have e : l1 = [] := List.eq_nil_of_length_eq_zero (by omega)
      subst e
      refine Ev.step (f := ?f2) (fun k => ?e2) ?v2
      case e2 => conv => lhs; simp only [spec_shSimplest.j1, List.length_nil, show ¬ (((0 : Nat) : Int) > 0) from by decide, if_false]
      case v2 => exact h
  by_cases c : 0 < l0.length
  · obtain ⟨M, q1, q2, q3⟩ := most_ev l0 (by omega) k0 c
    obtain ⟨b1, b2, b3, b4⟩ := k0 M q2
    obtain ⟨t, ht, e1, e2, e3⟩ := cmp_is M.f0 M.f1 (U x).1 (U x).2 (by omega) (by omega) (by omega) (by omega) (by omega) (by omega) (by omega) (by omega)
    have hd : decide (t ≥ 0) = l0.any (si.le x) := by
      rw [Bool.eq_iff_iff, decide_eq_true_eq, ge_iff_le, e1, ← cross.1, List.any_eq_true]
      constructor
      · intro z
        exact ⟨M, q2, (le_is (k0 M q2) hx1 hx2).1.2 z⟩
      · rintro ⟨a, ha, z⟩
        have z' := (le_is (k0 a ha) hx1 hx2).1.1 z
        exact trans3 (a0 := x) (a1 := 1048576) (b0 := a.f0) (b1 := a.f1) (c0 := M.f0) (c1 := M.f1) (by decide) (by have := k0 a ha; unfold ok at this; omega) (by omega) z' (q3 a ha)
    refine Ev.step (f := ?f3) (fun k => ?e3) ?v3
    case e3 => conv => lhs; simp only [spec_shSimplest.l0, if_pos hi, if_pos (show (l0.length : Int) > 0 by omega)]
    case v3 =>
      refine Ev.bind q1 ?_
      simp only [ht, Option.bind_some, hd]
      exact hj1
  · have e : l0 = [] := List.eq_nil_of_length_eq_zero (by omega)
    subst e
    refine Ev.step (f := ?f4) (fun k => ?e4) ?v4
    case e4 => conv => lhs; simp only [spec_shSimplest.l0, if_pos hi, List.length_nil, show ¬ (((0 : Nat) : Int) > 0) from by decide, if_false]
    case v4 => exact hj1
/-- Where both are told at one number, one of both is told at each. -/
theorem torn (l0 l1 : List S25) (k0 : ∀ a ∈ l0, ok a) (k1 : ∀ a ∈ l1, ok a) (x y : Int) (hx1 : -20971520 ≤ x) (hx2 : x ≤ 20971520) (hy1 : -20971520 ≤ y) (hy2 : y ≤ 20971520) (h0 : l0.any (si.le x) = true) (h1 : l1.any (si.ge x) = true) : (l0.any (si.le y) || l1.any (si.ge y)) = true := by
  rw [Bool.or_eq_true]
  by_cases c : y ≤ x
  · left
    obtain ⟨a, ha, z⟩ := List.any_eq_true.1 h0
    refine List.any_eq_true.2 ⟨a, ha, (le_is (k0 a ha) hy1 hy2).1.2 ?_⟩
    have z' := (le_is (k0 a ha) hx1 hx2).1.1 z
    have := Int.mul_le_mul_of_nonneg_right c (show 0 ≤ a.f1 by have := k0 a ha; unfold ok at this; omega)
    omega
  · right
    obtain ⟨a, ha, z⟩ := List.any_eq_true.1 h1
    refine List.any_eq_true.2 ⟨a, ha, (le_is (k1 a ha) hy1 hy2).2.2 ?_⟩
    have z' := (le_is (k1 a ha) hx1 hx2).2.1 z
    have := Int.mul_le_mul_of_nonneg_right (show x ≤ y by omega) (show 0 ≤ a.f1 by have := k1 a ha; unfold ok at this; omega)
    omega
theorem end_walk (sd : Nat → Int → Int) (ns : List Int) (wd : ByteArray) (lo hi : List Int) (x : Int) (hn : ns.length ≤ 20) (h : sd ns.length x = 0 ∨ wd.size = 20) : ∀ k, 2 ≤ k → impl_walk.l0 sd k ns wd lo hi x = some (ns ++ [x], wd, lo, hi) := by
  intro k hk
  obtain ⟨k, rfl⟩ : ∃ m, k = m + 1 + 1 := ⟨k - 2, by omega⟩
  by_cases c : sd ns.length x = 0
  · simp only [impl_walk.l0, if_pos (show ns.length < 17592186044416 by omega), Option.bind_some, c, if_true, impl_walk.j1]
  · have h20 : wd.size = 20 := by rcases h with h | h; exact absurd h c; exact h
    have f20 : ((wd.size : Int) == 20) = true := beq_iff_eq.2 (by omega)
    simp only [impl_walk.l0, if_pos (show ns.length < 17592186044416 by omega), Option.bind_some, if_neg c, f20, impl_walk.j1, if_true]
theorem up_walk (sd : Nat → Int → Int) (ns : List Int) (wd : ByteArray) (lo hi : List Int) (x x' : Int) (hn : ns.length ≤ 20) (hl : lo.length ≤ 20) (hw : wd.size < 20) (h : sd ns.length x = 1) (q : impl_between.f x 1 (lo ++ [x]) hi = some x') (N : Nat) (r)
    (hr : ∀ k, N ≤ k → impl_walk.l0 sd k (ns ++ [x]) (wd ++ (⟨#[43]⟩ : ByteArray)) (lo ++ [x]) hi x' = some r) : ∀ k, N + 2 ≤ k → impl_walk.l0 sd k ns wd lo hi x = some r := by
  intro k hk
  obtain ⟨k, rfl⟩ : ∃ m, k = m + 1 + 1 := ⟨k - 2, by omega⟩
  have f20 : ((wd.size : Int) == 20) = false := beq_eq_false_iff_ne.2 (by omega)
  simp only [impl_walk.l0, if_pos (show ns.length < 17592186044416 by omega), Option.bind_some, h, show ¬ (1 : Int) = 0 from by decide, if_false, f20, impl_walk.j1, Bool.false_eq_true, show (1 : Int) > 0 from by decide, if_true, if_pos (show wd.size + 1 ≤ 9223372036854775807 by omega), if_pos (show lo.length < 17592186044416 by omega), q]
  exact hr k (by omega)
theorem down_walk (sd : Nat → Int → Int) (ns : List Int) (wd : ByteArray) (lo hi : List Int) (x x' : Int) (hn : ns.length ≤ 20) (hl : hi.length ≤ 20) (hw : wd.size < 20) (h : sd ns.length x = -1) (q : impl_between.f x (-1) lo (hi ++ [x]) = some x') (N : Nat) (r)
    (hr : ∀ k, N ≤ k → impl_walk.l0 sd k (ns ++ [x]) (wd ++ (⟨#[45]⟩ : ByteArray)) lo (hi ++ [x]) x' = some r) : ∀ k, N + 2 ≤ k → impl_walk.l0 sd k ns wd lo hi x = some r := by
  intro k hk
  obtain ⟨k, rfl⟩ : ∃ m, k = m + 1 + 1 := ⟨k - 2, by omega⟩
  have f20 : ((wd.size : Int) == 20) = false := beq_eq_false_iff_ne.2 (by omega)
  simp only [impl_walk.l0, if_pos (show ns.length < 17592186044416 by omega), Option.bind_some, h, show ¬ (-1 : Int) = 0 from by decide, if_false, f20, impl_walk.j1, Bool.false_eq_true, show ¬ (-1 : Int) > 0 from by decide, if_pos (show wd.size + 1 ≤ 9223372036854775807 by omega), if_pos (show hi.length < 17592186044416 by omega), q]
  exact hr k (by omega)
def res (l0 l1 : List S25) (y : Int) : Int × Int × Bool := if (l0.any (si.le y) || l1.any (si.ge y)) = true then (0, 0, false) else ((U y).1, (U y).2, true)
theorem j2_both (l0 l1 : List S25) (i s0 s1 s2 s3 s4 s5 : Int) (s6 s7 : Bool) : Ev (fun k => spec_shSimplest.j2 k l0 l1 i true true s0 s1 s2 s3 s4 s5 s6 s7) (0, 0, false) := by
  refine Ev.step (fun k => by simp only [spec_shSimplest.j2, if_true]; exact rfl) ?_
  refine Ev.step (fun k => by simp only [spec_shSimplest.j3, if_true]) (Ev.now _)
theorem j2_none (l0 l1 : List S25) (i s0 s1 s2 s3 s4 s5 : Int) (s6 s7 : Bool) : Ev (fun k => spec_shSimplest.j2 k l0 l1 i false false s0 s1 s2 s3 s4 s5 s6 s7) (s0, s1, true) := by
  refine Ev.step (fun k => by simp only [spec_shSimplest.j2, Bool.false_eq_true, if_false]; exact rfl) ?_
  refine Ev.step (fun k => by simp only [spec_shSimplest.j3, Bool.false_eq_true, if_false]) (Ev.now _)
theorem j2_up (l0 l1 : List S25) (i s0 s1 s2 s3 s4 s5 : Int) (s6 s7 : Bool) (T : Int × Int × Int × Int × Int × Int × Bool × Bool) (r) (h : Ev (fun k => spec_shWalk_step.f k s0 s1 s2 s3 s4 s5 s6 s7 true) T)
    (hr : Ev (fun k => spec_shSimplest.l0 k l0 l1 (wrap64 (i + 1)) T.1 T.2.1 T.2.2.1 T.2.2.2.1 T.2.2.2.2.1 T.2.2.2.2.2.1 T.2.2.2.2.2.2.1 T.2.2.2.2.2.2.2) r) : Ev (fun k => spec_shSimplest.j2 k l0 l1 i true false s0 s1 s2 s3 s4 s5 s6 s7) r := by
  refine Ev.step (fun k => by simp only [spec_shSimplest.j2, if_true]; exact rfl) ?_
  refine Ev.step (f := ?f5) (fun k => ?e5) ?v5
  case e5 => conv => lhs; simp only [spec_shSimplest.j3, Bool.false_eq_true, if_false, if_true]
  case v5 => exact Ev.bind h hr
theorem j2_down (l0 l1 : List S25) (i s0 s1 s2 s3 s4 s5 : Int) (s6 s7 : Bool) (T : Int × Int × Int × Int × Int × Int × Bool × Bool) (r) (h : Ev (fun k => spec_shWalk_step.f k s0 s1 s2 s3 s4 s5 s6 s7 false) T)
    (hr : Ev (fun k => spec_shSimplest.l0 k l0 l1 (wrap64 (i + 1)) T.1 T.2.1 T.2.2.1 T.2.2.2.1 T.2.2.2.2.1 T.2.2.2.2.2.1 T.2.2.2.2.2.2.1 T.2.2.2.2.2.2.2) r) : Ev (fun k => spec_shSimplest.j2 k l0 l1 i false true s0 s1 s2 s3 s4 s5 s6 s7) r := by
  refine Ev.step (fun k => by simp only [spec_shSimplest.j2, Bool.false_eq_true, if_false]; exact rfl) ?_
  refine Ev.step (f := ?f6) (fun k => ?e6) ?v6
  case e6 => conv => lhs; simp only [spec_shSimplest.j3, Bool.false_eq_true, if_false, if_true]
  case v6 => exact Ev.bind h hr
theorem main_l (l0 l1 : List S25) (h0 : l0.length ≤ 20) (h1 : l1.length ≤ 20) (k0 : ∀ a ∈ l0, ok a) (k1 : ∀ a ∈ l1, ok a) : ∀ (d i : Nat) (ns : List Int) (wd : ByteArray) (lo hi : List Int) (x : Int), i + d = 20 → ns.length = i → wd.size = i → lo.length ≤ i → hi.length ≤ i → St i x lo hi →
    ∃ (r : List Int × ByteArray × List Int × List Int) (y : Int) (j : Nat) (lo' hi' : List Int), (∀ k, 2 * d + 2 ≤ k → impl_walk.l0 (si.sd l0 l1) k ns wd lo hi x = some r) ∧ r.1.getLast? = some y ∧ r.1.length ≤ 21 ∧ j ≤ 20 ∧ St j y lo' hi' ∧
      Ev (fun k => spec_shSimplest.l0 k l0 l1 (i : Int) (U x).1 (U x).2 (LF lo).1 (LF lo).2 (LF hi).1 (LF hi).2 (!lo.isEmpty) (!hi.isEmpty)) (res l0 l1 y) := by
  intro d
  induction d with
  | zero =>
    intro i ns wd lo hi x hd n1 n2 n3 n4 hS
    obtain ⟨bx1, bx2⟩ := hS.bd (by omega)
    refine ⟨(ns ++ [x], wd, lo, hi), x, i, lo, hi, fun k hk => end_walk _ _ _ _ _ _ (by omega) (.inr (by omega)) k (by omega), getLast_snoc _ _, by rw [List.length_append, List.length_singleton]; omega, by omega, hS, ?_⟩
    refine head_ev l0 l1 h0 h1 k0 k1 x i bx1 bx2 (by omega) _ _ _ _ _ _ _ ?_
    unfold res
    have hw : wrap64 ((i : Int) + 1) = 21 := by unfold wrap64; omega
    have out : ∀ s0 s1 s2 s3 s4 s5 s6 s7, Ev (fun k => spec_shSimplest.l0 k l0 l1 21 s0 s1 s2 s3 s4 s5 s6 s7) (0, 0, false) := fun _ _ _ _ _ _ _ _ => Ev.step (fun k => by simp only [spec_shSimplest.l0, show ¬ (21 : Int) ≤ 20 from by decide, if_false]) (Ev.now _)
    cases hu : l0.any (si.le x) with
    | true =>
      cases hd : l1.any (si.ge x) with
      | true => exact j2_both ..
      | false =>
        obtain ⟨x', q1, q2, q3⟩ := step_up hS (by omega) (by omega)
        refine j2_up _ _ _ _ _ _ _ _ _ _ _ _ _ q3 ?_
        rw [hw]
        exact out ..
    | false =>
      cases hd : l1.any (si.ge x) with
      | true =>
        obtain ⟨x', q1, q2, q3⟩ := step_down hS (by omega) (by omega)
        refine j2_down _ _ _ _ _ _ _ _ _ _ _ _ _ q3 ?_
        rw [hw]
        exact out ..
      | false => exact j2_none ..
  | succ d ih =>
    intro i ns wd lo hi x hd n1 n2 n3 n4 hS
    obtain ⟨bx1, bx2⟩ := hS.bd (by omega)
    have hw : wrap64 ((i : Int) + 1) = ((i + 1 : Nat) : Int) := wsucc i (by omega)
    have hsz : ∀ b : UInt8, (wd ++ (⟨#[b]⟩ : ByteArray)).size = i + 1 := fun b => by rw [ByteArray.size_append, n2]; rfl
    have hln : ∀ l : List Int, (l ++ [x]).length = l.length + 1 := fun l => by rw [List.length_append, List.length_singleton]
    cases hu : l0.any (si.le x) with
    | true =>
      have e : si.sd l0 l1 ns.length x = 1 := by unfold si.sd; rw [hu]; rfl
      obtain ⟨x', q1, q2, q3⟩ := step_up hS (by omega) (by omega)
      obtain ⟨r, y, j, lo', hi', r1, r2, r3, r4, r5, r6⟩ := ih (i + 1) (ns ++ [x]) (wd ++ (⟨#[43]⟩ : ByteArray)) (lo ++ [x]) hi x' (by omega) (by rw [hln]; omega) (hsz _) (by rw [hln]; omega) (by omega) q2
      refine ⟨r, y, j, lo', hi', fun k hk => up_walk _ ns wd lo hi x x' (by omega) (by omega) (by omega) e q1 (2 * d + 2) r r1 k (by omega), r2, r3, r4, r5, ?_⟩
      refine head_ev l0 l1 h0 h1 k0 k1 x i bx1 bx2 (by omega) _ _ _ _ _ _ _ ?_
      rw [hu]
      cases hd' : l1.any (si.ge x) with
      | true =>
        obtain ⟨by1, by2⟩ := r5.bd r4
        have := torn l0 l1 k0 k1 x y bx1 bx2 by1 by2 hu hd'
        unfold res
        rw [if_pos this]
        exact j2_both ..
      | false =>
        refine j2_up _ _ _ _ _ _ _ _ _ _ _ _ _ q3 ?_
        rw [hw]
        exact r6
    | false =>
      cases hd' : l1.any (si.ge x) with
      | true =>
        have e : si.sd l0 l1 ns.length x = -1 := by unfold si.sd; rw [hu, hd']; rfl
        obtain ⟨x', q1, q2, q3⟩ := step_down hS (by omega) (by omega)
        obtain ⟨r, y, j, lo', hi', r1, r2, r3, r4, r5, r6⟩ := ih (i + 1) (ns ++ [x]) (wd ++ (⟨#[45]⟩ : ByteArray)) lo (hi ++ [x]) x' (by omega) (by rw [hln]; omega) (hsz _) (by omega) (by rw [hln]; omega) q2
        refine ⟨r, y, j, lo', hi', fun k hk => down_walk _ ns wd lo hi x x' (by omega) (by omega) (by omega) e q1 (2 * d + 2) r r1 k (by omega), r2, r3, r4, r5, ?_⟩
        refine head_ev l0 l1 h0 h1 k0 k1 x i bx1 bx2 (by omega) _ _ _ _ _ _ _ ?_
        rw [hu, hd']
        refine j2_down _ _ _ _ _ _ _ _ _ _ _ _ _ q3 ?_
        rw [hw]
        exact r6
      | false =>
        have e : si.sd l0 l1 ns.length x = 0 := by unfold si.sd; rw [hu, hd']; rfl
        refine ⟨(ns ++ [x], wd, lo, hi), x, i, lo, hi, fun k hk => end_walk _ _ _ _ _ _ (by omega) (.inl e) k (by omega), getLast_snoc _ _, by rw [hln]; omega, by omega, hS, ?_⟩
        refine head_ev l0 l1 h0 h1 k0 k1 x i bx1 bx2 (by omega) _ _ _ _ _ _ _ ?_
        unfold res
        rw [hu, hd']
        exact j2_none ..
theorem units_at {i : Nat} {x : Int} {lo hi : List Int} (h : St i x lo hi) (hi20 : i ≤ 20) : impl_fromUnits.f 2000000 x = some (U x) := by
  obtain ⟨g1, g2⟩ := h.good hi20
  obtain ⟨b1, b2⟩ := h.bd hi20
  obtain ⟨f1, f2, f3, f4⟩ := U_facts x
  have hg0 : 0 < Int.gcd x 1048576 := Int.gcd_pos_of_ne_zero_right _ (by decide)
  have e1 : impl_gcd.f 2000000 x 1048576 = some ((Int.gcd x 1048576 : Nat) : Int) := gcd_is 1048576 _ _ _ (by omega) (by omega) (by decide) (by decide) (by decide) (by decide)
  have e2 : impl_gcd.f 2000000 (U x).1 (U x).2 = some ((Int.gcd (U x).1 (U x).2 : Nat) : Int) := gcd_is 1048576 _ _ _ (by omega) (by omega) (by omega) (by omega) (by omega) (by decide)
  have w1 : wrap64 (Int.tdiv x ((Int.gcd x 1048576 : Nat) : Int)) = (U x).1 := by
    show wrap64 (U x).1 = _
    generalize (U x).1 = z at f3 g2
    unfold wrap64; omega
  have w2 : wrap64 (Int.tdiv 1048576 ((Int.gcd x 1048576 : Nat) : Int)) = (U x).2 := by
    show wrap64 (U x).2 = _
    generalize (U x).2 = z at f1 f2
    unfold wrap64; omega
  have hco : Int.gcd (U x).1 (U x).2 = 1 := by
    show Nat.gcd (Int.tdiv x ((Int.gcd x 1048576 : Nat) : Int)).natAbs (Int.tdiv 1048576 ((Int.gcd x 1048576 : Nat) : Int)).natAbs = 1
    rw [Int.natAbs_tdiv, Int.natAbs_tdiv, Int.natAbs_natCast]
    exact Nat.coprime_div_gcd_div_gcd (m := x.natAbs) (n := (1048576 : Int).natAbs) hg0
  have e3 : impl_IsFraction.f 2000000 (U x).1 (U x).2 = some true := by
    unfold impl_IsFraction.f
    simp only [in_some, Option.bind_some]
    rw [decide_eq_true (show 1 ≤ (U x).2 ∧ (U x).2 ≤ 1000000 from ⟨by omega, g1⟩), decide_eq_true (show -1000000 ≤ (U x).1 ∧ (U x).1 ≤ 1000000 from ⟨by omega, by omega⟩)]
    simp only [if_true, e2, Option.bind_some, hco]
    rfl
  unfold impl_fromUnits.f impl_made.f
  simp only [show ¬ (1048576 : Int) = 0 from by decide, if_false, show ¬ (1048576 : Int) < 0 from by decide, e1, Option.bind_some, if_neg (show ¬ ((Int.gcd x 1048576 : Nat) : Int) = 0 by omega), w1, w2, e3, if_true]
theorem both (l0 l1 : List S25) (h0 : l0.length ≤ 1048576) (h1 : l1.length ≤ 1048576) : ∃ r : Int × Int × Bool, Ev (fun k => spec_SimplestOf.f k l0 l1) r ∧ impl_SimplestOf.f l0 l1 = some r := by
  have s0 := list_ev l0 h0
  have s1 := list_ev l1 h1
  have i0 := listI l0
  have i1 := listI l1
  unfold spec_SimplestOf.f impl_SimplestOf.f
  cases b0 : (l0.all fr.is && decide (l0.length ≤ 20)) with
  | false =>
    rw [b0] at s0 i0
    refine ⟨(0, 0, false), Ev.bind s0 (Ev.now _), ?_⟩
    simp only [i0, Option.bind_some, Bool.false_eq_true, if_false]
  | true =>
    rw [b0] at s0 i0
    cases b1 : (l1.all fr.is && decide (l1.length ≤ 20)) with
    | false =>
      rw [b1] at s1 i1
      refine ⟨(0, 0, false), Ev.bind s0 ?_, ?_⟩
      · simp only [if_true]
        exact Ev.bind s1 (Ev.now _)
      · simp only [i0, i1, Option.bind_some, if_true, Bool.false_eq_true, if_false]
    | true =>
      rw [b1] at s1 i1
      rw [Bool.and_eq_true, decide_eq_true_eq, List.all_eq_true] at b0 b1
      have hu : U 0 = (0, 1) := by decide
      obtain ⟨r, y, j, lo', hi', r1, r2, r3, r4, r5, r6⟩ := main_l l0 l1 b0.2 b1.2 (fun a ha => is_ok (b0.1 a ha)) (fun a ha => is_ok (b1.1 a ha)) 20 0 [] ⟨#[]⟩ [] [] 0 rfl rfl rfl (Nat.le_refl _) (Nat.le_refl _) St.start
      obtain ⟨l1', l2, l3⟩ := last_rd r.1 y r2 (by omega)
      have hne : ¬ r.1.length = 0 := fun e => by
        rw [List.eq_nil_of_length_eq_zero e] at r2
        cases r2
      have hw : wrap64 ((r.1.length : Int) - 1) = (r.1.length : Int) - 1 := by unfold wrap64; omega
      rw [hw] at l3
      have hwk : impl_walk.f 100 (si.sd l0 l1) = some r := r1 100 (by omega)
      have hS : impl_simplest.f l0 l1 = some (res l0 l1 y) := by
        unfold impl_simplest.f res
        rw [hwk]
        simp only [Option.bind_some, if_neg hne, l3, units_at r5 r4]
        split <;> rfl
      refine ⟨res l0 l1 y, Ev.bind s0 ?_, ?_⟩
      · simp only [if_true]
        refine Ev.bind s1 ?_
        simp only [if_true]
        refine Ev.bind (a := res l0 l1 y) ?_ (Ev.now _)
        unfold spec_shSimplest.f spec_shStart.f spec_shInt.f
        simp only [Option.bind_some]
        rw [hu] at r6
        exact r6
      · simp only [i0, i1, hS, Option.bind_some, if_true]
theorem proved : laws_FnExactSimplestOf.Pure := by
  intro l0 l1 h0 h1
  refine Ev.rounds ?_
  unfold laws_FnExactSimplestOf.f
  rw [szFr l0 1048576 (by decide) (by decide) h0.1]
  simp only [Option.bind_some]
  by_cases c : (l0.length : Int) > 1048576
  · simp only [if_pos c, show (-1 : Int) < 0 from by decide, if_true]
    exact Ev.now _
  · simp only [if_neg c, if_neg (show ¬ (1048576 - (l0.length : Int)) < 0 by omega)]
    rw [szFr l1 (1048576 - (l0.length : Int)) (by omega) (by omega) h1.1]
    simp only [Option.bind_some]
    by_cases c1 : (l1.length : Int) > 1048576 - (l0.length : Int)
    · simp only [if_pos c1, show (-1 : Int) < 0 from by decide, if_true]
      exact Ev.now _
    · simp only [if_neg c1, if_neg (show ¬ (1048576 - (l0.length : Int) - (l1.length : Int)) < 0 by omega)]
      have t0 := toFr_ev l0 (by omega)
      have t1 := toFr_ev l1 (by omega)
      have z0 : (l0.map conv).length ≤ 1048576 := by rw [List.length_map]; omega
      have z1 : (l1.map conv).length ≤ 1048576 := by rw [List.length_map]; omega
      obtain ⟨r, s1, s2⟩ := both (l0.map conv) (l1.map conv) z0 z1
      refine Ev.bind t0 (Ev.bind t1 (Ev.bind s1 (Ev.bind t0 (Ev.bind t1 ?_))))
      simp only [s2, Option.bind_some, laws_eqFraction.f, if_true, bne_self_eq_false]
      refine Ev.step (f := ?f7) (fun k => ?e7) ?v7
      case e7 => conv => lhs; simp only [laws_FnExactSimplestOf.j0, Bool.false_eq_true, if_false]
      case v7 =>
        refine Ev.bind t0 (Ev.bind (eqFr_ev _ z0) ?_)
        simp only [if_true]
        refine Ev.bind t1 (Ev.bind (eqFr_ev _ z1) ?_)
        simp only [if_true]
        exact Ev.now _

end LFnExactSimplestOf
theorem FnExactSimplestOf : laws_FnExactSimplestOf.Pure := LFnExactSimplestOf.proved
end Go.Proofs.Ytjfhhpkgjdkmdaa.Pure
