/- For any two whole numbers, the program's fraction of their quotient is the reference's. -/
import Derived.Test.YtkbbipnocefmiaaPFnExactMakeFractionx2
namespace Go.Proofs.Ytkbbipnocefmiaa.Pure
open Go.RowKit Go.Proofs.Ytkbbipnocefmiaa.PFnExactMakeFraction Go.Proofs.YtkbbipnocefmiaaW.PrintWords Go.Proofs.YtkbbipnocefmiaaW.PrintLast
set_option linter.unusedVariables false
set_option linter.unusedSimpArgs false
namespace LFnExactMakeFraction
/-! ### the greatest common divisors of both sides -/
theorem abs_same (a : Int) : spec_l1Abs.f a = impl_size.f a := by
  unfold spec_l1Abs.f spec_l1Most.f impl_size.f mx
  generalize wrap64 (-a) = b
  by_cases h : a > b
  · rw [if_pos h, if_neg (by omega)]; rfl
  · rw [if_neg h]
    by_cases g : a < b
    · rw [if_pos g]; rfl
    · rw [if_neg g]
      have : a = b := by omega
      rw [this]; rfl
theorem gcd_same : ∀ (k : Nat) (a b : Int), spec_shGcd.l0 k a b = impl_gcd.l0 k a b
  | 0, _, _ => rfl
  | k + 1, a, b => by
    simp only [spec_shGcd.l0, impl_gcd.l0, abs_same, gcd_same k]
theorem gcd_some : ∀ (d k : Nat) (a b : Int), b.natAbs ≤ d → d < k → ∃ r, impl_gcd.l0 k a b = some r := by
  intro d
  induction d with
  | zero =>
    intro k a b hb hk
    obtain ⟨k, rfl⟩ : ∃ m, k = m + 1 := ⟨k - 1, by omega⟩
    simp only [impl_gcd.l0]
    rw [if_pos (by omega)]
    exact ⟨_, rfl⟩
  | succ d ih =>
    intro k a b hb hk
    obtain ⟨k, rfl⟩ : ∃ m, k = m + 1 := ⟨k - 1, by omega⟩
    simp only [impl_gcd.l0]
    by_cases h : b = 0
    · rw [if_pos h]
      exact ⟨_, rfl⟩
    · rw [if_neg h]
      refine ih k _ _ ?_ (by omega)
      rw [Int.natAbs_tmod]
      have := Nat.mod_lt a.natAbs (show b.natAbs > 0 by omega)
      omega

theorem in_eq (e a b : Int) : spec_l1In.f e a b = impl_in.f e a b := rfl
theorem in_some (e a b : Int) : impl_in.f e a b = some (decide (a ≤ e ∧ e ≤ b)) := by
  unfold impl_in.f
  by_cases h : e ≥ a
  · rw [if_pos h]; congr 1; simp; omega
  · rw [if_neg h]; congr 1; simp; omega
theorem good_same (k : Nat) (a b : Int) : spec_shGood.f k a b = impl_IsFraction.f k a b := by
  unfold spec_shGood.f impl_IsFraction.f spec_shGcd.f impl_gcd.f
  simp only [in_eq, gcd_same]
theorem good_some (a b : Int) (k : Nat) (hk : 1000000 < k) : ∃ r, impl_IsFraction.f k a b = some r := by
  unfold impl_IsFraction.f impl_gcd.f
  simp only [in_some, Option.bind_some]
  by_cases h : 1 ≤ b ∧ b ≤ 1000000
  · rw [if_pos (decide_eq_true h)]
    by_cases h2 : -1000000 ≤ a ∧ a ≤ 1000000
    · rw [if_pos (decide_eq_true h2)]
      obtain ⟨r, hr⟩ := gcd_some 1000000 k a b (by omega) hk
      rw [hr]
      exact ⟨_, rfl⟩
    · rw [if_neg (by simpa using h2)]; exact ⟨_, rfl⟩
  · rw [if_neg (by simpa using h)]; exact ⟨_, rfl⟩
theorem good_pos {a b : Int} {k : Nat} (h : impl_IsFraction.f k a b = some true) : 1 ≤ b ∧ b ≤ 1000000 ∧ -1000000 ≤ a ∧ a ≤ 1000000 := by
  unfold impl_IsFraction.f at h
  simp only [in_some, Option.bind_some] at h
  by_cases h1 : 1 ≤ b ∧ b ≤ 1000000
  · rw [if_pos (decide_eq_true h1)] at h
    by_cases h2 : -1000000 ≤ a ∧ a ≤ 1000000
    · exact ⟨h1.1, h1.2, h2.1, h2.2⟩
    · rw [if_neg (by simpa using h2)] at h; simp at h
  · rw [if_neg (by simpa using h1)] at h; simp at h

theorem gcd_facts : ∀ (d k : Nat) (a b : Int), -1000000000000 ≤ a → a ≤ 1000000000000 → b.natAbs ≤ d → -1000000000000 ≤ b → b ≤ 1000000000000 → d < k →
    ∃ g, impl_gcd.l0 k a b = some g ∧ 0 ≤ g ∧ g ≤ 1000000000000 ∧ (a ≠ 0 ∨ b ≠ 0 → g ≠ 0) := by
  have base : ∀ a : Int, -1000000000000 ≤ a → a ≤ 1000000000000 → ∃ g, ((impl_size.f a).bind fun t => some t) = some g ∧ 0 ≤ g ∧ g ≤ 1000000000000 ∧ (a ≠ 0 ∨ (0 : Int) ≠ 0 → g ≠ 0) := by
    intro a h1 h2
    have hw : wrap64 (-a) = -a := by unfold wrap64; omega
    refine ⟨mx a (wrap64 (-a)), rfl, ?_⟩
    rw [hw]
    clear hw
    unfold mx
    split <;> omega
  intro d
  induction d with
  | zero =>
    intro k a b h1 h2 hb h3 h4 hk
    obtain ⟨k, rfl⟩ : ∃ m, k = m + 1 := ⟨k - 1, by omega⟩
    have hb0 : b = 0 := by omega
    subst hb0
    simp only [impl_gcd.l0, if_true]
    exact base a h1 h2
  | succ d ih =>
    intro k a b h1 h2 hb h3 h4 hk
    obtain ⟨k, rfl⟩ : ∃ m, k = m + 1 := ⟨k - 1, by omega⟩
    simp only [impl_gcd.l0]
    by_cases h : b = 0
    · subst h
      simp only [if_true]
      exact base a h1 h2
    · rw [if_neg h]
      have hm : (Int.tmod a b).natAbs < b.natAbs := by
        rw [Int.natAbs_tmod]
        exact Nat.mod_lt a.natAbs (show b.natAbs > 0 by omega)
      obtain ⟨g, hg, g0, g1, g2⟩ := ih k b (Int.tmod a b) h3 h4 (by omega) (by omega) (by omega) (by omega)
      exact ⟨g, hg, g0, g1, fun _ => g2 (.inl h)⟩
theorem gcd_ev (a b : Int) (h1 : -1000000000000 ≤ a) (h2 : a ≤ 1000000000000) (h3 : -1000000000000 ≤ b) (h4 : b ≤ 1000000000000) :
    ∃ g, Ev (fun k => impl_gcd.f k a b) g ∧ 0 ≤ g ∧ g ≤ 1000000000000 ∧ (a ≠ 0 ∨ b ≠ 0 → g ≠ 0) := by
  obtain ⟨g, hg, g0, g1, g2⟩ := gcd_facts 1000000000000 1000000000001 a b h1 h2 (by omega) h3 h4 (by omega)
  exact ⟨g, Ev.of (impl_gcd.mono a b) (k := 1000000000001) hg, g0, g1, g2⟩
theorem good_ev (x y : Int) : ∃ r, Ev (fun k => impl_IsFraction.f k x y) r := by
  obtain ⟨r, hr⟩ := good_some x y 1000001 (by omega)
  exact ⟨r, Ev.of (impl_IsFraction.mono x y) hr⟩
theorem fin_ev (x y : Int) : ∃ r : Int × Int × Bool, Ev (fun k => spec_shIf.f k x y) r ∧
    Ev (fun k => (impl_IsFraction.f k x y).bind fun t => if t = true then some (x, y, true) else some (0, 0, false)) r := by
  obtain ⟨b, hb⟩ := good_ev x y
  have h2 : ∃ r : Int × Int × Bool, Ev (fun k => (impl_IsFraction.f k x y).bind fun t => if t = true then some (x, y, true) else some (0, 0, false)) r := by
    cases b with
    | true => exact ⟨_, Ev.bind hb (Ev.now (x, y, true))⟩
    | false => exact ⟨_, Ev.bind hb (Ev.now (0, 0, false))⟩
  obtain ⟨r, hr⟩ := h2
  refine ⟨r, Ev.congr (fun k => ?_) hr, hr⟩
  unfold spec_shIf.f
  rw [good_same]
theorem made_ev (a b : Int) (h1 : -1000000000000 ≤ a) (h2 : a ≤ 1000000000000) (h3 : -1000000000000 ≤ b) (h4 : b ≤ 1000000000000) (hb : b ≠ 0) :
    ∃ r : Int × Int × Bool, Ev (fun k => (spec_shMake.f k a b).bind fun t => spec_shIf.f k t.1 t.2) r ∧ Ev (fun k => impl_made.f k a b) r := by
  obtain ⟨g, hg, g0, g1, g2⟩ := gcd_ev a b h1 h2 h3 h4
  have gn := g2 (.inr hb)
  have hg' : Ev (fun k => spec_shGcd.f k a b) g := Ev.congr (fun k => gcd_same k a b) hg
  by_cases hneg : b < 0
  · have hw : wrap64 (-g) ≠ 0 := by unfold wrap64; omega
    obtain ⟨r, s1, s2⟩ := fin_ev (wrap64 (Int.tdiv a (wrap64 (-g)))) (wrap64 (Int.tdiv b (wrap64 (-g))))
    refine ⟨r, Ev.bind (a := (wrap64 (Int.tdiv a (wrap64 (-g))), wrap64 (Int.tdiv b (wrap64 (-g))))) ?_ s1, ?_⟩
    · unfold spec_shMake.f
      refine Ev.bind hg' ?_
      simp only [if_pos hneg, if_neg hw]
      exact Ev.now _
    · unfold impl_made.f
      simp only [if_neg hb]
      refine Ev.bind hg ?_
      simp only [if_pos hneg, if_neg hw]
      exact s2
  · obtain ⟨r, s1, s2⟩ := fin_ev (wrap64 (Int.tdiv a g)) (wrap64 (Int.tdiv b g))
    refine ⟨r, Ev.bind (a := (wrap64 (Int.tdiv a g), wrap64 (Int.tdiv b g))) ?_ s1, ?_⟩
    · unfold spec_shMake.f
      refine Ev.bind hg' ?_
      simp only [if_neg hneg, if_neg gn]
      exact Ev.now _
    · unfold impl_made.f
      simp only [if_neg hb]
      refine Ev.bind hg ?_
      simp only [if_neg hneg, if_neg gn]
      exact s2
theorem whole (a b : Int) : ∃ r : Int × Int × Bool, Ev (fun k => spec_MakeFraction.f k a b) r ∧ Ev (fun k => impl_MakeFraction.f k a b) r := by
  unfold spec_MakeFraction.f impl_MakeFraction.f
  simp only [spec_shWhole.f, in_eq, in_some, Option.bind_some]
  have no : Ev (fun k => spec_MakeFraction.j0 k a b true) (0, 0, false) := Ev.step (fun k => by simp only [spec_MakeFraction.j0, if_true]) (Ev.now _)
  by_cases ha : -1000000000000 ≤ a ∧ a ≤ 1000000000000
  · by_cases hb : -1000000000000 ≤ b ∧ b ≤ 1000000000000
    · simp only [ha, hb, and_self, decide_true, if_true]
      by_cases h0 : b = 0
      · subst h0
        refine ⟨_, no, ?_⟩
        simp only [impl_made.f, if_true, Option.bind_some]
        exact Ev.now _
      · have hd : (b == 0) = false := by simpa using h0
        obtain ⟨r, s1, s2⟩ := made_ev a b ha.1 ha.2 hb.1 hb.2 h0
        rw [hd]
        refine ⟨r, Ev.step (f := fun k => (spec_shMake.f k a b).bind fun t => spec_shIf.f k t.1 t.2) (fun k => ?_) s1, Ev.bind s2 (Ev.now _)⟩
        simp only [spec_MakeFraction.j0, Bool.false_eq_true, if_false]
        congr 1
        funext t
        cases spec_shIf.f k t.1 t.2 <;> rfl
    · simp only [ha, hb, and_self, decide_true, decide_false, if_true, Bool.false_eq_true, if_false]
      exact ⟨_, no, Ev.now _⟩
  · simp only [ha, decide_false, Bool.false_eq_true, if_false]
    exact ⟨_, no, Ev.now _⟩
theorem proved : laws_FnExactMakeFraction.Pure := by
  intro a b _ _
  obtain ⟨r, s1, s2⟩ := whole a b
  refine Ev.rounds ?_
  unfold laws_FnExactMakeFraction.f
  refine Ev.bind s1 (Ev.bind s2 ?_)
  simp only [laws_eqFraction.f, if_true, Option.bind_some, bne_self_eq_false, Bool.false_eq_true, if_false]
  exact Ev.now _

end LFnExactMakeFraction
theorem FnExactMakeFraction : laws_FnExactMakeFraction.Pure := LFnExactMakeFraction.proved
end Go.Proofs.Ytkbbipnocefmiaa.Pure
