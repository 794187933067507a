/- For any list of twigs, the program says 'green picture' just where the reference says so, and leaves the list as it was. -/
import Derived.Test.YtoiobcdaomfepaaQFnExactIsGreenx2
namespace Go.Proofs.Ytoiobcdaomfepaa.Pure
open Go.RowKit Go.Proofs.Ytoiobcdaomfepaa.QFnExactIsGreen Go.Proofs.YtoiobcdaomfepaaW.PrintWords Go.Proofs.YtoiobcdaomfepaaW.PrintLast
set_option linter.unusedVariables false
set_option linter.unusedSimpArgs false
def laws_FnExactIsGreen.Pure : Prop := ∀ (l0 : List (S43)), (l0.length ≤ maxLen ∧ ∀ y0 ∈ l0, ((Lit.int .i64 y0.f0).wf = true ∧ (Lit.int .i64 y0.f1).wf = true)) → ∃ k, laws_FnExactIsGreen.f k l0 = some true
namespace LFnExactIsGreen
/-! ### small words -/
theorem wsucc (i : Nat) (h : i < 2 ^ 62) : wrap64 ((i : Int) + 1) = ((i + 1 : Nat) : Int) := by unfold wrap64; omega

/-! ### lists of twigs: their size, a copy, the same -/
theorem rdL (xs : List S43) (i : Nat) (h : i < xs.length) : rd_T43 xs (i : Int) = xs[i] := by
  simp [rd_T43, List.getD_eq_getElem?_getD, List.getElem?_eq_getElem h]
theorem rdI (xs : List S41) (i : Nat) (h : i < xs.length) : rd_T41 xs (i : Int) = xs[i] := by
  simp [rd_T41, List.getD_eq_getElem?_getD, List.getElem?_eq_getElem h]
theorem szTwigS (l : List S43) (h : l.length ≤ maxLen) : laws_szTwigS.f l 1048576 = some (if l.length > 1048576 then -1 else 1048576 - (l.length : Int)) := by
  unfold maxLen at h
  have hw : wrap64 (1048576 - (l.length : Int)) = 1048576 - (l.length : Int) := by unfold wrap64; omega
  unfold laws_szTwigS.f
  rw [hw]
  clear hw
  by_cases g : l.length > 1048576
  · rw [if_pos (by omega), if_pos g]
  · rw [if_neg (by omega), if_neg g]
/-- A twig of the program for a twig of the law. -/
def conv (p : S43) : S41 := ⟨p.f0, p.f1⟩
theorem toTwigS_l (l : List S43) (hl : l.length ≤ 1048576) : ∀ (d i : Nat) (ys : List S41), i + d = l.length → ys.length = l.length → (∀ j, j < i → ys[j]? = (l.map conv)[j]?) →
    Ev (fun k => laws_toTwigS.l0 k l ys (i : Int)) (l.map conv) := by
  intro d
  induction d with
  | zero =>
    intro i ys hi hy hj
    have c : ¬ (i : Int) < (l.length : Int) := by omega
    have : ys = l.map conv := by
      apply List.ext_getElem?
      intro j
      by_cases g : j < i
      · exact hj j g
      · rw [List.getElem?_eq_none (by omega), List.getElem?_eq_none (by rw [List.length_map]; omega)]
    subst this
    refine Ev.step (fun k => ?_) (Ev.now _)
    simp only [laws_toTwigS.l0, if_neg c]
  | succ d ih =>
    intro i ys hi hy hj
    have g1 : (i : Int) < (l.length : Int) := by omega
    have g1' : (i : Int) < (ys.length : Int) := by omega
    have g2 : (0 : Int) ≤ (i : Int) := Int.natCast_nonneg _
    have hil : i < l.length := by omega
    have hw : wrap64 ((i : Int) + 1) = ((i + 1 : Nat) : Int) := wsucc i (by omega)
    refine Ev.step (fun k => ?_) (ih (i + 1) (ys.set i (conv l[i])) (by clear hw; omega) (by rw [List.length_set]; exact hy) (fun j hjl => ?_))
    · simp only [laws_toTwigS.l0, if_pos g1, if_pos g2, rdL l i hil, laws_toTwig.f, Option.bind_some, if_pos g1', Int.toNat_natCast, hw]
      rfl
    · rw [List.getElem?_set]
      by_cases e : i = j
      · subst e
        rw [if_pos rfl, if_pos (by clear hw; omega), List.getElem?_map, List.getElem?_eq_getElem hil]
        rfl
      · rw [if_neg e]
        exact hj j (by clear hw; omega)
theorem toTwigS_ev (l : List S43) (hl : l.length ≤ 1048576) : Ev (fun k => laws_toTwigS.f k l) (l.map conv) := by
  unfold laws_toTwigS.f
  simp only [if_pos (Int.natCast_nonneg l.length), Int.toNat_natCast, show l.length ≤ 17592186044416 from by omega, if_true]
  exact toTwigS_l l hl l.length 0 _ (by omega) (by simp) (fun j hj => by omega)
theorem eqTwigS_l (l : List S41) (hl : l.length ≤ 1048576) : ∀ (d i : Nat), i + d = l.length → Ev (fun k => laws_eqTwigS.l0 k l l (i : Int)) true := by
  intro d
  induction d with
  | zero =>
    intro i hi
    have c : ¬ (i : Int) < (l.length : Int) := by omega
    refine Ev.step (fun k => ?_) (Ev.now _)
    simp only [laws_eqTwigS.l0, if_neg c]
  | succ d ih =>
    intro i hi
    have g1 : (i : Int) < (l.length : Int) := by omega
    have g2 : (0 : Int) ≤ (i : Int) := Int.natCast_nonneg _
    have hw : wrap64 ((i : Int) + 1) = ((i + 1 : Nat) : Int) := wsucc i (by omega)
    refine Ev.step (fun k => ?_) (ih (i + 1) (by clear hw; omega))
    simp only [laws_eqTwigS.l0, if_pos g1, if_pos g2, laws_eqTwig.f, if_true, Option.bind_some, hw]
theorem eqTwigS_ev (l : List S41) (hl : l.length ≤ 1048576) : Ev (fun k => laws_eqTwigS.f k l l) true := by
  unfold laws_eqTwigS.f
  simp only [if_true]
  exact eqTwigS_l l hl l.length 0 (by omega)

/-! ### what is a green picture, on both sides -/
theorem in_some (e a b : Int) : spec_l1In.f e a b = some (decide (a ≤ e ∧ e ≤ b)) := by
  unfold spec_l1In.f
  by_cases h : e ≥ a
  · rw [if_pos h]; congr 1; simp; omega
  · rw [if_neg h]; congr 1; simp; omega
theorem twig_some (x : S41) : spec_grTwig.f x.f0 x.f1 = some (!impl_IsGreen.bad x) := by
  unfold spec_grTwig.f impl_IsGreen.bad impl_IsGreen.inK
  simp only [in_some, Option.bind_some]
  by_cases h1 : 0 ≤ x.f0 ∧ x.f0 ≤ 12 <;> by_cases h2 : 0 ≤ x.f1 ∧ x.f1 ≤ 12 <;> simp [h1, h2]
/-- What is a green picture. -/
def good (l : List S41) : Bool := decide (l.length ≤ 14) && !l.any impl_IsGreen.bad
theorem good_l (l : List S41) (hl : l.length ≤ 1048576) : ∀ (d i : Nat), i + d = l.length → Ev (fun k => spec_grGood.l0 k l l (l.length : Int) (i : Int)) (decide (l.length ≤ 14) && !(l.drop i).any impl_IsGreen.bad) := by
  intro d
  induction d with
  | zero =>
    intro i hi
    have c : ¬ (i : Int) < (l.length : Int) := by omega
    rw [List.drop_eq_nil_of_le (by omega)]
    refine Ev.step (fun k => ?_) (Ev.now _)
    have : decide ((l.length : Int) ≤ 14) = decide (l.length ≤ 14) := by
      by_cases h : l.length ≤ 14
      · rw [decide_eq_true h, decide_eq_true (by omega)]
      · rw [decide_eq_false h, decide_eq_false (by omega)]
    simp only [spec_grGood.l0, if_neg c, this, List.any_nil, Bool.not_false, Bool.and_true]
  | succ d ih =>
    intro i hi
    have g1 : (i : Int) < (l.length : Int) := by omega
    have g2 : (0 : Int) ≤ (i : Int) := Int.natCast_nonneg _
    have hil : i < l.length := by omega
    rw [List.drop_eq_getElem_cons hil, List.any_cons]
    cases hb : impl_IsGreen.bad l[i] with
    | true =>
      refine Ev.step (fun k => ?_) (Ev.now _)
      simp only [spec_grGood.l0, if_pos g1, if_pos g2, rdI l i hil, twig_some, hb, Option.bind_some, Bool.not_true, Bool.false_eq_true, if_false, Bool.true_or, Bool.and_false]
    | false =>
      have hw : wrap64 ((i : Int) + 1) = ((i + 1 : Nat) : Int) := wsucc i (by omega)
      rw [Bool.false_or]
      refine Ev.step (fun k => ?_) (ih (i + 1) (by clear hw; omega))
      simp only [spec_grGood.l0, if_pos g1, if_pos g2, rdI l i hil, twig_some, hb, Option.bind_some, Bool.not_false, if_true, hw]
theorem good_ev (l : List S41) (hl : l.length ≤ 1048576) : Ev (fun k => spec_grGood.f k l) (good l) := by
  have := good_l l hl l.length 0 (by omega)
  rwa [List.drop_zero] at this
theorem isGreen_ev (l : List S41) : Ev (fun k => impl_IsGreen.f k l) (good l) := Ev.now _

theorem proved : laws_FnExactIsGreen.Pure := by
  intro l h
  refine Ev.rounds ?_
  unfold laws_FnExactIsGreen.f
  simp only [szTwigS l h.1, Option.bind_some]
  by_cases hb : l.length > 1048576
  · simp only [if_pos hb]
    exact Ev.now _
  · have hl : l.length ≤ 1048576 := by omega
    have hl' : (l.map conv).length ≤ 1048576 := by rw [List.length_map]; exact hl
    have c : ¬ (1048576 - (l.length : Int)) < 0 := by omega
    simp only [if_neg hb, if_neg c]
    have ht := toTwigS_ev l hl
    refine Ev.bind ht (Ev.bind (a := good (l.map conv)) (by unfold spec_IsGreen.f; exact Ev.bind (good_ev _ hl') (Ev.now _)) (Ev.bind ht (Ev.bind (isGreen_ev _) ?_)))
    simp only [bne_self_eq_false, Bool.false_eq_true, if_false]
    refine Ev.bind ht (Ev.bind (eqTwigS_ev _ hl') ?_)
    exact Ev.now _

end LFnExactIsGreen
theorem FnExactIsGreen : laws_FnExactIsGreen.Pure := LFnExactIsGreen.proved
end Go.Proofs.Ytoiobcdaomfepaa.Pure
