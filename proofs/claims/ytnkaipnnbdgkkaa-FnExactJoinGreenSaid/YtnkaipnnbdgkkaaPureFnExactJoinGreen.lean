/- For any two lists of twigs, what the program joins is what the reference joins; it is new memory, and the lists are left as they were. -/
import Derived.Test.YtnkaipnnbdgkkaaQFnExactJoinGreenx4
namespace Go.Proofs.Ytnkaipnnbdgkkaa.Pure
open Go.RowKit Go.Proofs.Ytnkaipnnbdgkkaa.QFnExactJoinGreen Go.Proofs.YtnkaipnnbdgkkaaW.PrintWords Go.Proofs.YtnkaipnnbdgkkaaW.PrintLast
set_option linter.unusedVariables false
set_option linter.unusedSimpArgs false
def laws_FnExactJoinGreen.Pure : Prop := ∀ (l0 : List (S40)) (l1 : List (S40)), (l0.length ≤ maxLen ∧ ∀ y0 ∈ l0, ((Lit.int .i64 y0.f0).wf = true ∧ (Lit.int .i64 y0.f1).wf = true)) → (l1.length ≤ maxLen ∧ ∀ y0 ∈ l1, ((Lit.int .i64 y0.f0).wf = true ∧ (Lit.int .i64 y0.f1).wf = true)) → ∃ k, laws_FnExactJoinGreen.f k l0 l1 = some true
namespace LFnExactJoinGreen
/-! ### small words -/
theorem wsucc (i : Nat) (h : i < 2 ^ 62) : wrap64 ((i : Int) + 1) = ((i + 1 : Nat) : Int) := by unfold wrap64; omega

/-! ### lists of twigs: their size, a copy, the same -/
theorem rdL (xs : List S40) (i : Nat) (h : i < xs.length) : rd_T40 xs (i : Int) = xs[i] := by
  simp [rd_T40, List.getD_eq_getElem?_getD, List.getElem?_eq_getElem h]
theorem rdI (xs : List S36) (i : Nat) (h : i < xs.length) : rd_T36 xs (i : Int) = xs[i] := by
  simp [rd_T36, List.getD_eq_getElem?_getD, List.getElem?_eq_getElem h]
theorem szTwigS (l : List S40) (h : l.length ≤ maxLen) : laws_szTwigS.f l 1048576 = some (if l.length > 1048576 then -1 else 1048576 - (l.length : Int)) := by
  unfold maxLen at h
  have hw : wrap64 (1048576 - (l.length : Int)) = 1048576 - (l.length : Int) := by unfold wrap64; omega
  unfold laws_szTwigS.f
  rw [hw]
  clear hw
  by_cases g : l.length > 1048576
  · rw [if_pos (by omega), if_pos g]
  · rw [if_neg (by omega), if_neg g]
/-- A twig of the program for a twig of the law. -/
def conv (p : S40) : S36 := ⟨p.f0, p.f1⟩
theorem toTwigS_l (l : List S40) (hl : l.length ≤ 1048576) : ∀ (d i : Nat) (ys : List S36), i + d = l.length → ys.length = l.length → (∀ j, j < i → ys[j]? = (l.map conv)[j]?) →
    Ev (fun k => laws_toTwigS.l0 k l ys (i : Int)) (l.map conv) := by
  intro d
  induction d with
  | zero =>
    intro i ys hi hy hj
    have c : ¬ (i : Int) < (l.length : Int) := by omega
    have : ys = l.map conv := by
      apply List.ext_getElem?
      intro j
      by_cases g : j < i
      · exact hj j g
      · rw [List.getElem?_eq_none (by omega), List.getElem?_eq_none (by rw [List.length_map]; omega)]
    subst this
    refine Ev.step (fun k => ?_) (Ev.now _)
    simp only [laws_toTwigS.l0, if_neg c]
  | succ d ih =>
    intro i ys hi hy hj
    have g1 : (i : Int) < (l.length : Int) := by omega
    have g1' : (i : Int) < (ys.length : Int) := by omega
    have g2 : (0 : Int) ≤ (i : Int) := Int.natCast_nonneg _
    have hil : i < l.length := by omega
    have hw : wrap64 ((i : Int) + 1) = ((i + 1 : Nat) : Int) := wsucc i (by omega)
    refine Ev.step (fun k => ?_) (ih (i + 1) (ys.set i (conv l[i])) (by clear hw; omega) (by rw [List.length_set]; exact hy) (fun j hjl => ?_))
    · simp only [laws_toTwigS.l0, if_pos g1, if_pos g2, rdL l i hil, laws_toTwig.f, Option.bind_some, if_pos g1', Int.toNat_natCast, hw]
      rfl
    · rw [List.getElem?_set]
      by_cases e : i = j
      · subst e
        rw [if_pos rfl, if_pos (by clear hw; omega), List.getElem?_map, List.getElem?_eq_getElem hil]
        rfl
      · rw [if_neg e]
        exact hj j (by clear hw; omega)
theorem toTwigS_ev (l : List S40) (hl : l.length ≤ 1048576) : Ev (fun k => laws_toTwigS.f k l) (l.map conv) := by
  unfold laws_toTwigS.f
  simp only [if_pos (Int.natCast_nonneg l.length), Int.toNat_natCast, show l.length ≤ 17592186044416 from by omega, if_true]
  exact toTwigS_l l hl l.length 0 _ (by omega) (by simp) (fun j hj => by omega)
theorem eqTwigS_l (l : List S36) (hl : l.length ≤ 1048576) : ∀ (d i : Nat), i + d = l.length → Ev (fun k => laws_eqTwigS.l0 k l l (i : Int)) true := by
  intro d
  induction d with
  | zero =>
    intro i hi
    have c : ¬ (i : Int) < (l.length : Int) := by omega
    refine Ev.step (fun k => ?_) (Ev.now _)
    simp only [laws_eqTwigS.l0, if_neg c]
  | succ d ih =>
    intro i hi
    have g1 : (i : Int) < (l.length : Int) := by omega
    have g2 : (0 : Int) ≤ (i : Int) := Int.natCast_nonneg _
    have hw : wrap64 ((i : Int) + 1) = ((i + 1 : Nat) : Int) := wsucc i (by omega)
    refine Ev.step (fun k => ?_) (ih (i + 1) (by clear hw; omega))
    simp only [laws_eqTwigS.l0, if_pos g1, if_pos g2, laws_eqTwig.f, if_true, Option.bind_some, hw]
theorem eqTwigS_ev (l : List S36) (hl : l.length ≤ 1048576) : Ev (fun k => laws_eqTwigS.f k l l) true := by
  unfold laws_eqTwigS.f
  simp only [if_true]
  exact eqTwigS_l l hl l.length 0 (by omega)

/-! ### what is a green picture, on both sides -/
theorem in_some (e a b : Int) : spec_l1In.f e a b = some (decide (a ≤ e ∧ e ≤ b)) := by
  unfold spec_l1In.f
  by_cases h : e ≥ a
  · rw [if_pos h]; congr 1; simp; omega
  · rw [if_neg h]; congr 1; simp; omega
theorem twig_some (x : S36) : spec_grTwig.f x.f0 x.f1 = some (!impl_IsGreen.bad x) := by
  unfold spec_grTwig.f impl_IsGreen.bad impl_IsGreen.inK
  simp only [in_some, Option.bind_some]
  by_cases h1 : 0 ≤ x.f0 ∧ x.f0 ≤ 12 <;> by_cases h2 : 0 ≤ x.f1 ∧ x.f1 ≤ 12 <;> simp [h1, h2]
/-- What is a green picture. -/
def good (l : List S36) : Bool := decide (l.length ≤ 14) && !l.any impl_IsGreen.bad
theorem good_l (l : List S36) (hl : l.length ≤ 1048576) : ∀ (d i : Nat), i + d = l.length → Ev (fun k => spec_grGood.l0 k l l (l.length : Int) (i : Int)) (decide (l.length ≤ 14) && !(l.drop i).any impl_IsGreen.bad) := by
  intro d
  induction d with
  | zero =>
    intro i hi
    have c : ¬ (i : Int) < (l.length : Int) := by omega
    rw [List.drop_eq_nil_of_le (by omega)]
    refine Ev.step (fun k => ?_) (Ev.now _)
    have : decide ((l.length : Int) ≤ 14) = decide (l.length ≤ 14) := by
      by_cases h : l.length ≤ 14
      · rw [decide_eq_true h, decide_eq_true (by omega)]
      · rw [decide_eq_false h, decide_eq_false (by omega)]
    simp only [spec_grGood.l0, if_neg c, this, List.any_nil, Bool.not_false, Bool.and_true]
  | succ d ih =>
    intro i hi
    have g1 : (i : Int) < (l.length : Int) := by omega
    have g2 : (0 : Int) ≤ (i : Int) := Int.natCast_nonneg _
    have hil : i < l.length := by omega
    rw [List.drop_eq_getElem_cons hil, List.any_cons]
    cases hb : impl_IsGreen.bad l[i] with
    | true =>
      refine Ev.step (fun k => ?_) (Ev.now _)
      simp only [spec_grGood.l0, if_pos g1, if_pos g2, rdI l i hil, twig_some, hb, Option.bind_some, Bool.not_true, Bool.false_eq_true, if_false, Bool.true_or, Bool.and_false]
    | false =>
      have hw : wrap64 ((i : Int) + 1) = ((i + 1 : Nat) : Int) := wsucc i (by omega)
      rw [Bool.false_or]
      refine Ev.step (fun k => ?_) (ih (i + 1) (by clear hw; omega))
      simp only [spec_grGood.l0, if_pos g1, if_pos g2, rdI l i hil, twig_some, hb, Option.bind_some, Bool.not_false, if_true, hw]
theorem good_ev (l : List S36) (hl : l.length ≤ 1048576) : Ev (fun k => spec_grGood.f k l) (good l) := by
  have := good_l l hl l.length 0 (by omega)
  rwa [List.drop_zero] at this
theorem isGreen_ev (l : List S36) : Ev (fun k => impl_IsGreen.f k l) (good l) := Ev.now _

/-! ### marks in a list of twigs, and marks that are held -/
theorem rd_set (xs : List S36) (i : Nat) (a : S36) (h : i < xs.length) : rd_T36 (xs.set i a) (i : Int) = a := by
  simp [rd_T36, List.getD_eq_getElem?_getD, List.getElem?_set_self h]
theorem markTwigS_l : ∀ (d i m : Nat) (xs : List S36), i + d = xs.length → m + 2 * d < 2 ^ 61 → xs.length < 2 ^ 61 →
    ∃ ys : List S36, Ev (fun k => laws_markTwigS.l0 k xs (m : Int) (i : Int)) (((m + 2 * d : Nat) : Int), ys) ∧ ys.length = xs.length ∧ (∀ j, j < i → ys[j]? = xs[j]?) ∧
      Ev (fun k => laws_heldTwigS.l0 k ys (m : Int) (i : Int)) ((m + 2 * d : Nat) : Int) := by
  intro d
  induction d with
  | zero =>
    intro i m xs hi hm hx
    have c : ¬ (i : Int) < (xs.length : Int) := by omega
    refine ⟨xs, Ev.step (fun k => ?_) (Ev.now _), rfl, fun _ _ => rfl, Ev.step (fun k => ?_) (Ev.now _)⟩
    · simp only [laws_markTwigS.l0, if_neg c, Nat.mul_zero, Nat.add_zero]
    · simp only [laws_heldTwigS.l0, if_neg c, Nat.mul_zero, Nat.add_zero]
  | succ d ih =>
    intro i m xs hi hm hx
    obtain ⟨ys, h1, h2, h3, h4⟩ := ih (i + 1) (m + 2) (xs.set i ⟨(m : Int), ((m + 1 : Nat) : Int)⟩) (by rw [List.length_set]; omega) (by omega) (by rw [List.length_set]; omega)
    rw [List.length_set] at h2
    have e : m + 2 + 2 * d = m + 2 * (d + 1) := by omega
    rw [e] at h1 h4
    have g1 : (i : Int) < (xs.length : Int) := by omega
    have g1' : (i : Int) < (ys.length : Int) := by omega
    have g2 : (0 : Int) ≤ (i : Int) := Int.natCast_nonneg _
    have hil : i < xs.length := by omega
    have g3 : rd_T36 ys (i : Int) = ⟨(m : Int), ((m + 1 : Nat) : Int)⟩ := by
      have := h3 i (by omega)
      rw [List.getElem?_set_self (by omega)] at this
      simp [rd_T36, List.getD_eq_getElem?_getD, this]
    refine ⟨ys, Ev.step (fun k => ?_) h1, h2, fun j hj => ?_, Ev.step (fun k => ?_) h4⟩
    · have w1 : wrap64 ((i : Int) + 1) = ((i + 1 : Nat) : Int) := wsucc i (by omega)
      have w2 : wrap64 ((m : Int) + 1) = ((m + 1 : Nat) : Int) := wsucc m (by clear w1; omega)
      have w3 : wrap64 (((m + 1 : Nat) : Int) + 1) = ((m + 2 : Nat) : Int) := wsucc (m + 1) (by clear w1 w2; omega)
      simp only [laws_markTwigS.l0, if_pos g1, if_pos g2, Option.bind_some, Int.toNat_natCast, rd_set xs i _ hil, List.set_set, w1, w2, w3]
    · have := h3 j (by omega)
      rwa [List.getElem?_set_ne (by omega)] at this
    · have w1 : wrap64 ((i : Int) + 1) = ((i + 1 : Nat) : Int) := wsucc i (by omega)
      have w2 : wrap64 ((m : Int) + 1) = ((m + 1 : Nat) : Int) := wsucc m (by clear w1; omega)
      have w3 : wrap64 (((m + 1 : Nat) : Int) + 1) = ((m + 2 : Nat) : Int) := wsucc (m + 1) (by clear w1 w2; omega)
      simp only [laws_heldTwigS.l0, if_pos g1', if_pos g2, g3, if_true, w1, w2, w3]
theorem markTwigS_ev (xs : List S36) (m : Nat) (h : xs.length ≤ 1048576) (hm : m ≤ 1048576) : ∃ ys : List S36, Ev (fun k => laws_markTwigS.f k xs (m : Int)) (((m + 2 * xs.length : Nat) : Int), ys) ∧ ys.length = xs.length ∧
    Ev (fun k => laws_heldTwigS.f k ys (m : Int)) ((m + 2 * xs.length : Nat) : Int) := by
  obtain ⟨ys, h1, h2, _, h4⟩ := markTwigS_l xs.length 0 m xs (by omega) (by omega) (by omega)
  exact ⟨ys, h1, h2, h4⟩

theorem most_some (a b : Int) : spec_l1Most.f a b = some (max a b) := by
  unfold spec_l1Most.f
  by_cases h : a > b
  · rw [if_pos h]; congr 1; omega
  · rw [if_neg h]; congr 1; omega
theorem moved_some (a b : Int) : spec_grMoved.f a b = some (impl_JoinGreen.put b a) := by
  unfold spec_grMoved.f impl_JoinGreen.put
  by_cases h : a = 0
  · rw [if_pos h, if_pos h]
  · rw [if_neg h, if_neg h]
theorem top_l (l : List S36) (hl : l.length ≤ 1048576) : ∀ (d i : Nat), i + d = l.length → Ev (fun k => spec_grTop.l0 k (impl_JoinGreen.top (l.take i)) l (l.length : Int) (i : Int)) (impl_JoinGreen.top l) := by
  intro d
  induction d with
  | zero =>
    intro i hi
    obtain rfl : i = l.length := by omega
    have c : ¬ (l.length : Int) < (l.length : Int) := by omega
    rw [List.take_length]
    refine Ev.step (fun k => ?_) (Ev.now _)
    simp only [spec_grTop.l0, if_neg c]
  | succ d ih =>
    intro i hi
    have hil : i < l.length := by omega
    have c1 : (i : Int) < (l.length : Int) := by omega
    have c2 : (0 : Int) ≤ (i : Int) := Int.natCast_nonneg _
    have hw := wsucc i (by omega)
    have hn := ih (i + 1) (by clear hw; omega)
    have e : impl_JoinGreen.top (l.take (i + 1)) = max (impl_JoinGreen.top (l.take i)) (max l[i].f0 l[i].f1) := by
      unfold impl_JoinGreen.top
      rw [List.take_succ_eq_append_getElem hil, List.foldl_append]
      show max (max _ _) _ = _
      clear hw
      omega
    rw [e] at hn
    refine Ev.step (fun k => ?_) hn
    simp only [spec_grTop.l0, if_pos c1, if_pos c2, rdI l i hil, most_some, Option.bind_some, hw]
theorem top_ev (l : List S36) (hl : l.length ≤ 1048576) : Ev (fun k => spec_grTop.f k l) (impl_JoinGreen.top l) := top_l l hl l.length 0 (by omega)
theorem join_l (l0 l1 : List S36) (h0 : l0.length ≤ 14) (h1 : l1.length ≤ 14) : ∀ (d i : Nat), i + d = l1.length →
    Ev (fun k => spec_JoinGreen.l0 k l0 (l0 ++ (l1.take i).map (impl_JoinGreen.mv (impl_JoinGreen.top l0))) l1 (l1.length : Int) (i : Int)) (if good (impl_JoinGreen.out l0 l1) = true then (impl_JoinGreen.out l0 l1, true) else ([], false)) := by
  intro d
  induction d with
  | zero =>
    intro i hi
    obtain rfl : i = l1.length := by omega
    have c : ¬ (l1.length : Int) < (l1.length : Int) := by omega
    rw [List.take_length]
    have hg := good_ev (impl_JoinGreen.out l0 l1) (by unfold impl_JoinGreen.out; rw [List.length_append, List.length_map]; omega)
    refine Ev.step (f := ?gga1) (fun k => ?ggb1) ?ggc1
    case ggb1 => conv => lhs; simp only [spec_JoinGreen.l0, if_neg c]
    case ggc1 =>
      refine Ev.bind hg ?_
      cases good (impl_JoinGreen.out l0 l1) with
      | true => exact Ev.now _
      | false => exact Ev.now _
  | succ d ih =>
    intro i hi
    have hil : i < l1.length := by omega
    have c1 : (i : Int) < (l1.length : Int) := by omega
    have c2 : (0 : Int) ≤ (i : Int) := Int.natCast_nonneg _
    have hw := wsucc i (by omega)
    have hn := ih (i + 1) (by clear hw; omega)
    have ht := top_ev l0 (by clear hw; omega)
    have c3 : (l0 ++ (l1.take i).map (impl_JoinGreen.mv (impl_JoinGreen.top l0))).length < 8796093022208 := by
      rw [List.length_append, List.length_map, List.length_take]
      clear hw
      omega
    rw [List.take_succ_eq_append_getElem hil, List.map_append, ← List.append_assoc] at hn
    refine Ev.step (f := ?gga2) (fun k => ?ggb2) ?ggc2
    case ggb2 => conv => lhs; simp only [spec_JoinGreen.l0, if_pos c1, if_pos c2, rdI l1 i hil, moved_some, Option.bind_some, if_pos c3, hw]
    case ggc2 =>
      refine Ev.bind ht ?_
      refine Ev.bind ht ?_
      exact hn
theorem both (l0 l1 : List S36) (h0 : l0.length ≤ 1048576) (h1 : l1.length ≤ 1048576) : ∃ r : List S36 × Bool, Ev (fun k => spec_JoinGreen.f k l0 l1) r ∧ Ev (fun k => impl_JoinGreen.f k l0 l1) r ∧ r.1.length ≤ 1048576 := by
  have g0 := good_ev l0 h0
  have g1 := good_ev l1 h1
  have no1 : Ev (fun k => spec_JoinGreen.j0 k l0 l1 true) ([], false) := Ev.step (fun k => by simp only [spec_JoinGreen.j0, if_true]) (Ev.now _)
  unfold spec_JoinGreen.f
  have e0 : impl_JoinGreen.gd l0 = good l0 := rfl
  have e1 : impl_JoinGreen.gd l1 = good l1 := rfl
  have e2 : impl_JoinGreen.gd (impl_JoinGreen.out l0 l1) = good (impl_JoinGreen.out l0 l1) := rfl
  cases hg0 : good l0 with
  | false =>
    rw [hg0] at g0
    refine ⟨([], false), Ev.bind g0 no1, ?_, by simp⟩
    unfold impl_JoinGreen.f
    rw [e0, hg0, if_neg (by simp)]
    exact Ev.now _
  | true =>
    rw [hg0] at g0
    cases hg1 : good l1 with
    | false =>
      rw [hg1] at g1
      refine ⟨([], false), Ev.bind g0 ?_, ?_, by simp⟩
      · simp only [if_true]
        exact Ev.bind g1 no1
      · unfold impl_JoinGreen.f
        rw [e1, hg1, if_neg (by simp)]
        exact Ev.now _
    | true =>
      rw [hg1] at g1
      have q0 : l0.length ≤ 14 := by
        unfold good at hg0
        simp only [Bool.and_eq_true, decide_eq_true_eq] at hg0
        exact hg0.1
      have q1 : l1.length ≤ 14 := by
        unfold good at hg1
        simp only [Bool.and_eq_true, decide_eq_true_eq] at hg1
        exact hg1.1
      have hj := join_l l0 l1 q0 q1 l1.length 0 (by omega)
      have hol : (impl_JoinGreen.out l0 l1).length ≤ 28 := by unfold impl_JoinGreen.out; rw [List.length_append, List.length_map]; omega
      refine ⟨if good (impl_JoinGreen.out l0 l1) = true then (impl_JoinGreen.out l0 l1, true) else ([], false), Ev.bind g0 ?_, ?_, ?_⟩
      · simp only [if_true]
        refine Ev.bind g1 (Ev.step (fun k => ?_) hj)
        have c3 : ([] : List S36).length + l0.length < 8796093022208 := by simp only [List.length_nil]; omega
        simp only [spec_JoinGreen.j0, Bool.not_true, Bool.false_eq_true, if_false, Option.bind_some, if_pos c3, List.nil_append, List.take_zero, List.map_nil, List.append_nil]
        rfl
      · unfold impl_JoinGreen.f
        rw [e0, e1, e2, hg0, hg1]
        cases good (impl_JoinGreen.out l0 l1) with
        | true => exact Ev.now _
        | false => exact Ev.now _
      · cases good (impl_JoinGreen.out l0 l1) with
        | true => show (impl_JoinGreen.out l0 l1).length ≤ _; omega
        | false => simp
theorem j2_ev (ys : List S36) (m : Nat) (hh : Ev (fun k => laws_heldTwigS.f k ys 1) (m : Int)) : Ev (fun k => laws_FnExactJoinGreen.j2 k ys (m : Int) false) true := by
  refine Ev.step (f := ?fu1) (fun k => ?eu1) ?vu1
  case eu1 => conv => lhs; simp only [laws_FnExactJoinGreen.j2, Bool.false_eq_true, if_false]
  case vu1 =>
    refine Ev.bind hh ?_
    simp only [show ¬ ((m : Int) < 0) from by omega, if_false, if_true]
    exact Ev.now _
theorem j1_ev (l l' : List S40) (R : List S36) (b : Bool) (hl : l.length ≤ 1048576) (hl' : l'.length ≤ 1048576) (hR : R.length ≤ 1048576) (hi : Ev (fun k => impl_JoinGreen.f k (l.map conv) (l'.map conv)) (R, b)) : Ev (fun k => laws_FnExactJoinGreen.j1 k l l' R b R false) true := by
  obtain ⟨ys, m1, m2, m3⟩ := markTwigS_ev R 1 hR (by decide)
  refine Ev.step (f := ?fu2) (fun k => ?eu2) ?vu2
  case eu2 => conv => lhs; simp only [laws_FnExactJoinGreen.j1, Bool.false_eq_true, if_false]
  case vu2 =>
    refine Ev.bind m1 (Ev.bind m3 ?_)
    simp only [show ¬ (((1 + 2 * R.length : Nat) : Int) < 0) from by omega, if_false, if_true]
    refine Ev.bind (toTwigS_ev l hl) (Ev.bind (toTwigS_ev l' hl') (Ev.bind hi (Ev.bind (eqTwigS_ev R hR) ?_)))
    simp only [if_true, bne_self_eq_false]
    exact j2_ev ys _ m3
theorem j0_ev (l l' : List S40) (R : List S36) (b : Bool) (hl : l.length ≤ 1048576) (hl' : l'.length ≤ 1048576) (hR : R.length ≤ 1048576) (hi : Ev (fun k => impl_JoinGreen.f k (l.map conv) (l'.map conv)) (R, b)) : Ev (fun k => laws_FnExactJoinGreen.j0 k l l' R b (l.map conv) (l'.map conv) R b false) true := by
  have hc : (l.map conv).length ≤ 1048576 := by rw [List.length_map]; exact hl
  have hc' : (l'.map conv).length ≤ 1048576 := by rw [List.length_map]; exact hl'
  obtain ⟨ys, m1, m2, m3⟩ := markTwigS_ev (l.map conv) 1 hc (by decide)
  obtain ⟨ys', p1, p2, _, p3⟩ := markTwigS_l (l'.map conv).length 0 (1 + 2 * (l.map conv).length) (l'.map conv) (by omega) (by omega) (by omega)
  refine Ev.step (f := ?fu3) (fun k => ?eu3) ?vu3
  case eu3 => conv => lhs; simp only [laws_FnExactJoinGreen.j0, Bool.false_eq_true, if_false]
  case vu3 =>
    refine Ev.bind (toTwigS_ev l hl) (Ev.bind (eqTwigS_ev _ hc) ?_)
    simp only [if_true]
    refine Ev.bind (toTwigS_ev l' hl') (Ev.bind (eqTwigS_ev _ hc') ?_)
    simp only [if_true]
    refine Ev.bind m1 ?_
    refine Ev.bind (show Ev (fun k => laws_markTwigS.f k (l'.map conv) ((1 + 2 * (l.map conv).length : Nat) : Int)) _ from p1) ?_
    simp only [show ¬ (((1 + 2 * (l.map conv).length + 2 * (l'.map conv).length : Nat) : Int) < 0) from by omega, if_false]
    refine Ev.bind (eqTwigS_ev R hR) ?_
    simp only [if_true, bne_self_eq_false]
    exact j1_ev l l' R b hl hl' hR hi
theorem proved : laws_FnExactJoinGreen.Pure := by
  intro l l' hm hm'
  refine Ev.rounds ?_
  unfold laws_FnExactJoinGreen.f
  simp only [szTwigS l hm.1, Option.bind_some]
  by_cases hb : l.length > 1048576
  · simp only [if_pos hb]
    exact Ev.now _
  · have hl : l.length ≤ 1048576 := by omega
    have c : ¬ (1048576 - (l.length : Int)) < 0 := by omega
    simp only [if_neg hb, if_neg c]
    have hw : wrap64 (1048576 - (l.length : Int) - (l'.length : Int)) = 1048576 - (l.length : Int) - (l'.length : Int) := by
      have := hm'.1
      unfold maxLen at this
      unfold wrap64
      omega
    have hsz : laws_szTwigS.f l' (1048576 - (l.length : Int)) = some (if 1048576 - (l.length : Int) - (l'.length : Int) < 0 then -1 else 1048576 - (l.length : Int) - (l'.length : Int)) := by
      unfold laws_szTwigS.f
      rw [hw]
      by_cases g : 1048576 - (l.length : Int) - (l'.length : Int) < 0
      · rw [if_pos g, if_pos g]
      · rw [if_neg g, if_neg g]
    rw [hsz]
    simp only [Option.bind_some]
    clear hw hsz
    by_cases hb' : 1048576 - (l.length : Int) - (l'.length : Int) < 0
    · simp only [if_pos hb', show ((-1 : Int) < 0) from by decide, if_true]
      exact Ev.now _
    · have hl' : l'.length ≤ 1048576 := by omega
      simp only [if_neg hb']
      obtain ⟨⟨R, b⟩, s1, s2, s3⟩ := both (l.map conv) (l'.map conv) (by rw [List.length_map]; exact hl) (by rw [List.length_map]; exact hl')
      have ht := toTwigS_ev l hl
      have ht' := toTwigS_ev l' hl'
      refine Ev.bind ht (Ev.bind ht' (Ev.bind s1 (Ev.bind ht (Ev.bind ht' (Ev.bind s2 (Ev.bind (eqTwigS_ev R s3) ?_))))))
      simp only [if_true, bne_self_eq_false]
      exact j0_ev l l' R b hl hl' s3 s2

end LFnExactJoinGreen
theorem FnExactJoinGreen : laws_FnExactJoinGreen.Pure := LFnExactJoinGreen.proved
end Go.Proofs.Ytnkaipnnbdgkkaa.Pure
