/- For any string, the program's stalk is the reference's; it is new memory. -/
import Derived.Test.YtjfhhpkgjdkmdaaDoorQFnExactStalkOfx3
namespace Go.Proofs.YtjfhhpkgjdkmdaaDoor.Pure
open Go.RowKit Go.Proofs.YtjfhhpkgjdkmdaaDoor.QFnExactStalkOf Go.Proofs.YtjfhhpkgjdkmdaaDoorW.PrintWords Go.Proofs.YtjfhhpkgjdkmdaaDoorW.PrintLast
set_option linter.unusedVariables false
set_option linter.unusedSimpArgs false
namespace LFnExactStalkOf
/-! ### small words -/
theorem wsucc (i : Nat) (h : i < 2 ^ 62) : wrap64 ((i : Int) + 1) = ((i + 1 : Nat) : Int) := by unfold wrap64; omega

/-! ### lists of edges: the same -/
theorem rdI (xs : List S56) (i : Nat) (h : i < xs.length) : rd_T56 xs (i : Int) = xs[i] := by
  simp [rd_T56, List.getD_eq_getElem?_getD, List.getElem?_eq_getElem h]
theorem eqEdgeS_l (l : List S56) (hl : l.length ≤ 1048576) : ∀ (d i : Nat), i + d = l.length → Ev (fun k => laws_eqEdgeS.l0 k l l (i : Int)) true := by
  intro d
  induction d with
  | zero =>
    intro i hi
    have c : ¬ (i : Int) < (l.length : Int) := by omega
    refine Ev.step (fun k => ?_) (Ev.now _)
    simp only [laws_eqEdgeS.l0, if_neg c]
  | succ d ih =>
    intro i hi
    have g1 : (i : Int) < (l.length : Int) := by omega
    have g2 : (0 : Int) ≤ (i : Int) := Int.natCast_nonneg _
    have hw : wrap64 ((i : Int) + 1) = ((i + 1 : Nat) : Int) := wsucc i (by omega)
    refine Ev.step (fun k => ?_) (ih (i + 1) (by clear hw; omega))
    simp only [laws_eqEdgeS.l0, if_pos g1, if_pos g2, laws_eqEdge.f, if_true, Option.bind_some, bne_self_eq_false, Bool.false_eq_true, if_false, hw]
theorem eqEdgeS_ev (l : List S56) (hl : l.length ≤ 1048576) : Ev (fun k => laws_eqEdgeS.f k l l) true := by
  unfold laws_eqEdgeS.f
  simp only [if_true]
  exact eqEdgeS_l l hl l.length 0 (by omega)
theorem eqPic_ev (l : List S56) (hl : l.length ≤ 1048576) : Ev (fun k => laws_eqPicture.f k l l) true := by
  unfold laws_eqPicture.f
  refine Ev.bind (eqEdgeS_ev l hl) ?_
  simp only [if_true]
  exact Ev.now _

/-! ### marks in a list of edges, and marks that are held -/
theorem rd_set (xs : List S56) (i : Nat) (a : S56) (h : i < xs.length) : rd_T56 (xs.set i a) (i : Int) = a := by
  simp [rd_T56, List.getD_eq_getElem?_getD, List.getElem?_set_self h]
theorem markEdgeS_l : ∀ (d i m : Nat) (xs : List S56), i + d = xs.length → m + 3 * d < 2 ^ 61 → xs.length < 2 ^ 61 →
    ∃ ys : List S56, Ev (fun k => laws_markEdgeS.l0 k xs (m : Int) (i : Int)) (((m + 3 * d : Nat) : Int), ys) ∧ ys.length = xs.length ∧ (∀ j, j < i → ys[j]? = xs[j]?) ∧
      Ev (fun k => laws_heldEdgeS.l0 k ys (m : Int) (i : Int)) ((m + 3 * d : Nat) : Int) := by
  intro d
  induction d with
  | zero =>
    intro i m xs hi hm hx
    have c : ¬ (i : Int) < (xs.length : Int) := by omega
    refine ⟨xs, Ev.step (fun k => ?_) (Ev.now _), rfl, fun _ _ => rfl, Ev.step (fun k => ?_) (Ev.now _)⟩
    · simp only [laws_markEdgeS.l0, if_neg c, Nat.mul_zero, Nat.add_zero]
    · simp only [laws_heldEdgeS.l0, if_neg c, Nat.mul_zero, Nat.add_zero]
  | succ d ih =>
    intro i m xs hi hm hx
    obtain ⟨ys, h1, h2, h3, h4⟩ := ih (i + 1) (m + 3) (xs.set i ⟨(m : Int), ((m + 1 : Nat) : Int), Int.tmod ((m + 2 : Nat) : Int) 3 == 0⟩) (by rw [List.length_set]; omega) (by omega) (by rw [List.length_set]; omega)
    rw [List.length_set] at h2
    have e : m + 3 + 3 * d = m + 3 * (d + 1) := by omega
    rw [e] at h1 h4
    have g1 : (i : Int) < (xs.length : Int) := by omega
    have g1' : (i : Int) < (ys.length : Int) := by omega
    have g2 : (0 : Int) ≤ (i : Int) := Int.natCast_nonneg _
    have hil : i < xs.length := by omega
    have g3 : rd_T56 ys (i : Int) = ⟨(m : Int), ((m + 1 : Nat) : Int), Int.tmod ((m + 2 : Nat) : Int) 3 == 0⟩ := by
      have := h3 i (by omega)
      rw [List.getElem?_set_self (by omega)] at this
      simp [rd_T56, List.getD_eq_getElem?_getD, this]
    refine ⟨ys, Ev.step (fun k => ?_) h1, h2, fun j hj => ?_, Ev.step (fun k => ?_) h4⟩
    · have w1 : wrap64 ((i : Int) + 1) = ((i + 1 : Nat) : Int) := wsucc i (by omega)
      have w2 : wrap64 ((m : Int) + 1) = ((m + 1 : Nat) : Int) := wsucc m (by clear w1; omega)
      have w3 : wrap64 (((m + 1 : Nat) : Int) + 1) = ((m + 2 : Nat) : Int) := wsucc (m + 1) (by clear w1 w2; omega)
      have w4 : wrap64 (((m + 2 : Nat) : Int) + 1) = ((m + 3 : Nat) : Int) := wsucc (m + 2) (by clear w1 w2 w3; omega)
      simp only [laws_markEdgeS.l0, if_pos g1, if_pos g2, Option.bind_some, Int.toNat_natCast, rd_set xs i _ hil, List.set_set, w1, w2, w3, w4]
    · have := h3 j (by omega)
      rwa [List.getElem?_set_ne (by omega)] at this
    · have w1 : wrap64 ((i : Int) + 1) = ((i + 1 : Nat) : Int) := wsucc i (by omega)
      have w2 : wrap64 ((m : Int) + 1) = ((m + 1 : Nat) : Int) := wsucc m (by clear w1; omega)
      have w3 : wrap64 (((m + 1 : Nat) : Int) + 1) = ((m + 2 : Nat) : Int) := wsucc (m + 1) (by clear w1 w2; omega)
      have w4 : wrap64 (((m + 2 : Nat) : Int) + 1) = ((m + 3 : Nat) : Int) := wsucc (m + 2) (by clear w1 w2 w3; omega)
      simp only [laws_heldEdgeS.l0, if_pos g1', if_pos g2, g3, if_true, bne_self_eq_false, Bool.false_eq_true, if_false, w1, w2, w3, w4]
theorem markEdgeS_ev (xs : List S56) (m : Nat) (h : xs.length ≤ 1048576) (hm : m ≤ 1048576) : ∃ ys : List S56, Ev (fun k => laws_markEdgeS.f k xs (m : Int)) (((m + 3 * xs.length : Nat) : Int), ys) ∧ ys.length = xs.length ∧
    Ev (fun k => laws_heldEdgeS.f k ys (m : Int)) ((m + 3 * xs.length : Nat) : Int) := by
  obtain ⟨ys, h1, h2, _, h4⟩ := markEdgeS_l xs.length 0 m xs (by omega) (by omega) (by omega)
  exact ⟨ys, h1, h2, h4⟩

theorem markPic_ev (xs : List S56) (h : xs.length ≤ 1048576) : ∃ ys : List S56, ∃ m : Nat, Ev (fun k => laws_markPicture.f k xs 1) ((m : Int), ys) ∧ ys.length = xs.length ∧ Ev (fun k => laws_heldEdgeS.f k ys 1) (m : Int) := by
  obtain ⟨ys, h1, h2, h4⟩ := markEdgeS_ev xs 1 h (by decide)
  refine ⟨ys, 1 + 3 * xs.length, ?_, h2, h4⟩
  unfold laws_markPicture.f
  exact Ev.bind h1 (Ev.now _)

theorem heldPic_ev (ys : List S56) (m : Nat) (h : Ev (fun k => laws_heldEdgeS.f k ys 1) (m : Int)) : Ev (fun k => laws_heldPicture.f k ys 1) (m : Int) := by
  unfold laws_heldPicture.f
  refine Ev.bind h ?_
  simp only [show ¬ (m : Int) < 0 from by omega, if_false]
  exact Ev.now _

theorem bt_byte (s : ByteArray) (i : Nat) (h : i < s.size) : ∃ b : UInt8, s.data.toList.drop i = b :: s.data.toList.drop (i + 1) ∧ bt s (i : Int) = (b.toNat : Int) := by
  have hl : i < s.data.toList.length := by rw [Array.length_toList]; exact h
  refine ⟨s.data.toList[i], List.drop_eq_getElem_cons hl, ?_⟩
  unfold bt
  rw [dif_pos (by rw [Int.toNat_natCast]; exact h)]
  rfl
theorem word_l (s : ByteArray) (hs : s.size ≤ 1048576) : ∀ (d i : Nat), i + d = s.size → Ev (fun k => spec_shIsWord.l0 k s (i : Int)) ((s.data.toList.drop i).all sw.isW && decide (s.size ≤ 20)) := by
  intro d
  induction d with
  | zero =>
    intro i hi
    have c : ¬ (i : Int) < (s.size : Int) := by omega
    have e : s.data.toList.drop i = [] := List.drop_eq_nil_of_le (by rw [Array.length_toList]; show s.size ≤ i; omega)
    have e2 : decide ((s.size : Int) ≤ 20) = decide (s.size ≤ 20) := by
      by_cases q : s.size ≤ 20
      · rw [decide_eq_true q, decide_eq_true (by omega)]
      · rw [decide_eq_false q, decide_eq_false (by omega)]
    rw [e, List.all_nil, Bool.true_and]
    refine Ev.step (fun k => ?_) (Ev.now _)
    simp only [spec_shIsWord.l0, if_neg c, e2]
  | succ d ih =>
    intro i hi
    have g1 : (i : Int) < (s.size : Int) := by omega
    have g2 : (0 : Int) ≤ (i : Int) := Int.natCast_nonneg _
    have hw : wrap64 ((i : Int) + 1) = ((i + 1 : Nat) : Int) := wsucc i (by omega)
    obtain ⟨b, e, hb⟩ := bt_byte s i (by omega)
    rw [e, List.all_cons]
    have nx := ih (i + 1) (by omega)
    by_cases c1 : b = 43
    · subst c1
      have hb' : bt s (i : Int) = 43 := hb
      rw [show sw.isW 43 = true from rfl, Bool.true_and]
      refine Ev.step (fun k => ?_) nx
      simp only [spec_shIsWord.l0, if_pos g1, if_pos g2, hb', if_true, hw]
    · have n1 : ¬ bt s (i : Int) = 43 := by
        rw [hb]; intro q
        exact c1 (UInt8.toNat_inj.1 (by show b.toNat = 43; omega))
      by_cases c2 : b = 45
      · subst c2
        have hb' : bt s (i : Int) = 45 := hb
        rw [show sw.isW 45 = true from rfl, Bool.true_and]
        refine Ev.step (fun k => ?_) nx
        simp only [spec_shIsWord.l0, if_pos g1, if_pos g2, hb', if_true, hw, show ¬ (45 : Int) = 43 from by decide, if_false]
      · have n2 : ¬ bt s (i : Int) = 45 := by
          rw [hb]; intro q
          exact c2 (UInt8.toNat_inj.1 (by show b.toNat = 45; omega))
        have q : sw.isW b = false := by
          unfold sw.isW
          rw [beq_eq_false_iff_ne.2 c1, beq_eq_false_iff_ne.2 c2]; rfl
        rw [q, Bool.false_and, Bool.false_and]
        refine Ev.step (fun k => ?_) (Ev.now _)
        simp only [spec_shIsWord.l0, if_pos g1, if_pos g2, if_neg n1, if_neg n2]
theorem stalk_l (s : ByteArray) (hs : s.size ≤ 10) : ∀ (d i : Nat) (acc : List S56), i + d = s.size → acc.length + d ≤ 10 →
    ∃ r, Ev (fun k => spec_piStalk.l0 k s (i : Int) acc) r ∧ Ev (fun k => impl_StalkOf.l0 k s (s.size : Int) (i : Int) acc) (r, true) ∧ r.length ≤ 10 := by
  intro d
  induction d with
  | zero =>
    intro i acc hi ha
    have c : ¬ (i : Int) < (s.size : Int) := by omega
    refine ⟨acc, Ev.step (fun k => ?_) (Ev.now _), Ev.step (fun k => ?_) (Ev.now _), by omega⟩
    · simp only [spec_piStalk.l0, if_neg c]
    · simp only [impl_StalkOf.l0, if_neg c]
  | succ d ih =>
    intro i acc hi ha
    have g1 : (i : Int) < (s.size : Int) := by omega
    have g2 : (0 : Int) ≤ (i : Int) := Int.natCast_nonneg _
    have g3 : acc.length < 5864062014805 := by omega
    have hw : wrap64 ((i : Int) + 1) = ((i + 1 : Nat) : Int) := wsucc i (by omega)
    obtain ⟨r, h1, h2, h3⟩ := ih (i + 1) (acc ++ [(⟨(i : Int), ((i + 1 : Nat) : Int), ((bt s (i : Int)) == 43)⟩ : S56)]) (by omega) (by rw [List.length_append, List.length_singleton]; omega)
    refine ⟨r, Ev.step (fun k => ?_) h1, Ev.step (fun k => ?_) h2, h3⟩
    · simp only [spec_piStalk.l0, if_pos g1, if_pos g2, if_pos g3, hw]
    · simp only [impl_StalkOf.l0, if_pos g1, if_pos g2, if_pos g3, hw]
theorem both (s : ByteArray) (hs : s.size ≤ 1048576) : ∃ r : List S56 × Bool, Ev (fun k => spec_StalkOf.f k s) r ∧ Ev (fun k => impl_StalkOf.f k s) r ∧ r.1.length ≤ 1048576 := by
  have w1 := word_l s hs s.size 0 (by omega)
  rw [List.drop_zero] at w1
  have w2 : Ev (fun k => impl_isShortWord.f k s) (s.data.toList.all sw.isW && decide (s.size ≤ 20)) := by
    rw [Bool.and_comm]; exact Ev.now _
  unfold spec_StalkOf.f impl_StalkOf.f
  cases hb : (s.data.toList.all sw.isW && decide (s.size ≤ 20)) with
  | false =>
    rw [hb] at w1 w2
    refine ⟨([], false), Ev.bind w1 (Ev.now _), Ev.bind w2 ?_, by simp⟩
    simp only [Bool.false_eq_true, if_false]
    refine Ev.step (fun k => ?_) (Ev.now _)
    simp only [impl_StalkOf.j0, if_true]
  | true =>
    rw [hb] at w1 w2
    by_cases hc : s.size ≤ 10
    · obtain ⟨r, h1, h2, h3⟩ := stalk_l s hc s.size 0 [] (by omega) (by simp; omega)
      have n1 : ¬ (s.size : Int) > 10 := by omega
      refine ⟨(r, true), Ev.bind w1 ?_, Ev.bind w2 ?_, by show r.length ≤ _; omega⟩
      · simp only [if_true, if_neg n1]
        exact Ev.bind h1 (Ev.now _)
      · simp only [if_true, decide_eq_false n1]
        refine Ev.step (f := ?f) (fun k => ?e) ?v
        case e => conv => lhs; simp only [impl_StalkOf.j0, Bool.false_eq_true, if_false]
        case v => exact h2
    · have n1 : (s.size : Int) > 10 := by omega
      refine ⟨([], false), Ev.bind w1 ?_, Ev.bind w2 ?_, by simp⟩
      · simp only [if_true, if_pos n1]
        exact Ev.now _
      · simp only [if_true, decide_eq_true n1]
        refine Ev.step (fun k => ?_) (Ev.now _)
        simp only [impl_StalkOf.j0, if_true]
theorem j1_ev (ys : List S56) (m : Nat) (hh : Ev (fun k => laws_heldPicture.f k ys 1) (m : Int)) : Ev (fun k => laws_FnExactStalkOf.j1 k (m : Int) false ys) true := by
  refine Ev.step (f := ?f) (fun k => ?e) ?v
  case e => conv => lhs; simp only [laws_FnExactStalkOf.j1, Bool.false_eq_true, if_false]
  case v =>
    refine Ev.bind hh ?_
    simp only [show ¬ ((m : Int) < 0) from by omega, if_false, if_true]
    exact Ev.now _
theorem j0_ev (s : ByteArray) (R : List S56) (b : Bool) (hR : R.length ≤ 1048576) (hi : Ev (fun k => impl_StalkOf.f k s) (R, b)) : Ev (fun k => laws_FnExactStalkOf.j0 k s b false R R) true := by
  obtain ⟨ys, m, m1, m2, m3⟩ := markPic_ev R hR
  refine Ev.step (f := ?f) (fun k => ?e) ?v
  case e => conv => lhs; simp only [laws_FnExactStalkOf.j0, Bool.false_eq_true, if_false]
  case v =>
    refine Ev.bind m1 (Ev.bind (heldPic_ev ys m m3) ?_)
    simp only [show ¬ ((m : Int) < 0) from by omega, if_false, if_true]
    refine Ev.bind hi (Ev.bind (eqPic_ev R hR) ?_)
    simp only [if_true, bne_self_eq_false]
    exact j1_ev ys m (heldPic_ev ys m m3)
theorem proved : laws_FnExactStalkOf.Pure := by
  intro s _
  refine Ev.rounds ?_
  unfold laws_FnExactStalkOf.f
  by_cases hb : (s.size : Int) > 1048576
  · simp only [if_pos hb]
    exact Ev.now _
  · simp only [if_neg hb]
    obtain ⟨⟨R, b⟩, s1, s2, s3⟩ := both s (by omega)
    refine Ev.bind s1 (Ev.bind s2 (Ev.bind (eqPic_ev R s3) ?_))
    simp only [if_true, bne_self_eq_false]
    exact j0_ev s R b s3 s2

end LFnExactStalkOf
theorem FnExactStalkOf : laws_FnExactStalkOf.Pure := LFnExactStalkOf.proved
end Go.Proofs.YtjfhhpkgjdkmdaaDoor.Pure
