/- For any string, the program's picture is the reference's; it is new memory. -/
import Derived.Test.YtjfhhpkgjdkmdaaDoorQFnExactParsePicturex9
import Derived.Lib.AtoiAll
import Derived.Lib.IndexMore
import Derived.Lib.ItoaLen
import Derived.Lib.Join
import Derived.Lib.SplitLaws
namespace Go.Proofs.YtjfhhpkgjdkmdaaDoor.Pure
open Go.RowKit Go.Proofs.YtjfhhpkgjdkmdaaDoor.QFnExactParsePicture Go.Proofs.YtjfhhpkgjdkmdaaDoorW.PrintWords Go.Proofs.YtjfhhpkgjdkmdaaDoorW.PrintLast
set_option linter.unusedVariables false
set_option linter.unusedSimpArgs false
def laws_FnExactParsePicture.Pure : Prop := ∀ (a0 : ByteArray), a0.size ≤ 140737488351232 → ∃ k, laws_FnExactParsePicture.f k a0 = some true
namespace LFnExactParsePicture
/-! ### small words -/
theorem wsucc (i : Nat) (h : i < 2 ^ 62) : wrap64 ((i : Int) + 1) = ((i + 1 : Nat) : Int) := by unfold wrap64; omega

/-! ### lists of edges: the same -/
theorem rdI (xs : List S56) (i : Nat) (h : i < xs.length) : rd_T56 xs (i : Int) = xs[i] := by
  simp [rd_T56, List.getD_eq_getElem?_getD, List.getElem?_eq_getElem h]
theorem eqEdgeS_l (l : List S56) (hl : l.length ≤ 1048576) : ∀ (d i : Nat), i + d = l.length → Ev (fun k => laws_eqEdgeS.l0 k l l (i : Int)) true := by
  intro d
  induction d with
  | zero =>
    intro i hi
    have c : ¬ (i : Int) < (l.length : Int) := by omega
    refine Ev.step (fun k => ?_) (Ev.now _)
    simp only [laws_eqEdgeS.l0, if_neg c]
  | succ d ih =>
    intro i hi
    have g1 : (i : Int) < (l.length : Int) := by omega
    have g2 : (0 : Int) ≤ (i : Int) := Int.natCast_nonneg _
    have hw : wrap64 ((i : Int) + 1) = ((i + 1 : Nat) : Int) := wsucc i (by omega)
    refine Ev.step (fun k => ?_) (ih (i + 1) (by clear hw; omega))
    simp only [laws_eqEdgeS.l0, if_pos g1, if_pos g2, laws_eqEdge.f, if_true, Option.bind_some, bne_self_eq_false, Bool.false_eq_true, if_false, hw]
theorem eqEdgeS_ev (l : List S56) (hl : l.length ≤ 1048576) : Ev (fun k => laws_eqEdgeS.f k l l) true := by
  unfold laws_eqEdgeS.f
  simp only [if_true]
  exact eqEdgeS_l l hl l.length 0 (by omega)
theorem eqPic_ev (l : List S56) (hl : l.length ≤ 1048576) : Ev (fun k => laws_eqPicture.f k l l) true := by
  unfold laws_eqPicture.f
  refine Ev.bind (eqEdgeS_ev l hl) ?_
  simp only [if_true]
  exact Ev.now _

/-! ### marks in a list of edges, and marks that are held -/
theorem rd_set (xs : List S56) (i : Nat) (a : S56) (h : i < xs.length) : rd_T56 (xs.set i a) (i : Int) = a := by
  simp [rd_T56, List.getD_eq_getElem?_getD, List.getElem?_set_self h]
theorem markEdgeS_l : ∀ (d i m : Nat) (xs : List S56), i + d = xs.length → m + 3 * d < 2 ^ 61 → xs.length < 2 ^ 61 →
    ∃ ys : List S56, Ev (fun k => laws_markEdgeS.l0 k xs (m : Int) (i : Int)) (((m + 3 * d : Nat) : Int), ys) ∧ ys.length = xs.length ∧ (∀ j, j < i → ys[j]? = xs[j]?) ∧
      Ev (fun k => laws_heldEdgeS.l0 k ys (m : Int) (i : Int)) ((m + 3 * d : Nat) : Int) := by
  intro d
  induction d with
  | zero =>
    intro i m xs hi hm hx
    have c : ¬ (i : Int) < (xs.length : Int) := by omega
    refine ⟨xs, Ev.step (fun k => ?_) (Ev.now _), rfl, fun _ _ => rfl, Ev.step (fun k => ?_) (Ev.now _)⟩
    · simp only [laws_markEdgeS.l0, if_neg c, Nat.mul_zero, Nat.add_zero]
    · simp only [laws_heldEdgeS.l0, if_neg c, Nat.mul_zero, Nat.add_zero]
  | succ d ih =>
    intro i m xs hi hm hx
    obtain ⟨ys, h1, h2, h3, h4⟩ := ih (i + 1) (m + 3) (xs.set i ⟨(m : Int), ((m + 1 : Nat) : Int), Int.tmod ((m + 2 : Nat) : Int) 3 == 0⟩) (by rw [List.length_set]; omega) (by omega) (by rw [List.length_set]; omega)
    rw [List.length_set] at h2
    have e : m + 3 + 3 * d = m + 3 * (d + 1) := by omega
    rw [e] at h1 h4
    have g1 : (i : Int) < (xs.length : Int) := by omega
    have g1' : (i : Int) < (ys.length : Int) := by omega
    have g2 : (0 : Int) ≤ (i : Int) := Int.natCast_nonneg _
    have hil : i < xs.length := by omega
    have g3 : rd_T56 ys (i : Int) = ⟨(m : Int), ((m + 1 : Nat) : Int), Int.tmod ((m + 2 : Nat) : Int) 3 == 0⟩ := by
      have := h3 i (by omega)
      rw [List.getElem?_set_self (by omega)] at this
      simp [rd_T56, List.getD_eq_getElem?_getD, this]
    refine ⟨ys, Ev.step (fun k => ?_) h1, h2, fun j hj => ?_, Ev.step (fun k => ?_) h4⟩
    · have w1 : wrap64 ((i : Int) + 1) = ((i + 1 : Nat) : Int) := wsucc i (by omega)
      have w2 : wrap64 ((m : Int) + 1) = ((m + 1 : Nat) : Int) := wsucc m (by clear w1; omega)
      have w3 : wrap64 (((m + 1 : Nat) : Int) + 1) = ((m + 2 : Nat) : Int) := wsucc (m + 1) (by clear w1 w2; omega)
      have w4 : wrap64 (((m + 2 : Nat) : Int) + 1) = ((m + 3 : Nat) : Int) := wsucc (m + 2) (by clear w1 w2 w3; omega)
      simp only [laws_markEdgeS.l0, if_pos g1, if_pos g2, Option.bind_some, Int.toNat_natCast, rd_set xs i _ hil, List.set_set, w1, w2, w3, w4]
    · have := h3 j (by omega)
      rwa [List.getElem?_set_ne (by omega)] at this
    · have w1 : wrap64 ((i : Int) + 1) = ((i + 1 : Nat) : Int) := wsucc i (by omega)
      have w2 : wrap64 ((m : Int) + 1) = ((m + 1 : Nat) : Int) := wsucc m (by clear w1; omega)
      have w3 : wrap64 (((m + 1 : Nat) : Int) + 1) = ((m + 2 : Nat) : Int) := wsucc (m + 1) (by clear w1 w2; omega)
      have w4 : wrap64 (((m + 2 : Nat) : Int) + 1) = ((m + 3 : Nat) : Int) := wsucc (m + 2) (by clear w1 w2 w3; omega)
      simp only [laws_heldEdgeS.l0, if_pos g1', if_pos g2, g3, if_true, bne_self_eq_false, Bool.false_eq_true, if_false, w1, w2, w3, w4]
theorem markEdgeS_ev (xs : List S56) (m : Nat) (h : xs.length ≤ 1048576) (hm : m ≤ 1048576) : ∃ ys : List S56, Ev (fun k => laws_markEdgeS.f k xs (m : Int)) (((m + 3 * xs.length : Nat) : Int), ys) ∧ ys.length = xs.length ∧
    Ev (fun k => laws_heldEdgeS.f k ys (m : Int)) ((m + 3 * xs.length : Nat) : Int) := by
  obtain ⟨ys, h1, h2, _, h4⟩ := markEdgeS_l xs.length 0 m xs (by omega) (by omega) (by omega)
  exact ⟨ys, h1, h2, h4⟩

theorem markPic_ev (xs : List S56) (h : xs.length ≤ 1048576) : ∃ ys : List S56, ∃ m : Nat, Ev (fun k => laws_markPicture.f k xs 1) ((m : Int), ys) ∧ ys.length = xs.length ∧ Ev (fun k => laws_heldEdgeS.f k ys 1) (m : Int) := by
  obtain ⟨ys, h1, h2, h4⟩ := markEdgeS_ev xs 1 h (by decide)
  refine ⟨ys, 1 + 3 * xs.length, ?_, h2, h4⟩
  unfold laws_markPicture.f
  exact Ev.bind h1 (Ev.now _)

theorem heldPic_ev (ys : List S56) (m : Nat) (h : Ev (fun k => laws_heldEdgeS.f k ys 1) (m : Int)) : Ev (fun k => laws_heldPicture.f k ys 1) (m : Int) := by
  unfold laws_heldPicture.f
  refine Ev.bind h ?_
  simp only [show ¬ (m : Int) < 0 from by omega, if_false]
  exact Ev.now _

/-! ### what is reached, and what is a picture -/
theorem spec_in (e a b : Int) : spec_l1In.f e a b = some (decide (a ≤ e ∧ e ≤ b)) := by
  unfold spec_l1In.f
  by_cases h : e ≥ a
  · rw [if_pos h]; simp [show a ≤ e from h]
  · rw [if_neg h]; simp [show ¬ a ≤ e from h]
theorem impl_in_ (e a b : Int) : impl_in.f e a b = some (decide (a ≤ e ∧ e ≤ b)) := by
  unfold impl_in.f
  by_cases h : e ≥ a
  · rw [if_pos h]; simp [show a ≤ e from h]
  · rw [if_neg h]; simp [show ¬ a ≤ e from h]
structure Sy (s : List Bool) (R : Int → Bool) : Prop where
  len : s.length = 11
  at_ : ∀ n : Nat, n < 11 → rdOf false s (n : Int) = R (n : Int)
theorem rdOf_set (s : List Bool) (i : Nat) (v : Bool) (h : i < s.length) (j : Nat) : rdOf false (s.set i v) (j : Int) = if j = i then v else rdOf false s (j : Int) := by
  unfold rdOf
  rw [Int.toNat_natCast]
  by_cases e : j = i
  · subst e
    rw [if_pos rfl]
    simp [h]
  · rw [if_neg e]
    have : ¬ i = j := fun q => e q.symm
    simp [this]
theorem Sy.set {s : List Bool} {R : Int → Bool} (h : Sy s R) {a b : Nat} (ha : a < 11) (hb : b < 11) : Sy ((s.set a true).set b true) (fun y => if y = (b : Int) then true else if y = (a : Int) then true else R y) := by
  refine ⟨by rw [List.length_set, List.length_set]; exact h.len, fun n hn => ?_⟩
  rw [rdOf_set _ b true (by rw [List.length_set, h.len]; exact hb), rdOf_set _ a true (by rw [h.len]; exact ha), h.at_ n hn]
  by_cases e1 : n = b
  · subst e1; simp
  · have e1' : ¬ (n : Int) = (b : Int) := by omega
    rw [if_neg e1, if_neg e1']
    by_cases e2 : n = a
    · subst e2; simp
    · have e2' : ¬ (n : Int) = (a : Int) := by omega
      rw [if_neg e2, if_neg e2']
theorem okNat {l : List S56} (h : l.all impl_standing.ok = true) {j : Nat} (hj : j < l.length) : ∃ a b : Nat, l[j].f0 = (a : Int) ∧ l[j].f1 = (b : Int) ∧ a < 11 ∧ b < 11 := by
  have := List.all_eq_true.1 h _ (List.getElem_mem hj)
  simp only [impl_standing.ok, decide_eq_true_eq] at this
  exact ⟨l[j].f0.toNat, l[j].f1.toNat, by omega, by omega, by omega, by omega⟩
section
variable (l : List S56) (h : l.all impl_standing.ok = true) (hl : l.length ≤ 10)
include h hl
theorem reach1 (m : Nat) (hm : m < 2 ^ 60) : ∀ (d j : Nat) (s : List Bool) (R : Int → Bool), j + d = l.length → Sy s R → ∃ s', Sy s' ((l.drop j).foldl impl_standing.add R) ∧
    ∀ res, Ev (fun k => spec_piReach.l0 k l s' (l.length : Int) ((m + 1 : Nat) : Int)) res → Ev (fun k => spec_piReach.l1 k l s (l.length : Int) (m : Int) l (l.length : Int) (j : Int)) res := by
  intro d
  induction d with
  | zero =>
    intro j s R hj hs
    have e : l.drop j = [] := List.drop_eq_nil_of_le (by omega)
    have c : ¬ (j : Int) < (l.length : Int) := by omega
    rw [e]
    refine ⟨s, hs, fun res q => Ev.step (fun k => ?_) q⟩
    simp only [spec_piReach.l1, if_neg c, wsucc m (by omega)]
  | succ d ih =>
    intro j s R hj hs
    have hjl : j < l.length := by omega
    have c1 : (j : Int) < (l.length : Int) := by omega
    have c2 : (0 : Int) ≤ (j : Int) := Int.natCast_nonneg _
    obtain ⟨a, b, ea, eb, ha, hb⟩ := okNat h hjl
    have ca : (0 : Int) ≤ (a : Int) := Int.natCast_nonneg _
    have cb : (0 : Int) ≤ (b : Int) := Int.natCast_nonneg _
    have ca2 : (a : Int) < (s.length : Int) := by rw [hs.len]; omega
    have cb2 : (b : Int) < (s.length : Int) := by rw [hs.len]; omega
    have hw := wsucc j (by omega)
    have hrd := rdI l j hjl
    have hsa := hs.at_ a ha
    have hsb := hs.at_ b hb
    rw [List.drop_eq_getElem_cons hjl, List.foldl_cons]
    have hadd : impl_standing.add R l[j] = if (R a || R b) = true then (fun y => if y = (b : Int) then true else if y = (a : Int) then true else R y) else R := by
      unfold impl_standing.add
      rw [ea, eb]
    rw [hadd]
    cases hA : R a with
    | true =>
      obtain ⟨s', q1, q2⟩ := ih (j + 1) _ _ (by clear hw; omega) (hs.set ha hb)
      refine ⟨s', by simpa using q1, fun res q => Ev.step (fun k => ?_) (q2 res q)⟩
      rw [hA] at hsa
      simp only [spec_piReach.l1, if_pos c1, if_pos c2, hrd, ea, eb, if_pos ca, if_pos ca2, hsa, if_true, if_pos cb, if_pos cb2, Int.toNat_natCast, hw]
    | false =>
      rw [hA] at hsa
      cases hB : R b with
      | true =>
        obtain ⟨s', q1, q2⟩ := ih (j + 1) _ _ (by clear hw; omega) (hs.set ha hb)
        refine ⟨s', by simpa using q1, fun res q => Ev.step (fun k => ?_) (q2 res q)⟩
        rw [hB] at hsb
        simp only [spec_piReach.l1, if_pos c1, if_pos c2, hrd, ea, eb, if_pos ca, if_pos ca2, hsa, hsb, Bool.false_eq_true, if_false, if_true, if_pos cb, if_pos cb2, Int.toNat_natCast, hw]
      | false =>
        obtain ⟨s', q1, q2⟩ := ih (j + 1) s R (by clear hw; omega) hs
        refine ⟨s', by simpa using q1, fun res q => Ev.step (fun k => ?_) (q2 res q)⟩
        rw [hB] at hsb
        simp only [spec_piReach.l1, if_pos c1, if_pos c2, hrd, ea, eb, if_pos ca, if_pos ca2, hsa, hsb, Bool.false_eq_true, if_false, if_pos cb, if_pos cb2, hw]
theorem reach0 : ∀ (d m : Nat) (s : List Bool), m + d = l.length → Sy s (impl_standing.reach l m) → ∃ s', Sy s' (impl_standing.reach l l.length) ∧ Ev (fun k => spec_piReach.l0 k l s (l.length : Int) (m : Int)) s' := by
  intro d
  induction d with
  | zero =>
    intro m s hm hs
    obtain rfl : m = l.length := by omega
    have c : ¬ (l.length : Int) < (l.length : Int) := by omega
    refine ⟨s, hs, Ev.step (fun k => ?_) (Ev.now _)⟩
    simp only [spec_piReach.l0, if_neg c]
  | succ d ih =>
    intro m s hm hs
    have c : (m : Int) < (l.length : Int) := by omega
    obtain ⟨s1, q1, q2⟩ := reach1 l h hl m (by omega) l.length 0 s _ (by omega) hs
    obtain ⟨s2, p1, p2⟩ := ih (m + 1) s1 (by omega) q1
    refine ⟨s2, p1, Ev.step (fun k => ?_) (q2 _ p2)⟩
    simp only [spec_piReach.l0, if_pos c]
    rfl
theorem reach_ev : ∃ s, Sy s (impl_standing.reach l l.length) ∧ Ev (fun k => spec_piReach.f k l) s := by
  have h0 : Sy ((List.replicate 11 false).set 0 true) (impl_standing.reach l 0) := by
    refine ⟨by simp, fun n hn => ?_⟩
    rw [show ((List.replicate 11 false).set 0 true) = ((List.replicate 11 false).set ((0 : Nat)) true) from rfl, rdOf_set _ 0 true (by simp)]
    unfold impl_standing.reach
    by_cases e : n = 0
    · subst e; simp
    · have e' : ¬ (n : Int) = 0 := by omega
      rw [if_neg e, if_neg e']
      unfold rdOf
      rw [List.getD_eq_getElem?_getD, Int.toNat_natCast, List.getElem?_replicate, if_pos hn]
      rfl
  obtain ⟨s, q1, q2⟩ := reach0 l h hl l.length 0 _ (by omega) h0
  refine ⟨s, q1, ?_⟩
  unfold spec_piReach.f
  have c : (0 : Int) < ((List.replicate 11 false).length : Int) := by simp
  simp only [show (11 : Nat) ≤ 281474976710656 from by decide, if_true, Option.bind_some, if_pos c]
  exact q2
theorem all_l1 (s : List Bool) (hs : Sy s (impl_standing.reach l l.length)) : ∀ (d j : Nat), j + d = l.length → Ev (fun k => spec_piGood.l1 k s l (l.length : Int) (j : Int)) ((l.drop j).all fun e => impl_standing.reach l l.length e.f0) := by
  intro d
  induction d with
  | zero =>
    intro j hj
    have e : l.drop j = [] := List.drop_eq_nil_of_le (by omega)
    have c : ¬ (j : Int) < (l.length : Int) := by omega
    rw [e]
    refine Ev.step (fun k => ?_) (Ev.now _)
    simp only [spec_piGood.l1, if_neg c]
    rfl
  | succ d ih =>
    intro j hj
    have hjl : j < l.length := by omega
    have c1 : (j : Int) < (l.length : Int) := by omega
    have c2 : (0 : Int) ≤ (j : Int) := Int.natCast_nonneg _
    obtain ⟨a, b, ea, eb, ha, hb⟩ := okNat h hjl
    have ca : (0 : Int) ≤ (a : Int) := Int.natCast_nonneg _
    have ca2 : (a : Int) < (s.length : Int) := by rw [hs.len]; omega
    have hw := wsucc j (by omega)
    have hrd := rdI l j hjl
    have hsa := hs.at_ a ha
    rw [List.drop_eq_getElem_cons hjl, List.all_cons, ea]
    have hn := ih (j + 1) (by clear hw; omega)
    cases hA : impl_standing.reach l l.length a with
    | true =>
      rw [hA] at hsa
      rw [Bool.true_and]
      refine Ev.step (fun k => ?_) hn
      simp only [spec_piGood.l1, if_pos c1, if_pos c2, hrd, ea, if_pos ca, if_pos ca2, hsa, if_true, hw]
    | false =>
      rw [hA] at hsa
      refine Ev.step (fun k => ?_) (Ev.now _)
      simp only [spec_piGood.l1, if_pos c1, if_pos c2, hrd, ea, if_pos ca, if_pos ca2, hsa, Bool.false_eq_true, if_false, Bool.false_and]
end
def eok (e : S56) : Bool := decide (0 ≤ e.f0 ∧ e.f0 ≤ 10) && (decide (0 ≤ e.f1 ∧ e.f1 ≤ 10) && !decide (e.f0 = e.f1))
def reached (l : List S56) : Bool := l.all fun e => impl_standing.reach l l.length e.f0
def good (l : List S56) : Bool := l.all eok && (decide (l.length ≤ 10) && reached l)
theorem ok_of {l : List S56} (h : l.all eok = true) : l.all impl_standing.ok = true := by
  rw [List.all_eq_true] at h ⊢
  intro e he
  have := h e he
  simp only [eok, Bool.and_eq_true, decide_eq_true_eq] at this
  simp only [impl_standing.ok, decide_eq_true_eq]
  exact ⟨this.1.1, this.1.2, this.2.1⟩
theorem tail_s (l : List S56) (h : l.all eok = true) (i : Nat) (hi : ¬ (i : Int) < (l.length : Int)) : Ev (fun k => spec_piGood.l0 k l (l.length : Int) (i : Int) l) (decide (l.length ≤ 10) && reached l) := by
  by_cases g : l.length ≤ 10
  · have c : ¬ (l.length : Int) > 10 := by omega
    obtain ⟨s, q1, q2⟩ := reach_ev l (ok_of h) g
    have q3 := all_l1 l (ok_of h) g s q1 l.length 0 (by omega)
    refine Ev.step (f := ?gga1) (fun k => ?ggb1) ?ggc1
    case ggb1 => conv => lhs; simp only [spec_piGood.l0, if_neg hi, if_neg c]
    case ggc1 =>
      refine Ev.bind q2 ?_
      simpa [g, reached] using q3
  · have c : (l.length : Int) > 10 := by omega
    refine Ev.step (fun k => ?_) (Ev.now _)
    simp only [spec_piGood.l0, if_neg hi, if_pos c]
    simp [g]
theorem tail_i (l : List S56) (h : l.all eok = true) (i : Nat) (hi : ¬ (i : Int) < (l.length : Int)) : Ev (fun k => impl_IsPicture.l0 k l (l.length : Int) (i : Int) l) (decide (l.length ≤ 10) && reached l) := by
  by_cases g : l.length ≤ 10
  · have c : (l.length : Int) ≤ 10 := by omega
    have e : (((l.filter fun e => !!impl_standing.reach l l.length e.f0).length : Int) == (l.length : Int)) = reached l := by
      rw [Bool.eq_iff_iff, beq_iff_eq]
      unfold reached
      rw [List.all_eq_true]
      constructor
      · intro q
        have := List.length_filter_eq_length_iff.1 (Int.ofNat_inj.1 q)
        intro x hx
        simpa using this x hx
      · intro q
        exact congrArg _ (List.length_filter_eq_length_iff.2 (fun x hx => by simpa using q x hx))
    refine Ev.step (fun k => ?_) (Ev.now _)
    simp only [impl_IsPicture.l0, if_neg hi, if_pos c, impl_standing.f, if_pos (show l.length ≤ 10 ∧ l.all impl_standing.ok = true from ⟨g, ok_of h⟩), Option.bind_some, e]
    simp [g]
  · have c : ¬ (l.length : Int) ≤ 10 := by omega
    refine Ev.step (fun k => ?_) (Ev.now _)
    simp only [impl_IsPicture.l0, if_neg hi, if_neg c]
    simp [g]
theorem good_l (l : List S56) (hl : l.length ≤ 1048576) : ∀ (d i : Nat), i + d = l.length → (l.take i).all eok = true → Ev (fun k => spec_piGood.l0 k l (l.length : Int) (i : Int) l) (good l) ∧ Ev (fun k => impl_IsPicture.l0 k l (l.length : Int) (i : Int) l) (good l) := by
  intro d
  induction d with
  | zero =>
    intro i hi hp
    obtain rfl : i = l.length := by omega
    rw [List.take_length] at hp
    have e : good l = (decide (l.length ≤ 10) && reached l) := by unfold good; rw [hp, Bool.true_and]
    rw [e]
    exact ⟨tail_s l hp _ (by omega), tail_i l hp _ (by omega)⟩
  | succ d ih =>
    intro i hi hp
    have hil : i < l.length := by omega
    have c1 : (i : Int) < (l.length : Int) := by omega
    have c2 : (0 : Int) ≤ (i : Int) := Int.natCast_nonneg _
    have hrd := rdI l i hil
    have hw := wsucc i (by omega)
    have bad : eok l[i] = false → good l = false := fun q => by
      unfold good
      have : l.all eok = false := by
        rw [List.all_eq_false]
        exact ⟨_, List.getElem_mem hil, by rw [q]; decide⟩
      rw [this, Bool.false_and]
    by_cases h0 : 0 ≤ l[i].f0 ∧ l[i].f0 ≤ 10
    · by_cases h1 : 0 ≤ l[i].f1 ∧ l[i].f1 ≤ 10
      · by_cases h2 : l[i].f0 = l[i].f1
        · have e := bad (by unfold eok; rw [decide_eq_true h2]; simp)
          rw [e]
          constructor
          · refine Ev.step (fun k => ?_) (Ev.now _)
            simp only [spec_piGood.l0, if_pos c1, if_pos c2, hrd, spec_in, Option.bind_some, decide_eq_true h0, decide_eq_true h1, if_true, if_pos h2]
          · refine Ev.step (fun k => ?_) (Ev.now _)
            simp only [impl_IsPicture.l0, if_pos c1, if_pos c2, hrd, impl_in_, Option.bind_some, decide_eq_true h0, decide_eq_true h1, if_true, if_pos h2]
        · have e : eok l[i] = true := by unfold eok; rw [decide_eq_true h0, decide_eq_true h1, decide_eq_false h2]; rfl
          obtain ⟨q1, q2⟩ := ih (i + 1) (by clear hw; omega) (by rw [List.take_succ_eq_append_getElem hil, List.all_append, hp]; simp [e])
          constructor
          · refine Ev.step (fun k => ?_) q1
            simp only [spec_piGood.l0, if_pos c1, if_pos c2, hrd, spec_in, Option.bind_some, decide_eq_true h0, decide_eq_true h1, if_true, if_neg h2, hw]
          · refine Ev.step (fun k => ?_) q2
            simp only [impl_IsPicture.l0, if_pos c1, if_pos c2, hrd, impl_in_, Option.bind_some, decide_eq_true h0, decide_eq_true h1, if_true, if_neg h2, hw]
      · have e := bad (by unfold eok; rw [decide_eq_false h1]; simp)
        rw [e]
        constructor
        · refine Ev.step (fun k => ?_) (Ev.now _)
          simp only [spec_piGood.l0, if_pos c1, if_pos c2, hrd, spec_in, Option.bind_some, decide_eq_true h0, decide_eq_false h1, if_true, Bool.false_eq_true, if_false]
        · refine Ev.step (fun k => ?_) (Ev.now _)
          simp only [impl_IsPicture.l0, if_pos c1, if_pos c2, hrd, impl_in_, Option.bind_some, decide_eq_true h0, decide_eq_false h1, if_true, Bool.false_eq_true, if_false]
    · have e := bad (by unfold eok; rw [decide_eq_false h0]; simp)
      rw [e]
      constructor
      · refine Ev.step (fun k => ?_) (Ev.now _)
        simp only [spec_piGood.l0, if_pos c1, if_pos c2, hrd, spec_in, Option.bind_some, decide_eq_false h0, Bool.false_eq_true, if_false]
      · refine Ev.step (fun k => ?_) (Ev.now _)
        simp only [impl_IsPicture.l0, if_pos c1, if_pos c2, hrd, impl_in_, Option.bind_some, decide_eq_false h0, Bool.false_eq_true, if_false]
theorem piGood_ev (l : List S56) (hl : l.length ≤ 1048576) : Ev (fun k => spec_piGood.f k l) (good l) := (good_l l hl l.length 0 (by omega) (by simp)).1
theorem isPic_ev (l : List S56) (hl : l.length ≤ 1048576) : Ev (fun k => impl_IsPicture.f k l) (good l) := (good_l l hl l.length 0 (by omega) (by simp)).2

/-! ### texts of edges -/
theorem ba_app (a b : List UInt8) : (⟨a.toArray⟩ : ByteArray) ++ ⟨b.toArray⟩ = ⟨(a ++ b).toArray⟩ := by
  apply ByteArray.ext
  rw [ByteArray.data_append, List.append_toArray]
theorem ba_size (a : List UInt8) : (⟨a.toArray⟩ : ByteArray).size = a.length := by show a.toArray.size = _; simp
theorem digits_len (u : Nat) (h : u ≤ 1000000) : (Lib.decDigits u).length ≤ 20 := by
  rw [Lib.decDigits_length]; exact Lib.nDigits_le20 u (by omega)
theorem itoaE (u : Nat) (h : u ≤ 1000000) : Ev (fun k => strconv_Itoa_60.f k (u : Int)) ⟨(Lib.decDigits u).toArray⟩ := ⟨0, fun k _ => by
  show strconv_Itoa_60.f k (u : Int) = _
  unfold strconv_Itoa_60.f
  rw [if_pos (by omega)]
  unfold Lib.itoa
  rw [if_neg (by omega), Int.toNat_natCast]⟩
/-- The text of an edge. -/
def et (e : S56) : List UInt8 := Lib.decDigits e.f0.toNat ++ [45] ++ Lib.decDigits e.f1.toNat ++ [if e.f2 = true then 98 else 114]
theorem join_snoc (sep : List UInt8) (y : List UInt8) : ∀ xs : List (List UInt8), xs ≠ [] → Lib.join (xs ++ [y]) sep = Lib.join xs sep ++ sep ++ y
  | [], h => absurd rfl h
  | [x], _ => by simp [Lib.join, List.intercalate]
  | x :: z :: r, _ => by
    have ih := join_snoc sep y (z :: r) (by simp)
    have e : ∀ t : List (List UInt8), t ≠ [] → Lib.join (x :: t) sep = x ++ sep ++ Lib.join t sep := fun t ht => by
      cases t with
      | nil => exact absurd rfl ht
      | cons a b => simp [Lib.join, List.intercalate]
    rw [List.cons_append, e _ (by simp), ih, e (z :: r) (by simp)]
    simp [List.append_assoc]
theorem join_len : ∀ xs : List (List UInt8), (∀ x ∈ xs, x.length ≤ 50) → (Lib.join xs [32]).length ≤ 51 * xs.length
  | [], _ => by simp [Lib.join, List.intercalate]
  | [x], h => by
    have := h x (by simp)
    rw [Lib.join_one]; simp; omega
  | x :: z :: r, h => by
    have ih := join_len (z :: r) (fun y hy => h y (by simp at hy ⊢; exact .inr hy))
    have hx := h x (by simp)
    have e : Lib.join (x :: z :: r) [32] = x ++ [32] ++ Lib.join (z :: r) [32] := by simp [Lib.join, List.intercalate]
    rw [e, List.length_append, List.length_append, List.length_singleton]
    simp only [List.length_cons] at ih ⊢
    omega
theorem et_len (e : S56) (h : eok e = true) : (et e).length ≤ 50 := by
  unfold eok at h
  simp only [Bool.and_eq_true, decide_eq_true_eq] at h
  have l1 := digits_len e.f0.toNat (by omega)
  have l2 := digits_len e.f1.toNat (by omega)
  unfold et
  simp only [List.length_append, List.length_singleton]
  omega
theorem impl_t (l : List S56) (hl : l.length ≤ 10) (ok : l.all eok = true) : ∀ (d i : Nat), i + d = l.length →
    Ev (fun k => impl_picturesText.l0 k ((l.take i).map fun e => ⟨(et e).toArray⟩) l (l.length : Int) (i : Int)) ⟨(Lib.join (l.map et) [32]).toArray⟩ := by
  intro d
  induction d with
  | zero =>
    intro i hi
    have c : ¬ (i : Int) < (l.length : Int) := by omega
    rw [List.take_of_length_le (by omega)]
    have hj : Ev (fun k => strings_Join.f k (l.map fun e => (⟨(et e).toArray⟩ : ByteArray)) (⟨#[32]⟩ : ByteArray)) ⟨(Lib.join (l.map et) [32]).toArray⟩ := ⟨0, fun k _ => by
      have e : (l.map fun e => (⟨(et e).toArray⟩ : ByteArray)).map (·.data.toList) = l.map et := by rw [List.map_map]; rfl
      have hP := join_len (l.map et) (fun x hx => by
        obtain ⟨y, hy, rfl⟩ := List.mem_map.1 hx
        exact et_len y (List.all_eq_true.1 ok _ hy))
      rw [List.length_map] at hP
      show strings_Join.f k _ _ = _
      unfold strings_Join.f
      rw [e]
      have e2 : (⟨#[32]⟩ : ByteArray).data.toList = [32] := rfl
      rw [e2, if_pos ⟨by omega, by rw [List.length_map]; omega⟩]⟩
    refine Ev.step (f := ?f) (fun k => ?e) ?v
    case e => conv => lhs; simp only [impl_picturesText.l0, if_neg c]
    case v => exact Ev.bind hj (Ev.now _)
  | succ d ih =>
    intro i hi
    have g1 : (i : Int) < (l.length : Int) := by omega
    have g2 : (0 : Int) ≤ (i : Int) := Int.natCast_nonneg _
    have hil : i < l.length := by omega
    have hw : wrap64 ((i : Int) + 1) = ((i + 1 : Nat) : Int) := wsucc i (by omega)
    have oke : eok l[i] = true := List.all_eq_true.1 ok _ (List.getElem_mem hil)
    have h := oke
    unfold eok at h
    simp only [Bool.and_eq_true, decide_eq_true_eq] at h
    obtain ⟨a, ha⟩ := Int.eq_ofNat_of_zero_le h.1.1
    obtain ⟨b, hb⟩ := Int.eq_ofNat_of_zero_le h.2.1.1
    have l1 := digits_len a (by clear hw; omega)
    have l2 := digits_len b (by clear hw; omega)
    have ea : et l[i] = Lib.decDigits a ++ [45] ++ Lib.decDigits b ++ [if l[i].f2 = true then 98 else 114] := by unfold et; rw [ha, hb, Int.toNat_natCast, Int.toNat_natCast]
    have c45 : (⟨#[45]⟩ : ByteArray) = ⟨[45].toArray⟩ := rfl
    have c98 : (⟨#[98]⟩ : ByteArray) = ⟨[98].toArray⟩ := rfl
    have c114 : (⟨#[114]⟩ : ByteArray) = ⟨[114].toArray⟩ := rfl
    have s1 : (Lib.decDigits a).length + 1 ≤ 9223372036854775807 := by clear hw; omega
    have s2 : (Lib.decDigits a ++ [45]).length + (Lib.decDigits b).length ≤ 9223372036854775807 := by simp only [List.length_append, List.length_singleton]; clear hw; omega
    have s3 : (Lib.decDigits a ++ [45] ++ Lib.decDigits b).length + 1 ≤ 9223372036854775807 := by simp only [List.length_append, List.length_singleton]; clear hw; omega
    have s4 : ((l.take i).map fun e => (⟨(et e).toArray⟩ : ByteArray)).length < 8796093022208 := by rw [List.length_map, List.length_take]; clear hw; omega
    have nx := ih (i + 1) (by clear hw; omega)
    have et1 : ((l.take (i + 1)).map fun e => (⟨(et e).toArray⟩ : ByteArray)) = ((l.take i).map fun e => (⟨(et e).toArray⟩ : ByteArray)) ++ [⟨(et l[i]).toArray⟩] := by rw [List.take_succ_eq_append_getElem hil, List.map_append]; rfl
    rw [et1, ea] at nx
    cases hf : l[i].f2 with
    | true =>
      rw [hf, if_pos rfl] at nx
      refine Ev.step (f := ?f1) (fun k => ?e1) ?v1
      case e1 => conv => lhs; simp only [impl_picturesText.l0, if_pos g1, if_pos g2, rdI l i hil, hf, if_true, ha, hb, hw]
      case v1 =>
        refine Ev.bind (itoaE a (by clear hw; omega)) ?_
        simp only [ba_size, if_pos s1]
        refine Ev.bind (itoaE b (by clear hw; omega)) ?_
        simp only [c45, c98, ba_app, ba_size, if_pos s2, if_pos s3, if_pos s4]
        exact nx
    | false =>
      rw [hf, if_neg (by decide)] at nx
      refine Ev.step (f := ?f2) (fun k => ?e2) ?v2
      case e2 => conv => lhs; simp only [impl_picturesText.l0, if_pos g1, if_pos g2, rdI l i hil, hf, Bool.false_eq_true, if_false, ha, hb, hw]
      case v2 =>
        refine Ev.bind (itoaE a (by clear hw; omega)) ?_
        simp only [ba_size, if_pos s1]
        refine Ev.bind (itoaE b (by clear hw; omega)) ?_
        simp only [c45, c114, ba_app, ba_size, if_pos s2, if_pos s3, if_pos s4]
        exact nx

/-! ### texts of numbers, read -/
abbrev mk (l : List UInt8) : ByteArray := ⟨l.toArray⟩
def isD (x : UInt8) : Prop := 48 ≤ x.toNat ∧ x.toNat ≤ 57
def foldv (v : Nat) (l : List UInt8) : Nat := l.foldl (fun n x => n * 10 + (x.toNat - 48)) v
theorem digit (n : Nat) (h : n < 10) : (UInt8.ofNat (48 + n)).toNat = 48 + n := by
  rw [UInt8.toNat_ofNat']
  exact Nat.mod_eq_of_lt (by omega)
theorem dd_big (u : Nat) (h : ¬ u < 10) : Lib.decDigits u = Lib.decDigits (u / 10) ++ [UInt8.ofNat (48 + u % 10)] := by
  conv => lhs; rw [Lib.decDigits]
  rw [dif_neg h]
theorem dd_ind {P : Nat → Prop} (h1 : ∀ u, u < 10 → P u) (h2 : ∀ u, ¬ u < 10 → P (u / 10) → P u) : ∀ u, P u := by
  intro u
  induction u using Nat.strongRecOn with
  | ind u ih =>
    by_cases h : u < 10
    · exact h1 u h
    · exact h2 u h (ih (u / 10) (by omega))
theorem dd_isD : ∀ u : Nat, ∀ x ∈ Lib.decDigits u, isD x := dd_ind
  (fun u h x hx => by
    rw [Lib.decDigits_one h, List.mem_singleton] at hx
    subst hx
    unfold isD; rw [digit u h]; omega)
  (fun u h ih x hx => by
    rw [dd_big u h, List.mem_append, List.mem_singleton] at hx
    rcases hx with a | rfl
    · exact ih x a
    · unfold isD; rw [digit (u % 10) (by omega)]; omega)
theorem dd_ne : ∀ u : Nat, Lib.decDigits u ≠ [] := dd_ind (fun u h => by rw [Lib.decDigits_one h]; simp) (fun u h _ => by rw [dd_big u h]; simp)
theorem dd_val : ∀ u : Nat, foldv 0 (Lib.decDigits u) = u := dd_ind
  (fun u h => by
    rw [Lib.decDigits_one h]
    show 0 * 10 + ((UInt8.ofNat (48 + u)).toNat - 48) = u
    rw [digit u h]; omega)
  (fun u h ih => by
    rw [dd_big u h]
    unfold foldv at ih ⊢
    rw [List.foldl_append, ih]
    show u / 10 * 10 + ((UInt8.ofNat (48 + u % 10)).toNat - 48) = u
    rw [digit (u % 10) (by omega)]; omega)
theorem dd_head : ∀ u : Nat, 1 ≤ u → ∀ x r, Lib.decDigits u = x :: r → x ≠ 48 := dd_ind
  (fun u h h1 x r e => by
    rw [Lib.decDigits_one h] at e
    injection e with e _
    subst e
    intro q
    have := congrArg UInt8.toNat q
    rw [digit u h] at this
    have e48 : (48 : UInt8).toNat = 48 := rfl
    omega)
  (fun u h ih h1 x r e => by
    rw [dd_big u h] at e
    cases hd : Lib.decDigits (u / 10) with
    | nil => exact absurd hd (dd_ne _)
    | cons y t =>
      rw [hd, List.cons_append] at e
      injection e with e _
      subst e
      exact ih (by omega) y t hd)
theorem dd_short : ∀ u : Nat, ∀ n, 1 ≤ n → u < 10 ^ n → (Lib.decDigits u).length ≤ n := dd_ind
  (fun u h n h1 _ => by rw [Lib.decDigits_one h]; simpa using h1)
  (fun u h ih n h1 hu => by
    obtain ⟨m, rfl⟩ : ∃ m, n = m + 1 := ⟨n - 1, by omega⟩
    rw [Nat.pow_succ] at hu
    have hm : 1 ≤ m := by
      rcases Nat.eq_zero_or_pos m with rfl | hm
      · simp at hu; omega
      · exact hm
    rw [dd_big u h, List.length_append, List.length_singleton]
    have := ih m hm (by omega)
    omega)
theorem foldv_ge : ∀ (l : List UInt8) (v : Nat), v ≤ foldv v l
  | [], v => Nat.le_refl _
  | x :: t, v => by
    have := foldv_ge t (v * 10 + (x.toNat - 48))
    show v ≤ foldv (v * 10 + (x.toNat - 48)) t
    omega
/-! what strconv.Atoi makes of a numeral -/
theorem pu_val : ∀ (l : List UInt8) (v : Nat), (∀ x ∈ l, isD x) → foldv v l ≤ 1000000 → Lib.parseUint10 v l = .ok (foldv v l)
  | [], v, _, _ => rfl
  | x :: t, v, hd, hv => by
    have hx := hd x (by simp)
    have hv' : foldv (v * 10 + (x.toNat - 48)) t ≤ 1000000 := hv
    have g := foldv_ge t (v * 10 + (x.toNat - 48))
    unfold isD at hx
    simp only [Lib.parseUint10]
    rw [if_pos hx, if_neg (by omega), if_neg (by omega)]
    exact pu_val t _ (fun y hy => hd y (by simp [hy])) hv'
theorem pm_dd (u : Nat) (h : u ≤ 1000000) : Lib.parseMag (Lib.decDigits u) = .ok u := by
  unfold Lib.parseMag
  have := pu_val (Lib.decDigits u) 0 (dd_isD u) (by rw [dd_val]; exact h)
  rw [if_neg (dd_ne u), this, dd_val]
theorem atoi_dd (u : Nat) (h : u ≤ 1000000) : Lib.atoiAll (Lib.decDigits u) = .ok (u : Int) := by
  have hm := pm_dd u h
  cases hd : Lib.decDigits u with
  | nil => exact absurd hd (dd_ne u)
  | cons c r =>
    have hc := dd_isD u c (by rw [hd]; simp)
    unfold isD at hc
    rw [hd] at hm
    simp only [Lib.atoiAll]
    rw [if_neg (show ¬ (c.toNat = 43 ∨ c.toNat = 45) by omega), hm]
    simp only []
    rw [if_neg (by omega), if_neg (by omega), if_neg (show ¬ c.toNat = 45 by omega)]
theorem mk_data (l : List UInt8) : (mk l).data.toList = l := rfl
theorem mk_toList (l : List UInt8) : (mk l).toList = l := Lib.toList_data _
theorem mk_extract (l : List UInt8) (i j : Nat) : (mk l).extract i j = mk ((l.drop i).take (j - i)) := by
  apply ByteArray.ext
  apply Array.toList_inj.1
  rw [ByteArray.data_extract, Array.toList_extract]
theorem mk_bt (l : List UInt8) (i : Nat) (h : i < l.length) : bt (mk l) (i : Int) = (l[i].toNat : Int) := by
  unfold bt
  rw [dif_pos (by rw [Int.toNat_natCast, ba_size]; exact h)]
  rfl
def rd (v : Nat) : List UInt8 → Int
  | [] => (v : Int)
  | x :: t => if x.toNat < 48 ∨ 57 < x.toNat then -1 else rd (10 * v + (x.toNat - 48)) t
theorem rd_val : ∀ (l : List UInt8) (v : Nat), (∀ x ∈ l, isD x) → rd v l = (foldv v l : Int)
  | [], v, _ => rfl
  | x :: t, v, h => by
    have hx := h x (by simp)
    unfold isD at hx
    rw [rd, if_neg (by omega), rd_val t _ (fun y hy => h y (by simp [hy]))]
    show ((foldv (10 * v + (x.toNat - 48)) t : Nat) : Int) = ((foldv (v * 10 + (x.toNat - 48)) t : Nat) : Int)
    rw [Nat.mul_comm]
theorem step_v (v d : Nat) (hv : v ≤ 1000000) (h1 : 48 ≤ d) (h2 : d ≤ 57) : wrap64 ((wrap64 (10 * (v : Int))) + (((d : Int) - 48) % 256)) = ((10 * v + (d - 48) : Nat) : Int) := by
  have e1 : ((d : Int) - 48) % 256 = ((d - 48 : Nat) : Int) := by omega
  have e2 : wrap64 (10 * (v : Int)) = ((10 * v : Nat) : Int) := by unfold wrap64; omega
  rw [e1, e2]
  unfold wrap64
  omega
theorem read_l (l : List UInt8) (hl : l.length ≤ 6) : ∀ (d i v : Nat), i + d = l.length → v < 10 ^ i → Ev (fun k => spec_l1Read.l0 k (mk l) (v : Int) (i : Int)) (rd v (l.drop i)) := by
  intro d
  induction d with
  | zero =>
    intro i v hi hv
    have c : ¬ (i : Int) < ((mk l).size : Int) := by rw [ba_size]; omega
    rw [List.drop_eq_nil_of_le (by omega)]
    refine Ev.step (fun k => ?_) (Ev.now _)
    simp only [spec_l1Read.l0, if_neg c, rd]
  | succ d ih =>
    intro i v hi hv
    have hil : i < l.length := by omega
    have c : (i : Int) < ((mk l).size : Int) := by rw [ba_size]; omega
    have g0 : (0 : Int) ≤ (i : Int) := Int.natCast_nonneg _
    have hw : wrap64 ((i : Int) + 1) = ((i + 1 : Nat) : Int) := wsucc i (by omega)
    have hb := mk_bt l i hil
    have hp : 10 ^ i ≤ 10 ^ 6 := Nat.pow_le_pow_right (by decide) (by clear hw; omega)
    rw [List.drop_eq_getElem_cons hil, rd]
    by_cases c1 : l[i].toNat < 48
    · have b1 : bt (mk l) (i : Int) < 48 := by rw [hb]; clear hw; omega
      rw [if_pos (.inl c1)]
      refine Ev.step (fun k => ?_) (Ev.now _)
      simp only [spec_l1Read.l0, if_pos c, if_pos g0, if_pos b1]
    · have b1 : ¬ bt (mk l) (i : Int) < 48 := by rw [hb]; clear hw; omega
      by_cases c2 : 57 < l[i].toNat
      · have b2 : bt (mk l) (i : Int) > 57 := by rw [hb]; clear hw; omega
        rw [if_pos (.inr c2)]
        refine Ev.step (fun k => ?_) (Ev.now _)
        simp only [spec_l1Read.l0, if_pos c, if_pos g0, if_neg b1, if_pos b2]
      · have b2 : ¬ bt (mk l) (i : Int) > 57 := by rw [hb]; clear hw; omega
        rw [if_neg (by omega)]
        have hv2 : 10 * v + (l[i].toNat - 48) < 10 ^ (i + 1) := by rw [Nat.pow_succ]; clear hw; omega
        have ea : wrap64 ((wrap64 (10 * (v : Int))) + ((bt (mk l) (i : Int) - 48) % 256)) = ((10 * v + (l[i].toNat - 48) : Nat) : Int) := by
          rw [hb]; exact step_v v _ (by have := hp; simp at this; clear hw; omega) (by clear hw; omega) (by clear hw; omega)
        clear hb hp
        refine Ev.step (fun k => ?_) (ih (i + 1) _ (by clear hw ea; omega) hv2)
        simp only [spec_l1Read.l0, if_pos c, if_pos g0, if_neg b1, if_neg b2, hw, ea]
theorem j0_false (l : List UInt8) (hl : l.length ≤ 6) : Ev (fun k => spec_l1Read.j0 k (mk l) false) (rd 0 l) := by
  refine Ev.step (f := ?f) (fun k => ?e) ?v
  case e => conv => lhs; simp only [spec_l1Read.j0, Bool.false_eq_true, if_false]
  case v => exact read_l l hl l.length 0 0 (by omega) (by simp)
theorem j0_true (l : List UInt8) : Ev (fun k => spec_l1Read.j0 k (mk l) true) (-1) := Ev.step (fun k => by simp only [spec_l1Read.j0, if_true]) (Ev.now _)
theorem in6 (n : Nat) : spec_l1In.f (n : Int) 1 6 = some (decide (1 ≤ n ∧ n ≤ 6)) := by
  unfold spec_l1In.f
  by_cases h : 1 ≤ n
  · rw [if_pos (by omega)]
    congr 1
    by_cases g : n ≤ 6
    · rw [decide_eq_true (by omega), decide_eq_true ⟨h, g⟩]
    · rw [decide_eq_false (by omega), decide_eq_false (by omega)]
  · rw [if_neg (by omega), decide_eq_false (by omega)]

/-! ### cuts at a byte -/
theorem idx_none (c : UInt8) : ∀ p : List UInt8, c ∉ p → Lib.index p [c] = -1
  | [], _ => rfl
  | x :: t, h => by
    have hx : (c == x) = false := beq_eq_false_iff_ne.2 (fun q => h (by simp [q]))
    simp only [Lib.index, List.isPrefixOf, hx, Bool.false_and, idx_none c t (fun y => h (by simp [y]))]
    rfl
theorem idx_some (c : UInt8) (t : List UInt8) : ∀ p : List UInt8, c ∉ p → Lib.index (p ++ c :: t) [c] = (p.length : Int)
  | [], _ => by simp [Lib.index, List.isPrefixOf]
  | x :: q, h => by
    have hx : (c == x) = false := beq_eq_false_iff_ne.2 (fun z => h (by simp [z]))
    have ih := idx_some c t q (fun y => h (by simp [y]))
    rw [List.cons_append]
    simp only [Lib.index, List.isPrefixOf, hx, Bool.false_and, ih]
    have n1 : (((q.length : Nat) : Int) == -1) = false := beq_eq_false_iff_ne.2 (by omega)
    rw [n1]
    simp
theorem cut_some (c : UInt8) (p t : List UInt8) (h : c ∉ p) : Lib.cut (p ++ c :: t) [c] = (p, t, true) := by
  unfold Lib.cut
  rw [idx_some c t p h, if_pos (by omega), Int.toNat_natCast]
  simp
theorem cut_len (c : UInt8) (l : List UInt8) : (Lib.cut l [c]).1.length ≤ l.length ∧ (Lib.cut l [c]).2.1.length ≤ l.length := by
  unfold Lib.cut
  split
  · simp only [List.length_take, List.length_drop]; omega
  · simp
def sp (c : UInt8) : List UInt8 → List UInt8 → List (List UInt8)
  | cur, [] => [cur]
  | cur, x :: t => if x = c then cur :: sp c [] t else sp c (cur ++ [x]) t
theorem sp_none (c : UInt8) : ∀ (p cur : List UInt8), c ∉ p → sp c cur p = [cur ++ p]
  | [], cur, _ => by simp [sp]
  | x :: t, cur, h => by
    rw [sp, if_neg (fun q => h (by simp [q])), sp_none c t _ (fun y => h (by simp [y]))]
    simp
theorem sp_some (c : UInt8) (t : List UInt8) : ∀ (p cur : List UInt8), c ∉ p → sp c cur (p ++ c :: t) = (cur ++ p) :: sp c [] t
  | [], cur, _ => by simp [sp]
  | x :: q, cur, h => by
    rw [List.cons_append, sp, if_neg (fun z => h (by simp [z])), sp_some c t q _ (fun y => h (by simp [y]))]
    simp
theorem sp_ne (c : UInt8) : ∀ (p cur : List UInt8), sp c cur p ≠ []
  | [], cur => by simp [sp]
  | x :: t, cur => by
    rw [sp]
    split
    · simp
    · exact sp_ne c t _
theorem sp_len (c : UInt8) : ∀ (p cur : List UInt8), (sp c cur p).length ≤ p.length + 1
  | [], cur => by simp [sp]
  | x :: t, cur => by
    rw [sp]
    split
    · have := sp_len c t []; simp only [List.length_cons]; omega
    · have := sp_len c t (cur ++ [x]); simp only [List.length_cons]; omega
theorem sp_mem (c : UInt8) : ∀ (p cur : List UInt8), ∀ w ∈ sp c cur p, w.length ≤ cur.length + p.length
  | [], cur, w, h => by simp [sp] at h; subst h; simp
  | x :: t, cur, w, h => by
    rw [sp] at h
    split at h
    · rcases List.mem_cons.1 h with rfl | h
      · omega
      · have := sp_mem c t [] w h; simp at this ⊢; omega
    · have := sp_mem c t _ w h; simp at this ⊢; omega
theorem join_cons' (x sep : List UInt8) (t : List (List UInt8)) (ht : t ≠ []) : Lib.join (x :: t) sep = x ++ sep ++ Lib.join t sep := by
  cases t with
  | nil => exact absurd rfl ht
  | cons a b => simp [Lib.join, List.intercalate]
theorem join_sp (c : UInt8) : ∀ (p cur : List UInt8), Lib.join (sp c cur p) [c] = cur ++ p
  | [], cur => by rw [sp, Lib.join_one]; simp
  | x :: t, cur => by
    rw [sp]
    split
    · rename_i q
      rw [join_cons' _ _ _ (sp_ne c t []), join_sp c t [], q]; simp
    · rw [join_sp c t _]; simp
theorem sp_join (c : UInt8) : ∀ xs : List (List UInt8), xs ≠ [] → (∀ x ∈ xs, c ∉ x) → sp c [] (Lib.join xs [c]) = xs
  | [], h, _ => absurd rfl h
  | [x], _, h => by rw [Lib.join_one, sp_none c x [] (h x (by simp))]; simp
  | x :: z :: r, _, h => by
    rw [join_cons' _ _ _ (by simp), List.append_assoc]
    show sp c [] (x ++ c :: Lib.join (z :: r) [c]) = _
    rw [sp_some c _ x [] (h x (by simp)), sp_join c (z :: r) (by simp) (fun y hy => h y (by simp at hy ⊢; exact .inr hy))]
    simp
/-- strings.Split's pieces. -/
theorem splitB_sp (c : UInt8) : ∀ (n : Nat) (l : List UInt8), l.length ≤ n → Lib.splitB (mk [c]) 0 (Lib.countB (mk l) (mk [c])) (mk l) = (sp c [] l).map mk := by
  intro n
  induction n with
  | zero =>
    intro l hl
    obtain rfl : l = [] := List.eq_nil_of_length_eq_zero (by omega)
    have hm : Lib.indexB (mk []) (mk [c]) = -1 := idx_none c [] (by simp)
    rw [Lib.countB_miss _ _ hm, Lib.splitB_miss _ _ _ _ hm]
    rfl
  | succ n ih =>
    intro l hl
    by_cases hc : c ∈ l
    · obtain ⟨p, t, rfl, hp⟩ := List.eq_append_cons_of_mem hc
      have hix : Lib.indexB (mk (p ++ c :: t)) (mk [c]) = ((p.length : Nat) : Int) := idx_some c t p hp
      have hs : (mk [c]).size = 1 := rfl
      have e1 : (mk (p ++ c :: t)).extract (p.length + (mk [c]).size) (mk (p ++ c :: t)).size = mk t := by
        rw [mk_extract, hs, ba_size]
        congr 2
        rw [List.take_of_length_le (by simp only [List.length_drop]; omega)]
        simp
      have e0 : (mk (p ++ c :: t)).extract 0 (p.length + 0) = mk p := by
        rw [mk_extract]
        congr 2
        simp
      rw [Lib.countB_hit _ _ _ (by rw [hs]; omega) hix, e1, Nat.add_comm, Lib.splitB_hit _ _ _ _ _ hix, e0, e1, ih t (by simp at hl; omega), sp_some c t p [] hp]
      rfl
    · have hm : Lib.indexB (mk l) (mk [c]) = -1 := idx_none c l hc
      rw [Lib.countB_miss _ _ hm, Lib.splitB_miss _ _ _ _ hm, sp_none c l [] hc]
      rfl
theorem split_l (c : UInt8) (l : List UInt8) (hl : l.length ≤ 1048576) : ∀ (d i f : Nat) (acc : List ByteArray), i + d = l.length → f ≤ i → acc.length ≤ i →
    Ev (fun k => spec_l1Split.l0 k (mk l) (c.toNat : Int) acc (f : Int) (i : Int)) (acc ++ (sp c ((l.drop f).take (i - f)) (l.drop i)).map mk) := by
  intro d
  induction d with
  | zero =>
    intro i f acc hi hf ha
    obtain rfl : i = l.length := by omega
    have c0 : ¬ (l.length : Int) < (l.length : Int) := by omega
    have g1 : (0 : Int) ≤ (f : Int) := Int.natCast_nonneg _
    have g2 : (f : Int) ≤ (l.length : Int) := by omega
    have g3 : acc.length < 8796093022208 := by omega
    have e : l.drop l.length = [] := List.drop_eq_nil_of_le (by omega)
    rw [e]
    refine Ev.step (fun k => ?_) (Ev.now _)
    simp only [spec_l1Split.l0, ba_size, if_neg c0, if_pos g1, if_pos g2, if_pos g3, Int.toNat_natCast, mk_extract, sp, List.map_cons, List.map_nil]
  | succ d ih =>
    intro i f acc hi hf ha
    have hil : i < l.length := by omega
    have c0 : (i : Int) < ((mk l).size : Int) := by rw [ba_size]; omega
    have g0 : (0 : Int) ≤ (i : Int) := Int.natCast_nonneg _
    have g1 : (0 : Int) ≤ (f : Int) := Int.natCast_nonneg _
    have g2 : (f : Int) ≤ (i : Int) := by omega
    have g3 : (i : Int) ≤ ((mk l).size : Int) := by rw [ba_size]; omega
    have g4 : acc.length < 8796093022208 := by omega
    have hw : wrap64 ((i : Int) + 1) = ((i + 1 : Nat) : Int) := wsucc i (by omega)
    have hb := mk_bt l i hil
    rw [List.drop_eq_getElem_cons hil]
    by_cases q : l[i] = c
    · have hb' : bt (mk l) (i : Int) = (c.toNat : Int) := by rw [hb, q]
      have nx := ih (i + 1) (i + 1) (acc ++ [mk ((l.drop f).take (i - f))]) (by clear hw; omega) (Nat.le_refl _) (by rw [List.length_append, List.length_singleton]; clear hw; omega)
      rw [Nat.sub_self, List.take_zero, List.append_assoc] at nx
      rw [sp, if_pos q]
      refine Ev.step (fun k => ?_) nx
      simp only [spec_l1Split.l0, if_pos c0, if_pos g0, hb', if_true, if_pos g1, if_pos g2, if_pos g3, if_pos g4, hw, Int.toNat_natCast, mk_extract]
    · have hb' : ¬ bt (mk l) (i : Int) = (c.toNat : Int) := by
        rw [hb]; intro z
        exact q (UInt8.toNat_inj.1 (by clear hw; omega))
      have nx := ih (i + 1) f acc (by clear hw; omega) (by clear hw; omega) (by clear hw; omega)
      have et : (l.drop f).take (i + 1 - f) = (l.drop f).take (i - f) ++ [l[i]] := by
        rw [show i + 1 - f = (i - f) + 1 by clear hw; omega, List.take_add_one, List.getElem?_drop, show f + (i - f) = i by clear hw; omega, List.getElem?_eq_getElem hil]
        rfl
      rw [et] at nx
      rw [sp, if_neg q]
      refine Ev.step (fun k => ?_) nx
      simp only [spec_l1Split.l0, if_pos c0, if_pos g0, if_neg hb', hw]
theorem split_ev (c : UInt8) (l : List UInt8) (hl : l.length ≤ 1048576) : Ev (fun k => spec_l1Split.f k (mk l) (c.toNat : Int)) ((sp c [] l).map mk) := split_l c l hl l.length 0 0 [] (by omega) (Nat.le_refl _) (by simp)
/-! ### the reference's reading of a numeral, both ways -/
theorem rd_isD : ∀ (l : List UInt8) (v : Nat), 0 ≤ rd v l → ∀ x ∈ l, isD x
  | [], _, _ => by simp
  | y :: t, v, h => by
    rw [rd] at h
    split at h
    · exact absurd h (by decide)
    · rename_i q
      intro x hx
      rcases List.mem_cons.1 hx with rfl | hx
      · unfold isD; omega
      · exact rd_isD t _ h x hx
theorem canon : ∀ (n : Nat) (l : List UInt8), l.length = n → l ≠ [] → (∀ x ∈ l, isD x) → (∀ x r, l = x :: r → x.toNat = 48 → r = []) → Lib.decDigits (foldv 0 l) = l := by
  intro n
  induction n with
  | zero => intro l hn h; exact absurd (List.eq_nil_of_length_eq_zero hn) h
  | succ n ih =>
    intro l hn h hd hz
    obtain ⟨p, x, rfl⟩ : ∃ p x, l = p ++ [x] := ⟨l.dropLast, l.getLast h, (List.dropLast_concat_getLast h).symm⟩
    have hx := hd x (by simp)
    unfold isD at hx
    have ef : foldv 0 (p ++ [x]) = foldv 0 p * 10 + (x.toNat - 48) := by unfold foldv; rw [List.foldl_append]; rfl
    have ex : UInt8.ofNat (48 + (x.toNat - 48)) = x := by
      apply UInt8.toNat_inj.1
      rw [digit _ (by omega)]; omega
    rw [ef]
    cases p with
    | nil =>
      show Lib.decDigits (0 * 10 + (x.toNat - 48)) = [x]
      rw [show 0 * 10 + (x.toNat - 48) = x.toNat - 48 by omega, Lib.decDigits_one (by omega), ex]
    | cons y t =>
      have hy := hd y (by simp)
      unfold isD at hy
      have h48 : y.toNat ≠ 48 := fun q => by
        have := hz y (t ++ [x]) rfl q
        simp at this
      have g := foldv_ge t (0 * 10 + (y.toNat - 48))
      have g1 : 1 ≤ foldv 0 (y :: t) := by show 1 ≤ foldv (0 * 10 + (y.toNat - 48)) t; omega
      have ihp := ih (y :: t) (by simp at hn ⊢; exact hn) (by simp) (fun z hz' => hd z (by simp at hz' ⊢; rcases hz' with a | a; exact .inl a; exact .inr (.inl a))) (fun z r e q => by
        injection e with e1 e2
        subst e1
        exact absurd q h48)
      rw [dd_big _ (by omega), show (foldv 0 (y :: t) * 10 + (x.toNat - 48)) / 10 = foldv 0 (y :: t) by omega, show (foldv 0 (y :: t) * 10 + (x.toNat - 48)) % 10 = x.toNat - 48 by omega, ihp, ex]
theorem read_canon (l : List UInt8) : ∃ r : Int, Ev (fun k => spec_l1Read.f k (mk l)) r ∧ (0 ≤ r → l = Lib.decDigits r.toNat ∧ r.toNat < 1000000) := by
  unfold spec_l1Read.f
  rw [ba_size, in6]
  by_cases h : 1 ≤ l.length ∧ l.length ≤ 6
  · have key : (∀ x r, l = x :: r → x.toNat = 48 → r = []) → (0 ≤ rd 0 l → l = Lib.decDigits (rd 0 l).toNat ∧ (rd 0 l).toNat < 1000000) := fun hz hr => by
      have hd := rd_isD l 0 hr
      have hv := rd_val l 0 hd
      have e := canon l.length l rfl (by intro q; rw [q] at h; simp at h) hd hz
      rw [hv, Int.toNat_natCast, e]
      refine ⟨rfl, ?_⟩
      rcases Nat.lt_or_ge (foldv 0 l) 1000000 with g | g
      · exact g
      · exfalso
        have h7 : ∀ u : Nat, 1000000 ≤ u → 7 ≤ (Lib.decDigits u).length := fun u hu => by
          rw [dd_big u (by omega), dd_big (u / 10) (by omega), dd_big (u / 10 / 10) (by omega), dd_big (u / 10 / 10 / 10) (by omega), dd_big (u / 10 / 10 / 10 / 10) (by omega), dd_big (u / 10 / 10 / 10 / 10 / 10) (by omega)]
          have := dd_ne (u / 10 / 10 / 10 / 10 / 10 / 10)
          have h1 : 1 ≤ (Lib.decDigits (u / 10 / 10 / 10 / 10 / 10 / 10)).length := by
            rcases Nat.eq_zero_or_pos (Lib.decDigits (u / 10 / 10 / 10 / 10 / 10 / 10)).length with z | z
            · exact absurd (List.eq_nil_of_length_eq_zero z) this
            · exact z
          simp only [List.length_append, List.length_singleton]
          omega
        have := h7 _ g
        rw [e] at this
        omega
    rw [decide_eq_true h]
    simp only [Option.bind_some, if_true, if_pos (show (0 : Int) < (l.length : Int) by omega)]
    have hb : ∀ x r, l = x :: r → bt (mk l) 0 = (x.toNat : Int) := fun x r e => by subst e; exact mk_bt (x :: r) 0 (by simp)
    by_cases c : bt (mk l) 0 = 48
    · simp only [if_pos c]
      by_cases g : (l.length : Int) > 1
      · rw [decide_eq_true g]; exact ⟨_, j0_true l, fun q => absurd q (by decide)⟩
      · rw [decide_eq_false g]
        refine ⟨_, j0_false l h.2, key (fun x r e _ => ?_)⟩
        rw [e, List.length_cons] at g
        exact List.eq_nil_of_length_eq_zero (by omega)
    · simp only [if_neg c]
      exact ⟨_, j0_false l h.2, key (fun x r e q => absurd ((hb x r e).trans (by rw [q]; rfl)) c)⟩
  · rw [decide_eq_false h]
    simp only [Option.bind_some, Bool.false_eq_true, if_false]
    exact ⟨_, j0_true l, fun q => absurd q (by decide)⟩
theorem read_dd (u : Nat) (h : u < 1000000) : Ev (fun k => spec_l1Read.f k (mk (Lib.decDigits u))) (u : Int) := by
  have h6 := dd_short u 6 (by decide) (by omega)
  have hr : rd 0 (Lib.decDigits u) = (u : Int) := by rw [rd_val _ _ (dd_isD u), dd_val]
  have hj := j0_false (Lib.decDigits u) h6
  rw [hr] at hj
  unfold spec_l1Read.f
  rw [ba_size, in6]
  cases hd : Lib.decDigits u with
  | nil => exact absurd hd (dd_ne u)
  | cons x t =>
    rw [hd] at h6 hj
    have hl1 : 1 ≤ (x :: t).length ∧ (x :: t).length ≤ 6 := ⟨by simp, h6⟩
    rw [decide_eq_true hl1]
    simp only [Option.bind_some, if_true, if_pos (show (0 : Int) < ((x :: t).length : Int) by have := hl1.1; omega)]
    have hb : bt (mk (x :: t)) 0 = (x.toNat : Int) := mk_bt (x :: t) 0 (by simp)
    by_cases c : bt (mk (x :: t)) 0 = 48
    · simp only [if_pos c]
      have g : ¬ (((x :: t).length : Nat) : Int) > 1 := by
        intro g
        have hu : ¬ 1 ≤ u := fun h1 => dd_head u h1 x t hd (UInt8.toNat_inj.1 (by show x.toNat = 48; rw [hb] at c; omega))
        have e0 : u = 0 := by omega
        subst e0
        rw [Lib.decDigits_one (by decide)] at hd
        injection hd with _ e2
        subst e2
        simp at g
      rw [decide_eq_false g]; exact hj
    · simp only [if_neg c]; exact hj

theorem ev_one {α : Type} {f : Nat → Option α} {a b : α} (h : Ev f a) (g : Ev f b) : a = b := by
  obtain ⟨n, h⟩ := h
  obtain ⟨m, g⟩ := g
  have h1 := h (max n m) (Nat.le_max_left _ _)
  have g1 := g (max n m) (Nat.le_max_right _ _)
  rw [h1] at g1
  exact Option.some.inj g1
abbrev eE (r : Int × Int × Bool × Bool) : S56 := ⟨r.1, r.2.1, r.2.2.1⟩
theorem size1 (p : List UInt8) (x : UInt8) (h : p.length ≤ 1048576) : wrap64 (((mk (p ++ [x])).size : Int) - 1) = (p.length : Int) := by
  rw [ba_size, List.length_append, List.length_singleton]
  unfold wrap64; omega
theorem last_bt (p : List UInt8) (x : UInt8) : bt (mk (p ++ [x])) (p.length : Int) = (x.toNat : Int) := by
  rw [mk_bt _ _ (by simp)]
  simp
theorem ext_p (p : List UInt8) (x : UInt8) : (mk (p ++ [x])).extract 0 p.length = mk p := by
  rw [mk_extract]
  congr 2
  simp
/-! the reference's edge -/
theorem j0R (p : List UInt8) (hp : p.length ≤ 1048576) (x : UInt8) (q s : List UInt8) (hsp : sp 45 [] p = [q, s]) (r1 r2 : Int) (h1 : Ev (fun k => spec_l1Read.f k (mk q)) r1) (h2 : Ev (fun k => spec_l1Read.f k (mk s)) r2) :
    Ev (fun k => spec_piEdge.j0 k (mk (p ++ [x])) (p.length : Int) false) (r1, r2, ((x.toNat : Int) == 98), decide (0 ≤ r1) && decide (0 ≤ r2)) := by
  have g0 : (0 : Int) ≤ (p.length : Int) := Int.natCast_nonneg _
  have g1 : (p.length : Int) ≤ ((mk (p ++ [x])).size : Int) := by rw [ba_size, List.length_append, List.length_singleton]; omega
  have g2 : (p.length : Int) < ((mk (p ++ [x])).size : Int) := by rw [ba_size, List.length_append, List.length_singleton]; omega
  have hs := split_ev 45 p hp
  rw [hsp] at hs
  have c2 : (([mk q, mk s] : List ByteArray).length : Int) = 2 := rfl
  have c0 : (0 : Int) < (([mk q, mk s] : List ByteArray).length : Int) := by show (0 : Int) < ((2 : Nat) : Int); decide
  have c1 : (1 : Int) < (([mk q, mk s] : List ByteArray).length : Int) := by show (1 : Int) < ((2 : Nat) : Int); decide
  have hs' : Ev (fun k => spec_l1Split.f k (mk p) 45) [mk q, mk s] := hs
  refine Ev.step (f := ?f) (fun k => ?e) ?v
  case e => conv => lhs; simp only [spec_piEdge.j0, Bool.false_eq_true, if_false, if_pos g0, if_pos g1, Int.toNat_natCast, ext_p, last_bt, if_pos g2]
  case v =>
    refine Ev.bind hs' ?_
    simp only [if_pos c2, if_pos c0, if_pos c1]
    refine Ev.bind h1 (Ev.bind h2 ?_)
    by_cases z : 0 ≤ r1
    · simp only [ge_iff_le, if_pos z, decide_eq_true z, Bool.true_and]
      exact Ev.now _
    · simp only [ge_iff_le, if_neg z, decide_eq_false z, Bool.false_and]
      exact Ev.now _
theorem j0N (p : List UInt8) (hp : p.length ≤ 1048576) (x : UInt8) (hsp : (sp 45 [] p).length ≠ 2) :
    Ev (fun k => spec_piEdge.j0 k (mk (p ++ [x])) (p.length : Int) false) (0, 0, false, false) := by
  have g0 : (0 : Int) ≤ (p.length : Int) := Int.natCast_nonneg _
  have g1 : (p.length : Int) ≤ ((mk (p ++ [x])).size : Int) := by rw [ba_size, List.length_append, List.length_singleton]; omega
  have hs := split_ev 45 p hp
  have c2 : ¬ (((sp 45 [] p).map mk).length : Int) = 2 := by rw [List.length_map]; omega
  have hs' : Ev (fun k => spec_l1Split.f k (mk p) 45) ((sp 45 [] p).map mk) := hs
  refine Ev.step (f := ?f) (fun k => ?e) ?v
  case e => conv => lhs; simp only [spec_piEdge.j0, Bool.false_eq_true, if_false, if_pos g0, if_pos g1, Int.toNat_natCast, ext_p]
  case v =>
    refine Ev.bind hs' ?_
    simp only [if_neg c2]
    exact Ev.now _
theorem j0T (w : List UInt8) (i : Int) : Ev (fun k => spec_piEdge.j0 k (mk w) i true) (0, 0, false, false) := Ev.step (fun k => by simp only [spec_piEdge.j0, if_true]) (Ev.now _)
theorem fOf (p : List UInt8) (hp : p.length ≤ 1048576) (x : UInt8) (hx : x = 98 ∨ x = 114) (r : Int × Int × Bool × Bool) (h : Ev (fun k => spec_piEdge.j0 k (mk (p ++ [x])) (p.length : Int) false) r) : Ev (fun k => spec_piEdge.f k (mk (p ++ [x]))) r := by
  have c0 : ¬ (p.length : Int) < 0 := by omega
  have g0 : (0 : Int) ≤ (p.length : Int) := Int.natCast_nonneg _
  have g2 : (p.length : Int) < ((mk (p ++ [x])).size : Int) := by rw [ba_size, List.length_append, List.length_singleton]; omega
  unfold spec_piEdge.f
  simp only [size1 p x hp, if_neg c0, if_pos g0, if_pos g2, last_bt]
  rcases hx with rfl | rfl
  · simp only [show (((98 : UInt8).toNat : Nat) : Int) = 98 from rfl, if_true]; exact h
  · have n1 : ¬ (114 : Int) = 98 := by decide
    simp only [show (((114 : UInt8).toNat : Nat) : Int) = 114 from rfl, if_neg n1, bne_self_eq_false]; exact h
theorem specEdgeA (w : List UInt8) (hw : w.length ≤ 1048576) : ∃ r, Ev (fun k => spec_piEdge.f k (mk w)) r ∧ (r.2.2.2 = true → w = et (eE r)) := by
  rcases List.eq_nil_or_concat w with rfl | ⟨p, x, rfl⟩
  · refine ⟨(0, 0, false, false), ?_, fun q => by cases q⟩
    unfold spec_piEdge.f
    have e : wrap64 (((mk []).size : Int) - 1) = -1 := by
      rw [ba_size]
      show wrap64 (((0 : Nat) : Int) - 1) = -1
      unfold wrap64; omega
    simp only [e, show (-1 : Int) < 0 from by decide, if_true]
    exact j0T [] (-1)
  · rw [List.concat_eq_append] at hw ⊢
    have hp : p.length ≤ 1048576 := by rw [List.length_append] at hw; omega
    by_cases hx : x = 98 ∨ x = 114
    · by_cases h2 : (sp 45 [] p).length = 2
      · obtain ⟨q, s, hsp⟩ : ∃ q s, sp 45 [] p = [q, s] := by
          match hh : sp 45 [] p, h2 with
          | [q, s], _ => exact ⟨q, s, rfl⟩
        obtain ⟨r1, h1, k1⟩ := read_canon q
        obtain ⟨r2, h2, k2⟩ := read_canon s
        refine ⟨_, fOf p hp x hx _ (j0R p hp x q s hsp r1 r2 h1 h2), fun ok => ?_⟩
        have ok' : decide (0 ≤ r1) = true ∧ decide (0 ≤ r2) = true := (Bool.and_eq_true _ _).mp ok
        have e1 := (k1 (of_decide_eq_true ok'.1)).1
        have e2 := (k2 (of_decide_eq_true ok'.2)).1
        have ej := join_sp 45 p []
        rw [hsp, join_cons' _ _ _ (by simp), Lib.join_one, List.nil_append] at ej
        show p ++ [x] = Lib.decDigits r1.toNat ++ [45] ++ Lib.decDigits r2.toNat ++ [if ((x.toNat : Int) == 98) = true then 98 else 114]
        rw [← ej, ← e1, ← e2]
        rcases hx with rfl | rfl <;> rfl
      · exact ⟨_, fOf p hp x hx _ (j0N p hp x h2), fun q => by cases q⟩
    · refine ⟨(0, 0, false, false), ?_, fun q => by cases q⟩
      have c0 : ¬ (p.length : Int) < 0 := by omega
      have g0 : (0 : Int) ≤ (p.length : Int) := Int.natCast_nonneg _
      have g2 : (p.length : Int) < ((mk (p ++ [x])).size : Int) := by rw [ba_size, List.length_append, List.length_singleton]; omega
      have n1 : ¬ ((x.toNat : Nat) : Int) = 98 := fun q => hx (.inl (UInt8.toNat_inj.1 (by show x.toNat = 98; omega)))
      have n2 : (((x.toNat : Nat) : Int) != 114) = true := bne_iff_ne.2 (fun q => hx (.inr (UInt8.toNat_inj.1 (by show x.toNat = 114; omega))))
      unfold spec_piEdge.f
      simp only [size1 p x hp, if_neg c0, if_pos g0, if_pos g2, last_bt, if_neg n1, n2]
      exact j0T _ _
theorem dd_not (c : UInt8) (hc : ¬ isD c) (u : Nat) : c ∉ Lib.decDigits u := fun h => hc (dd_isD u c h)
theorem et_form (e : S56) (he : eok e = true) : ∃ a b : Nat, e.f0 = (a : Int) ∧ e.f1 = (b : Int) ∧ a ≤ 10 ∧ b ≤ 10 ∧ et e = (Lib.decDigits a ++ 45 :: Lib.decDigits b) ++ [if e.f2 = true then 98 else 114] := by
  have h := he
  unfold eok at h
  simp only [Bool.and_eq_true, decide_eq_true_eq] at h
  obtain ⟨a, ha⟩ := Int.eq_ofNat_of_zero_le h.1.1
  obtain ⟨b, hb⟩ := Int.eq_ofNat_of_zero_le h.2.1.1
  refine ⟨a, b, ha, hb, by omega, by omega, ?_⟩
  unfold et
  rw [ha, hb, Int.toNat_natCast, Int.toNat_natCast]
  simp
theorem specEdgeB (e : S56) (he : eok e = true) : Ev (fun k => spec_piEdge.f k (mk (et e))) (e.f0, e.f1, e.f2, true) := by
  obtain ⟨a, b, ha, hb, la, lb, ee⟩ := et_form e he
  have l1 := digits_len a (by omega)
  have l2 := digits_len b (by omega)
  have hp : (Lib.decDigits a ++ 45 :: Lib.decDigits b).length ≤ 1048576 := by simp only [List.length_append, List.length_cons]; omega
  have hsp : sp 45 [] (Lib.decDigits a ++ 45 :: Lib.decDigits b) = [Lib.decDigits a, Lib.decDigits b] := by
    rw [sp_some 45 _ _ _ (dd_not 45 (by unfold isD; decide) a), sp_none 45 _ _ (dd_not 45 (by unfold isD; decide) b)]
    simp
  have hj := j0R _ hp (if e.f2 = true then 98 else 114) _ _ hsp (a : Int) (b : Int) (read_dd a (by omega)) (read_dd b (by omega))
  rw [decide_eq_true (Int.natCast_nonneg a), decide_eq_true (Int.natCast_nonneg b), Bool.true_and] at hj
  rw [ee, ha, hb]
  refine fOf _ hp _ ?_ _ ?_
  · cases e.f2 with
    | true => exact .inl rfl
    | false => exact .inr rfl
  · cases hf : e.f2 with
    | true => rw [hf] at hj; exact hj
    | false => rw [hf] at hj; exact hj
/-! the program's edge -/
theorem atoiE (l : List UInt8) (hl : l.length ≤ 1048577) : ∃ r : Int × Bool, Ev (fun k => strconv_Atoi_44.f k (mk l)) r ∧ (∀ a, Lib.atoiAll l = .ok a → r = (a, false)) := by
  have hz : (mk l).size ≤ 281474976710656 := by rw [ba_size]; omega
  cases h : Lib.atoiAll l with
  | ok a => exact ⟨(a, false), ⟨0, fun k _ => by show strconv_Atoi_44.f k (mk l) = _; unfold strconv_Atoi_44.f; rw [if_pos hz, mk_data, h]⟩, fun b q => by injection q with q; rw [q]⟩
  | range => exact ⟨(Lib.atoiSat l, true), ⟨0, fun k _ => by show strconv_Atoi_44.f k (mk l) = _; unfold strconv_Atoi_44.f; rw [if_pos hz, mk_data, h]⟩, fun b q => by cases q⟩
  | _ => exact ⟨(0, true), ⟨0, fun k _ => by show strconv_Atoi_44.f k (mk l) = _; unfold strconv_Atoi_44.f; rw [if_pos hz, mk_data, h]⟩, fun b q => by cases q⟩
theorem rJ (q s : List UInt8) (x : UInt8) (hs : s.length ≤ 1048576) (r1 r2 : Int × Bool) (h1 : Ev (fun k => strconv_Atoi_44.f k (mk q)) r1) (h2 : Ev (fun k => strconv_Atoi_44.f k (mk s)) r2) :
    Ev (fun k => impl_readEdge.j0 k (mk q) (mk (s ++ [x])) false) (r1.1, r2.1, ((x.toNat : Int) == 98), if r1.2 = true then false else !r2.2) := by
  have g0 : (0 : Int) ≤ (s.length : Int) := Int.natCast_nonneg _
  have g1 : (s.length : Int) ≤ ((mk (s ++ [x])).size : Int) := by rw [ba_size, List.length_append, List.length_singleton]; omega
  have g2 : (s.length : Int) < ((mk (s ++ [x])).size : Int) := by rw [ba_size, List.length_append, List.length_singleton]; omega
  refine Ev.step (f := ?f) (fun k => ?e) ?v
  case e => conv => lhs; simp only [impl_readEdge.j0, Bool.false_eq_true, if_false, size1 s x hs, if_pos g0, if_pos g1, Int.toNat_natCast, ext_p, last_bt, if_pos g2]
  case v =>
    refine Ev.bind h1 (Ev.bind h2 ?_)
    cases r1.2 with
    | true => simp only [if_true]; exact Ev.now _
    | false => simp only [Bool.false_eq_true, if_false]; exact Ev.now _
theorem rT (q s : ByteArray) : Ev (fun k => impl_readEdge.j0 k q s true) (0, 0, false, false) := Ev.step (fun k => by simp only [impl_readEdge.j0, if_true]) (Ev.now _)
theorem cutE (w : List UInt8) (hw : w.length ≤ 1048576) : Ev (fun k => strings_Cut.f k (mk w) (⟨#[45]⟩ : ByteArray)) (mk (Lib.cut w [45]).1, mk (Lib.cut w [45]).2.1, (Lib.cut w [45]).2.2) := ⟨0, fun k _ => by
  show strings_Cut.f k (mk w) (⟨#[45]⟩ : ByteArray) = _
  unfold strings_Cut.f
  rw [if_pos (by rw [ba_size]; omega)]⟩
theorem implEdgeA (w : List UInt8) (hw : w.length ≤ 1048576) : ∃ r, Ev (fun k => impl_readEdge.f k (mk w)) r := by
  have hl := cut_len 45 w
  unfold impl_readEdge.f
  cases hf : (Lib.cut w [45]).2.2 with
  | false =>
    refine ⟨(0, 0, false, false), Ev.bind (cutE w hw) ?_⟩
    simp only [hf, Bool.false_eq_true, if_false]
    exact rT _ _
  | true =>
    rcases List.eq_nil_or_concat (Lib.cut w [45]).2.1 with hn | ⟨s, x, hc⟩
    · refine ⟨(0, 0, false, false), Ev.bind (cutE w hw) ?_⟩
      have hz : ((mk (Lib.cut w [45]).2.1).toList == ([] : List UInt8)) = true := by rw [mk_toList, hn]; rfl
      simp only [hf, if_true, hz]
      exact rT _ _
    · rw [List.concat_eq_append] at hc
      have hs : s.length ≤ 1048576 := by have := hl.2; rw [hc, List.length_append] at this; omega
      obtain ⟨r1, h1, _⟩ := atoiE (Lib.cut w [45]).1 (by omega)
      obtain ⟨r2, h2, _⟩ := atoiE s (by omega)
      refine ⟨(r1.1, r2.1, ((x.toNat : Int) == 98), if r1.2 = true then false else !r2.2), Ev.bind (cutE w hw) ?_⟩
      have hz : ((mk (Lib.cut w [45]).2.1).toList == ([] : List UInt8)) = false := by rw [mk_toList, hc]; exact beq_eq_false_iff_ne.2 (by simp)
      simp only [hf, if_true, hz]
      rw [hc]
      exact rJ _ s x hs r1 r2 h1 h2
theorem implEdgeB (e : S56) (he : eok e = true) : Ev (fun k => impl_readEdge.f k (mk (et e))) (e.f0, e.f1, e.f2, true) := by
  obtain ⟨a, b, ha, hb, la, lb, ee⟩ := et_form e he
  have l1 := digits_len a (by omega)
  have l2 := digits_len b (by omega)
  have hw : (et e).length ≤ 1048576 := by have := et_len e he; omega
  have hcut : Lib.cut (et e) [45] = (Lib.decDigits a, Lib.decDigits b ++ [if e.f2 = true then 98 else 114], true) := by
    rw [ee, List.append_assoc]
    exact cut_some 45 _ _ (dd_not 45 (by unfold isD; decide) a)
  have hc := cutE (et e) hw
  rw [hcut] at hc
  obtain ⟨r1, h1, k1⟩ := atoiE (Lib.decDigits a) (by omega)
  obtain ⟨r2, h2, k2⟩ := atoiE (Lib.decDigits b) (by omega)
  have e1 := k1 _ (atoi_dd a (by omega))
  have e2 := k2 _ (atoi_dd b (by omega))
  have hj := rJ (Lib.decDigits a) (Lib.decDigits b) (if e.f2 = true then 98 else 114) (by omega) r1 r2 h1 h2
  rw [e1, e2] at hj
  unfold impl_readEdge.f
  refine Ev.bind hc ?_
  have hz : ((mk (Lib.decDigits b ++ [if e.f2 = true then 98 else 114])).toList == ([] : List UInt8)) = false := by rw [mk_toList]; exact beq_eq_false_iff_ne.2 (by simp)
  simp only [if_true, hz]
  rw [ha, hb]
  cases hf : e.f2 with
  | true => rw [hf] at hj; exact hj
  | false => rw [hf] at hj; exact hj
/-! the rounds -/
def Res (l : List UInt8) (r : List S56 × Bool) : Prop := r = ([], false) ∨ ∃ p : List S56, good p = true ∧ Lib.join (p.map et) [32] = l ∧ r = (p, true)
theorem rd_mk (ws : List (List UInt8)) (i : Nat) (h : i < ws.length) : rdOf ByteArray.empty (ws.map mk) (i : Int) = mk ws[i] := by
  simp [rdOf, List.getD_eq_getElem?_getD, List.getElem?_eq_getElem h]
theorem et_pos (e : S56) : 1 ≤ (et e).length := by unfold et; simp only [List.length_append, List.length_singleton]; omega
theorem join_ge : ∀ xs : List (List UInt8), (∀ x ∈ xs, 1 ≤ x.length) → xs.length ≤ (Lib.join xs [32]).length
  | [], _ => by simp
  | [x], h => by rw [Lib.join_one]; simpa using h x (by simp)
  | x :: z :: r, h => by
    have := join_ge (z :: r) (fun y hy => h y (by simp at hy ⊢; exact .inr hy))
    rw [join_cons' _ _ _ (by simp)]
    simp only [List.length_append, List.length_singleton, List.length_cons] at this ⊢
    omega
theorem good_all {p : List S56} (h : good p = true) : p.all eok = true ∧ p.length ≤ 10 := by
  unfold good at h
  simp only [Bool.and_eq_true, decide_eq_true_eq] at h
  exact ⟨h.1, h.2.1⟩
theorem piIfE (acc : List S56) (h : acc.length ≤ 1048576) : Ev (fun k => spec_piIf.f k acc) (if good acc = true then (acc, true) else ([], false)) := by
  unfold spec_piIf.f
  refine Ev.bind (piGood_ev acc h) ?_
  cases good acc with
  | true => simp only [if_true]; exact Ev.now _
  | false => simp only [Bool.false_eq_true, if_false]; exact Ev.now _
theorem specLoopA (l : List UInt8) (hl : l.length ≤ 1048576) (ws : List (List UInt8)) (hj : Lib.join ws [32] = l) (hw : ∀ w ∈ ws, w.length ≤ 1048576) (hn : ws.length ≤ 1048577) : ∀ (d i : Nat) (acc : List S56), i + d = ws.length → acc.map et = ws.take i →
    ∃ r, Ev (fun k => spec_ParsePicture.l0 k (ws.map mk) (ws.length : Int) (i : Int) acc) r ∧ Res l r := by
  intro d
  induction d with
  | zero =>
    intro i acc hi ha
    have c : ¬ (i : Int) < (ws.length : Int) := by omega
    rw [List.take_of_length_le (by omega)] at ha
    have hlen : acc.length ≤ 1048576 := by
      have := join_ge (acc.map et) (fun x hx => by obtain ⟨y, _, rfl⟩ := List.mem_map.1 hx; exact et_pos y)
      rw [ha, hj] at this
      have e := congrArg List.length ha
      rw [List.length_map] at e
      omega
    have hp := piIfE acc hlen
    refine ⟨if good acc = true then (acc, true) else ([], false), Ev.step (f := ?f) (fun k => ?e) ?v, ?_⟩
    case e => conv => lhs; simp only [spec_ParsePicture.l0, if_neg c]
    case v => exact Ev.bind hp (Ev.now _)
    cases hg : good acc with
    | true => exact .inr ⟨acc, hg, by rw [ha]; exact hj, by rw [if_pos rfl]⟩
    | false => exact .inl (by rw [if_neg (by decide)])
  | succ d ih =>
    intro i acc hi ha
    have hil : i < ws.length := by omega
    have g1 : (i : Int) < (ws.length : Int) := by omega
    have g0 : (0 : Int) ≤ (i : Int) := Int.natCast_nonneg _
    have g2 : (i : Int) < ((ws.map mk).length : Int) := by rw [List.length_map]; omega
    have hw' : wrap64 ((i : Int) + 1) = ((i + 1 : Nat) : Int) := wsucc i (by omega)
    have hac : acc.length < 5864062014805 := by
      have e := congrArg List.length ha
      rw [List.length_map, List.length_take] at e
      clear hw'; omega
    obtain ⟨r, h1, h2⟩ := specEdgeA ws[i] (hw _ (List.getElem_mem hil))
    cases hok : r.2.2.2 with
    | false =>
      refine ⟨([], false), Ev.step (f := ?f1) (fun k => ?e1) ?v1, .inl rfl⟩
      case e1 => conv => lhs; simp only [spec_ParsePicture.l0, if_pos g1, if_pos g0, if_pos g2, rd_mk ws i hil]
      case v1 =>
        refine Ev.bind h1 ?_
        simp only [hok, Bool.false_eq_true, if_false]
        exact Ev.now _
    | true =>
      have he := h2 hok
      obtain ⟨r', k1, k2⟩ := ih (i + 1) (acc ++ [eE r]) (by clear hw'; omega) (by rw [List.map_append, ha, List.take_succ_eq_append_getElem hil, he]; rfl)
      refine ⟨r', Ev.step (f := ?f2) (fun k => ?e2) ?v2, k2⟩
      case e2 => conv => lhs; simp only [spec_ParsePicture.l0, if_pos g1, if_pos g0, if_pos g2, rd_mk ws i hil, hw', if_pos hac]
      case v2 =>
        refine Ev.bind h1 ?_
        simp only [hok, if_true]
        exact k1
theorem specLoopB (p : List S56) (hg : good p = true) : ∀ (d i : Nat), i + d = p.length → Ev (fun k => spec_ParsePicture.l0 k ((p.map et).map mk) ((p.map et).length : Int) (i : Int) (p.take i)) (p, true) := by
  have hp := good_all hg
  intro d
  induction d with
  | zero =>
    intro i hi
    have c : ¬ (i : Int) < ((p.map et).length : Int) := by rw [List.length_map]; omega
    rw [List.take_of_length_le (by omega)]
    have hq := piIfE p (by omega)
    rw [hg, if_pos rfl] at hq
    refine Ev.step (f := ?f) (fun k => ?e) ?v
    case e => conv => lhs; simp only [spec_ParsePicture.l0, if_neg c]
    case v => exact Ev.bind hq (Ev.now _)
  | succ d ih =>
    intro i hi
    have hil : i < p.length := by omega
    have hil' : i < (p.map et).length := by rw [List.length_map]; exact hil
    have g1 : (i : Int) < ((p.map et).length : Int) := by omega
    have g0 : (0 : Int) ≤ (i : Int) := Int.natCast_nonneg _
    have g2 : (i : Int) < (((p.map et).map mk).length : Int) := by rw [List.length_map]; omega
    have hw' : wrap64 ((i : Int) + 1) = ((i + 1 : Nat) : Int) := wsucc i (by omega)
    have hac : (p.take i).length < 5864062014805 := by rw [List.length_take]; clear hw'; omega
    have h1 := specEdgeB p[i] (List.all_eq_true.1 hp.1 _ (List.getElem_mem hil))
    have eg : (p.map et)[i] = et p[i] := by simp
    have nx := ih (i + 1) (by clear hw'; omega)
    rw [List.take_succ_eq_append_getElem hil] at nx
    refine Ev.step (f := ?f2) (fun k => ?e2) ?v2
    case e2 => conv => lhs; simp only [spec_ParsePicture.l0, if_pos g1, if_pos g0, if_pos g2, rd_mk (p.map et) i hil', eg, hw', if_pos hac]
    case v2 =>
      refine Ev.bind h1 ?_
      simp only [if_true]
      exact nx
theorem textE (acc : List S56) (h : acc.length ≤ 10) : Ev (fun k => impl_PictureText.f k acc) (if good acc = true then (mk (Lib.join (acc.map et) [32]), true) else (⟨#[]⟩, false)) := by
  unfold impl_PictureText.f
  refine Ev.bind (isPic_ev acc (by omega)) ?_
  cases hg : good acc with
  | true =>
    have t2 := impl_t acc h (good_all hg).1 acc.length 0 (by omega)
    simp only [if_true]
    unfold impl_picturesText.f
    exact Ev.bind t2 (Ev.now _)
  | false => simp only [Bool.false_eq_true, if_false]; exact Ev.now _
theorem implEnd (l : List UInt8) (ws : List ByteArray) (n i : Int) (hi : ¬ i < n) (acc : List S56) (h : acc.length ≤ 10) : ∃ r, Ev (fun k => impl_ParsePicture.l0 k (mk l) ws n i acc) r ∧ Res l r ∧ (good acc = true → Lib.join (acc.map et) [32] = l → r = (acc, true)) := by
  have ht := textE acc h
  cases hg : good acc with
  | false =>
    rw [hg, if_neg (by decide)] at ht
    refine ⟨([], false), Ev.step (f := ?f) (fun k => ?e) ?v, .inl rfl, fun q => by cases q⟩
    case e => conv => lhs; simp only [impl_ParsePicture.l0, if_neg hi]
    case v =>
      refine Ev.bind ht ?_
      simp only [Bool.false_eq_true, if_false]
      exact Ev.now _
  | true =>
    rw [hg, if_pos rfl] at ht
    by_cases q : Lib.join (acc.map et) [32] = l
    · refine ⟨(acc, true), Ev.step (f := ?f1) (fun k => ?e1) ?v1, .inr ⟨acc, hg, q, rfl⟩, fun _ _ => rfl⟩
      case e1 => conv => lhs; simp only [impl_ParsePicture.l0, if_neg hi]
      case v1 =>
        refine Ev.bind ht ?_
        simp only [if_true, mk_toList, q]
        exact Ev.now _
    · refine ⟨([], false), Ev.step (f := ?f2) (fun k => ?e2) ?v2, .inl rfl, fun _ z => absurd z q⟩
      case e2 => conv => lhs; simp only [impl_ParsePicture.l0, if_neg hi]
      case v2 =>
        refine Ev.bind ht ?_
        simp only [if_true, mk_toList, if_neg q]
        exact Ev.now _
theorem implLoopA (l : List UInt8) (ws : List (List UInt8)) (hw : ∀ w ∈ ws, w.length ≤ 1048576) (hn : ws.length ≤ 1048577) : ∀ (d i : Nat) (acc : List S56), i + d = ws.length → acc.length ≤ 10 →
    ∃ r, Ev (fun k => impl_ParsePicture.l0 k (mk l) (ws.map mk) (ws.length : Int) (i : Int) acc) r ∧ Res l r := by
  intro d
  induction d with
  | zero =>
    intro i acc hi ha
    obtain ⟨r, h1, h2, _⟩ := implEnd l (ws.map mk) (ws.length : Int) (i : Int) (by omega) acc ha
    exact ⟨r, h1, h2⟩
  | succ d ih =>
    intro i acc hi ha
    have hil : i < ws.length := by omega
    have g1 : (i : Int) < (ws.length : Int) := by omega
    have g0 : (0 : Int) ≤ (i : Int) := Int.natCast_nonneg _
    have g2 : (i : Int) < ((ws.map mk).length : Int) := by rw [List.length_map]; omega
    have hw' : wrap64 ((i : Int) + 1) = ((i + 1 : Nat) : Int) := wsucc i (by omega)
    have hac : acc.length < 5864062014805 := by omega
    obtain ⟨r, h1⟩ := implEdgeA ws[i] (hw _ (List.getElem_mem hil))
    cases hok : r.2.2.2 with
    | false =>
      refine ⟨([], false), Ev.step (f := ?f1) (fun k => ?e1) ?v1, .inl rfl⟩
      case e1 => conv => lhs; simp only [impl_ParsePicture.l0, if_pos g1, if_pos g0, if_pos g2, rd_mk ws i hil]
      case v1 =>
        refine Ev.bind h1 ?_
        simp only [hok, Bool.false_eq_true, if_false]
        exact Ev.now _
    | true =>
      by_cases c10 : (acc.length : Int) = 10
      · refine ⟨([], false), Ev.step (f := ?f3) (fun k => ?e3) ?v3, .inl rfl⟩
        case e3 => conv => lhs; simp only [impl_ParsePicture.l0, if_pos g1, if_pos g0, if_pos g2, rd_mk ws i hil]
        case v3 =>
          refine Ev.bind h1 ?_
          simp only [hok, if_true, if_pos c10]
          exact Ev.now _
      · obtain ⟨r', k1, k2⟩ := ih (i + 1) (acc ++ [eE r]) (by clear hw'; omega) (by rw [List.length_append, List.length_singleton]; clear hw'; omega)
        refine ⟨r', Ev.step (f := ?f2) (fun k => ?e2) ?v2, k2⟩
        case e2 => conv => lhs; simp only [impl_ParsePicture.l0, if_pos g1, if_pos g0, if_pos g2, rd_mk ws i hil, hw', if_pos hac]
        case v2 =>
          refine Ev.bind h1 ?_
          simp only [hok, if_true, if_neg c10]
          exact k1
theorem implLoopB (l : List UInt8) (p : List S56) (hg : good p = true) (hl : Lib.join (p.map et) [32] = l) : ∀ (d i : Nat), i + d = p.length → Ev (fun k => impl_ParsePicture.l0 k (mk l) ((p.map et).map mk) ((p.map et).length : Int) (i : Int) (p.take i)) (p, true) := by
  have hp := good_all hg
  intro d
  induction d with
  | zero =>
    intro i hi
    rw [List.take_of_length_le (by omega)]
    obtain ⟨r, h1, _, h3⟩ := implEnd l ((p.map et).map mk) ((p.map et).length : Int) (i : Int) (by rw [List.length_map]; omega) p hp.2
    rw [h3 hg hl] at h1
    exact h1
  | succ d ih =>
    intro i hi
    have hil : i < p.length := by omega
    have hil' : i < (p.map et).length := by rw [List.length_map]; exact hil
    have g1 : (i : Int) < ((p.map et).length : Int) := by omega
    have g0 : (0 : Int) ≤ (i : Int) := Int.natCast_nonneg _
    have g2 : (i : Int) < (((p.map et).map mk).length : Int) := by rw [List.length_map]; omega
    have hw' : wrap64 ((i : Int) + 1) = ((i + 1 : Nat) : Int) := wsucc i (by omega)
    have hac : (p.take i).length < 5864062014805 := by rw [List.length_take]; clear hw'; omega
    have c10 : ¬ ((p.take i).length : Int) = 10 := by rw [List.length_take]; have := hp.2; clear hw'; omega
    have h1 := implEdgeB p[i] (List.all_eq_true.1 hp.1 _ (List.getElem_mem hil))
    have eg : (p.map et)[i] = et p[i] := by simp
    have nx := ih (i + 1) (by clear hw'; omega)
    rw [List.take_succ_eq_append_getElem hil] at nx
    refine Ev.step (f := ?f2) (fun k => ?e2) ?v2
    case e2 => conv => lhs; simp only [impl_ParsePicture.l0, if_pos g1, if_pos g0, if_pos g2, rd_mk (p.map et) i hil', eg, hw', if_pos hac]
    case v2 =>
      refine Ev.bind h1 ?_
      simp only [if_true, if_neg c10]
      exact nx
theorem et_no32 (e : S56) : (32 : UInt8) ∉ et e := fun h => by
  unfold et at h
  simp only [List.mem_append, List.mem_singleton] at h
  rcases h with ((h | h) | h) | h
  · exact dd_not 32 (by unfold isD; decide) _ h
  · exact absurd h (by decide)
  · exact dd_not 32 (by unfold isD; decide) _ h
  · split at h <;> exact absurd h (by decide)
theorem both (l : List UInt8) (hl : l.length ≤ 1048576) : ∃ r, Ev (fun k => spec_ParsePicture.f k (mk l)) r ∧ Ev (fun k => impl_ParsePicture.f k (mk l)) r ∧ r.1.length ≤ 1048576 := by
  unfold spec_ParsePicture.f impl_ParsePicture.f
  by_cases hz : (mk l).toList = ([] : List UInt8)
  · simp only [if_pos hz]
    exact ⟨([], true), Ev.now _, Ev.now _, by simp⟩
  · simp only [if_neg hz]
    have hne : l ≠ [] := by rw [mk_toList] at hz; exact hz
    have hs : Ev (fun k => spec_l1Split.f k (mk l) 32) ((sp 32 [] l).map mk) := split_ev 32 l hl
    have hi : Ev (fun k => strings_Split.f k (mk l) (⟨#[32]⟩ : ByteArray)) ((sp 32 [] l).map mk) := ⟨0, fun k _ => by
      show strings_Split.f k (mk l) (⟨#[32]⟩ : ByteArray) = _
      unfold strings_Split.f
      rw [if_pos ⟨by rw [ba_size]; omega, by decide⟩]
      exact congrArg some (splitB_sp 32 l.length l (Nat.le_refl _))⟩
    have hj := join_sp 32 l []
    rw [List.nil_append] at hj
    have hw : ∀ w ∈ sp 32 [] l, w.length ≤ 1048576 := fun w h => by have := sp_mem 32 l [] w h; simp at this; omega
    have hn : (sp 32 [] l).length ≤ 1048577 := by have := sp_len 32 l []; omega
    obtain ⟨r, s1, s2⟩ := specLoopA l hl (sp 32 [] l) hj hw hn (sp 32 [] l).length 0 [] (by omega) (by simp)
    obtain ⟨r', i1, i2⟩ := implLoopA l (sp 32 [] l) hw hn (sp 32 [] l).length 0 [] (by omega) (by simp)
    have pieces : ∀ p : List S56, Lib.join (p.map et) [32] = l → sp 32 [] l = p.map et := fun p h => by
      rw [← h]
      refine sp_join 32 _ (fun q => ?_) (fun x hx => by obtain ⟨y, _, rfl⟩ := List.mem_map.1 hx; exact et_no32 y)
      rw [q] at h
      exact hne (by rw [← h]; rfl)
    have e : r' = r := by
      rcases s2 with rfl | ⟨p, hg, ht, rfl⟩
      · rcases i2 with rfl | ⟨p, hg, ht, rfl⟩
        · rfl
        · have b := specLoopB p hg p.length 0 (by omega)
          rw [← pieces p ht, List.take_zero] at b
          exact ev_one b s1
      · have b := implLoopB l p hg ht p.length 0 (by omega)
        rw [← pieces p ht, List.take_zero] at b
        exact ev_one i1 b
    subst e
    refine ⟨r', Ev.bind hs ?_, Ev.bind hi ?_, ?_⟩
    · simp only [List.length_map]; exact s1
    · simp only [List.length_map]; exact i1
    · rcases s2 with rfl | ⟨p, hg, _, rfl⟩
      · simp
      · have := (good_all hg).2; show p.length ≤ _; omega
theorem j1_ev (ys : List S56) (m : Nat) (hh : Ev (fun k => laws_heldPicture.f k ys 1) (m : Int)) : Ev (fun k => laws_FnExactParsePicture.j1 k (m : Int) false ys) true := by
  refine Ev.step (f := ?f) (fun k => ?e) ?v
  case e => conv => lhs; simp only [laws_FnExactParsePicture.j1, Bool.false_eq_true, if_false]
  case v =>
    refine Ev.bind hh ?_
    simp only [show ¬ ((m : Int) < 0) from by omega, if_false, if_true]
    exact Ev.now _
theorem j0_ev (s : ByteArray) (R : List S56) (b : Bool) (hR : R.length ≤ 1048576) (hi : Ev (fun k => impl_ParsePicture.f k s) (R, b)) : Ev (fun k => laws_FnExactParsePicture.j0 k s b false R R) true := by
  obtain ⟨ys, m, m1, m2, m3⟩ := markPic_ev R hR
  refine Ev.step (f := ?f) (fun k => ?e) ?v
  case e => conv => lhs; simp only [laws_FnExactParsePicture.j0, Bool.false_eq_true, if_false]
  case v =>
    refine Ev.bind m1 (Ev.bind (heldPic_ev ys m m3) ?_)
    simp only [show ¬ ((m : Int) < 0) from by omega, if_false, if_true]
    refine Ev.bind hi (Ev.bind (eqPic_ev R hR) ?_)
    simp only [if_true, bne_self_eq_false]
    exact j1_ev ys m (heldPic_ev ys m m3)
theorem proved : laws_FnExactParsePicture.Pure := by
  intro s _
  obtain ⟨⟨l⟩⟩ := s
  show ∃ k, laws_FnExactParsePicture.f k (mk l) = some true
  refine Ev.rounds ?_
  unfold laws_FnExactParsePicture.f
  by_cases hb : ((mk l).size : Int) > 1048576
  · simp only [if_pos hb]
    exact Ev.now _
  · simp only [if_neg hb]
    obtain ⟨⟨R, b⟩, s1, s2, s3⟩ := both l (by rw [ba_size] at hb; omega)
    refine Ev.bind s1 (Ev.bind s2 (Ev.bind (eqPic_ev R s3) ?_))
    simp only [if_true, bne_self_eq_false]
    exact j0_ev (mk l) R b s3 s2

end LFnExactParsePicture
theorem FnExactParsePicture : laws_FnExactParsePicture.Pure := LFnExactParsePicture.proved
end Go.Proofs.YtjfhhpkgjdkmdaaDoor.Pure
