/- For any list of edges and any index, what stands when the edge is cut, as the program tells it, is the reference's, in new memory, and the list is left as it was. -/
import Derived.Test.YtlbbfobbflcnfaaQFnExactCutEdgex6
namespace Go.Proofs.Ytlbbfobbflcnfaa.Pure
open Go.RowKit Go.Proofs.Ytlbbfobbflcnfaa.QFnExactCutEdge Go.Proofs.YtlbbfobbflcnfaaW.PrintWords Go.Proofs.YtlbbfobbflcnfaaW.PrintLast
set_option linter.unusedVariables false
set_option linter.unusedSimpArgs false
def laws_FnExactCutEdge.Pure : Prop := ∀ (l0_0 : List (S80)) (a1 : Int), (l0_0.length ≤ maxLen ∧ ∀ y0 ∈ l0_0, ((Lit.int .i64 y0.f0).wf = true ∧ ((Lit.int .i64 y0.f1).wf = true ∧ True))) → (Lit.int .i64 a1).wf = true → ∃ k, laws_FnExactCutEdge.f k l0_0 a1 = some true
namespace LFnExactCutEdge
/-! ### small words -/
theorem wsucc (i : Nat) (h : i < 2 ^ 62) : wrap64 ((i : Int) + 1) = ((i + 1 : Nat) : Int) := by unfold wrap64; omega

/-! ### lists of edges: their size, a copy, the same -/
theorem rdL (xs : List S80) (i : Nat) (h : i < xs.length) : rd_T80 xs (i : Int) = xs[i] := by
  simp [rd_T80, List.getD_eq_getElem?_getD, List.getElem?_eq_getElem h]
theorem rdI (xs : List S55) (i : Nat) (h : i < xs.length) : rd_T55 xs (i : Int) = xs[i] := by
  simp [rd_T55, List.getD_eq_getElem?_getD, List.getElem?_eq_getElem h]
theorem szEdgeS (l : List S80) (h : l.length ≤ maxLen) : laws_szEdgeS.f l 1048576 = some (if l.length > 1048576 then -1 else 1048576 - (l.length : Int)) := by
  unfold maxLen at h
  have hw : wrap64 (1048576 - (l.length : Int)) = 1048576 - (l.length : Int) := by unfold wrap64; omega
  unfold laws_szEdgeS.f
  rw [hw]
  clear hw
  by_cases g : l.length > 1048576
  · rw [if_pos (by omega), if_pos g]
  · rw [if_neg (by omega), if_neg g]
/-- An edge of the program for an edge of the law. -/
def conv (p : S80) : S55 := ⟨p.f0, p.f1, p.f2⟩
theorem toEdgeS_l (l : List S80) (hl : l.length ≤ 1048576) : ∀ (d i : Nat) (ys : List S55), i + d = l.length → ys.length = l.length → (∀ j, j < i → ys[j]? = (l.map conv)[j]?) →
    Ev (fun k => laws_toEdgeS.l0 k l ys (i : Int)) (l.map conv) := by
  intro d
  induction d with
  | zero =>
    intro i ys hi hy hj
    have c : ¬ (i : Int) < (l.length : Int) := by omega
    have : ys = l.map conv := by
      apply List.ext_getElem?
      intro j
      by_cases g : j < i
      · exact hj j g
      · rw [List.getElem?_eq_none (by omega), List.getElem?_eq_none (by rw [List.length_map]; omega)]
    subst this
    refine Ev.step (fun k => ?_) (Ev.now _)
    simp only [laws_toEdgeS.l0, if_neg c]
  | succ d ih =>
    intro i ys hi hy hj
    have g1 : (i : Int) < (l.length : Int) := by omega
    have g1' : (i : Int) < (ys.length : Int) := by omega
    have g2 : (0 : Int) ≤ (i : Int) := Int.natCast_nonneg _
    have hil : i < l.length := by omega
    have hw : wrap64 ((i : Int) + 1) = ((i + 1 : Nat) : Int) := wsucc i (by omega)
    refine Ev.step (fun k => ?_) (ih (i + 1) (ys.set i (conv l[i])) (by clear hw; omega) (by rw [List.length_set]; exact hy) (fun j hjl => ?_))
    · simp only [laws_toEdgeS.l0, if_pos g1, if_pos g2, rdL l i hil, laws_toEdge.f, Option.bind_some, if_pos g1', Int.toNat_natCast, hw]
      rfl
    · rw [List.getElem?_set]
      by_cases e : i = j
      · subst e
        rw [if_pos rfl, if_pos (by clear hw; omega), List.getElem?_map, List.getElem?_eq_getElem hil]
        rfl
      · rw [if_neg e]
        exact hj j (by clear hw; omega)
theorem toEdgeS_ev (l : List S80) (hl : l.length ≤ 1048576) : Ev (fun k => laws_toEdgeS.f k l) (l.map conv) := by
  unfold laws_toEdgeS.f
  simp only [if_pos (Int.natCast_nonneg l.length), Int.toNat_natCast, show l.length ≤ 11728124029610 from by omega, if_true]
  exact toEdgeS_l l hl l.length 0 _ (by omega) (by simp) (fun j hj => by omega)
theorem eqEdgeS_l (l : List S55) (hl : l.length ≤ 1048576) : ∀ (d i : Nat), i + d = l.length → Ev (fun k => laws_eqEdgeS.l0 k l l (i : Int)) true := by
  intro d
  induction d with
  | zero =>
    intro i hi
    have c : ¬ (i : Int) < (l.length : Int) := by omega
    refine Ev.step (fun k => ?_) (Ev.now _)
    simp only [laws_eqEdgeS.l0, if_neg c]
  | succ d ih =>
    intro i hi
    have g1 : (i : Int) < (l.length : Int) := by omega
    have g2 : (0 : Int) ≤ (i : Int) := Int.natCast_nonneg _
    have hw : wrap64 ((i : Int) + 1) = ((i + 1 : Nat) : Int) := wsucc i (by omega)
    refine Ev.step (fun k => ?_) (ih (i + 1) (by clear hw; omega))
    simp only [laws_eqEdgeS.l0, if_pos g1, if_pos g2, laws_eqEdge.f, if_true, Option.bind_some, bne_self_eq_false, Bool.false_eq_true, if_false, hw]
theorem eqEdgeS_ev (l : List S55) (hl : l.length ≤ 1048576) : Ev (fun k => laws_eqEdgeS.f k l l) true := by
  unfold laws_eqEdgeS.f
  simp only [if_true]
  exact eqEdgeS_l l hl l.length 0 (by omega)

/-! ### what is reached, and what is a picture -/
theorem spec_in (e a b : Int) : spec_l1In.f e a b = some (decide (a ≤ e ∧ e ≤ b)) := by
  unfold spec_l1In.f
  by_cases h : e ≥ a
  · rw [if_pos h]; simp [show a ≤ e from h]
  · rw [if_neg h]; simp [show ¬ a ≤ e from h]
theorem impl_in_ (e a b : Int) : impl_in.f e a b = some (decide (a ≤ e ∧ e ≤ b)) := by
  unfold impl_in.f
  by_cases h : e ≥ a
  · rw [if_pos h]; simp [show a ≤ e from h]
  · rw [if_neg h]; simp [show ¬ a ≤ e from h]
structure Sy (s : List Bool) (R : Int → Bool) : Prop where
  len : s.length = 11
  at_ : ∀ n : Nat, n < 11 → rdOf false s (n : Int) = R (n : Int)
theorem rdOf_set (s : List Bool) (i : Nat) (v : Bool) (h : i < s.length) (j : Nat) : rdOf false (s.set i v) (j : Int) = if j = i then v else rdOf false s (j : Int) := by
  unfold rdOf
  rw [Int.toNat_natCast]
  by_cases e : j = i
  · subst e
    rw [if_pos rfl]
    simp [h]
  · rw [if_neg e]
    have : ¬ i = j := fun q => e q.symm
    simp [this]
theorem Sy.set {s : List Bool} {R : Int → Bool} (h : Sy s R) {a b : Nat} (ha : a < 11) (hb : b < 11) : Sy ((s.set a true).set b true) (fun y => if y = (b : Int) then true else if y = (a : Int) then true else R y) := by
  refine ⟨by rw [List.length_set, List.length_set]; exact h.len, fun n hn => ?_⟩
  rw [rdOf_set _ b true (by rw [List.length_set, h.len]; exact hb), rdOf_set _ a true (by rw [h.len]; exact ha), h.at_ n hn]
  by_cases e1 : n = b
  · subst e1; simp
  · have e1' : ¬ (n : Int) = (b : Int) := by omega
    rw [if_neg e1, if_neg e1']
    by_cases e2 : n = a
    · subst e2; simp
    · have e2' : ¬ (n : Int) = (a : Int) := by omega
      rw [if_neg e2, if_neg e2']
theorem okNat {l : List S55} (h : l.all impl_standing.ok = true) {j : Nat} (hj : j < l.length) : ∃ a b : Nat, l[j].f0 = (a : Int) ∧ l[j].f1 = (b : Int) ∧ a < 11 ∧ b < 11 := by
  have := List.all_eq_true.1 h _ (List.getElem_mem hj)
  simp only [impl_standing.ok, decide_eq_true_eq] at this
  exact ⟨l[j].f0.toNat, l[j].f1.toNat, by omega, by omega, by omega, by omega⟩
section
variable (l : List S55) (h : l.all impl_standing.ok = true) (hl : l.length ≤ 10)
include h hl
theorem reach1 (m : Nat) (hm : m < 2 ^ 60) : ∀ (d j : Nat) (s : List Bool) (R : Int → Bool), j + d = l.length → Sy s R → ∃ s', Sy s' ((l.drop j).foldl impl_standing.add R) ∧
    ∀ res, Ev (fun k => spec_piReach.l0 k l s' (l.length : Int) ((m + 1 : Nat) : Int)) res → Ev (fun k => spec_piReach.l1 k l s (l.length : Int) (m : Int) l (l.length : Int) (j : Int)) res := by
  intro d
  induction d with
  | zero =>
    intro j s R hj hs
    have e : l.drop j = [] := List.drop_eq_nil_of_le (by omega)
    have c : ¬ (j : Int) < (l.length : Int) := by omega
    rw [e]
    refine ⟨s, hs, fun res q => Ev.step (fun k => ?_) q⟩
    simp only [spec_piReach.l1, if_neg c, wsucc m (by omega)]
  | succ d ih =>
    intro j s R hj hs
    have hjl : j < l.length := by omega
    have c1 : (j : Int) < (l.length : Int) := by omega
    have c2 : (0 : Int) ≤ (j : Int) := Int.natCast_nonneg _
    obtain ⟨a, b, ea, eb, ha, hb⟩ := okNat h hjl
    have ca : (0 : Int) ≤ (a : Int) := Int.natCast_nonneg _
    have cb : (0 : Int) ≤ (b : Int) := Int.natCast_nonneg _
    have ca2 : (a : Int) < (s.length : Int) := by rw [hs.len]; omega
    have cb2 : (b : Int) < (s.length : Int) := by rw [hs.len]; omega
    have hw := wsucc j (by omega)
    have hrd := rdI l j hjl
    have hsa := hs.at_ a ha
    have hsb := hs.at_ b hb
    rw [List.drop_eq_getElem_cons hjl, List.foldl_cons]
    have hadd : impl_standing.add R l[j] = if (R a || R b) = true then (fun y => if y = (b : Int) then true else if y = (a : Int) then true else R y) else R := by
      unfold impl_standing.add
      rw [ea, eb]
    rw [hadd]
    cases hA : R a with
    | true =>
      obtain ⟨s', q1, q2⟩ := ih (j + 1) _ _ (by clear hw; omega) (hs.set ha hb)
      refine ⟨s', by simpa using q1, fun res q => Ev.step (fun k => ?_) (q2 res q)⟩
      rw [hA] at hsa
      simp only [spec_piReach.l1, if_pos c1, if_pos c2, hrd, ea, eb, if_pos ca, if_pos ca2, hsa, if_true, if_pos cb, if_pos cb2, Int.toNat_natCast, hw]
    | false =>
      rw [hA] at hsa
      cases hB : R b with
      | true =>
        obtain ⟨s', q1, q2⟩ := ih (j + 1) _ _ (by clear hw; omega) (hs.set ha hb)
        refine ⟨s', by simpa using q1, fun res q => Ev.step (fun k => ?_) (q2 res q)⟩
        rw [hB] at hsb
        simp only [spec_piReach.l1, if_pos c1, if_pos c2, hrd, ea, eb, if_pos ca, if_pos ca2, hsa, hsb, Bool.false_eq_true, if_false, if_true, if_pos cb, if_pos cb2, Int.toNat_natCast, hw]
      | false =>
        obtain ⟨s', q1, q2⟩ := ih (j + 1) s R (by clear hw; omega) hs
        refine ⟨s', by simpa using q1, fun res q => Ev.step (fun k => ?_) (q2 res q)⟩
        rw [hB] at hsb
        simp only [spec_piReach.l1, if_pos c1, if_pos c2, hrd, ea, eb, if_pos ca, if_pos ca2, hsa, hsb, Bool.false_eq_true, if_false, if_pos cb, if_pos cb2, hw]
theorem reach0 : ∀ (d m : Nat) (s : List Bool), m + d = l.length → Sy s (impl_standing.reach l m) → ∃ s', Sy s' (impl_standing.reach l l.length) ∧ Ev (fun k => spec_piReach.l0 k l s (l.length : Int) (m : Int)) s' := by
  intro d
  induction d with
  | zero =>
    intro m s hm hs
    obtain rfl : m = l.length := by omega
    have c : ¬ (l.length : Int) < (l.length : Int) := by omega
    refine ⟨s, hs, Ev.step (fun k => ?_) (Ev.now _)⟩
    simp only [spec_piReach.l0, if_neg c]
  | succ d ih =>
    intro m s hm hs
    have c : (m : Int) < (l.length : Int) := by omega
    obtain ⟨s1, q1, q2⟩ := reach1 l h hl m (by omega) l.length 0 s _ (by omega) hs
    obtain ⟨s2, p1, p2⟩ := ih (m + 1) s1 (by omega) q1
    refine ⟨s2, p1, Ev.step (fun k => ?_) (q2 _ p2)⟩
    simp only [spec_piReach.l0, if_pos c]
    rfl
theorem reach_ev : ∃ s, Sy s (impl_standing.reach l l.length) ∧ Ev (fun k => spec_piReach.f k l) s := by
  have h0 : Sy ((List.replicate 11 false).set 0 true) (impl_standing.reach l 0) := by
    refine ⟨by simp, fun n hn => ?_⟩
    rw [show ((List.replicate 11 false).set 0 true) = ((List.replicate 11 false).set ((0 : Nat)) true) from rfl, rdOf_set _ 0 true (by simp)]
    unfold impl_standing.reach
    by_cases e : n = 0
    · subst e; simp
    · have e' : ¬ (n : Int) = 0 := by omega
      rw [if_neg e, if_neg e']
      unfold rdOf
      rw [List.getD_eq_getElem?_getD, Int.toNat_natCast, List.getElem?_replicate, if_pos hn]
      rfl
  obtain ⟨s, q1, q2⟩ := reach0 l h hl l.length 0 _ (by omega) h0
  refine ⟨s, q1, ?_⟩
  unfold spec_piReach.f
  have c : (0 : Int) < ((List.replicate 11 false).length : Int) := by simp
  simp only [show (11 : Nat) ≤ 281474976710656 from by decide, if_true, Option.bind_some, if_pos c]
  exact q2
theorem all_l1 (s : List Bool) (hs : Sy s (impl_standing.reach l l.length)) : ∀ (d j : Nat), j + d = l.length → Ev (fun k => spec_piGood.l1 k s l (l.length : Int) (j : Int)) ((l.drop j).all fun e => impl_standing.reach l l.length e.f0) := by
  intro d
  induction d with
  | zero =>
    intro j hj
    have e : l.drop j = [] := List.drop_eq_nil_of_le (by omega)
    have c : ¬ (j : Int) < (l.length : Int) := by omega
    rw [e]
    refine Ev.step (fun k => ?_) (Ev.now _)
    simp only [spec_piGood.l1, if_neg c]
    rfl
  | succ d ih =>
    intro j hj
    have hjl : j < l.length := by omega
    have c1 : (j : Int) < (l.length : Int) := by omega
    have c2 : (0 : Int) ≤ (j : Int) := Int.natCast_nonneg _
    obtain ⟨a, b, ea, eb, ha, hb⟩ := okNat h hjl
    have ca : (0 : Int) ≤ (a : Int) := Int.natCast_nonneg _
    have ca2 : (a : Int) < (s.length : Int) := by rw [hs.len]; omega
    have hw := wsucc j (by omega)
    have hrd := rdI l j hjl
    have hsa := hs.at_ a ha
    rw [List.drop_eq_getElem_cons hjl, List.all_cons, ea]
    have hn := ih (j + 1) (by clear hw; omega)
    cases hA : impl_standing.reach l l.length a with
    | true =>
      rw [hA] at hsa
      rw [Bool.true_and]
      refine Ev.step (fun k => ?_) hn
      simp only [spec_piGood.l1, if_pos c1, if_pos c2, hrd, ea, if_pos ca, if_pos ca2, hsa, if_true, hw]
    | false =>
      rw [hA] at hsa
      refine Ev.step (fun k => ?_) (Ev.now _)
      simp only [spec_piGood.l1, if_pos c1, if_pos c2, hrd, ea, if_pos ca, if_pos ca2, hsa, Bool.false_eq_true, if_false, Bool.false_and]
end
def eok (e : S55) : Bool := decide (0 ≤ e.f0 ∧ e.f0 ≤ 10) && (decide (0 ≤ e.f1 ∧ e.f1 ≤ 10) && !decide (e.f0 = e.f1))
def reached (l : List S55) : Bool := l.all fun e => impl_standing.reach l l.length e.f0
def good (l : List S55) : Bool := l.all eok && (decide (l.length ≤ 10) && reached l)
theorem ok_of {l : List S55} (h : l.all eok = true) : l.all impl_standing.ok = true := by
  rw [List.all_eq_true] at h ⊢
  intro e he
  have := h e he
  simp only [eok, Bool.and_eq_true, decide_eq_true_eq] at this
  simp only [impl_standing.ok, decide_eq_true_eq]
  exact ⟨this.1.1, this.1.2, this.2.1⟩
theorem tail_s (l : List S55) (h : l.all eok = true) (i : Nat) (hi : ¬ (i : Int) < (l.length : Int)) : Ev (fun k => spec_piGood.l0 k l (l.length : Int) (i : Int) l) (decide (l.length ≤ 10) && reached l) := by
  by_cases g : l.length ≤ 10
  · have c : ¬ (l.length : Int) > 10 := by omega
    obtain ⟨s, q1, q2⟩ := reach_ev l (ok_of h) g
    have q3 := all_l1 l (ok_of h) g s q1 l.length 0 (by omega)
    refine Ev.step (f := ?gga1) (fun k => ?ggb1) ?ggc1
    case ggb1 => conv => lhs; simp only [spec_piGood.l0, if_neg hi, if_neg c]
    case ggc1 =>
      refine Ev.bind q2 ?_
      simpa [g, reached] using q3
  · have c : (l.length : Int) > 10 := by omega
    refine Ev.step (fun k => ?_) (Ev.now _)
    simp only [spec_piGood.l0, if_neg hi, if_pos c]
    simp [g]
theorem tail_i (l : List S55) (h : l.all eok = true) (i : Nat) (hi : ¬ (i : Int) < (l.length : Int)) : Ev (fun k => impl_IsPicture.l0 k l (l.length : Int) (i : Int) l) (decide (l.length ≤ 10) && reached l) := by
  by_cases g : l.length ≤ 10
  · have c : (l.length : Int) ≤ 10 := by omega
    have e : (((l.filter fun e => !!impl_standing.reach l l.length e.f0).length : Int) == (l.length : Int)) = reached l := by
      rw [Bool.eq_iff_iff, beq_iff_eq]
      unfold reached
      rw [List.all_eq_true]
      constructor
      · intro q
        have := List.length_filter_eq_length_iff.1 (Int.ofNat_inj.1 q)
        intro x hx
        simpa using this x hx
      · intro q
        exact congrArg _ (List.length_filter_eq_length_iff.2 (fun x hx => by simpa using q x hx))
    refine Ev.step (fun k => ?_) (Ev.now _)
    simp only [impl_IsPicture.l0, if_neg hi, if_pos c, impl_standing.f, if_pos (show l.length ≤ 10 ∧ l.all impl_standing.ok = true from ⟨g, ok_of h⟩), Option.bind_some, e]
    simp [g]
  · have c : ¬ (l.length : Int) ≤ 10 := by omega
    refine Ev.step (fun k => ?_) (Ev.now _)
    simp only [impl_IsPicture.l0, if_neg hi, if_neg c]
    simp [g]
theorem good_l (l : List S55) (hl : l.length ≤ 1048576) : ∀ (d i : Nat), i + d = l.length → (l.take i).all eok = true → Ev (fun k => spec_piGood.l0 k l (l.length : Int) (i : Int) l) (good l) ∧ Ev (fun k => impl_IsPicture.l0 k l (l.length : Int) (i : Int) l) (good l) := by
  intro d
  induction d with
  | zero =>
    intro i hi hp
    obtain rfl : i = l.length := by omega
    rw [List.take_length] at hp
    have e : good l = (decide (l.length ≤ 10) && reached l) := by unfold good; rw [hp, Bool.true_and]
    rw [e]
    exact ⟨tail_s l hp _ (by omega), tail_i l hp _ (by omega)⟩
  | succ d ih =>
    intro i hi hp
    have hil : i < l.length := by omega
    have c1 : (i : Int) < (l.length : Int) := by omega
    have c2 : (0 : Int) ≤ (i : Int) := Int.natCast_nonneg _
    have hrd := rdI l i hil
    have hw := wsucc i (by omega)
    have bad : eok l[i] = false → good l = false := fun q => by
      unfold good
      have : l.all eok = false := by
        rw [List.all_eq_false]
        exact ⟨_, List.getElem_mem hil, by rw [q]; decide⟩
      rw [this, Bool.false_and]
    by_cases h0 : 0 ≤ l[i].f0 ∧ l[i].f0 ≤ 10
    · by_cases h1 : 0 ≤ l[i].f1 ∧ l[i].f1 ≤ 10
      · by_cases h2 : l[i].f0 = l[i].f1
        · have e := bad (by unfold eok; rw [decide_eq_true h2]; simp)
          rw [e]
          constructor
          · refine Ev.step (fun k => ?_) (Ev.now _)
            simp only [spec_piGood.l0, if_pos c1, if_pos c2, hrd, spec_in, Option.bind_some, decide_eq_true h0, decide_eq_true h1, if_true, if_pos h2]
          · refine Ev.step (fun k => ?_) (Ev.now _)
            simp only [impl_IsPicture.l0, if_pos c1, if_pos c2, hrd, impl_in_, Option.bind_some, decide_eq_true h0, decide_eq_true h1, if_true, if_pos h2]
        · have e : eok l[i] = true := by unfold eok; rw [decide_eq_true h0, decide_eq_true h1, decide_eq_false h2]; rfl
          obtain ⟨q1, q2⟩ := ih (i + 1) (by clear hw; omega) (by rw [List.take_succ_eq_append_getElem hil, List.all_append, hp]; simp [e])
          constructor
          · refine Ev.step (fun k => ?_) q1
            simp only [spec_piGood.l0, if_pos c1, if_pos c2, hrd, spec_in, Option.bind_some, decide_eq_true h0, decide_eq_true h1, if_true, if_neg h2, hw]
          · refine Ev.step (fun k => ?_) q2
            simp only [impl_IsPicture.l0, if_pos c1, if_pos c2, hrd, impl_in_, Option.bind_some, decide_eq_true h0, decide_eq_true h1, if_true, if_neg h2, hw]
      · have e := bad (by unfold eok; rw [decide_eq_false h1]; simp)
        rw [e]
        constructor
        · refine Ev.step (fun k => ?_) (Ev.now _)
          simp only [spec_piGood.l0, if_pos c1, if_pos c2, hrd, spec_in, Option.bind_some, decide_eq_true h0, decide_eq_false h1, if_true, Bool.false_eq_true, if_false]
        · refine Ev.step (fun k => ?_) (Ev.now _)
          simp only [impl_IsPicture.l0, if_pos c1, if_pos c2, hrd, impl_in_, Option.bind_some, decide_eq_true h0, decide_eq_false h1, if_true, Bool.false_eq_true, if_false]
    · have e := bad (by unfold eok; rw [decide_eq_false h0]; simp)
      rw [e]
      constructor
      · refine Ev.step (fun k => ?_) (Ev.now _)
        simp only [spec_piGood.l0, if_pos c1, if_pos c2, hrd, spec_in, Option.bind_some, decide_eq_false h0, Bool.false_eq_true, if_false]
      · refine Ev.step (fun k => ?_) (Ev.now _)
        simp only [impl_IsPicture.l0, if_pos c1, if_pos c2, hrd, impl_in_, Option.bind_some, decide_eq_false h0, Bool.false_eq_true, if_false]
theorem piGood_ev (l : List S55) (hl : l.length ≤ 1048576) : Ev (fun k => spec_piGood.f k l) (good l) := (good_l l hl l.length 0 (by omega) (by simp)).1
theorem isPic_ev (l : List S55) (hl : l.length ≤ 1048576) : Ev (fun k => impl_IsPicture.f k l) (good l) := (good_l l hl l.length 0 (by omega) (by simp)).2
theorem szPic (l : List S80) (h : l.length ≤ maxLen) : laws_szPicture.f l 1048576 = some (if l.length > 1048576 then -1 else 1048576 - (l.length : Int)) := by
  unfold laws_szPicture.f
  rw [szEdgeS l h]
  simp only [Option.bind_some]
  by_cases g : l.length > 1048576
  · rw [if_pos g, if_pos (by decide)]
  · rw [if_neg g, if_neg (by omega)]
theorem toPic_ev (l : List S80) (hl : l.length ≤ 1048576) : Ev (fun k => laws_toPicture.f k l) (l.map conv) := by
  unfold laws_toPicture.f
  exact Ev.bind (toEdgeS_ev l hl) (Ev.now _)
theorem eqPic_ev (l : List S55) (hl : l.length ≤ 1048576) : Ev (fun k => laws_eqPicture.f k l l) true := by
  unfold laws_eqPicture.f
  exact Ev.bind (eqEdgeS_ev l hl) (Ev.now _)

/-! ### marks in a list of edges, and marks that are held -/
theorem rd_set (xs : List S55) (i : Nat) (a : S55) (h : i < xs.length) : rd_T55 (xs.set i a) (i : Int) = a := by
  simp [rd_T55, List.getD_eq_getElem?_getD, List.getElem?_set_self h]
theorem markEdgeS_l : ∀ (d i m : Nat) (xs : List S55), i + d = xs.length → m + 3 * d < 2 ^ 61 → xs.length < 2 ^ 61 →
    ∃ ys : List S55, Ev (fun k => laws_markEdgeS.l0 k xs (m : Int) (i : Int)) (((m + 3 * d : Nat) : Int), ys) ∧ ys.length = xs.length ∧ (∀ j, j < i → ys[j]? = xs[j]?) ∧
      Ev (fun k => laws_heldEdgeS.l0 k ys (m : Int) (i : Int)) ((m + 3 * d : Nat) : Int) := by
  intro d
  induction d with
  | zero =>
    intro i m xs hi hm hx
    have c : ¬ (i : Int) < (xs.length : Int) := by omega
    refine ⟨xs, Ev.step (fun k => ?_) (Ev.now _), rfl, fun _ _ => rfl, Ev.step (fun k => ?_) (Ev.now _)⟩
    · simp only [laws_markEdgeS.l0, if_neg c, Nat.mul_zero, Nat.add_zero]
    · simp only [laws_heldEdgeS.l0, if_neg c, Nat.mul_zero, Nat.add_zero]
  | succ d ih =>
    intro i m xs hi hm hx
    obtain ⟨ys, h1, h2, h3, h4⟩ := ih (i + 1) (m + 3) (xs.set i ⟨(m : Int), ((m + 1 : Nat) : Int), Int.tmod ((m + 2 : Nat) : Int) 3 == 0⟩) (by rw [List.length_set]; omega) (by omega) (by rw [List.length_set]; omega)
    rw [List.length_set] at h2
    have e : m + 3 + 3 * d = m + 3 * (d + 1) := by omega
    rw [e] at h1 h4
    have g1 : (i : Int) < (xs.length : Int) := by omega
    have g1' : (i : Int) < (ys.length : Int) := by omega
    have g2 : (0 : Int) ≤ (i : Int) := Int.natCast_nonneg _
    have hil : i < xs.length := by omega
    have g3 : rd_T55 ys (i : Int) = ⟨(m : Int), ((m + 1 : Nat) : Int), Int.tmod ((m + 2 : Nat) : Int) 3 == 0⟩ := by
      have := h3 i (by omega)
      rw [List.getElem?_set_self (by omega)] at this
      simp [rd_T55, List.getD_eq_getElem?_getD, this]
    refine ⟨ys, Ev.step (fun k => ?_) h1, h2, fun j hj => ?_, Ev.step (fun k => ?_) h4⟩
    · have w1 : wrap64 ((i : Int) + 1) = ((i + 1 : Nat) : Int) := wsucc i (by omega)
      have w2 : wrap64 ((m : Int) + 1) = ((m + 1 : Nat) : Int) := wsucc m (by clear w1; omega)
      have w3 : wrap64 (((m + 1 : Nat) : Int) + 1) = ((m + 2 : Nat) : Int) := wsucc (m + 1) (by clear w1 w2; omega)
      have w4 : wrap64 (((m + 2 : Nat) : Int) + 1) = ((m + 3 : Nat) : Int) := wsucc (m + 2) (by clear w1 w2 w3; omega)
      simp only [laws_markEdgeS.l0, if_pos g1, if_pos g2, Option.bind_some, Int.toNat_natCast, rd_set xs i _ hil, List.set_set, w1, w2, w3, w4]
    · have := h3 j (by omega)
      rwa [List.getElem?_set_ne (by omega)] at this
    · have w1 : wrap64 ((i : Int) + 1) = ((i + 1 : Nat) : Int) := wsucc i (by omega)
      have w2 : wrap64 ((m : Int) + 1) = ((m + 1 : Nat) : Int) := wsucc m (by clear w1; omega)
      have w3 : wrap64 (((m + 1 : Nat) : Int) + 1) = ((m + 2 : Nat) : Int) := wsucc (m + 1) (by clear w1 w2; omega)
      have w4 : wrap64 (((m + 2 : Nat) : Int) + 1) = ((m + 3 : Nat) : Int) := wsucc (m + 2) (by clear w1 w2 w3; omega)
      simp only [laws_heldEdgeS.l0, if_pos g1', if_pos g2, g3, if_true, bne_self_eq_false, Bool.false_eq_true, if_false, w1, w2, w3, w4]
theorem markEdgeS_ev (xs : List S55) (m : Nat) (h : xs.length ≤ 1048576) (hm : m ≤ 1048576) : ∃ ys : List S55, Ev (fun k => laws_markEdgeS.f k xs (m : Int)) (((m + 3 * xs.length : Nat) : Int), ys) ∧ ys.length = xs.length ∧
    Ev (fun k => laws_heldEdgeS.f k ys (m : Int)) ((m + 3 * xs.length : Nat) : Int) := by
  obtain ⟨ys, h1, h2, _, h4⟩ := markEdgeS_l xs.length 0 m xs (by omega) (by omega) (by omega)
  exact ⟨ys, h1, h2, h4⟩

theorem markPic_ev (xs : List S55) (h : xs.length ≤ 1048576) : ∃ ys : List S55, ∃ m : Nat, Ev (fun k => laws_markPicture.f k xs 1) ((m : Int), ys) ∧ ys.length = xs.length ∧ Ev (fun k => laws_heldEdgeS.f k ys 1) (m : Int) := by
  obtain ⟨ys, h1, h2, h4⟩ := markEdgeS_ev xs 1 h (by decide)
  refine ⟨ys, 1 + 3 * xs.length, ?_, h2, h4⟩
  unfold laws_markPicture.f
  exact Ev.bind h1 (Ev.now _)

theorem heldPic_ev (ys : List S55) (m : Nat) (h : Ev (fun k => laws_heldEdgeS.f k ys 1) (m : Int)) : Ev (fun k => laws_heldPicture.f k ys 1) (m : Int) := by
  unfold laws_heldPicture.f
  refine Ev.bind h ?_
  simp only [show ¬ (m : Int) < 0 from by omega, if_false]
  exact Ev.now _

/-! ### what the law asks of a result that is a picture -/
theorem j2_ev (ys : List S55) (m : Nat) (hh : Ev (fun k => laws_heldEdgeS.f k ys 1) (m : Int)) : Ev (fun k => laws_FnExactCutEdge.j2 k (m : Int) false ys) true := by
  refine Ev.step (f := ?gga1) (fun k => ?ggb1) ?ggc1
  case ggb1 => conv => lhs; simp only [laws_FnExactCutEdge.j2, Bool.false_eq_true, if_false]
  case ggc1 =>
    refine Ev.bind (heldPic_ev ys m hh) ?_
    simp only [show ¬ ((m : Int) < 0) from by omega, if_false, if_true]
    exact Ev.now _
theorem j1_ev (l : List S80) (ix : Int) (R : List S55) (b : Bool) (hl : l.length ≤ 1048576) (hR : R.length ≤ 1048576) (hi : Ev (fun k => impl_CutEdge.f k (l.map conv) ix) (R, b)) : Ev (fun k => laws_FnExactCutEdge.j1 k ix b false l R R) true := by
  obtain ⟨ys, m, m1, m2, m3⟩ := markPic_ev R hR
  refine Ev.step (f := ?gga2) (fun k => ?ggb2) ?ggc2
  case ggb2 => conv => lhs; simp only [laws_FnExactCutEdge.j1, Bool.false_eq_true, if_false]
  case ggc2 =>
    refine Ev.bind m1 (Ev.bind (heldPic_ev ys m m3) ?_)
    simp only [show ¬ ((m : Int) < 0) from by omega, if_false, if_true]
    refine Ev.bind (toPic_ev l hl) (Ev.bind hi (Ev.bind (eqPic_ev R hR) ?_))
    simp only [if_true, bne_self_eq_false]
    exact j2_ev ys _ m3
theorem j0_ev (l : List S80) (ix : Int) (R : List S55) (b : Bool) (hl : l.length ≤ 1048576) (hR : R.length ≤ 1048576) (hi : Ev (fun k => impl_CutEdge.f k (l.map conv) ix) (R, b)) : Ev (fun k => laws_FnExactCutEdge.j0 k ix b b false l R (l.map conv) R) true := by
  have hl' : (l.map conv).length ≤ 1048576 := by rw [List.length_map]; exact hl
  obtain ⟨ys, m, m1, m2, m3⟩ := markPic_ev (l.map conv) hl'
  refine Ev.step (f := ?gga3) (fun k => ?ggb3) ?ggc3
  case ggb3 => conv => lhs; simp only [laws_FnExactCutEdge.j0, Bool.false_eq_true, if_false]
  case ggc3 =>
    refine Ev.bind (toPic_ev l hl) (Ev.bind (eqPic_ev _ hl') ?_)
    simp only [if_true]
    refine Ev.bind m1 ?_
    simp only [show ¬ ((m : Int) < 0) from by omega, if_false]
    refine Ev.bind (eqPic_ev R hR) ?_
    simp only [if_true, bne_self_eq_false]
    exact j1_ev l ix R b hl hR hi
theorem tail (l : List S80) (ix : Int) (hm : l.length ≤ maxLen) (both : l.length ≤ 1048576 → ∃ r : List S55 × Bool, Ev (fun k => spec_CutEdge.f k (l.map conv) ix) r ∧ Ev (fun k => impl_CutEdge.f k (l.map conv) ix) r ∧ r.1.length ≤ 1048576) :
    Ev (fun k => laws_FnExactCutEdge.f k l ix) true := by
  unfold laws_FnExactCutEdge.f
  simp only [szPic l hm, Option.bind_some]
  by_cases hb : l.length > 1048576
  · simp only [if_pos hb]
    exact Ev.now _
  · have hl : l.length ≤ 1048576 := by omega
    have c : ¬ (1048576 - (l.length : Int)) < 0 := by omega
    simp only [if_neg hb, if_neg c]
    obtain ⟨⟨R, b⟩, s1, s2, s3⟩ := both hl
    have ht := toPic_ev l hl
    refine Ev.bind ht (Ev.bind s1 (Ev.bind ht (Ev.bind s2 (Ev.bind (eqPic_ev R s3) ?_))))
    simp only [if_true, bne_self_eq_false]
    exact j0_ev l ix R b hl s3 s2

theorem cut_l (l : List S55) (hok : l.all impl_standing.ok = true) (hl : l.length ≤ 10) (s : List Bool) (hs : Sy s (impl_standing.reach l l.length)) : ∀ (d i : Nat), i + d = l.length →
    Ev (fun k => spec_piCut.l0 k s l (l.length : Int) (i : Int) ((l.take i).filter fun e => !!impl_standing.reach l l.length e.f0)) (l.filter fun e => !!impl_standing.reach l l.length e.f0) := by
  intro d
  induction d with
  | zero =>
    intro i hi
    obtain rfl : i = l.length := by omega
    have c : ¬ (l.length : Int) < (l.length : Int) := by omega
    rw [List.take_length]
    refine Ev.step (fun k => ?_) (Ev.now _)
    simp only [spec_piCut.l0, if_neg c]
  | succ d ih =>
    intro i hi
    have hil : i < l.length := by omega
    have c1 : (i : Int) < (l.length : Int) := by omega
    have c2 : (0 : Int) ≤ (i : Int) := Int.natCast_nonneg _
    have hrd := rdI l i hil
    have hw := wsucc i (by omega)
    obtain ⟨a, b, ea, eb, ha, hb⟩ := okNat hok hil
    have ca : (0 : Int) ≤ (a : Int) := Int.natCast_nonneg _
    have ca2 : (a : Int) < (s.length : Int) := by rw [hs.len]; omega
    have hsa := hs.at_ a ha
    have c3 : ((l.take i).filter fun e => !!impl_standing.reach l l.length e.f0).length < 5864062014805 := by
      have h1 := List.length_filter_le (fun e : S55 => !!impl_standing.reach l l.length e.f0) (l.take i)
      rw [List.length_take] at h1
      clear hw
      omega
    have hn := ih (i + 1) (by clear hw; omega)
    rw [List.take_succ_eq_append_getElem hil, List.filter_append] at hn
    cases hA : impl_standing.reach l l.length (a : Int) with
    | true =>
      rw [hA] at hsa
      rw [List.filter_cons, ea, hA] at hn
      refine Ev.step (fun k => ?_) hn
      simp only [spec_piCut.l0, if_pos c1, if_pos c2, hrd, ea, if_pos ca, if_pos ca2, hsa, if_true, if_pos c3, hw]
      rw [← ea]
      rfl
    | false =>
      rw [hA] at hsa
      rw [List.filter_cons, ea, hA] at hn
      simp only [Bool.not_false, Bool.not_true, Bool.false_eq_true, if_false, List.filter_nil, List.append_nil] at hn
      refine Ev.step (fun k => ?_) hn
      simp only [spec_piCut.l0, if_pos c1, if_pos c2, hrd, ea, if_pos ca, if_pos ca2, hsa, Bool.false_eq_true, if_false, hw]
theorem both (l : List S55) (ix : Int) (hl : l.length ≤ 1048576) : ∃ r : List S55 × Bool, Ev (fun k => spec_CutEdge.f k l ix) r ∧ Ev (fun k => impl_CutEdge.f k l ix) r ∧ r.1.length ≤ 1048576 := by
  unfold spec_CutEdge.f impl_CutEdge.f
  have g1 := piGood_ev l hl
  have g2 := isPic_ev l hl
  cases hg : good l with
  | false =>
    rw [hg] at g1 g2
    exact ⟨([], false), Ev.bind g1 (Ev.now _), Ev.bind g2 (Ev.now _), by simp⟩
  | true =>
    rw [hg] at g1 g2
    have hw : wrap64 ((l.length : Int) - 1) = (l.length : Int) - 1 := by unfold wrap64; omega
    by_cases hx : 0 ≤ ix ∧ ix ≤ (l.length : Int) - 1
    · have hgood := hg
      unfold good at hgood
      simp only [Bool.and_eq_true, decide_eq_true_eq] at hgood
      obtain ⟨h1, h2, h3⟩ := hgood
      obtain ⟨hx1, hx2⟩ := hx
      obtain ⟨i, rfl⟩ := Int.eq_ofNat_of_zero_le hx1
      have hil : i < l.length := by clear hw; omega
      have hel : (l.eraseIdx i).length = l.length - 1 := by rw [List.length_eraseIdx, if_pos hil]
      have hok : (l.eraseIdx i).all impl_standing.ok = true := List.all_eq_true.2 (fun x hx => List.all_eq_true.1 (ok_of h1) x (List.mem_of_mem_eraseIdx hx))
      have hel2 : (l.eraseIdx i).length ≤ 10 := by clear hw; omega
      obtain ⟨s, q1, q2⟩ := reach_ev (l.eraseIdx i) hok hel2
      have q3 := cut_l (l.eraseIdx i) hok hel2 s q1 (l.eraseIdx i).length 0 (by omega)
      refine ⟨((l.eraseIdx i).filter fun e => !!impl_standing.reach (l.eraseIdx i) (l.eraseIdx i).length e.f0, true), Ev.bind g1 ?_, Ev.bind g2 ?_, ?_⟩
      · simp only [if_true, hw, spec_in, Option.bind_some, decide_eq_true (show (0 : Int) ≤ (i : Int) ∧ (i : Int) ≤ (l.length : Int) - 1 from ⟨hx1, hx2⟩)]
        have hw2 : wrap64 ((i : Int) + 1) = ((i + 1 : Nat) : Int) := wsucc i (by clear hw; omega)
        have d1 : (i : Int) ≤ (l.length : Int) := by clear hw hw2; omega
        have d2 : (0 : Int) ≤ ((i + 1 : Nat) : Int) := Int.natCast_nonneg _
        have d3 : ((i + 1 : Nat) : Int) ≤ (l.length : Int) := by clear hw hw2; omega
        have d4 : ([] : List S55).length + (l.take i).length < 5864062014805 := by rw [List.length_take]; simp only [List.length_nil]; clear hw hw2; omega
        have d5 : ([] ++ l.take i).length + (l.drop (i + 1)).length < 5864062014805 := by rw [List.nil_append, List.length_take, List.length_drop]; clear hw hw2; omega
        unfold spec_piCut.f
        simp only [Option.bind_some, if_pos hx1, if_pos d1, Int.toNat_natCast, if_pos d4, hw2, if_pos d2, if_pos d3, if_pos d5]
        rw [List.nil_append, ← List.eraseIdx_eq_take_drop_succ]
        exact Ev.bind (Ev.bind q2 q3) (Ev.now _)
      · simp only [if_true, hw, impl_in_, Option.bind_some, decide_eq_true (show (0 : Int) ≤ (i : Int) ∧ (i : Int) ≤ (l.length : Int) - 1 from ⟨hx1, hx2⟩)]
        unfold impl_without.f
        have d6 : (0 : Int) ≤ (i : Int) ∧ (i : Int).toNat < l.length ∧ l.length ≤ 11 := ⟨hx1, by rw [Int.toNat_natCast]; exact hil, by clear hw; omega⟩
        rw [if_pos d6, Int.toNat_natCast]
        unfold impl_standing.f
        rw [if_pos ⟨hel2, hok⟩]
        exact Ev.now _
      · have h4 := List.length_filter_le (fun e : S55 => !!impl_standing.reach (l.eraseIdx i) (l.eraseIdx i).length e.f0) (l.eraseIdx i)
        show ((l.eraseIdx i).filter _).length ≤ _
        clear hw
        omega
    · refine ⟨([], false), Ev.bind g1 ?_, Ev.bind g2 ?_, by simp⟩
      · simp only [if_true, hw, spec_in, Option.bind_some, decide_eq_false hx, Bool.false_eq_true, if_false]
        exact Ev.now _
      · simp only [if_true, hw, impl_in_, Option.bind_some, decide_eq_false hx, Bool.false_eq_true, if_false]
        exact Ev.now _
theorem proved : laws_FnExactCutEdge.Pure := by
  intro l ix h _
  exact Ev.rounds (tail l ix h.1 (fun hl => both _ ix (by rw [List.length_map]; exact hl)))

end LFnExactCutEdge
theorem FnExactCutEdge : laws_FnExactCutEdge.Pure := LFnExactCutEdge.proved
end Go.Proofs.Ytlbbfobbflcnfaa.Pure
