/- For any list of edges, the word of a stalk that the program tells is the reference's, and the list is left as it was. -/
import Derived.Test.YtlbbfobbflcnfaaQFnExactStalkWordx7
namespace Go.Proofs.Ytlbbfobbflcnfaa.Pure
open Go.RowKit Go.Proofs.Ytlbbfobbflcnfaa.QFnExactStalkWord Go.Proofs.YtlbbfobbflcnfaaW.PrintWords Go.Proofs.YtlbbfobbflcnfaaW.PrintLast
set_option linter.unusedVariables false
set_option linter.unusedSimpArgs false
def laws_FnExactStalkWord.Pure : Prop := ∀ (l0_0 : List (S80)), (l0_0.length ≤ maxLen ∧ ∀ y0 ∈ l0_0, ((Lit.int .i64 y0.f0).wf = true ∧ ((Lit.int .i64 y0.f1).wf = true ∧ True))) → ∃ k, laws_FnExactStalkWord.f k l0_0 = some true
namespace LFnExactStalkWord
/-! ### small words -/
theorem wsucc (i : Nat) (h : i < 2 ^ 62) : wrap64 ((i : Int) + 1) = ((i + 1 : Nat) : Int) := by unfold wrap64; omega

/-! ### lists of edges: their size, a copy, the same -/
theorem rdL (xs : List S80) (i : Nat) (h : i < xs.length) : rd_T80 xs (i : Int) = xs[i] := by
  simp [rd_T80, List.getD_eq_getElem?_getD, List.getElem?_eq_getElem h]
theorem rdI (xs : List S55) (i : Nat) (h : i < xs.length) : rd_T55 xs (i : Int) = xs[i] := by
  simp [rd_T55, List.getD_eq_getElem?_getD, List.getElem?_eq_getElem h]
theorem szEdgeS (l : List S80) (h : l.length ≤ maxLen) : laws_szEdgeS.f l 1048576 = some (if l.length > 1048576 then -1 else 1048576 - (l.length : Int)) := by
  unfold maxLen at h
  have hw : wrap64 (1048576 - (l.length : Int)) = 1048576 - (l.length : Int) := by unfold wrap64; omega
  unfold laws_szEdgeS.f
  rw [hw]
  clear hw
  by_cases g : l.length > 1048576
  · rw [if_pos (by omega), if_pos g]
  · rw [if_neg (by omega), if_neg g]
/-- An edge of the program for an edge of the law. -/
def conv (p : S80) : S55 := ⟨p.f0, p.f1, p.f2⟩
theorem toEdgeS_l (l : List S80) (hl : l.length ≤ 1048576) : ∀ (d i : Nat) (ys : List S55), i + d = l.length → ys.length = l.length → (∀ j, j < i → ys[j]? = (l.map conv)[j]?) →
    Ev (fun k => laws_toEdgeS.l0 k l ys (i : Int)) (l.map conv) := by
  intro d
  induction d with
  | zero =>
    intro i ys hi hy hj
    have c : ¬ (i : Int) < (l.length : Int) := by omega
    have : ys = l.map conv := by
      apply List.ext_getElem?
      intro j
      by_cases g : j < i
      · exact hj j g
      · rw [List.getElem?_eq_none (by omega), List.getElem?_eq_none (by rw [List.length_map]; omega)]
    subst this
    refine Ev.step (fun k => ?_) (Ev.now _)
    simp only [laws_toEdgeS.l0, if_neg c]
  | succ d ih =>
    intro i ys hi hy hj
    have g1 : (i : Int) < (l.length : Int) := by omega
    have g1' : (i : Int) < (ys.length : Int) := by omega
    have g2 : (0 : Int) ≤ (i : Int) := Int.natCast_nonneg _
    have hil : i < l.length := by omega
    have hw : wrap64 ((i : Int) + 1) = ((i + 1 : Nat) : Int) := wsucc i (by omega)
    refine Ev.step (fun k => ?_) (ih (i + 1) (ys.set i (conv l[i])) (by clear hw; omega) (by rw [List.length_set]; exact hy) (fun j hjl => ?_))
    · simp only [laws_toEdgeS.l0, if_pos g1, if_pos g2, rdL l i hil, laws_toEdge.f, Option.bind_some, if_pos g1', Int.toNat_natCast, hw]
      rfl
    · rw [List.getElem?_set]
      by_cases e : i = j
      · subst e
        rw [if_pos rfl, if_pos (by clear hw; omega), List.getElem?_map, List.getElem?_eq_getElem hil]
        rfl
      · rw [if_neg e]
        exact hj j (by clear hw; omega)
theorem toEdgeS_ev (l : List S80) (hl : l.length ≤ 1048576) : Ev (fun k => laws_toEdgeS.f k l) (l.map conv) := by
  unfold laws_toEdgeS.f
  simp only [if_pos (Int.natCast_nonneg l.length), Int.toNat_natCast, show l.length ≤ 11728124029610 from by omega, if_true]
  exact toEdgeS_l l hl l.length 0 _ (by omega) (by simp) (fun j hj => by omega)
theorem eqEdgeS_l (l : List S55) (hl : l.length ≤ 1048576) : ∀ (d i : Nat), i + d = l.length → Ev (fun k => laws_eqEdgeS.l0 k l l (i : Int)) true := by
  intro d
  induction d with
  | zero =>
    intro i hi
    have c : ¬ (i : Int) < (l.length : Int) := by omega
    refine Ev.step (fun k => ?_) (Ev.now _)
    simp only [laws_eqEdgeS.l0, if_neg c]
  | succ d ih =>
    intro i hi
    have g1 : (i : Int) < (l.length : Int) := by omega
    have g2 : (0 : Int) ≤ (i : Int) := Int.natCast_nonneg _
    have hw : wrap64 ((i : Int) + 1) = ((i + 1 : Nat) : Int) := wsucc i (by omega)
    refine Ev.step (fun k => ?_) (ih (i + 1) (by clear hw; omega))
    simp only [laws_eqEdgeS.l0, if_pos g1, if_pos g2, laws_eqEdge.f, if_true, Option.bind_some, bne_self_eq_false, Bool.false_eq_true, if_false, hw]
theorem eqEdgeS_ev (l : List S55) (hl : l.length ≤ 1048576) : Ev (fun k => laws_eqEdgeS.f k l l) true := by
  unfold laws_eqEdgeS.f
  simp only [if_true]
  exact eqEdgeS_l l hl l.length 0 (by omega)

/-! ### what is reached, and what is a picture -/
theorem spec_in (e a b : Int) : spec_l1In.f e a b = some (decide (a ≤ e ∧ e ≤ b)) := by
  unfold spec_l1In.f
  by_cases h : e ≥ a
  · rw [if_pos h]; simp [show a ≤ e from h]
  · rw [if_neg h]; simp [show ¬ a ≤ e from h]
theorem impl_in_ (e a b : Int) : impl_in.f e a b = some (decide (a ≤ e ∧ e ≤ b)) := by
  unfold impl_in.f
  by_cases h : e ≥ a
  · rw [if_pos h]; simp [show a ≤ e from h]
  · rw [if_neg h]; simp [show ¬ a ≤ e from h]
structure Sy (s : List Bool) (R : Int → Bool) : Prop where
  len : s.length = 11
  at_ : ∀ n : Nat, n < 11 → rdOf false s (n : Int) = R (n : Int)
theorem rdOf_set (s : List Bool) (i : Nat) (v : Bool) (h : i < s.length) (j : Nat) : rdOf false (s.set i v) (j : Int) = if j = i then v else rdOf false s (j : Int) := by
  unfold rdOf
  rw [Int.toNat_natCast]
  by_cases e : j = i
  · subst e
    rw [if_pos rfl]
    simp [h]
  · rw [if_neg e]
    have : ¬ i = j := fun q => e q.symm
    simp [this]
theorem Sy.set {s : List Bool} {R : Int → Bool} (h : Sy s R) {a b : Nat} (ha : a < 11) (hb : b < 11) : Sy ((s.set a true).set b true) (fun y => if y = (b : Int) then true else if y = (a : Int) then true else R y) := by
  refine ⟨by rw [List.length_set, List.length_set]; exact h.len, fun n hn => ?_⟩
  rw [rdOf_set _ b true (by rw [List.length_set, h.len]; exact hb), rdOf_set _ a true (by rw [h.len]; exact ha), h.at_ n hn]
  by_cases e1 : n = b
  · subst e1; simp
  · have e1' : ¬ (n : Int) = (b : Int) := by omega
    rw [if_neg e1, if_neg e1']
    by_cases e2 : n = a
    · subst e2; simp
    · have e2' : ¬ (n : Int) = (a : Int) := by omega
      rw [if_neg e2, if_neg e2']
theorem okNat {l : List S55} (h : l.all impl_standing.ok = true) {j : Nat} (hj : j < l.length) : ∃ a b : Nat, l[j].f0 = (a : Int) ∧ l[j].f1 = (b : Int) ∧ a < 11 ∧ b < 11 := by
  have := List.all_eq_true.1 h _ (List.getElem_mem hj)
  simp only [impl_standing.ok, decide_eq_true_eq] at this
  exact ⟨l[j].f0.toNat, l[j].f1.toNat, by omega, by omega, by omega, by omega⟩
section
variable (l : List S55) (h : l.all impl_standing.ok = true) (hl : l.length ≤ 10)
include h hl
theorem reach1 (m : Nat) (hm : m < 2 ^ 60) : ∀ (d j : Nat) (s : List Bool) (R : Int → Bool), j + d = l.length → Sy s R → ∃ s', Sy s' ((l.drop j).foldl impl_standing.add R) ∧
    ∀ res, Ev (fun k => spec_piReach.l0 k l s' (l.length : Int) ((m + 1 : Nat) : Int)) res → Ev (fun k => spec_piReach.l1 k l s (l.length : Int) (m : Int) l (l.length : Int) (j : Int)) res := by
  intro d
  induction d with
  | zero =>
    intro j s R hj hs
    have e : l.drop j = [] := List.drop_eq_nil_of_le (by omega)
    have c : ¬ (j : Int) < (l.length : Int) := by omega
    rw [e]
    refine ⟨s, hs, fun res q => Ev.step (fun k => ?_) q⟩
    simp only [spec_piReach.l1, if_neg c, wsucc m (by omega)]
  | succ d ih =>
    intro j s R hj hs
    have hjl : j < l.length := by omega
    have c1 : (j : Int) < (l.length : Int) := by omega
    have c2 : (0 : Int) ≤ (j : Int) := Int.natCast_nonneg _
    obtain ⟨a, b, ea, eb, ha, hb⟩ := okNat h hjl
    have ca : (0 : Int) ≤ (a : Int) := Int.natCast_nonneg _
    have cb : (0 : Int) ≤ (b : Int) := Int.natCast_nonneg _
    have ca2 : (a : Int) < (s.length : Int) := by rw [hs.len]; omega
    have cb2 : (b : Int) < (s.length : Int) := by rw [hs.len]; omega
    have hw := wsucc j (by omega)
    have hrd := rdI l j hjl
    have hsa := hs.at_ a ha
    have hsb := hs.at_ b hb
    rw [List.drop_eq_getElem_cons hjl, List.foldl_cons]
    have hadd : impl_standing.add R l[j] = if (R a || R b) = true then (fun y => if y = (b : Int) then true else if y = (a : Int) then true else R y) else R := by
      unfold impl_standing.add
      rw [ea, eb]
    rw [hadd]
    cases hA : R a with
    | true =>
      obtain ⟨s', q1, q2⟩ := ih (j + 1) _ _ (by clear hw; omega) (hs.set ha hb)
      refine ⟨s', by simpa using q1, fun res q => Ev.step (fun k => ?_) (q2 res q)⟩
      rw [hA] at hsa
      simp only [spec_piReach.l1, if_pos c1, if_pos c2, hrd, ea, eb, if_pos ca, if_pos ca2, hsa, if_true, if_pos cb, if_pos cb2, Int.toNat_natCast, hw]
    | false =>
      rw [hA] at hsa
      cases hB : R b with
      | true =>
        obtain ⟨s', q1, q2⟩ := ih (j + 1) _ _ (by clear hw; omega) (hs.set ha hb)
        refine ⟨s', by simpa using q1, fun res q => Ev.step (fun k => ?_) (q2 res q)⟩
        rw [hB] at hsb
        simp only [spec_piReach.l1, if_pos c1, if_pos c2, hrd, ea, eb, if_pos ca, if_pos ca2, hsa, hsb, Bool.false_eq_true, if_false, if_true, if_pos cb, if_pos cb2, Int.toNat_natCast, hw]
      | false =>
        obtain ⟨s', q1, q2⟩ := ih (j + 1) s R (by clear hw; omega) hs
        refine ⟨s', by simpa using q1, fun res q => Ev.step (fun k => ?_) (q2 res q)⟩
        rw [hB] at hsb
        simp only [spec_piReach.l1, if_pos c1, if_pos c2, hrd, ea, eb, if_pos ca, if_pos ca2, hsa, hsb, Bool.false_eq_true, if_false, if_pos cb, if_pos cb2, hw]
theorem reach0 : ∀ (d m : Nat) (s : List Bool), m + d = l.length → Sy s (impl_standing.reach l m) → ∃ s', Sy s' (impl_standing.reach l l.length) ∧ Ev (fun k => spec_piReach.l0 k l s (l.length : Int) (m : Int)) s' := by
  intro d
  induction d with
  | zero =>
    intro m s hm hs
    obtain rfl : m = l.length := by omega
    have c : ¬ (l.length : Int) < (l.length : Int) := by omega
    refine ⟨s, hs, Ev.step (fun k => ?_) (Ev.now _)⟩
    simp only [spec_piReach.l0, if_neg c]
  | succ d ih =>
    intro m s hm hs
    have c : (m : Int) < (l.length : Int) := by omega
    obtain ⟨s1, q1, q2⟩ := reach1 l h hl m (by omega) l.length 0 s _ (by omega) hs
    obtain ⟨s2, p1, p2⟩ := ih (m + 1) s1 (by omega) q1
    refine ⟨s2, p1, Ev.step (fun k => ?_) (q2 _ p2)⟩
    simp only [spec_piReach.l0, if_pos c]
    rfl
theorem reach_ev : ∃ s, Sy s (impl_standing.reach l l.length) ∧ Ev (fun k => spec_piReach.f k l) s := by
  have h0 : Sy ((List.replicate 11 false).set 0 true) (impl_standing.reach l 0) := by
    refine ⟨by simp, fun n hn => ?_⟩
    rw [show ((List.replicate 11 false).set 0 true) = ((List.replicate 11 false).set ((0 : Nat)) true) from rfl, rdOf_set _ 0 true (by simp)]
    unfold impl_standing.reach
    by_cases e : n = 0
    · subst e; simp
    · have e' : ¬ (n : Int) = 0 := by omega
      rw [if_neg e, if_neg e']
      unfold rdOf
      rw [List.getD_eq_getElem?_getD, Int.toNat_natCast, List.getElem?_replicate, if_pos hn]
      rfl
  obtain ⟨s, q1, q2⟩ := reach0 l h hl l.length 0 _ (by omega) h0
  refine ⟨s, q1, ?_⟩
  unfold spec_piReach.f
  have c : (0 : Int) < ((List.replicate 11 false).length : Int) := by simp
  simp only [show (11 : Nat) ≤ 281474976710656 from by decide, if_true, Option.bind_some, if_pos c]
  exact q2
theorem all_l1 (s : List Bool) (hs : Sy s (impl_standing.reach l l.length)) : ∀ (d j : Nat), j + d = l.length → Ev (fun k => spec_piGood.l1 k s l (l.length : Int) (j : Int)) ((l.drop j).all fun e => impl_standing.reach l l.length e.f0) := by
  intro d
  induction d with
  | zero =>
    intro j hj
    have e : l.drop j = [] := List.drop_eq_nil_of_le (by omega)
    have c : ¬ (j : Int) < (l.length : Int) := by omega
    rw [e]
    refine Ev.step (fun k => ?_) (Ev.now _)
    simp only [spec_piGood.l1, if_neg c]
    rfl
  | succ d ih =>
    intro j hj
    have hjl : j < l.length := by omega
    have c1 : (j : Int) < (l.length : Int) := by omega
    have c2 : (0 : Int) ≤ (j : Int) := Int.natCast_nonneg _
    obtain ⟨a, b, ea, eb, ha, hb⟩ := okNat h hjl
    have ca : (0 : Int) ≤ (a : Int) := Int.natCast_nonneg _
    have ca2 : (a : Int) < (s.length : Int) := by rw [hs.len]; omega
    have hw := wsucc j (by omega)
    have hrd := rdI l j hjl
    have hsa := hs.at_ a ha
    rw [List.drop_eq_getElem_cons hjl, List.all_cons, ea]
    have hn := ih (j + 1) (by clear hw; omega)
    cases hA : impl_standing.reach l l.length a with
    | true =>
      rw [hA] at hsa
      rw [Bool.true_and]
      refine Ev.step (fun k => ?_) hn
      simp only [spec_piGood.l1, if_pos c1, if_pos c2, hrd, ea, if_pos ca, if_pos ca2, hsa, if_true, hw]
    | false =>
      rw [hA] at hsa
      refine Ev.step (fun k => ?_) (Ev.now _)
      simp only [spec_piGood.l1, if_pos c1, if_pos c2, hrd, ea, if_pos ca, if_pos ca2, hsa, Bool.false_eq_true, if_false, Bool.false_and]
end
def eok (e : S55) : Bool := decide (0 ≤ e.f0 ∧ e.f0 ≤ 10) && (decide (0 ≤ e.f1 ∧ e.f1 ≤ 10) && !decide (e.f0 = e.f1))
def reached (l : List S55) : Bool := l.all fun e => impl_standing.reach l l.length e.f0
def good (l : List S55) : Bool := l.all eok && (decide (l.length ≤ 10) && reached l)
theorem ok_of {l : List S55} (h : l.all eok = true) : l.all impl_standing.ok = true := by
  rw [List.all_eq_true] at h ⊢
  intro e he
  have := h e he
  simp only [eok, Bool.and_eq_true, decide_eq_true_eq] at this
  simp only [impl_standing.ok, decide_eq_true_eq]
  exact ⟨this.1.1, this.1.2, this.2.1⟩
theorem tail_s (l : List S55) (h : l.all eok = true) (i : Nat) (hi : ¬ (i : Int) < (l.length : Int)) : Ev (fun k => spec_piGood.l0 k l (l.length : Int) (i : Int) l) (decide (l.length ≤ 10) && reached l) := by
  by_cases g : l.length ≤ 10
  · have c : ¬ (l.length : Int) > 10 := by omega
    obtain ⟨s, q1, q2⟩ := reach_ev l (ok_of h) g
    have q3 := all_l1 l (ok_of h) g s q1 l.length 0 (by omega)
    refine Ev.step (f := ?gga1) (fun k => ?ggb1) ?ggc1
    case ggb1 => conv => lhs; simp only [spec_piGood.l0, if_neg hi, if_neg c]
    case ggc1 =>
      refine Ev.bind q2 ?_
      simpa [g, reached] using q3
  · have c : (l.length : Int) > 10 := by omega
    refine Ev.step (fun k => ?_) (Ev.now _)
    simp only [spec_piGood.l0, if_neg hi, if_pos c]
    simp [g]
theorem tail_i (l : List S55) (h : l.all eok = true) (i : Nat) (hi : ¬ (i : Int) < (l.length : Int)) : Ev (fun k => impl_IsPicture.l0 k l (l.length : Int) (i : Int) l) (decide (l.length ≤ 10) && reached l) := by
  by_cases g : l.length ≤ 10
  · have c : (l.length : Int) ≤ 10 := by omega
    have e : (((l.filter fun e => !!impl_standing.reach l l.length e.f0).length : Int) == (l.length : Int)) = reached l := by
      rw [Bool.eq_iff_iff, beq_iff_eq]
      unfold reached
      rw [List.all_eq_true]
      constructor
      · intro q
        have := List.length_filter_eq_length_iff.1 (Int.ofNat_inj.1 q)
        intro x hx
        simpa using this x hx
      · intro q
        exact congrArg _ (List.length_filter_eq_length_iff.2 (fun x hx => by simpa using q x hx))
    refine Ev.step (fun k => ?_) (Ev.now _)
    simp only [impl_IsPicture.l0, if_neg hi, if_pos c, impl_standing.f, if_pos (show l.length ≤ 10 ∧ l.all impl_standing.ok = true from ⟨g, ok_of h⟩), Option.bind_some, e]
    simp [g]
  · have c : ¬ (l.length : Int) ≤ 10 := by omega
    refine Ev.step (fun k => ?_) (Ev.now _)
    simp only [impl_IsPicture.l0, if_neg hi, if_neg c]
    simp [g]
theorem good_l (l : List S55) (hl : l.length ≤ 1048576) : ∀ (d i : Nat), i + d = l.length → (l.take i).all eok = true → Ev (fun k => spec_piGood.l0 k l (l.length : Int) (i : Int) l) (good l) ∧ Ev (fun k => impl_IsPicture.l0 k l (l.length : Int) (i : Int) l) (good l) := by
  intro d
  induction d with
  | zero =>
    intro i hi hp
    obtain rfl : i = l.length := by omega
    rw [List.take_length] at hp
    have e : good l = (decide (l.length ≤ 10) && reached l) := by unfold good; rw [hp, Bool.true_and]
    rw [e]
    exact ⟨tail_s l hp _ (by omega), tail_i l hp _ (by omega)⟩
  | succ d ih =>
    intro i hi hp
    have hil : i < l.length := by omega
    have c1 : (i : Int) < (l.length : Int) := by omega
    have c2 : (0 : Int) ≤ (i : Int) := Int.natCast_nonneg _
    have hrd := rdI l i hil
    have hw := wsucc i (by omega)
    have bad : eok l[i] = false → good l = false := fun q => by
      unfold good
      have : l.all eok = false := by
        rw [List.all_eq_false]
        exact ⟨_, List.getElem_mem hil, by rw [q]; decide⟩
      rw [this, Bool.false_and]
    by_cases h0 : 0 ≤ l[i].f0 ∧ l[i].f0 ≤ 10
    · by_cases h1 : 0 ≤ l[i].f1 ∧ l[i].f1 ≤ 10
      · by_cases h2 : l[i].f0 = l[i].f1
        · have e := bad (by unfold eok; rw [decide_eq_true h2]; simp)
          rw [e]
          constructor
          · refine Ev.step (fun k => ?_) (Ev.now _)
            simp only [spec_piGood.l0, if_pos c1, if_pos c2, hrd, spec_in, Option.bind_some, decide_eq_true h0, decide_eq_true h1, if_true, if_pos h2]
          · refine Ev.step (fun k => ?_) (Ev.now _)
            simp only [impl_IsPicture.l0, if_pos c1, if_pos c2, hrd, impl_in_, Option.bind_some, decide_eq_true h0, decide_eq_true h1, if_true, if_pos h2]
        · have e : eok l[i] = true := by unfold eok; rw [decide_eq_true h0, decide_eq_true h1, decide_eq_false h2]; rfl
          obtain ⟨q1, q2⟩ := ih (i + 1) (by clear hw; omega) (by rw [List.take_succ_eq_append_getElem hil, List.all_append, hp]; simp [e])
          constructor
          · refine Ev.step (fun k => ?_) q1
            simp only [spec_piGood.l0, if_pos c1, if_pos c2, hrd, spec_in, Option.bind_some, decide_eq_true h0, decide_eq_true h1, if_true, if_neg h2, hw]
          · refine Ev.step (fun k => ?_) q2
            simp only [impl_IsPicture.l0, if_pos c1, if_pos c2, hrd, impl_in_, Option.bind_some, decide_eq_true h0, decide_eq_true h1, if_true, if_neg h2, hw]
      · have e := bad (by unfold eok; rw [decide_eq_false h1]; simp)
        rw [e]
        constructor
        · refine Ev.step (fun k => ?_) (Ev.now _)
          simp only [spec_piGood.l0, if_pos c1, if_pos c2, hrd, spec_in, Option.bind_some, decide_eq_true h0, decide_eq_false h1, if_true, Bool.false_eq_true, if_false]
        · refine Ev.step (fun k => ?_) (Ev.now _)
          simp only [impl_IsPicture.l0, if_pos c1, if_pos c2, hrd, impl_in_, Option.bind_some, decide_eq_true h0, decide_eq_false h1, if_true, Bool.false_eq_true, if_false]
    · have e := bad (by unfold eok; rw [decide_eq_false h0]; simp)
      rw [e]
      constructor
      · refine Ev.step (fun k => ?_) (Ev.now _)
        simp only [spec_piGood.l0, if_pos c1, if_pos c2, hrd, spec_in, Option.bind_some, decide_eq_false h0, Bool.false_eq_true, if_false]
      · refine Ev.step (fun k => ?_) (Ev.now _)
        simp only [impl_IsPicture.l0, if_pos c1, if_pos c2, hrd, impl_in_, Option.bind_some, decide_eq_false h0, Bool.false_eq_true, if_false]
theorem piGood_ev (l : List S55) (hl : l.length ≤ 1048576) : Ev (fun k => spec_piGood.f k l) (good l) := (good_l l hl l.length 0 (by omega) (by simp)).1
theorem isPic_ev (l : List S55) (hl : l.length ≤ 1048576) : Ev (fun k => impl_IsPicture.f k l) (good l) := (good_l l hl l.length 0 (by omega) (by simp)).2
theorem szPic (l : List S80) (h : l.length ≤ maxLen) : laws_szPicture.f l 1048576 = some (if l.length > 1048576 then -1 else 1048576 - (l.length : Int)) := by
  unfold laws_szPicture.f
  rw [szEdgeS l h]
  simp only [Option.bind_some]
  by_cases g : l.length > 1048576
  · rw [if_pos g, if_pos (by decide)]
  · rw [if_neg g, if_neg (by omega)]
theorem toPic_ev (l : List S80) (hl : l.length ≤ 1048576) : Ev (fun k => laws_toPicture.f k l) (l.map conv) := by
  unfold laws_toPicture.f
  exact Ev.bind (toEdgeS_ev l hl) (Ev.now _)
theorem eqPic_ev (l : List S55) (hl : l.length ≤ 1048576) : Ev (fun k => laws_eqPicture.f k l l) true := by
  unfold laws_eqPicture.f
  exact Ev.bind (eqEdgeS_ev l hl) (Ev.now _)

/-! ### what is reached is closed, and its count -/
theorem add_mono {R : Int → Bool} {e : S55} {y : Int} (h : R y = true) : impl_standing.add R e y = true := by
  unfold impl_standing.add
  split
  · show (if y = e.f1 then true else if y = e.f0 then true else R y) = true
    rw [h]
    split
    · rfl
    · split <;> rfl
  · exact h
theorem fold_mono : ∀ (l : List S55) {R : Int → Bool} {y : Int}, R y = true → l.foldl impl_standing.add R y = true
  | [], _, _, h => h
  | e :: r, R, y, h => fold_mono r (add_mono (e := e) h)
theorem add_both {R : Int → Bool} {e : S55} (h : (R e.f0 || R e.f1) = true) : impl_standing.add R e e.f0 = true ∧ impl_standing.add R e e.f1 = true := by
  unfold impl_standing.add
  rw [if_pos h]
  constructor
  · show (if e.f0 = e.f1 then true else if e.f0 = e.f0 then true else R e.f0) = true
    simp
  · show (if e.f1 = e.f1 then true else if e.f1 = e.f0 then true else R e.f1) = true
    simp
def usedE (R : Int → Bool) (e : S55) : Bool := R e.f0 && R e.f1
def Closed (l : List S55) (R : Int → Bool) : Prop := ∀ e ∈ l, (R e.f0 || R e.f1) = true → usedE R e = true
theorem fold_used : ∀ (l : List S55) (R : Int → Bool) (e : S55), e ∈ l → (R e.f0 || R e.f1) = true → usedE (l.foldl impl_standing.add R) e = true
  | [], _, _, h, _ => by cases h
  | x :: r, R, e, h, hR => by
    rw [List.foldl_cons]
    rcases List.mem_cons.1 h with rfl | h
    · obtain ⟨h1, h2⟩ := add_both hR
      unfold usedE
      rw [fold_mono r h1, fold_mono r h2]
      rfl
    · refine fold_used r _ e h ?_
      rw [Bool.or_eq_true] at hR ⊢
      exact hR.imp (fun q => add_mono q) (fun q => add_mono q)
theorem add_closed {R : Int → Bool} {e : S55} (h : (R e.f0 || R e.f1) = true → usedE R e = true) : impl_standing.add R e = R := by
  unfold impl_standing.add
  split
  · rename_i q
    have := h q
    unfold usedE at this
    rw [Bool.and_eq_true] at this
    funext y
    show (if y = e.f1 then true else if y = e.f0 then true else R y) = R y
    split
    · rename_i e1; rw [e1, this.2]
    · split
      · rename_i e2; rw [e2, this.1]
      · rfl
  · rfl
theorem fold_closed : ∀ (l : List S55) (R : Int → Bool), Closed l R → l.foldl impl_standing.add R = R
  | [], _, _ => rfl
  | e :: r, R, h => by
    rw [List.foldl_cons, add_closed (h e (List.mem_cons_self ..))]
    exact fold_closed r R (fun x hx => h x (List.mem_cons_of_mem _ hx))
theorem countP_lt {α : Type} {p q : α → Bool} : ∀ (l : List α), (∀ x ∈ l, p x = true → q x = true) → (∃ x ∈ l, p x = false ∧ q x = true) → l.countP p < l.countP q
  | [], _, ⟨_, h, _⟩ => by cases h
  | y :: r, h1, ⟨x, hx, hp, hq⟩ => by
    rw [List.countP_cons, List.countP_cons]
    have hle : r.countP p ≤ r.countP q := List.countP_mono_left (fun z hz hp => h1 z (List.mem_cons_of_mem _ hz) hp)
    rcases List.mem_cons.1 hx with rfl | hx
    · rw [hp, hq]
      simp
      omega
    · have := countP_lt r (fun z hz => h1 z (List.mem_cons_of_mem _ hz)) ⟨x, hx, hp, hq⟩
      have h2 := h1 y (List.mem_cons_self ..)
      cases hy : p y with
      | false => simp; split <;> omega
      | true => rw [h2 hy]; simp; omega
theorem reach_closed (l : List S55) : ∀ m, Closed l (impl_standing.reach l m) ∨ m ≤ l.countP (usedE (impl_standing.reach l m))
  | 0 => Or.inr (Nat.zero_le _)
  | m + 1 => by
    rcases reach_closed l m with h | h
    · left
      show Closed l (l.foldl impl_standing.add (impl_standing.reach l m))
      rw [fold_closed l _ h]
      exact h
    · by_cases hc : Closed l (impl_standing.reach l m)
      · left
        show Closed l (l.foldl impl_standing.add (impl_standing.reach l m))
        rw [fold_closed l _ hc]
        exact hc
      · right
        obtain ⟨e, he⟩ := Classical.not_forall.1 hc
        obtain ⟨h1, h2⟩ := Classical.not_imp.1 he
        obtain ⟨h3, h4⟩ := Classical.not_imp.1 h2
        have hlt : l.countP (usedE (impl_standing.reach l m)) < l.countP (usedE (l.foldl impl_standing.add (impl_standing.reach l m))) := countP_lt l (fun x hx q => by
          unfold usedE at q ⊢
          rw [Bool.and_eq_true] at q
          rw [fold_mono l q.1, fold_mono l q.2]
          rfl) ⟨e, h1, by simpa using h4, fold_used l _ e h1 h3⟩
        show m + 1 ≤ l.countP (usedE (l.foldl impl_standing.add (impl_standing.reach l m)))
        omega
theorem reach_end (l : List S55) : Closed l (impl_standing.reach l l.length) := by
  rcases reach_closed l l.length with h | h
  · exact h
  · intro e he _
    have hle := List.countP_le_length (l := l) (p := usedE (impl_standing.reach l l.length))
    have : l.countP (usedE (impl_standing.reach l l.length)) = l.length := by omega
    exact List.countP_eq_length.1 this e he
theorem reach_ground (l : List S55) : ∀ m, impl_standing.reach l m 0 = true
  | 0 => rfl
  | m + 1 => fold_mono l (reach_ground l m)
/-- What is reached is a node or the ground. -/
theorem add_node {R : Int → Bool} {e : S55} {y : Int} (h : impl_standing.add R e y = true) : R y = true ∨ y = e.f0 ∨ y = e.f1 := by
  unfold impl_standing.add at h
  split at h
  · have h' : (if y = e.f1 then true else if y = e.f0 then true else R y) = true := h
    split at h'
    · rename_i q; exact Or.inr (Or.inr q)
    · split at h'
      · rename_i q; exact Or.inr (Or.inl q)
      · exact Or.inl h'
  · exact Or.inl h
theorem fold_node : ∀ (l : List S55) {R : Int → Bool} {y : Int}, l.foldl impl_standing.add R y = true → R y = true ∨ ∃ e ∈ l, y = e.f0 ∨ y = e.f1
  | [], _, _, h => Or.inl h
  | e :: r, R, y, h => by
    rcases fold_node r h with q | ⟨x, hx, q⟩
    · rcases add_node q with q | q
      · exact Or.inl q
      · exact Or.inr ⟨e, List.mem_cons_self .., q⟩
    · exact Or.inr ⟨x, List.mem_cons_of_mem _ hx, q⟩
theorem reach_node (l : List S55) : ∀ m y, impl_standing.reach l m y = true → y = 0 ∨ ∃ e ∈ l, y = e.f0 ∨ y = e.f1
  | 0, y, h => by
    have h' : (if y = 0 then true else false) = true := h
    split at h'
    · rename_i q; exact Or.inl q
    · cases h'
  | m + 1, y, h => by
    rcases fold_node l (show l.foldl impl_standing.add (impl_standing.reach l m) y = true from h) with q | q
    · exact reach_node l m y q
    · exact Or.inr q
open Go.Proofs.Ytlbbfobbflcnfaa.Mp in
theorem keys_mem (l : List S55) : ∀ (L : List Int) (y : Int), y ∈ l.foldl (fun L e => addKey (addKey L e.f0) e.f1) L ↔ y ∈ L ∨ ∃ e ∈ l, y = e.f0 ∨ y = e.f1 := by
  induction l with
  | nil => intro L y; simp
  | cons e r ih =>
    intro L y
    rw [List.foldl_cons, ih, addKey_mem, addKey_mem]
    constructor
    · rintro ((q | q | q) | ⟨x, hx, q⟩)
      · exact Or.inr ⟨e, List.mem_cons_self .., Or.inr q⟩
      · exact Or.inr ⟨e, List.mem_cons_self .., Or.inl q⟩
      · exact Or.inl q
      · exact Or.inr ⟨x, List.mem_cons_of_mem _ hx, q⟩
    · rintro (q | ⟨x, hx, q⟩)
      · exact Or.inl (Or.inr (Or.inr q))
      · rcases List.mem_cons.1 hx with rfl | hx
        · exact Or.inl (q.elim (fun a => Or.inr (Or.inl a)) Or.inl)
        · exact Or.inr ⟨x, hx, q⟩
open Go.Proofs.Ytlbbfobbflcnfaa.Mp in
theorem keys_nodup (l : List S55) : ∀ (L : List Int), L.Nodup → (l.foldl (fun L e => addKey (addKey L e.f0) e.f1) L).Nodup := by
  induction l with
  | nil => intro L h; exact h
  | cons e r ih => intro L h; exact ih _ (addKey_nodup _ _ (addKey_nodup _ _ h))
/-- As many keys as nodes that are reached, where all edges stand. -/
theorem keys_count (l : List S55) (hok : l.all impl_standing.ok = true) (hr : reached l = true) : (impl_isTree.keys l).length = (List.range 11).countP fun n : Nat => impl_standing.reach l l.length (n : Int) := by
  have hmem : ∀ y, y ∈ impl_isTree.keys l ↔ impl_standing.reach l l.length y = true := by
    intro y
    unfold impl_isTree.keys
    rw [keys_mem]
    constructor
    · rintro (q | ⟨e, he, q⟩)
      · rw [List.mem_singleton] at q
        rw [q]
        exact reach_ground l _
      · have h0 := List.all_eq_true.1 hr e he
        have hc := reach_end l e he (by rw [Bool.or_eq_true]; exact Or.inl h0)
        unfold usedE at hc
        rw [Bool.and_eq_true] at hc
        rcases q with rfl | rfl
        · exact hc.1
        · exact hc.2
    · intro q
      rcases reach_node l _ y q with q | q
      · exact Or.inl (by rw [q]; exact List.mem_singleton.2 rfl)
      · exact Or.inr q
  have hnd : (impl_isTree.keys l).Nodup := keys_nodup l [0] (by simp)
  have hin : ∀ y, y ∈ impl_isTree.keys l → 0 ≤ y ∧ y < 11 := by
    intro y hy
    unfold impl_isTree.keys at hy
    rcases (keys_mem l [0] y).1 hy with q | ⟨e, he, q⟩
    · rw [List.mem_singleton] at q; omega
    · have := List.all_eq_true.1 hok e he
      simp only [impl_standing.ok, decide_eq_true_eq] at this
      rcases q with rfl | rfl <;> omega
  rw [List.countP_eq_length_filter]
  have e1 := Go.Proofs.Ytlbbfobbflcnfaa.Mp.nodup_le (impl_isTree.keys l) (((List.range 11).filter fun n : Nat => impl_standing.reach l l.length (n : Int)).map fun n : Nat => (n : Int)) hnd (fun y hy => by
    have h1 := hin y hy
    refine List.mem_map.2 ⟨y.toNat, List.mem_filter.2 ⟨List.mem_range.2 (by omega), ?_⟩, by omega⟩
    have : ((y.toNat : Nat) : Int) = y := by omega
    rw [this]
    exact (hmem y).1 hy)
  have e2 := Go.Proofs.Ytlbbfobbflcnfaa.Mp.nodup_le (((List.range 11).filter fun n : Nat => impl_standing.reach l l.length (n : Int)).map fun n : Nat => (n : Int)) (impl_isTree.keys l) (by
    refine List.Pairwise.map _ ?_ (List.Pairwise.filter _ List.nodup_range)
    intro a b h e
    exact h (Int.ofNat_inj.1 e)) (fun y hy => by
    obtain ⟨n, hn, rfl⟩ := List.mem_map.1 hy
    exact (hmem _).2 (List.mem_filter.1 hn).2)
  rw [List.length_map] at e1 e2
  omega
theorem piTree_l (l : List S55) (hl : l.length ≤ 10) (s : List Bool) (hs : Sy s (impl_standing.reach l l.length)) : ∀ (d i c : Nat), i + d = 11 → c ≤ i →
    Ev (fun k => spec_piTree.l0 k (c : Int) s (s.length : Int) (i : Int) l) ((((c + (((List.range 11).drop i).countP fun n : Nat => impl_standing.reach l l.length (n : Int))) : Nat) : Int) == ((l.length + 1 : Nat) : Int)) := by
  intro d
  have hlen := hs.len
  induction d with
  | zero =>
    intro i c hi hc
    obtain rfl : i = 11 := by omega
    have c1 : ¬ ((11 : Nat) : Int) < (s.length : Int) := by omega
    refine Ev.step (fun k => ?_) (Ev.now _)
    simp only [spec_piTree.l0, if_neg c1, wsucc l.length (by omega)]
    rfl
  | succ d ih =>
    intro i c hi hc
    have c1 : (i : Int) < (s.length : Int) := by omega
    have c2 : (0 : Int) ≤ (i : Int) := Int.natCast_nonneg _
    have hat := hs.at_ i (by omega)
    have hw := wsucc i (by omega)
    have hw2 := wsucc c (by clear hw; omega)
    have hil : i < (List.range 11).length := by rw [List.length_range]; clear hw hw2; omega
    have hd : (List.range 11).drop i = i :: (List.range 11).drop (i + 1) := by
      rw [List.drop_eq_getElem_cons hil, List.getElem_range]
    rw [hd, List.countP_cons]
    cases hR : impl_standing.reach l l.length (i : Int) with
    | true =>
      have hn := ih (i + 1) (c + 1) (by clear hw hw2; omega) (by clear hw hw2; omega)
      rw [hR] at hat
      simp only [if_true]
      rw [show c + ((((List.range 11).drop (i + 1)).countP fun n : Nat => impl_standing.reach l l.length (n : Int)) + 1) = c + 1 + (((List.range 11).drop (i + 1)).countP fun n : Nat => impl_standing.reach l l.length (n : Int)) by omega]
      refine Ev.step (fun k => ?_) hn
      simp only [spec_piTree.l0, if_pos c1, if_pos c2, hat, if_true, hw, hw2]
    | false =>
      have hn := ih (i + 1) c (by clear hw hw2; omega) (by clear hw hw2; omega)
      rw [hR] at hat
      simp only [Bool.false_eq_true, if_false, Nat.add_zero]
      refine Ev.step (fun k => ?_) hn
      simp only [spec_piTree.l0, if_pos c1, if_pos c2, hat, Bool.false_eq_true, if_false, hw]
theorem tree_ev (l : List S55) (hg : good l = true) : ∃ b : Bool, Ev (fun k => spec_piTree.f k l) b ∧ ∀ k, impl_isTree.f k l = some b := by
  unfold good at hg
  simp only [Bool.and_eq_true, decide_eq_true_eq] at hg
  obtain ⟨h1, h2, h3⟩ := hg
  obtain ⟨s, q1, q2⟩ := reach_ev l (ok_of h1) h2
  have q3 := piTree_l l h2 s q1 11 0 0 (by omega) (by omega)
  have hok : l.all impl_isTree.ok = true := ok_of h1
  refine ⟨(((impl_isTree.keys l).length : Int) == ((l.length + 1 : Nat) : Int)), ?_, fun k => ?_⟩
  · unfold spec_piTree.f
    rw [keys_count l (ok_of h1) h3]
    refine Ev.bind q2 ?_
    simpa using q3
  · unfold impl_isTree.f
    rw [if_pos ⟨h2, hok⟩]

def upAt (l : List S55) (node from_ : Int) (i : Nat) : List (Int × Int) :=
  if (i : Int) = from_ then [] else if (rd_T55 l (i : Int)).f0 = node then [((i : Int), (rd_T55 l (i : Int)).f1)] else if (rd_T55 l (i : Int)).f1 = node then [((i : Int), (rd_T55 l (i : Int)).f0)] else []
def ups (l : List S55) (node from_ : Int) : Nat → List (Int × Int)
  | 0 => []
  | n + 1 => ups l node from_ n ++ upAt l node from_ n
theorem upAt_le (l : List S55) (node from_ : Int) (i : Nat) : (upAt l node from_ i).length ≤ 1 := by
  unfold upAt
  split
  · simp
  · split
    · simp
    · split <;> simp
theorem ups_le (l : List S55) (node from_ : Int) : ∀ n, (ups l node from_ n).length ≤ n
  | 0 => Nat.le_refl _
  | n + 1 => by
    unfold ups
    rw [List.length_append]
    have := ups_le l node from_ n
    have := upAt_le l node from_ n
    omega
theorem ups_mem (l : List S55) (node from_ : Int) : ∀ n p, p ∈ ups l node from_ n ↔ ∃ i, i < n ∧ p ∈ upAt l node from_ i
  | 0, p => by simp [ups]
  | n + 1, p => by
    unfold ups
    rw [List.mem_append, ups_mem l node from_ n p]
    constructor
    · rintro (⟨i, h1, h2⟩ | h)
      · exact ⟨i, by omega, h2⟩
      · exact ⟨n, by omega, h⟩
    · rintro ⟨i, h1, h2⟩
      by_cases e : i = n
      · subst e; exact Or.inr h2
      · exact Or.inl ⟨i, by omega, h2⟩
def mkB (p : Int × Int) : S69 := ⟨p.1, p.2⟩
theorem waround (a b : Nat) (ha : a < 11) (hb : b < 11) : wrap64 (wrap64 ((a : Int) + (b : Int)) - (a : Int)) = (b : Int) := by
  have e : wrap64 ((a : Int) + (b : Int)) = (a : Int) + (b : Int) := by unfold wrap64; omega
  rw [e]
  clear e
  unfold wrap64
  omega
theorem spec_up_l (l : List S55) (hl : l.length ≤ 10) (node from_ : Int) : ∀ (d i : Nat), i + d = l.length →
    Ev (fun k => spec_piUp.l0 k node from_ ((ups l node from_ i).map mkB) l (l.length : Int) (i : Int)) ((ups l node from_ l.length).map mkB) := by
  intro d
  induction d with
  | zero =>
    intro i hi
    obtain rfl : i = l.length := by omega
    have c : ¬ (l.length : Int) < (l.length : Int) := by omega
    refine Ev.step (fun k => ?_) (Ev.now _)
    simp only [spec_piUp.l0, if_neg c]
  | succ d ih =>
    intro i hi
    have hil : i < l.length := by omega
    have c1 : (i : Int) < (l.length : Int) := by omega
    have c2 : (0 : Int) ≤ (i : Int) := Int.natCast_nonneg _
    have hw := wsucc i (by omega)
    have c3 : ((ups l node from_ i).map mkB).length < 8796093022208 := by rw [List.length_map]; have := ups_le l node from_ i; clear hw; omega
    have hn := ih (i + 1) (by clear hw; omega)
    rw [show ups l node from_ (i + 1) = ups l node from_ i ++ upAt l node from_ i from rfl] at hn
    unfold upAt at hn
    by_cases e1 : (i : Int) = from_
    · rw [if_pos e1, List.append_nil] at hn
      refine Ev.step (fun k => ?_) hn
      simp only [spec_piUp.l0, if_pos c1, if_pos c2, if_pos e1, hw]
    · rw [if_neg e1] at hn
      by_cases e2 : (rd_T55 l (i : Int)).f0 = node
      · rw [if_pos e2, List.map_append] at hn
        refine Ev.step (fun k => ?_) hn
        simp only [spec_piUp.l0, if_pos c1, if_pos c2, if_neg e1, if_pos e2, if_pos c3, hw]
        rfl
      · rw [if_neg e2] at hn
        by_cases e3 : (rd_T55 l (i : Int)).f1 = node
        · rw [if_pos e3, List.map_append] at hn
          refine Ev.step (fun k => ?_) hn
          simp only [spec_piUp.l0, if_pos c1, if_pos c2, if_neg e1, if_neg e2, if_pos e3, if_pos c3, hw]
          rfl
        · rw [if_neg e3, List.append_nil] at hn
          refine Ev.step (fun k => ?_) hn
          simp only [spec_piUp.l0, if_pos c1, if_pos c2, if_neg e1, if_neg e2, if_neg e3, hw]
theorem impl_up_l (l : List S55) (hok : l.all impl_standing.ok = true) (hl : l.length ≤ 10) (node from_ : Int) : ∀ (d i : Nat), i + d = l.length →
    Ev (fun k => impl_upward.l0 k node from_ ((ups l node from_ i).map Prod.fst) ((ups l node from_ i).map Prod.snd) l (l.length : Int) (i : Int)) ((ups l node from_ l.length).map Prod.fst, (ups l node from_ l.length).map Prod.snd) := by
  intro d
  induction d with
  | zero =>
    intro i hi
    obtain rfl : i = l.length := by omega
    have c : ¬ (l.length : Int) < (l.length : Int) := by omega
    refine Ev.step (fun k => ?_) (Ev.now _)
    simp only [impl_upward.l0, if_neg c]
  | succ d ih =>
    intro i hi
    have hil : i < l.length := by omega
    have c1 : (i : Int) < (l.length : Int) := by omega
    have c2 : (0 : Int) ≤ (i : Int) := Int.natCast_nonneg _
    have hle := ups_le l node from_ i
    have hw := wsucc i (by omega)
    have c3 : ∀ x : Int, ((ups l node from_ i).map Prod.fst).length + [x].length < 17592186044416 := fun x => by rw [List.length_map]; simp; clear hw; omega
    have c4 : ∀ x : Int, ((ups l node from_ i).map Prod.snd).length + [x].length < 17592186044416 := fun x => by rw [List.length_map]; simp; clear hw; omega
    obtain ⟨a, b, ea, eb, ha, hb⟩ := okNat hok hil
    rw [← rdI l i hil] at ea eb
    have hn := ih (i + 1) (by clear hw; omega)
    rw [show ups l node from_ (i + 1) = ups l node from_ i ++ upAt l node from_ i from rfl] at hn
    unfold upAt at hn
    by_cases e1 : (i : Int) = from_
    · rw [if_pos e1, List.append_nil] at hn
      refine Ev.step (fun k => ?_) hn
      simp only [impl_upward.l0, if_pos c1, if_pos c2, if_pos e1, hw]
    · rw [if_neg e1] at hn
      by_cases e2 : (rd_T55 l (i : Int)).f0 = node
      · rw [if_pos e2, List.map_append, List.map_append] at hn
        have w1 : wrap64 (wrap64 ((rd_T55 l (i : Int)).f0 + (rd_T55 l (i : Int)).f1) - node) = (rd_T55 l (i : Int)).f1 := by rw [← e2, ea, eb]; exact waround a b ha hb
        refine Ev.step (fun k => ?_) hn
        simp only [impl_upward.l0, if_pos c1, if_pos c2, if_neg e1, if_pos e2, Option.bind_some, if_pos (c3 _), if_pos (c4 _), w1, hw]
        rfl
      · rw [if_neg e2] at hn
        by_cases e3 : (rd_T55 l (i : Int)).f1 = node
        · rw [if_pos e3, List.map_append, List.map_append] at hn
          have w1 : wrap64 (wrap64 ((rd_T55 l (i : Int)).f0 + (rd_T55 l (i : Int)).f1) - node) = (rd_T55 l (i : Int)).f0 := by rw [← e3, ea, eb, Int.add_comm]; exact waround b a hb ha
          refine Ev.step (fun k => ?_) hn
          simp only [impl_upward.l0, if_pos c1, if_pos c2, if_neg e1, if_neg e2, if_pos e3, Option.bind_some, if_pos (c3 _), if_pos (c4 _), w1, hw]
          rfl
        · rw [if_neg e3, List.append_nil] at hn
          refine Ev.step (fun k => ?_) hn
          simp only [impl_upward.l0, if_pos c1, if_pos c2, if_neg e1, if_neg e2, if_neg e3, hw]
/-- The way up so far: V are the nodes that lie behind. -/
structure Way (l : List S55) (V : List Int) (node from_ : Int) : Prop where
  nodup : V.Nodup
  out : node ∉ V
  inV : ∀ v ∈ V, 0 ≤ v ∧ v < 11
  inN : 0 ≤ node ∧ node < 11
  edge : ∀ j (hj : j < l.length), (l[j].f0 ∈ V ∨ l[j].f1 ∈ V) → (l[j].f0 ∈ V ∧ l[j].f1 ∈ V) ∨ (j : Int) = from_
  last : ∀ j (hj : j < l.length), (j : Int) = from_ → (l[j].f0 = node ∨ l[j].f0 ∈ V) ∧ (l[j].f1 = node ∨ l[j].f1 ∈ V)
theorem Way.next {l : List S55} (hok : l.all impl_standing.ok = true) (hne : ∀ j (hj : j < l.length), l[j].f0 ≠ l[j].f1) {V : List Int} {node from_ i n : Int} (h : Way l V node from_) (hu : ups l node from_ l.length = [(i, n)]) :
    ∃ m : Nat, i = (m : Int) ∧ m < l.length ∧ Way l (node :: V) n i := by
  have hm : (i, n) ∈ ups l node from_ l.length := by rw [hu]; exact List.mem_singleton.2 rfl
  obtain ⟨m, hml, hat⟩ := (ups_mem l node from_ l.length _).1 hm
  have only : ∀ j (hj : j < l.length), (j : Int) ≠ from_ → (l[j].f0 = node ∨ l[j].f1 = node) → (j : Int) = i := by
    intro j hj h1 h2
    have hrd := rdI l j hj
    by_cases e : l[j].f0 = node
    · have : ((j : Int), l[j].f1) ∈ ups l node from_ l.length := (ups_mem l node from_ l.length _).2 ⟨j, hj, by unfold upAt; rw [if_neg h1, hrd, if_pos e]; exact List.mem_singleton.2 rfl⟩
      rw [hu, List.mem_singleton] at this
      exact congrArg Prod.fst this
    · have e2 : l[j].f1 = node := h2.resolve_left e
      have : ((j : Int), l[j].f0) ∈ ups l node from_ l.length := (ups_mem l node from_ l.length _).2 ⟨j, hj, by unfold upAt; rw [if_neg h1, hrd, if_neg e, if_pos e2]; exact List.mem_singleton.2 rfl⟩
      rw [hu, List.mem_singleton] at this
      exact congrArg Prod.fst this
  have hrd := rdI l m hml
  obtain ⟨a, b, ea, eb, ha, hb⟩ := okNat hok hml
  have hmf : (m : Int) ≠ from_ := fun e => by unfold upAt at hat; rw [if_pos e] at hat; cases hat
  have ends : i = (m : Int) ∧ ((l[m].f0 = node ∧ l[m].f1 = n) ∨ (l[m].f1 = node ∧ l[m].f0 = n)) := by
    unfold upAt at hat
    rw [if_neg hmf, hrd] at hat
    split at hat
    · rename_i q
      rw [List.mem_singleton, Prod.mk.injEq] at hat
      exact ⟨hat.1, Or.inl ⟨q, hat.2.symm⟩⟩
    · split at hat
      · rename_i q
        rw [List.mem_singleton, Prod.mk.injEq] at hat
        exact ⟨hat.1, Or.inr ⟨q, hat.2.symm⟩⟩
      · cases hat
  obtain ⟨ei, ends⟩ := ends
  have hnn : n ≠ node := by
    have := hne m hml
    rcases ends with ⟨q1, q2⟩ | ⟨q1, q2⟩
    · rw [q1, q2] at this; exact fun e => this e.symm
    · rw [q1, q2] at this; exact this
  have hnV : n ∉ V := fun hn => by
    have := h.edge m hml (by
      rcases ends with ⟨q1, q2⟩ | ⟨q1, q2⟩
      · exact Or.inr (q2 ▸ hn)
      · exact Or.inl (q2 ▸ hn))
    rcases this with ⟨r1, r2⟩ | r
    · rcases ends with ⟨q1, q2⟩ | ⟨q1, q2⟩
      · rw [q1] at r1; exact h.out r1
      · rw [q1] at r2; exact h.out r2
    · exact hmf r
  refine ⟨m, ei, hml, ⟨List.nodup_cons.2 ⟨h.out, h.nodup⟩, ?_, ?_, ?_, ?_, ?_⟩⟩
  · intro q
    rcases List.mem_cons.1 q with q | q
    · exact hnn q
    · exact hnV q
  · intro v hv
    rcases List.mem_cons.1 hv with rfl | hv
    · exact h.inN
    · exact h.inV v hv
  · rcases ends with ⟨q1, q2⟩ | ⟨q1, q2⟩
    · rw [← q2, eb]; omega
    · rw [← q2, ea]; omega
  · intro j hj hv
    by_cases e : (j : Int) = from_
    · obtain ⟨s1, s2⟩ := h.last j hj e
      left
      exact ⟨List.mem_cons.2 s1, List.mem_cons.2 s2⟩
    · by_cases c : l[j].f0 = node ∨ l[j].f1 = node
      · right
        exact only j hj e c
      · left
        rw [not_or] at c
        have hv' : l[j].f0 ∈ V ∨ l[j].f1 ∈ V := by
          rcases hv with hv | hv
          · exact Or.inl ((List.mem_cons.1 hv).resolve_left c.1)
          · exact Or.inr ((List.mem_cons.1 hv).resolve_left c.2)
        rcases h.edge j hj hv' with ⟨r1, r2⟩ | r
        · exact ⟨List.mem_cons_of_mem _ r1, List.mem_cons_of_mem _ r2⟩
        · exact absurd r e
  · intro j hj e
    have : j = m := by rw [ei] at e; exact Int.ofNat_inj.1 e
    subst this
    rcases ends with ⟨q1, q2⟩ | ⟨q1, q2⟩
    · exact ⟨Or.inr (by rw [q1]; exact List.mem_cons_self ..), Or.inl q2⟩
    · exact ⟨Or.inl q2, Or.inr (by rw [q1]; exact List.mem_cons_self ..)⟩
def let1 (b : Bool) : ByteArray := if b = true then ⟨#[43]⟩ else ⟨#[45]⟩
theorem let_s (b : Bool) : spec_shLetter.f b = some (let1 b) := by cases b <;> rfl
theorem let_i (b : Bool) : impl_letter.f b = some (let1 b) := by cases b <;> rfl
theorem let_size (b : Bool) : (let1 b).size = 1 := by cases b <;> rfl
theorem climb (l : List S55) (hok : l.all impl_standing.ok = true) (hl : l.length ≤ 10) (hne : ∀ j (hj : j < l.length), l[j].f0 ≠ l[j].f1) : ∀ (d : Nat) (V : List Int) (node from_ : Int) (s : ByteArray), 11 ≤ V.length + d → Way l V node from_ → s.size ≤ V.length →
    ∃ r : ByteArray × Bool, Ev (fun k => spec_StalkWord.l0 k s node from_ l) r ∧ Ev (fun k => impl_StalkWord.l0 k s node from_ l) r := by
  intro d
  induction d with
  | zero =>
    intro V node from_ s hd hW hs
    exfalso
    have := Go.Proofs.Ytlbbfobbflcnfaa.Mp.nodup_range (node :: V) 11 (List.nodup_cons.2 ⟨hW.out, hW.nodup⟩) (fun x hx => by
      rcases List.mem_cons.1 hx with rfl | hx
      · have := hW.inN; omega
      · have := hW.inV x hx; omega)
    rw [List.length_cons] at this
    omega
  | succ d ih =>
    intro V node from_ s hd hW hs
    have hVl : V.length ≤ 10 := by
      have := Go.Proofs.Ytlbbfobbflcnfaa.Mp.nodup_range (node :: V) 11 (List.nodup_cons.2 ⟨hW.out, hW.nodup⟩) (fun x hx => by
        rcases List.mem_cons.1 hx with rfl | hx
        · have := hW.inN; omega
        · have := hW.inV x hx; omega)
      rw [List.length_cons] at this
      omega
    have hU : Ev (fun k => spec_piUp.f k l node from_) ((ups l node from_ l.length).map mkB) := spec_up_l l hl node from_ l.length 0 (by omega)
    have hI : Ev (fun k => impl_upward.f k l node from_) ((ups l node from_ l.length).map Prod.fst, (ups l node from_ l.length).map Prod.snd) := impl_up_l l hok hl node from_ l.length 0 (by omega)
    cases hu : ups l node from_ l.length with
    | nil =>
      rw [hu] at hU hI
      refine ⟨(s, true), Ev.step (f := ?gga1) (fun k => ?ggb1) ?ggc1, ?_⟩
      case ggb1 => conv => lhs; simp only [spec_StalkWord.l0]
      case ggc1 => exact Ev.bind hU (Ev.now _)
      refine Ev.step (f := ?gga2) (fun k => ?ggb2) ?ggc2
      case ggb2 => conv => lhs; simp only [impl_StalkWord.l0]
      case ggc2 => exact Ev.bind hI (Ev.now _)
    | cons p rest =>
      cases rest with
      | cons p2 rest =>
        rw [hu] at hU hI
        have q1 : (((p :: p2 :: rest).map mkB).length : Int) > 1 := by simp only [List.map_cons, List.length_cons]; omega
        have q2 : ¬ (((p :: p2 :: rest).map Prod.fst).length : Int) = 0 := by simp only [List.map_cons, List.length_cons]; omega
        have q3 : (((p :: p2 :: rest).map Prod.fst).length : Int) > 1 := by simp only [List.map_cons, List.length_cons]; omega
        refine ⟨(⟨#[]⟩, false), Ev.step (f := ?gga3) (fun k => ?ggb3) ?ggc3, ?_⟩
        case ggb3 => conv => lhs; simp only [spec_StalkWord.l0]
        case ggc3 =>
          refine Ev.bind hU ?_
          simp only [if_pos q1]
          exact Ev.now _
        refine Ev.step (f := ?gga4) (fun k => ?ggb4) ?ggc4
        case ggb4 => conv => lhs; simp only [impl_StalkWord.l0]
        case ggc4 =>
          refine Ev.bind hI ?_
          simp only [if_neg q2, if_pos q3]
          exact Ev.now _
      | nil =>
        obtain ⟨i, n⟩ := p
        obtain ⟨m, rfl, hml, hW2⟩ := hW.next hok hne hu
        rw [hu] at hU hI
        have c1 : (0 : Int) ≤ (m : Int) := Int.natCast_nonneg _
        have c2 : (m : Int) < (l.length : Int) := by omega
        have hsz : s.size + (let1 (rd_T55 l (m : Int)).f2).size ≤ 9223372036854775807 := by rw [let_size]; omega
        obtain ⟨r, r1, r2⟩ := ih (node :: V) n (m : Int) (s ++ let1 (rd_T55 l (m : Int)).f2) (by rw [List.length_cons]; omega) hW2 (by rw [ByteArray.size_append, let_size, List.length_cons]; omega)
        have z1 : ¬ (([((m : Int), n)].map mkB).length : Int) > 1 := by simp
        have z2 : ¬ (([((m : Int), n)].map mkB).length : Int) = 0 := by simp
        have z3 : (0 : Int) < (([((m : Int), n)].map mkB).length : Int) := by simp
        have z4 : ¬ (([((m : Int), n)].map Prod.fst).length : Int) > 1 := by simp
        have z5 : ¬ (([((m : Int), n)].map Prod.fst).length : Int) = 0 := by simp
        have z6 : (0 : Int) < (([((m : Int), n)].map Prod.fst).length : Int) := by simp
        have z7 : (0 : Int) < (([((m : Int), n)].map Prod.snd).length : Int) := by simp
        have y1 : rd_T69 ([((m : Int), n)].map mkB) 0 = ⟨(m : Int), n⟩ := rfl
        have y2 : rd ([((m : Int), n)].map Prod.fst) 0 = (m : Int) := rfl
        have y3 : rd ([((m : Int), n)].map Prod.snd) 0 = n := rfl
        refine ⟨r, Ev.step (f := ?gga5) (fun k => ?ggb5) ?ggc5, ?_⟩
        case ggb5 => conv => lhs; simp only [spec_StalkWord.l0]
        case ggc5 =>
          refine Ev.bind hU ?_
          simp only [if_neg z1, if_neg z2, if_pos z3, y1, if_pos c1, if_pos c2, let_s, Option.bind_some, if_pos hsz]
          exact r1
        refine Ev.step (f := ?gga6) (fun k => ?ggb6) ?ggc6
        case ggb6 => conv => lhs; simp only [impl_StalkWord.l0]
        case ggc6 =>
          refine Ev.bind hI ?_
          simp only [if_neg z4, if_neg z5, if_pos z6, if_pos z7, y2, y3, if_pos c1, if_pos c2, let_i, Option.bind_some, if_pos hsz]
          exact r2
theorem both (l : List S55) (hl : l.length ≤ 1048576) : ∃ r : ByteArray × Bool, Ev (fun k => spec_StalkWord.f k l) r ∧ Ev (fun k => impl_StalkWord.f k l) r := by
  unfold spec_StalkWord.f impl_StalkWord.f
  have g1 := piGood_ev l hl
  have g2 := isPic_ev l hl
  have no : ∀ (x : ByteArray × Bool), x = (⟨#[]⟩, false) → Ev (fun k => spec_StalkWord.j0 k true l) x ∧ Ev (fun k => impl_StalkWord.j0 k true l) x := by
    rintro _ rfl
    constructor
    · refine Ev.step (fun k => ?_) (Ev.now _)
      simp only [spec_StalkWord.j0, if_true]
    · refine Ev.step (fun k => ?_) (Ev.now _)
      simp only [impl_StalkWord.j0, if_true]
  cases hg : good l with
  | false =>
    rw [hg] at g1 g2
    refine ⟨(⟨#[]⟩, false), Ev.bind g1 ?_, Ev.bind g2 ?_⟩
    · simp only [Bool.false_eq_true, if_false]
      exact (no _ rfl).1
    · simp only [Bool.false_eq_true, if_false]
      exact (no _ rfl).2
  | true =>
    rw [hg] at g1 g2
    obtain ⟨b, q1, q2⟩ := tree_ev l hg
    have hgood := hg
    unfold good at hgood
    simp only [Bool.and_eq_true, decide_eq_true_eq] at hgood
    obtain ⟨h1, h2, h3⟩ := hgood
    have hne : ∀ j (hj : j < l.length), l[j].f0 ≠ l[j].f1 := fun j hj e => by
      have := List.all_eq_true.1 h1 _ (List.getElem_mem hj)
      unfold eok at this
      rw [decide_eq_true e] at this
      simp at this
    cases b with
    | false =>
      refine ⟨(⟨#[]⟩, false), Ev.bind g1 ?_, Ev.bind g2 ?_⟩
      · simp only [if_true]
        refine Ev.bind q1 ?_
        exact (no _ rfl).1
      · simp only [if_true, q2, Option.bind_some]
        exact (no _ rfl).2
    | true =>
      have hW : Way l [] 0 (-1) := ⟨List.nodup_nil, by simp, by simp, by omega, fun j hj h => absurd h (by simp), fun j hj h => absurd h (by omega)⟩
      obtain ⟨r, r1, r2⟩ := climb l (ok_of h1) h2 hne 11 [] 0 (-1) ⟨#[]⟩ (by simp) hW (by simp [ByteArray.size])
      refine ⟨r, Ev.bind g1 ?_, Ev.bind g2 ?_⟩
      · simp only [if_true]
        refine Ev.bind q1 (Ev.step (fun k => ?_) r1)
        simp only [spec_StalkWord.j0, Bool.not_true, Bool.false_eq_true, if_false]
      · simp only [if_true, q2, Option.bind_some]
        refine Ev.step (fun k => ?_) r2
        simp only [impl_StalkWord.j0, Bool.not_true, Bool.false_eq_true, if_false]
theorem proved : laws_FnExactStalkWord.Pure := by
  intro l h
  refine Ev.rounds ?_
  unfold laws_FnExactStalkWord.f
  simp only [szPic l h.1, Option.bind_some]
  by_cases hb : l.length > 1048576
  · simp only [if_pos hb]
    exact Ev.now _
  · have hl : l.length ≤ 1048576 := by omega
    have hl' : (l.map conv).length ≤ 1048576 := by rw [List.length_map]; exact hl
    have c : ¬ (1048576 - (l.length : Int)) < 0 := by omega
    simp only [if_neg hb, if_neg c]
    obtain ⟨r, s1, s2⟩ := both (l.map conv) hl'
    have ht := toPic_ev l hl
    refine Ev.bind ht (Ev.bind s1 (Ev.bind ht (Ev.bind s2 ?_)))
    simp only [bne_self_eq_false, if_true]
    refine Ev.step (f := ?gga7) (fun k => ?ggb7) ?ggc7
    case ggb7 => conv => lhs; simp only [laws_FnExactStalkWord.j0, Bool.false_eq_true, if_false]
    case ggc7 => exact Ev.bind ht (Ev.bind (eqPic_ev _ hl') (Ev.now _))

end LFnExactStalkWord
theorem FnExactStalkWord : laws_FnExactStalkWord.Pure := LFnExactStalkWord.proved
end Go.Proofs.Ytlbbfobbflcnfaa.Pure
