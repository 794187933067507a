/- For any two lists of edges, the sum that the program makes is the reference's, in new memory, and the lists are left as they were. -/
import Derived.Test.YtnabbkaipfhmdaaQFnExactSumOfPicturesx8
namespace Go.Proofs.Ytnabbkaipfhmdaa.Pure
open Go.RowKit Go.Proofs.Ytnabbkaipfhmdaa.QFnExactSumOfPictures Go.Proofs.YtnabbkaipfhmdaaW.PrintWords Go.Proofs.YtnabbkaipfhmdaaW.PrintLast
set_option linter.unusedVariables false
set_option linter.unusedSimpArgs false
def laws_FnExactSumOfPictures.Pure : Prop := ∀ (l0_0 : List (S57)) (l1_0 : List (S57)), (l0_0.length ≤ maxLen ∧ ∀ y0 ∈ l0_0, ((Lit.int .i64 y0.f0).wf = true ∧ ((Lit.int .i64 y0.f1).wf = true ∧ True))) → (l1_0.length ≤ maxLen ∧ ∀ y0 ∈ l1_0, ((Lit.int .i64 y0.f0).wf = true ∧ ((Lit.int .i64 y0.f1).wf = true ∧ True))) → ∃ k, laws_FnExactSumOfPictures.f k l0_0 l1_0 = some true
namespace LFnExactSumOfPictures
/-! ### small words -/
theorem wsucc (i : Nat) (h : i < 2 ^ 62) : wrap64 ((i : Int) + 1) = ((i + 1 : Nat) : Int) := by unfold wrap64; omega

/-! ### lists of edges: their size, a copy, the same -/
theorem rdL (xs : List S57) (i : Nat) (h : i < xs.length) : rd_T57 xs (i : Int) = xs[i] := by
  simp [rd_T57, List.getD_eq_getElem?_getD, List.getElem?_eq_getElem h]
theorem rdI (xs : List S47) (i : Nat) (h : i < xs.length) : rd_T47 xs (i : Int) = xs[i] := by
  simp [rd_T47, List.getD_eq_getElem?_getD, List.getElem?_eq_getElem h]
theorem szEdgeS (l : List S57) (h : l.length ≤ maxLen) : laws_szEdgeS.f l 1048576 = some (if l.length > 1048576 then -1 else 1048576 - (l.length : Int)) := by
  unfold maxLen at h
  have hw : wrap64 (1048576 - (l.length : Int)) = 1048576 - (l.length : Int) := by unfold wrap64; omega
  unfold laws_szEdgeS.f
  rw [hw]
  clear hw
  by_cases g : l.length > 1048576
  · rw [if_pos (by omega), if_pos g]
  · rw [if_neg (by omega), if_neg g]
/-- An edge of the program for an edge of the law. -/
def conv (p : S57) : S47 := ⟨p.f0, p.f1, p.f2⟩
theorem toEdgeS_l (l : List S57) (hl : l.length ≤ 1048576) : ∀ (d i : Nat) (ys : List S47), i + d = l.length → ys.length = l.length → (∀ j, j < i → ys[j]? = (l.map conv)[j]?) →
    Ev (fun k => laws_toEdgeS.l0 k l ys (i : Int)) (l.map conv) := by
  intro d
  induction d with
  | zero =>
    intro i ys hi hy hj
    have c : ¬ (i : Int) < (l.length : Int) := by omega
    have : ys = l.map conv := by
      apply List.ext_getElem?
      intro j
      by_cases g : j < i
      · exact hj j g
      · rw [List.getElem?_eq_none (by omega), List.getElem?_eq_none (by rw [List.length_map]; omega)]
    subst this
    refine Ev.step (fun k => ?_) (Ev.now _)
    simp only [laws_toEdgeS.l0, if_neg c]
  | succ d ih =>
    intro i ys hi hy hj
    have g1 : (i : Int) < (l.length : Int) := by omega
    have g1' : (i : Int) < (ys.length : Int) := by omega
    have g2 : (0 : Int) ≤ (i : Int) := Int.natCast_nonneg _
    have hil : i < l.length := by omega
    have hw : wrap64 ((i : Int) + 1) = ((i + 1 : Nat) : Int) := wsucc i (by omega)
    refine Ev.step (fun k => ?_) (ih (i + 1) (ys.set i (conv l[i])) (by clear hw; omega) (by rw [List.length_set]; exact hy) (fun j hjl => ?_))
    · simp only [laws_toEdgeS.l0, if_pos g1, if_pos g2, rdL l i hil, laws_toEdge.f, Option.bind_some, if_pos g1', Int.toNat_natCast, hw]
      rfl
    · rw [List.getElem?_set]
      by_cases e : i = j
      · subst e
        rw [if_pos rfl, if_pos (by clear hw; omega), List.getElem?_map, List.getElem?_eq_getElem hil]
        rfl
      · rw [if_neg e]
        exact hj j (by clear hw; omega)
theorem toEdgeS_ev (l : List S57) (hl : l.length ≤ 1048576) : Ev (fun k => laws_toEdgeS.f k l) (l.map conv) := by
  unfold laws_toEdgeS.f
  simp only [if_pos (Int.natCast_nonneg l.length), Int.toNat_natCast, show l.length ≤ 11728124029610 from by omega, if_true]
  exact toEdgeS_l l hl l.length 0 _ (by omega) (by simp) (fun j hj => by omega)
theorem eqEdgeS_l (l : List S47) (hl : l.length ≤ 1048576) : ∀ (d i : Nat), i + d = l.length → Ev (fun k => laws_eqEdgeS.l0 k l l (i : Int)) true := by
  intro d
  induction d with
  | zero =>
    intro i hi
    have c : ¬ (i : Int) < (l.length : Int) := by omega
    refine Ev.step (fun k => ?_) (Ev.now _)
    simp only [laws_eqEdgeS.l0, if_neg c]
  | succ d ih =>
    intro i hi
    have g1 : (i : Int) < (l.length : Int) := by omega
    have g2 : (0 : Int) ≤ (i : Int) := Int.natCast_nonneg _
    have hw : wrap64 ((i : Int) + 1) = ((i + 1 : Nat) : Int) := wsucc i (by omega)
    refine Ev.step (fun k => ?_) (ih (i + 1) (by clear hw; omega))
    simp only [laws_eqEdgeS.l0, if_pos g1, if_pos g2, laws_eqEdge.f, if_true, Option.bind_some, bne_self_eq_false, Bool.false_eq_true, if_false, hw]
theorem eqEdgeS_ev (l : List S47) (hl : l.length ≤ 1048576) : Ev (fun k => laws_eqEdgeS.f k l l) true := by
  unfold laws_eqEdgeS.f
  simp only [if_true]
  exact eqEdgeS_l l hl l.length 0 (by omega)

/-! ### what is reached, and what is a picture -/
theorem spec_in (e a b : Int) : spec_l1In.f e a b = some (decide (a ≤ e ∧ e ≤ b)) := by
  unfold spec_l1In.f
  by_cases h : e ≥ a
  · rw [if_pos h]; simp [show a ≤ e from h]
  · rw [if_neg h]; simp [show ¬ a ≤ e from h]
theorem impl_in_ (e a b : Int) : impl_in.f e a b = some (decide (a ≤ e ∧ e ≤ b)) := by
  unfold impl_in.f
  by_cases h : e ≥ a
  · rw [if_pos h]; simp [show a ≤ e from h]
  · rw [if_neg h]; simp [show ¬ a ≤ e from h]
structure Sy (s : List Bool) (R : Int → Bool) : Prop where
  len : s.length = 11
  at_ : ∀ n : Nat, n < 11 → rdOf false s (n : Int) = R (n : Int)
theorem rdOf_set (s : List Bool) (i : Nat) (v : Bool) (h : i < s.length) (j : Nat) : rdOf false (s.set i v) (j : Int) = if j = i then v else rdOf false s (j : Int) := by
  unfold rdOf
  rw [Int.toNat_natCast]
  by_cases e : j = i
  · subst e
    rw [if_pos rfl]
    simp [h]
  · rw [if_neg e]
    have : ¬ i = j := fun q => e q.symm
    simp [this]
theorem Sy.set {s : List Bool} {R : Int → Bool} (h : Sy s R) {a b : Nat} (ha : a < 11) (hb : b < 11) : Sy ((s.set a true).set b true) (fun y => if y = (b : Int) then true else if y = (a : Int) then true else R y) := by
  refine ⟨by rw [List.length_set, List.length_set]; exact h.len, fun n hn => ?_⟩
  rw [rdOf_set _ b true (by rw [List.length_set, h.len]; exact hb), rdOf_set _ a true (by rw [h.len]; exact ha), h.at_ n hn]
  by_cases e1 : n = b
  · subst e1; simp
  · have e1' : ¬ (n : Int) = (b : Int) := by omega
    rw [if_neg e1, if_neg e1']
    by_cases e2 : n = a
    · subst e2; simp
    · have e2' : ¬ (n : Int) = (a : Int) := by omega
      rw [if_neg e2, if_neg e2']
theorem okNat {l : List S47} (h : l.all impl_standing.ok = true) {j : Nat} (hj : j < l.length) : ∃ a b : Nat, l[j].f0 = (a : Int) ∧ l[j].f1 = (b : Int) ∧ a < 11 ∧ b < 11 := by
  have := List.all_eq_true.1 h _ (List.getElem_mem hj)
  simp only [impl_standing.ok, decide_eq_true_eq] at this
  exact ⟨l[j].f0.toNat, l[j].f1.toNat, by omega, by omega, by omega, by omega⟩
section
variable (l : List S47) (h : l.all impl_standing.ok = true) (hl : l.length ≤ 10)
include h hl
theorem reach1 (m : Nat) (hm : m < 2 ^ 60) : ∀ (d j : Nat) (s : List Bool) (R : Int → Bool), j + d = l.length → Sy s R → ∃ s', Sy s' ((l.drop j).foldl impl_standing.add R) ∧
    ∀ res, Ev (fun k => spec_piReach.l0 k l s' (l.length : Int) ((m + 1 : Nat) : Int)) res → Ev (fun k => spec_piReach.l1 k l s (l.length : Int) (m : Int) l (l.length : Int) (j : Int)) res := by
  intro d
  induction d with
  | zero =>
    intro j s R hj hs
    have e : l.drop j = [] := List.drop_eq_nil_of_le (by omega)
    have c : ¬ (j : Int) < (l.length : Int) := by omega
    rw [e]
    refine ⟨s, hs, fun res q => Ev.step (fun k => ?_) q⟩
    simp only [spec_piReach.l1, if_neg c, wsucc m (by omega)]
  | succ d ih =>
    intro j s R hj hs
    have hjl : j < l.length := by omega
    have c1 : (j : Int) < (l.length : Int) := by omega
    have c2 : (0 : Int) ≤ (j : Int) := Int.natCast_nonneg _
    obtain ⟨a, b, ea, eb, ha, hb⟩ := okNat h hjl
    have ca : (0 : Int) ≤ (a : Int) := Int.natCast_nonneg _
    have cb : (0 : Int) ≤ (b : Int) := Int.natCast_nonneg _
    have ca2 : (a : Int) < (s.length : Int) := by rw [hs.len]; omega
    have cb2 : (b : Int) < (s.length : Int) := by rw [hs.len]; omega
    have hw := wsucc j (by omega)
    have hrd := rdI l j hjl
    have hsa := hs.at_ a ha
    have hsb := hs.at_ b hb
    rw [List.drop_eq_getElem_cons hjl, List.foldl_cons]
    have hadd : impl_standing.add R l[j] = if (R a || R b) = true then (fun y => if y = (b : Int) then true else if y = (a : Int) then true else R y) else R := by
      unfold impl_standing.add
      rw [ea, eb]
    rw [hadd]
    cases hA : R a with
    | true =>
      obtain ⟨s', q1, q2⟩ := ih (j + 1) _ _ (by clear hw; omega) (hs.set ha hb)
      refine ⟨s', by simpa using q1, fun res q => Ev.step (fun k => ?_) (q2 res q)⟩
      rw [hA] at hsa
      simp only [spec_piReach.l1, if_pos c1, if_pos c2, hrd, ea, eb, if_pos ca, if_pos ca2, hsa, if_true, if_pos cb, if_pos cb2, Int.toNat_natCast, hw]
    | false =>
      rw [hA] at hsa
      cases hB : R b with
      | true =>
        obtain ⟨s', q1, q2⟩ := ih (j + 1) _ _ (by clear hw; omega) (hs.set ha hb)
        refine ⟨s', by simpa using q1, fun res q => Ev.step (fun k => ?_) (q2 res q)⟩
        rw [hB] at hsb
        simp only [spec_piReach.l1, if_pos c1, if_pos c2, hrd, ea, eb, if_pos ca, if_pos ca2, hsa, hsb, Bool.false_eq_true, if_false, if_true, if_pos cb, if_pos cb2, Int.toNat_natCast, hw]
      | false =>
        obtain ⟨s', q1, q2⟩ := ih (j + 1) s R (by clear hw; omega) hs
        refine ⟨s', by simpa using q1, fun res q => Ev.step (fun k => ?_) (q2 res q)⟩
        rw [hB] at hsb
        simp only [spec_piReach.l1, if_pos c1, if_pos c2, hrd, ea, eb, if_pos ca, if_pos ca2, hsa, hsb, Bool.false_eq_true, if_false, if_pos cb, if_pos cb2, hw]
theorem reach0 : ∀ (d m : Nat) (s : List Bool), m + d = l.length → Sy s (impl_standing.reach l m) → ∃ s', Sy s' (impl_standing.reach l l.length) ∧ Ev (fun k => spec_piReach.l0 k l s (l.length : Int) (m : Int)) s' := by
  intro d
  induction d with
  | zero =>
    intro m s hm hs
    obtain rfl : m = l.length := by omega
    have c : ¬ (l.length : Int) < (l.length : Int) := by omega
    refine ⟨s, hs, Ev.step (fun k => ?_) (Ev.now _)⟩
    simp only [spec_piReach.l0, if_neg c]
  | succ d ih =>
    intro m s hm hs
    have c : (m : Int) < (l.length : Int) := by omega
    obtain ⟨s1, q1, q2⟩ := reach1 l h hl m (by omega) l.length 0 s _ (by omega) hs
    obtain ⟨s2, p1, p2⟩ := ih (m + 1) s1 (by omega) q1
    refine ⟨s2, p1, Ev.step (fun k => ?_) (q2 _ p2)⟩
    simp only [spec_piReach.l0, if_pos c]
    rfl
theorem reach_ev : ∃ s, Sy s (impl_standing.reach l l.length) ∧ Ev (fun k => spec_piReach.f k l) s := by
  have h0 : Sy ((List.replicate 11 false).set 0 true) (impl_standing.reach l 0) := by
    refine ⟨by simp, fun n hn => ?_⟩
    rw [show ((List.replicate 11 false).set 0 true) = ((List.replicate 11 false).set ((0 : Nat)) true) from rfl, rdOf_set _ 0 true (by simp)]
    unfold impl_standing.reach
    by_cases e : n = 0
    · subst e; simp
    · have e' : ¬ (n : Int) = 0 := by omega
      rw [if_neg e, if_neg e']
      unfold rdOf
      rw [List.getD_eq_getElem?_getD, Int.toNat_natCast, List.getElem?_replicate, if_pos hn]
      rfl
  obtain ⟨s, q1, q2⟩ := reach0 l h hl l.length 0 _ (by omega) h0
  refine ⟨s, q1, ?_⟩
  unfold spec_piReach.f
  have c : (0 : Int) < ((List.replicate 11 false).length : Int) := by simp
  simp only [show (11 : Nat) ≤ 281474976710656 from by decide, if_true, Option.bind_some, if_pos c]
  exact q2
theorem all_l1 (s : List Bool) (hs : Sy s (impl_standing.reach l l.length)) : ∀ (d j : Nat), j + d = l.length → Ev (fun k => spec_piGood.l1 k s l (l.length : Int) (j : Int)) ((l.drop j).all fun e => impl_standing.reach l l.length e.f0) := by
  intro d
  induction d with
  | zero =>
    intro j hj
    have e : l.drop j = [] := List.drop_eq_nil_of_le (by omega)
    have c : ¬ (j : Int) < (l.length : Int) := by omega
    rw [e]
    refine Ev.step (fun k => ?_) (Ev.now _)
    simp only [spec_piGood.l1, if_neg c]
    rfl
  | succ d ih =>
    intro j hj
    have hjl : j < l.length := by omega
    have c1 : (j : Int) < (l.length : Int) := by omega
    have c2 : (0 : Int) ≤ (j : Int) := Int.natCast_nonneg _
    obtain ⟨a, b, ea, eb, ha, hb⟩ := okNat h hjl
    have ca : (0 : Int) ≤ (a : Int) := Int.natCast_nonneg _
    have ca2 : (a : Int) < (s.length : Int) := by rw [hs.len]; omega
    have hw := wsucc j (by omega)
    have hrd := rdI l j hjl
    have hsa := hs.at_ a ha
    rw [List.drop_eq_getElem_cons hjl, List.all_cons, ea]
    have hn := ih (j + 1) (by clear hw; omega)
    cases hA : impl_standing.reach l l.length a with
    | true =>
      rw [hA] at hsa
      rw [Bool.true_and]
      refine Ev.step (fun k => ?_) hn
      simp only [spec_piGood.l1, if_pos c1, if_pos c2, hrd, ea, if_pos ca, if_pos ca2, hsa, if_true, hw]
    | false =>
      rw [hA] at hsa
      refine Ev.step (fun k => ?_) (Ev.now _)
      simp only [spec_piGood.l1, if_pos c1, if_pos c2, hrd, ea, if_pos ca, if_pos ca2, hsa, Bool.false_eq_true, if_false, Bool.false_and]
end
def eok (e : S47) : Bool := decide (0 ≤ e.f0 ∧ e.f0 ≤ 10) && (decide (0 ≤ e.f1 ∧ e.f1 ≤ 10) && !decide (e.f0 = e.f1))
def reached (l : List S47) : Bool := l.all fun e => impl_standing.reach l l.length e.f0
def good (l : List S47) : Bool := l.all eok && (decide (l.length ≤ 10) && reached l)
theorem ok_of {l : List S47} (h : l.all eok = true) : l.all impl_standing.ok = true := by
  rw [List.all_eq_true] at h ⊢
  intro e he
  have := h e he
  simp only [eok, Bool.and_eq_true, decide_eq_true_eq] at this
  simp only [impl_standing.ok, decide_eq_true_eq]
  exact ⟨this.1.1, this.1.2, this.2.1⟩
theorem tail_s (l : List S47) (h : l.all eok = true) (i : Nat) (hi : ¬ (i : Int) < (l.length : Int)) : Ev (fun k => spec_piGood.l0 k l (l.length : Int) (i : Int) l) (decide (l.length ≤ 10) && reached l) := by
  by_cases g : l.length ≤ 10
  · have c : ¬ (l.length : Int) > 10 := by omega
    obtain ⟨s, q1, q2⟩ := reach_ev l (ok_of h) g
    have q3 := all_l1 l (ok_of h) g s q1 l.length 0 (by omega)
    refine Ev.step (f := ?gga1) (fun k => ?ggb1) ?ggc1
    case ggb1 => conv => lhs; simp only [spec_piGood.l0, if_neg hi, if_neg c]
    case ggc1 =>
      refine Ev.bind q2 ?_
      simpa [g, reached] using q3
  · have c : (l.length : Int) > 10 := by omega
    refine Ev.step (fun k => ?_) (Ev.now _)
    simp only [spec_piGood.l0, if_neg hi, if_pos c]
    simp [g]
theorem tail_i (l : List S47) (h : l.all eok = true) (i : Nat) (hi : ¬ (i : Int) < (l.length : Int)) : Ev (fun k => impl_IsPicture.l0 k l (l.length : Int) (i : Int) l) (decide (l.length ≤ 10) && reached l) := by
  by_cases g : l.length ≤ 10
  · have c : (l.length : Int) ≤ 10 := by omega
    have e : (((l.filter fun e => !!impl_standing.reach l l.length e.f0).length : Int) == (l.length : Int)) = reached l := by
      rw [Bool.eq_iff_iff, beq_iff_eq]
      unfold reached
      rw [List.all_eq_true]
      constructor
      · intro q
        have := List.length_filter_eq_length_iff.1 (Int.ofNat_inj.1 q)
        intro x hx
        simpa using this x hx
      · intro q
        exact congrArg _ (List.length_filter_eq_length_iff.2 (fun x hx => by simpa using q x hx))
    refine Ev.step (fun k => ?_) (Ev.now _)
    simp only [impl_IsPicture.l0, if_neg hi, if_pos c, impl_standing.f, if_pos (show l.length ≤ 10 ∧ l.all impl_standing.ok = true from ⟨g, ok_of h⟩), Option.bind_some, e]
    simp [g]
  · have c : ¬ (l.length : Int) ≤ 10 := by omega
    refine Ev.step (fun k => ?_) (Ev.now _)
    simp only [impl_IsPicture.l0, if_neg hi, if_neg c]
    simp [g]
theorem good_l (l : List S47) (hl : l.length ≤ 1048576) : ∀ (d i : Nat), i + d = l.length → (l.take i).all eok = true → Ev (fun k => spec_piGood.l0 k l (l.length : Int) (i : Int) l) (good l) ∧ Ev (fun k => impl_IsPicture.l0 k l (l.length : Int) (i : Int) l) (good l) := by
  intro d
  induction d with
  | zero =>
    intro i hi hp
    obtain rfl : i = l.length := by omega
    rw [List.take_length] at hp
    have e : good l = (decide (l.length ≤ 10) && reached l) := by unfold good; rw [hp, Bool.true_and]
    rw [e]
    exact ⟨tail_s l hp _ (by omega), tail_i l hp _ (by omega)⟩
  | succ d ih =>
    intro i hi hp
    have hil : i < l.length := by omega
    have c1 : (i : Int) < (l.length : Int) := by omega
    have c2 : (0 : Int) ≤ (i : Int) := Int.natCast_nonneg _
    have hrd := rdI l i hil
    have hw := wsucc i (by omega)
    have bad : eok l[i] = false → good l = false := fun q => by
      unfold good
      have : l.all eok = false := by
        rw [List.all_eq_false]
        exact ⟨_, List.getElem_mem hil, by rw [q]; decide⟩
      rw [this, Bool.false_and]
    by_cases h0 : 0 ≤ l[i].f0 ∧ l[i].f0 ≤ 10
    · by_cases h1 : 0 ≤ l[i].f1 ∧ l[i].f1 ≤ 10
      · by_cases h2 : l[i].f0 = l[i].f1
        · have e := bad (by unfold eok; rw [decide_eq_true h2]; simp)
          rw [e]
          constructor
          · refine Ev.step (fun k => ?_) (Ev.now _)
            simp only [spec_piGood.l0, if_pos c1, if_pos c2, hrd, spec_in, Option.bind_some, decide_eq_true h0, decide_eq_true h1, if_true, if_pos h2]
          · refine Ev.step (fun k => ?_) (Ev.now _)
            simp only [impl_IsPicture.l0, if_pos c1, if_pos c2, hrd, impl_in_, Option.bind_some, decide_eq_true h0, decide_eq_true h1, if_true, if_pos h2]
        · have e : eok l[i] = true := by unfold eok; rw [decide_eq_true h0, decide_eq_true h1, decide_eq_false h2]; rfl
          obtain ⟨q1, q2⟩ := ih (i + 1) (by clear hw; omega) (by rw [List.take_succ_eq_append_getElem hil, List.all_append, hp]; simp [e])
          constructor
          · refine Ev.step (fun k => ?_) q1
            simp only [spec_piGood.l0, if_pos c1, if_pos c2, hrd, spec_in, Option.bind_some, decide_eq_true h0, decide_eq_true h1, if_true, if_neg h2, hw]
          · refine Ev.step (fun k => ?_) q2
            simp only [impl_IsPicture.l0, if_pos c1, if_pos c2, hrd, impl_in_, Option.bind_some, decide_eq_true h0, decide_eq_true h1, if_true, if_neg h2, hw]
      · have e := bad (by unfold eok; rw [decide_eq_false h1]; simp)
        rw [e]
        constructor
        · refine Ev.step (fun k => ?_) (Ev.now _)
          simp only [spec_piGood.l0, if_pos c1, if_pos c2, hrd, spec_in, Option.bind_some, decide_eq_true h0, decide_eq_false h1, if_true, Bool.false_eq_true, if_false]
        · refine Ev.step (fun k => ?_) (Ev.now _)
          simp only [impl_IsPicture.l0, if_pos c1, if_pos c2, hrd, impl_in_, Option.bind_some, decide_eq_true h0, decide_eq_false h1, if_true, Bool.false_eq_true, if_false]
    · have e := bad (by unfold eok; rw [decide_eq_false h0]; simp)
      rw [e]
      constructor
      · refine Ev.step (fun k => ?_) (Ev.now _)
        simp only [spec_piGood.l0, if_pos c1, if_pos c2, hrd, spec_in, Option.bind_some, decide_eq_false h0, Bool.false_eq_true, if_false]
      · refine Ev.step (fun k => ?_) (Ev.now _)
        simp only [impl_IsPicture.l0, if_pos c1, if_pos c2, hrd, impl_in_, Option.bind_some, decide_eq_false h0, Bool.false_eq_true, if_false]
theorem piGood_ev (l : List S47) (hl : l.length ≤ 1048576) : Ev (fun k => spec_piGood.f k l) (good l) := (good_l l hl l.length 0 (by omega) (by simp)).1
theorem isPic_ev (l : List S47) (hl : l.length ≤ 1048576) : Ev (fun k => impl_IsPicture.f k l) (good l) := (good_l l hl l.length 0 (by omega) (by simp)).2
theorem szPic (l : List S57) (h : l.length ≤ maxLen) : laws_szPicture.f l 1048576 = some (if l.length > 1048576 then -1 else 1048576 - (l.length : Int)) := by
  unfold laws_szPicture.f
  rw [szEdgeS l h]
  simp only [Option.bind_some]
  by_cases g : l.length > 1048576
  · rw [if_pos g, if_pos (by decide)]
  · rw [if_neg g, if_neg (by omega)]
theorem toPic_ev (l : List S57) (hl : l.length ≤ 1048576) : Ev (fun k => laws_toPicture.f k l) (l.map conv) := by
  unfold laws_toPicture.f
  exact Ev.bind (toEdgeS_ev l hl) (Ev.now _)
theorem eqPic_ev (l : List S47) (hl : l.length ≤ 1048576) : Ev (fun k => laws_eqPicture.f k l l) true := by
  unfold laws_eqPicture.f
  exact Ev.bind (eqEdgeS_ev l hl) (Ev.now _)

/-! ### what is reached is closed after as many rounds as there are edges -/
section
open impl_standing
theorem add_mono {R : Int → Bool} {e : S47} {n : Int} (h : R n = true) : add R e n = true := by
  unfold add
  split
  · show (if n = e.f1 then true else if n = e.f0 then true else R n) = true
    split
    · rfl
    · split
      · rfl
      · exact h
  · exact h
theorem fold_mono : ∀ (l : List S47) {R : Int → Bool} {n : Int}, R n = true → l.foldl add R n = true
  | [], _, _, h => h
  | e :: l, _, _, h => fold_mono l (add_mono h)
theorem add_ends {R : Int → Bool} {e : S47} (h : (R e.f0 || R e.f1) = true) : add R e e.f0 = true ∧ add R e e.f1 = true := by
  unfold add
  rw [if_pos h]
  constructor
  · show (if e.f0 = e.f1 then true else if e.f0 = e.f0 then true else R e.f0) = true
    split
    · rfl
    · rw [if_pos rfl]
  · show (if e.f1 = e.f1 then true else if e.f1 = e.f0 then true else R e.f1) = true
    rw [if_pos rfl]
theorem fold_ends : ∀ (l : List S47) {R : Int → Bool} {e : S47}, e ∈ l → (R e.f0 || R e.f1) = true → l.foldl add R e.f0 = true ∧ l.foldl add R e.f1 = true
  | d :: l, R, e, he, h => by
    rcases List.mem_cons.1 he with rfl | he
    · obtain ⟨h1, h2⟩ := add_ends h
      exact ⟨fold_mono l h1, fold_mono l h2⟩
    · refine fold_ends l (R := add R d) he ?_
      rw [Bool.or_eq_true] at h ⊢
      exact h.imp add_mono add_mono
theorem fold_new : ∀ (l : List S47) {R : Int → Bool} {n : Int}, l.foldl add R n = true → R n = false → ∃ e ∈ l, (e.f0 = n ∨ e.f1 = n) ∧ l.foldl add R e.f0 = true ∧ l.foldl add R e.f1 = true
  | [], R, n, h, h0 => by rw [show ([] : List S47).foldl add R n = R n from rfl, h0] at h; cases h
  | d :: l, R, n, h, h0 => by
    cases hc : add R d n with
    | false =>
      obtain ⟨e, h1, h2⟩ := fold_new l (R := add R d) h hc
      exact ⟨e, List.mem_cons_of_mem _ h1, h2⟩
    | true =>
      by_cases hb : (R d.f0 || R d.f1) = true
      · obtain ⟨q1, q2⟩ := add_ends hb
        refine ⟨d, List.mem_cons_self .., ?_, fold_mono l q1, fold_mono l q2⟩
        unfold add at hc
        rw [if_pos hb] at hc
        by_cases e1 : n = d.f1
        · exact Or.inr e1.symm
        · by_cases e0 : n = d.f0
          · exact Or.inl e0.symm
          · simp only [if_neg e1, if_neg e0, h0] at hc
            cases hc
      · unfold add at hc
        rw [if_neg hb, h0] at hc
        cases hc
theorem countP_lt {α : Type} (p q : α → Bool) : ∀ (l : List α), (∀ x ∈ l, p x = true → q x = true) → ∀ x ∈ l, q x = true → p x = false → l.countP p < l.countP q
  | a :: l, h, x, hx, hq, hp => by
    have hle : l.countP p ≤ l.countP q := List.countP_mono_left (fun y hy => h y (List.mem_cons_of_mem _ hy))
    rw [List.countP_cons, List.countP_cons]
    rcases List.mem_cons.1 hx with rfl | hx
    · rw [hp, hq]
      simp
      omega
    · have hlt := countP_lt p q l (fun y hy => h y (List.mem_cons_of_mem _ hy)) x hx hq hp
      have ha := h a (List.mem_cons_self ..)
      cases hpa : p a with
      | false =>
        simp
        omega
      | true =>
        rw [ha hpa]
        simp
        omega
def act (l : List S47) (m : Nat) : Nat := l.countP fun e => reach l m e.f0 && reach l m e.f1
theorem reach_succ (l : List S47) (m : Nat) : reach l (m + 1) = l.foldl add (reach l m) := rfl
theorem act_lt (l : List S47) (m : Nat) (n : Int) (h1 : reach l (m + 1) n = true) (h0 : reach l m n = false) : act l m < act l (m + 1) := by
  rw [reach_succ] at h1
  obtain ⟨e, he, hn, q1, q2⟩ := fold_new l h1 h0
  refine countP_lt _ _ l (fun x _ hx => ?_) e he ?_ ?_
  · rw [Bool.and_eq_true] at hx ⊢
    rw [reach_succ]
    exact ⟨fold_mono l hx.1, fold_mono l hx.2⟩
  · rw [Bool.and_eq_true, reach_succ]
    exact ⟨q1, q2⟩
  · rcases hn with rfl | rfl
    · rw [h0, Bool.false_and]
    · rw [h0, Bool.and_false]
theorem grow_or_still (l : List S47) : ∀ m, m ≤ act l m ∨ ∃ k, k < m ∧ ∀ n, reach l (k + 1) n = reach l k n
  | 0 => Or.inl (Nat.zero_le _)
  | m + 1 => by
    rcases grow_or_still l m with h | ⟨k, hk, h⟩
    · by_cases q : ∃ n, reach l (m + 1) n = true ∧ reach l m n = false
      · obtain ⟨n, q1, q2⟩ := q
        have := act_lt l m n q1 q2
        exact Or.inl (by omega)
      · refine Or.inr ⟨m, Nat.lt_succ_self m, fun n => ?_⟩
        cases h0 : reach l m n with
        | true => rw [reach_succ]; exact fold_mono l h0
        | false =>
          cases h1 : reach l (m + 1) n with
          | false => rfl
          | true => exact absurd ⟨n, h1, h0⟩ q
    · exact Or.inr ⟨k, by omega, h⟩
theorem still (l : List S47) (k : Nat) (h : ∀ n, reach l (k + 1) n = reach l k n) : ∀ d n, reach l (k + d) n = reach l k n
  | 0, _ => rfl
  | d + 1, n => by
    have e : reach l (k + d) = reach l k := funext (still l k h d)
    rw [show k + (d + 1) = (k + d) + 1 from rfl, reach_succ, e, ← reach_succ]
    exact h n
theorem closed (l : List S47) (e : S47) (he : e ∈ l) (h : reach l l.length e.f0 = true) : reach l l.length e.f1 = true := by
  rcases grow_or_still l l.length with q | ⟨k, hk, q⟩
  · have hle : act l l.length ≤ l.length := List.countP_le_length
    have := (List.countP_eq_length.1 (show l.countP _ = l.length from Nat.le_antisymm hle q)) e he
    rw [Bool.and_eq_true] at this
    exact this.2
  · have e1 : reach l l.length = reach l k := by
      have := still l k q (l.length - k)
      rw [show k + (l.length - k) = l.length by omega] at this
      exact funext this
    rw [e1] at h ⊢
    rw [← q, reach_succ]
    exact (fold_ends l he (by rw [h]; rfl)).2
theorem zero_in (l : List S47) : ∀ m, reach l m 0 = true
  | 0 => by show (if (0 : Int) = 0 then true else false) = true; rw [if_pos rfl]
  | m + 1 => by rw [reach_succ]; exact fold_mono l (zero_in l m)
theorem only_ends (l : List S47) (n : Int) : ∀ m, reach l m n = true → n = 0 ∨ ∃ e ∈ l, e.f0 = n ∨ e.f1 = n
  | 0, h => by
    by_cases q : n = 0
    · exact Or.inl q
    · rw [show reach l 0 n = (if n = 0 then true else false) from rfl, if_neg q] at h
      cases h
  | m + 1, h => by
    cases h0 : reach l m n with
    | true => exact only_ends l n m h0
    | false =>
      rw [reach_succ] at h
      obtain ⟨e, he, hn, _⟩ := fold_new l h h0
      exact Or.inr ⟨e, he, hn⟩
/-- Where the first end of every edge is reached: what is reached is the ground and the ends of edges. -/
theorem reach_iff (l : List S47) (h : ∀ e ∈ l, reach l l.length e.f0 = true) (n : Int) : reach l l.length n = true ↔ n = 0 ∨ (l.any fun x => x.f0 == n || x.f1 == n) = true := by
  rw [List.any_eq_true]
  constructor
  · intro q
    rcases only_ends l n _ q with q | ⟨e, he, q⟩
    · exact Or.inl q
    · exact Or.inr ⟨e, he, by rw [Bool.or_eq_true, beq_iff_eq, beq_iff_eq]; exact q⟩
  · rintro (rfl | ⟨e, he, q⟩)
    · exact zero_in l _
    · rw [Bool.or_eq_true, beq_iff_eq, beq_iff_eq] at q
      rcases q with rfl | rfl
      · exact h e he
      · exact closed l e he (h e he)
end

/-! ### a picture grown on another one -/
def top (l : List S47) : Int := l.foldl (fun m e => max (max m e.f0) e.f1) 0
theorem most_some (a b : Int) : spec_l1Most.f a b = some (max a b) := by
  unfold spec_l1Most.f
  by_cases h : a > b
  · rw [if_pos h]; congr 1; omega
  · rw [if_neg h]; congr 1; omega
theorem mx_max (a b : Int) : mx a b = max a b := by
  unfold mx
  split <;> omega
theorem moved_some (a n b : Int) : spec_piMoved.f a n b = some (impl_GrowOn.put n b a) := by
  unfold spec_piMoved.f impl_GrowOn.put
  by_cases h : a = 0
  · rw [if_pos h, if_pos h]
  · rw [if_neg h, if_neg h]
theorem top_l (l : List S47) (hl : l.length ≤ 1048576) : ∀ (d i : Nat), i + d = l.length →
    Ev (fun k => spec_piMost.l0 k (top (l.take i)) l (l.length : Int) (i : Int)) (top l) ∧ Ev (fun k => impl_greatest.l0 k (top (l.take i)) l (l.length : Int) (i : Int)) (top l) := by
  intro d
  induction d with
  | zero =>
    intro i hi
    obtain rfl : i = l.length := by omega
    have c : ¬ (l.length : Int) < (l.length : Int) := by omega
    rw [List.take_length]
    constructor
    · refine Ev.step (fun k => ?_) (Ev.now _)
      simp only [spec_piMost.l0, if_neg c]
    · refine Ev.step (fun k => ?_) (Ev.now _)
      simp only [impl_greatest.l0, if_neg c]
  | succ d ih =>
    intro i hi
    have hil : i < l.length := by omega
    have c1 : (i : Int) < (l.length : Int) := by omega
    have c2 : (0 : Int) ≤ (i : Int) := Int.natCast_nonneg _
    have hw := wsucc i (by omega)
    obtain ⟨n1, n2⟩ := ih (i + 1) (by clear hw; omega)
    have e1 : top (l.take (i + 1)) = max (max (top (l.take i)) l[i].f0) l[i].f1 := by
      unfold top
      rw [List.take_succ_eq_append_getElem hil, List.foldl_append]
      rfl
    have e2 : top (l.take (i + 1)) = max (top (l.take i)) (max l[i].f0 l[i].f1) := by rw [e1]; clear hw; omega
    constructor
    · rw [e2] at n1
      refine Ev.step (fun k => ?_) n1
      simp only [spec_piMost.l0, if_pos c1, if_pos c2, rdI l i hil, most_some, Option.bind_some, hw]
    · rw [e1] at n2
      refine Ev.step (fun k => ?_) n2
      simp only [impl_greatest.l0, if_pos c1, if_pos c2, rdI l i hil, mx_max, hw]
theorem grow_l (l q : List S47) (node b : Int) (h0 : l.length ≤ 10) (h1 : q.length ≤ 10) : ∀ (d i : Nat), i + d = q.length →
    Ev (fun k => spec_piGrow.l0 k node b q (q.length : Int) (i : Int) (l ++ (q.take i).map (impl_GrowOn.mv node b))) (l ++ q.map (impl_GrowOn.mv node b)) := by
  intro d
  induction d with
  | zero =>
    intro i hi
    obtain rfl : i = q.length := by omega
    have c : ¬ (q.length : Int) < (q.length : Int) := by omega
    rw [List.take_length]
    refine Ev.step (fun k => ?_) (Ev.now _)
    simp only [spec_piGrow.l0, if_neg c]
  | succ d ih =>
    intro i hi
    have hil : i < q.length := by omega
    have c1 : (i : Int) < (q.length : Int) := by omega
    have c2 : (0 : Int) ≤ (i : Int) := Int.natCast_nonneg _
    have hw := wsucc i (by omega)
    have hn := ih (i + 1) (by clear hw; omega)
    have c3 : (l ++ (q.take i).map (impl_GrowOn.mv node b)).length < 5864062014805 := by
      rw [List.length_append, List.length_map, List.length_take]
      clear hw
      omega
    rw [List.take_succ_eq_append_getElem hil, List.map_append, ← List.append_assoc] at hn
    refine Ev.step (fun k => ?_) hn
    simp only [spec_piGrow.l0, if_pos c1, if_pos c2, rdI q i hil, moved_some, Option.bind_some, if_pos c3, hw]
    rfl
theorem grown_ev (l q : List S47) (node : Int) (h0 : l.length ≤ 10) (h1 : q.length ≤ 10) : Ev (fun k => spec_piGrow.f k l node q) (l ++ q.map (impl_GrowOn.mv node (top l))) := by
  have c : ([] : List S47).length + l.length < 5864062014805 := by simp only [List.length_nil]; omega
  have g := grow_l l q node (top l) h0 h1 q.length 0 (by omega)
  unfold spec_piGrow.f
  refine Ev.bind (top_l l (by omega) l.length 0 (by omega)).1 ?_
  simp only [Option.bind_some, if_pos c, List.nil_append]
  simpa using g
theorem good_parts {l : List S47} (hg : good l = true) : l.all impl_standing.ok = true ∧ l.length ≤ 10 ∧ ∀ e ∈ l, impl_standing.reach l l.length e.f0 = true := by
  unfold good at hg
  simp only [Bool.and_eq_true, decide_eq_true_eq] at hg
  exact ⟨ok_of hg.1, hg.2.1, fun e he => List.all_eq_true.1 hg.2.2 e he⟩
theorem ends_of {l : List S47} (hg : good l = true) {n : Int} (h : impl_GrowOn.has n l = true) : 0 ≤ n ∧ n ≤ 10 := by
  obtain ⟨h1, _, _⟩ := good_parts hg
  unfold impl_GrowOn.has at h
  obtain ⟨e, he, q⟩ := List.any_eq_true.1 h
  have ok := List.all_eq_true.1 h1 e he
  simp only [impl_standing.ok, decide_eq_true_eq] at ok
  rw [Bool.or_eq_true, beq_iff_eq, beq_iff_eq] at q
  omega
/-- What grows on a node, on both sides. -/
theorem grow_both (l q : List S47) (node : Int) (h0 : l.length ≤ 10) (h1 : q.length ≤ 10) : ∃ r : List S47 × Bool, r.1.length ≤ 20 ∧
    Ev (fun k => (spec_piGrow.f k l node q).bind fun t => (spec_piIf.f k t).bind fun b => some (b.1, b.2)) r ∧
    Ev (fun k => (impl_greatest.f k l).bind fun t => if l.length ≤ 10 ∧ q.length ≤ 10 then ((impl_IsPicture.f k (l ++ q.map (impl_GrowOn.mv node t))).bind fun c => some (if c = true then (l ++ q.map (impl_GrowOn.mv node t), true) else ([], false))) else none) r := by
  have hol : (l ++ q.map (impl_GrowOn.mv node (top l))).length ≤ 20 := by rw [List.length_append, List.length_map]; omega
  have g1 := piGood_ev (l ++ q.map (impl_GrowOn.mv node (top l))) (by omega)
  have g2 := isPic_ev (l ++ q.map (impl_GrowOn.mv node (top l))) (by omega)
  have s := grown_ev l q node h0 h1
  have t := (top_l l (by omega) l.length 0 (by omega)).2
  cases hg : good (l ++ q.map (impl_GrowOn.mv node (top l))) with
  | false =>
    rw [hg] at g1 g2
    refine ⟨([], false), by simp, Ev.bind s ?_, Ev.bind t ?_⟩
    · refine Ev.bind (a := (([], false) : List S47 × Bool)) ?_ (Ev.now _)
      unfold spec_piIf.f
      exact Ev.bind g1 (Ev.now _)
    · simp only [if_pos (show l.length ≤ 10 ∧ q.length ≤ 10 from ⟨h0, h1⟩)]
      exact Ev.bind g2 (Ev.now _)
  | true =>
    rw [hg] at g1 g2
    refine ⟨(l ++ q.map (impl_GrowOn.mv node (top l)), true), hol, Ev.bind s ?_, Ev.bind t ?_⟩
    · refine Ev.bind (a := ((l ++ q.map (impl_GrowOn.mv node (top l)), true) : List S47 × Bool)) ?_ (Ev.now _)
      unfold spec_piIf.f
      exact Ev.bind g1 (Ev.now _)
    · simp only [if_pos (show l.length ≤ 10 ∧ q.length ≤ 10 from ⟨h0, h1⟩)]
      exact Ev.bind g2 (Ev.now _)

theorem sum_ev (l q : List S47) (hl : l.length ≤ 1048576) (hq : q.length ≤ 1048576) : ∃ r : List S47 × Bool, Ev (fun k => spec_SumOfPictures.f k l q) r ∧ Ev (fun k => impl_SumOfPictures.f k l q) r ∧ r.1.length ≤ 1048576 := by
  have no1 : Ev (fun k => spec_SumOfPictures.j0 k true l q) ([], false) := Ev.step (fun k => by simp only [spec_SumOfPictures.j0, if_true]) (Ev.now _)
  have g1 := piGood_ev l hl
  have g2 := isPic_ev l hl
  have k1 := piGood_ev q hq
  have k2 := isPic_ev q hq
  have fin : ∀ r : List S47 × Bool, Ev (fun k => impl_GrowOn.f k l 0 q) r → Ev (fun k => impl_SumOfPictures.f k l q) r := by
    intro r h
    unfold impl_SumOfPictures.f
    exact Ev.bind h (Ev.now _)
  suffices hs : ∃ r : List S47 × Bool, Ev (fun k => spec_SumOfPictures.f k l q) r ∧ Ev (fun k => impl_GrowOn.f k l 0 q) r ∧ r.1.length ≤ 1048576 by
    obtain ⟨r, r1, r2, r3⟩ := hs
    exact ⟨r, r1, fin r r2, r3⟩
  unfold spec_SumOfPictures.f impl_GrowOn.f
  cases hg : good l with
  | false =>
    rw [hg] at g1 g2
    exact ⟨([], false), Ev.bind g1 no1, Ev.bind g2 (Ev.now _), by simp⟩
  | true =>
    rw [hg] at g1 g2
    cases hk : good q with
    | false =>
      rw [hk] at k1 k2
      refine ⟨([], false), Ev.bind g1 ?_, Ev.bind g2 ?_, by simp⟩
      · simp only [if_true]
        exact Ev.bind k1 no1
      · simp only [if_true]
        exact Ev.bind k2 (Ev.now _)
    | true =>
      rw [hk] at k1 k2
      obtain ⟨ok, hl10, hre⟩ := good_parts hg
      have hq10 := (good_parts hk).2.1
      have hor : (0 : Int) = 0 ∨ impl_GrowOn.has 0 l = true := Or.inl rfl
      obtain ⟨r, r0, r1, r2⟩ := grow_both l q 0 hl10 hq10
      refine ⟨r, Ev.bind g1 ?_, Ev.bind g2 ?_, by omega⟩
      · simp only [if_true]
        refine Ev.bind k1 ?_
        simp only [Bool.not_true]
        refine Ev.step (fun k => ?_) r1
        simp only [spec_SumOfPictures.j0, Bool.false_eq_true, if_false]
      · simp only [if_true]
        refine Ev.bind k2 ?_
        simp only [if_true, if_pos hor]
        exact r2

/-! ### marks in a list of edges, and marks that are held -/
theorem rd_set (xs : List S47) (i : Nat) (a : S47) (h : i < xs.length) : rd_T47 (xs.set i a) (i : Int) = a := by
  simp [rd_T47, List.getD_eq_getElem?_getD, List.getElem?_set_self h]
theorem markEdgeS_l : ∀ (d i m : Nat) (xs : List S47), i + d = xs.length → m + 3 * d < 2 ^ 61 → xs.length < 2 ^ 61 →
    ∃ ys : List S47, Ev (fun k => laws_markEdgeS.l0 k xs (m : Int) (i : Int)) (((m + 3 * d : Nat) : Int), ys) ∧ ys.length = xs.length ∧ (∀ j, j < i → ys[j]? = xs[j]?) ∧
      Ev (fun k => laws_heldEdgeS.l0 k ys (m : Int) (i : Int)) ((m + 3 * d : Nat) : Int) := by
  intro d
  induction d with
  | zero =>
    intro i m xs hi hm hx
    have c : ¬ (i : Int) < (xs.length : Int) := by omega
    refine ⟨xs, Ev.step (fun k => ?_) (Ev.now _), rfl, fun _ _ => rfl, Ev.step (fun k => ?_) (Ev.now _)⟩
    · simp only [laws_markEdgeS.l0, if_neg c, Nat.mul_zero, Nat.add_zero]
    · simp only [laws_heldEdgeS.l0, if_neg c, Nat.mul_zero, Nat.add_zero]
  | succ d ih =>
    intro i m xs hi hm hx
    obtain ⟨ys, h1, h2, h3, h4⟩ := ih (i + 1) (m + 3) (xs.set i ⟨(m : Int), ((m + 1 : Nat) : Int), Int.tmod ((m + 2 : Nat) : Int) 3 == 0⟩) (by rw [List.length_set]; omega) (by omega) (by rw [List.length_set]; omega)
    rw [List.length_set] at h2
    have e : m + 3 + 3 * d = m + 3 * (d + 1) := by omega
    rw [e] at h1 h4
    have g1 : (i : Int) < (xs.length : Int) := by omega
    have g1' : (i : Int) < (ys.length : Int) := by omega
    have g2 : (0 : Int) ≤ (i : Int) := Int.natCast_nonneg _
    have hil : i < xs.length := by omega
    have g3 : rd_T47 ys (i : Int) = ⟨(m : Int), ((m + 1 : Nat) : Int), Int.tmod ((m + 2 : Nat) : Int) 3 == 0⟩ := by
      have := h3 i (by omega)
      rw [List.getElem?_set_self (by omega)] at this
      simp [rd_T47, List.getD_eq_getElem?_getD, this]
    refine ⟨ys, Ev.step (fun k => ?_) h1, h2, fun j hj => ?_, Ev.step (fun k => ?_) h4⟩
    · have w1 : wrap64 ((i : Int) + 1) = ((i + 1 : Nat) : Int) := wsucc i (by omega)
      have w2 : wrap64 ((m : Int) + 1) = ((m + 1 : Nat) : Int) := wsucc m (by clear w1; omega)
      have w3 : wrap64 (((m + 1 : Nat) : Int) + 1) = ((m + 2 : Nat) : Int) := wsucc (m + 1) (by clear w1 w2; omega)
      have w4 : wrap64 (((m + 2 : Nat) : Int) + 1) = ((m + 3 : Nat) : Int) := wsucc (m + 2) (by clear w1 w2 w3; omega)
      simp only [laws_markEdgeS.l0, if_pos g1, if_pos g2, Option.bind_some, Int.toNat_natCast, rd_set xs i _ hil, List.set_set, w1, w2, w3, w4]
    · have := h3 j (by omega)
      rwa [List.getElem?_set_ne (by omega)] at this
    · have w1 : wrap64 ((i : Int) + 1) = ((i + 1 : Nat) : Int) := wsucc i (by omega)
      have w2 : wrap64 ((m : Int) + 1) = ((m + 1 : Nat) : Int) := wsucc m (by clear w1; omega)
      have w3 : wrap64 (((m + 1 : Nat) : Int) + 1) = ((m + 2 : Nat) : Int) := wsucc (m + 1) (by clear w1 w2; omega)
      have w4 : wrap64 (((m + 2 : Nat) : Int) + 1) = ((m + 3 : Nat) : Int) := wsucc (m + 2) (by clear w1 w2 w3; omega)
      simp only [laws_heldEdgeS.l0, if_pos g1', if_pos g2, g3, if_true, bne_self_eq_false, Bool.false_eq_true, if_false, w1, w2, w3, w4]
theorem markEdgeS_ev (xs : List S47) (m : Nat) (h : xs.length ≤ 1048576) (hm : m ≤ 1048576) : ∃ ys : List S47, Ev (fun k => laws_markEdgeS.f k xs (m : Int)) (((m + 3 * xs.length : Nat) : Int), ys) ∧ ys.length = xs.length ∧
    Ev (fun k => laws_heldEdgeS.f k ys (m : Int)) ((m + 3 * xs.length : Nat) : Int) := by
  obtain ⟨ys, h1, h2, _, h4⟩ := markEdgeS_l xs.length 0 m xs (by omega) (by omega) (by omega)
  exact ⟨ys, h1, h2, h4⟩

theorem markPic_ev (xs : List S47) (h : xs.length ≤ 1048576) : ∃ ys : List S47, ∃ m : Nat, Ev (fun k => laws_markPicture.f k xs 1) ((m : Int), ys) ∧ ys.length = xs.length ∧ Ev (fun k => laws_heldEdgeS.f k ys 1) (m : Int) := by
  obtain ⟨ys, h1, h2, h4⟩ := markEdgeS_ev xs 1 h (by decide)
  refine ⟨ys, 1 + 3 * xs.length, ?_, h2, h4⟩
  unfold laws_markPicture.f
  exact Ev.bind h1 (Ev.now _)

theorem heldPic_ev (ys : List S47) (m : Nat) (h : Ev (fun k => laws_heldEdgeS.f k ys 1) (m : Int)) : Ev (fun k => laws_heldPicture.f k ys 1) (m : Int) := by
  unfold laws_heldPicture.f
  refine Ev.bind h ?_
  simp only [show ¬ (m : Int) < 0 from by omega, if_false]
  exact Ev.now _

theorem j2_ev (ys : List S47) (m : Nat) (hh : Ev (fun k => laws_heldEdgeS.f k ys 1) (m : Int)) : Ev (fun k => laws_FnExactSumOfPictures.j2 k (m : Int) false ys) true := by
  refine Ev.step (f := ?gga1) (fun k => ?ggb1) ?ggc1
  case ggb1 => conv => lhs; simp only [laws_FnExactSumOfPictures.j2, Bool.false_eq_true, if_false]
  case ggc1 =>
    refine Ev.bind (heldPic_ev ys m hh) ?_
    simp only [show ¬ ((m : Int) < 0) from by omega, if_false, if_true]
    exact Ev.now _
theorem j1_ev (l l' : List S57) (R : List S47) (b : Bool) (hl : l.length ≤ 1048576) (hl' : l'.length ≤ 1048576) (hR : R.length ≤ 1048576) (hi : Ev (fun k => impl_SumOfPictures.f k (l.map conv) (l'.map conv)) (R, b)) : Ev (fun k => laws_FnExactSumOfPictures.j1 k b false l l' R R) true := by
  obtain ⟨ys, m, m1, m2, m3⟩ := markPic_ev R hR
  refine Ev.step (f := ?gga2) (fun k => ?ggb2) ?ggc2
  case ggb2 => conv => lhs; simp only [laws_FnExactSumOfPictures.j1, Bool.false_eq_true, if_false]
  case ggc2 =>
    refine Ev.bind m1 (Ev.bind (heldPic_ev ys m m3) ?_)
    simp only [show ¬ ((m : Int) < 0) from by omega, if_false, if_true]
    refine Ev.bind (toPic_ev l hl) (Ev.bind (toPic_ev l' hl') (Ev.bind hi (Ev.bind (eqPic_ev R hR) ?_)))
    simp only [if_true, bne_self_eq_false]
    exact j2_ev ys _ m3
theorem j0_ev (l l' : List S57) (R : List S47) (b : Bool) (hl : l.length ≤ 1048576) (hl' : l'.length ≤ 1048576) (hR : R.length ≤ 1048576) (hi : Ev (fun k => impl_SumOfPictures.f k (l.map conv) (l'.map conv)) (R, b)) : Ev (fun k => laws_FnExactSumOfPictures.j0 k b b false l l' R (l.map conv) (l'.map conv) R) true := by
  have hc : (l.map conv).length ≤ 1048576 := by rw [List.length_map]; exact hl
  have hc' : (l'.map conv).length ≤ 1048576 := by rw [List.length_map]; exact hl'
  obtain ⟨ys, h1, h2, h4⟩ := markEdgeS_ev (l.map conv) 1 hc (by decide)
  have m1 : Ev (fun k => laws_markPicture.f k (l.map conv) 1) (((1 + 3 * (l.map conv).length : Nat) : Int), ys) := by
    unfold laws_markPicture.f
    exact Ev.bind h1 (Ev.now _)
  obtain ⟨ys', p1, _⟩ := markEdgeS_l (l'.map conv).length 0 (1 + 3 * (l.map conv).length) (l'.map conv) (by omega) (by omega) (by omega)
  have m2 : Ev (fun k => laws_markPicture.f k (l'.map conv) ((1 + 3 * (l.map conv).length : Nat) : Int)) (((1 + 3 * (l.map conv).length + 3 * (l'.map conv).length : Nat) : Int), ys') := by
    unfold laws_markPicture.f
    exact Ev.bind (show Ev (fun k => laws_markEdgeS.f k (l'.map conv) ((1 + 3 * (l.map conv).length : Nat) : Int)) _ from p1) (Ev.now _)
  refine Ev.step (f := ?gga3) (fun k => ?ggb3) ?ggc3
  case ggb3 => conv => lhs; simp only [laws_FnExactSumOfPictures.j0, Bool.false_eq_true, if_false]
  case ggc3 =>
    refine Ev.bind (toPic_ev l hl) (Ev.bind (eqPic_ev _ hc) ?_)
    simp only [if_true]
    refine Ev.bind (toPic_ev l' hl') (Ev.bind (eqPic_ev _ hc') ?_)
    simp only [if_true]
    refine Ev.bind m1 (Ev.bind m2 ?_)
    simp only [show ¬ (((1 + 3 * (l.map conv).length + 3 * (l'.map conv).length : Nat) : Int) < 0) from by omega, if_false]
    refine Ev.bind (eqPic_ev R hR) ?_
    simp only [if_true, bne_self_eq_false]
    exact j1_ev l l' R b hl hl' hR hi
theorem proved : laws_FnExactSumOfPictures.Pure := by
  intro l l' hm hm'
  refine Ev.rounds ?_
  unfold laws_FnExactSumOfPictures.f
  simp only [szPic l hm.1, Option.bind_some]
  by_cases hb : l.length > 1048576
  · simp only [if_pos hb]
    exact Ev.now _
  · have hl : l.length ≤ 1048576 := by omega
    have c : ¬ (1048576 - (l.length : Int)) < 0 := by omega
    simp only [if_neg hb, if_neg c]
    have hsz : laws_szPicture.f l' (1048576 - (l.length : Int)) = some (if 1048576 - (l.length : Int) - (l'.length : Int) < 0 then -1 else 1048576 - (l.length : Int) - (l'.length : Int)) := by
      have hw : wrap64 (1048576 - (l.length : Int) - (l'.length : Int)) = 1048576 - (l.length : Int) - (l'.length : Int) := by
        have := hm'.1
        unfold maxLen at this
        unfold wrap64
        omega
      unfold laws_szPicture.f laws_szEdgeS.f
      rw [hw]
      clear hw
      by_cases g : 1048576 - (l.length : Int) - (l'.length : Int) < 0
      · simp only [if_pos g, Option.bind_some, show ((-1 : Int) < 0) from by decide, if_true]
      · simp only [if_neg g, Option.bind_some]
    rw [hsz]
    simp only [Option.bind_some]
    clear hsz
    by_cases hb' : 1048576 - (l.length : Int) - (l'.length : Int) < 0
    · simp only [if_pos hb', show ((-1 : Int) < 0) from by decide, if_true]
      exact Ev.now _
    · have hl' : l'.length ≤ 1048576 := by omega
      simp only [if_neg hb']
      obtain ⟨⟨R, b⟩, s1, s2, s3⟩ := sum_ev (l.map conv) (l'.map conv) (by rw [List.length_map]; exact hl) (by rw [List.length_map]; exact hl')
      have ht := toPic_ev l hl
      have ht' := toPic_ev l' hl'
      refine Ev.bind ht (Ev.bind ht' (Ev.bind s1 (Ev.bind ht (Ev.bind ht' (Ev.bind s2 (Ev.bind (eqPic_ev R s3) ?_))))))
      simp only [if_true, bne_self_eq_false]
      exact j0_ev l l' R b hl hl' s3 s2

end LFnExactSumOfPictures
theorem FnExactSumOfPictures : laws_FnExactSumOfPictures.Pure := LFnExactSumOfPictures.proved
end Go.Proofs.Ytnabbkaipfhmdaa.Pure
