/- For any picture, the program's text of it is the reference's, and the picture is left as it was. -/
import Derived.Test.YtjfhhpkgjdkmdaaDoorQFnExactPictureTextx6
import Derived.Lib.ItoaLen
import Derived.Lib.Join
namespace Go.Proofs.YtjfhhpkgjdkmdaaDoor.Pure
open Go.RowKit Go.Proofs.YtjfhhpkgjdkmdaaDoor.QFnExactPictureText Go.Proofs.YtjfhhpkgjdkmdaaDoorW.PrintWords Go.Proofs.YtjfhhpkgjdkmdaaDoorW.PrintLast
set_option linter.unusedVariables false
set_option linter.unusedSimpArgs false
def laws_FnExactPictureText.Pure : Prop := ∀ (l0_0 : List (S77)), (l0_0.length ≤ maxLen ∧ ∀ y0 ∈ l0_0, ((Lit.int .i64 y0.f0).wf = true ∧ ((Lit.int .i64 y0.f1).wf = true ∧ True))) → ∃ k, laws_FnExactPictureText.f k l0_0 = some true
namespace LFnExactPictureText
/-! ### small words -/
theorem wsucc (i : Nat) (h : i < 2 ^ 62) : wrap64 ((i : Int) + 1) = ((i + 1 : Nat) : Int) := by unfold wrap64; omega

/-! ### lists of edges: their size, a copy, the same -/
theorem rdL (xs : List S77) (i : Nat) (h : i < xs.length) : rd_T77 xs (i : Int) = xs[i] := by
  simp [rd_T77, List.getD_eq_getElem?_getD, List.getElem?_eq_getElem h]
theorem rdI (xs : List S56) (i : Nat) (h : i < xs.length) : rd_T56 xs (i : Int) = xs[i] := by
  simp [rd_T56, List.getD_eq_getElem?_getD, List.getElem?_eq_getElem h]
theorem szEdgeS (l : List S77) (h : l.length ≤ maxLen) : laws_szEdgeS.f l 1048576 = some (if l.length > 1048576 then -1 else 1048576 - (l.length : Int)) := by
  unfold maxLen at h
  have hw : wrap64 (1048576 - (l.length : Int)) = 1048576 - (l.length : Int) := by unfold wrap64; omega
  unfold laws_szEdgeS.f
  rw [hw]
  clear hw
  by_cases g : l.length > 1048576
  · rw [if_pos (by omega), if_pos g]
  · rw [if_neg (by omega), if_neg g]
/-- An edge of the program for an edge of the law. -/
def conv (p : S77) : S56 := ⟨p.f0, p.f1, p.f2⟩
theorem toEdgeS_l (l : List S77) (hl : l.length ≤ 1048576) : ∀ (d i : Nat) (ys : List S56), i + d = l.length → ys.length = l.length → (∀ j, j < i → ys[j]? = (l.map conv)[j]?) →
    Ev (fun k => laws_toEdgeS.l0 k l ys (i : Int)) (l.map conv) := by
  intro d
  induction d with
  | zero =>
    intro i ys hi hy hj
    have c : ¬ (i : Int) < (l.length : Int) := by omega
    have : ys = l.map conv := by
      apply List.ext_getElem?
      intro j
      by_cases g : j < i
      · exact hj j g
      · rw [List.getElem?_eq_none (by omega), List.getElem?_eq_none (by rw [List.length_map]; omega)]
    subst this
    refine Ev.step (fun k => ?_) (Ev.now _)
    simp only [laws_toEdgeS.l0, if_neg c]
  | succ d ih =>
    intro i ys hi hy hj
    have g1 : (i : Int) < (l.length : Int) := by omega
    have g1' : (i : Int) < (ys.length : Int) := by omega
    have g2 : (0 : Int) ≤ (i : Int) := Int.natCast_nonneg _
    have hil : i < l.length := by omega
    have hw : wrap64 ((i : Int) + 1) = ((i + 1 : Nat) : Int) := wsucc i (by omega)
    refine Ev.step (fun k => ?_) (ih (i + 1) (ys.set i (conv l[i])) (by clear hw; omega) (by rw [List.length_set]; exact hy) (fun j hjl => ?_))
    · simp only [laws_toEdgeS.l0, if_pos g1, if_pos g2, rdL l i hil, laws_toEdge.f, Option.bind_some, if_pos g1', Int.toNat_natCast, hw]
      rfl
    · rw [List.getElem?_set]
      by_cases e : i = j
      · subst e
        rw [if_pos rfl, if_pos (by clear hw; omega), List.getElem?_map, List.getElem?_eq_getElem hil]
        rfl
      · rw [if_neg e]
        exact hj j (by clear hw; omega)
theorem toEdgeS_ev (l : List S77) (hl : l.length ≤ 1048576) : Ev (fun k => laws_toEdgeS.f k l) (l.map conv) := by
  unfold laws_toEdgeS.f
  simp only [if_pos (Int.natCast_nonneg l.length), Int.toNat_natCast, show l.length ≤ 11728124029610 from by omega, if_true]
  exact toEdgeS_l l hl l.length 0 _ (by omega) (by simp) (fun j hj => by omega)
theorem eqEdgeS_l (l : List S56) (hl : l.length ≤ 1048576) : ∀ (d i : Nat), i + d = l.length → Ev (fun k => laws_eqEdgeS.l0 k l l (i : Int)) true := by
  intro d
  induction d with
  | zero =>
    intro i hi
    have c : ¬ (i : Int) < (l.length : Int) := by omega
    refine Ev.step (fun k => ?_) (Ev.now _)
    simp only [laws_eqEdgeS.l0, if_neg c]
  | succ d ih =>
    intro i hi
    have g1 : (i : Int) < (l.length : Int) := by omega
    have g2 : (0 : Int) ≤ (i : Int) := Int.natCast_nonneg _
    have hw : wrap64 ((i : Int) + 1) = ((i + 1 : Nat) : Int) := wsucc i (by omega)
    refine Ev.step (fun k => ?_) (ih (i + 1) (by clear hw; omega))
    simp only [laws_eqEdgeS.l0, if_pos g1, if_pos g2, laws_eqEdge.f, if_true, Option.bind_some, bne_self_eq_false, Bool.false_eq_true, if_false, hw]
theorem eqEdgeS_ev (l : List S56) (hl : l.length ≤ 1048576) : Ev (fun k => laws_eqEdgeS.f k l l) true := by
  unfold laws_eqEdgeS.f
  simp only [if_true]
  exact eqEdgeS_l l hl l.length 0 (by omega)

/-! ### what is reached, and what is a picture -/
theorem spec_in (e a b : Int) : spec_l1In.f e a b = some (decide (a ≤ e ∧ e ≤ b)) := by
  unfold spec_l1In.f
  by_cases h : e ≥ a
  · rw [if_pos h]; simp [show a ≤ e from h]
  · rw [if_neg h]; simp [show ¬ a ≤ e from h]
theorem impl_in_ (e a b : Int) : impl_in.f e a b = some (decide (a ≤ e ∧ e ≤ b)) := by
  unfold impl_in.f
  by_cases h : e ≥ a
  · rw [if_pos h]; simp [show a ≤ e from h]
  · rw [if_neg h]; simp [show ¬ a ≤ e from h]
structure Sy (s : List Bool) (R : Int → Bool) : Prop where
  len : s.length = 11
  at_ : ∀ n : Nat, n < 11 → rdOf false s (n : Int) = R (n : Int)
theorem rdOf_set (s : List Bool) (i : Nat) (v : Bool) (h : i < s.length) (j : Nat) : rdOf false (s.set i v) (j : Int) = if j = i then v else rdOf false s (j : Int) := by
  unfold rdOf
  rw [Int.toNat_natCast]
  by_cases e : j = i
  · subst e
    rw [if_pos rfl]
    simp [h]
  · rw [if_neg e]
    have : ¬ i = j := fun q => e q.symm
    simp [this]
theorem Sy.set {s : List Bool} {R : Int → Bool} (h : Sy s R) {a b : Nat} (ha : a < 11) (hb : b < 11) : Sy ((s.set a true).set b true) (fun y => if y = (b : Int) then true else if y = (a : Int) then true else R y) := by
  refine ⟨by rw [List.length_set, List.length_set]; exact h.len, fun n hn => ?_⟩
  rw [rdOf_set _ b true (by rw [List.length_set, h.len]; exact hb), rdOf_set _ a true (by rw [h.len]; exact ha), h.at_ n hn]
  by_cases e1 : n = b
  · subst e1; simp
  · have e1' : ¬ (n : Int) = (b : Int) := by omega
    rw [if_neg e1, if_neg e1']
    by_cases e2 : n = a
    · subst e2; simp
    · have e2' : ¬ (n : Int) = (a : Int) := by omega
      rw [if_neg e2, if_neg e2']
theorem okNat {l : List S56} (h : l.all impl_standing.ok = true) {j : Nat} (hj : j < l.length) : ∃ a b : Nat, l[j].f0 = (a : Int) ∧ l[j].f1 = (b : Int) ∧ a < 11 ∧ b < 11 := by
  have := List.all_eq_true.1 h _ (List.getElem_mem hj)
  simp only [impl_standing.ok, decide_eq_true_eq] at this
  exact ⟨l[j].f0.toNat, l[j].f1.toNat, by omega, by omega, by omega, by omega⟩
section
variable (l : List S56) (h : l.all impl_standing.ok = true) (hl : l.length ≤ 10)
include h hl
theorem reach1 (m : Nat) (hm : m < 2 ^ 60) : ∀ (d j : Nat) (s : List Bool) (R : Int → Bool), j + d = l.length → Sy s R → ∃ s', Sy s' ((l.drop j).foldl impl_standing.add R) ∧
    ∀ res, Ev (fun k => spec_piReach.l0 k l s' (l.length : Int) ((m + 1 : Nat) : Int)) res → Ev (fun k => spec_piReach.l1 k l s (l.length : Int) (m : Int) l (l.length : Int) (j : Int)) res := by
  intro d
  induction d with
  | zero =>
    intro j s R hj hs
    have e : l.drop j = [] := List.drop_eq_nil_of_le (by omega)
    have c : ¬ (j : Int) < (l.length : Int) := by omega
    rw [e]
    refine ⟨s, hs, fun res q => Ev.step (fun k => ?_) q⟩
    simp only [spec_piReach.l1, if_neg c, wsucc m (by omega)]
  | succ d ih =>
    intro j s R hj hs
    have hjl : j < l.length := by omega
    have c1 : (j : Int) < (l.length : Int) := by omega
    have c2 : (0 : Int) ≤ (j : Int) := Int.natCast_nonneg _
    obtain ⟨a, b, ea, eb, ha, hb⟩ := okNat h hjl
    have ca : (0 : Int) ≤ (a : Int) := Int.natCast_nonneg _
    have cb : (0 : Int) ≤ (b : Int) := Int.natCast_nonneg _
    have ca2 : (a : Int) < (s.length : Int) := by rw [hs.len]; omega
    have cb2 : (b : Int) < (s.length : Int) := by rw [hs.len]; omega
    have hw := wsucc j (by omega)
    have hrd := rdI l j hjl
    have hsa := hs.at_ a ha
    have hsb := hs.at_ b hb
    rw [List.drop_eq_getElem_cons hjl, List.foldl_cons]
    have hadd : impl_standing.add R l[j] = if (R a || R b) = true then (fun y => if y = (b : Int) then true else if y = (a : Int) then true else R y) else R := by
      unfold impl_standing.add
      rw [ea, eb]
    rw [hadd]
    cases hA : R a with
    | true =>
      obtain ⟨s', q1, q2⟩ := ih (j + 1) _ _ (by clear hw; omega) (hs.set ha hb)
      refine ⟨s', by simpa using q1, fun res q => Ev.step (fun k => ?_) (q2 res q)⟩
      rw [hA] at hsa
      simp only [spec_piReach.l1, if_pos c1, if_pos c2, hrd, ea, eb, if_pos ca, if_pos ca2, hsa, if_true, if_pos cb, if_pos cb2, Int.toNat_natCast, hw]
    | false =>
      rw [hA] at hsa
      cases hB : R b with
      | true =>
        obtain ⟨s', q1, q2⟩ := ih (j + 1) _ _ (by clear hw; omega) (hs.set ha hb)
        refine ⟨s', by simpa using q1, fun res q => Ev.step (fun k => ?_) (q2 res q)⟩
        rw [hB] at hsb
        simp only [spec_piReach.l1, if_pos c1, if_pos c2, hrd, ea, eb, if_pos ca, if_pos ca2, hsa, hsb, Bool.false_eq_true, if_false, if_true, if_pos cb, if_pos cb2, Int.toNat_natCast, hw]
      | false =>
        obtain ⟨s', q1, q2⟩ := ih (j + 1) s R (by clear hw; omega) hs
        refine ⟨s', by simpa using q1, fun res q => Ev.step (fun k => ?_) (q2 res q)⟩
        rw [hB] at hsb
        simp only [spec_piReach.l1, if_pos c1, if_pos c2, hrd, ea, eb, if_pos ca, if_pos ca2, hsa, hsb, Bool.false_eq_true, if_false, if_pos cb, if_pos cb2, hw]
theorem reach0 : ∀ (d m : Nat) (s : List Bool), m + d = l.length → Sy s (impl_standing.reach l m) → ∃ s', Sy s' (impl_standing.reach l l.length) ∧ Ev (fun k => spec_piReach.l0 k l s (l.length : Int) (m : Int)) s' := by
  intro d
  induction d with
  | zero =>
    intro m s hm hs
    obtain rfl : m = l.length := by omega
    have c : ¬ (l.length : Int) < (l.length : Int) := by omega
    refine ⟨s, hs, Ev.step (fun k => ?_) (Ev.now _)⟩
    simp only [spec_piReach.l0, if_neg c]
  | succ d ih =>
    intro m s hm hs
    have c : (m : Int) < (l.length : Int) := by omega
    obtain ⟨s1, q1, q2⟩ := reach1 l h hl m (by omega) l.length 0 s _ (by omega) hs
    obtain ⟨s2, p1, p2⟩ := ih (m + 1) s1 (by omega) q1
    refine ⟨s2, p1, Ev.step (fun k => ?_) (q2 _ p2)⟩
    simp only [spec_piReach.l0, if_pos c]
    rfl
theorem reach_ev : ∃ s, Sy s (impl_standing.reach l l.length) ∧ Ev (fun k => spec_piReach.f k l) s := by
  have h0 : Sy ((List.replicate 11 false).set 0 true) (impl_standing.reach l 0) := by
    refine ⟨by simp, fun n hn => ?_⟩
    rw [show ((List.replicate 11 false).set 0 true) = ((List.replicate 11 false).set ((0 : Nat)) true) from rfl, rdOf_set _ 0 true (by simp)]
    unfold impl_standing.reach
    by_cases e : n = 0
    · subst e; simp
    · have e' : ¬ (n : Int) = 0 := by omega
      rw [if_neg e, if_neg e']
      unfold rdOf
      rw [List.getD_eq_getElem?_getD, Int.toNat_natCast, List.getElem?_replicate, if_pos hn]
      rfl
  obtain ⟨s, q1, q2⟩ := reach0 l h hl l.length 0 _ (by omega) h0
  refine ⟨s, q1, ?_⟩
  unfold spec_piReach.f
  have c : (0 : Int) < ((List.replicate 11 false).length : Int) := by simp
  simp only [show (11 : Nat) ≤ 281474976710656 from by decide, if_true, Option.bind_some, if_pos c]
  exact q2
theorem all_l1 (s : List Bool) (hs : Sy s (impl_standing.reach l l.length)) : ∀ (d j : Nat), j + d = l.length → Ev (fun k => spec_piGood.l1 k s l (l.length : Int) (j : Int)) ((l.drop j).all fun e => impl_standing.reach l l.length e.f0) := by
  intro d
  induction d with
  | zero =>
    intro j hj
    have e : l.drop j = [] := List.drop_eq_nil_of_le (by omega)
    have c : ¬ (j : Int) < (l.length : Int) := by omega
    rw [e]
    refine Ev.step (fun k => ?_) (Ev.now _)
    simp only [spec_piGood.l1, if_neg c]
    rfl
  | succ d ih =>
    intro j hj
    have hjl : j < l.length := by omega
    have c1 : (j : Int) < (l.length : Int) := by omega
    have c2 : (0 : Int) ≤ (j : Int) := Int.natCast_nonneg _
    obtain ⟨a, b, ea, eb, ha, hb⟩ := okNat h hjl
    have ca : (0 : Int) ≤ (a : Int) := Int.natCast_nonneg _
    have ca2 : (a : Int) < (s.length : Int) := by rw [hs.len]; omega
    have hw := wsucc j (by omega)
    have hrd := rdI l j hjl
    have hsa := hs.at_ a ha
    rw [List.drop_eq_getElem_cons hjl, List.all_cons, ea]
    have hn := ih (j + 1) (by clear hw; omega)
    cases hA : impl_standing.reach l l.length a with
    | true =>
      rw [hA] at hsa
      rw [Bool.true_and]
      refine Ev.step (fun k => ?_) hn
      simp only [spec_piGood.l1, if_pos c1, if_pos c2, hrd, ea, if_pos ca, if_pos ca2, hsa, if_true, hw]
    | false =>
      rw [hA] at hsa
      refine Ev.step (fun k => ?_) (Ev.now _)
      simp only [spec_piGood.l1, if_pos c1, if_pos c2, hrd, ea, if_pos ca, if_pos ca2, hsa, Bool.false_eq_true, if_false, Bool.false_and]
end
def eok (e : S56) : Bool := decide (0 ≤ e.f0 ∧ e.f0 ≤ 10) && (decide (0 ≤ e.f1 ∧ e.f1 ≤ 10) && !decide (e.f0 = e.f1))
def reached (l : List S56) : Bool := l.all fun e => impl_standing.reach l l.length e.f0
def good (l : List S56) : Bool := l.all eok && (decide (l.length ≤ 10) && reached l)
theorem ok_of {l : List S56} (h : l.all eok = true) : l.all impl_standing.ok = true := by
  rw [List.all_eq_true] at h ⊢
  intro e he
  have := h e he
  simp only [eok, Bool.and_eq_true, decide_eq_true_eq] at this
  simp only [impl_standing.ok, decide_eq_true_eq]
  exact ⟨this.1.1, this.1.2, this.2.1⟩
theorem tail_s (l : List S56) (h : l.all eok = true) (i : Nat) (hi : ¬ (i : Int) < (l.length : Int)) : Ev (fun k => spec_piGood.l0 k l (l.length : Int) (i : Int) l) (decide (l.length ≤ 10) && reached l) := by
  by_cases g : l.length ≤ 10
  · have c : ¬ (l.length : Int) > 10 := by omega
    obtain ⟨s, q1, q2⟩ := reach_ev l (ok_of h) g
    have q3 := all_l1 l (ok_of h) g s q1 l.length 0 (by omega)
    refine Ev.step (f := ?gga1) (fun k => ?ggb1) ?ggc1
    case ggb1 => conv => lhs; simp only [spec_piGood.l0, if_neg hi, if_neg c]
    case ggc1 =>
      refine Ev.bind q2 ?_
      simpa [g, reached] using q3
  · have c : (l.length : Int) > 10 := by omega
    refine Ev.step (fun k => ?_) (Ev.now _)
    simp only [spec_piGood.l0, if_neg hi, if_pos c]
    simp [g]
theorem tail_i (l : List S56) (h : l.all eok = true) (i : Nat) (hi : ¬ (i : Int) < (l.length : Int)) : Ev (fun k => impl_IsPicture.l0 k l (l.length : Int) (i : Int) l) (decide (l.length ≤ 10) && reached l) := by
  by_cases g : l.length ≤ 10
  · have c : (l.length : Int) ≤ 10 := by omega
    have e : (((l.filter fun e => !!impl_standing.reach l l.length e.f0).length : Int) == (l.length : Int)) = reached l := by
      rw [Bool.eq_iff_iff, beq_iff_eq]
      unfold reached
      rw [List.all_eq_true]
      constructor
      · intro q
        have := List.length_filter_eq_length_iff.1 (Int.ofNat_inj.1 q)
        intro x hx
        simpa using this x hx
      · intro q
        exact congrArg _ (List.length_filter_eq_length_iff.2 (fun x hx => by simpa using q x hx))
    refine Ev.step (fun k => ?_) (Ev.now _)
    simp only [impl_IsPicture.l0, if_neg hi, if_pos c, impl_standing.f, if_pos (show l.length ≤ 10 ∧ l.all impl_standing.ok = true from ⟨g, ok_of h⟩), Option.bind_some, e]
    simp [g]
  · have c : ¬ (l.length : Int) ≤ 10 := by omega
    refine Ev.step (fun k => ?_) (Ev.now _)
    simp only [impl_IsPicture.l0, if_neg hi, if_neg c]
    simp [g]
theorem good_l (l : List S56) (hl : l.length ≤ 1048576) : ∀ (d i : Nat), i + d = l.length → (l.take i).all eok = true → Ev (fun k => spec_piGood.l0 k l (l.length : Int) (i : Int) l) (good l) ∧ Ev (fun k => impl_IsPicture.l0 k l (l.length : Int) (i : Int) l) (good l) := by
  intro d
  induction d with
  | zero =>
    intro i hi hp
    obtain rfl : i = l.length := by omega
    rw [List.take_length] at hp
    have e : good l = (decide (l.length ≤ 10) && reached l) := by unfold good; rw [hp, Bool.true_and]
    rw [e]
    exact ⟨tail_s l hp _ (by omega), tail_i l hp _ (by omega)⟩
  | succ d ih =>
    intro i hi hp
    have hil : i < l.length := by omega
    have c1 : (i : Int) < (l.length : Int) := by omega
    have c2 : (0 : Int) ≤ (i : Int) := Int.natCast_nonneg _
    have hrd := rdI l i hil
    have hw := wsucc i (by omega)
    have bad : eok l[i] = false → good l = false := fun q => by
      unfold good
      have : l.all eok = false := by
        rw [List.all_eq_false]
        exact ⟨_, List.getElem_mem hil, by rw [q]; decide⟩
      rw [this, Bool.false_and]
    by_cases h0 : 0 ≤ l[i].f0 ∧ l[i].f0 ≤ 10
    · by_cases h1 : 0 ≤ l[i].f1 ∧ l[i].f1 ≤ 10
      · by_cases h2 : l[i].f0 = l[i].f1
        · have e := bad (by unfold eok; rw [decide_eq_true h2]; simp)
          rw [e]
          constructor
          · refine Ev.step (fun k => ?_) (Ev.now _)
            simp only [spec_piGood.l0, if_pos c1, if_pos c2, hrd, spec_in, Option.bind_some, decide_eq_true h0, decide_eq_true h1, if_true, if_pos h2]
          · refine Ev.step (fun k => ?_) (Ev.now _)
            simp only [impl_IsPicture.l0, if_pos c1, if_pos c2, hrd, impl_in_, Option.bind_some, decide_eq_true h0, decide_eq_true h1, if_true, if_pos h2]
        · have e : eok l[i] = true := by unfold eok; rw [decide_eq_true h0, decide_eq_true h1, decide_eq_false h2]; rfl
          obtain ⟨q1, q2⟩ := ih (i + 1) (by clear hw; omega) (by rw [List.take_succ_eq_append_getElem hil, List.all_append, hp]; simp [e])
          constructor
          · refine Ev.step (fun k => ?_) q1
            simp only [spec_piGood.l0, if_pos c1, if_pos c2, hrd, spec_in, Option.bind_some, decide_eq_true h0, decide_eq_true h1, if_true, if_neg h2, hw]
          · refine Ev.step (fun k => ?_) q2
            simp only [impl_IsPicture.l0, if_pos c1, if_pos c2, hrd, impl_in_, Option.bind_some, decide_eq_true h0, decide_eq_true h1, if_true, if_neg h2, hw]
      · have e := bad (by unfold eok; rw [decide_eq_false h1]; simp)
        rw [e]
        constructor
        · refine Ev.step (fun k => ?_) (Ev.now _)
          simp only [spec_piGood.l0, if_pos c1, if_pos c2, hrd, spec_in, Option.bind_some, decide_eq_true h0, decide_eq_false h1, if_true, Bool.false_eq_true, if_false]
        · refine Ev.step (fun k => ?_) (Ev.now _)
          simp only [impl_IsPicture.l0, if_pos c1, if_pos c2, hrd, impl_in_, Option.bind_some, decide_eq_true h0, decide_eq_false h1, if_true, Bool.false_eq_true, if_false]
    · have e := bad (by unfold eok; rw [decide_eq_false h0]; simp)
      rw [e]
      constructor
      · refine Ev.step (fun k => ?_) (Ev.now _)
        simp only [spec_piGood.l0, if_pos c1, if_pos c2, hrd, spec_in, Option.bind_some, decide_eq_false h0, Bool.false_eq_true, if_false]
      · refine Ev.step (fun k => ?_) (Ev.now _)
        simp only [impl_IsPicture.l0, if_pos c1, if_pos c2, hrd, impl_in_, Option.bind_some, decide_eq_false h0, Bool.false_eq_true, if_false]
theorem piGood_ev (l : List S56) (hl : l.length ≤ 1048576) : Ev (fun k => spec_piGood.f k l) (good l) := (good_l l hl l.length 0 (by omega) (by simp)).1
theorem isPic_ev (l : List S56) (hl : l.length ≤ 1048576) : Ev (fun k => impl_IsPicture.f k l) (good l) := (good_l l hl l.length 0 (by omega) (by simp)).2
theorem szPic (l : List S77) (h : l.length ≤ maxLen) : laws_szPicture.f l 1048576 = some (if l.length > 1048576 then -1 else 1048576 - (l.length : Int)) := by
  unfold laws_szPicture.f
  rw [szEdgeS l h]
  simp only [Option.bind_some]
  by_cases g : l.length > 1048576
  · rw [if_pos g, if_pos (by decide)]
  · rw [if_neg g, if_neg (by omega)]
theorem toPic_ev (l : List S77) (hl : l.length ≤ 1048576) : Ev (fun k => laws_toPicture.f k l) (l.map conv) := by
  unfold laws_toPicture.f
  exact Ev.bind (toEdgeS_ev l hl) (Ev.now _)
theorem eqPic_ev (l : List S56) (hl : l.length ≤ 1048576) : Ev (fun k => laws_eqPicture.f k l l) true := by
  unfold laws_eqPicture.f
  exact Ev.bind (eqEdgeS_ev l hl) (Ev.now _)

/-! ### numerals -/
theorem ba_app (a b : List UInt8) : (⟨a.toArray⟩ : ByteArray) ++ ⟨b.toArray⟩ = ⟨(a ++ b).toArray⟩ := by
  apply ByteArray.ext
  rw [ByteArray.data_append, List.append_toArray]
theorem ba_size (a : List UInt8) : (⟨a.toArray⟩ : ByteArray).size = a.length := by show a.toArray.size = _; simp
theorem one_digit (n : Nat) (h : n < 10) : strOfNums [(wrap64 (48 + (n : Int))) % 256] = ⟨[UInt8.ofNat (48 + n)].toArray⟩ := by
  have e : (wrap64 (48 + (n : Int))) % 256 = ((48 + n : Nat) : Int) := by unfold wrap64; omega
  rw [e]
  match n, h with
  | 0, _ | 1, _ | 2, _ | 3, _ | 4, _ | 5, _ | 6, _ | 7, _ | 8, _ | 9, _ => rfl
  | n + 10, h => exact absurd h (by omega)
theorem num_ev : ∀ (u k : Nat), u ≤ 1000000 → u < k → spec_l1Num.f k (u : Int) = some ⟨(Lib.decDigits u).toArray⟩ := by
  intro u
  induction u using Nat.strongRecOn with
  | ind u ih =>
    intro k hu hk
    obtain ⟨k, rfl⟩ : ∃ m, k = m + 1 := ⟨k - 1, by omega⟩
    simp only [spec_l1Num.f]
    by_cases h : u < 10
    · rw [if_pos (by omega), one_digit u h, Lib.decDigits_one h]
    · have e1 : wrap64 (Int.tdiv (u : Int) 10) = ((u / 10 : Nat) : Int) := by
        rw [Int.tdiv_eq_ediv_of_nonneg (by omega)]; unfold wrap64; omega
      have e2 : Int.tmod (u : Int) 10 = ((u % 10 : Nat) : Int) := by
        rw [Int.tmod_eq_emod_of_nonneg (by omega)]; omega
      rw [if_neg (by omega), e1, e2, ih (u / 10) (by omega) k (by omega) (by omega)]
      have l1 := Lib.nDigits_le20 (u / 10) (by omega)
      rw [← Lib.decDigits_length] at l1
      have g : (⟨(Lib.decDigits (u / 10)).toArray⟩ : ByteArray).size + (strOfNums [(wrap64 (48 + ((u % 10 : Nat) : Int))) % 256]).size ≤ 9223372036854775807 := by
        rw [one_digit _ (by omega), ba_size, ba_size, List.length_singleton]; omega
      simp only [Option.bind_some, if_pos g]
      rw [one_digit _ (by omega), ba_app]
      have ed : Lib.decDigits u = Lib.decDigits (u / 10) ++ [UInt8.ofNat (48 + u % 10)] := by
        conv => lhs; rw [Lib.decDigits]
        rw [dif_neg h]
      rw [ed]
theorem digits_len (u : Nat) (h : u ≤ 1000000) : (Lib.decDigits u).length ≤ 20 := by
  rw [Lib.decDigits_length]; exact Lib.nDigits_le20 u (by omega)
theorem itoa_len (a : Int) (h : -1000000 ≤ a ∧ a ≤ 1000000) : (Lib.itoa a).length ≤ 21 := Lib.itoa_length_le a (by omega) (by omega)

theorem numE (u : Nat) (h : u ≤ 1000000) : Ev (fun k => spec_l1Num.f k (u : Int)) ⟨(Lib.decDigits u).toArray⟩ := ⟨u + 1, fun k hk => num_ev u k h (by omega)⟩
theorem itoaE (u : Nat) (h : u ≤ 1000000) : Ev (fun k => strconv_Itoa_60.f k (u : Int)) ⟨(Lib.decDigits u).toArray⟩ := ⟨0, fun k _ => by
  show strconv_Itoa_60.f k (u : Int) = _
  unfold strconv_Itoa_60.f
  rw [if_pos (by omega)]
  unfold Lib.itoa
  rw [if_neg (by omega), Int.toNat_natCast]⟩
/-- The text of an edge. -/
def et (e : S56) : List UInt8 := Lib.decDigits e.f0.toNat ++ [45] ++ Lib.decDigits e.f1.toNat ++ [if e.f2 = true then 98 else 114]
theorem join_snoc (sep : List UInt8) (y : List UInt8) : ∀ xs : List (List UInt8), xs ≠ [] → Lib.join (xs ++ [y]) sep = Lib.join xs sep ++ sep ++ y
  | [], h => absurd rfl h
  | [x], _ => by simp [Lib.join, List.intercalate]
  | x :: z :: r, _ => by
    have ih := join_snoc sep y (z :: r) (by simp)
    have e : ∀ t : List (List UInt8), t ≠ [] → Lib.join (x :: t) sep = x ++ sep ++ Lib.join t sep := fun t ht => by
      cases t with
      | nil => exact absurd rfl ht
      | cons a b => simp [Lib.join, List.intercalate]
    rw [List.cons_append, e _ (by simp), ih, e (z :: r) (by simp)]
    simp [List.append_assoc]
theorem join_len : ∀ xs : List (List UInt8), (∀ x ∈ xs, x.length ≤ 50) → (Lib.join xs [32]).length ≤ 51 * xs.length
  | [], _ => by simp [Lib.join, List.intercalate]
  | [x], h => by
    have := h x (by simp)
    rw [Lib.join_one]; simp; omega
  | x :: z :: r, h => by
    have ih := join_len (z :: r) (fun y hy => h y (by simp at hy ⊢; exact .inr hy))
    have hx := h x (by simp)
    have e : Lib.join (x :: z :: r) [32] = x ++ [32] ++ Lib.join (z :: r) [32] := by simp [Lib.join, List.intercalate]
    rw [e, List.length_append, List.length_append, List.length_singleton]
    simp only [List.length_cons] at ih ⊢
    omega
theorem et_len (e : S56) (h : eok e = true) : (et e).length ≤ 50 := by
  unfold eok at h
  simp only [Bool.and_eq_true, decide_eq_true_eq] at h
  have l1 := digits_len e.f0.toNat (by omega)
  have l2 := digits_len e.f1.toNat (by omega)
  unfold et
  simp only [List.length_append, List.length_singleton]
  omega
theorem piece (pre : List UInt8) (hpre : pre.length ≤ 1000) (l : List S56) (n i : Int) (e : S56) (he : eok e = true) (R : ByteArray)
    (nx : Ev (fun k => spec_piText.l0 k ⟨(pre ++ et e).toArray⟩ l n (wrap64 (i + 1))) R) : Ev (fun k => spec_piText.j1 k ⟨pre.toArray⟩ l n i e.f0 e.f1 e.f2) R := by
  have h := he
  unfold eok at h
  simp only [Bool.and_eq_true, decide_eq_true_eq] at h
  obtain ⟨a, ha⟩ := Int.eq_ofNat_of_zero_le h.1.1
  obtain ⟨b, hb⟩ := Int.eq_ofNat_of_zero_le h.2.1.1
  have l1 := digits_len a (by omega)
  have l2 := digits_len b (by omega)
  have ea : et e = Lib.decDigits a ++ [45] ++ Lib.decDigits b ++ [if e.f2 = true then 98 else 114] := by unfold et; rw [ha, hb, Int.toNat_natCast, Int.toNat_natCast]
  rw [ea, ← List.append_assoc] at nx
  rw [ha, hb]
  have c45 : (⟨#[45]⟩ : ByteArray) = ⟨[45].toArray⟩ := rfl
  have c98 : (⟨#[98]⟩ : ByteArray) = ⟨[98].toArray⟩ := rfl
  have c114 : (⟨#[114]⟩ : ByteArray) = ⟨[114].toArray⟩ := rfl
  have s1 : (Lib.decDigits a).length + 1 ≤ 9223372036854775807 := by omega
  have s2 : (Lib.decDigits a ++ [45]).length + (Lib.decDigits b).length ≤ 9223372036854775807 := by simp only [List.length_append, List.length_singleton]; omega
  have s3 : pre.length + (Lib.decDigits a ++ [45] ++ Lib.decDigits b).length ≤ 9223372036854775807 := by simp only [List.length_append, List.length_singleton]; omega
  have s4 : (pre ++ (Lib.decDigits a ++ [45] ++ Lib.decDigits b)).length + 1 ≤ 9223372036854775807 := by simp only [List.length_append, List.length_singleton]; omega
  refine Ev.step (f := ?f) (fun k => ?e) ?v
  case e => conv => lhs; simp only [spec_piText.j1]
  case v =>
    refine Ev.bind (numE a (by omega)) ?_
    simp only [ba_size, if_pos s1]
    refine Ev.bind (numE b (by omega)) ?_
    simp only [c45, c98, c114, ba_app, ba_size, if_pos s2, if_pos s3, if_pos s4]
    cases hf : e.f2 with
    | true =>
      rw [hf, if_pos rfl] at nx
      simp only [if_true]
      exact nx
    | false =>
      rw [hf, if_neg (by decide)] at nx
      simp only [Bool.false_eq_true, if_false]
      exact nx
theorem spec_t (l : List S56) (hl : l.length ≤ 10) (ok : l.all eok = true) : ∀ (d i : Nat), i + d = l.length →
    Ev (fun k => spec_piText.l0 k ⟨(Lib.join ((l.take i).map et) [32]).toArray⟩ l (l.length : Int) (i : Int)) ⟨(Lib.join (l.map et) [32]).toArray⟩ := by
  intro d
  induction d with
  | zero =>
    intro i hi
    have c : ¬ (i : Int) < (l.length : Int) := by omega
    rw [List.take_of_length_le (by omega)]
    refine Ev.step (fun k => ?_) (Ev.now _)
    simp only [spec_piText.l0, if_neg c]
  | succ d ih =>
    intro i hi
    have g1 : (i : Int) < (l.length : Int) := by omega
    have g2 : (0 : Int) ≤ (i : Int) := Int.natCast_nonneg _
    have hil : i < l.length := by omega
    have hw : wrap64 ((i : Int) + 1) = ((i + 1 : Nat) : Int) := wsucc i (by omega)
    have oke : eok l[i] = true := List.all_eq_true.1 ok _ (List.getElem_mem hil)
    have hP : (Lib.join ((l.take i).map et) [32]).length ≤ 51 * 10 := by
      have := join_len ((l.take i).map et) (fun x hx => by
        obtain ⟨y, hy, rfl⟩ := List.mem_map.1 hx
        exact et_len y (List.all_eq_true.1 ok _ (List.mem_of_mem_take hy)))
      rw [List.length_map, List.length_take] at this
      clear hw
      omega
    have nx := ih (i + 1) (by clear hw; omega)
    have et1 : (l.take (i + 1)).map et = (l.take i).map et ++ [et l[i]] := by rw [List.take_succ_eq_append_getElem hil, List.map_append]; rfl
    rw [et1, ← hw] at nx
    by_cases z : i = 0
    · subst z
      have n1 : ¬ ((0 : Nat) : Int) > 0 := by decide
      rw [List.take_zero, List.map_nil, List.nil_append, Lib.join_one] at nx
      refine Ev.step (f := ?f) (fun k => ?e) ?v
      case e => conv => lhs; simp only [spec_piText.l0, if_pos g1, if_pos g2, if_neg n1, rdI l 0 hil]
      case v => exact piece _ (by omega) l _ _ l[0] oke _ (by rw [List.take_zero]; exact nx)
    · have n1 : (i : Int) > 0 := by clear hw; omega
      rw [join_snoc [32] _ _ (by intro q; have := congrArg List.length q; rw [List.length_map, List.length_take, List.length_nil] at this; clear hw; omega)] at nx
      have s1 : (Lib.join ((l.take i).map et) [32]).length + 1 ≤ 9223372036854775807 := by clear hw; omega
      have c32 : (⟨#[32]⟩ : ByteArray) = ⟨[32].toArray⟩ := rfl
      refine Ev.step (f := ?f) (fun k => ?e) ?v
      case e => conv => lhs; simp only [spec_piText.l0, if_pos g1, if_pos g2, if_pos n1, rdI l i hil, ba_size, if_pos s1, c32, ba_app]
      case v => exact piece _ (by rw [List.length_append, List.length_singleton]; clear hw; omega) l _ _ l[i] oke _ nx
theorem impl_t (l : List S56) (hl : l.length ≤ 10) (ok : l.all eok = true) : ∀ (d i : Nat), i + d = l.length →
    Ev (fun k => impl_picturesText.l0 k ((l.take i).map fun e => ⟨(et e).toArray⟩) l (l.length : Int) (i : Int)) ⟨(Lib.join (l.map et) [32]).toArray⟩ := by
  intro d
  induction d with
  | zero =>
    intro i hi
    have c : ¬ (i : Int) < (l.length : Int) := by omega
    rw [List.take_of_length_le (by omega)]
    have hj : Ev (fun k => strings_Join.f k (l.map fun e => (⟨(et e).toArray⟩ : ByteArray)) (⟨#[32]⟩ : ByteArray)) ⟨(Lib.join (l.map et) [32]).toArray⟩ := ⟨0, fun k _ => by
      have e : (l.map fun e => (⟨(et e).toArray⟩ : ByteArray)).map (·.data.toList) = l.map et := by rw [List.map_map]; rfl
      have hP := join_len (l.map et) (fun x hx => by
        obtain ⟨y, hy, rfl⟩ := List.mem_map.1 hx
        exact et_len y (List.all_eq_true.1 ok _ hy))
      rw [List.length_map] at hP
      show strings_Join.f k _ _ = _
      unfold strings_Join.f
      rw [e]
      have e2 : (⟨#[32]⟩ : ByteArray).data.toList = [32] := rfl
      rw [e2, if_pos ⟨by omega, by rw [List.length_map]; omega⟩]⟩
    refine Ev.step (f := ?f) (fun k => ?e) ?v
    case e => conv => lhs; simp only [impl_picturesText.l0, if_neg c]
    case v => exact Ev.bind hj (Ev.now _)
  | succ d ih =>
    intro i hi
    have g1 : (i : Int) < (l.length : Int) := by omega
    have g2 : (0 : Int) ≤ (i : Int) := Int.natCast_nonneg _
    have hil : i < l.length := by omega
    have hw : wrap64 ((i : Int) + 1) = ((i + 1 : Nat) : Int) := wsucc i (by omega)
    have oke : eok l[i] = true := List.all_eq_true.1 ok _ (List.getElem_mem hil)
    have h := oke
    unfold eok at h
    simp only [Bool.and_eq_true, decide_eq_true_eq] at h
    obtain ⟨a, ha⟩ := Int.eq_ofNat_of_zero_le h.1.1
    obtain ⟨b, hb⟩ := Int.eq_ofNat_of_zero_le h.2.1.1
    have l1 := digits_len a (by clear hw; omega)
    have l2 := digits_len b (by clear hw; omega)
    have ea : et l[i] = Lib.decDigits a ++ [45] ++ Lib.decDigits b ++ [if l[i].f2 = true then 98 else 114] := by unfold et; rw [ha, hb, Int.toNat_natCast, Int.toNat_natCast]
    have c45 : (⟨#[45]⟩ : ByteArray) = ⟨[45].toArray⟩ := rfl
    have c98 : (⟨#[98]⟩ : ByteArray) = ⟨[98].toArray⟩ := rfl
    have c114 : (⟨#[114]⟩ : ByteArray) = ⟨[114].toArray⟩ := rfl
    have s1 : (Lib.decDigits a).length + 1 ≤ 9223372036854775807 := by clear hw; omega
    have s2 : (Lib.decDigits a ++ [45]).length + (Lib.decDigits b).length ≤ 9223372036854775807 := by simp only [List.length_append, List.length_singleton]; clear hw; omega
    have s3 : (Lib.decDigits a ++ [45] ++ Lib.decDigits b).length + 1 ≤ 9223372036854775807 := by simp only [List.length_append, List.length_singleton]; clear hw; omega
    have s4 : ((l.take i).map fun e => (⟨(et e).toArray⟩ : ByteArray)).length < 8796093022208 := by rw [List.length_map, List.length_take]; clear hw; omega
    have nx := ih (i + 1) (by clear hw; omega)
    have et1 : ((l.take (i + 1)).map fun e => (⟨(et e).toArray⟩ : ByteArray)) = ((l.take i).map fun e => (⟨(et e).toArray⟩ : ByteArray)) ++ [⟨(et l[i]).toArray⟩] := by rw [List.take_succ_eq_append_getElem hil, List.map_append]; rfl
    rw [et1, ea] at nx
    cases hf : l[i].f2 with
    | true =>
      rw [hf, if_pos rfl] at nx
      refine Ev.step (f := ?f1) (fun k => ?e1) ?v1
      case e1 => conv => lhs; simp only [impl_picturesText.l0, if_pos g1, if_pos g2, rdI l i hil, hf, if_true, ha, hb, hw]
      case v1 =>
        refine Ev.bind (itoaE a (by clear hw; omega)) ?_
        simp only [ba_size, if_pos s1]
        refine Ev.bind (itoaE b (by clear hw; omega)) ?_
        simp only [c45, c98, ba_app, ba_size, if_pos s2, if_pos s3, if_pos s4]
        exact nx
    | false =>
      rw [hf, if_neg (by decide)] at nx
      refine Ev.step (f := ?f2) (fun k => ?e2) ?v2
      case e2 => conv => lhs; simp only [impl_picturesText.l0, if_pos g1, if_pos g2, rdI l i hil, hf, Bool.false_eq_true, if_false, ha, hb, hw]
      case v2 =>
        refine Ev.bind (itoaE a (by clear hw; omega)) ?_
        simp only [ba_size, if_pos s1]
        refine Ev.bind (itoaE b (by clear hw; omega)) ?_
        simp only [c45, c114, ba_app, ba_size, if_pos s2, if_pos s3, if_pos s4]
        exact nx
theorem both (l : List S56) (hl : l.length ≤ 1048576) : ∃ r : ByteArray × Bool, Ev (fun k => spec_PictureText.f k l) r ∧ Ev (fun k => impl_PictureText.f k l) r := by
  have g1 := piGood_ev l hl
  have g2 := isPic_ev l hl
  unfold spec_PictureText.f impl_PictureText.f
  cases hg : good l with
  | false =>
    rw [hg] at g1 g2
    exact ⟨(⟨#[]⟩, false), Ev.bind g1 (Ev.now _), Ev.bind g2 (Ev.now _)⟩
  | true =>
    rw [hg] at g1 g2
    unfold good at hg
    simp only [Bool.and_eq_true, decide_eq_true_eq] at hg
    have t1 := spec_t l hg.2.1 hg.1 l.length 0 (by omega)
    have t2 := impl_t l hg.2.1 hg.1 l.length 0 (by omega)
    refine ⟨(⟨(Lib.join (l.map et) [32]).toArray⟩, true), Ev.bind g1 ?_, Ev.bind g2 ?_⟩
    · simp only [if_true]
      unfold spec_piText.f
      exact Ev.bind t1 (Ev.now _)
    · simp only [if_true]
      unfold impl_picturesText.f
      exact Ev.bind t2 (Ev.now _)
theorem proved : laws_FnExactPictureText.Pure := by
  intro l h
  refine Ev.rounds ?_
  unfold laws_FnExactPictureText.f
  simp only [szPic l h.1, Option.bind_some]
  by_cases hb : l.length > 1048576
  · simp only [if_pos hb]
    exact Ev.now _
  · have hl : l.length ≤ 1048576 := by omega
    have hl' : (l.map conv).length ≤ 1048576 := by rw [List.length_map]; exact hl
    have c : ¬ (1048576 - (l.length : Int)) < 0 := by omega
    simp only [if_neg hb, if_neg c]
    obtain ⟨r, s1, s2⟩ := both (l.map conv) hl'
    have ht := toPic_ev l hl
    refine Ev.bind ht (Ev.bind s1 (Ev.bind ht (Ev.bind s2 ?_)))
    simp only [if_true, bne_self_eq_false]
    refine Ev.step (f := ?f) (fun k => ?e) ?v
    case e => conv => lhs; simp only [laws_FnExactPictureText.j0, Bool.false_eq_true, if_false]
    case v => exact Ev.bind ht (Ev.bind (eqPic_ev _ hl') (Ev.now _))

end LFnExactPictureText
theorem FnExactPictureText : laws_FnExactPictureText.Pure := LFnExactPictureText.proved
end Go.Proofs.YtjfhhpkgjdkmdaaDoor.Pure
