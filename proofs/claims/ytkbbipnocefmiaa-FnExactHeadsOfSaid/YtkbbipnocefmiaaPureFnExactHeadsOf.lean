/- For any list of parents, the program's heads are the reference's; they are new memory, and the list is left as it was. -/
import Derived.Test.YtkbbipnocefmiaaQFnExactHeadsOfx4
namespace Go.Proofs.Ytkbbipnocefmiaa.Pure
open Go.RowKit Go.Proofs.Ytkbbipnocefmiaa.QFnExactHeadsOf Go.Proofs.YtkbbipnocefmiaaW.PrintWords Go.Proofs.YtkbbipnocefmiaaW.PrintLast
set_option linter.unusedVariables false
set_option linter.unusedSimpArgs false
def laws_FnExactHeadsOf.Pure : Prop := ∀ (l0_0 : List Int), (l0_0.length ≤ maxLen ∧ ∀ y0 ∈ l0_0, (Lit.int .i64 y0).wf = true) → ∃ k, laws_FnExactHeadsOf.f k l0_0 = some true
namespace LFnExactHeadsOf
/-! ### small words -/
theorem wsucc (i : Nat) (h : i < 2 ^ 62) : wrap64 ((i : Int) + 1) = ((i + 1 : Nat) : Int) := by unfold wrap64; omega
theorem drop_rd {l : List Int} {i : Nat} (h : i < l.length) : l.drop i = rd l (i : Int) :: l.drop (i + 1) := by
  rw [List.drop_eq_getElem_cons h]
  simp [rd, List.getD_eq_getElem?_getD, List.getElem?_eq_getElem h]

/-! ### a copy of a list of numbers is that list -/
theorem toIntS_l (x : List Int) (hx : x.length ≤ 2 ^ 60) : ∀ (d k i : Nat) (y : List Int), i + d = x.length → y.length = x.length → (∀ j, j < i → y[j]? = x[j]?) → d < k → laws_toIntS.l0 k x y i = some x := by
  intro d
  induction d with
  | zero =>
    intro k i y hi hy hj hk
    obtain ⟨k, rfl⟩ : ∃ m, k = m + 1 := ⟨k - 1, by omega⟩
    simp only [laws_toIntS.l0]
    rw [if_neg (by omega)]
    congr 1
    apply List.ext_getElem? 
    intro j
    by_cases h : j < i
    · exact hj j h
    · rw [List.getElem?_eq_none (by omega), List.getElem?_eq_none (by omega)]
  | succ d ih =>
    intro k i y hi hy hj hk
    obtain ⟨k, rfl⟩ : ∃ m, k = m + 1 := ⟨k - 1, by omega⟩
    have h1 : (i : Int) < (x.length : Int) := by omega
    have h2 : (0 : Int) ≤ (i : Int) := Int.natCast_nonneg _
    have h3 : (i : Int) < (y.length : Int) := by omega
    have h4 : i < x.length := by omega
    simp only [laws_toIntS.l0]
    rw [if_pos h1, if_pos h2, if_pos h3, wsucc i (by omega)]
    refine ih k (i + 1) _ (by omega) (by simpa using hy) ?_ (by omega)
    intro j hlt
    rw [Int.toNat_natCast, List.getElem?_set]
    by_cases e : i = j
    · subst e
      rw [if_pos rfl, if_pos (by omega)]
      simp [rd, List.getD_eq_getElem?_getD, List.getElem?_eq_getElem h4]
    · rw [if_neg e]
      exact hj j (by omega)
theorem toIntS (x : List Int) (hx : x.length ≤ 17592186044416) (k : Nat) (hk : x.length < k) : laws_toIntS.f k x = some x := by
  unfold laws_toIntS.f
  rw [if_pos (Int.natCast_nonneg _), if_pos (by rw [Int.toNat_natCast]; omega), Int.toNat_natCast]
  exact toIntS_l x (by omega) x.length k 0 _ (by omega) (by simp) (fun j h => by omega) hk

/-! ### a list of numbers equals itself -/
theorem eqIntS_l (x : List Int) (hx : x.length ≤ 2 ^ 60) : ∀ (d k i : Nat), i + d = x.length → d < k → laws_eqIntS.l0 k x x i = some true := by
  intro d
  induction d with
  | zero =>
    intro k i hi hk
    obtain ⟨k, rfl⟩ : ∃ m, k = m + 1 := ⟨k - 1, by omega⟩
    simp only [laws_eqIntS.l0]
    rw [if_neg (by omega)]
  | succ d ih =>
    intro k i hi hk
    obtain ⟨k, rfl⟩ : ∃ m, k = m + 1 := ⟨k - 1, by omega⟩
    have h1 : (i : Int) < (x.length : Int) := by omega
    have h2 : (0 : Int) ≤ (i : Int) := Int.natCast_nonneg _
    simp only [laws_eqIntS.l0, if_pos h1, if_pos h2, if_true]
    rw [wsucc i (by omega)]
    exact ih k (i + 1) (by omega) (by omega)
theorem eqIntS (x : List Int) (hx : x.length ≤ 17592186044416) (k : Nat) (hk : x.length < k) : laws_eqIntS.f k x x = some true := by
  unfold laws_eqIntS.f
  rw [if_pos rfl]
  exact eqIntS_l x (by omega) x.length k 0 (by omega) hk

/-! ### lists of numbers: the size asked, a copy, the same -/
theorem szIntS (l : List Int) (h : l.length ≤ maxLen) : laws_szIntS.f l 1048576 = some (if l.length > 1048576 then -1 else 1048576 - (l.length : Int)) := by
  unfold maxLen at h
  have hw : wrap64 (1048576 - (l.length : Int)) = 1048576 - (l.length : Int) := by unfold wrap64; omega
  unfold laws_szIntS.f
  rw [hw]
  clear hw
  by_cases g : l.length > 1048576
  · rw [if_pos (by omega), if_pos g]
  · rw [if_neg (by omega), if_neg g]
theorem toIntS_ev (x : List Int) (hx : x.length ≤ 17592186044416) : Ev (fun k => laws_toIntS.f k x) x := ⟨x.length + 1, fun k hk => toIntS x hx k (by omega)⟩
theorem eqIntS_ev (x : List Int) (hx : x.length ≤ 17592186044416) : Ev (fun k => laws_eqIntS.f k x x) true := ⟨x.length + 1, fun k hk => eqIntS x hx k (by omega)⟩

/-! ### marks in a list of numbers, and marks that are held -/
theorem markIntS_l : ∀ (d i m : Nat) (xs : List Int), i + d = xs.length → m + d < 2 ^ 61 → xs.length < 2 ^ 61 →
    ∃ ys : List Int, Ev (fun k => laws_markIntS.l0 k xs (m : Int) (i : Int)) (((m + d : Nat) : Int), ys) ∧ ys.length = xs.length ∧ (∀ j, j < i → ys[j]? = xs[j]?) ∧
      Ev (fun k => laws_heldIntS.l0 k ys (m : Int) (i : Int)) ((m + d : Nat) : Int) := by
  intro d
  induction d with
  | zero =>
    intro i m xs hi hm hx
    refine ⟨xs, Ev.step (fun k => ?_) (Ev.now _), rfl, fun _ _ => rfl, Ev.step (fun k => ?_) (Ev.now _)⟩
    · simp only [laws_markIntS.l0]
      rw [if_neg (by omega)]
      rfl
    · simp only [laws_heldIntS.l0]
      rw [if_neg (by omega)]
      rfl
  | succ d ih =>
    intro i m xs hi hm hx
    obtain ⟨ys, h1, h2, h3, h4⟩ := ih (i + 1) (m + 1) (xs.set i (m : Int)) (by rw [List.length_set]; omega) (by omega) (by rw [List.length_set]; omega)
    rw [List.length_set] at h2
    have e : m + 1 + d = m + (d + 1) := by omega
    rw [e] at h1 h4
    have g1 : (i : Int) < (xs.length : Int) := by omega
    have g1' : (i : Int) < (ys.length : Int) := by omega
    have g2 : (0 : Int) ≤ (i : Int) := Int.natCast_nonneg _
    have g3 : rd ys (i : Int) = (m : Int) := by
      have := h3 i (by omega)
      rw [List.getElem?_set_self (by omega)] at this
      simp [rd, List.getD_eq_getElem?_getD, this]
    refine ⟨ys, Ev.step (fun k => ?_) h1, h2, fun j hj => ?_, Ev.step (fun k => ?_) h4⟩
    · simp only [laws_markIntS.l0, if_pos g1, if_pos g2]
      rw [wsucc i (by omega), wsucc m (by omega), Int.toNat_natCast]
    · have := h3 j (by omega)
      rwa [List.getElem?_set_ne (by omega)] at this
    · simp only [laws_heldIntS.l0, if_pos g1', if_pos g2, g3, if_true]
      rw [wsucc i (by omega), wsucc m (by omega)]
theorem markIntS_ev (xs : List Int) (m : Nat) (h : xs.length + m < 2 ^ 60) : ∃ ys : List Int, Ev (fun k => laws_markIntS.f k xs (m : Int)) (((m + xs.length : Nat) : Int), ys) ∧ ys.length = xs.length ∧
    Ev (fun k => laws_heldIntS.f k ys (m : Int)) ((m + xs.length : Nat) : Int) := by
  obtain ⟨ys, h1, h2, _, h4⟩ := markIntS_l xs.length 0 m xs (by omega) (by omega) (by omega)
  exact ⟨ys, h1, h2, h4⟩

/-! ### a hydra: the path to the root, walked by one side and kept by the other -/
theorem in_some (e a b : Int) : impl_in.f e a b = some (decide (a ≤ e ∧ e ≤ b)) := by
  unfold impl_in.f
  by_cases h : e ≥ a
  · rw [if_pos h]; congr 1; simp; omega
  · rw [if_neg h]; congr 1; simp; omega
theorem in_some' (e a b : Int) : spec_l1In.f e a b = some (decide (a ≤ e ∧ e ≤ b)) := in_some e a b
/-- Each one's parent is the next one, the last one is the root. -/
def Linked (l : List Int) : List Int → Prop
  | [] => False
  | [x] => x = 0
  | x :: y :: r => rd l x = y ∧ Linked l (y :: r)
theorem linked_tail {l : List Int} {x y : Int} {r : List Int} (h : Linked l (x :: y :: r)) : Linked l (y :: r) := h.2
theorem linked_drop (l : List Int) : ∀ (r : List Int) (j : Nat), Linked l r → j < r.length → Linked l (r.drop j)
  | [], j, h, hj => absurd h (by simp [Linked])
  | [x], j, h, hj => by
    have : j = 0 := by simpa using hj
    subst this
    exact h
  | x :: y :: r, 0, h, hj => h
  | x :: y :: r, j + 1, h, hj => by
    rw [List.drop_succ_cons]
    exact linked_drop l (y :: r) j h.2 (by simpa using hj)
theorem index_l (path : List Int) (p : Int) (hp : path.length < 2 ^ 60) : ∀ (d j : Nat), j + d = path.length →
    ∃ res : Int, Ev (fun k => slices_Index_int_int.l0 k path p (path.length : Int) (j : Int)) res ∧
      ((res = -1 ∧ ∀ m : Nat, j ≤ m → m < path.length → rd path (m : Int) ≠ p) ∨ ∃ m : Nat, res = (m : Int) ∧ m < path.length ∧ rd path (m : Int) = p) := by
  intro d
  induction d with
  | zero =>
    intro j hj
    refine ⟨-1, Ev.step (fun k => ?_) (Ev.now _), .inl ⟨rfl, fun m h1 h2 => by omega⟩⟩
    simp only [slices_Index_int_int.l0]
    rw [if_neg (by omega)]
  | succ d ih =>
    intro j hj
    have g1 : (j : Int) < (path.length : Int) := by omega
    have g2 : (0 : Int) ≤ (j : Int) := Int.natCast_nonneg _
    by_cases h : p = rd path (j : Int)
    · refine ⟨(j : Int), Ev.step (fun k => ?_) (Ev.now _), .inr ⟨j, rfl, by omega, h.symm⟩⟩
      simp only [slices_Index_int_int.l0, if_pos g1, if_pos g2, if_pos h]
    · obtain ⟨res, h1, h2⟩ := ih (j + 1) (by omega)
      refine ⟨res, Ev.step (fun k => ?_) h1, ?_⟩
      · simp only [slices_Index_int_int.l0, if_pos g1, if_pos g2, if_neg h]
        rw [wsucc j (by omega)]
      · rcases h2 with ⟨h2, h3⟩ | h2
        · refine .inl ⟨h2, fun m hm hm2 => ?_⟩
          by_cases e : m = j
          · subst e; exact fun q => h q.symm
          · exact h3 m (by omega) hm2
        · exact .inr h2
theorem index_ev (path : List Int) (p : Int) (hp : path.length < 2 ^ 60) :
    ∃ res : Int, Ev (fun k => slices_Index_int_int.f k path p) res ∧
      ((res = -1 ∧ p ∉ path) ∨ ∃ m : Nat, res = (m : Int) ∧ m < path.length ∧ rd path (m : Int) = p) := by
  obtain ⟨res, h1, h2⟩ := index_l path p hp path.length 0 (by omega)
  refine ⟨res, h1, ?_⟩
  rcases h2 with ⟨h2, h3⟩ | h2
  · refine .inl ⟨h2, fun hm => ?_⟩
    obtain ⟨m, hm, he⟩ := List.mem_iff_getElem.1 hm
    refine h3 m (by omega) hm ?_
    simp [rd, List.getD_eq_getElem?_getD, List.getElem?_eq_getElem hm, he]
  · exact .inr h2
/-- The walk up from a node: it comes to p where p is on the path. -/
theorem up_yes (l : List Int) (i p : Int) (hi : 0 < i) (b : Bool) (hnext : Ev (fun k => spec_deHydra.l0 k l (l.length : Int) (wrap64 (i + 1)) l) b) :
    ∀ (r : List Int) (x : Int), Linked l (x :: r) → (∀ y ∈ x :: r, 0 ≤ y ∧ y < (l.length : Int)) → p ∈ x :: r → Ev (fun k => spec_deHydra.l1 k i p x l (l.length : Int) i l) b := by
  have hit : ∀ x : Int, 0 ≤ x → x = p → Ev (fun k => spec_deHydra.l1 k i p x l (l.length : Int) i l) b := by
    intro x hx hxp
    refine Ev.step (fun k => ?_) hnext
    have e1 : decide (p < 0) = false := decide_eq_false (by omega)
    have e2 : (i == 0) = false := by simp; omega
    simp only [spec_deHydra.l1, if_pos (show x ≥ 0 from hx), if_pos hxp, e1, e2]
    rfl
  intro r
  induction r with
  | nil =>
    intro x hl hr hp
    have : p = x := by simpa using hp
    exact hit x (hr x (by simp)).1 this.symm
  | cons y r ih =>
    intro x hl hr hp
    have hx := hr x (by simp)
    by_cases hxp : x = p
    · exact hit x hx.1 hxp
    · have hp' : p ∈ y :: r := by
        rcases List.mem_cons.1 hp with h | h
        · exact absurd h.symm hxp
        · exact h
      refine Ev.step (fun k => ?_) (ih y hl.2 (fun z hz => hr z (List.mem_cons_of_mem _ hz)) hp')
      simp only [spec_deHydra.l1, if_pos (show x ≥ 0 from hx.1), if_neg hxp, if_pos hx.1, if_pos hx.2, hl.1]
theorem up_no (l : List Int) (i p : Int) (hi : 0 < i) (h0 : rd l 0 = -1) :
    ∀ (r : List Int) (x : Int), Linked l (x :: r) → (∀ y ∈ x :: r, 0 ≤ y ∧ y < (l.length : Int)) → p ∉ x :: r → Ev (fun k => spec_deHydra.l1 k i p x l (l.length : Int) i l) false := by
  have out : Ev (fun k => spec_deHydra.l1 k i p (-1) l (l.length : Int) i l) false := by
    by_cases hp : (-1 : Int) = p
    · refine Ev.step (fun k => ?_) (Ev.now _)
      have e1 : decide (p < 0) = true := decide_eq_true (by omega)
      have e2 : (i == 0) = false := by simp; omega
      simp only [spec_deHydra.l1, if_neg (show ¬ ((-1 : Int) ≥ 0) by omega), if_pos hp, e1, e2]
      rfl
    · refine Ev.step (fun k => ?_) (Ev.now _)
      simp only [spec_deHydra.l1, if_neg (show ¬ ((-1 : Int) ≥ 0) by omega), if_neg hp]
  intro r
  induction r with
  | nil =>
    intro x hl hr hp
    have hx := hr x (by simp)
    have hx0 : x = 0 := hl
    have hxp : ¬ x = p := fun h => hp (by simp [h])
    refine Ev.step (fun k => ?_) out
    simp only [spec_deHydra.l1, if_pos (show x ≥ 0 from hx.1), if_neg hxp, if_pos hx.1, if_pos hx.2]
    rw [hx0, h0]
  | cons y r ih =>
    intro x hl hr hp
    have hx := hr x (by simp)
    have hxp : ¬ x = p := fun h => hp (by simp [h])
    refine Ev.step (fun k => ?_) (ih y hl.2 (fun z hz => hr z (List.mem_cons_of_mem _ hz)) (fun h => hp (List.mem_cons_of_mem _ h)))
    simp only [spec_deHydra.l1, if_pos (show x ≥ 0 from hx.1), if_neg hxp, if_pos hx.1, if_pos hx.2, hl.1]
theorem keep_no (l path : List Int) (i : Int) (g1 : i < (l.length : Int)) (g2 : 0 ≤ i) (e1 : Ev (fun k => slices_Index_int_int.f k path (rd l i)) (-1)) : Ev (fun k => impl_IsHydra.l0 k path i l) false := by
  refine Ev.step (f := ?f) (fun k => ?e) ?v
  case e =>
    conv => lhs; simp only [impl_IsHydra.l0, if_pos g1, if_pos g2]
  case v =>
    refine Ev.bind e1 ?_
    simp only [show ((-1 : Int) < 0) = True from by simp, if_true]
    exact Ev.now _
theorem keep_yes (l path : List Int) (i : Int) (b : Bool) (g1 : i < (l.length : Int)) (g2 : 0 ≤ i) (m : Nat) (hm : m < path.length) (hp : path.length ≤ 1048577) (e1 : Ev (fun k => slices_Index_int_int.f k path (rd l i)) (m : Int))
    (next : Ev (fun k => impl_IsHydra.l0 k (path.take (m + 1) ++ [i]) (wrap64 (i + 1)) l) b) : Ev (fun k => impl_IsHydra.l0 k path i l) b := by
  have c1 : ¬ ((m : Int) < 0) := by omega
  have c2 : (0 : Int) ≤ ((m + 1 : Nat) : Int) := Int.natCast_nonneg _
  have c3 : ((m + 1 : Nat) : Int) ≤ (path.length : Int) := by omega
  have c4 : (path.take (m + 1)).length < 17592186044416 := by rw [List.length_take]; omega
  have hw : wrap64 ((m : Int) + 1) = ((m + 1 : Nat) : Int) := wsucc m (by omega)
  refine Ev.step (f := ?f) (fun k => ?e) ?v
  case e =>
    conv => lhs; simp only [impl_IsHydra.l0, if_pos g1, if_pos g2]
  case v =>
    refine Ev.bind e1 ?_
    simp only [if_neg c1, hw, if_pos c2, if_pos c3, Int.toNat_natCast, Option.bind_some, if_pos c4]
    exact next
theorem walk_in (l : List Int) (i x : Int) (b : Bool) (g1 : i < (l.length : Int)) (g2 : 0 ≤ i) (hup : wrap64 (i - 1) = x) (h : Ev (fun k => spec_deHydra.l1 k i (rd l i) x l (l.length : Int) i l) b) :
    Ev (fun k => spec_deHydra.l0 k l (l.length : Int) i l) b := by
  refine Ev.step (fun k => ?_) h
  simp only [spec_deHydra.l0, if_pos g1, if_pos g2, hup]
theorem rd_reverse (r : List Int) (m : Nat) (hm : m < r.length) : ∃ t, r.drop (r.length - (m + 1)) = rd r.reverse (m : Int) :: t := by
  have hj : r.length - (m + 1) < r.length := by omega
  refine ⟨r.drop (r.length - (m + 1) + 1), ?_⟩
  rw [List.drop_eq_getElem_cons hj]
  congr 1
  have hm' : m < r.reverse.length := by rw [List.length_reverse]; exact hm
  simp only [rd, Int.toNat_natCast, List.getD_eq_getElem?_getD, List.getElem?_eq_getElem hm', Option.getD_some, List.getElem_reverse]
  congr 1
  omega
theorem hydra_l (l : List Int) (h0 : rd l 0 = -1) (hn : l.length ≤ 1048576) : ∀ (d i : Nat) (x : Int) (r : List Int), i + d = l.length → 1 ≤ i → x = (i : Int) - 1 → Linked l (x :: r) → (∀ y ∈ x :: r, 0 ≤ y ∧ y < (i : Int)) → (x :: r).length ≤ i →
    ∃ b : Bool, Ev (fun k => impl_IsHydra.l0 k (x :: r).reverse (i : Int) l) b ∧ Ev (fun k => spec_deHydra.l0 k l (l.length : Int) (i : Int) l) (b && decide (1 ≤ (l.length : Int) ∧ (l.length : Int) ≤ 40)) := by
  intro d
  induction d with
  | zero =>
    intro i x r hi h1 hx hl hr hlen
    have c : ¬ (i : Int) < (l.length : Int) := by omega
    refine ⟨true, Ev.step (fun k => ?_) (Ev.now _), Ev.step (fun k => ?_) (Ev.now _)⟩
    · simp only [impl_IsHydra.l0, if_neg c]
    · simp only [spec_deHydra.l0, if_neg c, in_some', Option.bind_some, Bool.true_and]
  | succ d ih =>
    intro i x r hi h1 hx hl hr hlen
    have g1 : (i : Int) < (l.length : Int) := by omega
    have g2 : (0 : Int) ≤ (i : Int) := Int.natCast_nonneg _
    have hi0 : (0 : Int) < (i : Int) := by omega
    have hlr : (x :: r).reverse.length = (x :: r).length := List.length_reverse
    have hr' : ∀ y ∈ x :: r, 0 ≤ y ∧ y < (l.length : Int) := fun y hy => ⟨(hr y hy).1, by have := (hr y hy).2; omega⟩
    obtain ⟨res, e1, e2⟩ := index_ev (x :: r).reverse (rd l (i : Int)) (by omega)
    rcases e2 with ⟨rfl, e3⟩ | ⟨m, rfl, hm, e3⟩
    · have hup : wrap64 ((i : Int) - 1) = x := by rw [hx]; unfold wrap64; omega
      refine ⟨false, keep_no l _ _ g1 g2 e1, ?_⟩
      rw [Bool.false_and]
      exact walk_in l _ x _ g1 g2 hup (up_no l _ _ hi0 h0 r x hl hr' (fun h => e3 (List.mem_reverse.2 h)))
    · have hm' : m < (x :: r).length := by omega
      obtain ⟨t, ht⟩ := rd_reverse (x :: r) m hm'
      rw [e3] at ht
      have hsub : ∀ y ∈ rd l (i : Int) :: t, y ∈ x :: r := fun y hy => by rw [← ht] at hy; exact List.mem_of_mem_drop hy
      have hdl : (rd l (i : Int) :: t).length ≤ (x :: r).length := by rw [← ht, List.length_drop]; omega
      have hlk : Linked l ((i : Int) :: rd l (i : Int) :: t) := ⟨rfl, by rw [← ht]; exact linked_drop l _ _ hl (by omega)⟩
      obtain ⟨b, s1, s2⟩ := ih (i + 1) (i : Int) (rd l (i : Int) :: t) (by omega) (by omega) (by omega) hlk
        (fun y hy => by
          rcases List.mem_cons.1 hy with rfl | hy
          · omega
          · have := hr y (hsub y hy); omega)
        (by rw [List.length_cons]; omega)
      have hup : wrap64 ((i : Int) - 1) = x := by rw [hx]; unfold wrap64; omega
      have hnx : wrap64 ((i : Int) + 1) = ((i + 1 : Nat) : Int) := wsucc i (by clear hup; omega)
      refine ⟨b, keep_yes l _ _ b g1 g2 m hm (by clear hup hnx; omega) e1 ?_, ?_⟩
      · rw [hnx, List.take_reverse, ht, ← List.reverse_cons]
        exact s1
      · refine walk_in l _ x _ g1 g2 hup (up_yes l _ _ hi0 _ ?_ r x hl hr' ?_)
        · rw [hnx]; exact s2
        · exact hsub _ (by simp)
/-- Both sides agree on what a hydra is. -/
theorem hydra_ev (l : List Int) (hn : l.length ≤ 1048576) : ∃ b : Bool, Ev (fun k => impl_IsHydra.f k l) b ∧ Ev (fun k => spec_deHydra.f k l) b ∧ (b = true → 1 ≤ l.length ∧ l.length ≤ 40 ∧ rd l 0 = -1) := by
  unfold impl_IsHydra.f spec_deHydra.f
  simp only [in_some, Option.bind_some]
  by_cases hz : l.length = 0
  · have hl : l = [] := List.eq_nil_of_length_eq_zero hz
    subst hl
    refine ⟨false, ?_, Ev.step (fun k => ?_) (Ev.now _), fun h => by cases h⟩
    · refine Ev.step (fun k => ?_) (Ev.now _)
      simp [impl_IsHydra.j0]
    · simp [spec_deHydra.l0, in_some']
  · have g1 : (0 : Int) < (l.length : Int) := by omega
    by_cases h0 : rd l 0 = -1
    · obtain ⟨b, s1, s2⟩ := hydra_l l h0 hn (l.length - 1) 1 0 [] (by omega) (by omega) (by simp) (by rfl) (by simp) (by simp)
      have hup : wrap64 ((0 : Int) - 1) = -1 := by decide +kernel
      have hs : Ev (fun k => spec_deHydra.l0 k l (l.length : Int) 0 l) (b && decide (1 ≤ (l.length : Int) ∧ (l.length : Int) ≤ 40)) := by
        refine walk_in l 0 (-1) _ g1 (by omega) hup (Ev.step (fun k => ?_) s2)
        have hw : wrap64 ((0 : Int) + 1) = ((1 : Nat) : Int) := by decide +kernel
        have e1 : ((decide ((-1 : Int) < 0)) != ((0 : Int) == 0)) = false := by decide
        simp only [spec_deHydra.l1, h0, show ¬ ((-1 : Int) ≥ 0) from by omega, if_false, if_true, e1, hw, Bool.false_eq_true]
      by_cases h40 : l.length ≤ 40
      · have hd : decide (1 ≤ (l.length : Int) ∧ (l.length : Int) ≤ 40) = true := decide_eq_true (by omega)
        rw [hd, Bool.and_true] at hs
        refine ⟨b, ?_, hs, fun _ => ⟨by omega, h40, h0⟩⟩
        simp only [hd, if_true, if_pos g1, h0]
        refine Ev.step (fun k => ?_) s1
        simp [impl_IsHydra.j0]
      · have hd : decide (1 ≤ (l.length : Int) ∧ (l.length : Int) ≤ 40) = false := decide_eq_false (by omega)
        rw [hd, Bool.and_false] at hs
        refine ⟨false, ?_, hs, fun h => by cases h⟩
        simp only [hd, Bool.false_eq_true, if_false]
        refine Ev.step (fun k => ?_) (Ev.now _)
        simp [impl_IsHydra.j0]
    · refine ⟨false, ?_, ?_, fun h => by cases h⟩
      · by_cases h40 : 1 ≤ (l.length : Int) ∧ (l.length : Int) ≤ 40
        · have hb : (rd l 0 != -1) = true := by simpa using h0
          simp only [h40, and_self, decide_true, if_true, if_pos g1, hb]
          refine Ev.step (fun k => ?_) (Ev.now _)
          simp [impl_IsHydra.j0]
        · simp only [h40, decide_false, Bool.false_eq_true, if_false]
          refine Ev.step (fun k => ?_) (Ev.now _)
          simp [impl_IsHydra.j0]
      · have hup : wrap64 ((0 : Int) - 1) = -1 := by decide +kernel
        refine walk_in l 0 (-1) _ g1 (by omega) hup (Ev.step (fun k => ?_) (Ev.now _))
        have hne : ¬ (-1 : Int) = rd l 0 := fun h => h0 h.symm
        simp only [spec_deHydra.l1, show ¬ ((-1 : Int) ≥ 0) from by omega, if_false, if_neg hne]

/-! ### heads -/
theorem children_l (l : List Int) (p : Int) (hn : l.length ≤ 1048576) : ∀ (d j : Nat) (acc : List Int), j + d = l.length → acc.length ≤ j →
    ∃ C : List Int, Ev (fun k => spec_deChildren.l0 k p acc l (l.length : Int) (j : Int)) C ∧ (C.length = 0 ↔ acc.length = 0 ∧ ∀ m : Nat, j ≤ m → m < l.length → rd l (m : Int) ≠ p) := by
  intro d
  induction d with
  | zero =>
    intro j acc hj ha
    have c : ¬ (j : Int) < (l.length : Int) := by omega
    refine ⟨acc, Ev.step (fun k => ?_) (Ev.now _), ⟨fun h => ⟨h, fun m h1 h2 => by omega⟩, fun h => h.1⟩⟩
    simp only [spec_deChildren.l0, if_neg c]
  | succ d ih =>
    intro j acc hj ha
    have g1 : (j : Int) < (l.length : Int) := by omega
    have g2 : (0 : Int) ≤ (j : Int) := Int.natCast_nonneg _
    have g3 : acc.length < 17592186044416 := by omega
    by_cases h : rd l (j : Int) = p
    · obtain ⟨C, h1, h2⟩ := ih (j + 1) (acc ++ [(j : Int)]) (by omega) (by simp; omega)
      refine ⟨C, Ev.step (fun k => ?_) h1, ?_⟩
      · simp only [spec_deChildren.l0, if_pos g1, if_pos g2, if_pos h, if_pos g3]
        rw [wsucc j (by omega)]
      · rw [h2]
        constructor
        · intro q; simp at q
        · intro q; exact absurd h (q.2 j (Nat.le_refl _) (by omega))
    · obtain ⟨C, h1, h2⟩ := ih (j + 1) acc (by omega) (by omega)
      refine ⟨C, Ev.step (fun k => ?_) h1, ?_⟩
      · simp only [spec_deChildren.l0, if_pos g1, if_pos g2, if_neg h]
        rw [wsucc j (by omega)]
      · rw [h2]
        constructor
        · rintro ⟨q1, q2⟩
          refine ⟨q1, fun m hm1 hm2 => ?_⟩
          by_cases e : m = j
          · subst e; exact h
          · exact q2 m (by omega) hm2
        · rintro ⟨q1, q2⟩
          exact ⟨q1, fun m hm1 hm2 => q2 m (by omega) hm2⟩
theorem children_ev (l : List Int) (p : Int) (hn : l.length ≤ 1048576) : ∃ C : List Int, Ev (fun k => spec_deChildren.f k l p) C ∧ (C.length = 0 ↔ p ∉ l) := by
  obtain ⟨C, h1, h2⟩ := children_l l p hn l.length 0 [] (by omega) (by simp)
  refine ⟨C, h1, ?_⟩
  rw [h2]
  constructor
  · rintro ⟨_, q⟩ hm
    obtain ⟨m, hm, he⟩ := List.mem_iff_getElem.1 hm
    refine q m (by omega) hm ?_
    simp [rd, List.getD_eq_getElem?_getD, List.getElem?_eq_getElem hm, he]
  · intro q
    refine ⟨rfl, fun m _ hm he => q ?_⟩
    rw [← he]
    simp only [rd, Int.toNat_natCast, List.getD_eq_getElem?_getD, List.getElem?_eq_getElem hm, Option.getD_some]
    exact List.getElem_mem hm
theorem contains_ev (l : List Int) (p : Int) (hn : l.length ≤ 1048576) : Ev (fun k => slices_Contains_int_int.f k l p) (decide (p ∈ l)) := by
  obtain ⟨res, h1, h2⟩ := index_ev l p (by omega)
  unfold slices_Contains_int_int.f
  refine Ev.bind h1 ?_
  have : decide (res ≥ 0) = decide (p ∈ l) := by
    rcases h2 with ⟨rfl, h2⟩ | ⟨m, rfl, hm, he⟩
    · simp [h2]
    · have : p ∈ l := by
        rw [← he]
        simp only [rd, Int.toNat_natCast, List.getD_eq_getElem?_getD, List.getElem?_eq_getElem hm, Option.getD_some]
        exact List.getElem_mem hm
      simp [this]
  rw [this]
  exact Ev.now _
theorem heads_l (l : List Int) (hn : l.length ≤ 1048576) : ∀ (d i : Nat) (acc : List Int), i + d = l.length → acc.length ≤ i →
    ∃ H : List Int, Ev (fun k => spec_deHeads.l0 k acc (i : Int) l) H ∧ Ev (fun k => impl_heads.l0 k acc (i : Int) l) H ∧ H.length ≤ l.length := by
  intro d
  induction d with
  | zero =>
    intro i acc hi ha
    have c : ¬ (i : Int) < (l.length : Int) := by omega
    refine ⟨acc, Ev.step (fun k => ?_) (Ev.now _), Ev.step (fun k => ?_) (Ev.now _), by omega⟩
    · simp only [spec_deHeads.l0, if_neg c]
    · simp only [impl_heads.l0, if_neg c]
  | succ d ih =>
    intro i acc hi ha
    have g1 : (i : Int) < (l.length : Int) := by omega
    have g3 : acc.length < 17592186044416 := by omega
    have hw : wrap64 ((i : Int) + 1) = ((i + 1 : Nat) : Int) := wsucc i (by omega)
    obtain ⟨C, c1, c2⟩ := children_ev l (i : Int) hn
    have c3 := contains_ev l (i : Int) hn
    by_cases h : (i : Int) ∈ l
    · obtain ⟨H, h1, h2, h3⟩ := ih (i + 1) acc (by clear hw; omega) (by clear hw; omega)
      have hc : ¬ (C.length : Int) = 0 := fun q => (c2.1 (by clear hw; omega)) h
      refine ⟨H, Ev.step (f := ?f) (fun k => ?e) ?v, Ev.step (f := ?f2) (fun k => ?e2) ?v2, h3⟩
      case e => conv => lhs; simp only [spec_deHeads.l0, if_pos g1]
      case v =>
        refine Ev.bind c1 ?_
        simp only [if_neg hc, hw]
        exact h1
      case e2 => conv => lhs; simp only [impl_heads.l0, if_pos g1]
      case v2 =>
        refine Ev.bind c3 ?_
        simp only [h, decide_true, if_true, hw]
        exact h2
    · obtain ⟨H, h1, h2, h3⟩ := ih (i + 1) (acc ++ [(i : Int)]) (by clear hw; omega) (by clear hw; simp; omega)
      have hc : (C.length : Int) = 0 := by have := c2.2 h; clear hw; omega
      refine ⟨H, Ev.step (f := ?f) (fun k => ?e) ?v, Ev.step (f := ?f2) (fun k => ?e2) ?v2, h3⟩
      case e => conv => lhs; simp only [spec_deHeads.l0, if_pos g1]
      case v =>
        refine Ev.bind c1 ?_
        simp only [if_pos hc, if_pos g3, hw]
        exact h1
      case e2 => conv => lhs; simp only [impl_heads.l0, if_pos g1]
      case v2 =>
        refine Ev.bind c3 ?_
        simp only [h, decide_false, Bool.false_eq_true, if_false, if_pos g3, hw]
        exact h2
theorem heads_ev (l : List Int) (hn : l.length ≤ 1048576) (h1 : 1 ≤ l.length) : ∃ H : List Int, Ev (fun k => spec_deHeads.f k l) H ∧ Ev (fun k => impl_heads.f k l) H ∧ H.length ≤ l.length :=
  heads_l l hn (l.length - 1) 1 [] (by omega) (by simp)

theorem szHydra (l : List Int) (h : l.length ≤ maxLen) : laws_szHydra.f l 1048576 = some (if l.length > 1048576 then -1 else 1048576 - (l.length : Int)) := by
  unfold laws_szHydra.f
  rw [szIntS l h]
  simp only [Option.bind_some]
  by_cases hb : l.length > 1048576
  · rw [if_pos hb, if_pos (by omega)]
  · rw [if_neg hb, if_neg (by omega)]
theorem toHydra_ev (l : List Int) (h : l.length ≤ 1048576) : Ev (fun k => laws_toHydra.f k l) l := by
  unfold laws_toHydra.f
  exact Ev.bind (toIntS_ev l (by omega)) (Ev.now _)
theorem eqHydra_ev (l : List Int) (h : l.length ≤ 1048576) : Ev (fun k => laws_eqHydra.f k l l) true := by
  unfold laws_eqHydra.f
  exact Ev.bind (eqIntS_ev l (by omega)) (Ev.now _)
theorem both (l : List Int) (hn : l.length ≤ 1048576) : ∃ r : List Int × Bool, Ev (fun k => spec_HeadsOf.f k l) r ∧ Ev (fun k => impl_HeadsOf.f k l) r ∧ r.1.length ≤ 1048576 := by
  obtain ⟨b, s1, s2, s3⟩ := hydra_ev l hn
  unfold spec_HeadsOf.f impl_HeadsOf.f
  cases b with
  | false => exact ⟨([], false), Ev.bind s2 (Ev.now _), Ev.bind s1 (Ev.now _), by simp⟩
  | true =>
    obtain ⟨H, h1, h2, h3⟩ := heads_ev l hn (s3 rfl).1
    exact ⟨(H, true), Ev.bind s2 (Ev.bind h1 (Ev.now _)), Ev.bind s1 (Ev.bind h2 (Ev.now _)), by show H.length ≤ _; omega⟩
theorem j2_ev (ys : List Int) (m : Nat) (h : Ev (fun k => laws_heldIntS.f k ys 1) (m : Int)) : Ev (fun k => laws_FnExactHeadsOf.j2 k ys (m : Int) false) true := by
  refine Ev.step (f := ?f) (fun k => ?e) ?v
  case e => conv => lhs; simp only [laws_FnExactHeadsOf.j2, Bool.false_eq_true, if_false]
  case v =>
    refine Ev.bind h ?_
    simp only [show ¬ ((m : Int) < 0) from by omega, if_false, if_true]
    exact Ev.now _
theorem j1_ev (l H : List Int) (b : Bool) (hn : l.length ≤ 1048576) (hH : H.length ≤ 1048576) (hi : Ev (fun k => impl_HeadsOf.f k l) (H, b)) : Ev (fun k => laws_FnExactHeadsOf.j1 k H b H false l) true := by
  obtain ⟨ys, m1, m2, m3⟩ := markIntS_ev H 1 (by omega)
  refine Ev.step (f := ?f) (fun k => ?e) ?v
  case e => conv => lhs; simp only [laws_FnExactHeadsOf.j1, Bool.false_eq_true, if_false]
  case v =>
    refine Ev.bind m1 (Ev.bind m3 ?_)
    simp only [show ¬ (((1 + H.length : Nat) : Int) < 0) from by omega, if_false, if_true]
    refine Ev.bind (toHydra_ev l hn) (Ev.bind hi (Ev.bind (eqIntS_ev H (by omega)) ?_))
    simp only [if_true, bne_self_eq_false]
    exact j2_ev ys _ m3
theorem j0_ev (l H : List Int) (b : Bool) (hn : l.length ≤ 1048576) (hH : H.length ≤ 1048576) (hi : Ev (fun k => impl_HeadsOf.f k l) (H, b)) : Ev (fun k => laws_FnExactHeadsOf.j0 k H b H b false l l) true := by
  obtain ⟨ys, m1, m2, m3⟩ := markIntS_ev l 1 (by omega)
  refine Ev.step (f := ?f) (fun k => ?e) ?v
  case e => conv => lhs; simp only [laws_FnExactHeadsOf.j0, Bool.false_eq_true, if_false]
  case v =>
    refine Ev.bind (toHydra_ev l hn) (Ev.bind (eqHydra_ev l hn) ?_)
    simp only [if_true]
    refine Ev.bind (a := (((1 + l.length : Nat) : Int), ys)) (by unfold laws_markHydra.f; exact Ev.bind m1 (Ev.now _)) ?_
    simp only [show ¬ (((1 + l.length : Nat) : Int) < 0) from by omega, if_false]
    refine Ev.bind (eqIntS_ev H (by omega)) ?_
    simp only [if_true, bne_self_eq_false]
    exact j1_ev l H b hn hH hi
theorem proved : laws_FnExactHeadsOf.Pure := by
  intro l h
  refine Ev.rounds ?_
  unfold laws_FnExactHeadsOf.f
  simp only [szHydra l h.1, Option.bind_some]
  by_cases hb : l.length > 1048576
  · simp only [if_pos hb]
    exact Ev.now _
  · have hl : l.length ≤ 1048576 := by omega
    have c : ¬ (1048576 - (l.length : Int)) < 0 := by omega
    simp only [if_neg hb, if_neg c]
    obtain ⟨⟨H, b⟩, s1, s2, s3⟩ := both l hl
    refine Ev.bind (toHydra_ev l hl) (Ev.bind s1 (Ev.bind (toHydra_ev l hl) (Ev.bind s2 (Ev.bind (eqIntS_ev H (by have : H.length ≤ 1048576 := s3; omega)) ?_))))
    simp only [if_true, bne_self_eq_false]
    exact j0_ev l H b hl s3 s2

end LFnExactHeadsOf
theorem FnExactHeadsOf : laws_FnExactHeadsOf.Pure := LFnExactHeadsOf.proved
end Go.Proofs.Ytkbbipnocefmiaa.Pure
