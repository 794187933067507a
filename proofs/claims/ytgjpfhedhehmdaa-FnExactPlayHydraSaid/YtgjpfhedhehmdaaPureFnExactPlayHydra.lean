/- For any list of parents and any choices, the hydras that the program plays through are the reference's, each in new memory, and what came in is left as it was. -/
import Derived.Test.YtgjpfhedhehmdaaQFnExactPlayHydrax8
namespace Go.Proofs.Ytgjpfhedhehmdaa.Pure
open Go.RowKit Go.Proofs.Ytgjpfhedhehmdaa.QFnExactPlayHydra Go.Proofs.YtgjpfhedhehmdaaW.PrintWords Go.Proofs.YtgjpfhedhehmdaaW.PrintLast
set_option linter.unusedVariables false
set_option linter.unusedSimpArgs false
def laws_FnExactPlayHydra.Pure : Prop := ∀ (l0_0 : List Int) (l1 : List Int), (l0_0.length ≤ maxLen ∧ ∀ y0 ∈ l0_0, (Lit.int .i64 y0).wf = true) → (l1.length ≤ maxLen ∧ ∀ y0 ∈ l1, (Lit.int .i64 y0).wf = true) → ∃ k, laws_FnExactPlayHydra.f k l0_0 l1 = some true
namespace LFnExactPlayHydra
/-! ### small words -/
theorem wsucc (i : Nat) (h : i < 2 ^ 62) : wrap64 ((i : Int) + 1) = ((i + 1 : Nat) : Int) := by unfold wrap64; omega
theorem drop_rd {l : List Int} {i : Nat} (h : i < l.length) : l.drop i = rd l (i : Int) :: l.drop (i + 1) := by
  rw [List.drop_eq_getElem_cons h]
  simp [rd, List.getD_eq_getElem?_getD, List.getElem?_eq_getElem h]

/-! ### a copy of a list of numbers is that list -/
theorem toIntS_l (x : List Int) (hx : x.length ≤ 2 ^ 60) : ∀ (d k i : Nat) (y : List Int), i + d = x.length → y.length = x.length → (∀ j, j < i → y[j]? = x[j]?) → d < k → laws_toIntS.l0 k x y i = some x := by
  intro d
  induction d with
  | zero =>
    intro k i y hi hy hj hk
    obtain ⟨k, rfl⟩ : ∃ m, k = m + 1 := ⟨k - 1, by omega⟩
    simp only [laws_toIntS.l0]
    rw [if_neg (by omega)]
    congr 1
    apply List.ext_getElem? 
    intro j
    by_cases h : j < i
    · exact hj j h
    · rw [List.getElem?_eq_none (by omega), List.getElem?_eq_none (by omega)]
  | succ d ih =>
    intro k i y hi hy hj hk
    obtain ⟨k, rfl⟩ : ∃ m, k = m + 1 := ⟨k - 1, by omega⟩
    have h1 : (i : Int) < (x.length : Int) := by omega
    have h2 : (0 : Int) ≤ (i : Int) := Int.natCast_nonneg _
    have h3 : (i : Int) < (y.length : Int) := by omega
    have h4 : i < x.length := by omega
    simp only [laws_toIntS.l0]
    rw [if_pos h1, if_pos h2, if_pos h3, wsucc i (by omega)]
    refine ih k (i + 1) _ (by omega) (by simpa using hy) ?_ (by omega)
    intro j hlt
    rw [Int.toNat_natCast, List.getElem?_set]
    by_cases e : i = j
    · subst e
      rw [if_pos rfl, if_pos (by omega)]
      simp [rd, List.getD_eq_getElem?_getD, List.getElem?_eq_getElem h4]
    · rw [if_neg e]
      exact hj j (by omega)
theorem toIntS (x : List Int) (hx : x.length ≤ 17592186044416) (k : Nat) (hk : x.length < k) : laws_toIntS.f k x = some x := by
  unfold laws_toIntS.f
  rw [if_pos (Int.natCast_nonneg _), if_pos (by rw [Int.toNat_natCast]; omega), Int.toNat_natCast]
  exact toIntS_l x (by omega) x.length k 0 _ (by omega) (by simp) (fun j h => by omega) hk

/-! ### a list of numbers equals itself -/
theorem eqIntS_l (x : List Int) (hx : x.length ≤ 2 ^ 60) : ∀ (d k i : Nat), i + d = x.length → d < k → laws_eqIntS.l0 k x x i = some true := by
  intro d
  induction d with
  | zero =>
    intro k i hi hk
    obtain ⟨k, rfl⟩ : ∃ m, k = m + 1 := ⟨k - 1, by omega⟩
    simp only [laws_eqIntS.l0]
    rw [if_neg (by omega)]
  | succ d ih =>
    intro k i hi hk
    obtain ⟨k, rfl⟩ : ∃ m, k = m + 1 := ⟨k - 1, by omega⟩
    have h1 : (i : Int) < (x.length : Int) := by omega
    have h2 : (0 : Int) ≤ (i : Int) := Int.natCast_nonneg _
    simp only [laws_eqIntS.l0, if_pos h1, if_pos h2, if_true]
    rw [wsucc i (by omega)]
    exact ih k (i + 1) (by omega) (by omega)
theorem eqIntS (x : List Int) (hx : x.length ≤ 17592186044416) (k : Nat) (hk : x.length < k) : laws_eqIntS.f k x x = some true := by
  unfold laws_eqIntS.f
  rw [if_pos rfl]
  exact eqIntS_l x (by omega) x.length k 0 (by omega) hk

/-! ### lists of numbers: the size asked, a copy, the same -/
theorem szIntS (l : List Int) (h : l.length ≤ maxLen) : laws_szIntS.f l 1048576 = some (if l.length > 1048576 then -1 else 1048576 - (l.length : Int)) := by
  unfold maxLen at h
  have hw : wrap64 (1048576 - (l.length : Int)) = 1048576 - (l.length : Int) := by unfold wrap64; omega
  unfold laws_szIntS.f
  rw [hw]
  clear hw
  by_cases g : l.length > 1048576
  · rw [if_pos (by omega), if_pos g]
  · rw [if_neg (by omega), if_neg g]
theorem toIntS_ev (x : List Int) (hx : x.length ≤ 17592186044416) : Ev (fun k => laws_toIntS.f k x) x := ⟨x.length + 1, fun k hk => toIntS x hx k (by omega)⟩
theorem eqIntS_ev (x : List Int) (hx : x.length ≤ 17592186044416) : Ev (fun k => laws_eqIntS.f k x x) true := ⟨x.length + 1, fun k hk => eqIntS x hx k (by omega)⟩

/-! ### marks in a list of numbers, and marks that are held -/
theorem markIntS_l : ∀ (d i m : Nat) (xs : List Int), i + d = xs.length → m + d < 2 ^ 61 → xs.length < 2 ^ 61 →
    ∃ ys : List Int, Ev (fun k => laws_markIntS.l0 k xs (m : Int) (i : Int)) (((m + d : Nat) : Int), ys) ∧ ys.length = xs.length ∧ (∀ j, j < i → ys[j]? = xs[j]?) ∧
      Ev (fun k => laws_heldIntS.l0 k ys (m : Int) (i : Int)) ((m + d : Nat) : Int) := by
  intro d
  induction d with
  | zero =>
    intro i m xs hi hm hx
    refine ⟨xs, Ev.step (fun k => ?_) (Ev.now _), rfl, fun _ _ => rfl, Ev.step (fun k => ?_) (Ev.now _)⟩
    · simp only [laws_markIntS.l0]
      rw [if_neg (by omega)]
      rfl
    · simp only [laws_heldIntS.l0]
      rw [if_neg (by omega)]
      rfl
  | succ d ih =>
    intro i m xs hi hm hx
    obtain ⟨ys, h1, h2, h3, h4⟩ := ih (i + 1) (m + 1) (xs.set i (m : Int)) (by rw [List.length_set]; omega) (by omega) (by rw [List.length_set]; omega)
    rw [List.length_set] at h2
    have e : m + 1 + d = m + (d + 1) := by omega
    rw [e] at h1 h4
    have g1 : (i : Int) < (xs.length : Int) := by omega
    have g1' : (i : Int) < (ys.length : Int) := by omega
    have g2 : (0 : Int) ≤ (i : Int) := Int.natCast_nonneg _
    have g3 : rd ys (i : Int) = (m : Int) := by
      have := h3 i (by omega)
      rw [List.getElem?_set_self (by omega)] at this
      simp [rd, List.getD_eq_getElem?_getD, this]
    refine ⟨ys, Ev.step (fun k => ?_) h1, h2, fun j hj => ?_, Ev.step (fun k => ?_) h4⟩
    · simp only [laws_markIntS.l0, if_pos g1, if_pos g2]
      rw [wsucc i (by omega), wsucc m (by omega), Int.toNat_natCast]
    · have := h3 j (by omega)
      rwa [List.getElem?_set_ne (by omega)] at this
    · simp only [laws_heldIntS.l0, if_pos g1', if_pos g2, g3, if_true]
      rw [wsucc i (by omega), wsucc m (by omega)]
theorem markIntS_ev (xs : List Int) (m : Nat) (h : xs.length + m < 2 ^ 60) : ∃ ys : List Int, Ev (fun k => laws_markIntS.f k xs (m : Int)) (((m + xs.length : Nat) : Int), ys) ∧ ys.length = xs.length ∧
    Ev (fun k => laws_heldIntS.f k ys (m : Int)) ((m + xs.length : Nat) : Int) := by
  obtain ⟨ys, h1, h2, _, h4⟩ := markIntS_l xs.length 0 m xs (by omega) (by omega) (by omega)
  exact ⟨ys, h1, h2, h4⟩

/-! ### a hydra: the path to the root, walked by one side and kept by the other -/
theorem in_some (e a b : Int) : impl_in.f e a b = some (decide (a ≤ e ∧ e ≤ b)) := by
  unfold impl_in.f
  by_cases h : e ≥ a
  · rw [if_pos h]; congr 1; simp; omega
  · rw [if_neg h]; congr 1; simp; omega
theorem in_some' (e a b : Int) : spec_l1In.f e a b = some (decide (a ≤ e ∧ e ≤ b)) := in_some e a b
/-- Each one's parent is the next one, the last one is the root. -/
def Linked (l : List Int) : List Int → Prop
  | [] => False
  | [x] => x = 0
  | x :: y :: r => rd l x = y ∧ Linked l (y :: r)
theorem linked_tail {l : List Int} {x y : Int} {r : List Int} (h : Linked l (x :: y :: r)) : Linked l (y :: r) := h.2
theorem linked_drop (l : List Int) : ∀ (r : List Int) (j : Nat), Linked l r → j < r.length → Linked l (r.drop j)
  | [], j, h, hj => absurd h (by simp [Linked])
  | [x], j, h, hj => by
    have : j = 0 := by simpa using hj
    subst this
    exact h
  | x :: y :: r, 0, h, hj => h
  | x :: y :: r, j + 1, h, hj => by
    rw [List.drop_succ_cons]
    exact linked_drop l (y :: r) j h.2 (by simpa using hj)
theorem index_l (path : List Int) (p : Int) (hp : path.length < 2 ^ 60) : ∀ (d j : Nat), j + d = path.length →
    ∃ res : Int, Ev (fun k => slices_Index_int_int.l0 k path p (path.length : Int) (j : Int)) res ∧
      ((res = -1 ∧ ∀ m : Nat, j ≤ m → m < path.length → rd path (m : Int) ≠ p) ∨ ∃ m : Nat, res = (m : Int) ∧ m < path.length ∧ rd path (m : Int) = p) := by
  intro d
  induction d with
  | zero =>
    intro j hj
    refine ⟨-1, Ev.step (fun k => ?_) (Ev.now _), .inl ⟨rfl, fun m h1 h2 => by omega⟩⟩
    simp only [slices_Index_int_int.l0]
    rw [if_neg (by omega)]
  | succ d ih =>
    intro j hj
    have g1 : (j : Int) < (path.length : Int) := by omega
    have g2 : (0 : Int) ≤ (j : Int) := Int.natCast_nonneg _
    by_cases h : p = rd path (j : Int)
    · refine ⟨(j : Int), Ev.step (fun k => ?_) (Ev.now _), .inr ⟨j, rfl, by omega, h.symm⟩⟩
      simp only [slices_Index_int_int.l0, if_pos g1, if_pos g2, if_pos h]
    · obtain ⟨res, h1, h2⟩ := ih (j + 1) (by omega)
      refine ⟨res, Ev.step (fun k => ?_) h1, ?_⟩
      · simp only [slices_Index_int_int.l0, if_pos g1, if_pos g2, if_neg h]
        rw [wsucc j (by omega)]
      · rcases h2 with ⟨h2, h3⟩ | h2
        · refine .inl ⟨h2, fun m hm hm2 => ?_⟩
          by_cases e : m = j
          · subst e; exact fun q => h q.symm
          · exact h3 m (by omega) hm2
        · exact .inr h2
theorem index_ev (path : List Int) (p : Int) (hp : path.length < 2 ^ 60) :
    ∃ res : Int, Ev (fun k => slices_Index_int_int.f k path p) res ∧
      ((res = -1 ∧ p ∉ path) ∨ ∃ m : Nat, res = (m : Int) ∧ m < path.length ∧ rd path (m : Int) = p) := by
  obtain ⟨res, h1, h2⟩ := index_l path p hp path.length 0 (by omega)
  refine ⟨res, h1, ?_⟩
  rcases h2 with ⟨h2, h3⟩ | h2
  · refine .inl ⟨h2, fun hm => ?_⟩
    obtain ⟨m, hm, he⟩ := List.mem_iff_getElem.1 hm
    refine h3 m (by omega) hm ?_
    simp [rd, List.getD_eq_getElem?_getD, List.getElem?_eq_getElem hm, he]
  · exact .inr h2
/-- The walk up from a node: it comes to p where p is on the path. -/
theorem up_yes (l : List Int) (i p : Int) (hi : 0 < i) (b : Bool) (hnext : Ev (fun k => spec_deHydra.l0 k l (l.length : Int) (wrap64 (i + 1)) l) b) :
    ∀ (r : List Int) (x : Int), Linked l (x :: r) → (∀ y ∈ x :: r, 0 ≤ y ∧ y < (l.length : Int)) → p ∈ x :: r → Ev (fun k => spec_deHydra.l1 k i p x l (l.length : Int) i l) b := by
  have hit : ∀ x : Int, 0 ≤ x → x = p → Ev (fun k => spec_deHydra.l1 k i p x l (l.length : Int) i l) b := by
    intro x hx hxp
    refine Ev.step (fun k => ?_) hnext
    have e1 : decide (p < 0) = false := decide_eq_false (by omega)
    have e2 : (i == 0) = false := by simp; omega
    simp only [spec_deHydra.l1, if_pos (show x ≥ 0 from hx), if_pos hxp, e1, e2]
    rfl
  intro r
  induction r with
  | nil =>
    intro x hl hr hp
    have : p = x := by simpa using hp
    exact hit x (hr x (by simp)).1 this.symm
  | cons y r ih =>
    intro x hl hr hp
    have hx := hr x (by simp)
    by_cases hxp : x = p
    · exact hit x hx.1 hxp
    · have hp' : p ∈ y :: r := by
        rcases List.mem_cons.1 hp with h | h
        · exact absurd h.symm hxp
        · exact h
      refine Ev.step (fun k => ?_) (ih y hl.2 (fun z hz => hr z (List.mem_cons_of_mem _ hz)) hp')
      simp only [spec_deHydra.l1, if_pos (show x ≥ 0 from hx.1), if_neg hxp, if_pos hx.1, if_pos hx.2, hl.1]
theorem up_no (l : List Int) (i p : Int) (hi : 0 < i) (h0 : rd l 0 = -1) :
    ∀ (r : List Int) (x : Int), Linked l (x :: r) → (∀ y ∈ x :: r, 0 ≤ y ∧ y < (l.length : Int)) → p ∉ x :: r → Ev (fun k => spec_deHydra.l1 k i p x l (l.length : Int) i l) false := by
  have out : Ev (fun k => spec_deHydra.l1 k i p (-1) l (l.length : Int) i l) false := by
    by_cases hp : (-1 : Int) = p
    · refine Ev.step (fun k => ?_) (Ev.now _)
      have e1 : decide (p < 0) = true := decide_eq_true (by omega)
      have e2 : (i == 0) = false := by simp; omega
      simp only [spec_deHydra.l1, if_neg (show ¬ ((-1 : Int) ≥ 0) by omega), if_pos hp, e1, e2]
      rfl
    · refine Ev.step (fun k => ?_) (Ev.now _)
      simp only [spec_deHydra.l1, if_neg (show ¬ ((-1 : Int) ≥ 0) by omega), if_neg hp]
  intro r
  induction r with
  | nil =>
    intro x hl hr hp
    have hx := hr x (by simp)
    have hx0 : x = 0 := hl
    have hxp : ¬ x = p := fun h => hp (by simp [h])
    refine Ev.step (fun k => ?_) out
    simp only [spec_deHydra.l1, if_pos (show x ≥ 0 from hx.1), if_neg hxp, if_pos hx.1, if_pos hx.2]
    rw [hx0, h0]
  | cons y r ih =>
    intro x hl hr hp
    have hx := hr x (by simp)
    have hxp : ¬ x = p := fun h => hp (by simp [h])
    refine Ev.step (fun k => ?_) (ih y hl.2 (fun z hz => hr z (List.mem_cons_of_mem _ hz)) (fun h => hp (List.mem_cons_of_mem _ h)))
    simp only [spec_deHydra.l1, if_pos (show x ≥ 0 from hx.1), if_neg hxp, if_pos hx.1, if_pos hx.2, hl.1]
theorem keep_no (l path : List Int) (i : Int) (g1 : i < (l.length : Int)) (g2 : 0 ≤ i) (e1 : Ev (fun k => slices_Index_int_int.f k path (rd l i)) (-1)) : Ev (fun k => impl_IsHydra.l0 k path i l) false := by
  refine Ev.step (f := ?f) (fun k => ?e) ?v
  case e =>
    conv => lhs; simp only [impl_IsHydra.l0, if_pos g1, if_pos g2]
  case v =>
    refine Ev.bind e1 ?_
    simp only [show ((-1 : Int) < 0) = True from by simp, if_true]
    exact Ev.now _
theorem keep_yes (l path : List Int) (i : Int) (b : Bool) (g1 : i < (l.length : Int)) (g2 : 0 ≤ i) (m : Nat) (hm : m < path.length) (hp : path.length ≤ 1048577) (e1 : Ev (fun k => slices_Index_int_int.f k path (rd l i)) (m : Int))
    (next : Ev (fun k => impl_IsHydra.l0 k (path.take (m + 1) ++ [i]) (wrap64 (i + 1)) l) b) : Ev (fun k => impl_IsHydra.l0 k path i l) b := by
  have c1 : ¬ ((m : Int) < 0) := by omega
  have c2 : (0 : Int) ≤ ((m + 1 : Nat) : Int) := Int.natCast_nonneg _
  have c3 : ((m + 1 : Nat) : Int) ≤ (path.length : Int) := by omega
  have c4 : (path.take (m + 1)).length < 17592186044416 := by rw [List.length_take]; omega
  have hw : wrap64 ((m : Int) + 1) = ((m + 1 : Nat) : Int) := wsucc m (by omega)
  refine Ev.step (f := ?f) (fun k => ?e) ?v
  case e =>
    conv => lhs; simp only [impl_IsHydra.l0, if_pos g1, if_pos g2]
  case v =>
    refine Ev.bind e1 ?_
    simp only [if_neg c1, hw, if_pos c2, if_pos c3, Int.toNat_natCast, Option.bind_some, if_pos c4]
    exact next
theorem walk_in (l : List Int) (i x : Int) (b : Bool) (g1 : i < (l.length : Int)) (g2 : 0 ≤ i) (hup : wrap64 (i - 1) = x) (h : Ev (fun k => spec_deHydra.l1 k i (rd l i) x l (l.length : Int) i l) b) :
    Ev (fun k => spec_deHydra.l0 k l (l.length : Int) i l) b := by
  refine Ev.step (fun k => ?_) h
  simp only [spec_deHydra.l0, if_pos g1, if_pos g2, hup]
theorem rd_reverse (r : List Int) (m : Nat) (hm : m < r.length) : ∃ t, r.drop (r.length - (m + 1)) = rd r.reverse (m : Int) :: t := by
  have hj : r.length - (m + 1) < r.length := by omega
  refine ⟨r.drop (r.length - (m + 1) + 1), ?_⟩
  rw [List.drop_eq_getElem_cons hj]
  congr 1
  have hm' : m < r.reverse.length := by rw [List.length_reverse]; exact hm
  simp only [rd, Int.toNat_natCast, List.getD_eq_getElem?_getD, List.getElem?_eq_getElem hm', Option.getD_some, List.getElem_reverse]
  congr 1
  omega
theorem hydra_l (l : List Int) (h0 : rd l 0 = -1) (hn : l.length ≤ 1048576) : ∀ (d i : Nat) (x : Int) (r : List Int), i + d = l.length → 1 ≤ i → x = (i : Int) - 1 → Linked l (x :: r) → (∀ y ∈ x :: r, 0 ≤ y ∧ y < (i : Int)) → (x :: r).length ≤ i →
    ∃ b : Bool, Ev (fun k => impl_IsHydra.l0 k (x :: r).reverse (i : Int) l) b ∧ Ev (fun k => spec_deHydra.l0 k l (l.length : Int) (i : Int) l) (b && decide (1 ≤ (l.length : Int) ∧ (l.length : Int) ≤ 40)) ∧ (b = true → ∀ m : Nat, i ≤ m → m < l.length → 0 ≤ rd l (m : Int) ∧ rd l (m : Int) < (m : Int)) := by
  intro d
  induction d with
  | zero =>
    intro i x r hi h1 hx hl hr hlen
    have c : ¬ (i : Int) < (l.length : Int) := by omega
    refine ⟨true, Ev.step (fun k => ?_) (Ev.now _), Ev.step (fun k => ?_) (Ev.now _), fun _ m h2 h3 => by omega⟩
    · simp only [impl_IsHydra.l0, if_neg c]
    · simp only [spec_deHydra.l0, if_neg c, in_some', Option.bind_some, Bool.true_and]
  | succ d ih =>
    intro i x r hi h1 hx hl hr hlen
    have g1 : (i : Int) < (l.length : Int) := by omega
    have g2 : (0 : Int) ≤ (i : Int) := Int.natCast_nonneg _
    have hi0 : (0 : Int) < (i : Int) := by omega
    have hlr : (x :: r).reverse.length = (x :: r).length := List.length_reverse
    have hr' : ∀ y ∈ x :: r, 0 ≤ y ∧ y < (l.length : Int) := fun y hy => ⟨(hr y hy).1, by have := (hr y hy).2; omega⟩
    obtain ⟨res, e1, e2⟩ := index_ev (x :: r).reverse (rd l (i : Int)) (by omega)
    rcases e2 with ⟨rfl, e3⟩ | ⟨m, rfl, hm, e3⟩
    · have hup : wrap64 ((i : Int) - 1) = x := by rw [hx]; unfold wrap64; omega
      refine ⟨false, keep_no l _ _ g1 g2 e1, ?_, fun h => by cases h⟩
      rw [Bool.false_and]
      exact walk_in l _ x _ g1 g2 hup (up_no l _ _ hi0 h0 r x hl hr' (fun h => e3 (List.mem_reverse.2 h)))
    · have hm' : m < (x :: r).length := by omega
      obtain ⟨t, ht⟩ := rd_reverse (x :: r) m hm'
      rw [e3] at ht
      have hsub : ∀ y ∈ rd l (i : Int) :: t, y ∈ x :: r := fun y hy => by rw [← ht] at hy; exact List.mem_of_mem_drop hy
      have hdl : (rd l (i : Int) :: t).length ≤ (x :: r).length := by rw [← ht, List.length_drop]; omega
      have hlk : Linked l ((i : Int) :: rd l (i : Int) :: t) := ⟨rfl, by rw [← ht]; exact linked_drop l _ _ hl (by omega)⟩
      have hmem := hr (rd l (i : Int)) (hsub _ (by simp))
      obtain ⟨b, s1, s2, s4⟩ := ih (i + 1) (i : Int) (rd l (i : Int) :: t) (by omega) (by omega) (by omega) hlk
        (fun y hy => by
          rcases List.mem_cons.1 hy with rfl | hy
          · omega
          · have := hr y (hsub y hy); omega)
        (by rw [List.length_cons]; omega)
      have hup : wrap64 ((i : Int) - 1) = x := by rw [hx]; unfold wrap64; omega
      have hnx : wrap64 ((i : Int) + 1) = ((i + 1 : Nat) : Int) := wsucc i (by clear hup; omega)
      refine ⟨b, keep_yes l _ _ b g1 g2 m hm (by clear hup hnx; omega) e1 ?_, ?_, fun hb m2 h2 h3 => ?_⟩
      · rw [hnx, List.take_reverse, ht, ← List.reverse_cons]
        exact s1
      · refine walk_in l _ x _ g1 g2 hup (up_yes l _ _ hi0 _ ?_ r x hl hr' ?_)
        · rw [hnx]; exact s2
        · exact hsub _ (by simp)
      · clear hup hnx
        by_cases e : m2 = i
        · rw [e]; exact hmem
        · exact s4 hb m2 (by omega) h3
/-- Both sides agree on what a hydra is. -/
theorem hydra_ev (l : List Int) (hn : l.length ≤ 1048576) : ∃ b : Bool, Ev (fun k => impl_IsHydra.f k l) b ∧ Ev (fun k => spec_deHydra.f k l) b ∧ (b = true → 1 ≤ l.length ∧ l.length ≤ 40 ∧ rd l 0 = -1 ∧ ∀ m : Nat, 1 ≤ m → m < l.length → 0 ≤ rd l (m : Int) ∧ rd l (m : Int) < (m : Int)) := by
  unfold impl_IsHydra.f spec_deHydra.f
  simp only [in_some, Option.bind_some]
  by_cases hz : l.length = 0
  · have hl : l = [] := List.eq_nil_of_length_eq_zero hz
    subst hl
    refine ⟨false, ?_, Ev.step (fun k => ?_) (Ev.now _), fun h => by cases h⟩
    · refine Ev.step (fun k => ?_) (Ev.now _)
      simp [impl_IsHydra.j0]
    · simp [spec_deHydra.l0, in_some']
  · have g1 : (0 : Int) < (l.length : Int) := by omega
    by_cases h0 : rd l 0 = -1
    · obtain ⟨b, s1, s2, s4⟩ := hydra_l l h0 hn (l.length - 1) 1 0 [] (by omega) (by omega) (by simp) (by rfl) (by simp) (by simp)
      have hup : wrap64 ((0 : Int) - 1) = -1 := by decide +kernel
      have hs : Ev (fun k => spec_deHydra.l0 k l (l.length : Int) 0 l) (b && decide (1 ≤ (l.length : Int) ∧ (l.length : Int) ≤ 40)) := by
        refine walk_in l 0 (-1) _ g1 (by omega) hup (Ev.step (fun k => ?_) s2)
        have hw : wrap64 ((0 : Int) + 1) = ((1 : Nat) : Int) := by decide +kernel
        have e1 : ((decide ((-1 : Int) < 0)) != ((0 : Int) == 0)) = false := by decide
        simp only [spec_deHydra.l1, h0, show ¬ ((-1 : Int) ≥ 0) from by omega, if_false, if_true, e1, hw, Bool.false_eq_true]
      by_cases h40 : l.length ≤ 40
      · have hd : decide (1 ≤ (l.length : Int) ∧ (l.length : Int) ≤ 40) = true := decide_eq_true (by omega)
        rw [hd, Bool.and_true] at hs
        refine ⟨b, ?_, hs, fun hb => ⟨by omega, h40, h0, s4 hb⟩⟩
        simp only [hd, if_true, if_pos g1, h0]
        refine Ev.step (fun k => ?_) s1
        simp [impl_IsHydra.j0]
      · have hd : decide (1 ≤ (l.length : Int) ∧ (l.length : Int) ≤ 40) = false := decide_eq_false (by omega)
        rw [hd, Bool.and_false] at hs
        refine ⟨false, ?_, hs, fun h => by cases h⟩
        simp only [hd, Bool.false_eq_true, if_false]
        refine Ev.step (fun k => ?_) (Ev.now _)
        simp [impl_IsHydra.j0]
    · refine ⟨false, ?_, ?_, fun h => by cases h⟩
      · by_cases h40 : 1 ≤ (l.length : Int) ∧ (l.length : Int) ≤ 40
        · have hb : (rd l 0 != -1) = true := by simpa using h0
          simp only [h40, and_self, decide_true, if_true, if_pos g1, hb]
          refine Ev.step (fun k => ?_) (Ev.now _)
          simp [impl_IsHydra.j0]
        · simp only [h40, decide_false, Bool.false_eq_true, if_false]
          refine Ev.step (fun k => ?_) (Ev.now _)
          simp [impl_IsHydra.j0]
      · have hup : wrap64 ((0 : Int) - 1) = -1 := by decide +kernel
        refine walk_in l 0 (-1) _ g1 (by omega) hup (Ev.step (fun k => ?_) (Ev.now _))
        have hne : ¬ (-1 : Int) = rd l 0 := fun h => h0 h.symm
        simp only [spec_deHydra.l1, show ¬ ((-1 : Int) ≥ 0) from by omega, if_false, if_neg hne]

/-! ### heads -/
theorem children_l (l : List Int) (p : Int) (hn : l.length ≤ 1048576) : ∀ (d j : Nat) (acc : List Int), j + d = l.length → acc.length ≤ j →
    ∃ C : List Int, Ev (fun k => spec_deChildren.l0 k p acc l (l.length : Int) (j : Int)) C ∧ (C.length = 0 ↔ acc.length = 0 ∧ ∀ m : Nat, j ≤ m → m < l.length → rd l (m : Int) ≠ p) := by
  intro d
  induction d with
  | zero =>
    intro j acc hj ha
    have c : ¬ (j : Int) < (l.length : Int) := by omega
    refine ⟨acc, Ev.step (fun k => ?_) (Ev.now _), ⟨fun h => ⟨h, fun m h1 h2 => by omega⟩, fun h => h.1⟩⟩
    simp only [spec_deChildren.l0, if_neg c]
  | succ d ih =>
    intro j acc hj ha
    have g1 : (j : Int) < (l.length : Int) := by omega
    have g2 : (0 : Int) ≤ (j : Int) := Int.natCast_nonneg _
    have g3 : acc.length < 17592186044416 := by omega
    by_cases h : rd l (j : Int) = p
    · obtain ⟨C, h1, h2⟩ := ih (j + 1) (acc ++ [(j : Int)]) (by omega) (by simp; omega)
      refine ⟨C, Ev.step (fun k => ?_) h1, ?_⟩
      · simp only [spec_deChildren.l0, if_pos g1, if_pos g2, if_pos h, if_pos g3]
        rw [wsucc j (by omega)]
      · rw [h2]
        constructor
        · intro q; simp at q
        · intro q; exact absurd h (q.2 j (Nat.le_refl _) (by omega))
    · obtain ⟨C, h1, h2⟩ := ih (j + 1) acc (by omega) (by omega)
      refine ⟨C, Ev.step (fun k => ?_) h1, ?_⟩
      · simp only [spec_deChildren.l0, if_pos g1, if_pos g2, if_neg h]
        rw [wsucc j (by omega)]
      · rw [h2]
        constructor
        · rintro ⟨q1, q2⟩
          refine ⟨q1, fun m hm1 hm2 => ?_⟩
          by_cases e : m = j
          · subst e; exact h
          · exact q2 m (by omega) hm2
        · rintro ⟨q1, q2⟩
          exact ⟨q1, fun m hm1 hm2 => q2 m (by omega) hm2⟩
theorem children_ev (l : List Int) (p : Int) (hn : l.length ≤ 1048576) : ∃ C : List Int, Ev (fun k => spec_deChildren.f k l p) C ∧ (C.length = 0 ↔ p ∉ l) := by
  obtain ⟨C, h1, h2⟩ := children_l l p hn l.length 0 [] (by omega) (by simp)
  refine ⟨C, h1, ?_⟩
  rw [h2]
  constructor
  · rintro ⟨_, q⟩ hm
    obtain ⟨m, hm, he⟩ := List.mem_iff_getElem.1 hm
    refine q m (by omega) hm ?_
    simp [rd, List.getD_eq_getElem?_getD, List.getElem?_eq_getElem hm, he]
  · intro q
    refine ⟨rfl, fun m _ hm he => q ?_⟩
    rw [← he]
    simp only [rd, Int.toNat_natCast, List.getD_eq_getElem?_getD, List.getElem?_eq_getElem hm, Option.getD_some]
    exact List.getElem_mem hm
theorem contains_ev (l : List Int) (p : Int) (hn : l.length ≤ 1048576) : Ev (fun k => slices_Contains_int_int.f k l p) (decide (p ∈ l)) := by
  obtain ⟨res, h1, h2⟩ := index_ev l p (by omega)
  unfold slices_Contains_int_int.f
  refine Ev.bind h1 ?_
  have : decide (res ≥ 0) = decide (p ∈ l) := by
    rcases h2 with ⟨rfl, h2⟩ | ⟨m, rfl, hm, he⟩
    · simp [h2]
    · have : p ∈ l := by
        rw [← he]
        simp only [rd, Int.toNat_natCast, List.getD_eq_getElem?_getD, List.getElem?_eq_getElem hm, Option.getD_some]
        exact List.getElem_mem hm
      simp [this]
  rw [this]
  exact Ev.now _
theorem heads_l (l : List Int) (hn : l.length ≤ 1048576) : ∀ (d i : Nat) (acc : List Int), i + d = l.length → acc.length ≤ i →
    ∃ H : List Int, Ev (fun k => spec_deHeads.l0 k acc (i : Int) l) H ∧ Ev (fun k => impl_heads.l0 k acc (i : Int) l) H ∧ H.length ≤ l.length ∧ (∀ y ∈ H, y ∈ acc ∨ ((i : Int) ≤ y ∧ y < (l.length : Int))) := by
  intro d
  induction d with
  | zero =>
    intro i acc hi ha
    have c : ¬ (i : Int) < (l.length : Int) := by omega
    refine ⟨acc, Ev.step (fun k => ?_) (Ev.now _), Ev.step (fun k => ?_) (Ev.now _), by omega, fun y hy => .inl hy⟩
    · simp only [spec_deHeads.l0, if_neg c]
    · simp only [impl_heads.l0, if_neg c]
  | succ d ih =>
    intro i acc hi ha
    have g1 : (i : Int) < (l.length : Int) := by omega
    have g3 : acc.length < 17592186044416 := by omega
    have hw : wrap64 ((i : Int) + 1) = ((i + 1 : Nat) : Int) := wsucc i (by omega)
    obtain ⟨C, c1, c2⟩ := children_ev l (i : Int) hn
    have c3 := contains_ev l (i : Int) hn
    by_cases h : (i : Int) ∈ l
    · obtain ⟨H, h1, h2, h3, h4⟩ := ih (i + 1) acc (by clear hw; omega) (by clear hw; omega)
      have hc : ¬ (C.length : Int) = 0 := fun q => (c2.1 (by clear hw; omega)) h
      refine ⟨H, Ev.step (f := ?fu1) (fun k => ?eu1) ?vu1, Ev.step (f := ?f2u2) (fun k => ?e2u2) ?v2u2, h3, fun y hyy => (h4 y hyy).imp id (fun q => by clear hw; omega)⟩
      case eu1 => conv => lhs; simp only [spec_deHeads.l0, if_pos g1]
      case vu1 =>
        refine Ev.bind c1 ?_
        simp only [if_neg hc, hw]
        exact h1
      case e2u2 => conv => lhs; simp only [impl_heads.l0, if_pos g1]
      case v2u2 =>
        refine Ev.bind c3 ?_
        simp only [h, decide_true, if_true, hw]
        exact h2
    · obtain ⟨H, h1, h2, h3, h4⟩ := ih (i + 1) (acc ++ [(i : Int)]) (by clear hw; omega) (by clear hw; simp; omega)
      have hc : (C.length : Int) = 0 := by have := c2.2 h; clear hw; omega
      refine ⟨H, Ev.step (f := ?fu3) (fun k => ?eu3) ?vu3, Ev.step (f := ?f2u4) (fun k => ?e2u4) ?v2u4, h3, fun y hyy => by
        clear hw
        rcases h4 y hyy with q | q
        · rcases List.mem_append.1 q with q | q
          · exact .inl q
          · refine .inr ?_
            have := List.mem_singleton.1 q
            omega
        · exact .inr (by omega)⟩
      case eu3 => conv => lhs; simp only [spec_deHeads.l0, if_pos g1]
      case vu3 =>
        refine Ev.bind c1 ?_
        simp only [if_pos hc, if_pos g3, hw]
        exact h1
      case e2u4 => conv => lhs; simp only [impl_heads.l0, if_pos g1]
      case v2u4 =>
        refine Ev.bind c3 ?_
        simp only [h, decide_false, Bool.false_eq_true, if_false, if_pos g3, hw]
        exact h2
theorem heads_ev (l : List Int) (hn : l.length ≤ 1048576) (h1 : 1 ≤ l.length) : ∃ H : List Int, Ev (fun k => spec_deHeads.f k l) H ∧ Ev (fun k => impl_heads.f k l) H ∧ H.length ≤ l.length ∧ ∀ y ∈ H, 1 ≤ y ∧ y < (l.length : Int) := by
  obtain ⟨H, a1, a2, a3, a4⟩ := heads_l l hn (l.length - 1) 1 [] (by omega) (by simp)
  exact ⟨H, a1, a2, a3, fun y hyy => by
    rcases a4 y hyy with q | q
    · simp at q
    · omega⟩

/-! ### the chop: the reference's copies against the program's walk -/
/-- The reference's list, and what the program's walk tells: the same row while it has at most 40 numbers. -/
def Sy (S : List Int) (s : List Int × Bool) : Prop := (s.2 = true → S = s.1 ∧ S.length ≤ 40) ∧ (s.2 = false → 40 < S.length)
theorem Sy.out {S S' : List Int} {s : List Int × Bool} (h : Sy S s) (hs : s.2 = false) (hl : S.length ≤ S'.length) : Sy S' s := ⟨fun e => absurd (hs.symm.trans e) (by decide), fun _ => by have := h.2 hs; omega⟩
def stp (D : Nat → List Nat) (N : Nat) (par : Int) (s : List Int × Bool) (c : Nat) : List Int × Bool := if s.2 = true then hy.wk D N s.1 c par else s
theorem stp_stop (D : Nat → List Nat) (N : Nat) (par : Int) (l : List Nat) (s : List Int × Bool) (h : s.2 = false) : l.foldl (stp D N par) s = s := hy.wk_stop D N par l s h
/-- The state behind a node's own number. -/
def fst_ (h : List Int) (par : Int) (s : List Int × Bool) : List Int × Bool := if s.2 = true then (h ++ [par], decide (h.length < 40)) else s
theorem stp_node (D : Nat → List Nat) (N i : Nat) (par : Int) (h : List Int) (s : List Int × Bool) (hs : Sy h s) : stp D (N + 1) par s i = (D i).foldl (stp D N (h.length : Int)) (fst_ h par s) := by
  unfold stp fst_
  by_cases e : s.2 = true
  · obtain ⟨rfl, hl⟩ := hs.1 e
    rw [if_pos e, if_pos e, hy.wk]
    by_cases hc : 40 ≤ s.1.length
    · rw [if_pos hc, show decide (s.1.length < 40) = false from decide_eq_false (by omega)]
      exact (stp_stop D N _ (D i) _ rfl).symm
    · rw [if_neg hc, show decide (s.1.length < 40) = true from decide_eq_true (by omega)]
  · rw [if_neg e, if_neg e]
    exact (stp_stop D N _ (D i) s (by simpa using e)).symm
theorem Sy_node {h : List Int} {s : List Int × Bool} (par : Int) (hs : Sy h s) : Sy (h ++ [par]) (fst_ h par s) := by
  unfold fst_
  by_cases e : s.2 = true
  · obtain ⟨rfl, hl⟩ := hs.1 e
    rw [if_pos e]
    refine ⟨fun q => ⟨rfl, ?_⟩, fun q => ?_⟩
    · have := of_decide_eq_true q
      rw [List.length_append]
      show s.1.length + 1 ≤ 40
      omega
    · have := of_decide_eq_false q
      rw [List.length_append]
      show 40 < s.1.length + 1
      omega
  · rw [if_neg e]
    exact hs.out (by simpa using e) (by simp)
theorem loop_gen (F : Nat → List Int → Int → Option (List Int)) (f : Nat → List Int → Int → Option (List Int)) (C : List Nat) (hd : Nat) (n i T : Nat) (hin : i < n) (st : List Int × Bool → Nat → List Int × Bool) (cp : List Int × Bool → List Int × Bool)
    (hF : ∀ k S (j : Nat) (h : j < C.length), F (k + 1) S (j : Int) = if C[j] = hd then F k S ((j + 1 : Nat) : Int) else (f k S (C[j] : Int)).bind fun t => F k t ((j + 1 : Nat) : Int))
    (hcall : ∀ c ∈ C, c ≠ hd → ∀ S s T', Sy S s → S.length ≤ T' → T ≤ T' → T' + 2 ^ (n - c) ≤ T + 2 ^ (n - i) → ∃ S', Ev (fun k => f k S (c : Int)) S' ∧ S.length ≤ S'.length ∧ S'.length ≤ T' + 2 ^ (n - c) ∧ Sy S' (st s c))
    (hC : ∀ c ∈ C, i < c ∧ c < n) (hsort : C.Pairwise (· < ·))
    (hend : ∀ S s, Sy S s → S.length ≤ T + 2 ^ (n - i) → ∃ S', Ev (fun k => F k S (C.length : Int)) S' ∧ S.length ≤ S'.length ∧ S'.length ≤ T + 2 ^ (n - i) ∧ Sy S' (cp s)) :
    ∀ (d j prev : Nat) (S : List Int) (s : List Int × Bool), j + d = C.length → i ≤ prev → prev < n → (∀ c ∈ C.drop j, prev < c) → Sy S s → S.length + 2 ^ (n - prev) ≤ T + 1 + 2 ^ (n - i) →
      ∃ S', Ev (fun k => F k S (j : Int)) S' ∧ S.length ≤ S'.length ∧ S'.length ≤ T + 2 ^ (n - i) ∧ Sy S' (cp (((C.drop j).filter (fun m => !decide (m = hd))).foldl st s)) := by
  intro d
  induction d with
  | zero =>
    intro j prev S s hj hp hpn hpr hs hl
    obtain rfl : j = C.length := by omega
    have h1 : 1 ≤ 2 ^ (n - prev) := Nat.one_le_two_pow
    obtain ⟨S', a1, a2, a3, a4⟩ := hend S s hs (by omega)
    refine ⟨S', a1, a2, a3, ?_⟩
    rw [List.drop_length]
    exact a4
  | succ d ih =>
    intro j prev S s hj hp hpn hpr hs hl
    have hjl : j < C.length := by omega
    have hdr : C.drop j = C[j] :: C.drop (j + 1) := List.drop_eq_getElem_cons hjl
    have hcp := hpr C[j] (by rw [hdr]; exact List.mem_cons_self)
    have hcn := (hC C[j] (List.getElem_mem hjl)).2
    have hnext : ∀ c ∈ C.drop (j + 1), C[j] < c := by
      intro c hc
      have h2 : (C.drop j).Pairwise (· < ·) := hsort.sublist (List.drop_sublist _ _)
      rw [hdr, List.pairwise_cons] at h2
      exact h2.1 c hc
    have hpow : 2 * 2 ^ (n - C[j]) ≤ 2 ^ (n - prev) := by
      rw [← Nat.pow_succ']
      exact Nat.pow_le_pow_right (by omega) (by omega)
    have hpow2 : 2 ^ (n - prev) ≤ 2 ^ (n - i) := Nat.pow_le_pow_right (by omega) (by omega)
    have h1 : 1 ≤ 2 ^ (n - C[j]) := Nat.one_le_two_pow
    by_cases e : C[j] = hd
    · obtain ⟨S', a1, a2, a3, a4⟩ := ih (j + 1) C[j] S s (by omega) (by omega) hcn hnext hs (by omega)
      refine ⟨S', Ev.step (fun k => ?_) a1, a2, a3, ?_⟩
      · rw [hF k S j hjl, if_pos e]
      · rw [hdr, List.filter_cons, if_neg (by simp [e])]
        exact a4
    · obtain ⟨t, b1, b2, b3, b4⟩ := hcall C[j] (List.getElem_mem hjl) e S s (T + 1 + 2 ^ (n - i) - 2 ^ (n - prev)) hs (by omega) (by omega) (by omega)
      obtain ⟨S', a1, a2, a3, a4⟩ := ih (j + 1) C[j] t (st s C[j]) (by omega) (by omega) hcn hnext b4 (by omega)
      refine ⟨S', Ev.step (f := ?f) (fun k => ?e) ?v, by omega, a3, ?_⟩
      case e =>
        conv => lhs; rw [hF k S j hjl, if_neg e]
      case v => exact Ev.bind b1 a1
      · rw [hdr, List.filter_cons, if_pos (by simp [e]), List.foldl_cons]
        exact a4
theorem own_some (l : List Int) (h : l.length < 17592186044416) : spec_l1Own.f l = some l := by
  unfold spec_l1Own.f
  simp only [Option.bind_some, List.length_nil, Nat.zero_add, List.nil_append, if_pos h]
theorem rd_getD (l : List Int) (m : Nat) : rd l (m : Int) = l.getD m 0 := by simp [rd]
theorem child_l (l : List Int) (p : Nat) (hn : l.length ≤ 1048576) : ∀ (d j : Nat) (acc : List Int), j + d = l.length → acc.length ≤ j →
    Ev (fun k => spec_deChildren.l0 k (p : Int) acc l (l.length : Int) (j : Int)) (acc ++ (((List.range' j d).filter (fun m => decide (l.getD m 0 = (p : Int)))).map (fun m : Nat => (m : Int)))) := by
  intro d
  induction d with
  | zero =>
    intro j acc hj ha
    have c : ¬ (j : Int) < (l.length : Int) := by omega
    refine Ev.step (fun k => ?_) (Ev.now _)
    simp only [spec_deChildren.l0, if_neg c, List.range'_zero, List.filter_nil, List.map_nil, List.append_nil]
  | succ d ih =>
    intro j acc hj ha
    have g1 : (j : Int) < (l.length : Int) := by omega
    have g2 : (0 : Int) ≤ (j : Int) := Int.natCast_nonneg _
    have g3 : acc.length < 17592186044416 := by omega
    by_cases h : l.getD j 0 = (p : Int)
    · have h1 := ih (j + 1) (acc ++ [(j : Int)]) (by omega) (by simp; omega)
      rw [List.range'_succ, List.filter_cons, if_pos (by rw [h]; exact decide_eq_true rfl), List.map_cons]
      rw [List.append_assoc] at h1
      refine Ev.step (fun k => ?_) h1
      simp only [spec_deChildren.l0, if_pos g1, if_pos g2, rd_getD, if_pos h, if_pos g3]
      rw [wsucc j (by omega)]
    · have h1 := ih (j + 1) acc (by omega) (by omega)
      rw [List.range'_succ, List.filter_cons, if_neg (by simpa using h)]
      refine Ev.step (fun k => ?_) h1
      simp only [spec_deChildren.l0, if_pos g1, if_pos g2, rd_getD, if_neg h]
      rw [wsucc j (by omega)]
theorem child_ev (l : List Int) (p : Nat) (hn : l.length ≤ 1048576) : Ev (fun k => spec_deChildren.f k l (p : Int)) ((hy.ch l l.length p).map (fun m : Nat => (m : Int))) := by
  have h := child_l l p hn l.length 0 [] (by omega) (by simp)
  rw [List.nil_append, ← List.range_eq_range'] at h
  exact h
theorem ch_sort (l : List Int) (n p : Nat) : (hy.ch l n p).Pairwise (· < ·) := List.Pairwise.filter _ List.pairwise_lt_range
theorem ch_in (l : List Int) (p c : Nat) (hps : ∀ i, i < l.length → l.getD i 0 < (i : Int)) (hc : c ∈ hy.ch l l.length p) : p < c ∧ c < l.length := by
  have h1 := hy.ch_lt l l.length p c hc
  unfold hy.ch at hc
  rw [List.mem_filter] at hc
  have h2 := of_decide_eq_true hc.2
  have h3 := hps c h1
  omega
def kid (l : List Int) (hd j : Nat) : List Nat := (hy.ch l l.length j).filter (fun m => !decide (m = hd))
theorem D_kid (l : List Int) (hd gr j : Nat) (hq : 0 ≤ l.getD hd 0) : hy.D l hd gr j = kid l hd j ++ (if 0 < (l.getD hd 0).toNat ∧ j = (l.getD (l.getD hd 0).toNat 0).toNat then List.replicate gr (l.getD hd 0).toNat else []) := by
  unfold hy.D kid
  congr 1
  by_cases e : j = (l.getD hd 0).toNat
  · rw [if_pos e]
  · rw [if_neg e]
    symm
    rw [List.filter_eq_self]
    intro m hm
    unfold hy.ch at hm
    rw [List.mem_filter] at hm
    have h2 := of_decide_eq_true hm.2
    have : m ≠ hd := by
      intro e2
      subst e2
      omega
    simp [this]
theorem rd_map (C : List Nat) (j : Nat) (h : j < C.length) : rd (C.map (fun m : Nat => (m : Int))) (j : Int) = (C[j] : Int) := by
  simp [rd, List.getD_eq_getElem?_getD, List.getElem?_eq_getElem h]
theorem copy_F (l C : List Nat) (ls : List Int) (hd : Nat) (own : Int) (hC : C.length ≤ 1048576) (k : Nat) (S : List Int) (j : Nat) (h : j < C.length) :
    spec_deCopy.l0 (k + 1) S (hd : Int) own (C.map (fun m : Nat => (m : Int))) (C.length : Int) (j : Int) ls = if C[j] = hd then spec_deCopy.l0 k S (hd : Int) own (C.map (fun m : Nat => (m : Int))) (C.length : Int) ((j + 1 : Nat) : Int) ls else (spec_deCopy.f k S own ls (C[j] : Int) (hd : Int)).bind fun t => spec_deCopy.l0 k t (hd : Int) own (C.map (fun m : Nat => (m : Int))) (C.length : Int) ((j + 1 : Nat) : Int) ls := by
  have g1 : (j : Int) < (C.length : Int) := by omega
  have g2 : (0 : Int) ≤ (j : Int) := Int.natCast_nonneg _
  simp only [spec_deCopy.l0, List.length_map, if_pos g1, if_pos g2, rd_map C j h]
  rw [wsucc j (by omega)]
  by_cases e : C[j] = hd
  · rw [if_pos e, if_pos (by rw [e])]
  · rw [if_neg e, if_neg (by omega)]
theorem chop_F (C : List Nat) (ls : List Int) (hd : Nat) (x3 gr own q : Int) (hC : C.length ≤ 1048576) (k : Nat) (S : List Int) (j : Nat) (h : j < C.length) :
    spec_deChop.l0 (k + 1) S x3 (hd : Int) gr own q (C.map (fun m : Nat => (m : Int))) (C.length : Int) (j : Int) ls = if C[j] = hd then spec_deChop.l0 k S x3 (hd : Int) gr own q (C.map (fun m : Nat => (m : Int))) (C.length : Int) ((j + 1 : Nat) : Int) ls else (spec_deChop.f k S own ls (C[j] : Int) (hd : Int) gr).bind fun t => spec_deChop.l0 k t x3 (hd : Int) gr own q (C.map (fun m : Nat => (m : Int))) (C.length : Int) ((j + 1 : Nat) : Int) ls := by
  have g1 : (j : Int) < (C.length : Int) := by omega
  have g2 : (0 : Int) ≤ (j : Int) := Int.natCast_nonneg _
  simp only [spec_deChop.l0, List.length_map, if_pos g1, if_pos g2, rd_map C j h]
  rw [wsucc j (by omega)]
  by_cases e : C[j] = hd
  · rw [if_pos e, if_pos (by rw [e])]
  · rw [if_neg e, if_neg (by omega)]
/-- The copy of a node that stands below the copies. -/
theorem copy_ev (l : List Int) (hd : Nat) (D : Nat → List Nat) (q : Nat) (h40 : l.length ≤ 40) (hps : ∀ i, i < l.length → l.getD i 0 < (i : Int)) (hD : ∀ j, q ≤ j → D j = kid l hd j) :
    ∀ (N i : Nat), i < l.length → l.length - i ≤ N → q ≤ i → ∀ (h : List Int) (s : List Int × Bool) (par : Int) (T : Nat), Sy h s → h.length ≤ T → T + 2 ^ (l.length - i) ≤ 2 ^ 43 →
      ∃ S, Ev (fun k => spec_deCopy.f k h par l (i : Int) (hd : Int)) S ∧ h.length ≤ S.length ∧ S.length ≤ T + 2 ^ (l.length - i) ∧ Sy S (stp D N par s i) := by
  intro N
  induction N with
  | zero => intro i hi hN; omega
  | succ N IH =>
    intro i hi hN hqi h s par T hs hl hT
    have h43 : (2 : Nat) ^ 43 = 8796093022208 := by decide
    have hlen : (hy.ch l l.length i).length ≤ 40 := Nat.le_trans (hy.ch_len _ _ _) h40
    have hpw : 1 ≤ 2 ^ (l.length - i) := Nat.one_le_two_pow
    have hcin := fun c => ch_in l i c hps
    have hloop := loop_gen (fun k S j => spec_deCopy.l0 k S (hd : Int) (h.length : Int) ((hy.ch l l.length i).map (fun m : Nat => (m : Int))) ((hy.ch l l.length i).length : Int) j l) (fun k S c => spec_deCopy.f k S (h.length : Int) l c (hd : Int)) (hy.ch l l.length i) hd l.length i T hi (stp D N (h.length : Int)) id
      (fun k S j hj => copy_F [] (hy.ch l l.length i) l hd (h.length : Int) (by omega) k S j hj)
      (fun c hc hne S s2 T' h1 h2 h3 h4 => IH c (hcin c hc).2 (by have := (hcin c hc).1; omega) (by have := (hcin c hc).1; omega) S s2 (h.length : Int) T' h1 h2 (by omega))
      hcin (ch_sort _ _ _)
      (fun S s2 h1 h2 => ⟨S, Ev.step (fun k => by simp only [spec_deCopy.l0, Int.lt_irrefl, if_false]) (Ev.now _), Nat.le_refl _, h2, h1⟩)
      (hy.ch l l.length i).length 0 i (h ++ [par]) (fst_ h par s) (by omega) (Nat.le_refl _) hi (fun c hc => (hcin c (List.mem_of_mem_drop hc)).1) (Sy_node par hs) (by rw [List.length_append]; show h.length + 1 + _ ≤ _; omega)
    obtain ⟨S, a1, a2, a3, a4⟩ := hloop
    refine ⟨S, Ev.step (f := ?f) (fun k => ?e) ?v, by rw [List.length_append] at a2; omega, a3, ?_⟩
    case e =>
      conv => lhs; simp only [spec_deCopy.f, own_some h (by omega), Option.bind_some, if_pos (show h.length < 17592186044416 by omega)]
    case v =>
      refine Ev.bind (child_ev l i (by omega)) ?_
      simp only [List.length_map]
      exact a1
    · rw [stp_node D N i par h s hs, hD i hqi]
      exact a4
/-- The copies. -/
theorem copies_ev (l : List Int) (hd q N : Nat) (D : Nat → List Nat) (own : Int) (h40 : l.length ≤ 40) (hps : ∀ i, i < l.length → l.getD i 0 < (i : Int)) (hD : ∀ j, q ≤ j → D j = kid l hd j) (hqn : q < l.length) (hN : l.length - q ≤ N) :
    ∀ (g : Nat) (S : List Int) (s : List Int × Bool) (T : Nat), g ≤ 99 → Sy S s → S.length ≤ T → 40 + 2 ^ 40 ≤ T →
      ∃ S', Ev (fun k => spec_deChop.l1 k S (hd : Int) (g : Int) own (q : Int) l) S' ∧ S.length ≤ S'.length ∧ S'.length ≤ T ∧ Sy S' ((List.replicate g q).foldl (stp D N own) s) := by
  intro g
  induction g with
  | zero =>
    intro S s T hg hs hl hT
    refine ⟨S, Ev.step (fun k => ?_) (Ev.now _), Nat.le_refl _, hl, hs⟩
    simp only [spec_deChop.l1, show ¬ (((0 : Nat) : Int) > 0) from by omega, if_false]
  | succ g ih =>
    intro S s T hg hs hl hT
    have g1 : ((g + 1 : Nat) : Int) > 0 := by omega
    by_cases hc : S.length ≤ 40
    · have hpow : 2 ^ (l.length - q) ≤ 2 ^ 40 := Nat.pow_le_pow_right (by omega) (by omega)
      have h40' : (2 : Nat) ^ 40 = 1099511627776 := by decide
      have h43 : (2 : Nat) ^ 43 = 8796093022208 := by decide
      obtain ⟨S1, a1, a2, a3, a4⟩ := copy_ev l hd D q h40 hps hD N q hqn hN (Nat.le_refl _) S s own 40 hs hc (by omega)
      obtain ⟨S2, b1, b2, b3, b4⟩ := ih S1 (stp D N own s q) T (by omega) a4 (by omega) hT
      refine ⟨S2, Ev.step (f := ?f) (fun k => ?e) ?v, by omega, b3, ?_⟩
      case e =>
        conv => lhs; simp only [spec_deChop.l1, if_pos g1, if_pos (show (S.length : Int) ≤ 40 by omega)]
      case v =>
        refine Ev.bind a1 ?_
        have hw : wrap64 (((g + 1 : Nat) : Int) - 1) = (g : Int) := by unfold wrap64; omega
        simp only [hw]
        exact b1
      · rw [List.replicate_succ, List.foldl_cons]
        exact b4
    · have hs2 : s.2 = false := by
        cases e : s.2 with
        | false => rfl
        | true => exact absurd (hs.1 e).2 hc
      refine ⟨S, Ev.step (fun k => ?_) (Ev.now _), Nat.le_refl _, hl, ?_⟩
      · simp only [spec_deChop.l1, if_pos g1, if_neg (show ¬ (S.length : Int) ≤ 40 by omega)]
      · rw [stp_stop D N own _ s hs2]
        exact hs
theorem chop_ev (l : List Int) (hd gr q : Nat) (h40 : l.length ≤ 40) (hps : ∀ i, i < l.length → l.getD i 0 < (i : Int)) (hpos : ∀ i, 0 < i → i < l.length → 0 ≤ l.getD i 0) (hd1 : hd < l.length) (hg : gr ≤ 99) (hq : l.getD hd 0 = (q : Int)) :
    ∀ (N i : Nat), i < l.length → l.length - i ≤ N → ∀ (h : List Int) (s : List Int × Bool) (par : Int) (T : Nat), Sy h s → h.length ≤ T → 40 + 2 ^ 40 ≤ T → T + 2 ^ (l.length - i) ≤ 2 ^ 43 →
      ∃ S, Ev (fun k => spec_deChop.f k h par l (i : Int) (hd : Int) (gr : Int)) S ∧ h.length ≤ S.length ∧ S.length ≤ T + 2 ^ (l.length - i) ∧ Sy S (stp (hy.D l hd gr) N par s i) := by
  have hqh := hps hd hd1
  intro N
  induction N with
  | zero => intro i hi hN; omega
  | succ N IH =>
    intro i hi hN h s par T hs hl hM hT
    have h43 : (2 : Nat) ^ 43 = 8796093022208 := by decide
    have hlen : (hy.ch l l.length i).length ≤ 40 := Nat.le_trans (hy.ch_len _ _ _) h40
    have hpw : 1 ≤ 2 ^ (l.length - i) := Nat.one_le_two_pow
    have hcin := fun c => ch_in l i c hps
    have hrq : rd l (hd : Int) = (q : Int) := by rw [rd_getD, hq]
    have hDk := D_kid l hd gr i (by omega)
    rw [hq, Int.toNat_natCast] at hDk
    have hloop := loop_gen (fun k S j => spec_deChop.l0 k S (i : Int) (hd : Int) (gr : Int) (h.length : Int) (q : Int) ((hy.ch l l.length i).map (fun m : Nat => (m : Int))) ((hy.ch l l.length i).length : Int) j l) (fun k S c => spec_deChop.f k S (h.length : Int) l c (hd : Int) (gr : Int)) (hy.ch l l.length i) hd l.length i T hi (stp (hy.D l hd gr) N (h.length : Int))
      (fun s => (if 0 < q ∧ i = (l.getD q 0).toNat then List.replicate gr q else []).foldl (stp (hy.D l hd gr) N (h.length : Int)) s)
      (fun k S j hj => chop_F (hy.ch l l.length i) l hd (i : Int) (gr : Int) (h.length : Int) (q : Int) (by omega) k S j hj)
      (fun c hc hne S s2 T' h1 h2 h3 h4 => IH c (hcin c hc).2 (by have := (hcin c hc).1; omega) S s2 (h.length : Int) T' h1 h2 (by omega) (by omega))
      hcin (ch_sort _ _ _)
      (fun S s2 h1 h2 => by
        by_cases hq0 : 0 < q
        · have hqn : q < l.length := by omega
          have p1 := hpos q hq0 hqn
          have p2 := hps q hqn
          have g0 : (q : Int) > 0 := by omega
          have g1 : (0 : Int) ≤ (q : Int) := by omega
          have g2 : (q : Int) < (l.length : Int) := by omega
          by_cases e : i = (l.getD q 0).toNat
          · have e2 : (l.getD q 0 == (i : Int)) = true := by rw [e, Int.toNat_of_nonneg p1]; exact beq_self_eq_true _
            have hD : ∀ j, q ≤ j → hy.D l hd gr j = kid l hd j := by
              intro j hj
              rw [D_kid l hd gr j (by omega), hq, Int.toNat_natCast, if_neg (by rintro ⟨_, e3⟩; omega), List.append_nil]
            obtain ⟨S', a1, a2, a3, a4⟩ := copies_ev l hd q N (hy.D l hd gr) (h.length : Int) h40 hps hD hqn (by omega) gr S s2 (T + 2 ^ (l.length - i)) hg h1 h2 (by omega)
            refine ⟨S', Ev.step (f := ?fa) (fun k => ?ea) (Ev.step (f := ?fa2) (fun k => ?ea2) ?va), a2, a3, ?_⟩
            case ea => conv => lhs; simp only [spec_deChop.l0, Int.lt_irrefl, if_false, if_pos g0, if_pos g1, if_pos g2, rd_getD, e2]
            case ea2 => conv => lhs; simp only [spec_deChop.j1, if_true]
            case va => exact a1
            · rw [if_pos ⟨hq0, e⟩]
              exact a4
          · have e2 : (l.getD q 0 == (i : Int)) = false := beq_eq_false_iff_ne.2 (by omega)
            refine ⟨S, Ev.step (f := ?fc) (fun k => ?ec) (Ev.step (f := fun _ => some S) (fun k => ?ec2) (Ev.now S)), Nat.le_refl _, h2, ?_⟩
            case ec => conv => lhs; simp only [spec_deChop.l0, Int.lt_irrefl, if_false, if_pos g0, if_pos g1, if_pos g2, rd_getD, e2]
            case ec2 => conv => lhs; simp only [spec_deChop.j1, Bool.false_eq_true, if_false]
            · rw [if_neg (fun h => e h.2)]
              exact h1
        · have g0 : ¬ (q : Int) > 0 := by omega
          refine ⟨S, Ev.step (f := ?fg) (fun k => ?eg) (Ev.step (f := fun _ => some S) (fun k => ?eg2) (Ev.now S)), Nat.le_refl _, h2, ?_⟩
          case eg => conv => lhs; simp only [spec_deChop.l0, Int.lt_irrefl, if_false, if_neg g0]
          case eg2 => conv => lhs; simp only [spec_deChop.j1, Bool.false_eq_true, if_false]
          · rw [if_neg (fun h => hq0 h.1)]
            exact h1)
      (hy.ch l l.length i).length 0 i (h ++ [par]) (fst_ h par s) (by omega) (Nat.le_refl _) hi (fun c hc => (hcin c (List.mem_of_mem_drop hc)).1) (Sy_node par hs) (by rw [List.length_append]; show h.length + 1 + _ ≤ _; omega)
    obtain ⟨S, a1, a2, a3, a4⟩ := hloop
    refine ⟨S, Ev.step (f := ?f) (fun k => ?e) ?v, by rw [List.length_append] at a2; omega, a3, ?_⟩
    case e =>
      conv => lhs; simp only [spec_deChop.f, own_some h (by omega), Option.bind_some, if_pos (show h.length < 17592186044416 by omega), if_pos (show (0 : Int) ≤ (hd : Int) by omega), if_pos (show (hd : Int) < (l.length : Int) by omega), hrq]
    case v =>
      refine Ev.bind (child_ev l i (by omega)) ?_
      simp only [List.length_map]
      exact a1
    · rw [stp_node (hy.D l hd gr) N i par h s hs, hDk, List.foldl_append]
      exact a4
/-- What both sides take for a hydra. -/
def Hyd (l : List Int) : Prop := 1 ≤ l.length ∧ l.length ≤ 40 ∧ rd l 0 = -1 ∧ ∀ m : Nat, 1 ≤ m → m < l.length → 0 ≤ rd l (m : Int) ∧ rd l (m : Int) < (m : Int)
theorem Hyd.fit {l : List Int} (h : Hyd l) (hd gr : Int) (h1 : 1 ≤ hd) (h2 : hd < (l.length : Int)) (h3 : 0 ≤ gr) (h4 : gr ≤ 99) : hy.Fit l hd gr := by
  refine ⟨h.2.1, fun i hi => ?_, by omega, h2, h3, h4⟩
  rw [← rd_getD]
  by_cases e : i = 0
  · subst e
    have := h.2.2.1
    refine ⟨?_, fun h => by omega⟩
    show rd l 0 < _
    omega
  · have := h.2.2.2 i (by omega) hi
    exact ⟨this.2, fun _ => this.1⟩
theorem chopped_ev (l : List Int) (hd gr : Int) (hH : Hyd l) (h1 : 1 ≤ hd) (h2 : hd < (l.length : Int)) (h3 : 0 ≤ gr) (h4 : gr ≤ 99) : ∃ r : List Int × Bool, Ev (fun k => spec_deChopped.f k l hd gr) r ∧ Ev (fun k => impl_chop.f k l hd gr) r ∧ r.1.length ≤ 40 ∧ r = (if (hy.cut l hd gr).2 = true then (hy.cut l hd gr).1 else [], (hy.cut l hd gr).2) := by
  have hfit := hH.fit hd gr h1 h2 h3 h4
  obtain ⟨h40, hps, _, _, _, _⟩ := id hfit
  obtain ⟨hn, rfl⟩ : ∃ hn : Nat, hd = (hn : Int) := ⟨hd.toNat, by omega⟩
  obtain ⟨gn, rfl⟩ : ∃ gn : Nat, gr = (gn : Int) := ⟨gr.toNat, by omega⟩
  have hq0 := (hps hn (by omega)).2 (by omega)
  obtain ⟨q, hq⟩ : ∃ q : Nat, l.getD hn 0 = (q : Int) := ⟨(l.getD hn 0).toNat, by omega⟩
  have hn0 := hH.1
  have hpow : 2 ^ (l.length - 0) ≤ 2 ^ 40 := Nat.pow_le_pow_right (by omega) (by omega)
  have h40' : (2 : Nat) ^ 40 = 1099511627776 := by decide
  have h43 : (2 : Nat) ^ 43 = 8796093022208 := by decide
  obtain ⟨S, a1, _, _, a4⟩ := chop_ev l hn gn q h40 (fun i hi => (hps i hi).1) (fun i h5 hi => (hps i hi).2 h5) (by omega) (by omega) hq l.length 0 (by omega) (by omega) [] ([], true) (-1) (40 + 2 ^ 40) ⟨fun _ => ⟨rfl, by simp⟩, fun h => by cases h⟩ (by simp) (Nat.le_refl _) (by omega)
  have e : stp (hy.D l hn gn) l.length (-1) ([], true) 0 = hy.cut l (hn : Int) (gn : Int) := by
    unfold stp hy.cut
    rw [if_pos rfl, Int.toNat_natCast, Int.toNat_natCast]
  rw [e] at a4
  refine ⟨_, ?_, ?_, ?_, rfl⟩
  · unfold spec_deChopped.f
    refine Ev.bind a1 ?_
    by_cases hb : (hy.cut l (hn : Int) (gn : Int)).2 = true
    · obtain ⟨e1, e2⟩ := a4.1 hb
      rw [if_neg (show ¬ (S.length : Int) > 40 by omega), if_pos hb, hb, e1]
      exact Ev.now _
    · have hb2 : (hy.cut l (hn : Int) (gn : Int)).2 = false := by simpa using hb
      have e2 := a4.2 hb2
      rw [if_pos (show (S.length : Int) > 40 by omega), if_neg hb, hb2]
      exact Ev.now _
  · unfold impl_chop.f
    rw [if_pos hfit]
    exact Ev.now _
  · dsimp only
    by_cases hb : (hy.cut l (hn : Int) (gn : Int)).2 = true
    · obtain ⟨e1, e2⟩ := a4.1 hb
      rw [if_pos hb, ← e1]
      exact e2
    · rw [if_neg hb]
      simp

theorem szHydra (l : List Int) (h : l.length ≤ maxLen) : laws_szHydra.f l 1048576 = some (if l.length > 1048576 then -1 else 1048576 - (l.length : Int)) := by
  unfold laws_szHydra.f
  rw [szIntS l h]
  simp only [Option.bind_some]
  by_cases hb : l.length > 1048576
  · rw [if_pos hb, if_pos (by omega)]
  · rw [if_neg hb, if_neg (by omega)]
theorem toHydra_ev (l : List Int) (h : l.length ≤ 1048576) : Ev (fun k => laws_toHydra.f k l) l := by
  unfold laws_toHydra.f
  exact Ev.bind (toIntS_ev l (by omega)) (Ev.now _)
theorem eqHydra_ev (l : List Int) (h : l.length ≤ 1048576) : Ev (fun k => laws_eqHydra.f k l l) true := by
  unfold laws_eqHydra.f
  exact Ev.bind (eqIntS_ev l (by omega)) (Ev.now _)
theorem rd_mem (l : List Int) (j : Nat) (h : j < l.length) : rd l (j : Int) ∈ l := by
  simp only [rd, Int.toNat_natCast, List.getD_eq_getElem?_getD, List.getElem?_eq_getElem h, Option.getD_some]
  exact List.getElem_mem h
/-! ### what the walk leaves is a hydra's form -/
def Good (h : List Int) : Prop := ∀ m : Nat, m < h.length → (m = 0 → rd h (m : Int) = -1) ∧ (0 < m → 0 ≤ rd h (m : Int) ∧ rd h (m : Int) < (m : Int))
theorem Good.snoc {h : List Int} {par : Int} (hg : Good h) (h0 : h.length = 0 → par = -1) (h1 : 0 < h.length → 0 ≤ par ∧ par < (h.length : Int)) : Good (h ++ [par]) := by
  intro m hm
  rw [List.length_append] at hm
  have hm : m < h.length + 1 := hm
  by_cases e : m < h.length
  · have e2 : rd (h ++ [par]) (m : Int) = rd h (m : Int) := by
      simp only [rd_getD, List.getD_eq_getElem?_getD, List.getElem?_append_left e]
    rw [e2]
    exact hg m e
  · have e1 : m = h.length := by omega
    have e2 : rd (h ++ [par]) (m : Int) = par := by
      rw [rd_getD, List.getD_eq_getElem?_getD, List.getElem?_append_right (by omega), e1, Nat.sub_self]
      rfl
    rw [e2]
    refine ⟨fun h2 => h0 (by omega), fun h2 => ?_⟩
    have := h1 (by omega)
    rw [e1]
    exact this
theorem wk_good (D : Nat → List Nat) : ∀ (N : Nat) (h : List Int) (i : Nat) (par : Int), Good h → (h.length = 0 → par = -1) → (0 < h.length → 0 ≤ par ∧ par < (h.length : Int)) →
    Good (hy.wk D N h i par).1 ∧ h.length ≤ (hy.wk D N h i par).1.length ∧ (0 < N → h.length < (hy.wk D N h i par).1.length)
  | 0, h, i, par, hg, h0, h1 => ⟨hg, Nat.le_refl _, fun h => absurd h (Nat.lt_irrefl _)⟩
  | N + 1, h, i, par, hg, h0, h1 => by
    have hs := hg.snoc h0 h1
    have hl : (h ++ [par]).length = h.length + 1 := by rw [List.length_append]; rfl
    rw [hy.wk]
    by_cases hc : 40 ≤ h.length
    · rw [if_pos hc]
      exact ⟨hs, by show h.length ≤ (h ++ [par]).length; omega, fun _ => by show h.length < (h ++ [par]).length; omega⟩
    · rw [if_neg hc]
      have key : ∀ (l : List Nat) (s : List Int × Bool), Good s.1 → h.length < s.1.length → Good (l.foldl (fun s c => if s.2 = true then hy.wk D N s.1 c (h.length : Int) else s) s).1 ∧ h.length < (l.foldl (fun s c => if s.2 = true then hy.wk D N s.1 c (h.length : Int) else s) s).1.length := by
        intro l
        induction l with
        | nil => intro s h2 h3; exact ⟨h2, h3⟩
        | cons c l ih =>
          intro s h2 h3
          rw [List.foldl_cons]
          by_cases hb : s.2 = true
          · rw [if_pos hb]
            obtain ⟨a1, a2, _⟩ := wk_good D N s.1 c (h.length : Int) h2 (fun e => by omega) (fun _ => ⟨Int.natCast_nonneg _, by omega⟩)
            exact ih _ a1 (by omega)
          · rw [if_neg hb]
            exact ih _ h2 h3
      obtain ⟨a1, a2⟩ := key (D i) (h ++ [par], true) hs (by show h.length < (h ++ [par]).length; omega)
      exact ⟨a1, Nat.le_of_lt a2, fun _ => a2⟩
theorem cut_hyd (l : List Int) (hd gr : Int) (h1 : 1 ≤ l.length) (h40 : (hy.cut l hd gr).1.length ≤ 40) : Hyd (hy.cut l hd gr).1 := by
  obtain ⟨a1, _, a3⟩ := wk_good (hy.D l hd.toNat gr.toNat) l.length [] 0 (-1) (fun m hm => by simp at hm) (fun _ => rfl) (fun h => by simp at h)
  have a3 := a3 (by omega)
  have e : hy.wk (hy.D l hd.toNat gr.toNat) l.length [] 0 (-1) = hy.cut l hd gr := rfl
  rw [e] at a1 a3
  rw [List.length_nil] at a3
  exact ⟨by omega, h40, (a1 0 a3).1 rfl, fun m hm1 hm2 => (a1 m hm2).2 (by omega)⟩
/-! ### the run -/
theorem play_l (cs : List Int) (hcs : ∀ x ∈ cs, 0 ≤ x ∧ x ≤ 99) (h60 : cs.length ≤ 60) : ∀ (d i : Nat) (cur : List Int) (out : List S43), i + d = cs.length → Hyd cur → out.length ≤ i + 1 → (∀ y ∈ out, y.f0.length ≤ 1048576) →
    ∃ r : List S43 × Bool, Ev (fun k => spec_PlayHydra.l0 k out cs (cs.length : Int) (i : Int) cur) r ∧ Ev (fun k => hp.go k (cs.drop i) i cur out) r ∧ r.1.length ≤ 61 ∧ ∀ y ∈ r.1, y.f0.length ≤ 1048576 := by
  intro d
  induction d with
  | zero =>
    intro i cur out hi hH ho hq
    have c : ¬ (i : Int) < (cs.length : Int) := by omega
    refine ⟨(out, true), Ev.step (fun k => ?_) (Ev.now _), ?_, by show out.length ≤ 61; omega, hq⟩
    · simp only [spec_PlayHydra.l0, if_neg c]
    · rw [List.drop_of_length_le (by omega)]
      exact Ev.congr (fun k => rfl) (Ev.now _)
  | succ d ih =>
    intro i cur out hi hH ho hq
    have hil : i < cs.length := by omega
    have g1 : (i : Int) < (cs.length : Int) := by omega
    have g2 : (0 : Int) ≤ (i : Int) := Int.natCast_nonneg _
    obtain ⟨x, hx⟩ : ∃ x, rd cs (i : Int) = x := ⟨_, rfl⟩
    have hxm : x ∈ cs := by rw [← hx]; exact rd_mem cs i hil
    obtain ⟨hx0, hx1⟩ := hcs x hxm
    have hdr : cs.drop i = x :: cs.drop (i + 1) := by rw [drop_rd hil, hx]
    rw [hdr]
    have hgo : ∀ k, hp.go k (x :: cs.drop (i + 1)) i cur out = (impl_heads.f k cur).bind fun H => if H.length = 0 then some (out, true) else (impl_chop.f k cur (rd H (x % (H.length : Int))) ((i : Int) + 1)).bind fun r => if r.2 = true then hp.go k (cs.drop (i + 1)) (i + 1) r.1 (out ++ [⟨r.1⟩]) else some ([], false) := fun k => rfl
    obtain ⟨H, a1, a2, a3, a4⟩ := heads_ev cur (by have := hH.2.1; omega) hH.1
    by_cases hz : H.length = 0
    · refine ⟨(out, true), Ev.step (f := ?fu1) (fun k => ?eu1) ?vu1, Ev.congr hgo (Ev.bind a2 ?_), by show out.length ≤ 61; omega, hq⟩
      case eu1 => conv => lhs; simp only [spec_PlayHydra.l0, if_pos g1, if_pos g2]
      case vu1 =>
        refine Ev.bind a1 ?_
        simp only [if_pos (show (H.length : Int) = 0 by omega)]
        exact Ev.now _
      · simp only [if_pos hz]
        exact Ev.now _
    · have hz1 : ¬ (H.length : Int) = 0 := by omega
      have m1 : 0 ≤ x % (H.length : Int) := Int.emod_nonneg _ hz1
      have m2 : x % (H.length : Int) < (H.length : Int) := Int.emod_lt_of_pos _ (by omega)
      have m3 : Int.tmod x (H.length : Int) = x % (H.length : Int) := Int.tmod_eq_emod_of_nonneg hx0
      obtain ⟨j, hj⟩ : ∃ j : Nat, x % (H.length : Int) = (j : Int) := ⟨(x % (H.length : Int)).toNat, by omega⟩
      rw [hj] at m1 m2 m3
      obtain ⟨hd, hhd⟩ : ∃ hd, rd H (j : Int) = hd := ⟨_, rfl⟩
      obtain ⟨b1, b2⟩ := a4 hd (by rw [← hhd]; exact rd_mem H j (by omega))
      have hw : wrap64 ((i : Int) + 1) = ((i + 1 : Nat) : Int) := wsucc i (by clear m3; omega)
      obtain ⟨r, r1, r2, r3, r4⟩ := chopped_ev cur hd ((i : Int) + 1) hH b1 b2 (by clear hw; omega) (by clear hw; omega)
      have hgn : ((i + 1 : Nat) : Int) = (i : Int) + 1 := rfl
      by_cases hb : r.2 = true
      · have e2 : (hy.cut cur hd ((i : Int) + 1)).2 = true := by rw [r4] at hb; exact hb
        have e1 : r.1 = (hy.cut cur hd ((i : Int) + 1)).1 := by rw [r4, if_pos e2]
        have hN : Hyd r.1 := by rw [e1]; exact cut_hyd cur hd _ hH.1 (by rw [← e1]; exact r3)
        obtain ⟨q, q1, q2, q3, q4⟩ := ih (i + 1) r.1 (out ++ [⟨r.1⟩]) (by clear hw; omega) hN (by clear hw; rw [List.length_append]; show out.length + 1 ≤ _; omega) (fun y hyy => by
          rcases List.mem_append.1 hyy with h5 | h5
          · exact hq y h5
          · rw [List.mem_singleton.1 h5]
            show r.1.length ≤ _
            clear hw
            omega)
        refine ⟨q, Ev.step (f := ?fu2) (fun k => ?eu2) ?vu2, Ev.congr hgo (Ev.bind a2 ?_), q3, q4⟩
        case eu2 => conv => lhs; simp only [spec_PlayHydra.l0, if_pos g1, if_pos g2, hx]
        case vu2 =>
          refine Ev.bind a1 ?_
          simp only [if_neg hz1, m3, if_pos m1, if_pos m2, hhd, hw]
          rw [hgn]
          refine Ev.bind r1 ?_
          simp only [if_pos hb, own_some r.1 (by clear hw; omega), Option.bind_some, if_pos (show out.length < 5864062014805 by clear hw; omega)]
          exact q1
        · simp only [if_neg hz, hj, hhd]
          refine Ev.bind r2 ?_
          simp only [if_pos hb]
          exact q2
      · refine ⟨([], false), Ev.step (f := ?fu3) (fun k => ?eu3) ?vu3, Ev.congr hgo (Ev.bind a2 ?_), by simp, by simp⟩
        case eu3 => conv => lhs; simp only [spec_PlayHydra.l0, if_pos g1, if_pos g2, hx]
        case vu3 =>
          refine Ev.bind a1 ?_
          simp only [if_neg hz1, m3, if_pos m1, if_pos m2, hhd, hw]
          rw [hgn]
          refine Ev.bind r1 ?_
          simp only [if_neg hb]
          exact Ev.now _
        · simp only [if_neg hz, hj, hhd]
          refine Ev.bind r2 ?_
          simp only [if_neg hb]
          exact Ev.now _
def okC (x : Int) : Bool := decide (0 ≤ x ∧ x ≤ 99)
theorem all_l (l : List Int) (hn : l.length ≤ 1048576) : ∀ (d j : Nat), j + d = l.length → Ev (fun k => spec_l1All.l0 k 0 99 l (l.length : Int) (j : Int)) ((l.drop j).all okC) := by
  intro d
  induction d with
  | zero =>
    intro j hj
    have c : ¬ (j : Int) < (l.length : Int) := by omega
    refine Ev.step (fun k => ?_) (Ev.now _)
    rw [List.drop_of_length_le (by omega)]
    simp only [spec_l1All.l0, if_neg c, List.all_nil]
  | succ d ih =>
    intro j hj
    have g1 : (j : Int) < (l.length : Int) := by omega
    have g2 : (0 : Int) ≤ (j : Int) := Int.natCast_nonneg _
    rw [drop_rd (by omega), List.all_cons]
    by_cases h : 0 ≤ rd l (j : Int) ∧ rd l (j : Int) ≤ 99
    · have e : okC (rd l (j : Int)) = true := decide_eq_true h
      rw [e, Bool.true_and]
      refine Ev.step (fun k => ?_) (ih (j + 1) (by omega))
      simp only [spec_l1All.l0, if_pos g1, if_pos g2, in_some', Option.bind_some, decide_eq_true h, if_true]
      rw [wsucc j (by omega)]
    · have e : okC (rd l (j : Int)) = false := decide_eq_false h
      rw [e, Bool.false_and]
      refine Ev.step (fun k => ?_) (Ev.now _)
      simp only [spec_l1All.l0, if_pos g1, if_pos g2, in_some', Option.bind_some, decide_eq_false h, Bool.false_eq_true, if_false]
theorem all_ev (l : List Int) (hn : l.length ≤ 1048576) : Ev (fun k => spec_l1All.f k l 0 99) (l.all okC) := all_l l hn l.length 0 (by omega)
theorem okC_all {l : List Int} : l.all okC = true ↔ ∀ x ∈ l, 0 ≤ x ∧ x ≤ 99 := by
  rw [List.all_eq_true]
  exact ⟨fun h x hx => of_decide_eq_true (h x hx), fun h x hx => decide_eq_true (h x hx)⟩
theorem j0_true (l c : List Int) : Ev (fun k => spec_PlayHydra.j0 k c true l) (([], false) : List S43 × Bool) := Ev.step (fun k => by simp only [spec_PlayHydra.j0, if_true]) (Ev.now _)
theorem both (l c : List Int) (hn : l.length ≤ 1048576) (hc : c.length ≤ 1048576) : ∃ r : List S43 × Bool, Ev (fun k => spec_PlayHydra.f k l c) r ∧ Ev (fun k => hp.f k l c) r ∧ r.1.length ≤ 61 ∧ ∀ y ∈ r.1, y.f0.length ≤ 1048576 := by
  obtain ⟨b, s1, s2, s3⟩ := hydra_ev l hn
  unfold spec_PlayHydra.f hp.f
  cases b with
  | false =>
    refine ⟨([], false), Ev.bind s2 ?_, Ev.bind s1 ?_, by simp, by simp⟩
    · simp only [Bool.false_eq_true, if_false]
      exact j0_true l c
    · simp only [Bool.false_eq_true, false_and, if_false]
      exact Ev.now _
  | true =>
    by_cases h60 : c.length ≤ 60
    · have g60 : ¬ (c.length : Int) > 60 := by omega
      have ha := all_ev c hc
      by_cases hall : ∀ x ∈ c, 0 ≤ x ∧ x ≤ 99
      · rw [okC_all.2 hall] at ha
        have hs : l.length < 17592186044416 := by omega
        obtain ⟨r, r1, r2, r3, r4⟩ := play_l c hall h60 c.length 0 l [⟨l⟩] (by omega) (s3 rfl) (by simp) (fun y hyy => by rw [List.mem_singleton.1 hyy]; exact hn)
        refine ⟨r, Ev.bind s2 ?_, Ev.bind s1 ?_, r3, r4⟩
        · simp only [if_true, if_neg g60]
          refine Ev.bind ha (Ev.step (f := ?fu9) (fun k => ?eu9) ?vu9)
          case eu9 => conv => lhs; simp only [spec_PlayHydra.j0, Bool.not_true, Bool.false_eq_true, if_false, own_some l hs, Option.bind_some]
          case vu9 => exact r1
        · simp only [if_pos (show True ∧ c.length ≤ 60 ∧ ∀ x ∈ c, 0 ≤ x ∧ x ≤ 99 from ⟨trivial, h60, hall⟩), if_pos hs]
          exact r2
      · rw [show c.all okC = false from Bool.eq_false_iff.2 (fun q => hall (okC_all.1 q))] at ha
        refine ⟨([], false), Ev.bind s2 ?_, Ev.bind s1 ?_, by simp, by simp⟩
        · simp only [if_true, if_neg g60]
          exact Ev.bind ha (j0_true l c)
        · simp only [if_neg (show ¬ (True ∧ c.length ≤ 60 ∧ ∀ x ∈ c, 0 ≤ x ∧ x ≤ 99) from fun q => hall q.2.2)]
          exact Ev.now _
    · refine ⟨([], false), Ev.bind s2 ?_, Ev.bind s1 ?_, by simp, by simp⟩
      · simp only [if_true, if_pos (show (c.length : Int) > 60 by omega)]
        exact j0_true l c
      · simp only [if_neg (show ¬ (True ∧ c.length ≤ 60 ∧ ∀ x ∈ c, 0 ≤ x ∧ x ≤ 99) from fun q => h60 q.2.1)]
        exact Ev.now _
/-! ### rows of hydras: the same, marks that are held -/
theorem eqS_l (xs : List S43) (hl : xs.length ≤ 61) (hx : ∀ y ∈ xs, y.f0.length ≤ 1048576) : ∀ (d j : Nat), j + d = xs.length → Ev (fun k => laws_eqHydraS.l0 k xs xs (j : Int)) true := by
  intro d
  induction d with
  | zero =>
    intro j hj
    have c : ¬ (j : Int) < (xs.length : Int) := by omega
    refine Ev.step (fun k => ?_) (Ev.now _)
    simp only [laws_eqHydraS.l0, if_neg c]
  | succ d ih =>
    intro j hj
    have hjl : j < xs.length := by omega
    have g1 : (j : Int) < (xs.length : Int) := by omega
    have g2 : (0 : Int) ≤ (j : Int) := Int.natCast_nonneg _
    have hr : rd_T43 xs (j : Int) ∈ xs := by
      simp only [rd_T43, Int.toNat_natCast, List.getD_eq_getElem?_getD, List.getElem?_eq_getElem hjl, Option.getD_some]
      exact List.getElem_mem hjl
    refine Ev.step (f := ?fu4) (fun k => ?eu4) ?vu4
    case eu4 => conv => lhs; simp only [laws_eqHydraS.l0, if_pos g1, if_pos g2]
    case vu4 =>
      refine Ev.bind (eqHydra_ev _ (hx _ hr)) ?_
      simp only [if_true, wsucc j (by omega)]
      exact ih (j + 1) (by omega)
theorem eqS_ev (xs : List S43) (hl : xs.length ≤ 61) (hx : ∀ y ∈ xs, y.f0.length ≤ 1048576) : Ev (fun k => laws_eqHydraS.f k xs xs) true := by
  unfold laws_eqHydraS.f
  simp only [if_true]
  exact eqS_l xs hl hx xs.length 0 (by omega)
theorem markS_ev : ∀ (xs : List S43) (m : Nat), (∀ y ∈ xs, y.f0.length ≤ 1048576) → m + xs.length * 1048576 ≤ 2 ^ 40 → ∃ (ys : List S43) (q : Nat), Ev (fun k => hp.mark k xs (m : Int)) ((q : Int), ys) ∧ q ≤ m + xs.length * 1048576 ∧
    ∀ pre : List S43, pre.length + xs.length ≤ 2 ^ 40 → Ev (fun k => laws_heldHydraS.l0 k (pre ++ ys) (m : Int) (pre.length : Int)) (q : Int)
  | [], m, hx, hm => by
    refine ⟨[], m, Ev.congr (fun k => rfl) (Ev.now _), by simp, fun pre hpp => Ev.step (fun k => ?_) (Ev.now _)⟩
    have c : ¬ (pre.length : Int) < ((pre ++ ([] : List S43)).length : Int) := by simp
    simp only [laws_heldHydraS.l0, if_neg c]
  | p :: ps, m, hx, hm => by
    have h40 : (2 : Nat) ^ 40 = 1099511627776 := by decide
    have hpp := hx p List.mem_cons_self
    rw [List.length_cons] at hm
    obtain ⟨y0, b1, b2, b3⟩ := markIntS_ev p.f0 m (by omega)
    obtain ⟨ys, q, c1, c2, c3⟩ := markS_ev ps (m + p.f0.length) (fun y hyy => hx y (List.mem_cons_of_mem _ hyy)) (by omega)
    have e : ∀ k, hp.mark k (p :: ps) (m : Int) = (laws_markIntS.f k p.f0 (m : Int)).bind fun x => (hp.mark k ps x.1).bind fun z => some (z.1, ⟨x.2⟩ :: z.2) := fun k => rfl
    refine ⟨⟨y0⟩ :: ys, q, Ev.congr e (Ev.bind b1 (Ev.bind c1 (Ev.now _))), by rw [List.length_cons]; omega, fun pre hpre => ?_⟩
    rw [List.length_cons] at hpre
    have g1 : (pre.length : Int) < ((pre ++ (⟨y0⟩ :: ys : List S43)).length : Int) := by rw [List.length_append, List.length_cons]; omega
    have g2 : (0 : Int) ≤ (pre.length : Int) := Int.natCast_nonneg _
    have g3 : rd_T43 (pre ++ (⟨y0⟩ :: ys : List S43)) (pre.length : Int) = ⟨y0⟩ := by simp [rd_T43, List.getD_eq_getElem?_getD]
    have hn := c3 (pre ++ [⟨y0⟩]) (by rw [List.length_append]; show pre.length + 1 + _ ≤ _; omega)
    rw [List.append_assoc, List.length_append] at hn
    refine Ev.step (f := ?fu5) (fun k => ?eu5) ?vu5
    case eu5 => conv => lhs; simp only [laws_heldHydraS.l0, if_pos g1, if_pos g2, g3]
    case vu5 =>
      refine Ev.bind b3 ?_
      simp only [if_neg (show ¬ ((m + p.f0.length : Nat) : Int) < 0 by omega), wsucc pre.length (by omega)]
      exact hn
theorem proved : laws_FnExactPlayHydra.Pure := by
  intro l c h h2
  refine Ev.rounds ?_
  unfold laws_FnExactPlayHydra.f
  by_cases hc : (1048576 : Int) < (c.length : Int)
  · simp only [if_pos hc]
    exact Ev.now _
  · simp only [if_neg hc, szHydra l h.1, Option.bind_some]
    by_cases hb : l.length > 1048576
    · simp only [if_pos hb]
      exact Ev.now _
    · have hl : l.length ≤ 1048576 := by omega
      have hcl : c.length ≤ 1048576 := by omega
      have c0 : ¬ (1048576 - (l.length : Int)) < 0 := by omega
      simp only [if_neg hb, if_neg c0]
      obtain ⟨⟨g, b⟩, s1, s2, s3, s4⟩ := both l c hl hcl
      dsimp only at s3 s4
      obtain ⟨ly, m1, m2, m3⟩ := markIntS_ev l 1 (by omega)
      obtain ⟨cy, n1, n2, n3⟩ := markIntS_ev c (1 + l.length) (by omega)
      obtain ⟨ys, q, p1, p2, p3⟩ := markS_ev g 1 s4 (by omega)
      have p3 := p3 [] (by simp; omega)
      refine Ev.bind (toHydra_ev l hl) (Ev.bind (toIntS_ev c (by omega)) (Ev.bind s1 (Ev.bind s2 (Ev.bind (eqS_ev g s3 s4) (Ev.bind (eqHydra_ev l hl) (Ev.bind (eqIntS_ev c (by omega)) (Ev.bind (a := (((1 + l.length : Nat) : Int), ly)) (by unfold laws_markHydra.f; exact Ev.bind m1 (Ev.now _)) (Ev.bind n1 (Ev.bind p1 (Ev.bind p3 ?_))))))))))
      have e1 : (0 : Int) ≤ ((1 + l.length + c.length : Nat) : Int) := Int.natCast_nonneg _
      have e2 : (0 : Int) ≤ (q : Int) := Int.natCast_nonneg _
      simp only [decide_eq_true e1, decide_eq_true e2, decide_true, Bool.and_true, Bool.true_and]
      exact Ev.now _

end LFnExactPlayHydra
theorem FnExactPlayHydra : laws_FnExactPlayHydra.Pure := LFnExactPlayHydra.proved
end Go.Proofs.Ytgjpfhedhehmdaa.Pure
