/- For any list of positions and any list of claims, the program says 'shown' just where the reference says so, and leaves the lists as they were. -/
import Derived.Test.YtpiafobcmhfclaaQFnExactCheckClaimsx8
namespace Go.Proofs.Ytpiafobcmhfclaa.Pure
open Go.RowKit Go.Proofs.Ytpiafobcmhfclaa.QFnExactCheckClaims Go.Proofs.YtpiafobcmhfclaaW.PrintWords Go.Proofs.YtpiafobcmhfclaaW.PrintLast
set_option linter.unusedVariables false
set_option linter.unusedSimpArgs false
def laws_FnExactCheckClaims.Pure : Prop := ∀ (l0 : List (S59)) (l1 : List (S87)), (l0.length ≤ maxLen ∧ ∀ y0 ∈ l0, ((y0.f0.length ≤ maxLen ∧ ∀ y1 ∈ y0.f0, (Lit.int .i64 y1).wf = true) ∧ (y0.f1.length ≤ maxLen ∧ ∀ y1 ∈ y0.f1, (Lit.int .i64 y1).wf = true))) → (l1.length ≤ maxLen ∧ ∀ y0 ∈ l1, ((Lit.int .i64 y0.f0).wf = true ∧ ((Lit.int .i64 y0.f1).wf = true ∧ (True ∧ ((Lit.int .i64 y0.f3).wf = true ∧ (Lit.int .i64 y0.f4).wf = true))))) → ∃ k, laws_FnExactCheckClaims.f k l0 l1 = some true
namespace LFnExactCheckClaims
/-! ### small words -/
theorem wsucc (i : Nat) (h : i < 2 ^ 62) : wrap64 ((i : Int) + 1) = ((i + 1 : Nat) : Int) := by unfold wrap64; omega
theorem drop_rd {l : List Int} {i : Nat} (h : i < l.length) : l.drop i = rd l (i : Int) :: l.drop (i + 1) := by
  rw [List.drop_eq_getElem_cons h]
  simp [rd, List.getD_eq_getElem?_getD, List.getElem?_eq_getElem h]

/-! ### a copy of a list of numbers is that list -/
theorem toIntS_l (x : List Int) (hx : x.length ≤ 2 ^ 60) : ∀ (d k i : Nat) (y : List Int), i + d = x.length → y.length = x.length → (∀ j, j < i → y[j]? = x[j]?) → d < k → laws_toIntS.l0 k x y i = some x := by
  intro d
  induction d with
  | zero =>
    intro k i y hi hy hj hk
    obtain ⟨k, rfl⟩ : ∃ m, k = m + 1 := ⟨k - 1, by omega⟩
    simp only [laws_toIntS.l0]
    rw [if_neg (by omega)]
    congr 1
    apply List.ext_getElem? 
    intro j
    by_cases h : j < i
    · exact hj j h
    · rw [List.getElem?_eq_none (by omega), List.getElem?_eq_none (by omega)]
  | succ d ih =>
    intro k i y hi hy hj hk
    obtain ⟨k, rfl⟩ : ∃ m, k = m + 1 := ⟨k - 1, by omega⟩
    have h1 : (i : Int) < (x.length : Int) := by omega
    have h2 : (0 : Int) ≤ (i : Int) := Int.natCast_nonneg _
    have h3 : (i : Int) < (y.length : Int) := by omega
    have h4 : i < x.length := by omega
    simp only [laws_toIntS.l0]
    rw [if_pos h1, if_pos h2, if_pos h3, wsucc i (by omega)]
    refine ih k (i + 1) _ (by omega) (by simpa using hy) ?_ (by omega)
    intro j hlt
    rw [Int.toNat_natCast, List.getElem?_set]
    by_cases e : i = j
    · subst e
      rw [if_pos rfl, if_pos (by omega)]
      simp [rd, List.getD_eq_getElem?_getD, List.getElem?_eq_getElem h4]
    · rw [if_neg e]
      exact hj j (by omega)
theorem toIntS (x : List Int) (hx : x.length ≤ 17592186044416) (k : Nat) (hk : x.length < k) : laws_toIntS.f k x = some x := by
  unfold laws_toIntS.f
  rw [if_pos (Int.natCast_nonneg _), if_pos (by rw [Int.toNat_natCast]; omega), Int.toNat_natCast]
  exact toIntS_l x (by omega) x.length k 0 _ (by omega) (by simp) (fun j h => by omega) hk

/-! ### a list of numbers equals itself -/
theorem eqIntS_l (x : List Int) (hx : x.length ≤ 2 ^ 60) : ∀ (d k i : Nat), i + d = x.length → d < k → laws_eqIntS.l0 k x x i = some true := by
  intro d
  induction d with
  | zero =>
    intro k i hi hk
    obtain ⟨k, rfl⟩ : ∃ m, k = m + 1 := ⟨k - 1, by omega⟩
    simp only [laws_eqIntS.l0]
    rw [if_neg (by omega)]
  | succ d ih =>
    intro k i hi hk
    obtain ⟨k, rfl⟩ : ∃ m, k = m + 1 := ⟨k - 1, by omega⟩
    have h1 : (i : Int) < (x.length : Int) := by omega
    have h2 : (0 : Int) ≤ (i : Int) := Int.natCast_nonneg _
    simp only [laws_eqIntS.l0, if_pos h1, if_pos h2, if_true]
    rw [wsucc i (by omega)]
    exact ih k (i + 1) (by omega) (by omega)
theorem eqIntS (x : List Int) (hx : x.length ≤ 17592186044416) (k : Nat) (hk : x.length < k) : laws_eqIntS.f k x x = some true := by
  unfold laws_eqIntS.f
  rw [if_pos rfl]
  exact eqIntS_l x (by omega) x.length k 0 (by omega) hk

/-! ### lists of numbers: the size asked, a copy, the same -/
theorem szIntS (l : List Int) (h : l.length ≤ maxLen) : laws_szIntS.f l 1048576 = some (if l.length > 1048576 then -1 else 1048576 - (l.length : Int)) := by
  unfold maxLen at h
  have hw : wrap64 (1048576 - (l.length : Int)) = 1048576 - (l.length : Int) := by unfold wrap64; omega
  unfold laws_szIntS.f
  rw [hw]
  clear hw
  by_cases g : l.length > 1048576
  · rw [if_pos (by omega), if_pos g]
  · rw [if_neg (by omega), if_neg g]
theorem toIntS_ev (x : List Int) (hx : x.length ≤ 17592186044416) : Ev (fun k => laws_toIntS.f k x) x := ⟨x.length + 1, fun k hk => toIntS x hx k (by omega)⟩
theorem eqIntS_ev (x : List Int) (hx : x.length ≤ 17592186044416) : Ev (fun k => laws_eqIntS.f k x x) true := ⟨x.length + 1, fun k hk => eqIntS x hx k (by omega)⟩

theorem szIntS' (l : List Int) (left : Nat) (h : l.length ≤ maxLen) (hl : left ≤ 1048576) : laws_szIntS.f l (left : Int) = some (if l.length > left then -1 else ((left - l.length : Nat) : Int)) := by
  unfold maxLen at h
  have hw : wrap64 ((left : Int) - (l.length : Int)) = (left : Int) - (l.length : Int) := by unfold wrap64; omega
  unfold laws_szIntS.f
  rw [hw]
  clear hw
  by_cases g : l.length > left
  · rw [if_pos (by omega), if_pos g]
  · rw [if_neg (by omega), if_neg g]
    congr 1
    omega

/-! ### lists of positions: their size, a copy, the same -/
theorem rdL (xs : List S59) (i : Nat) (h : i < xs.length) : rd_T59 xs (i : Int) = xs[i] := by
  simp [rd_T59, List.getD_eq_getElem?_getD, List.getElem?_eq_getElem h]
theorem rdI (xs : List S57) (i : Nat) (h : i < xs.length) : rd_T57 xs (i : Int) = xs[i] := by
  simp [rd_T57, List.getD_eq_getElem?_getD, List.getElem?_eq_getElem h]
theorem szPosition' (a b : List Int) (left : Nat) (ha : a.length ≤ maxLen) (hb : b.length ≤ maxLen) (hl : left ≤ 1048576) :
    ∃ v : Int, laws_szPosition.f a b (left : Int) = some v ∧ (v < 0 ∨ (a.length ≤ 1048576 ∧ b.length ≤ 1048576 ∧ ∃ n : Nat, v = (n : Int) ∧ n ≤ left)) := by
  unfold laws_szPosition.f
  rw [szIntS' a left ha hl]
  simp only [Option.bind_some]
  by_cases g : a.length > left
  · rw [if_pos g]
    exact ⟨-1, rfl, .inl (by omega)⟩
  · rw [if_neg g, if_neg (by omega), szIntS' b _ hb (by omega)]
    simp only [Option.bind_some]
    by_cases g2 : b.length > left - a.length
    · rw [if_pos g2]
      exact ⟨-1, rfl, .inl (by omega)⟩
    · rw [if_neg g2, if_neg (by omega)]
      exact ⟨_, rfl, .inr ⟨by omega, by omega, _, rfl, by omega⟩⟩
theorem szPositionS_l (l : List S59) (hl : l.length ≤ 1048576) (h : ∀ y ∈ l, y.f0.length ≤ maxLen ∧ y.f1.length ≤ maxLen) : ∀ (d i left : Nat), i + d = l.length → left ≤ 1048576 →
    ∃ v : Int, Ev (fun k => laws_szPositionS.l0 k l (left : Int) (i : Int)) v ∧ (v < 0 ∨ ∀ j : Nat, i ≤ j → ∀ hj : j < l.length, (l[j].f0.length ≤ 1048576 ∧ l[j].f1.length ≤ 1048576)) := by
  intro d
  induction d with
  | zero =>
    intro i left hi hf
    have c : ¬ (i : Int) < (l.length : Int) := by omega
    refine ⟨(left : Int), Ev.step (fun k => ?_) (Ev.now _), .inr fun j h1 h2 => by omega⟩
    simp only [laws_szPositionS.l0, if_neg c]
  | succ d ih =>
    intro i left hi hf
    have g1 : (i : Int) < (l.length : Int) := by omega
    have g2 : (0 : Int) ≤ (i : Int) := Int.natCast_nonneg _
    have hil : i < l.length := by omega
    have hb := h l[i] (List.getElem_mem hil)
    obtain ⟨v, h1, h2⟩ := szPosition' l[i].f0 l[i].f1 left hb.1 hb.2 hf
    rcases h2 with h2 | ⟨a1, a2, n, rfl, hn⟩
    · refine ⟨-1, Ev.step (fun k => ?_) (Ev.now _), .inl (by omega)⟩
      simp only [laws_szPositionS.l0, if_pos g1, if_pos g2, rdL l i hil, h1, Option.bind_some, if_pos h2]
    · obtain ⟨v, e1, e2⟩ := ih (i + 1) n (by omega) (by omega)
      have c : ¬ (n : Int) < 0 := by omega
      refine ⟨v, Ev.step (fun k => ?_) e1, ?_⟩
      · simp only [laws_szPositionS.l0, if_pos g1, if_pos g2, rdL l i hil, h1, Option.bind_some, if_neg c]
        rw [wsucc i (by omega)]
      · rcases e2 with e2 | e2
        · exact .inl e2
        · refine .inr fun j hj hjl => ?_
          by_cases e : j = i
          · subst e; exact ⟨a1, a2⟩
          · exact e2 j (by omega) hjl
theorem szPositionS_ev (l : List S59) (h : l.length ≤ maxLen ∧ ∀ y ∈ l, y.f0.length ≤ maxLen ∧ y.f1.length ≤ maxLen) :
    ∃ v : Int, Ev (fun k => laws_szPositionS.f k l 1048576) v ∧ (v < 0 ∨ (l.length ≤ 1048576 ∧ ∀ y ∈ l, y.f0.length ≤ 1048576 ∧ y.f1.length ≤ 1048576)) := by
  have hm : l.length ≤ 9223372036854775807 := h.1
  have hw : wrap64 (1048576 - (l.length : Int)) = 1048576 - (l.length : Int) := by unfold wrap64; omega
  unfold laws_szPositionS.f
  simp only [hw]
  clear hw
  by_cases g : l.length > 1048576
  · refine ⟨-1, ?_, .inl (by omega)⟩
    simp only [show (1048576 - (l.length : Int)) < 0 from by omega, if_true]
    exact Ev.now _
  · obtain ⟨v, e1, e2⟩ := szPositionS_l l (by omega) h.2 l.length 0 (1048576 - l.length) (by omega) (by omega)
    have e : ((1048576 - l.length : Nat) : Int) = 1048576 - (l.length : Int) := by omega
    rw [e] at e1
    refine ⟨v, ?_, ?_⟩
    · simp only [show ¬ (1048576 - (l.length : Int)) < 0 from by omega, if_false]
      exact e1
    · rcases e2 with e2 | e2
      · exact .inl e2
      · refine .inr ⟨by omega, fun y hy => ?_⟩
        obtain ⟨j, hj, rfl⟩ := List.mem_iff_getElem.1 hy
        exact e2 j (by omega) hj
/-- A position of the program for a position of the law. -/
def conv (p : S59) : S57 := ⟨p.f0, p.f1⟩
theorem toPosition_ev (a b : List Int) (ha : a.length ≤ 1048576) (hb : b.length ≤ 1048576) : Ev (fun k => laws_toPosition.f k a b) (a, b) := by
  unfold laws_toPosition.f
  exact Ev.bind (toIntS_ev a (by omega)) (Ev.bind (toIntS_ev b (by omega)) (Ev.now _))
theorem toPositionS_l (l : List S59) (hl : l.length ≤ 1048576) (h : ∀ y ∈ l, y.f0.length ≤ 1048576 ∧ y.f1.length ≤ 1048576) : ∀ (d i : Nat) (ys : List S57), i + d = l.length → ys.length = l.length → (∀ j, j < i → ys[j]? = (l.map conv)[j]?) →
    Ev (fun k => laws_toPositionS.l0 k l ys (i : Int)) (l.map conv) := by
  intro d
  induction d with
  | zero =>
    intro i ys hi hy hj
    have c : ¬ (i : Int) < (l.length : Int) := by omega
    have : ys = l.map conv := by
      apply List.ext_getElem?
      intro j
      by_cases g : j < i
      · exact hj j g
      · rw [List.getElem?_eq_none (by omega), List.getElem?_eq_none (by rw [List.length_map]; omega)]
    subst this
    refine Ev.step (fun k => ?_) (Ev.now _)
    simp only [laws_toPositionS.l0, if_neg c]
  | succ d ih =>
    intro i ys hi hy hj
    have g1 : (i : Int) < (l.length : Int) := by omega
    have g1' : (i : Int) < (ys.length : Int) := by omega
    have g2 : (0 : Int) ≤ (i : Int) := Int.natCast_nonneg _
    have hil : i < l.length := by omega
    have hb := h l[i] (List.getElem_mem hil)
    refine Ev.step (f := ?f) (fun k => ?e) ?v
    case e => conv => lhs; simp only [laws_toPositionS.l0, if_pos g1, if_pos g2, rdL l i hil]
    case v =>
      refine Ev.bind (toPosition_ev _ _ hb.1 hb.2) ?_
      simp only [if_pos g1']
      rw [wsucc i (by omega), Int.toNat_natCast]
      refine ih (i + 1) _ (by omega) (by rw [List.length_set]; exact hy) (fun j hjl => ?_)
      rw [List.getElem?_set]
      by_cases e : i = j
      · subst e
        rw [if_pos rfl, if_pos (by omega), List.getElem?_map, List.getElem?_eq_getElem hil]
        rfl
      · rw [if_neg e]
        exact hj j (by omega)
theorem toPositionS_ev (l : List S59) (hl : l.length ≤ 1048576) (h : ∀ y ∈ l, y.f0.length ≤ 1048576 ∧ y.f1.length ≤ 1048576) : Ev (fun k => laws_toPositionS.f k l) (l.map conv) := by
  unfold laws_toPositionS.f
  simp only [if_pos (Int.natCast_nonneg l.length), Int.toNat_natCast, show l.length ≤ 5864062014805 from by omega, if_true]
  exact toPositionS_l l hl h l.length 0 _ (by omega) (by simp) (fun j hj => by omega)
/-- What the copies are like. -/
def Small (l : List S57) : Prop := l.length ≤ 1048576 ∧ ∀ y ∈ l, y.f0.length ≤ 1048576 ∧ y.f1.length ≤ 1048576
theorem small_conv (l : List S59) (hl : l.length ≤ 1048576) (h : ∀ y ∈ l, y.f0.length ≤ 1048576 ∧ y.f1.length ≤ 1048576) : Small (l.map conv) := by
  refine ⟨by rw [List.length_map]; exact hl, fun y hy => ?_⟩
  obtain ⟨x, hx, rfl⟩ := List.mem_map.1 hy
  exact h x hx
theorem eqPosition_ev (a b : List Int) (ha : a.length ≤ 1048576) (hb : b.length ≤ 1048576) : Ev (fun k => laws_eqPosition.f k a b a b) true := by
  unfold laws_eqPosition.f
  refine Ev.bind (eqIntS_ev a (by omega)) ?_
  simp only [if_true]
  exact Ev.bind (eqIntS_ev b (by omega)) (Ev.now _)
theorem eqPositionS_l (l : List S57) (h : Small l) : ∀ (d i : Nat), i + d = l.length → Ev (fun k => laws_eqPositionS.l0 k l l (i : Int)) true := by
  have hl := h.1
  intro d
  induction d with
  | zero =>
    intro i hi
    have c : ¬ (i : Int) < (l.length : Int) := by omega
    refine Ev.step (fun k => ?_) (Ev.now _)
    simp only [laws_eqPositionS.l0, if_neg c]
  | succ d ih =>
    intro i hi
    have g1 : (i : Int) < (l.length : Int) := by omega
    have g2 : (0 : Int) ≤ (i : Int) := Int.natCast_nonneg _
    have hil : i < l.length := by omega
    have hb := h.2 l[i] (List.getElem_mem hil)
    refine Ev.step (f := ?f) (fun k => ?e) ?v
    case e => conv => lhs; simp only [laws_eqPositionS.l0, if_pos g1, if_pos g2, rdI l i hil]
    case v =>
      refine Ev.bind (eqPosition_ev _ _ hb.1 hb.2) ?_
      simp only [if_true]
      rw [wsucc i (by omega)]
      exact ih (i + 1) (by omega)
theorem eqPositionS_ev (l : List S57) (h : Small l) : Ev (fun k => laws_eqPositionS.f k l l) true := by
  unfold laws_eqPositionS.f
  simp only [if_true]
  exact eqPositionS_l l h l.length 0 (by omega)

theorem szPosition_le (a b : List Int) (left : Nat) (ha : a.length ≤ maxLen) (hb : b.length ≤ maxLen) (hl : left ≤ 1048576) : ∃ v : Int, laws_szPosition.f a b (left : Int) = some v ∧ (v < 0 ∨ ∃ n : Nat, v = (n : Int) ∧ n ≤ left) := by
  obtain ⟨v, h1, h2⟩ := szPosition' a b left ha hb hl
  exact ⟨v, h1, h2.imp id (fun h => h.2.2)⟩
theorem szPositionS_lb (l : List S59) (hl : l.length ≤ 1048576) (h : ∀ y ∈ l, y.f0.length ≤ maxLen ∧ y.f1.length ≤ maxLen) : ∀ (d i left : Nat), i + d = l.length → left ≤ 1048576 →
    ∃ v : Int, Ev (fun k => laws_szPositionS.l0 k l (left : Int) (i : Int)) v ∧ v ≤ 1048576 ∧ (v < 0 ∨ ∀ j : Nat, i ≤ j → ∀ hj : j < l.length, (l[j].f0.length ≤ 1048576 ∧ l[j].f1.length ≤ 1048576)) := by
  intro d
  induction d with
  | zero =>
    intro i left hi hf
    have c : ¬ (i : Int) < (l.length : Int) := by omega
    refine ⟨(left : Int), Ev.step (fun k => ?_) (Ev.now _), by omega, .inr fun j h1 h2 => by omega⟩
    simp only [laws_szPositionS.l0, if_neg c]
  | succ d ih =>
    intro i left hi hf
    have g1 : (i : Int) < (l.length : Int) := by omega
    have g2 : (0 : Int) ≤ (i : Int) := Int.natCast_nonneg _
    have hil : i < l.length := by omega
    have hb := h l[i] (List.getElem_mem hil)
    obtain ⟨v, h1, h2⟩ := szPosition' l[i].f0 l[i].f1 left hb.1 hb.2 hf
    rcases h2 with h2 | ⟨a1, a2, n, rfl, hn⟩
    · refine ⟨-1, Ev.step (fun k => ?_) (Ev.now _), by omega, .inl (by omega)⟩
      simp only [laws_szPositionS.l0, if_pos g1, if_pos g2, rdL l i hil, h1, Option.bind_some, if_pos h2]
    · obtain ⟨v, e1, e3, e2⟩ := ih (i + 1) n (by omega) (by omega)
      have c : ¬ (n : Int) < 0 := by omega
      refine ⟨v, Ev.step (fun k => ?_) e1, e3, ?_⟩
      · simp only [laws_szPositionS.l0, if_pos g1, if_pos g2, rdL l i hil, h1, Option.bind_some, if_neg c]
        rw [wsucc i (by omega)]
      · rcases e2 with e2 | e2
        · exact .inl e2
        · refine .inr fun j hj hjl => ?_
          by_cases e : j = i
          · subst e; exact ⟨a1, a2⟩
          · exact e2 j (by omega) hjl
theorem szPositionS_evb (l : List S59) (h : l.length ≤ maxLen ∧ ∀ y ∈ l, y.f0.length ≤ maxLen ∧ y.f1.length ≤ maxLen) :
    ∃ v : Int, Ev (fun k => laws_szPositionS.f k l 1048576) v ∧ v ≤ 1048576 ∧ (v < 0 ∨ (l.length ≤ 1048576 ∧ ∀ y ∈ l, y.f0.length ≤ 1048576 ∧ y.f1.length ≤ 1048576)) := by
  have hm : l.length ≤ 9223372036854775807 := h.1
  have hw : wrap64 (1048576 - (l.length : Int)) = 1048576 - (l.length : Int) := by unfold wrap64; omega
  unfold laws_szPositionS.f
  simp only [hw]
  clear hw
  by_cases g : l.length > 1048576
  · refine ⟨-1, ?_, by omega, .inl (by omega)⟩
    simp only [show (1048576 - (l.length : Int)) < 0 from by omega, if_true]
    exact Ev.now _
  · obtain ⟨v, e1, e3, e2⟩ := szPositionS_lb l (by omega) h.2 l.length 0 (1048576 - l.length) (by omega) (by omega)
    have e : ((1048576 - l.length : Nat) : Int) = 1048576 - (l.length : Int) := by omega
    rw [e] at e1
    refine ⟨v, ?_, e3, ?_⟩
    · simp only [show ¬ (1048576 - (l.length : Int)) < 0 from by omega, if_false]
      exact e1
    · rcases e2 with e2 | e2
      · exact .inl e2
      · refine .inr ⟨by omega, fun y hy => ?_⟩
        obtain ⟨j, hj, rfl⟩ := List.mem_iff_getElem.1 hy
        exact e2 j (by omega) hj

/-! ### what is a game, on both sides -/
theorem in_eq (e a b : Int) : spec_l1In.f e a b = impl_in.f e a b := rfl
theorem in_some (e a b : Int) : impl_in.f e a b = some (decide (a ≤ e ∧ e ≤ b)) := by
  unfold impl_in.f
  by_cases h : e ≥ a
  · rw [if_pos h]; congr 1; simp; omega
  · rw [if_neg h]; congr 1; simp; omega
theorem rising_same (x z : List Int) (i n : Int) : ∀ (k : Nat) (j : Int), spec_l1Rising.l0 k x 0 (wrap64 (i - 1)) z n j = impl_risingBelow.l0 k x i z n j
  | 0, _ => rfl
  | k + 1, j => by simp only [spec_l1Rising.l0, impl_risingBelow.l0, in_eq, rising_same x z i n k]
theorem rising_l (x : List Int) (n : Int) (hx : x.length ≤ 1048576) : ∀ (d j : Nat), j + d = x.length → ∃ b : Bool, Ev (fun k => impl_risingBelow.l0 k x n x (x.length : Int) (j : Int)) b := by
  intro d
  induction d with
  | zero =>
    intro j hj
    have c : ¬ (j : Int) < (x.length : Int) := by omega
    refine ⟨true, Ev.step (fun k => ?_) (Ev.now _)⟩
    simp only [impl_risingBelow.l0, if_neg c]
  | succ d ih =>
    intro j hj
    have g1 : (j : Int) < (x.length : Int) := by omega
    have g2 : (0 : Int) ≤ (j : Int) := Int.natCast_nonneg _
    obtain ⟨b, hb⟩ := ih (j + 1) (by omega)
    have hs : wrap64 ((j : Int) + 1) = ((j + 1 : Nat) : Int) := wsucc j (by omega)
    by_cases h : 0 ≤ rd x (j : Int) ∧ rd x (j : Int) ≤ wrap64 (n - 1)
    · by_cases h0 : (j : Int) > 0
      · have hp : wrap64 ((j : Int) - 1) = ((j - 1 : Nat) : Int) := by clear hs h; unfold wrap64; omega
        have g3 : (0 : Int) ≤ ((j - 1 : Nat) : Int) := Int.natCast_nonneg _
        have g4 : ((j - 1 : Nat) : Int) < (x.length : Int) := by clear hs h hp; omega
        by_cases h5 : rd x ((j - 1 : Nat) : Int) ≥ rd x (j : Int)
        · refine ⟨false, Ev.step (fun k => ?_) (Ev.now _)⟩
          simp only [impl_risingBelow.l0, if_pos g1, if_pos g2, in_some, h, and_self, decide_true, Option.bind_some, if_true, if_pos h0, hp, if_pos g3, if_pos g4, if_pos h5]
        · refine ⟨b, Ev.step (fun k => ?_) hb⟩
          simp only [impl_risingBelow.l0, if_pos g1, if_pos g2, in_some, h, and_self, decide_true, Option.bind_some, if_true, if_pos h0, hp, if_pos g3, if_pos g4, if_neg h5, hs]
      · refine ⟨b, Ev.step (fun k => ?_) hb⟩
        simp only [impl_risingBelow.l0, if_pos g1, if_pos g2, in_some, h, and_self, decide_true, Option.bind_some, if_true, if_neg h0, hs]
    · refine ⟨false, Ev.step (fun k => ?_) (Ev.now _)⟩
      simp only [impl_risingBelow.l0, if_pos g1, if_pos g2, in_some, h, decide_false, Option.bind_some, Bool.false_eq_true, if_false]
theorem rising_ev (x : List Int) (n : Int) (hx : x.length ≤ 1048576) : ∃ b : Bool, Ev (fun k => impl_risingBelow.f k x n) b := rising_l x n hx x.length 0 (by omega)
theorem game_same (x z : List S57) (n : Int) : ∀ (k : Nat) (j : Int), spec_gaGood.l0 k x z n j = impl_IsGame.l0 k x z n j
  | 0, _ => rfl
  | k + 1, j => by
    simp only [spec_gaGood.l0, impl_IsGame.l0, in_eq, spec_l1Rising.f, impl_risingBelow.f, rising_same, game_same x z n k]
theorem game_l (l : List S57) (h : Small l) : ∀ (d i : Nat), i + d = l.length → ∃ b : Bool, Ev (fun k => impl_IsGame.l0 k l l (l.length : Int) (i : Int)) b := by
  have hl := h.1
  intro d
  induction d with
  | zero =>
    intro i hi
    have c : ¬ (i : Int) < (l.length : Int) := by omega
    refine ⟨decide (1 ≤ (l.length : Int) ∧ (l.length : Int) ≤ 40), Ev.step (fun k => ?_) (Ev.now _)⟩
    simp only [impl_IsGame.l0, if_neg c, in_some, Option.bind_some]
  | succ d ih =>
    intro i hi
    have g1 : (i : Int) < (l.length : Int) := by omega
    have g2 : (0 : Int) ≤ (i : Int) := Int.natCast_nonneg _
    have hil : i < l.length := by omega
    have hb := h.2 l[i] (List.getElem_mem hil)
    obtain ⟨b, e⟩ := ih (i + 1) (by omega)
    obtain ⟨b1, e1⟩ := rising_ev l[i].f0 (i : Int) hb.1
    obtain ⟨b2, e2⟩ := rising_ev l[i].f1 (i : Int) hb.2
    have hs : wrap64 ((i : Int) + 1) = ((i + 1 : Nat) : Int) := wsucc i (by omega)
    have key : ∃ c : Bool, Ev (fun k => (impl_risingBelow.f k l[i].f0 (i : Int)).bind fun t => if t = true then ((impl_risingBelow.f k l[i].f1 (i : Int)).bind fun u => if u = true then impl_IsGame.l0 k l l (l.length : Int) ((i + 1 : Nat) : Int) else some false) else some false) c := by
      cases b1 with
      | false => exact ⟨false, Ev.bind e1 (Ev.now _)⟩
      | true =>
        cases b2 with
        | false => exact ⟨false, Ev.bind e1 (Ev.bind e2 (Ev.now _))⟩
        | true => exact ⟨b, Ev.bind e1 (Ev.bind e2 e)⟩
    obtain ⟨c, hc⟩ := key
    refine ⟨c, Ev.step (fun k => ?_) hc⟩
    simp only [impl_IsGame.l0, if_pos g1, if_pos g2, rdI l i hil, hs]
theorem game_ev (l : List S57) (h : Small l) : ∃ b : Bool, Ev (fun k => impl_IsGame.f k l) b ∧ Ev (fun k => spec_gaGood.f k l) b := by
  obtain ⟨b, hb⟩ := game_l l h l.length 0 (by omega)
  exact ⟨b, hb, Ev.congr (fun k => game_same l l _ k _) hb⟩

/-! ### what a game's positions are like -/
theorem rd_nat (x : List Int) (i : Nat) (h : i < x.length) : rd x (i : Int) = x[i] := by
  simp [rd, List.getD_eq_getElem?_getD, List.getElem?_eq_getElem h]
theorem rising_t (x : List Int) (n : Int) (hx : x.length ≤ 1048576) (hn : 0 ≤ n ∧ n ≤ 1048576) : ∀ (d j : Nat), j + d = x.length → ∃ b : Bool, Ev (fun k => impl_risingBelow.l0 k x n x (x.length : Int) (j : Int)) b ∧ (b = true → ∀ i : Nat, j ≤ i → (h : i < x.length) → 0 ≤ x[i] ∧ x[i] < n ∧ (0 < i → rd x ((i - 1 : Nat) : Int) < x[i])) := by
  intro d
  induction d with
  | zero =>
    intro j hj
    have c : ¬ (j : Int) < (x.length : Int) := by omega
    refine ⟨true, Ev.step (fun k => ?_) (Ev.now _), fun _ i h1 h2 => by omega⟩
    simp only [impl_risingBelow.l0, if_neg c]
  | succ d ih =>
    intro j hj
    have g1 : (j : Int) < (x.length : Int) := by omega
    have g2 : (0 : Int) ≤ (j : Int) := Int.natCast_nonneg _
    have hjl : j < x.length := by omega
    obtain ⟨b, hb, hq⟩ := ih (j + 1) (by omega)
    have hs : wrap64 ((j : Int) + 1) = ((j + 1 : Nat) : Int) := wsucc j (by omega)
    have hw : wrap64 (n - 1) = n - 1 := by clear hs; unfold wrap64; omega
    by_cases h : 0 ≤ rd x (j : Int) ∧ rd x (j : Int) ≤ wrap64 (n - 1)
    · have h' := h
      rw [hw, rd_nat x j hjl] at h'
      clear hw
      by_cases h0 : (j : Int) > 0
      · have hp : wrap64 ((j : Int) - 1) = ((j - 1 : Nat) : Int) := by clear hs h; unfold wrap64; omega
        have g3 : (0 : Int) ≤ ((j - 1 : Nat) : Int) := Int.natCast_nonneg _
        have g4 : ((j - 1 : Nat) : Int) < (x.length : Int) := by clear hs h hp; omega
        by_cases h5 : rd x ((j - 1 : Nat) : Int) ≥ rd x (j : Int)
        · refine ⟨false, Ev.step (fun k => ?_) (Ev.now _), fun e => by cases e⟩
          simp only [impl_risingBelow.l0, if_pos g1, if_pos g2, in_some, h, and_self, decide_true, Option.bind_some, if_true, if_pos h0, hp, if_pos g3, if_pos g4, if_pos h5]
        · refine ⟨b, Ev.step (fun k => ?_) hb, fun e i h1 h2 => ?_⟩
          · simp only [impl_risingBelow.l0, if_pos g1, if_pos g2, in_some, h, and_self, decide_true, Option.bind_some, if_true, if_pos h0, hp, if_pos g3, if_pos g4, if_neg h5, hs]
          · by_cases e2 : i = j
            · subst e2
              rw [rd_nat x i hjl] at h5
              clear hs h hp
              exact ⟨h'.1, by omega, fun _ => by omega⟩
            · exact hq e i (by omega) h2
      · refine ⟨b, Ev.step (fun k => ?_) hb, fun e i h1 h2 => ?_⟩
        · simp only [impl_risingBelow.l0, if_pos g1, if_pos g2, in_some, h, and_self, decide_true, Option.bind_some, if_true, if_neg h0, hs]
        · by_cases e2 : i = j
          · subst e2
            clear hs h
            exact ⟨h'.1, by omega, fun _ => by omega⟩
          · exact hq e i (by omega) h2
    · refine ⟨false, Ev.step (fun k => ?_) (Ev.now _), fun e => by cases e⟩
      simp only [impl_risingBelow.l0, if_pos g1, if_pos g2, in_some, h, decide_false, Option.bind_some, Bool.false_eq_true, if_false]
def Rise (x : List Int) (n : Int) : Prop := (∀ y ∈ x, 0 ≤ y ∧ y < n) ∧ x.Pairwise (· < ·)
theorem rise_of {x : List Int} {n : Int} (h : ∀ i : Nat, 0 ≤ i → (h : i < x.length) → 0 ≤ x[i] ∧ x[i] < n ∧ (0 < i → rd x ((i - 1 : Nat) : Int) < x[i])) : Rise x n := by
  refine ⟨fun y hy => ?_, ?_⟩
  · obtain ⟨i, hi, rfl⟩ := List.mem_iff_getElem.1 hy
    exact ⟨(h i (by omega) hi).1, (h i (by omega) hi).2.1⟩
  · rw [List.pairwise_iff_getElem]
    intro i j hi hj hij
    induction j with
    | zero => omega
    | succ j ih =>
      have h1 := (h (j + 1) (by omega) hj).2.2 (by omega)
      rw [show j + 1 - 1 = j from rfl, rd_nat x j (by omega)] at h1
      by_cases e : i = j
      · subst e; exact h1
      · have := ih (by omega) (by omega)
        omega
theorem rising_ev2 (x : List Int) (n : Int) (hx : x.length ≤ 1048576) (hn : 0 ≤ n ∧ n ≤ 1048576) : ∃ b : Bool, Ev (fun k => impl_risingBelow.f k x n) b ∧ (b = true → Rise x n) := by
  obtain ⟨b, h1, h2⟩ := rising_t x n hx hn x.length 0 (by omega)
  exact ⟨b, h1, fun e => rise_of (h2 e)⟩
/-- A game: from 1 to 40 positions, whose options rise and come before them. -/
def Gm (l : List S57) : Prop := 1 ≤ l.length ∧ l.length ≤ 40 ∧ ∀ i : Nat, (h : i < l.length) → Rise l[i].f0 (i : Int) ∧ Rise l[i].f1 (i : Int)
theorem game_t (l : List S57) (h : Small l) : ∀ (d i : Nat), i + d = l.length → ∃ b : Bool, Ev (fun k => impl_IsGame.l0 k l l (l.length : Int) (i : Int)) b ∧ (b = true → 1 ≤ l.length ∧ l.length ≤ 40 ∧ ∀ j : Nat, i ≤ j → (hj : j < l.length) → Rise l[j].f0 (j : Int) ∧ Rise l[j].f1 (j : Int)) := by
  have hl := h.1
  intro d
  induction d with
  | zero =>
    intro i hi
    have c : ¬ (i : Int) < (l.length : Int) := by omega
    refine ⟨decide (1 ≤ (l.length : Int) ∧ (l.length : Int) ≤ 40), Ev.step (fun k => ?_) (Ev.now _), fun e => ?_⟩
    · simp only [impl_IsGame.l0, if_neg c, in_some, Option.bind_some]
    · have := of_decide_eq_true e
      exact ⟨by omega, by omega, fun j h1 h2 => by omega⟩
  | succ d ih =>
    intro i hi
    have g1 : (i : Int) < (l.length : Int) := by omega
    have g2 : (0 : Int) ≤ (i : Int) := Int.natCast_nonneg _
    have hil : i < l.length := by omega
    have hb := h.2 l[i] (List.getElem_mem hil)
    obtain ⟨b, e, q⟩ := ih (i + 1) (by omega)
    obtain ⟨b1, e1, q1⟩ := rising_ev2 l[i].f0 (i : Int) hb.1 (by omega)
    obtain ⟨b2, e2, q2⟩ := rising_ev2 l[i].f1 (i : Int) hb.2 (by omega)
    have hs : wrap64 ((i : Int) + 1) = ((i + 1 : Nat) : Int) := wsucc i (by omega)
    have key : ∃ c : Bool, Ev (fun k => (impl_risingBelow.f k l[i].f0 (i : Int)).bind fun t => if t = true then ((impl_risingBelow.f k l[i].f1 (i : Int)).bind fun u => if u = true then impl_IsGame.l0 k l l (l.length : Int) ((i + 1 : Nat) : Int) else some false) else some false) c ∧ (c = true → 1 ≤ l.length ∧ l.length ≤ 40 ∧ ∀ j : Nat, i ≤ j → (hj : j < l.length) → Rise l[j].f0 (j : Int) ∧ Rise l[j].f1 (j : Int)) := by
      clear hs
      cases b1 with
      | false => exact ⟨false, Ev.bind e1 (Ev.now _), fun e => by cases e⟩
      | true =>
        cases b2 with
        | false => exact ⟨false, Ev.bind e1 (Ev.bind e2 (Ev.now _)), fun e => by cases e⟩
        | true =>
          refine ⟨b, Ev.bind e1 (Ev.bind e2 e), fun eb => ?_⟩
          obtain ⟨r1, r2, r3⟩ := q eb
          refine ⟨r1, r2, fun j hj hjl => ?_⟩
          by_cases e3 : j = i
          · subst e3
            exact ⟨q1 rfl, q2 rfl⟩
          · exact r3 j (by omega) hjl
    obtain ⟨c, hc, hq⟩ := key
    refine ⟨c, Ev.step (fun k => ?_) hc, hq⟩
    simp only [impl_IsGame.l0, if_pos g1, if_pos g2, rdI l i hil, hs]
theorem game_ev2 (l : List S57) (h : Small l) : ∃ b : Bool, Ev (fun k => impl_IsGame.f k l) b ∧ Ev (fun k => spec_gaGood.f k l) b ∧ (b = true → Gm l) := by
  obtain ⟨b, hb, hq⟩ := game_t l h l.length 0 (by omega)
  refine ⟨b, hb, Ev.congr (fun k => game_same l l _ k _) hb, fun e => ?_⟩
  obtain ⟨h1, h2, h3⟩ := hq e
  exact ⟨h1, h2, fun i hi => h3 i (by omega) hi⟩

/-! ### lists of claims: their size, a copy, the same -/
theorem rdCL (xs : List S87) (i : Nat) (h : i < xs.length) : rd_T87 xs (i : Int) = xs[i] := by
  simp [rd_T87, List.getD_eq_getElem?_getD, List.getElem?_eq_getElem h]
theorem rdCI (xs : List S84) (i : Nat) (h : i < xs.length) : rd_T84 xs (i : Int) = xs[i] := by
  simp [rd_T84, List.getD_eq_getElem?_getD, List.getElem?_eq_getElem h]
def convC (p : S87) : S84 := ⟨p.f0, p.f1, p.f2, p.f3, p.f4⟩
theorem szClaimS (l : List S87) (v : Int) (h : l.length ≤ maxLen) (h0 : 0 ≤ v) (h1 : v ≤ 1048576) : laws_szClaimS.f l v = some (if v - (l.length : Int) < 0 then -1 else v - (l.length : Int)) := by
  unfold maxLen at h
  have hw : wrap64 (v - (l.length : Int)) = v - (l.length : Int) := by unfold wrap64; omega
  unfold laws_szClaimS.f
  rw [hw]
  clear hw
  by_cases g : v - (l.length : Int) < 0
  · rw [if_pos g, if_pos g]
  · rw [if_neg g, if_neg g]
theorem toClaimS_l (l : List S87) (hl : l.length ≤ 1048576) : ∀ (d i : Nat) (ys : List S84), i + d = l.length → ys.length = l.length → (∀ j, j < i → ys[j]? = (l.map convC)[j]?) →
    Ev (fun k => laws_toClaimS.l0 k l ys (i : Int)) (l.map convC) := by
  intro d
  induction d with
  | zero =>
    intro i ys hi hy hj
    have c : ¬ (i : Int) < (l.length : Int) := by omega
    have : ys = l.map convC := by
      apply List.ext_getElem?
      intro j
      by_cases g : j < i
      · exact hj j g
      · rw [List.getElem?_eq_none (by omega), List.getElem?_eq_none (by rw [List.length_map]; omega)]
    subst this
    refine Ev.step (fun k => ?_) (Ev.now _)
    simp only [laws_toClaimS.l0, if_neg c]
  | succ d ih =>
    intro i ys hi hy hj
    have g1 : (i : Int) < (l.length : Int) := by omega
    have g1' : (i : Int) < (ys.length : Int) := by omega
    have g2 : (0 : Int) ≤ (i : Int) := Int.natCast_nonneg _
    have hil : i < l.length := by omega
    have hw : wrap64 ((i : Int) + 1) = ((i + 1 : Nat) : Int) := wsucc i (by omega)
    refine Ev.step (fun k => ?_) (ih (i + 1) (ys.set i (convC l[i])) (by clear hw; omega) (by rw [List.length_set]; exact hy) (fun j hjl => ?_))
    · simp only [laws_toClaimS.l0, if_pos g1, if_pos g2, rdCL l i hil, laws_toClaim.f, Option.bind_some, if_pos g1', Int.toNat_natCast, hw]
      rfl
    · rw [List.getElem?_set]
      by_cases e : i = j
      · subst e
        rw [if_pos rfl, if_pos (by clear hw; omega), List.getElem?_map, List.getElem?_eq_getElem hil]
        rfl
      · rw [if_neg e]
        exact hj j (by clear hw; omega)
theorem toClaimS_ev (l : List S87) (hl : l.length ≤ 1048576) : Ev (fun k => laws_toClaimS.f k l) (l.map convC) := by
  unfold laws_toClaimS.f
  simp only [if_pos (Int.natCast_nonneg l.length), Int.toNat_natCast, show l.length ≤ 7036874417766 from by omega, if_true]
  exact toClaimS_l l hl l.length 0 _ (by omega) (by simp) (fun j hj => by omega)
theorem eqClaimS_l (l : List S84) (hl : l.length ≤ 1048576) : ∀ (d i : Nat), i + d = l.length → Ev (fun k => laws_eqClaimS.l0 k l l (i : Int)) true := by
  intro d
  induction d with
  | zero =>
    intro i hi
    have c : ¬ (i : Int) < (l.length : Int) := by omega
    refine Ev.step (fun k => ?_) (Ev.now _)
    simp only [laws_eqClaimS.l0, if_neg c]
  | succ d ih =>
    intro i hi
    have g1 : (i : Int) < (l.length : Int) := by omega
    have g2 : (0 : Int) ≤ (i : Int) := Int.natCast_nonneg _
    have hw : wrap64 ((i : Int) + 1) = ((i + 1 : Nat) : Int) := wsucc i (by omega)
    refine Ev.step (fun k => ?_) (ih (i + 1) (by clear hw; omega))
    simp only [laws_eqClaimS.l0, if_pos g1, if_pos g2, laws_eqClaim.f, if_true, bne_self_eq_false, Bool.false_eq_true, if_false, Option.bind_some, hw]
theorem eqClaimS_ev (l : List S84) (hl : l.length ≤ 1048576) : Ev (fun k => laws_eqClaimS.f k l l) true := by
  unfold laws_eqClaimS.f
  simp only [if_true]
  exact eqClaimS_l l hl l.length 0 (by omega)
/-! ### what is in a list of numbers -/
theorem has_l (l : List Int) (x : Int) (hl : l.length ≤ 1048576) : ∀ (d j : Nat), j + d = l.length → Ev (fun k => spec_l1Has.l0 k x l (l.length : Int) (j : Int)) (decide (x ∈ l.drop j)) := by
  intro d
  induction d with
  | zero =>
    intro j hj
    have c : ¬ (j : Int) < (l.length : Int) := by omega
    rw [List.drop_of_length_le (by omega), decide_eq_false (by simp)]
    refine Ev.step (fun k => ?_) (Ev.now _)
    simp only [spec_l1Has.l0, if_neg c]
  | succ d ih =>
    intro j hj
    have g1 : (j : Int) < (l.length : Int) := by omega
    have g2 : (0 : Int) ≤ (j : Int) := Int.natCast_nonneg _
    have hjl : j < l.length := by omega
    have hw := wsucc j (by omega)
    by_cases h : l[j] = x
    · have : x ∈ l.drop j := by rw [List.drop_eq_getElem_cons hjl, h]; simp
      rw [decide_eq_true this]
      refine Ev.step (fun k => ?_) (Ev.now _)
      simp only [spec_l1Has.l0, if_pos g1, if_pos g2, rd_nat l j hjl, if_pos h]
    · have e : (x ∈ l.drop j) ↔ x ∈ l.drop (j + 1) := by
        rw [List.drop_eq_getElem_cons hjl, List.mem_cons]
        exact ⟨fun q => q.resolve_left (fun z => h z.symm), .inr⟩
      rw [decide_eq_decide.2 e]
      refine Ev.step (fun k => ?_) (ih (j + 1) (by clear hw; omega))
      simp only [spec_l1Has.l0, if_pos g1, if_pos g2, rd_nat l j hjl, if_neg h, hw]
theorem has_ev_ (l : List Int) (x : Int) (hl : l.length ≤ 1048576) : Ev (fun k => spec_l1Has.f k l x) (decide (x ∈ l)) := by
  have := has_l l x hl l.length 0 (by omega)
  rw [List.drop_zero] at this
  exact this
theorem index_l (l : List Int) (x : Int) (hl : l.length ≤ 1048576) : ∀ (d j : Nat), j + d = l.length → ∃ r : Int, Ev (fun k => slices_Index_int_int.l0 k l x (l.length : Int) (j : Int)) r ∧ (r ≥ 0 ↔ x ∈ l.drop j) := by
  intro d
  induction d with
  | zero =>
    intro j hj
    have c : ¬ (j : Int) < (l.length : Int) := by omega
    rw [List.drop_of_length_le (by omega)]
    refine ⟨-1, Ev.step (fun k => ?_) (Ev.now _), ⟨fun h => by omega, fun h => by cases h⟩⟩
    simp only [slices_Index_int_int.l0, if_neg c]
  | succ d ih =>
    intro j hj
    have g1 : (j : Int) < (l.length : Int) := by omega
    have g2 : (0 : Int) ≤ (j : Int) := Int.natCast_nonneg _
    have hjl : j < l.length := by omega
    have hw := wsucc j (by omega)
    by_cases h : x = l[j]
    · have : x ∈ l.drop j := by rw [List.drop_eq_getElem_cons hjl, ← h]; simp
      refine ⟨(j : Int), Ev.step (fun k => ?_) (Ev.now _), ⟨fun _ => this, fun _ => g2⟩⟩
      simp only [slices_Index_int_int.l0, if_pos g1, if_pos g2, rd_nat l j hjl, if_pos h]
    · obtain ⟨r, r1, r2⟩ := ih (j + 1) (by clear hw; omega)
      refine ⟨r, Ev.step (fun k => ?_) r1, r2.trans ?_⟩
      · simp only [slices_Index_int_int.l0, if_pos g1, if_pos g2, rd_nat l j hjl, if_neg h, hw]
      · rw [List.drop_eq_getElem_cons hjl, List.mem_cons]
        exact ⟨.inr, fun q => q.resolve_left h⟩
theorem contains_ev_ (l : List Int) (x : Int) (hl : l.length ≤ 1048576) : Ev (fun k => slices_Contains_int_int.f k l x) (decide (x ∈ l)) := by
  obtain ⟨r, r1, r2⟩ := index_l l x hl l.length 0 (by omega)
  rw [List.drop_zero] at r2
  unfold slices_Contains_int_int.f
  refine Ev.bind (a := r) r1 ?_
  rw [decide_eq_decide.2 r2.symm]
  exact Ev.now _
theorem told_l (l : List S84) (a b : Int) (h : Bool) (hl : l.length ≤ 1048576) : ∀ (d j : Nat), j + d = l.length → Ev (fun k => spec_gaTold.l0 k a b h l (l.length : Int) (j : Int)) (told (l.drop j) a b h) := by
  intro d
  induction d with
  | zero =>
    intro j hj
    have c : ¬ (j : Int) < (l.length : Int) := by omega
    rw [List.drop_of_length_le (by omega)]
    refine Ev.step (fun k => ?_) (Ev.now _)
    simp only [spec_gaTold.l0, if_neg c]
    rfl
  | succ d ih =>
    intro j hj
    have g1 : (j : Int) < (l.length : Int) := by omega
    have g2 : (0 : Int) ≤ (j : Int) := Int.natCast_nonneg _
    have hjl : j < l.length := by omega
    have hw := wsucc j (by omega)
    have nx := ih (j + 1) (by clear hw; omega)
    have e : told (l.drop j) a b h = ((l[j].f0 == a && (l[j].f1 == b && l[j].f2 == h)) || told (l.drop (j + 1)) a b h) := by
      rw [List.drop_eq_getElem_cons hjl]
      rfl
    rw [e]
    by_cases h0 : l[j].f0 = a
    · by_cases h1 : l[j].f1 = b
      · by_cases h2 : (l[j].f2 == h) = true
        · rw [show ((l[j].f0 == a && (l[j].f1 == b && l[j].f2 == h)) || told (l.drop (j + 1)) a b h) = true from by simp [h0, h1, h2]]
          refine Ev.step (fun k => ?_) (Ev.now _)
          simp only [spec_gaTold.l0, if_pos g1, if_pos g2, rdCI l j hjl, if_pos h0, if_pos h1, if_pos h2]
        · rw [show ((l[j].f0 == a && (l[j].f1 == b && l[j].f2 == h)) || told (l.drop (j + 1)) a b h) = told (l.drop (j + 1)) a b h from by simp [h2]]
          refine Ev.step (fun k => ?_) nx
          simp only [spec_gaTold.l0, if_pos g1, if_pos g2, rdCI l j hjl, if_pos h0, if_pos h1, if_neg h2, hw]
      · rw [show ((l[j].f0 == a && (l[j].f1 == b && l[j].f2 == h)) || told (l.drop (j + 1)) a b h) = told (l.drop (j + 1)) a b h from by simp [h1]]
        refine Ev.step (fun k => ?_) nx
        simp only [spec_gaTold.l0, if_pos g1, if_pos g2, rdCI l j hjl, if_pos h0, if_neg h1, hw]
    · rw [show ((l[j].f0 == a && (l[j].f1 == b && l[j].f2 == h)) || told (l.drop (j + 1)) a b h) = told (l.drop (j + 1)) a b h from by simp [h0]]
      refine Ev.step (fun k => ?_) nx
      simp only [spec_gaTold.l0, if_pos g1, if_pos g2, rdCI l j hjl, if_neg h0, hw]
theorem told_ev (l : List S84) (a b : Int) (h : Bool) (hl : l.length ≤ 1048576) : Ev (fun k => spec_gaTold.f k l a b h) (told l a b h) := by
  have := told_l l a b h hl l.length 0 (by omega)
  rw [List.drop_zero] at this
  exact this
/-! ### a claim that is shown, on both sides -/
def right (l : List S57) (bf : List S84) (c : S84) : Bool :=
  decide (0 ≤ c.f0 ∧ c.f0 ≤ (l.length : Int) - 1) && (decide (0 ≤ c.f1 ∧ c.f1 ≤ (l.length : Int) - 1) &&
    (if c.f2 = true then ((rd_T57 l c.f0).f0.all (fun x => told bf c.f1 x false) && ((rd_T57 l c.f1).f1.all (fun y => told bf y c.f0 false) && (decide (c.f3 = 0) && decide (c.f4 = 0))))
     else if c.f4 = 0 then (decide (c.f3 ∈ (rd_T57 l c.f0).f0) && told bf c.f1 c.f3 true)
     else if c.f4 = 1 then (decide (c.f3 ∈ (rd_T57 l c.f1).f1) && told bf c.f3 c.f0 true) else false))
theorem l1_ev (bf : List S84) (c : S84) (ys : List Int) (hb : bf.length ≤ 1048576) (hy : ys.length ≤ 1048576) : ∀ (d j : Nat), j + d = ys.length → Ev (fun k => spec_gaRight.l1 k bf ys (ys.length : Int) (j : Int) c.f0 c.f1 c.f2 c.f3 c.f4) ((ys.drop j).all (fun y => told bf y c.f0 false) && (decide (c.f3 = 0) && decide (c.f4 = 0))) := by
  intro d
  induction d with
  | zero =>
    intro j hj
    have g : ¬ (j : Int) < (ys.length : Int) := by omega
    rw [List.drop_of_length_le (by omega), List.all_nil, Bool.true_and]
    refine Ev.step (fun k => ?_) (Ev.now _)
    simp only [spec_gaRight.l1, if_neg g]
    by_cases h : c.f3 = 0
    · rw [if_pos h, decide_eq_true h, Bool.true_and]; rfl
    · rw [if_neg h, decide_eq_false h, Bool.false_and]
  | succ d ih =>
    intro j hj
    have g1 : (j : Int) < (ys.length : Int) := by omega
    have g2 : (0 : Int) ≤ (j : Int) := Int.natCast_nonneg _
    have hjl : j < ys.length := by omega
    have hw := wsucc j (by omega)
    have nx := ih (j + 1) (by clear hw; omega)
    have ht := told_ev bf ys[j] c.f0 false hb
    rw [List.drop_eq_getElem_cons hjl, List.all_cons]
    refine Ev.step (f := ?ra1) (fun k => ?rb1) ?rc1
    case rb1 => conv => lhs; simp only [spec_gaRight.l1, if_pos g1, if_pos g2, rd_nat ys j hjl, hw]
    case rc1 =>
      refine Ev.bind ht ?_
      cases q : told bf ys[j] c.f0 false with
      | true => simp only [if_true, Bool.true_and]; exact nx
      | false => simp only [Bool.false_eq_true, if_false, Bool.false_and]; exact Ev.now _
theorem l0_ev (l : List S57) (bf : List S84) (c : S84) (zs : List Int) (hs : Small l) (hb : bf.length ≤ 1048576) (hz : zs.length ≤ 1048576) (h1 : 0 ≤ c.f1 ∧ c.f1 < (l.length : Int)) : ∀ (d j : Nat), j + d = zs.length → Ev (fun k => spec_gaRight.l0 k l bf zs (zs.length : Int) (j : Int) c.f0 c.f1 c.f2 c.f3 c.f4) ((zs.drop j).all (fun x => told bf c.f1 x false) && ((rd_T57 l c.f1).f1.all (fun y => told bf y c.f0 false) && (decide (c.f3 = 0) && decide (c.f4 = 0)))) := by
  have hrow : (rd_T57 l c.f1).f1.length ≤ 1048576 := by
    obtain ⟨n, hn⟩ := Int.eq_ofNat_of_zero_le h1.1
    rw [hn, rdI l n (by omega)]
    exact (hs.2 _ (List.getElem_mem _)).2
  intro d
  induction d with
  | zero =>
    intro j hj
    have g : ¬ (j : Int) < (zs.length : Int) := by omega
    rw [List.drop_of_length_le (by omega), List.all_nil, Bool.true_and]
    have := l1_ev bf c (rd_T57 l c.f1).f1 hb hrow (rd_T57 l c.f1).f1.length 0 (by omega)
    rw [List.drop_zero] at this
    refine Ev.step (fun k => ?_) this
    simp only [spec_gaRight.l0, if_neg g, if_pos h1.1, if_pos h1.2]
    rfl
  | succ d ih =>
    intro j hj
    have g1 : (j : Int) < (zs.length : Int) := by omega
    have g2 : (0 : Int) ≤ (j : Int) := Int.natCast_nonneg _
    have hjl : j < zs.length := by omega
    have hw := wsucc j (by omega)
    have nx := ih (j + 1) (by clear hw; omega)
    have ht := told_ev bf c.f1 zs[j] false hb
    rw [List.drop_eq_getElem_cons hjl, List.all_cons]
    refine Ev.step (f := ?ra2) (fun k => ?rb2) ?rc2
    case rb2 => conv => lhs; simp only [spec_gaRight.l0, if_pos g1, if_pos g2, rd_nat zs j hjl, hw]
    case rc2 =>
      refine Ev.bind ht ?_
      cases q : told bf c.f1 zs[j] false with
      | true => simp only [if_true, Bool.true_and]; exact nx
      | false => simp only [Bool.false_eq_true, if_false, Bool.false_and]; exact Ev.now _
theorem row_small {l : List S57} (hs : Small l) {x : Int} (h0 : 0 ≤ x) (h1 : x < (l.length : Int)) : (rd_T57 l x).f0.length ≤ 1048576 ∧ (rd_T57 l x).f1.length ≤ 1048576 := by
  obtain ⟨n, rfl⟩ := Int.eq_ofNat_of_zero_le h0
  rw [rdI l n (by omega)]
  exact hs.2 _ (List.getElem_mem _)
theorem wlen (l : List S57) (hs : Small l) : wrap64 ((l.length : Int) - 1) = (l.length : Int) - 1 := by
  have := hs.1
  unfold wrap64
  omega
theorem specRight_ev (l : List S57) (bf : List S84) (c : S84) (hs : Small l) (hb : bf.length ≤ 1048576) : Ev (fun k => spec_gaRight.f k l bf c.f0 c.f1 c.f2 c.f3 c.f4) (right l bf c) := by
  have no : ∀ x, x = true → Ev (fun k => spec_gaRight.j0 k l bf x c.f0 c.f1 c.f2 c.f3 c.f4) false := fun x hx => Ev.step (fun k => by simp only [spec_gaRight.j0, hx, if_true]) (Ev.now _)
  unfold spec_gaRight.f
  simp only [in_eq, in_some, Option.bind_some, wlen l hs]
  by_cases hA : 0 ≤ c.f0 ∧ c.f0 ≤ (l.length : Int) - 1
  · by_cases hB : 0 ≤ c.f1 ∧ c.f1 ≤ (l.length : Int) - 1
    · have hA1 : c.f0 < (l.length : Int) := by omega
      have hB1 : c.f1 < (l.length : Int) := by omega
      have rA := row_small hs hA.1 hA1
      have rB := row_small hs hB.1 hB1
      simp only [decide_eq_true hA, decide_eq_true hB, if_true]
      by_cases hS : 0 ≤ c.f4 ∧ c.f4 ≤ 1
      · rw [decide_eq_true hS, Bool.not_true]
        unfold right
        rw [decide_eq_true hA, decide_eq_true hB, Bool.true_and, Bool.true_and]
        by_cases h2 : c.f2 = true
        · rw [if_pos h2]
          have := l0_ev l bf c (rd_T57 l c.f0).f0 hs hb rA.1 ⟨hB.1, hB1⟩ (rd_T57 l c.f0).f0.length 0 (by omega)
          rw [List.drop_zero] at this
          refine Ev.step (fun k => ?_) this
          simp only [spec_gaRight.j0, Bool.false_eq_true, if_false, if_pos h2, if_pos hA.1, if_pos hA1]
          rfl
        · rw [if_neg h2]
          by_cases h4 : c.f4 = 0
          · rw [if_pos h4]
            refine Ev.step (f := ?rd1) (fun k => ?re1) ?rf1
            case re1 => conv => lhs; simp only [spec_gaRight.j0, Bool.false_eq_true, if_false, if_neg h2, if_pos h4, if_pos hA.1, if_pos hA1]
            case rf1 =>
              refine Ev.bind (has_ev_ _ c.f3 rA.1) ?_
              by_cases q : c.f3 ∈ (rd_T57 l c.f0).f0
              · simp only [decide_eq_true q, if_true, Bool.true_and]
                exact Ev.bind (told_ev bf _ _ _ hb) (Ev.now _)
              · simp only [decide_eq_false q, Bool.false_eq_true, if_false, Bool.false_and]
                exact Ev.now _
          · have h41 : c.f4 = 1 := by omega
            rw [if_neg h4, if_pos h41]
            refine Ev.step (f := ?rd2) (fun k => ?re2) ?rf2
            case re2 => conv => lhs; simp only [spec_gaRight.j0, Bool.false_eq_true, if_false, if_neg h2, if_neg h4, if_pos hB.1, if_pos hB1]
            case rf2 =>
              refine Ev.bind (has_ev_ _ c.f3 rB.2) ?_
              by_cases q : c.f3 ∈ (rd_T57 l c.f1).f1
              · simp only [decide_eq_true q, if_true, Bool.true_and]
                exact Ev.bind (told_ev bf _ _ _ hb) (Ev.now _)
              · simp only [decide_eq_false q, Bool.false_eq_true, if_false, Bool.false_and]
                exact Ev.now _
      · have e : right l bf c = false := by
          unfold right
          have n0 : ¬ c.f4 = 0 := by omega
          have n1 : ¬ c.f4 = 1 := by omega
          rw [if_neg n0, if_neg n1, decide_eq_false n0]
          simp
        rw [e, decide_eq_false hS, Bool.not_false]
        exact no true rfl
    · have e : right l bf c = false := by unfold right; rw [decide_eq_false hB]; simp
      simp only [decide_eq_true hA, decide_eq_false hB, if_true, Bool.false_eq_true, if_false, e]
      exact no true rfl
  · have e : right l bf c = false := by unfold right; rw [decide_eq_false hA]; simp
    simp only [decide_eq_false hA, Bool.false_eq_true, if_false, e]
    exact no true rfl
theorem any_not (zs : List Int) (p : Int → Bool) : (zs.any fun x => !p x) = !zs.all p := by
  induction zs with
  | nil => rfl
  | cons z zs ih => rw [List.any_cons, List.all_cons, ih, Bool.not_and]
theorem implRight_ev (l : List S57) (bf : List S84) (c : S84) (hs : Small l) (hb : bf.length ≤ 1048576) : Ev (fun k => impl_Claim_shownBy.f k c.f0 c.f1 c.f2 c.f3 c.f4 l bf) (right l bf c) := by
  have no : ∀ x, x = true → Ev (fun k => impl_Claim_shownBy.j0 k l bf x c.f0 c.f1 c.f2 c.f3 c.f4) false := fun x hx => Ev.step (fun k => by simp only [impl_Claim_shownBy.j0, hx, if_true]) (Ev.now _)
  unfold impl_Claim_shownBy.f
  simp only [in_some, Option.bind_some, wlen l hs]
  by_cases hA : 0 ≤ c.f0 ∧ c.f0 ≤ (l.length : Int) - 1
  · by_cases hB : 0 ≤ c.f1 ∧ c.f1 ≤ (l.length : Int) - 1
    · have hA1 : c.f0 < (l.length : Int) := by omega
      have hB1 : c.f1 < (l.length : Int) := by omega
      have rA := row_small hs hA.1 hA1
      have rB := row_small hs hB.1 hB1
      simp only [decide_eq_true hA, decide_eq_true hB, if_true, Bool.not_true]
      unfold right
      rw [decide_eq_true hA, decide_eq_true hB, Bool.true_and, Bool.true_and]
      by_cases h2 : c.f2 = true
      · rw [if_pos h2]
        have j3 : ∀ x : Bool, x = decide (¬ (c.f3 = 0 ∧ c.f4 = 0)) → Ev (fun k => impl_Claim_shownBy.j3 k l bf x c.f0 c.f1 c.f2 c.f3 c.f4) ((rd_T57 l c.f0).f0.all (fun x => told bf c.f1 x false) && ((rd_T57 l c.f1).f1.all (fun y => told bf y c.f0 false) && (decide (c.f3 = 0) && decide (c.f4 = 0)))) := by
          intro x hx
          by_cases h34 : c.f3 = 0 ∧ c.f4 = 0
          · rw [hx, decide_eq_false (by simp [h34]), decide_eq_true h34.1, decide_eq_true h34.2]
            refine Ev.step (fun k => ?_) (Ev.now _)
            simp only [impl_Claim_shownBy.j3, Bool.false_eq_true, if_false, if_pos hA.1, if_pos hA1, slices_ContainsFunc_int_int.f, Option.bind_some, if_true, any_not]
            cases q1 : (rd_T57 l c.f0).f0.all (fun x => told bf c.f1 x false) with
            | true => simp [hB.1, hB1, any_not]
            | false => simp
          · rw [hx, decide_eq_true h34]
            have e : ((rd_T57 l c.f0).f0.all (fun x => told bf c.f1 x false) && ((rd_T57 l c.f1).f1.all (fun y => told bf y c.f0 false) && (decide (c.f3 = 0) && decide (c.f4 = 0)))) = false := by
              rw [← Bool.decide_and, decide_eq_false h34]
              simp
            rw [e]
            refine Ev.step (fun k => ?_) (Ev.now _)
            simp only [impl_Claim_shownBy.j3, if_true]
        refine Ev.step (f := fun k => impl_Claim_shownBy.j1 k l bf false c.f0 c.f1 c.f2 c.f3 c.f4) (fun k => ?_) (Ev.step (f := fun k => impl_Claim_shownBy.j2 k l bf false c.f0 c.f1 c.f2 c.f3 c.f4) (fun k => ?_) ?_)
        · simp only [impl_Claim_shownBy.j0, Bool.false_eq_true, if_false, if_pos h2]
        · simp only [impl_Claim_shownBy.j1, Bool.false_eq_true, if_false, if_pos h2]
        · by_cases h3 : c.f3 = 0
          · refine Ev.step (fun k => ?_) (j3 (c.f4 != 0) (by by_cases q : c.f4 = 0 <;> simp [h3, q]))
            simp only [impl_Claim_shownBy.j2, Bool.false_eq_true, if_false, if_pos h2, if_pos h3]
          · refine Ev.step (fun k => ?_) (j3 true (by simp [h3]))
            simp only [impl_Claim_shownBy.j2, Bool.false_eq_true, if_false, if_pos h2, if_neg h3]
      · rw [if_neg h2]
        by_cases h4 : c.f4 = 0
        · rw [if_pos h4]
          have e4 : (c.f4 == 0) = true := by simp [h4]
          refine Ev.step (f := fun k => impl_Claim_shownBy.j1 k l bf true c.f0 c.f1 c.f2 c.f3 c.f4) (fun k => ?_) (Ev.step (f := ?rg1) (fun k => ?rh1) ?ri1)
          · simp only [impl_Claim_shownBy.j0, Bool.false_eq_true, if_false, if_neg h2, e4]
          case rh1 => conv => lhs; simp only [impl_Claim_shownBy.j1, if_true, if_pos hA.1, if_pos hA1]
          case ri1 =>
            refine Ev.bind (contains_ev_ _ c.f3 rA.1) ?_
            by_cases q : c.f3 ∈ (rd_T57 l c.f0).f0
            · simp only [decide_eq_true q, if_true, Bool.true_and]
              exact Ev.bind (told_ev bf _ _ _ hb) (Ev.now _)
            · simp only [decide_eq_false q, Bool.false_eq_true, if_false, Bool.false_and]
              exact Ev.now _
        · rw [if_neg h4]
          have e4 : (c.f4 == 0) = false := by simp [h4]
          refine Ev.step (f := fun k => impl_Claim_shownBy.j1 k l bf false c.f0 c.f1 c.f2 c.f3 c.f4) (fun k => ?_) ?_
          · simp only [impl_Claim_shownBy.j0, Bool.false_eq_true, if_false, if_neg h2, e4]
          · by_cases h41 : c.f4 = 1
            · rw [if_pos h41]
              have e41 : (c.f4 == 1) = true := by simp [h41]
              refine Ev.step (f := fun k => impl_Claim_shownBy.j2 k l bf true c.f0 c.f1 c.f2 c.f3 c.f4) (fun k => ?_) (Ev.step (f := ?rg2) (fun k => ?rh2) ?ri2)
              · simp only [impl_Claim_shownBy.j1, Bool.false_eq_true, if_false, if_neg h2, e41]
              case rh2 => conv => lhs; simp only [impl_Claim_shownBy.j2, if_true, if_pos hB.1, if_pos hB1]
              case ri2 =>
                refine Ev.bind (contains_ev_ _ c.f3 rB.2) ?_
                by_cases q : c.f3 ∈ (rd_T57 l c.f1).f1
                · simp only [decide_eq_true q, if_true, Bool.true_and]
                  exact Ev.bind (told_ev bf _ _ _ hb) (Ev.now _)
                · simp only [decide_eq_false q, Bool.false_eq_true, if_false, Bool.false_and]
                  exact Ev.now _
            · rw [if_neg h41]
              have e41 : (c.f4 == 1) = false := by simp [h41]
              refine Ev.step (f := fun k => impl_Claim_shownBy.j2 k l bf false c.f0 c.f1 c.f2 c.f3 c.f4) (fun k => ?_) (Ev.step (f := fun k => impl_Claim_shownBy.j3 k l bf true c.f0 c.f1 c.f2 c.f3 c.f4) (fun k => ?_) (Ev.step (fun k => ?_) (Ev.now _)))
              · simp only [impl_Claim_shownBy.j1, Bool.false_eq_true, if_false, if_neg h2, e41]
              · simp only [impl_Claim_shownBy.j2, Bool.false_eq_true, if_false, if_neg h2]
              · simp only [impl_Claim_shownBy.j3, if_true]
    · have e : right l bf c = false := by unfold right; rw [decide_eq_false hB]; simp
      simp only [decide_eq_true hA, decide_eq_false hB, if_true, Bool.not_false, e]
      exact no true rfl
  · have e : right l bf c = false := by unfold right; rw [decide_eq_false hA]; simp
    simp only [decide_eq_false hA, Bool.false_eq_true, if_false, e]
    exact no true rfl
theorem check_l (l : List S57) (cs : List S84) (hs : Small l) (hc : cs.length ≤ 1048576) : ∀ (d i : Nat), i + d = cs.length → ∃ r : Bool × Bool, Ev (fun k => spec_CheckClaims.l0 k l cs cs (cs.length : Int) (i : Int)) r ∧ Ev (fun k => impl_CheckClaims.l0 k l cs cs (cs.length : Int) (i : Int)) r := by
  intro d
  induction d with
  | zero =>
    intro i hi
    have c : ¬ (i : Int) < (cs.length : Int) := by omega
    refine ⟨(true, true), Ev.step (fun k => ?_) (Ev.now _), Ev.step (fun k => ?_) (Ev.now _)⟩
    · simp only [spec_CheckClaims.l0, if_neg c]
    · simp only [impl_CheckClaims.l0, if_neg c]
  | succ d ih =>
    intro i hi
    have g1 : (i : Int) < (cs.length : Int) := by omega
    have g2 : (0 : Int) ≤ (i : Int) := Int.natCast_nonneg _
    have g3 : (i : Int) ≤ (cs.length : Int) := by omega
    have hil : i < cs.length := by omega
    have hw := wsucc i (by omega)
    obtain ⟨r, r1, r2⟩ := ih (i + 1) (by clear hw; omega)
    have hbf : (cs.take i).length ≤ 1048576 := by rw [List.length_take]; clear hw; omega
    have s1 := specRight_ev l (cs.take i) cs[i] hs hbf
    have s2 := implRight_ev l (cs.take i) cs[i] hs hbf
    cases q : right l (cs.take i) cs[i] with
    | true =>
      rw [q] at s1 s2
      refine ⟨r, Ev.step (f := ?ca1) (fun k => ?cb1) ?cc1, Ev.step (f := ?ca2) (fun k => ?cb2) ?cc2⟩
      case cb1 => conv => lhs; simp only [spec_CheckClaims.l0, if_pos g1, if_pos g2, if_pos g3, rdCI cs i hil, Int.toNat_natCast, hw]
      case cc1 =>
        refine Ev.bind s1 ?_
        simp only [if_true]
        exact r1
      case cb2 => conv => lhs; simp only [impl_CheckClaims.l0, if_pos g1, if_pos g2, if_pos g3, rdCI cs i hil, Int.toNat_natCast, hw]
      case cc2 =>
        refine Ev.bind s2 ?_
        simp only [if_true]
        exact r2
    | false =>
      rw [q] at s1 s2
      refine ⟨(false, true), Ev.step (f := ?ca3) (fun k => ?cb3) ?cc3, Ev.step (f := ?ca4) (fun k => ?cb4) ?cc4⟩
      case cb3 => conv => lhs; simp only [spec_CheckClaims.l0, if_pos g1, if_pos g2, if_pos g3, rdCI cs i hil, Int.toNat_natCast, hw]
      case cc3 => exact Ev.bind s1 (Ev.now _)
      case cb4 => conv => lhs; simp only [impl_CheckClaims.l0, if_pos g1, if_pos g2, if_pos g3, rdCI cs i hil, Int.toNat_natCast, hw]
      case cc4 => exact Ev.bind s2 (Ev.now _)
theorem both (l : List S57) (cs : List S84) (hs : Small l) (hc : cs.length ≤ 1048576) : ∃ r : Bool × Bool, Ev (fun k => spec_CheckClaims.f k l cs) r ∧ Ev (fun k => impl_CheckClaims.f k l cs) r := by
  obtain ⟨b, e1, e2, _⟩ := game_ev2 l hs
  have no1 : Ev (fun k => spec_CheckClaims.j0 k l cs true) (false, false) := Ev.step (fun k => by simp only [spec_CheckClaims.j0, if_true]) (Ev.now _)
  have no2 : Ev (fun k => impl_CheckClaims.j0 k l cs true) (false, false) := Ev.step (fun k => by simp only [impl_CheckClaims.j0, if_true]) (Ev.now _)
  unfold spec_CheckClaims.f impl_CheckClaims.f
  cases b with
  | false => exact ⟨(false, false), Ev.bind e2 no1, Ev.bind e1 no2⟩
  | true =>
    by_cases h : (cs.length : Int) > 200
    · refine ⟨(false, false), Ev.bind e2 ?_, Ev.bind e1 ?_⟩
      · simp only [if_true, decide_eq_true h]; exact no1
      · simp only [if_true, decide_eq_true h]; exact no2
    · obtain ⟨r, r1, r2⟩ := check_l l cs hs hc cs.length 0 (by omega)
      refine ⟨r, Ev.bind e2 ?_, Ev.bind e1 ?_⟩
      · simp only [if_true, decide_eq_false h]
        refine Ev.step (fun k => ?_) r1
        simp only [spec_CheckClaims.j0, Bool.false_eq_true, if_false]
        rfl
      · simp only [if_true, decide_eq_false h]
        refine Ev.step (fun k => ?_) r2
        simp only [impl_CheckClaims.j0, Bool.false_eq_true, if_false]
        rfl

theorem proved : laws_FnExactCheckClaims.Pure := by
  intro l cs h h'
  refine Ev.rounds ?_
  unfold laws_FnExactCheckClaims.f
  obtain ⟨v, hv, hv2, hs⟩ := szPositionS_evb l ⟨h.1, fun y hy => ⟨(h.2 y hy).1.1, (h.2 y hy).2.1⟩⟩
  refine Ev.bind hv ?_
  by_cases hn : v < 0
  · simp only [if_pos hn]
    exact Ev.now _
  · simp only [if_neg hn, szClaimS cs v h'.1 (by omega) hv2, Option.bind_some]
    obtain ⟨h1, h2⟩ := hs.resolve_left hn
    by_cases hc : v - (cs.length : Int) < 0
    · simp only [if_pos hc, show ((-1 : Int) < 0) from by decide, if_true]
      exact Ev.now _
    · simp only [if_neg hc]
      have hcl : cs.length ≤ 1048576 := by omega
      have hcl' : (cs.map convC).length ≤ 1048576 := by rw [List.length_map]; exact hcl
      have ht := toPositionS_ev l h1 h2
      have htc := toClaimS_ev cs hcl
      have hsm := small_conv l h1 h2
      obtain ⟨r, s1, s2⟩ := both (l.map conv) (cs.map convC) hsm hcl'
      refine Ev.bind ht (Ev.bind htc (Ev.bind s1 (Ev.bind ht (Ev.bind htc (Ev.bind s2 ?_)))))
      simp only [bne_self_eq_false, Bool.false_eq_true, if_false]
      refine Ev.step (f := ?gga) (fun k => ?ggb) ?ggc
      case ggb => conv => lhs; simp only [laws_FnExactCheckClaims.j0, Bool.false_eq_true, if_false]
      case ggc =>
        refine Ev.bind ht (Ev.bind (eqPositionS_ev _ hsm) ?_)
        simp only [if_true]
        refine Ev.bind htc (Ev.bind (eqClaimS_ev _ hcl') ?_)
        exact Ev.now _

end LFnExactCheckClaims
theorem FnExactCheckClaims : laws_FnExactCheckClaims.Pure := LFnExactCheckClaims.proved
end Go.Proofs.Ytpiafobcmhfclaa.Pure
