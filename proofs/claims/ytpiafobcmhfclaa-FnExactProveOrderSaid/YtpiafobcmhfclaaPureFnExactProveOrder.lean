/- For any list of positions and any two numbers, the program's list of claims is the reference's, in new memory, and the positions are left as they were. -/
import Derived.Test.YtpiafobcmhfclaaQFnExactProveOrderx7
import Derived.Test.YtpiafobcmhfclaaMpP
namespace Go.Proofs.Ytpiafobcmhfclaa.Pure
open Go.RowKit Go.Proofs.Ytpiafobcmhfclaa.QFnExactProveOrder Go.Proofs.YtpiafobcmhfclaaW.PrintWords Go.Proofs.YtpiafobcmhfclaaW.PrintLast
set_option linter.unusedVariables false
set_option linter.unusedSimpArgs false
def laws_FnExactProveOrder.Pure : Prop := ∀ (l0 : List (S59)) (a1 : Int) (a2 : Int), (l0.length ≤ maxLen ∧ ∀ y0 ∈ l0, ((y0.f0.length ≤ maxLen ∧ ∀ y1 ∈ y0.f0, (Lit.int .i64 y1).wf = true) ∧ (y0.f1.length ≤ maxLen ∧ ∀ y1 ∈ y0.f1, (Lit.int .i64 y1).wf = true))) → (Lit.int .i64 a1).wf = true → (Lit.int .i64 a2).wf = true → ∃ k, laws_FnExactProveOrder.f k l0 a1 a2 = some true
namespace LFnExactProveOrder
/-! ### small words -/
theorem wsucc (i : Nat) (h : i < 2 ^ 62) : wrap64 ((i : Int) + 1) = ((i + 1 : Nat) : Int) := by unfold wrap64; omega
theorem drop_rd {l : List Int} {i : Nat} (h : i < l.length) : l.drop i = rd l (i : Int) :: l.drop (i + 1) := by
  rw [List.drop_eq_getElem_cons h]
  simp [rd, List.getD_eq_getElem?_getD, List.getElem?_eq_getElem h]

/-! ### a copy of a list of numbers is that list -/
theorem toIntS_l (x : List Int) (hx : x.length ≤ 2 ^ 60) : ∀ (d k i : Nat) (y : List Int), i + d = x.length → y.length = x.length → (∀ j, j < i → y[j]? = x[j]?) → d < k → laws_toIntS.l0 k x y i = some x := by
  intro d
  induction d with
  | zero =>
    intro k i y hi hy hj hk
    obtain ⟨k, rfl⟩ : ∃ m, k = m + 1 := ⟨k - 1, by omega⟩
    simp only [laws_toIntS.l0]
    rw [if_neg (by omega)]
    congr 1
    apply List.ext_getElem? 
    intro j
    by_cases h : j < i
    · exact hj j h
    · rw [List.getElem?_eq_none (by omega), List.getElem?_eq_none (by omega)]
  | succ d ih =>
    intro k i y hi hy hj hk
    obtain ⟨k, rfl⟩ : ∃ m, k = m + 1 := ⟨k - 1, by omega⟩
    have h1 : (i : Int) < (x.length : Int) := by omega
    have h2 : (0 : Int) ≤ (i : Int) := Int.natCast_nonneg _
    have h3 : (i : Int) < (y.length : Int) := by omega
    have h4 : i < x.length := by omega
    simp only [laws_toIntS.l0]
    rw [if_pos h1, if_pos h2, if_pos h3, wsucc i (by omega)]
    refine ih k (i + 1) _ (by omega) (by simpa using hy) ?_ (by omega)
    intro j hlt
    rw [Int.toNat_natCast, List.getElem?_set]
    by_cases e : i = j
    · subst e
      rw [if_pos rfl, if_pos (by omega)]
      simp [rd, List.getD_eq_getElem?_getD, List.getElem?_eq_getElem h4]
    · rw [if_neg e]
      exact hj j (by omega)
theorem toIntS (x : List Int) (hx : x.length ≤ 17592186044416) (k : Nat) (hk : x.length < k) : laws_toIntS.f k x = some x := by
  unfold laws_toIntS.f
  rw [if_pos (Int.natCast_nonneg _), if_pos (by rw [Int.toNat_natCast]; omega), Int.toNat_natCast]
  exact toIntS_l x (by omega) x.length k 0 _ (by omega) (by simp) (fun j h => by omega) hk

/-! ### a list of numbers equals itself -/
theorem eqIntS_l (x : List Int) (hx : x.length ≤ 2 ^ 60) : ∀ (d k i : Nat), i + d = x.length → d < k → laws_eqIntS.l0 k x x i = some true := by
  intro d
  induction d with
  | zero =>
    intro k i hi hk
    obtain ⟨k, rfl⟩ : ∃ m, k = m + 1 := ⟨k - 1, by omega⟩
    simp only [laws_eqIntS.l0]
    rw [if_neg (by omega)]
  | succ d ih =>
    intro k i hi hk
    obtain ⟨k, rfl⟩ : ∃ m, k = m + 1 := ⟨k - 1, by omega⟩
    have h1 : (i : Int) < (x.length : Int) := by omega
    have h2 : (0 : Int) ≤ (i : Int) := Int.natCast_nonneg _
    simp only [laws_eqIntS.l0, if_pos h1, if_pos h2, if_true]
    rw [wsucc i (by omega)]
    exact ih k (i + 1) (by omega) (by omega)
theorem eqIntS (x : List Int) (hx : x.length ≤ 17592186044416) (k : Nat) (hk : x.length < k) : laws_eqIntS.f k x x = some true := by
  unfold laws_eqIntS.f
  rw [if_pos rfl]
  exact eqIntS_l x (by omega) x.length k 0 (by omega) hk

/-! ### lists of numbers: the size asked, a copy, the same -/
theorem szIntS (l : List Int) (h : l.length ≤ maxLen) : laws_szIntS.f l 1048576 = some (if l.length > 1048576 then -1 else 1048576 - (l.length : Int)) := by
  unfold maxLen at h
  have hw : wrap64 (1048576 - (l.length : Int)) = 1048576 - (l.length : Int) := by unfold wrap64; omega
  unfold laws_szIntS.f
  rw [hw]
  clear hw
  by_cases g : l.length > 1048576
  · rw [if_pos (by omega), if_pos g]
  · rw [if_neg (by omega), if_neg g]
theorem toIntS_ev (x : List Int) (hx : x.length ≤ 17592186044416) : Ev (fun k => laws_toIntS.f k x) x := ⟨x.length + 1, fun k hk => toIntS x hx k (by omega)⟩
theorem eqIntS_ev (x : List Int) (hx : x.length ≤ 17592186044416) : Ev (fun k => laws_eqIntS.f k x x) true := ⟨x.length + 1, fun k hk => eqIntS x hx k (by omega)⟩

theorem szIntS' (l : List Int) (left : Nat) (h : l.length ≤ maxLen) (hl : left ≤ 1048576) : laws_szIntS.f l (left : Int) = some (if l.length > left then -1 else ((left - l.length : Nat) : Int)) := by
  unfold maxLen at h
  have hw : wrap64 ((left : Int) - (l.length : Int)) = (left : Int) - (l.length : Int) := by unfold wrap64; omega
  unfold laws_szIntS.f
  rw [hw]
  clear hw
  by_cases g : l.length > left
  · rw [if_pos (by omega), if_pos g]
  · rw [if_neg (by omega), if_neg g]
    congr 1
    omega

/-! ### lists of positions: their size, a copy, the same -/
theorem rdL (xs : List S59) (i : Nat) (h : i < xs.length) : rd_T59 xs (i : Int) = xs[i] := by
  simp [rd_T59, List.getD_eq_getElem?_getD, List.getElem?_eq_getElem h]
theorem rdI (xs : List S57) (i : Nat) (h : i < xs.length) : rd_T57 xs (i : Int) = xs[i] := by
  simp [rd_T57, List.getD_eq_getElem?_getD, List.getElem?_eq_getElem h]
theorem szPosition' (a b : List Int) (left : Nat) (ha : a.length ≤ maxLen) (hb : b.length ≤ maxLen) (hl : left ≤ 1048576) :
    ∃ v : Int, laws_szPosition.f a b (left : Int) = some v ∧ (v < 0 ∨ (a.length ≤ 1048576 ∧ b.length ≤ 1048576 ∧ ∃ n : Nat, v = (n : Int) ∧ n ≤ left)) := by
  unfold laws_szPosition.f
  rw [szIntS' a left ha hl]
  simp only [Option.bind_some]
  by_cases g : a.length > left
  · rw [if_pos g]
    exact ⟨-1, rfl, .inl (by omega)⟩
  · rw [if_neg g, if_neg (by omega), szIntS' b _ hb (by omega)]
    simp only [Option.bind_some]
    by_cases g2 : b.length > left - a.length
    · rw [if_pos g2]
      exact ⟨-1, rfl, .inl (by omega)⟩
    · rw [if_neg g2, if_neg (by omega)]
      exact ⟨_, rfl, .inr ⟨by omega, by omega, _, rfl, by omega⟩⟩
theorem szPositionS_l (l : List S59) (hl : l.length ≤ 1048576) (h : ∀ y ∈ l, y.f0.length ≤ maxLen ∧ y.f1.length ≤ maxLen) : ∀ (d i left : Nat), i + d = l.length → left ≤ 1048576 →
    ∃ v : Int, Ev (fun k => laws_szPositionS.l0 k l (left : Int) (i : Int)) v ∧ (v < 0 ∨ ∀ j : Nat, i ≤ j → ∀ hj : j < l.length, (l[j].f0.length ≤ 1048576 ∧ l[j].f1.length ≤ 1048576)) := by
  intro d
  induction d with
  | zero =>
    intro i left hi hf
    have c : ¬ (i : Int) < (l.length : Int) := by omega
    refine ⟨(left : Int), Ev.step (fun k => ?_) (Ev.now _), .inr fun j h1 h2 => by omega⟩
    simp only [laws_szPositionS.l0, if_neg c]
  | succ d ih =>
    intro i left hi hf
    have g1 : (i : Int) < (l.length : Int) := by omega
    have g2 : (0 : Int) ≤ (i : Int) := Int.natCast_nonneg _
    have hil : i < l.length := by omega
    have hb := h l[i] (List.getElem_mem hil)
    obtain ⟨v, h1, h2⟩ := szPosition' l[i].f0 l[i].f1 left hb.1 hb.2 hf
    rcases h2 with h2 | ⟨a1, a2, n, rfl, hn⟩
    · refine ⟨-1, Ev.step (fun k => ?_) (Ev.now _), .inl (by omega)⟩
      simp only [laws_szPositionS.l0, if_pos g1, if_pos g2, rdL l i hil, h1, Option.bind_some, if_pos h2]
    · obtain ⟨v, e1, e2⟩ := ih (i + 1) n (by omega) (by omega)
      have c : ¬ (n : Int) < 0 := by omega
      refine ⟨v, Ev.step (fun k => ?_) e1, ?_⟩
      · simp only [laws_szPositionS.l0, if_pos g1, if_pos g2, rdL l i hil, h1, Option.bind_some, if_neg c]
        rw [wsucc i (by omega)]
      · rcases e2 with e2 | e2
        · exact .inl e2
        · refine .inr fun j hj hjl => ?_
          by_cases e : j = i
          · subst e; exact ⟨a1, a2⟩
          · exact e2 j (by omega) hjl
theorem szPositionS_ev (l : List S59) (h : l.length ≤ maxLen ∧ ∀ y ∈ l, y.f0.length ≤ maxLen ∧ y.f1.length ≤ maxLen) :
    ∃ v : Int, Ev (fun k => laws_szPositionS.f k l 1048576) v ∧ (v < 0 ∨ (l.length ≤ 1048576 ∧ ∀ y ∈ l, y.f0.length ≤ 1048576 ∧ y.f1.length ≤ 1048576)) := by
  have hm : l.length ≤ 9223372036854775807 := h.1
  have hw : wrap64 (1048576 - (l.length : Int)) = 1048576 - (l.length : Int) := by unfold wrap64; omega
  unfold laws_szPositionS.f
  simp only [hw]
  clear hw
  by_cases g : l.length > 1048576
  · refine ⟨-1, ?_, .inl (by omega)⟩
    simp only [show (1048576 - (l.length : Int)) < 0 from by omega, if_true]
    exact Ev.now _
  · obtain ⟨v, e1, e2⟩ := szPositionS_l l (by omega) h.2 l.length 0 (1048576 - l.length) (by omega) (by omega)
    have e : ((1048576 - l.length : Nat) : Int) = 1048576 - (l.length : Int) := by omega
    rw [e] at e1
    refine ⟨v, ?_, ?_⟩
    · simp only [show ¬ (1048576 - (l.length : Int)) < 0 from by omega, if_false]
      exact e1
    · rcases e2 with e2 | e2
      · exact .inl e2
      · refine .inr ⟨by omega, fun y hy => ?_⟩
        obtain ⟨j, hj, rfl⟩ := List.mem_iff_getElem.1 hy
        exact e2 j (by omega) hj
/-- A position of the program for a position of the law. -/
def conv (p : S59) : S57 := ⟨p.f0, p.f1⟩
theorem toPosition_ev (a b : List Int) (ha : a.length ≤ 1048576) (hb : b.length ≤ 1048576) : Ev (fun k => laws_toPosition.f k a b) (a, b) := by
  unfold laws_toPosition.f
  exact Ev.bind (toIntS_ev a (by omega)) (Ev.bind (toIntS_ev b (by omega)) (Ev.now _))
theorem toPositionS_l (l : List S59) (hl : l.length ≤ 1048576) (h : ∀ y ∈ l, y.f0.length ≤ 1048576 ∧ y.f1.length ≤ 1048576) : ∀ (d i : Nat) (ys : List S57), i + d = l.length → ys.length = l.length → (∀ j, j < i → ys[j]? = (l.map conv)[j]?) →
    Ev (fun k => laws_toPositionS.l0 k l ys (i : Int)) (l.map conv) := by
  intro d
  induction d with
  | zero =>
    intro i ys hi hy hj
    have c : ¬ (i : Int) < (l.length : Int) := by omega
    have : ys = l.map conv := by
      apply List.ext_getElem?
      intro j
      by_cases g : j < i
      · exact hj j g
      · rw [List.getElem?_eq_none (by omega), List.getElem?_eq_none (by rw [List.length_map]; omega)]
    subst this
    refine Ev.step (fun k => ?_) (Ev.now _)
    simp only [laws_toPositionS.l0, if_neg c]
  | succ d ih =>
    intro i ys hi hy hj
    have g1 : (i : Int) < (l.length : Int) := by omega
    have g1' : (i : Int) < (ys.length : Int) := by omega
    have g2 : (0 : Int) ≤ (i : Int) := Int.natCast_nonneg _
    have hil : i < l.length := by omega
    have hb := h l[i] (List.getElem_mem hil)
    refine Ev.step (f := ?f) (fun k => ?e) ?v
    case e => conv => lhs; simp only [laws_toPositionS.l0, if_pos g1, if_pos g2, rdL l i hil]
    case v =>
      refine Ev.bind (toPosition_ev _ _ hb.1 hb.2) ?_
      simp only [if_pos g1']
      rw [wsucc i (by omega), Int.toNat_natCast]
      refine ih (i + 1) _ (by omega) (by rw [List.length_set]; exact hy) (fun j hjl => ?_)
      rw [List.getElem?_set]
      by_cases e : i = j
      · subst e
        rw [if_pos rfl, if_pos (by omega), List.getElem?_map, List.getElem?_eq_getElem hil]
        rfl
      · rw [if_neg e]
        exact hj j (by omega)
theorem toPositionS_ev (l : List S59) (hl : l.length ≤ 1048576) (h : ∀ y ∈ l, y.f0.length ≤ 1048576 ∧ y.f1.length ≤ 1048576) : Ev (fun k => laws_toPositionS.f k l) (l.map conv) := by
  unfold laws_toPositionS.f
  simp only [if_pos (Int.natCast_nonneg l.length), Int.toNat_natCast, show l.length ≤ 5864062014805 from by omega, if_true]
  exact toPositionS_l l hl h l.length 0 _ (by omega) (by simp) (fun j hj => by omega)
/-- What the copies are like. -/
def Small (l : List S57) : Prop := l.length ≤ 1048576 ∧ ∀ y ∈ l, y.f0.length ≤ 1048576 ∧ y.f1.length ≤ 1048576
theorem small_conv (l : List S59) (hl : l.length ≤ 1048576) (h : ∀ y ∈ l, y.f0.length ≤ 1048576 ∧ y.f1.length ≤ 1048576) : Small (l.map conv) := by
  refine ⟨by rw [List.length_map]; exact hl, fun y hy => ?_⟩
  obtain ⟨x, hx, rfl⟩ := List.mem_map.1 hy
  exact h x hx
theorem eqPosition_ev (a b : List Int) (ha : a.length ≤ 1048576) (hb : b.length ≤ 1048576) : Ev (fun k => laws_eqPosition.f k a b a b) true := by
  unfold laws_eqPosition.f
  refine Ev.bind (eqIntS_ev a (by omega)) ?_
  simp only [if_true]
  exact Ev.bind (eqIntS_ev b (by omega)) (Ev.now _)
theorem eqPositionS_l (l : List S57) (h : Small l) : ∀ (d i : Nat), i + d = l.length → Ev (fun k => laws_eqPositionS.l0 k l l (i : Int)) true := by
  have hl := h.1
  intro d
  induction d with
  | zero =>
    intro i hi
    have c : ¬ (i : Int) < (l.length : Int) := by omega
    refine Ev.step (fun k => ?_) (Ev.now _)
    simp only [laws_eqPositionS.l0, if_neg c]
  | succ d ih =>
    intro i hi
    have g1 : (i : Int) < (l.length : Int) := by omega
    have g2 : (0 : Int) ≤ (i : Int) := Int.natCast_nonneg _
    have hil : i < l.length := by omega
    have hb := h.2 l[i] (List.getElem_mem hil)
    refine Ev.step (f := ?f) (fun k => ?e) ?v
    case e => conv => lhs; simp only [laws_eqPositionS.l0, if_pos g1, if_pos g2, rdI l i hil]
    case v =>
      refine Ev.bind (eqPosition_ev _ _ hb.1 hb.2) ?_
      simp only [if_true]
      rw [wsucc i (by omega)]
      exact ih (i + 1) (by omega)
theorem eqPositionS_ev (l : List S57) (h : Small l) : Ev (fun k => laws_eqPositionS.f k l l) true := by
  unfold laws_eqPositionS.f
  simp only [if_true]
  exact eqPositionS_l l h l.length 0 (by omega)

/-! ### what is a game, on both sides -/
theorem in_eq (e a b : Int) : spec_l1In.f e a b = impl_in.f e a b := rfl
theorem in_some (e a b : Int) : impl_in.f e a b = some (decide (a ≤ e ∧ e ≤ b)) := by
  unfold impl_in.f
  by_cases h : e ≥ a
  · rw [if_pos h]; congr 1; simp; omega
  · rw [if_neg h]; congr 1; simp; omega
theorem rising_same (x z : List Int) (i n : Int) : ∀ (k : Nat) (j : Int), spec_l1Rising.l0 k x 0 (wrap64 (i - 1)) z n j = impl_risingBelow.l0 k x i z n j
  | 0, _ => rfl
  | k + 1, j => by simp only [spec_l1Rising.l0, impl_risingBelow.l0, in_eq, rising_same x z i n k]
theorem rising_l (x : List Int) (n : Int) (hx : x.length ≤ 1048576) : ∀ (d j : Nat), j + d = x.length → ∃ b : Bool, Ev (fun k => impl_risingBelow.l0 k x n x (x.length : Int) (j : Int)) b := by
  intro d
  induction d with
  | zero =>
    intro j hj
    have c : ¬ (j : Int) < (x.length : Int) := by omega
    refine ⟨true, Ev.step (fun k => ?_) (Ev.now _)⟩
    simp only [impl_risingBelow.l0, if_neg c]
  | succ d ih =>
    intro j hj
    have g1 : (j : Int) < (x.length : Int) := by omega
    have g2 : (0 : Int) ≤ (j : Int) := Int.natCast_nonneg _
    obtain ⟨b, hb⟩ := ih (j + 1) (by omega)
    have hs : wrap64 ((j : Int) + 1) = ((j + 1 : Nat) : Int) := wsucc j (by omega)
    by_cases h : 0 ≤ rd x (j : Int) ∧ rd x (j : Int) ≤ wrap64 (n - 1)
    · by_cases h0 : (j : Int) > 0
      · have hp : wrap64 ((j : Int) - 1) = ((j - 1 : Nat) : Int) := by clear hs h; unfold wrap64; omega
        have g3 : (0 : Int) ≤ ((j - 1 : Nat) : Int) := Int.natCast_nonneg _
        have g4 : ((j - 1 : Nat) : Int) < (x.length : Int) := by clear hs h hp; omega
        by_cases h5 : rd x ((j - 1 : Nat) : Int) ≥ rd x (j : Int)
        · refine ⟨false, Ev.step (fun k => ?_) (Ev.now _)⟩
          simp only [impl_risingBelow.l0, if_pos g1, if_pos g2, in_some, h, and_self, decide_true, Option.bind_some, if_true, if_pos h0, hp, if_pos g3, if_pos g4, if_pos h5]
        · refine ⟨b, Ev.step (fun k => ?_) hb⟩
          simp only [impl_risingBelow.l0, if_pos g1, if_pos g2, in_some, h, and_self, decide_true, Option.bind_some, if_true, if_pos h0, hp, if_pos g3, if_pos g4, if_neg h5, hs]
      · refine ⟨b, Ev.step (fun k => ?_) hb⟩
        simp only [impl_risingBelow.l0, if_pos g1, if_pos g2, in_some, h, and_self, decide_true, Option.bind_some, if_true, if_neg h0, hs]
    · refine ⟨false, Ev.step (fun k => ?_) (Ev.now _)⟩
      simp only [impl_risingBelow.l0, if_pos g1, if_pos g2, in_some, h, decide_false, Option.bind_some, Bool.false_eq_true, if_false]
theorem rising_ev (x : List Int) (n : Int) (hx : x.length ≤ 1048576) : ∃ b : Bool, Ev (fun k => impl_risingBelow.f k x n) b := rising_l x n hx x.length 0 (by omega)
theorem game_same (x z : List S57) (n : Int) : ∀ (k : Nat) (j : Int), spec_gaGood.l0 k x z n j = impl_IsGame.l0 k x z n j
  | 0, _ => rfl
  | k + 1, j => by
    simp only [spec_gaGood.l0, impl_IsGame.l0, in_eq, spec_l1Rising.f, impl_risingBelow.f, rising_same, game_same x z n k]
theorem game_l (l : List S57) (h : Small l) : ∀ (d i : Nat), i + d = l.length → ∃ b : Bool, Ev (fun k => impl_IsGame.l0 k l l (l.length : Int) (i : Int)) b := by
  have hl := h.1
  intro d
  induction d with
  | zero =>
    intro i hi
    have c : ¬ (i : Int) < (l.length : Int) := by omega
    refine ⟨decide (1 ≤ (l.length : Int) ∧ (l.length : Int) ≤ 40), Ev.step (fun k => ?_) (Ev.now _)⟩
    simp only [impl_IsGame.l0, if_neg c, in_some, Option.bind_some]
  | succ d ih =>
    intro i hi
    have g1 : (i : Int) < (l.length : Int) := by omega
    have g2 : (0 : Int) ≤ (i : Int) := Int.natCast_nonneg _
    have hil : i < l.length := by omega
    have hb := h.2 l[i] (List.getElem_mem hil)
    obtain ⟨b, e⟩ := ih (i + 1) (by omega)
    obtain ⟨b1, e1⟩ := rising_ev l[i].f0 (i : Int) hb.1
    obtain ⟨b2, e2⟩ := rising_ev l[i].f1 (i : Int) hb.2
    have hs : wrap64 ((i : Int) + 1) = ((i + 1 : Nat) : Int) := wsucc i (by omega)
    have key : ∃ c : Bool, Ev (fun k => (impl_risingBelow.f k l[i].f0 (i : Int)).bind fun t => if t = true then ((impl_risingBelow.f k l[i].f1 (i : Int)).bind fun u => if u = true then impl_IsGame.l0 k l l (l.length : Int) ((i + 1 : Nat) : Int) else some false) else some false) c := by
      cases b1 with
      | false => exact ⟨false, Ev.bind e1 (Ev.now _)⟩
      | true =>
        cases b2 with
        | false => exact ⟨false, Ev.bind e1 (Ev.bind e2 (Ev.now _))⟩
        | true => exact ⟨b, Ev.bind e1 (Ev.bind e2 e)⟩
    obtain ⟨c, hc⟩ := key
    refine ⟨c, Ev.step (fun k => ?_) hc⟩
    simp only [impl_IsGame.l0, if_pos g1, if_pos g2, rdI l i hil, hs]
theorem game_ev (l : List S57) (h : Small l) : ∃ b : Bool, Ev (fun k => impl_IsGame.f k l) b ∧ Ev (fun k => spec_gaGood.f k l) b := by
  obtain ⟨b, hb⟩ := game_l l h l.length 0 (by omega)
  exact ⟨b, hb, Ev.congr (fun k => game_same l l _ k _) hb⟩

/-! ### what a game's positions are like -/
theorem rd_nat (x : List Int) (i : Nat) (h : i < x.length) : rd x (i : Int) = x[i] := by
  simp [rd, List.getD_eq_getElem?_getD, List.getElem?_eq_getElem h]
theorem rising_t (x : List Int) (n : Int) (hx : x.length ≤ 1048576) (hn : 0 ≤ n ∧ n ≤ 1048576) : ∀ (d j : Nat), j + d = x.length → ∃ b : Bool, Ev (fun k => impl_risingBelow.l0 k x n x (x.length : Int) (j : Int)) b ∧ (b = true → ∀ i : Nat, j ≤ i → (h : i < x.length) → 0 ≤ x[i] ∧ x[i] < n ∧ (0 < i → rd x ((i - 1 : Nat) : Int) < x[i])) := by
  intro d
  induction d with
  | zero =>
    intro j hj
    have c : ¬ (j : Int) < (x.length : Int) := by omega
    refine ⟨true, Ev.step (fun k => ?_) (Ev.now _), fun _ i h1 h2 => by omega⟩
    simp only [impl_risingBelow.l0, if_neg c]
  | succ d ih =>
    intro j hj
    have g1 : (j : Int) < (x.length : Int) := by omega
    have g2 : (0 : Int) ≤ (j : Int) := Int.natCast_nonneg _
    have hjl : j < x.length := by omega
    obtain ⟨b, hb, hq⟩ := ih (j + 1) (by omega)
    have hs : wrap64 ((j : Int) + 1) = ((j + 1 : Nat) : Int) := wsucc j (by omega)
    have hw : wrap64 (n - 1) = n - 1 := by clear hs; unfold wrap64; omega
    by_cases h : 0 ≤ rd x (j : Int) ∧ rd x (j : Int) ≤ wrap64 (n - 1)
    · have h' := h
      rw [hw, rd_nat x j hjl] at h'
      clear hw
      by_cases h0 : (j : Int) > 0
      · have hp : wrap64 ((j : Int) - 1) = ((j - 1 : Nat) : Int) := by clear hs h; unfold wrap64; omega
        have g3 : (0 : Int) ≤ ((j - 1 : Nat) : Int) := Int.natCast_nonneg _
        have g4 : ((j - 1 : Nat) : Int) < (x.length : Int) := by clear hs h hp; omega
        by_cases h5 : rd x ((j - 1 : Nat) : Int) ≥ rd x (j : Int)
        · refine ⟨false, Ev.step (fun k => ?_) (Ev.now _), fun e => by cases e⟩
          simp only [impl_risingBelow.l0, if_pos g1, if_pos g2, in_some, h, and_self, decide_true, Option.bind_some, if_true, if_pos h0, hp, if_pos g3, if_pos g4, if_pos h5]
        · refine ⟨b, Ev.step (fun k => ?_) hb, fun e i h1 h2 => ?_⟩
          · simp only [impl_risingBelow.l0, if_pos g1, if_pos g2, in_some, h, and_self, decide_true, Option.bind_some, if_true, if_pos h0, hp, if_pos g3, if_pos g4, if_neg h5, hs]
          · by_cases e2 : i = j
            · subst e2
              rw [rd_nat x i hjl] at h5
              clear hs h hp
              exact ⟨h'.1, by omega, fun _ => by omega⟩
            · exact hq e i (by omega) h2
      · refine ⟨b, Ev.step (fun k => ?_) hb, fun e i h1 h2 => ?_⟩
        · simp only [impl_risingBelow.l0, if_pos g1, if_pos g2, in_some, h, and_self, decide_true, Option.bind_some, if_true, if_neg h0, hs]
        · by_cases e2 : i = j
          · subst e2
            clear hs h
            exact ⟨h'.1, by omega, fun _ => by omega⟩
          · exact hq e i (by omega) h2
    · refine ⟨false, Ev.step (fun k => ?_) (Ev.now _), fun e => by cases e⟩
      simp only [impl_risingBelow.l0, if_pos g1, if_pos g2, in_some, h, decide_false, Option.bind_some, Bool.false_eq_true, if_false]
def Rise (x : List Int) (n : Int) : Prop := (∀ y ∈ x, 0 ≤ y ∧ y < n) ∧ x.Pairwise (· < ·)
theorem rise_of {x : List Int} {n : Int} (h : ∀ i : Nat, 0 ≤ i → (h : i < x.length) → 0 ≤ x[i] ∧ x[i] < n ∧ (0 < i → rd x ((i - 1 : Nat) : Int) < x[i])) : Rise x n := by
  refine ⟨fun y hy => ?_, ?_⟩
  · obtain ⟨i, hi, rfl⟩ := List.mem_iff_getElem.1 hy
    exact ⟨(h i (by omega) hi).1, (h i (by omega) hi).2.1⟩
  · rw [List.pairwise_iff_getElem]
    intro i j hi hj hij
    induction j with
    | zero => omega
    | succ j ih =>
      have h1 := (h (j + 1) (by omega) hj).2.2 (by omega)
      rw [show j + 1 - 1 = j from rfl, rd_nat x j (by omega)] at h1
      by_cases e : i = j
      · subst e; exact h1
      · have := ih (by omega) (by omega)
        omega
theorem rising_ev2 (x : List Int) (n : Int) (hx : x.length ≤ 1048576) (hn : 0 ≤ n ∧ n ≤ 1048576) : ∃ b : Bool, Ev (fun k => impl_risingBelow.f k x n) b ∧ (b = true → Rise x n) := by
  obtain ⟨b, h1, h2⟩ := rising_t x n hx hn x.length 0 (by omega)
  exact ⟨b, h1, fun e => rise_of (h2 e)⟩
/-- A game: from 1 to 40 positions, whose options rise and come before them. -/
def Gm (l : List S57) : Prop := 1 ≤ l.length ∧ l.length ≤ 40 ∧ ∀ i : Nat, (h : i < l.length) → Rise l[i].f0 (i : Int) ∧ Rise l[i].f1 (i : Int)
theorem game_t (l : List S57) (h : Small l) : ∀ (d i : Nat), i + d = l.length → ∃ b : Bool, Ev (fun k => impl_IsGame.l0 k l l (l.length : Int) (i : Int)) b ∧ (b = true → 1 ≤ l.length ∧ l.length ≤ 40 ∧ ∀ j : Nat, i ≤ j → (hj : j < l.length) → Rise l[j].f0 (j : Int) ∧ Rise l[j].f1 (j : Int)) := by
  have hl := h.1
  intro d
  induction d with
  | zero =>
    intro i hi
    have c : ¬ (i : Int) < (l.length : Int) := by omega
    refine ⟨decide (1 ≤ (l.length : Int) ∧ (l.length : Int) ≤ 40), Ev.step (fun k => ?_) (Ev.now _), fun e => ?_⟩
    · simp only [impl_IsGame.l0, if_neg c, in_some, Option.bind_some]
    · have := of_decide_eq_true e
      exact ⟨by omega, by omega, fun j h1 h2 => by omega⟩
  | succ d ih =>
    intro i hi
    have g1 : (i : Int) < (l.length : Int) := by omega
    have g2 : (0 : Int) ≤ (i : Int) := Int.natCast_nonneg _
    have hil : i < l.length := by omega
    have hb := h.2 l[i] (List.getElem_mem hil)
    obtain ⟨b, e, q⟩ := ih (i + 1) (by omega)
    obtain ⟨b1, e1, q1⟩ := rising_ev2 l[i].f0 (i : Int) hb.1 (by omega)
    obtain ⟨b2, e2, q2⟩ := rising_ev2 l[i].f1 (i : Int) hb.2 (by omega)
    have hs : wrap64 ((i : Int) + 1) = ((i + 1 : Nat) : Int) := wsucc i (by omega)
    have key : ∃ c : Bool, Ev (fun k => (impl_risingBelow.f k l[i].f0 (i : Int)).bind fun t => if t = true then ((impl_risingBelow.f k l[i].f1 (i : Int)).bind fun u => if u = true then impl_IsGame.l0 k l l (l.length : Int) ((i + 1 : Nat) : Int) else some false) else some false) c ∧ (c = true → 1 ≤ l.length ∧ l.length ≤ 40 ∧ ∀ j : Nat, i ≤ j → (hj : j < l.length) → Rise l[j].f0 (j : Int) ∧ Rise l[j].f1 (j : Int)) := by
      clear hs
      cases b1 with
      | false => exact ⟨false, Ev.bind e1 (Ev.now _), fun e => by cases e⟩
      | true =>
        cases b2 with
        | false => exact ⟨false, Ev.bind e1 (Ev.bind e2 (Ev.now _)), fun e => by cases e⟩
        | true =>
          refine ⟨b, Ev.bind e1 (Ev.bind e2 e), fun eb => ?_⟩
          obtain ⟨r1, r2, r3⟩ := q eb
          refine ⟨r1, r2, fun j hj hjl => ?_⟩
          by_cases e3 : j = i
          · subst e3
            exact ⟨q1 rfl, q2 rfl⟩
          · exact r3 j (by omega) hjl
    obtain ⟨c, hc, hq⟩ := key
    refine ⟨c, Ev.step (fun k => ?_) hc, hq⟩
    simp only [impl_IsGame.l0, if_pos g1, if_pos g2, rdI l i hil, hs]
theorem game_ev2 (l : List S57) (h : Small l) : ∃ b : Bool, Ev (fun k => impl_IsGame.f k l) b ∧ Ev (fun k => spec_gaGood.f k l) b ∧ (b = true → Gm l) := by
  obtain ⟨b, hb, hq⟩ := game_t l h l.length 0 (by omega)
  refine ⟨b, hb, Ev.congr (fun k => game_same l l _ k _) hb, fun e => ?_⟩
  obtain ⟨h1, h2, h3⟩ := hq e
  exact ⟨h1, h2, fun i hi => h3 i (by omega) hi⟩

/-! ### marks in a list of numbers (nothing is asked of them after) -/
theorem markIntS_l : ∀ (d i m : Nat) (xs : List Int), i + d = xs.length → m + d < 2 ^ 61 → xs.length < 2 ^ 61 →
    ∃ ys : List Int, Ev (fun k => laws_markIntS.l0 k xs (m : Int) (i : Int)) (((m + d : Nat) : Int), ys) ∧ ys.length = xs.length := by
  intro d
  induction d with
  | zero =>
    intro i m xs hi hm hx
    refine ⟨xs, Ev.step (fun k => ?_) (Ev.now _), rfl⟩
    simp only [laws_markIntS.l0]
    rw [if_neg (by omega)]
    rfl
  | succ d ih =>
    intro i m xs hi hm hx
    obtain ⟨ys, h1, h2⟩ := ih (i + 1) (m + 1) (xs.set i (m : Int)) (by rw [List.length_set]; omega) (by omega) (by rw [List.length_set]; omega)
    rw [List.length_set] at h2
    have e : m + 1 + d = m + (d + 1) := by omega
    rw [e] at h1
    have g1 : (i : Int) < (xs.length : Int) := by omega
    have g2 : (0 : Int) ≤ (i : Int) := Int.natCast_nonneg _
    refine ⟨ys, Ev.step (fun k => ?_) h1, h2⟩
    simp only [laws_markIntS.l0, if_pos g1, if_pos g2]
    rw [wsucc i (by omega), wsucc m (by omega), Int.toNat_natCast]
theorem markIntS_ev (xs : List Int) (m : Nat) (h : xs.length + m < 2 ^ 60) : ∃ ys : List Int, Ev (fun k => laws_markIntS.f k xs (m : Int)) (((m + xs.length : Nat) : Int), ys) ∧ ys.length = xs.length ∧ True := by
  obtain ⟨ys, h1, h2⟩ := markIntS_l xs.length 0 m xs (by omega) (by omega) (by omega)
  exact ⟨ys, h1, h2, trivial⟩

/-! ### marks in the rows of positions, where nothing is asked of them after -/
def tot (l : List S57) : Nat := (l.map fun p => p.f0.length + p.f1.length).sum
theorem posmarks_ev : ∀ (l : List S57) (m : Nat), m + tot l < 2 ^ 59 → ∃ l' : List S57, Ev (fun k => laws_markPositionS.f k l (m : Int)) (((m + tot l : Nat) : Int), l') := by
  intro l
  induction l with
  | nil =>
    intro m hm
    exact ⟨[], Ev.congr (fun k => rfl) (Ev.now ((m : Int), []))⟩
  | cons p ps ih =>
    intro m hm
    have ht : tot (p :: ps) = p.f0.length + p.f1.length + tot ps := by simp [tot]
    rw [ht] at hm ⊢
    obtain ⟨y0, a1, a2, a3⟩ := markIntS_ev p.f0 m (by omega)
    obtain ⟨y1, b1, b2, b3⟩ := markIntS_ev p.f1 (m + p.f0.length) (by omega)
    obtain ⟨l', e1⟩ := ih (m + p.f0.length + p.f1.length) (by omega)
    rw [show m + p.f0.length + p.f1.length + tot ps = m + (p.f0.length + p.f1.length + tot ps) from by omega] at e1
    exact ⟨⟨y0, y1⟩ :: l', Ev.congr (fun k => rfl) (Ev.bind a1 (Ev.bind b1 (Ev.bind e1 (Ev.now _))))⟩
theorem tot_small {l : List S57} (h : Small l) : tot l ≤ 2 ^ 41 := by
  have : ∀ (L : List S57), (∀ y ∈ L, y.f0.length ≤ 1048576 ∧ y.f1.length ≤ 1048576) → tot L ≤ L.length * 2097152 := by
    intro L
    induction L with
    | nil => intro _; simp [tot]
    | cons p ps ih =>
      intro hL
      have h1 := hL p (by simp)
      have h2 := ih (fun y hy => hL y (by simp [hy]))
      have ht : tot (p :: ps) = p.f0.length + p.f1.length + tot ps := by simp [tot]
      rw [ht, List.length_cons]
      omega
  have h1 := this l h.2
  have h2 := h.1
  omega
theorem posmarks {l : List S57} (h : Small l) : ∃ (m : Nat) (l' : List S57), Ev (fun k => laws_markPositionS.f k l 1) ((m : Int), l') := by
  have ht := tot_small h
  obtain ⟨l', h1⟩ := posmarks_ev l 1 (by omega)
  exact ⟨_, l', h1⟩

/-! ### a game's form, as the walk asks it -/
theorem nat_of {y : Int} (h : 0 ≤ y) : ∃ m : Nat, y = (m : Int) := ⟨y.toNat, by omega⟩
theorem opt_in {g : List S57} (hw : jd.Wf g) (hs : Small g) (a : Nat) (ha : a < g.length) : ((rd_T57 g (a : Int)).f0.length ≤ 1048576 ∧ ∀ y ∈ (rd_T57 g (a : Int)).f0, 0 ≤ y ∧ y < (a : Int)) ∧ ((rd_T57 g (a : Int)).f1.length ≤ 1048576 ∧ ∀ y ∈ (rd_T57 g (a : Int)).f1, 0 ≤ y ∧ y < (a : Int)) := by
  rw [rdI g a ha]
  have z := hs.2 g[a] (List.getElem_mem ha)
  exact ⟨⟨z.1, (hw.2 a ha).1⟩, z.2, (hw.2 a ha).2⟩
theorem wf_game {g : List S57} (h : Gm g) (hs : Small g) : jd.wfB g = true := by
  unfold jd.wfB
  rw [Bool.and_eq_true, decide_eq_true_eq, List.all_eq_true]
  refine ⟨h.2.1, fun i hi => ?_⟩
  have hi' := List.mem_range.1 hi
  have q := h.2.2 i hi'
  have z := hs.2 g[i] (List.getElem_mem hi')
  rw [rdI g i hi', Bool.and_eq_true, Bool.and_eq_true, Bool.and_eq_true, List.all_eq_true, List.all_eq_true, decide_eq_true_eq, decide_eq_true_eq]
  exact ⟨⟨fun x hx => by simpa using q.1.1 x hx, fun x hx => by simpa using q.2.1 x hx⟩, z⟩

/-! ### marks in a list of claims, and marks that are held; the same list twice -/
theorem rdC (xs : List S84) (i : Nat) (h : i < xs.length) : rd_T84 xs (i : Int) = xs[i] := by
  simp [rd_T84, List.getD_eq_getElem?_getD, List.getElem?_eq_getElem h]
theorem rdset (xs : List S84) (i : Nat) (h : i < xs.length) (c : S84) : rd_T84 (xs.set i c) (i : Int) = c := by
  simp [rd_T84, List.getD_eq_getElem?_getD, h]
def mc (m : Nat) : S84 := ⟨(m : Int), ((m + 1 : Nat) : Int), (Int.tmod ((m + 1 + 1 : Nat) : Int) 3) == 0, ((m + 1 + 1 + 1 : Nat) : Int), ((m + 1 + 1 + 1 + 1 : Nat) : Int)⟩
theorem markClaimS_l : ∀ (d i m : Nat) (xs : List S84), i + d = xs.length → m + 5 * d < 2 ^ 60 → xs.length < 2 ^ 60 →
    ∃ ys : List S84, Ev (fun k => laws_markClaimS.l0 k xs (m : Int) (i : Int)) (((m + 5 * d : Nat) : Int), ys) ∧ ys.length = xs.length ∧ (∀ j, j < i → ys[j]? = xs[j]?) ∧
      Ev (fun k => laws_heldClaimS.l0 k ys (m : Int) (i : Int)) ((m + 5 * d : Nat) : Int) := by
  intro d
  induction d with
  | zero =>
    intro i m xs hi hm hx
    refine ⟨xs, Ev.step (fun k => ?_) (Ev.now _), rfl, fun _ _ => rfl, Ev.step (fun k => ?_) (Ev.now _)⟩
    · simp only [laws_markClaimS.l0]
      rw [if_neg (by omega)]
      rfl
    · simp only [laws_heldClaimS.l0]
      rw [if_neg (by omega)]
      rfl
  | succ d ih =>
    intro i m xs hi hm hx
    obtain ⟨ys, h1, h2, h3, h4⟩ := ih (i + 1) (m + 1 + 1 + 1 + 1 + 1) (xs.set i (mc m)) (by rw [List.length_set]; omega) (by omega) (by rw [List.length_set]; omega)
    rw [List.length_set] at h2
    have e : m + 1 + 1 + 1 + 1 + 1 + 5 * d = m + 5 * (d + 1) := by omega
    rw [e] at h1 h4
    have g1 : (i : Int) < (xs.length : Int) := by omega
    have g1' : (i : Int) < (ys.length : Int) := by omega
    have g2 : (0 : Int) ≤ (i : Int) := Int.natCast_nonneg _
    have hil : i < xs.length := by omega
    have g3 : rd_T84 ys (i : Int) = mc m := by
      have := h3 i (by omega)
      rw [List.getElem?_set_self (by omega)] at this
      simp [rd_T84, List.getD_eq_getElem?_getD, this]
    have e1 := wsucc m (by omega)
    have e2 := wsucc (m + 1) (by omega)
    have e3 := wsucc (m + 1 + 1) (by omega)
    have e4 := wsucc (m + 1 + 1 + 1) (by omega)
    have e5 := wsucc (m + 1 + 1 + 1 + 1) (by omega)
    have e6 := wsucc i (by omega)
    refine ⟨ys, Ev.step (fun k => ?_) h1, h2, fun j hj => ?_, Ev.step (fun k => ?_) h4⟩
    · simp only [laws_markClaimS.l0, if_pos g1, if_pos g2, Option.bind_some, Int.toNat_natCast, rdset xs i hil, List.set_set, e1, e2, e3, e4, e5, e6]
      rfl
    · have := h3 j (by clear e1 e2 e3 e4 e5 e6; omega)
      rwa [List.getElem?_set_ne (by clear e1 e2 e3 e4 e5 e6; omega)] at this
    · simp only [laws_heldClaimS.l0, if_pos g1', if_pos g2, g3, e1, e2, e3, e4, e5, e6, mc, if_true, bne_self_eq_false, Bool.false_eq_true, if_false]
theorem markClaimS_ev (xs : List S84) (h : xs.length ≤ 1048576) : ∃ (m : Nat) (ys : List S84), Ev (fun k => laws_markClaimS.f k xs 1) ((m : Int), ys) ∧ Ev (fun k => laws_heldClaimS.f k ys 1) (m : Int) := by
  obtain ⟨ys, h1, h2, _, h4⟩ := markClaimS_l xs.length 0 1 xs (by omega) (by omega) (by omega)
  exact ⟨_, ys, h1, h4⟩
theorem eqClaimS_l (l : List S84) (hl : l.length ≤ 1048576) : ∀ (d i : Nat), i + d = l.length → Ev (fun k => laws_eqClaimS.l0 k l l (i : Int)) true := by
  intro d
  induction d with
  | zero =>
    intro i hi
    have c : ¬ (i : Int) < (l.length : Int) := by omega
    refine Ev.step (fun k => ?_) (Ev.now _)
    simp only [laws_eqClaimS.l0, if_neg c]
  | succ d ih =>
    intro i hi
    have g1 : (i : Int) < (l.length : Int) := by omega
    have g2 : (0 : Int) ≤ (i : Int) := Int.natCast_nonneg _
    refine Ev.step (fun k => ?_) (ih (i + 1) (by omega))
    simp only [laws_eqClaimS.l0, if_pos g1, if_pos g2, laws_eqClaim.f, if_true, bne_self_eq_false, Bool.false_eq_true, if_false, Option.bind_some, wsucc i (by omega)]
theorem eqClaimS_ev (l : List S84) (hl : l.length ≤ 1048576) : Ev (fun k => laws_eqClaimS.f k l l) true := by
  unfold laws_eqClaimS.f
  simp only [if_true]
  exact eqClaimS_l l hl l.length 0 (by omega)

/-! ### the reference's claims behind one another, and the program's -/
def kn (L : List S84) (a b : Int) : Bool × Bool := ((pv.look L a b).isSome, (pv.look L a b).getD false)
theorem look_cons (c : S84) (L : List S84) (a b : Int) : pv.look (c :: L) a b = if c.f0 = a ∧ c.f1 = b then some c.f2 else pv.look L a b := by
  unfold pv.look
  rw [List.find?_cons]
  by_cases h : c.f0 = a ∧ c.f1 = b
  · rw [if_pos h, h.1, h.2]
    simp
  · rw [if_neg h]
    have : (c.f0 == a && c.f1 == b) = false := by
      rw [Bool.and_eq_false_iff]
      by_cases h1 : c.f0 = a
      · right; simpa using fun h2 => h ⟨h1, h2⟩
      · left; simpa using h1
    rw [this]
theorem known_l (L : List S84) (hl : L.length ≤ 1000000) (a b : Int) : ∀ (d i : Nat), i + d = L.length → Ev (fun k => spec_gaKnown.l0 k a b L (L.length : Int) (i : Int)) (kn (L.drop i) a b) := by
  intro d
  induction d with
  | zero =>
    intro i hi
    have c : ¬ (i : Int) < (L.length : Int) := by omega
    rw [List.drop_of_length_le (by omega)]
    refine Ev.step (fun k => ?_) (Ev.now _)
    simp only [spec_gaKnown.l0, if_neg c]
    rfl
  | succ d ih =>
    intro i hi
    have g1 : (i : Int) < (L.length : Int) := by omega
    have g2 : (0 : Int) ≤ (i : Int) := Int.natCast_nonneg _
    have hil : i < L.length := by omega
    rw [List.drop_eq_getElem_cons hil]
    by_cases h : L[i].f0 = a ∧ L[i].f1 = b
    · refine Ev.step (fun k => ?_) (Ev.now _)
      simp only [spec_gaKnown.l0, if_pos g1, if_pos g2, rdC L i hil, if_pos h.1, if_pos h.2]
      unfold kn
      rw [look_cons, if_pos h]
      rfl
    · have e : kn (L[i] :: L.drop (i + 1)) a b = kn (L.drop (i + 1)) a b := by unfold kn; rw [look_cons, if_neg h]
      rw [e]
      refine Ev.step (fun k => ?_) (ih (i + 1) (by omega))
      simp only [spec_gaKnown.l0, if_pos g1, if_pos g2, rdC L i hil, wsucc i (by omega)]
      by_cases h0 : L[i].f0 = a
      · rw [if_pos h0, if_neg (fun h1 => h ⟨h0, h1⟩)]
      · rw [if_neg h0]
theorem known_ev (L : List S84) (hl : L.length ≤ 1000000) (a b : Int) : Ev (fun k => spec_gaKnown.f k L a b) (kn L a b) := by
  unfold spec_gaKnown.f
  exact known_l L hl a b L.length 0 (by omega)
theorem j0_now (g : List S57) (L : List S84) (a b : Int) : Ev (fun k => spec_gaProve.j0 k g L a b true) L := by
  refine Ev.step (fun k => ?_) (Ev.now _)
  simp only [spec_gaProve.j0, if_true]
theorem over_ev (g : List S57) (L : List S84) (h : 200 < L.length) (hl : L.length ≤ 1000000) (a b : Int) : Ev (fun k => spec_gaProve.f k g L a b) L := by
  have hd : decide ((L.length : Int) > 200) = true := decide_eq_true (by omega)
  refine Ev.step (f := fun k => (spec_gaKnown.f k L a b).bind fun bt => if bt.1 = true then spec_gaProve.j0 k g L a b true else spec_gaProve.j0 k g L a b true) (fun k => ?_) ?_
  · simp only [spec_gaProve.f, hd]
  · refine Ev.bind (known_ev L hl a b) ?_
    simp only [ite_self]
    exact j0_now g L a b
theorem fold_done (run : List S84 → Int → List S84 × Bool) (mk : Int → S84) : ∀ (xs : List Int) (s : List S84 × S84), s.2.f2 = false → xs.foldl (pv.step run mk) s = s
  | [], _, _ => rfl
  | x :: xs, s, h => by
    have e : pv.step run mk s x = s := by unfold pv.step; rw [if_neg (by rw [h]; decide)]
    rw [List.foldl_cons, e]
    exact fold_done run mk xs s h
theorem pv_runlook {g : List S57} (hw : jd.Wf g) (N a b : Nat) (hab : a + b < N) (ha : a < g.length) (hb : b < g.length) (L : List S84) : pv.look (pv.run N g L a b).1 a b = some (pv.run N g L a b).2 := by
  obtain ⟨N, rfl⟩ : ∃ n, N = n + 1 := ⟨N - 1, by omega⟩
  rw [pv.run]
  cases h : pv.look L a b with
  | some v => exact h
  | none =>
    have k := pv.unk hw N a b ha hb L h
    show pv.look (_ ++ [_]) a b = some _
    rw [pv.look_snoc, k.1]
    show (if _ then some _ else none) = some _
    rw [if_pos k.2]
def fin (s : List S84 × S84) : List S84 := s.1 ++ [s.2]
structure Rel (S R : List S84) (M : Nat) : Prop where
  le : S.length ≤ M
  eq : S.length ≤ 200 → S = R
  gt : 200 < S.length → 200 < R.length
theorem Rel.of {S : List S84} {M : Nat} (h : S.length ≤ M) : Rel S S M := ⟨h, fun _ => rfl, id⟩
def Cmp (g : List S57) (N : Nat) : Prop := ∀ a b : Nat, a + b < N → a < g.length → b < g.length → ∀ L : List S84, L.length ≤ 300 →
  ∃ S, Ev (fun k => spec_gaProve.f k g L (a : Int) (b : Int)) S ∧ Rel S (pv.run N g L a b).1 (max L.length (200 + (a + b + 1)))
theorem l1_over (g : List S57) (a b : Nat)  (ys : List Int) (hys : ys.length ≤ 1048576) : ∀ (d i : Nat), i + d = ys.length → ∀ L : List S84, 200 < L.length → L.length ≤ 1000000 →
    ∃ c, Ev (fun k => spec_gaProve.l1 k g L (a : Int) (b : Int) ys (ys.length : Int) (i : Int)) (L ++ [c]) := by
  intro d
  induction d with
  | zero =>
    intro i hi L h1 h2
    have c : ¬ (i : Int) < (ys.length : Int) := by omega
    have g3 : L.length < 3518437208883 := by omega
    refine ⟨⟨a, b, true, 0, 0⟩, Ev.step (fun k => ?_) (Ev.now _)⟩
    simp only [spec_gaProve.l1, if_neg c, if_pos g3]
  | succ d ih =>
    intro i hi L h1 h2
    have g1 : (i : Int) < (ys.length : Int) := by omega
    have g2 : (0 : Int) ≤ (i : Int) := Int.natCast_nonneg _
    have hil : i < ys.length := by omega
    have g3 : L.length < 3518437208883 := by omega
    obtain ⟨c0, hc0⟩ := ih (i + 1) (by omega) L h1 h2
    have hw := wsucc i (by omega)
    cases hk : (kn L ys[i] (a : Int)).2 with
    | true =>
      refine ⟨⟨a, b, false, ys[i], 1⟩, Ev.step (f := fun k => (spec_gaProve.f k g L ys[i] (a : Int)).bind fun t => (spec_gaKnown.f k t ys[i] (a : Int)).bind fun bt => if bt.2 = true then (if t.length < 3518437208883 then some (t ++ [(⟨a, b, false, ys[i], 1⟩ : S84)]) else none) else spec_gaProve.l1 k g t (a : Int) (b : Int) ys (ys.length : Int) ((i + 1 : Nat) : Int)) (fun k => ?_) ?_⟩
      · simp only [spec_gaProve.l1, if_pos g1, if_pos g2, rd_nat ys i hil, hw]
      · refine Ev.bind (over_ev g L h1 h2 _ _) (Ev.bind (known_ev L h2 _ _) ?_)
        simp only [hk, if_true, if_pos g3]
        exact Ev.now _
    | false =>
      refine ⟨c0, Ev.step (f := fun k => (spec_gaProve.f k g L ys[i] (a : Int)).bind fun t => (spec_gaKnown.f k t ys[i] (a : Int)).bind fun bt => if bt.2 = true then (if t.length < 3518437208883 then some (t ++ [(⟨a, b, false, ys[i], 1⟩ : S84)]) else none) else spec_gaProve.l1 k g t (a : Int) (b : Int) ys (ys.length : Int) ((i + 1 : Nat) : Int)) (fun k => ?_) ?_⟩
      · simp only [spec_gaProve.l1, if_pos g1, if_pos g2, rd_nat ys i hil, hw]
      · refine Ev.bind (over_ev g L h1 h2 _ _) (Ev.bind (known_ev L h2 _ _) ?_)
        simp only [hk, Bool.false_eq_true, if_false]
        exact hc0
theorem l1_under {g : List S57} (hw : jd.Wf g) (hs : Small g) (N a b : Nat) (hab : a + b < N + 1) (ha : a < g.length) (hb : b < g.length) (IH : Cmp g N) (ys : List Int) (hys : ys.length ≤ 1048576) (hyb : ∀ y ∈ ys, 0 ≤ y ∧ y < ((b : Int) : Int)) : ∀ (d i : Nat), i + d = ys.length → ∀ L : List S84, L.length ≤ 200 →
    ∃ S, Ev (fun k => spec_gaProve.l1 k g L (a : Int) (b : Int) ys (ys.length : Int) (i : Int)) S ∧ Rel S (fin ((ys.drop i).foldl (pv.step (fun L y => pv.run N g L y (a : Int)) (fun y => (⟨a, b, false, y, 1⟩ : S84))) (L, ⟨a, b, true, 0, 0⟩))) (200 + (a + b + 1)) := by
  have hq : jd.Wf g := hw
  have hg40 := hw.1
  intro d
  induction d with
  | zero =>
    intro i hi L h1
    have c : ¬ (i : Int) < (ys.length : Int) := by omega
    rw [List.drop_of_length_le (by omega)]
    have g3 : L.length < 3518437208883 := by omega
    refine ⟨L ++ [⟨a, b, true, 0, 0⟩], Ev.step (fun k => ?_) (Ev.now _), ?_⟩
    · simp only [spec_gaProve.l1, if_neg c, if_pos g3]
    · rw [List.foldl_nil]
      exact Rel.of (by rw [List.length_append, List.length_singleton]; omega)
  | succ d ih =>
    intro i hi L h1
    have g1 : (i : Int) < (ys.length : Int) := by omega
    have g2 : (0 : Int) ≤ (i : Int) := Int.natCast_nonneg _
    have hil : i < ys.length := by omega
    obtain ⟨z1, z2⟩ := hyb ys[i] (List.getElem_mem hil)
    obtain ⟨m, hm⟩ := nat_of z1
    have hw1 := wsucc i (by omega)
    obtain ⟨S', e1, r0, r1, r2⟩ := IH m a (by clear hw1; omega) (by clear hw1; omega) (by clear hw1; omega) L (by omega)
    have r3 : S'.length ≤ 1000000 := by clear hw1; have := Nat.max_le.2 (⟨by omega, by omega⟩ : L.length ≤ 1000 ∧ 200 + ((m + a) + 1) ≤ 1000); omega
    have g3 : S'.length < 3518437208883 := by omega
    have hlk := pv_runlook hq N m a (by clear hw1; omega) (by clear hw1; omega) (by clear hw1; omega) L
    have hbody : ∀ S, Ev (fun k => if (kn S' (m : Int) (a : Int)).2 = true then (if S'.length < 3518437208883 then some (S' ++ [(⟨a, b, false, (m : Int), 1⟩ : S84)]) else none) else spec_gaProve.l1 k g S' (a : Int) (b : Int) ys (ys.length : Int) ((i + 1 : Nat) : Int)) S → Ev (fun k => spec_gaProve.l1 k g L (a : Int) (b : Int) ys (ys.length : Int) (i : Int)) S := by
      intro S hS
      refine Ev.step (f := fun k => (spec_gaProve.f k g L (m : Int) (a : Int)).bind fun t => (spec_gaKnown.f k t (m : Int) (a : Int)).bind fun bt => if bt.2 = true then (if t.length < 3518437208883 then some (t ++ [(⟨a, b, false, (m : Int), 1⟩ : S84)]) else none) else spec_gaProve.l1 k g t (a : Int) (b : Int) ys (ys.length : Int) ((i + 1 : Nat) : Int)) (fun k => ?_) ?_
      · simp only [spec_gaProve.l1, if_pos g1, if_pos g2, rd_nat ys i hil, hw1, hm]
      · exact Ev.bind e1 (Ev.bind (known_ev S' r3 _ _) hS)
    clear hw1
    rw [List.drop_eq_getElem_cons hil, List.foldl_cons, hm]
    have hst : (pv.step (fun L y => pv.run N g L y (a : Int)) (fun y => (⟨a, b, false, y, 1⟩ : S84))) (L, ⟨a, b, true, 0, 0⟩) (m : Int) = ((pv.run N g L (m : Int) (a : Int)).1, if (pv.run N g L (m : Int) (a : Int)).2 = true then ⟨a, b, false, m, 1⟩ else ⟨a, b, true, 0, 0⟩) := by unfold pv.step; rw [if_pos rfl]
    rw [hst]
    by_cases hS : S'.length ≤ 200
    · have hSR := r1 hS
      have hk2 : (kn S' (m : Int) (a : Int)).2 = (pv.run N g L (m : Int) (a : Int)).2 := by unfold kn; rw [hSR, hlk]; rfl
      cases hh : (pv.run N g L (m : Int) (a : Int)).2 with
      | true =>
        rw [hh] at hk2
        refine ⟨S' ++ [⟨a, b, false, m, 1⟩], hbody _ ?_, ?_⟩
        · simp only [hk2, if_true, if_pos g3]
          exact Ev.now _
        · rw [if_pos rfl, ← hSR, fold_done _ _ _ _ rfl]
          unfold fin
          exact Rel.of (by rw [List.length_append, List.length_singleton]; omega)
      | false =>
        rw [hh] at hk2
        obtain ⟨S, e2, r4⟩ := ih (i + 1) (by omega) S' hS
        refine ⟨S, hbody _ ?_, ?_⟩
        · simp only [hk2, Bool.false_eq_true, if_false]
          exact e2
        · rw [if_neg (by decide), ← hSR]
          exact r4
    · have hR := r2 (by omega)
      obtain ⟨c, hc⟩ : ∃ c, Ev (fun k => if (kn S' (m : Int) (a : Int)).2 = true then (if S'.length < 3518437208883 then some (S' ++ [(⟨a, b, false, (m : Int), 1⟩ : S84)]) else none) else spec_gaProve.l1 k g S' (a : Int) (b : Int) ys (ys.length : Int) ((i + 1 : Nat) : Int)) (S' ++ [c]) := by
        cases hk2 : (kn S' (m : Int) (a : Int)).2 with
        | true =>
          simp only [if_true, if_pos g3]
          exact ⟨_, Ev.now _⟩
        | false =>
          simp only [Bool.false_eq_true, if_false]
          exact l1_over g a b  ys hys d (i + 1) (by omega) S' (by omega) r3
      refine ⟨S' ++ [c], hbody _ hc, ?_, fun h => ?_, fun _ => ?_⟩
      · rw [List.length_append, List.length_singleton]
        rcases Nat.le_total L.length (200 + ((m + a) + 1)) with h | h
        · rw [Nat.max_eq_right h] at r0
          omega
        · rw [Nat.max_eq_left h] at r0
          omega
      · rw [List.length_append, List.length_singleton] at h
        omega
      · refine Nat.lt_of_lt_of_le hR ?_
        have k2 := pv.fold_grow (fun L y => pv.run N g L y (a : Int)) (fun y => (⟨a, b, false, y, 1⟩ : S84)) (fun L y => pv.grow N g L y a) (ys.drop (i + 1)) ((pv.run N g L (m : Int) (a : Int)).1, if (pv.run N g L (m : Int) (a : Int)).2 = true then ⟨a, b, false, m, 1⟩ else ⟨a, b, true, 0, 0⟩)
        unfold fin
        rw [List.length_append]
        exact Nat.le_trans k2 (Nat.le_add_right _ _)
theorem l0_over (g : List S57) (a b : Nat) (hb : b < g.length) (hzz : (rd_T57 g (b : Int)).f1.length ≤ 1048576) (ys : List Int) (hys : ys.length ≤ 1048576) : ∀ (d i : Nat), i + d = ys.length → ∀ L : List S84, 200 < L.length → L.length ≤ 1000000 →
    ∃ c, Ev (fun k => spec_gaProve.l0 k g L (a : Int) (b : Int) ys (ys.length : Int) (i : Int)) (L ++ [c]) := by
  intro d
  induction d with
  | zero =>
    intro i hi L h1 h2
    have c : ¬ (i : Int) < (ys.length : Int) := by omega
    have gb : (0 : Int) ≤ (b : Int) := Int.natCast_nonneg _
    have gb2 : (b : Int) < (g.length : Int) := by omega
    obtain ⟨c0, hc0⟩ := l1_over g a b (rd_T57 g (b : Int)).f1 hzz (rd_T57 g (b : Int)).f1.length 0 (by omega) L h1 h2
    refine ⟨c0, Ev.step (fun k => ?_) hc0⟩
    simp only [spec_gaProve.l0, if_neg c, if_pos gb, if_pos gb2]
    rfl
  | succ d ih =>
    intro i hi L h1 h2
    have g1 : (i : Int) < (ys.length : Int) := by omega
    have g2 : (0 : Int) ≤ (i : Int) := Int.natCast_nonneg _
    have hil : i < ys.length := by omega
    have g3 : L.length < 3518437208883 := by omega
    obtain ⟨c0, hc0⟩ := ih (i + 1) (by omega) L h1 h2
    have hw := wsucc i (by omega)
    cases hk : (kn L (b : Int) ys[i]).2 with
    | true =>
      refine ⟨⟨a, b, false, ys[i], 0⟩, Ev.step (f := fun k => (spec_gaProve.f k g L (b : Int) ys[i]).bind fun t => (spec_gaKnown.f k t (b : Int) ys[i]).bind fun bt => if bt.2 = true then (if t.length < 3518437208883 then some (t ++ [(⟨a, b, false, ys[i], 0⟩ : S84)]) else none) else spec_gaProve.l0 k g t (a : Int) (b : Int) ys (ys.length : Int) ((i + 1 : Nat) : Int)) (fun k => ?_) ?_⟩
      · simp only [spec_gaProve.l0, if_pos g1, if_pos g2, rd_nat ys i hil, hw]
      · refine Ev.bind (over_ev g L h1 h2 _ _) (Ev.bind (known_ev L h2 _ _) ?_)
        simp only [hk, if_true, if_pos g3]
        exact Ev.now _
    | false =>
      refine ⟨c0, Ev.step (f := fun k => (spec_gaProve.f k g L (b : Int) ys[i]).bind fun t => (spec_gaKnown.f k t (b : Int) ys[i]).bind fun bt => if bt.2 = true then (if t.length < 3518437208883 then some (t ++ [(⟨a, b, false, ys[i], 0⟩ : S84)]) else none) else spec_gaProve.l0 k g t (a : Int) (b : Int) ys (ys.length : Int) ((i + 1 : Nat) : Int)) (fun k => ?_) ?_⟩
      · simp only [spec_gaProve.l0, if_pos g1, if_pos g2, rd_nat ys i hil, hw]
      · refine Ev.bind (over_ev g L h1 h2 _ _) (Ev.bind (known_ev L h2 _ _) ?_)
        simp only [hk, Bool.false_eq_true, if_false]
        exact hc0
theorem l0_under {g : List S57} (hw : jd.Wf g) (hs : Small g) (N a b : Nat) (hab : a + b < N + 1) (ha : a < g.length) (hb : b < g.length) (IH : Cmp g N) (ys : List Int) (hys : ys.length ≤ 1048576) (hyb : ∀ y ∈ ys, 0 ≤ y ∧ y < ((a : Int) : Int)) : ∀ (d i : Nat), i + d = ys.length → ∀ L : List S84, L.length ≤ 200 →
    ∃ S, Ev (fun k => spec_gaProve.l0 k g L (a : Int) (b : Int) ys (ys.length : Int) (i : Int)) S ∧ Rel S (fin ((rd_T57 g (b : Int)).f1.foldl (pv.step (fun L y => pv.run N g L y (a : Int)) (fun y => (⟨a, b, false, y, 1⟩ : S84))) ((ys.drop i).foldl (pv.step (fun L x => pv.run N g L (b : Int) x) (fun x => (⟨a, b, false, x, 0⟩ : S84))) (L, ⟨a, b, true, 0, 0⟩)))) (200 + (a + b + 1)) := by
  have hq : jd.Wf g := hw
  have hg40 := hw.1
  intro d
  induction d with
  | zero =>
    intro i hi L h1
    have c : ¬ (i : Int) < (ys.length : Int) := by omega
    rw [List.drop_of_length_le (by omega)]
    have gb : (0 : Int) ≤ (b : Int) := Int.natCast_nonneg _
    have gb2 : (b : Int) < (g.length : Int) := by omega
    obtain ⟨o1, o2⟩ := (opt_in hq hs b hb).2
    obtain ⟨S, e1, r⟩ := l1_under hq hs N a b hab ha hb IH (rd_T57 g (b : Int)).f1 o1 o2 (rd_T57 g (b : Int)).f1.length 0 (by omega) L h1
    refine ⟨S, Ev.step (fun k => ?_) e1, r⟩
    simp only [spec_gaProve.l0, if_neg c, if_pos gb, if_pos gb2]
    rfl
  | succ d ih =>
    intro i hi L h1
    have g1 : (i : Int) < (ys.length : Int) := by omega
    have g2 : (0 : Int) ≤ (i : Int) := Int.natCast_nonneg _
    have hil : i < ys.length := by omega
    obtain ⟨z1, z2⟩ := hyb ys[i] (List.getElem_mem hil)
    obtain ⟨m, hm⟩ := nat_of z1
    have hw1 := wsucc i (by omega)
    obtain ⟨S', e1, r0, r1, r2⟩ := IH b m (by clear hw1; omega) (by clear hw1; omega) (by clear hw1; omega) L (by omega)
    have r3 : S'.length ≤ 1000000 := by clear hw1; have := Nat.max_le.2 (⟨by omega, by omega⟩ : L.length ≤ 1000 ∧ 200 + ((b + m) + 1) ≤ 1000); omega
    have g3 : S'.length < 3518437208883 := by omega
    have hlk := pv_runlook hq N b m (by clear hw1; omega) (by clear hw1; omega) (by clear hw1; omega) L
    have hbody : ∀ S, Ev (fun k => if (kn S' (b : Int) (m : Int)).2 = true then (if S'.length < 3518437208883 then some (S' ++ [(⟨a, b, false, (m : Int), 0⟩ : S84)]) else none) else spec_gaProve.l0 k g S' (a : Int) (b : Int) ys (ys.length : Int) ((i + 1 : Nat) : Int)) S → Ev (fun k => spec_gaProve.l0 k g L (a : Int) (b : Int) ys (ys.length : Int) (i : Int)) S := by
      intro S hS
      refine Ev.step (f := fun k => (spec_gaProve.f k g L (b : Int) (m : Int)).bind fun t => (spec_gaKnown.f k t (b : Int) (m : Int)).bind fun bt => if bt.2 = true then (if t.length < 3518437208883 then some (t ++ [(⟨a, b, false, (m : Int), 0⟩ : S84)]) else none) else spec_gaProve.l0 k g t (a : Int) (b : Int) ys (ys.length : Int) ((i + 1 : Nat) : Int)) (fun k => ?_) ?_
      · simp only [spec_gaProve.l0, if_pos g1, if_pos g2, rd_nat ys i hil, hw1, hm]
      · exact Ev.bind e1 (Ev.bind (known_ev S' r3 _ _) hS)
    clear hw1
    rw [List.drop_eq_getElem_cons hil, List.foldl_cons, hm]
    have hst : (pv.step (fun L x => pv.run N g L (b : Int) x) (fun x => (⟨a, b, false, x, 0⟩ : S84))) (L, ⟨a, b, true, 0, 0⟩) (m : Int) = ((pv.run N g L (b : Int) (m : Int)).1, if (pv.run N g L (b : Int) (m : Int)).2 = true then ⟨a, b, false, m, 0⟩ else ⟨a, b, true, 0, 0⟩) := by unfold pv.step; rw [if_pos rfl]
    rw [hst]
    by_cases hS : S'.length ≤ 200
    · have hSR := r1 hS
      have hk2 : (kn S' (b : Int) (m : Int)).2 = (pv.run N g L (b : Int) (m : Int)).2 := by unfold kn; rw [hSR, hlk]; rfl
      cases hh : (pv.run N g L (b : Int) (m : Int)).2 with
      | true =>
        rw [hh] at hk2
        refine ⟨S' ++ [⟨a, b, false, m, 0⟩], hbody _ ?_, ?_⟩
        · simp only [hk2, if_true, if_pos g3]
          exact Ev.now _
        · rw [if_pos rfl, ← hSR, fold_done (fun L x => pv.run N g L (b : Int) x) (fun x => (⟨a, b, false, x, 0⟩ : S84)) _ _ rfl, fold_done (fun L y => pv.run N g L y (a : Int)) (fun y => (⟨a, b, false, y, 1⟩ : S84)) _ _ rfl]
          unfold fin
          exact Rel.of (by rw [List.length_append, List.length_singleton]; omega)
      | false =>
        rw [hh] at hk2
        obtain ⟨S, e2, r4⟩ := ih (i + 1) (by omega) S' hS
        refine ⟨S, hbody _ ?_, ?_⟩
        · simp only [hk2, Bool.false_eq_true, if_false]
          exact e2
        · rw [if_neg (by decide), ← hSR]
          exact r4
    · have hR := r2 (by omega)
      obtain ⟨c, hc⟩ : ∃ c, Ev (fun k => if (kn S' (b : Int) (m : Int)).2 = true then (if S'.length < 3518437208883 then some (S' ++ [(⟨a, b, false, (m : Int), 0⟩ : S84)]) else none) else spec_gaProve.l0 k g S' (a : Int) (b : Int) ys (ys.length : Int) ((i + 1 : Nat) : Int)) (S' ++ [c]) := by
        cases hk2 : (kn S' (b : Int) (m : Int)).2 with
        | true =>
          simp only [if_true, if_pos g3]
          exact ⟨_, Ev.now _⟩
        | false =>
          simp only [Bool.false_eq_true, if_false]
          exact l0_over g a b hb (opt_in hq hs b hb).2.1 ys hys d (i + 1) (by omega) S' (by omega) r3
      refine ⟨S' ++ [c], hbody _ hc, ?_, fun h => ?_, fun _ => ?_⟩
      · rw [List.length_append, List.length_singleton]
        rcases Nat.le_total L.length (200 + ((b + m) + 1)) with h | h
        · rw [Nat.max_eq_right h] at r0
          omega
        · rw [Nat.max_eq_left h] at r0
          omega
      · rw [List.length_append, List.length_singleton] at h
        omega
      · refine Nat.lt_of_lt_of_le hR ?_
        have k1 := pv.fold_grow (fun L x => pv.run N g L (b : Int) x) (fun x => (⟨a, b, false, x, 0⟩ : S84)) (fun L x => pv.grow N g L b x) (ys.drop (i + 1)) ((pv.run N g L (b : Int) (m : Int)).1, if (pv.run N g L (b : Int) (m : Int)).2 = true then ⟨a, b, false, m, 0⟩ else ⟨a, b, true, 0, 0⟩)
        have k2 := pv.fold_grow (fun L y => pv.run N g L y (a : Int)) (fun y => (⟨a, b, false, y, 1⟩ : S84)) (fun L y => pv.grow N g L y a) (rd_T57 g (b : Int)).f1 ((ys.drop (i + 1)).foldl (pv.step (fun L x => pv.run N g L (b : Int) x) (fun x => (⟨a, b, false, x, 0⟩ : S84))) ((pv.run N g L (b : Int) (m : Int)).1, if (pv.run N g L (b : Int) (m : Int)).2 = true then ⟨a, b, false, m, 0⟩ else ⟨a, b, true, 0, 0⟩))
        unfold fin
        rw [List.length_append]
        exact Nat.le_trans (Nat.le_trans k1 k2) (Nat.le_add_right _ _)
theorem cmp {g : List S57} (hw : jd.Wf g) (hs : Small g) : ∀ N, Cmp g N := by
  intro N
  induction N with
  | zero => intro a b h; omega
  | succ N ih =>
    intro a b hab ha hb L hL
    have hd : decide ((L.length : Int) > 200) = decide (L.length > 200) := by rw [decide_eq_decide]; omega
    have hf : ∀ S, Ev (fun k => if (kn L a b).1 = true then spec_gaProve.j0 k g L (a : Int) (b : Int) true else spec_gaProve.j0 k g L (a : Int) (b : Int) (decide (L.length > 200))) S → Ev (fun k => spec_gaProve.f k g L (a : Int) (b : Int)) S := by
      intro S h
      refine Ev.step (f := fun k => (spec_gaKnown.f k L a b).bind fun bt => if bt.1 = true then spec_gaProve.j0 k g L a b true else spec_gaProve.j0 k g L a b (decide (L.length > 200))) (fun k => ?_) (Ev.bind (known_ev L (by omega) _ _) h)
      simp only [spec_gaProve.f, hd]
    cases hk : pv.look L a b with
    | some v =>
      have hr : pv.run (N + 1) g L a b = (L, v) := by rw [pv.run]; simp only [hk]
      have k1 : (kn L a b).1 = true := by unfold kn; rw [hk]; rfl
      refine ⟨L, hf _ ?_, ?_⟩
      · simp only [k1, if_true]
        exact j0_now g L a b
      · rw [hr]
        exact Rel.of (Nat.le_max_left _ _)
    | none =>
      have k1 : (kn L a b).1 = false := by unfold kn; rw [hk]; rfl
      have hgr := pv.grow (N + 1) g L a b
      by_cases h2 : L.length > 200
      · refine ⟨L, hf _ ?_, Nat.le_max_left _ _, fun h => ?_, fun _ => ?_⟩
        · simp only [k1, Bool.false_eq_true, if_false, decide_eq_true h2]
          exact j0_now g L a b
        · omega
        · omega
      · have hr : (pv.run (N + 1) g L a b).1 = fin ((rd_T57 g (b : Int)).f1.foldl (pv.step (fun L y => pv.run N g L y (a : Int)) (fun y => (⟨a, b, false, y, 1⟩ : S84))) ((rd_T57 g (a : Int)).f0.foldl (pv.step (fun L x => pv.run N g L (b : Int) x) (fun x => (⟨a, b, false, x, 0⟩ : S84))) (L, ⟨a, b, true, 0, 0⟩))) := by
          rw [pv.run]
          simp only [hk]
          rfl
        have ga : (0 : Int) ≤ (a : Int) := Int.natCast_nonneg _
        have ga2 : (a : Int) < (g.length : Int) := by omega
        obtain ⟨o1, o2⟩ := (opt_in hw hs a ha).1
        obtain ⟨S, e1, r⟩ := l0_under hw hs N a b hab ha hb ih (rd_T57 g (a : Int)).f0 o1 o2 (rd_T57 g (a : Int)).f0.length 0 (by omega) L (by omega)
        rw [List.drop_zero] at r
        refine ⟨S, hf _ ?_, ?_⟩
        · simp only [k1, Bool.false_eq_true, if_false, decide_eq_false h2]
          refine Ev.step (fun k => ?_) e1
          simp only [spec_gaProve.j0, Bool.false_eq_true, if_false, if_pos ga, if_pos ga2]
          rfl
        · rw [hr]
          exact ⟨Nat.le_trans r.le (Nat.le_max_right _ _), r.eq, r.gt⟩
/-! the program's claims are about different pairs, so they are few -/
def Keys (n : Nat) (L : List S84) : Prop := (∀ c ∈ L, 0 ≤ c.f0 ∧ c.f0 < (n : Int) ∧ 0 ≤ c.f1 ∧ c.f1 < (n : Int)) ∧ L.Pairwise (fun c d => ¬ (c.f0 = d.f0 ∧ c.f1 = d.f1))
theorem look_none {L : List S84} {a b : Int} (h : pv.look L a b = none) : ∀ c ∈ L, ¬ (c.f0 = a ∧ c.f1 = b) := by
  induction L with
  | nil => intro c hc; cases hc
  | cons d L ih =>
    rw [look_cons] at h
    intro c hc
    by_cases e : d.f0 = a ∧ d.f1 = b
    · rw [if_pos e] at h
      cases h
    · rw [if_neg e] at h
      rcases List.mem_cons.1 hc with rfl | hc
      · exact e
      · exact ih h c hc
theorem keys {g : List S57} (hw : jd.Wf g) : ∀ (N a b : Nat), a < g.length → b < g.length → ∀ L : List S84, Keys g.length L → Keys g.length (pv.run N g L a b).1 := by
  intro N
  induction N with
  | zero => intro a b _ _ L h; exact h
  | succ N ih =>
    intro a b ha hb L h
    rw [pv.run]
    cases hk : pv.look L a b with
    | some v => exact h
    | none =>
      have hA : ∀ x ∈ (rd_T57 g (a : Int)).f0, 0 ≤ x ∧ x < (a : Int) := by rw [jd.at a ha]; exact (hw.2 a ha).1
      have hB : ∀ x ∈ (rd_T57 g (b : Int)).f1, 0 ≤ x ∧ x < (b : Int) := by rw [jd.at b hb]; exact (hw.2 b hb).2
      have k1 := pv.fold_keep (fun L x => pv.run N g L b x) (fun x => (⟨a, b, false, x, 0⟩ : S84)) (fun L => Keys g.length L ∧ pv.look L a b = none) a b (fun x => ⟨rfl, rfl⟩) _ (L, ⟨a, b, true, 0, 0⟩) (fun x hx L hL => by
        obtain ⟨x0, x1⟩ := hA x hx
        obtain ⟨n, rfl⟩ := nat_of x0
        exact ⟨ih b n hb (by omega) L hL.1, pv.keep hw a b none N b n hb (by omega) (by omega) L hL.2⟩) ⟨h, hk⟩ ⟨rfl, rfl⟩
      have k2 := pv.fold_keep (fun L y => pv.run N g L y a) (fun y => (⟨a, b, false, y, 1⟩ : S84)) (fun L => Keys g.length L ∧ pv.look L a b = none) a b (fun x => ⟨rfl, rfl⟩) _ _ (fun x hx L hL => by
        obtain ⟨x0, x1⟩ := hB x hx
        obtain ⟨n, rfl⟩ := nat_of x0
        exact ⟨ih n a (by omega) ha L hL.1, pv.keep hw a b none N n a (by omega) ha (by omega) L hL.2⟩) k1.1 k1.2
      obtain ⟨⟨q1, q2⟩, q3, q4⟩ := k2
      have hn := look_none q2
      show Keys g.length (_ ++ [_])
      refine ⟨fun c hc => ?_, ?_⟩
      · rcases List.mem_append.1 hc with hc | hc
        · exact q1.1 c hc
        · rw [List.mem_singleton.1 hc, q3, q4]
          omega
      · rw [List.pairwise_append]
        refine ⟨q1.2, List.pairwise_singleton _ _, fun c hc d hd => ?_⟩
        rw [List.mem_singleton.1 hd, q3, q4]
        exact hn c hc
theorem keys_few {n : Nat} (hn : n ≤ 40) {L : List S84} (h : Keys n L) : L.length ≤ 1600 := by
  have hm := MpP.few (L.map fun c => (c.f0.toNat, c.f1.toNat)) ?_ ?_
  · rwa [List.length_map] at hm
  · rw [List.Nodup, List.pairwise_map]
    refine (List.Pairwise.and_mem.1 h.2).imp ?_
    rintro c d ⟨hc, hd, hcd⟩ e
    have p1 := h.1 c hc
    have p2 := h.1 d hd
    injection e with e1 e2
    exact hcd ⟨by omega, by omega⟩
  · intro x hx
    obtain ⟨c, hc, rfl⟩ := List.mem_map.1 hx
    have p1 := h.1 c hc
    exact ⟨by show c.f0.toNat < 40; omega, by show c.f1.toNat < 40; omega⟩
theorem has2 (l : List S57) (h : Small l) (a b : Int) : ∃ t u : Bool, Ev (fun k => impl_hasPosition.f k l a) t ∧ Ev (fun k => spec_gaHas.f k l a) t ∧ (t = true → Ev (fun k => impl_hasPosition.f k l b) u) ∧ spec_l1In.f b 0 (wrap64 ((l.length : Int) - 1)) = some u ∧ (t = true → Gm l ∧ 0 ≤ a ∧ a < (l.length : Int)) ∧ (u = true → 0 ≤ b ∧ b < (l.length : Int)) := by
  obtain ⟨t, e1, e2, q⟩ := game_ev2 l h
  have hl := h.1
  have hw : wrap64 ((l.length : Int) - 1) = (l.length : Int) - 1 := by unfold wrap64; omega
  have hu : spec_l1In.f b 0 (wrap64 ((l.length : Int) - 1)) = some (decide (0 ≤ b ∧ b ≤ (l.length : Int) - 1)) := by rw [in_eq, in_some, hw]
  have hub : decide (0 ≤ b ∧ b ≤ (l.length : Int) - 1) = true → 0 ≤ b ∧ b < (l.length : Int) := fun e => by
    have := of_decide_eq_true e
    clear hw
    omega
  cases t with
  | false =>
    refine ⟨false, _, ?_, ?_, (fun e => by cases e), hu, (fun e => by cases e), hub⟩
    · unfold impl_hasPosition.f
      exact Ev.bind e1 (Ev.now _)
    · unfold spec_gaHas.f
      exact Ev.bind e2 (Ev.now _)
  | true =>
    refine ⟨decide (0 ≤ a ∧ a ≤ (l.length : Int) - 1), _, ?_, ?_, (fun _ => ?_), hu, (fun e => ⟨q rfl, ?_⟩), hub⟩
    · unfold impl_hasPosition.f
      refine Ev.bind e1 ?_
      simp only [if_true, in_some, hw, Option.bind_some]
      exact Ev.now _
    · unfold spec_gaHas.f
      refine Ev.bind e2 ?_
      simp only [if_true, in_eq, in_some, hw, Option.bind_some]
      exact Ev.now _
    · unfold impl_hasPosition.f
      refine Ev.bind e1 ?_
      simp only [if_true, in_some, hw, Option.bind_some]
      exact Ev.now _
    · have := of_decide_eq_true e
      clear hw
      omega
theorem order_ev {g : List S57} (hs : Small g) (a b : Int) : ∃ r : List S84 × Bool, Ev (fun k => spec_ProveOrder.f k g a b) r ∧ Ev (fun k => impl_ProveOrder.f k g a b) r ∧ r.1.length ≤ 200 := by
  obtain ⟨t, u, e1, e2, e3, e4, q1, q2⟩ := has2 g hs a b
  have hno : Ev (fun k => spec_ProveOrder.j0 k g a b true) (([] : List S84), false) := by
    refine Ev.step (fun k => ?_) (Ev.now _)
    simp only [spec_ProveOrder.j0, if_true]
  cases t with
  | false =>
    refine ⟨([], false), ?_, ?_, by simp⟩
    · unfold spec_ProveOrder.f
      refine Ev.bind e2 ?_
      simp only [Bool.false_eq_true, if_false]
      exact hno
    · unfold impl_ProveOrder.f
      refine Ev.bind e1 ?_
      simp only [Bool.false_eq_true, if_false]
      exact Ev.now _
  | true =>
    obtain ⟨hg, ha0, ha1⟩ := q1 rfl
    cases u with
    | false =>
      refine ⟨([], false), ?_, ?_, by simp⟩
      · unfold spec_ProveOrder.f
        refine Ev.bind e2 ?_
        simp only [if_true, e4, Option.bind_some, Bool.not_false]
        exact hno
      · unfold impl_ProveOrder.f
        refine Ev.bind e1 ?_
        simp only [if_true]
        refine Ev.bind (e3 rfl) ?_
        simp only [Bool.false_eq_true, if_false]
        exact Ev.now _
    | true =>
      obtain ⟨hb0, hb1⟩ := q2 rfl
      have hB := wf_game hg hs
      have hw := jd.wf_of hB
      obtain ⟨n, rfl⟩ := nat_of ha0
      obtain ⟨m, rfl⟩ := nat_of hb0
      have hn : n < g.length := by omega
      have hm : m < g.length := by omega
      obtain ⟨S, es, r⟩ := cmp hw hs (n + m + 1) n m (by omega) hn hm [] (by simp)
      have hfew := keys_few hw.1 (keys hw (n + m + 1) n m hn hm [] ⟨by simp, List.Pairwise.nil⟩)
      have hguard : (jd.wfB g && (decide (0 ≤ (n : Int)) && (decide ((n : Int) < (g.length : Int)) && (decide (0 ≤ (m : Int)) && (decide ((m : Int) < (g.length : Int)) && decide ((pv.run (n + m + 1) g [] (n : Int) (m : Int)).1.length ≤ 1000000)))))) = true := by
        rw [hB, decide_eq_true ha0, decide_eq_true ha1, decide_eq_true hb0, decide_eq_true hb1]
        simp only [Bool.true_and, decide_eq_true_eq, Int.toNat_natCast]
        omega
      have hi : ∀ r, Ev (fun _ => if (pv.run (n + m + 1) g [] (n : Int) (m : Int)).1.length > 200 then some (([] : List S84), false) else some ((pv.run (n + m + 1) g [] (n : Int) (m : Int)).1, true)) r → Ev (fun k => impl_ProveOrder.f k g (n : Int) (m : Int)) r := by
        intro r hr
        unfold impl_ProveOrder.f
        refine Ev.bind e1 ?_
        simp only [if_true]
        refine Ev.bind (e3 rfl) ?_
        simp only [if_true, Int.toNat_natCast, hguard]
        exact hr
      have hsp : ∀ r, Ev (fun _ => if (S.length : Int) > 200 then some (([] : List S84), false) else some (S, true)) r → Ev (fun k => spec_ProveOrder.f k g (n : Int) (m : Int)) r := by
        intro r hr
        unfold spec_ProveOrder.f
        refine Ev.bind e2 ?_
        simp only [if_true, e4, Option.bind_some, Bool.not_true]
        refine Ev.step (f := fun k => (spec_gaProve.f k g ([] : List S84) (n : Int) (m : Int)).bind fun t => if (t.length : Int) > 200 then some (([] : List S84), false) else some (t, true)) (fun k => ?_) (Ev.bind es hr)
        simp only [spec_ProveOrder.j0, Bool.false_eq_true, if_false]
      by_cases hS : S.length ≤ 200
      · have hE := r.eq hS
        refine ⟨(S, true), hsp _ ?_, hi _ ?_, hS⟩
        · rw [if_neg (by omega)]
          exact Ev.now _
        · rw [if_neg (by rw [← hE]; omega), ← hE]
          exact Ev.now _
      · have hR := r.gt (by omega)
        refine ⟨([], false), hsp _ ?_, hi _ ?_, by simp⟩
        · rw [if_pos (by omega)]
          exact Ev.now _
        · rw [if_pos hR]
          exact Ev.now _

theorem proved : laws_FnExactProveOrder.Pure := by
  intro l a b h _ _
  refine Ev.rounds ?_
  unfold laws_FnExactProveOrder.f
  obtain ⟨v, hv, hs⟩ := szPositionS_ev l ⟨h.1, fun y hy => ⟨(h.2 y hy).1.1, (h.2 y hy).2.1⟩⟩
  refine Ev.bind hv ?_
  by_cases hn : v < 0
  · simp only [if_pos hn]
    exact Ev.now _
  · simp only [if_neg hn]
    obtain ⟨h1, h2⟩ := hs.resolve_left hn
    have ht := toPositionS_ev l h1 h2
    have hsm := small_conv l h1 h2
    obtain ⟨r, s1, s2, r1⟩ := order_ev hsm a b
    obtain ⟨m0, l0', a1⟩ := posmarks hsm
    obtain ⟨m1, l1', b1, b2⟩ := markClaimS_ev r.1 (by omega)
    refine Ev.bind ht (Ev.bind s1 (Ev.bind s2 (Ev.bind (eqClaimS_ev _ (by omega)) (Ev.bind (eqPositionS_ev _ hsm) (Ev.bind a1 (Ev.bind b1 (Ev.bind b2 ?_)))))))
    refine Ev.congr (fun k => ?_) (Ev.now true)
    have q0 : (0 : Int) ≤ (m0 : Int) := Int.natCast_nonneg _
    have q1 : (0 : Int) ≤ (m1 : Int) := Int.natCast_nonneg _
    simp only [Bool.true_and, decide_eq_true q0, decide_eq_true q1, decide_true]

end LFnExactProveOrder
theorem FnExactProveOrder : laws_FnExactProveOrder.Pure := LFnExactProveOrder.proved
end Go.Proofs.Ytpiafobcmhfclaa.Pure
