/- For any list of positions, the program says 'game' just where the reference says so, and leaves the list as it was. -/
import Derived.Test.YtkbbipnocefmiaaQFnExactIsGamex3
namespace Go.Proofs.Ytkbbipnocefmiaa.Pure
open Go.RowKit Go.Proofs.Ytkbbipnocefmiaa.QFnExactIsGame Go.Proofs.YtkbbipnocefmiaaW.PrintWords Go.Proofs.YtkbbipnocefmiaaW.PrintLast
set_option linter.unusedVariables false
set_option linter.unusedSimpArgs false
def laws_FnExactIsGame.Pure : Prop := ∀ (l0 : List (S97)), (l0.length ≤ maxLen ∧ ∀ y0 ∈ l0, ((y0.f0.length ≤ maxLen ∧ ∀ y1 ∈ y0.f0, (Lit.int .i64 y1).wf = true) ∧ (y0.f1.length ≤ maxLen ∧ ∀ y1 ∈ y0.f1, (Lit.int .i64 y1).wf = true))) → ∃ k, laws_FnExactIsGame.f k l0 = some true
namespace LFnExactIsGame
/-! ### small words -/
theorem wsucc (i : Nat) (h : i < 2 ^ 62) : wrap64 ((i : Int) + 1) = ((i + 1 : Nat) : Int) := by unfold wrap64; omega
theorem drop_rd {l : List Int} {i : Nat} (h : i < l.length) : l.drop i = rd l (i : Int) :: l.drop (i + 1) := by
  rw [List.drop_eq_getElem_cons h]
  simp [rd, List.getD_eq_getElem?_getD, List.getElem?_eq_getElem h]

/-! ### a copy of a list of numbers is that list -/
theorem toIntS_l (x : List Int) (hx : x.length ≤ 2 ^ 60) : ∀ (d k i : Nat) (y : List Int), i + d = x.length → y.length = x.length → (∀ j, j < i → y[j]? = x[j]?) → d < k → laws_toIntS.l0 k x y i = some x := by
  intro d
  induction d with
  | zero =>
    intro k i y hi hy hj hk
    obtain ⟨k, rfl⟩ : ∃ m, k = m + 1 := ⟨k - 1, by omega⟩
    simp only [laws_toIntS.l0]
    rw [if_neg (by omega)]
    congr 1
    apply List.ext_getElem? 
    intro j
    by_cases h : j < i
    · exact hj j h
    · rw [List.getElem?_eq_none (by omega), List.getElem?_eq_none (by omega)]
  | succ d ih =>
    intro k i y hi hy hj hk
    obtain ⟨k, rfl⟩ : ∃ m, k = m + 1 := ⟨k - 1, by omega⟩
    have h1 : (i : Int) < (x.length : Int) := by omega
    have h2 : (0 : Int) ≤ (i : Int) := Int.natCast_nonneg _
    have h3 : (i : Int) < (y.length : Int) := by omega
    have h4 : i < x.length := by omega
    simp only [laws_toIntS.l0]
    rw [if_pos h1, if_pos h2, if_pos h3, wsucc i (by omega)]
    refine ih k (i + 1) _ (by omega) (by simpa using hy) ?_ (by omega)
    intro j hlt
    rw [Int.toNat_natCast, List.getElem?_set]
    by_cases e : i = j
    · subst e
      rw [if_pos rfl, if_pos (by omega)]
      simp [rd, List.getD_eq_getElem?_getD, List.getElem?_eq_getElem h4]
    · rw [if_neg e]
      exact hj j (by omega)
theorem toIntS (x : List Int) (hx : x.length ≤ 17592186044416) (k : Nat) (hk : x.length < k) : laws_toIntS.f k x = some x := by
  unfold laws_toIntS.f
  rw [if_pos (Int.natCast_nonneg _), if_pos (by rw [Int.toNat_natCast]; omega), Int.toNat_natCast]
  exact toIntS_l x (by omega) x.length k 0 _ (by omega) (by simp) (fun j h => by omega) hk

/-! ### a list of numbers equals itself -/
theorem eqIntS_l (x : List Int) (hx : x.length ≤ 2 ^ 60) : ∀ (d k i : Nat), i + d = x.length → d < k → laws_eqIntS.l0 k x x i = some true := by
  intro d
  induction d with
  | zero =>
    intro k i hi hk
    obtain ⟨k, rfl⟩ : ∃ m, k = m + 1 := ⟨k - 1, by omega⟩
    simp only [laws_eqIntS.l0]
    rw [if_neg (by omega)]
  | succ d ih =>
    intro k i hi hk
    obtain ⟨k, rfl⟩ : ∃ m, k = m + 1 := ⟨k - 1, by omega⟩
    have h1 : (i : Int) < (x.length : Int) := by omega
    have h2 : (0 : Int) ≤ (i : Int) := Int.natCast_nonneg _
    simp only [laws_eqIntS.l0, if_pos h1, if_pos h2, if_true]
    rw [wsucc i (by omega)]
    exact ih k (i + 1) (by omega) (by omega)
theorem eqIntS (x : List Int) (hx : x.length ≤ 17592186044416) (k : Nat) (hk : x.length < k) : laws_eqIntS.f k x x = some true := by
  unfold laws_eqIntS.f
  rw [if_pos rfl]
  exact eqIntS_l x (by omega) x.length k 0 (by omega) hk

/-! ### lists of numbers: the size asked, a copy, the same -/
theorem szIntS (l : List Int) (h : l.length ≤ maxLen) : laws_szIntS.f l 1048576 = some (if l.length > 1048576 then -1 else 1048576 - (l.length : Int)) := by
  unfold maxLen at h
  have hw : wrap64 (1048576 - (l.length : Int)) = 1048576 - (l.length : Int) := by unfold wrap64; omega
  unfold laws_szIntS.f
  rw [hw]
  clear hw
  by_cases g : l.length > 1048576
  · rw [if_pos (by omega), if_pos g]
  · rw [if_neg (by omega), if_neg g]
theorem toIntS_ev (x : List Int) (hx : x.length ≤ 17592186044416) : Ev (fun k => laws_toIntS.f k x) x := ⟨x.length + 1, fun k hk => toIntS x hx k (by omega)⟩
theorem eqIntS_ev (x : List Int) (hx : x.length ≤ 17592186044416) : Ev (fun k => laws_eqIntS.f k x x) true := ⟨x.length + 1, fun k hk => eqIntS x hx k (by omega)⟩

theorem szIntS' (l : List Int) (left : Nat) (h : l.length ≤ maxLen) (hl : left ≤ 1048576) : laws_szIntS.f l (left : Int) = some (if l.length > left then -1 else ((left - l.length : Nat) : Int)) := by
  unfold maxLen at h
  have hw : wrap64 ((left : Int) - (l.length : Int)) = (left : Int) - (l.length : Int) := by unfold wrap64; omega
  unfold laws_szIntS.f
  rw [hw]
  clear hw
  by_cases g : l.length > left
  · rw [if_pos (by omega), if_pos g]
  · rw [if_neg (by omega), if_neg g]
    congr 1
    omega

/-! ### lists of positions: their size, a copy, the same -/
theorem rdL (xs : List S97) (i : Nat) (h : i < xs.length) : rd_T97 xs (i : Int) = xs[i] := by
  simp [rd_T97, List.getD_eq_getElem?_getD, List.getElem?_eq_getElem h]
theorem rdI (xs : List S95) (i : Nat) (h : i < xs.length) : rd_T95 xs (i : Int) = xs[i] := by
  simp [rd_T95, List.getD_eq_getElem?_getD, List.getElem?_eq_getElem h]
theorem szPosition' (a b : List Int) (left : Nat) (ha : a.length ≤ maxLen) (hb : b.length ≤ maxLen) (hl : left ≤ 1048576) :
    ∃ v : Int, laws_szPosition.f a b (left : Int) = some v ∧ (v < 0 ∨ (a.length ≤ 1048576 ∧ b.length ≤ 1048576 ∧ ∃ n : Nat, v = (n : Int) ∧ n ≤ left)) := by
  unfold laws_szPosition.f
  rw [szIntS' a left ha hl]
  simp only [Option.bind_some]
  by_cases g : a.length > left
  · rw [if_pos g]
    exact ⟨-1, rfl, .inl (by omega)⟩
  · rw [if_neg g, if_neg (by omega), szIntS' b _ hb (by omega)]
    simp only [Option.bind_some]
    by_cases g2 : b.length > left - a.length
    · rw [if_pos g2]
      exact ⟨-1, rfl, .inl (by omega)⟩
    · rw [if_neg g2, if_neg (by omega)]
      exact ⟨_, rfl, .inr ⟨by omega, by omega, _, rfl, by omega⟩⟩
theorem szPositionS_l (l : List S97) (hl : l.length ≤ 1048576) (h : ∀ y ∈ l, y.f0.length ≤ maxLen ∧ y.f1.length ≤ maxLen) : ∀ (d i left : Nat), i + d = l.length → left ≤ 1048576 →
    ∃ v : Int, Ev (fun k => laws_szPositionS.l0 k l (left : Int) (i : Int)) v ∧ (v < 0 ∨ ∀ j : Nat, i ≤ j → ∀ hj : j < l.length, (l[j].f0.length ≤ 1048576 ∧ l[j].f1.length ≤ 1048576)) := by
  intro d
  induction d with
  | zero =>
    intro i left hi hf
    have c : ¬ (i : Int) < (l.length : Int) := by omega
    refine ⟨(left : Int), Ev.step (fun k => ?_) (Ev.now _), .inr fun j h1 h2 => by omega⟩
    simp only [laws_szPositionS.l0, if_neg c]
  | succ d ih =>
    intro i left hi hf
    have g1 : (i : Int) < (l.length : Int) := by omega
    have g2 : (0 : Int) ≤ (i : Int) := Int.natCast_nonneg _
    have hil : i < l.length := by omega
    have hb := h l[i] (List.getElem_mem hil)
    obtain ⟨v, h1, h2⟩ := szPosition' l[i].f0 l[i].f1 left hb.1 hb.2 hf
    rcases h2 with h2 | ⟨a1, a2, n, rfl, hn⟩
    · refine ⟨-1, Ev.step (fun k => ?_) (Ev.now _), .inl (by omega)⟩
      simp only [laws_szPositionS.l0, if_pos g1, if_pos g2, rdL l i hil, h1, Option.bind_some, if_pos h2]
    · obtain ⟨v, e1, e2⟩ := ih (i + 1) n (by omega) (by omega)
      have c : ¬ (n : Int) < 0 := by omega
      refine ⟨v, Ev.step (fun k => ?_) e1, ?_⟩
      · simp only [laws_szPositionS.l0, if_pos g1, if_pos g2, rdL l i hil, h1, Option.bind_some, if_neg c]
        rw [wsucc i (by omega)]
      · rcases e2 with e2 | e2
        · exact .inl e2
        · refine .inr fun j hj hjl => ?_
          by_cases e : j = i
          · subst e; exact ⟨a1, a2⟩
          · exact e2 j (by omega) hjl
theorem szPositionS_ev (l : List S97) (h : l.length ≤ maxLen ∧ ∀ y ∈ l, y.f0.length ≤ maxLen ∧ y.f1.length ≤ maxLen) :
    ∃ v : Int, Ev (fun k => laws_szPositionS.f k l 1048576) v ∧ (v < 0 ∨ (l.length ≤ 1048576 ∧ ∀ y ∈ l, y.f0.length ≤ 1048576 ∧ y.f1.length ≤ 1048576)) := by
  have hm : l.length ≤ 9223372036854775807 := h.1
  have hw : wrap64 (1048576 - (l.length : Int)) = 1048576 - (l.length : Int) := by unfold wrap64; omega
  unfold laws_szPositionS.f
  simp only [hw]
  clear hw
  by_cases g : l.length > 1048576
  · refine ⟨-1, ?_, .inl (by omega)⟩
    simp only [show (1048576 - (l.length : Int)) < 0 from by omega, if_true]
    exact Ev.now _
  · obtain ⟨v, e1, e2⟩ := szPositionS_l l (by omega) h.2 l.length 0 (1048576 - l.length) (by omega) (by omega)
    have e : ((1048576 - l.length : Nat) : Int) = 1048576 - (l.length : Int) := by omega
    rw [e] at e1
    refine ⟨v, ?_, ?_⟩
    · simp only [show ¬ (1048576 - (l.length : Int)) < 0 from by omega, if_false]
      exact e1
    · rcases e2 with e2 | e2
      · exact .inl e2
      · refine .inr ⟨by omega, fun y hy => ?_⟩
        obtain ⟨j, hj, rfl⟩ := List.mem_iff_getElem.1 hy
        exact e2 j (by omega) hj
/-- A position of the program for a position of the law. -/
def conv (p : S97) : S95 := ⟨p.f0, p.f1⟩
theorem toPosition_ev (a b : List Int) (ha : a.length ≤ 1048576) (hb : b.length ≤ 1048576) : Ev (fun k => laws_toPosition.f k a b) (a, b) := by
  unfold laws_toPosition.f
  exact Ev.bind (toIntS_ev a (by omega)) (Ev.bind (toIntS_ev b (by omega)) (Ev.now _))
theorem toPositionS_l (l : List S97) (hl : l.length ≤ 1048576) (h : ∀ y ∈ l, y.f0.length ≤ 1048576 ∧ y.f1.length ≤ 1048576) : ∀ (d i : Nat) (ys : List S95), i + d = l.length → ys.length = l.length → (∀ j, j < i → ys[j]? = (l.map conv)[j]?) →
    Ev (fun k => laws_toPositionS.l0 k l ys (i : Int)) (l.map conv) := by
  intro d
  induction d with
  | zero =>
    intro i ys hi hy hj
    have c : ¬ (i : Int) < (l.length : Int) := by omega
    have : ys = l.map conv := by
      apply List.ext_getElem?
      intro j
      by_cases g : j < i
      · exact hj j g
      · rw [List.getElem?_eq_none (by omega), List.getElem?_eq_none (by rw [List.length_map]; omega)]
    subst this
    refine Ev.step (fun k => ?_) (Ev.now _)
    simp only [laws_toPositionS.l0, if_neg c]
  | succ d ih =>
    intro i ys hi hy hj
    have g1 : (i : Int) < (l.length : Int) := by omega
    have g1' : (i : Int) < (ys.length : Int) := by omega
    have g2 : (0 : Int) ≤ (i : Int) := Int.natCast_nonneg _
    have hil : i < l.length := by omega
    have hb := h l[i] (List.getElem_mem hil)
    refine Ev.step (f := ?f) (fun k => ?e) ?v
    case e => conv => lhs; simp only [laws_toPositionS.l0, if_pos g1, if_pos g2, rdL l i hil]
    case v =>
      refine Ev.bind (toPosition_ev _ _ hb.1 hb.2) ?_
      simp only [if_pos g1']
      rw [wsucc i (by omega), Int.toNat_natCast]
      refine ih (i + 1) _ (by omega) (by rw [List.length_set]; exact hy) (fun j hjl => ?_)
      rw [List.getElem?_set]
      by_cases e : i = j
      · subst e
        rw [if_pos rfl, if_pos (by omega), List.getElem?_map, List.getElem?_eq_getElem hil]
        rfl
      · rw [if_neg e]
        exact hj j (by omega)
theorem toPositionS_ev (l : List S97) (hl : l.length ≤ 1048576) (h : ∀ y ∈ l, y.f0.length ≤ 1048576 ∧ y.f1.length ≤ 1048576) : Ev (fun k => laws_toPositionS.f k l) (l.map conv) := by
  unfold laws_toPositionS.f
  simp only [if_pos (Int.natCast_nonneg l.length), Int.toNat_natCast, show l.length ≤ 5864062014805 from by omega, if_true]
  exact toPositionS_l l hl h l.length 0 _ (by omega) (by simp) (fun j hj => by omega)
/-- What the copies are like. -/
def Small (l : List S95) : Prop := l.length ≤ 1048576 ∧ ∀ y ∈ l, y.f0.length ≤ 1048576 ∧ y.f1.length ≤ 1048576
theorem small_conv (l : List S97) (hl : l.length ≤ 1048576) (h : ∀ y ∈ l, y.f0.length ≤ 1048576 ∧ y.f1.length ≤ 1048576) : Small (l.map conv) := by
  refine ⟨by rw [List.length_map]; exact hl, fun y hy => ?_⟩
  obtain ⟨x, hx, rfl⟩ := List.mem_map.1 hy
  exact h x hx
theorem eqPosition_ev (a b : List Int) (ha : a.length ≤ 1048576) (hb : b.length ≤ 1048576) : Ev (fun k => laws_eqPosition.f k a b a b) true := by
  unfold laws_eqPosition.f
  refine Ev.bind (eqIntS_ev a (by omega)) ?_
  simp only [if_true]
  exact Ev.bind (eqIntS_ev b (by omega)) (Ev.now _)
theorem eqPositionS_l (l : List S95) (h : Small l) : ∀ (d i : Nat), i + d = l.length → Ev (fun k => laws_eqPositionS.l0 k l l (i : Int)) true := by
  have hl := h.1
  intro d
  induction d with
  | zero =>
    intro i hi
    have c : ¬ (i : Int) < (l.length : Int) := by omega
    refine Ev.step (fun k => ?_) (Ev.now _)
    simp only [laws_eqPositionS.l0, if_neg c]
  | succ d ih =>
    intro i hi
    have g1 : (i : Int) < (l.length : Int) := by omega
    have g2 : (0 : Int) ≤ (i : Int) := Int.natCast_nonneg _
    have hil : i < l.length := by omega
    have hb := h.2 l[i] (List.getElem_mem hil)
    refine Ev.step (f := ?f) (fun k => ?e) ?v
    case e => conv => lhs; simp only [laws_eqPositionS.l0, if_pos g1, if_pos g2, rdI l i hil]
    case v =>
      refine Ev.bind (eqPosition_ev _ _ hb.1 hb.2) ?_
      simp only [if_true]
      rw [wsucc i (by omega)]
      exact ih (i + 1) (by omega)
theorem eqPositionS_ev (l : List S95) (h : Small l) : Ev (fun k => laws_eqPositionS.f k l l) true := by
  unfold laws_eqPositionS.f
  simp only [if_true]
  exact eqPositionS_l l h l.length 0 (by omega)

/-! ### what is a game, on both sides -/
theorem in_eq (e a b : Int) : spec_l1In.f e a b = impl_in.f e a b := rfl
theorem in_some (e a b : Int) : impl_in.f e a b = some (decide (a ≤ e ∧ e ≤ b)) := by
  unfold impl_in.f
  by_cases h : e ≥ a
  · rw [if_pos h]; congr 1; simp; omega
  · rw [if_neg h]; congr 1; simp; omega
theorem rising_same (x z : List Int) (i n : Int) : ∀ (k : Nat) (j : Int), spec_l1Rising.l0 k x 0 (wrap64 (i - 1)) z n j = impl_risingBelow.l0 k x i z n j
  | 0, _ => rfl
  | k + 1, j => by simp only [spec_l1Rising.l0, impl_risingBelow.l0, in_eq, rising_same x z i n k]
theorem rising_l (x : List Int) (n : Int) (hx : x.length ≤ 1048576) : ∀ (d j : Nat), j + d = x.length → ∃ b : Bool, Ev (fun k => impl_risingBelow.l0 k x n x (x.length : Int) (j : Int)) b := by
  intro d
  induction d with
  | zero =>
    intro j hj
    have c : ¬ (j : Int) < (x.length : Int) := by omega
    refine ⟨true, Ev.step (fun k => ?_) (Ev.now _)⟩
    simp only [impl_risingBelow.l0, if_neg c]
  | succ d ih =>
    intro j hj
    have g1 : (j : Int) < (x.length : Int) := by omega
    have g2 : (0 : Int) ≤ (j : Int) := Int.natCast_nonneg _
    obtain ⟨b, hb⟩ := ih (j + 1) (by omega)
    have hs : wrap64 ((j : Int) + 1) = ((j + 1 : Nat) : Int) := wsucc j (by omega)
    by_cases h : 0 ≤ rd x (j : Int) ∧ rd x (j : Int) ≤ wrap64 (n - 1)
    · by_cases h0 : (j : Int) > 0
      · have hp : wrap64 ((j : Int) - 1) = ((j - 1 : Nat) : Int) := by clear hs h; unfold wrap64; omega
        have g3 : (0 : Int) ≤ ((j - 1 : Nat) : Int) := Int.natCast_nonneg _
        have g4 : ((j - 1 : Nat) : Int) < (x.length : Int) := by clear hs h hp; omega
        by_cases h5 : rd x ((j - 1 : Nat) : Int) ≥ rd x (j : Int)
        · refine ⟨false, Ev.step (fun k => ?_) (Ev.now _)⟩
          simp only [impl_risingBelow.l0, if_pos g1, if_pos g2, in_some, h, and_self, decide_true, Option.bind_some, if_true, if_pos h0, hp, if_pos g3, if_pos g4, if_pos h5]
        · refine ⟨b, Ev.step (fun k => ?_) hb⟩
          simp only [impl_risingBelow.l0, if_pos g1, if_pos g2, in_some, h, and_self, decide_true, Option.bind_some, if_true, if_pos h0, hp, if_pos g3, if_pos g4, if_neg h5, hs]
      · refine ⟨b, Ev.step (fun k => ?_) hb⟩
        simp only [impl_risingBelow.l0, if_pos g1, if_pos g2, in_some, h, and_self, decide_true, Option.bind_some, if_true, if_neg h0, hs]
    · refine ⟨false, Ev.step (fun k => ?_) (Ev.now _)⟩
      simp only [impl_risingBelow.l0, if_pos g1, if_pos g2, in_some, h, decide_false, Option.bind_some, Bool.false_eq_true, if_false]
theorem rising_ev (x : List Int) (n : Int) (hx : x.length ≤ 1048576) : ∃ b : Bool, Ev (fun k => impl_risingBelow.f k x n) b := rising_l x n hx x.length 0 (by omega)
theorem game_same (x z : List S95) (n : Int) : ∀ (k : Nat) (j : Int), spec_gaGood.l0 k x z n j = impl_IsGame.l0 k x z n j
  | 0, _ => rfl
  | k + 1, j => by
    simp only [spec_gaGood.l0, impl_IsGame.l0, in_eq, spec_l1Rising.f, impl_risingBelow.f, rising_same, game_same x z n k]
theorem game_l (l : List S95) (h : Small l) : ∀ (d i : Nat), i + d = l.length → ∃ b : Bool, Ev (fun k => impl_IsGame.l0 k l l (l.length : Int) (i : Int)) b := by
  have hl := h.1
  intro d
  induction d with
  | zero =>
    intro i hi
    have c : ¬ (i : Int) < (l.length : Int) := by omega
    refine ⟨decide (1 ≤ (l.length : Int) ∧ (l.length : Int) ≤ 40), Ev.step (fun k => ?_) (Ev.now _)⟩
    simp only [impl_IsGame.l0, if_neg c, in_some, Option.bind_some]
  | succ d ih =>
    intro i hi
    have g1 : (i : Int) < (l.length : Int) := by omega
    have g2 : (0 : Int) ≤ (i : Int) := Int.natCast_nonneg _
    have hil : i < l.length := by omega
    have hb := h.2 l[i] (List.getElem_mem hil)
    obtain ⟨b, e⟩ := ih (i + 1) (by omega)
    obtain ⟨b1, e1⟩ := rising_ev l[i].f0 (i : Int) hb.1
    obtain ⟨b2, e2⟩ := rising_ev l[i].f1 (i : Int) hb.2
    have hs : wrap64 ((i : Int) + 1) = ((i + 1 : Nat) : Int) := wsucc i (by omega)
    have key : ∃ c : Bool, Ev (fun k => (impl_risingBelow.f k l[i].f0 (i : Int)).bind fun t => if t = true then ((impl_risingBelow.f k l[i].f1 (i : Int)).bind fun u => if u = true then impl_IsGame.l0 k l l (l.length : Int) ((i + 1 : Nat) : Int) else some false) else some false) c := by
      cases b1 with
      | false => exact ⟨false, Ev.bind e1 (Ev.now _)⟩
      | true =>
        cases b2 with
        | false => exact ⟨false, Ev.bind e1 (Ev.bind e2 (Ev.now _))⟩
        | true => exact ⟨b, Ev.bind e1 (Ev.bind e2 e)⟩
    obtain ⟨c, hc⟩ := key
    refine ⟨c, Ev.step (fun k => ?_) hc⟩
    simp only [impl_IsGame.l0, if_pos g1, if_pos g2, rdI l i hil, hs]
theorem game_ev (l : List S95) (h : Small l) : ∃ b : Bool, Ev (fun k => impl_IsGame.f k l) b ∧ Ev (fun k => spec_gaGood.f k l) b := by
  obtain ⟨b, hb⟩ := game_l l h l.length 0 (by omega)
  exact ⟨b, hb, Ev.congr (fun k => game_same l l _ k _) hb⟩

theorem proved : laws_FnExactIsGame.Pure := by
  intro l h
  refine Ev.rounds ?_
  unfold laws_FnExactIsGame.f
  obtain ⟨v, hv, hs⟩ := szPositionS_ev l ⟨h.1, fun y hy => ⟨(h.2 y hy).1.1, (h.2 y hy).2.1⟩⟩
  refine Ev.bind hv ?_
  by_cases hn : v < 0
  · simp only [if_pos hn]
    exact Ev.now _
  · simp only [if_neg hn]
    obtain ⟨h1, h2⟩ := hs.resolve_left hn
    have ht := toPositionS_ev l h1 h2
    have hsm := small_conv l h1 h2
    obtain ⟨b, s1, s2⟩ := game_ev (l.map conv) hsm
    refine Ev.bind ht (Ev.bind (a := b) (by unfold spec_IsGame.f; exact Ev.bind s2 (Ev.now _)) (Ev.bind ht (Ev.bind s1 ?_)))
    simp only [bne_self_eq_false, Bool.false_eq_true, if_false]
    refine Ev.bind ht (Ev.bind (eqPositionS_ev _ hsm) ?_)
    exact Ev.now _

end LFnExactIsGame
theorem FnExactIsGame : laws_FnExactIsGame.Pure := LFnExactIsGame.proved
end Go.Proofs.Ytkbbipnocefmiaa.Pure
