/- For any list of positions, the game that the program gives with the sides changed is the reference's, in new memory, and the list is left as it was. -/
import Derived.Test.YtpiafobcmhfclaaQFnExactNegateGamex5
namespace Go.Proofs.Ytpiafobcmhfclaa.Pure
open Go.RowKit Go.Proofs.Ytpiafobcmhfclaa.QFnExactNegateGame Go.Proofs.YtpiafobcmhfclaaW.PrintWords Go.Proofs.YtpiafobcmhfclaaW.PrintLast
set_option linter.unusedVariables false
set_option linter.unusedSimpArgs false
def laws_FnExactNegateGame.Pure : Prop := ∀ (l0 : List (S59)), (l0.length ≤ maxLen ∧ ∀ y0 ∈ l0, ((y0.f0.length ≤ maxLen ∧ ∀ y1 ∈ y0.f0, (Lit.int .i64 y1).wf = true) ∧ (y0.f1.length ≤ maxLen ∧ ∀ y1 ∈ y0.f1, (Lit.int .i64 y1).wf = true))) → ∃ k, laws_FnExactNegateGame.f k l0 = some true
namespace LFnExactNegateGame
/-! ### small words -/
theorem wsucc (i : Nat) (h : i < 2 ^ 62) : wrap64 ((i : Int) + 1) = ((i + 1 : Nat) : Int) := by unfold wrap64; omega
theorem drop_rd {l : List Int} {i : Nat} (h : i < l.length) : l.drop i = rd l (i : Int) :: l.drop (i + 1) := by
  rw [List.drop_eq_getElem_cons h]
  simp [rd, List.getD_eq_getElem?_getD, List.getElem?_eq_getElem h]

/-! ### a copy of a list of numbers is that list -/
theorem toIntS_l (x : List Int) (hx : x.length ≤ 2 ^ 60) : ∀ (d k i : Nat) (y : List Int), i + d = x.length → y.length = x.length → (∀ j, j < i → y[j]? = x[j]?) → d < k → laws_toIntS.l0 k x y i = some x := by
  intro d
  induction d with
  | zero =>
    intro k i y hi hy hj hk
    obtain ⟨k, rfl⟩ : ∃ m, k = m + 1 := ⟨k - 1, by omega⟩
    simp only [laws_toIntS.l0]
    rw [if_neg (by omega)]
    congr 1
    apply List.ext_getElem? 
    intro j
    by_cases h : j < i
    · exact hj j h
    · rw [List.getElem?_eq_none (by omega), List.getElem?_eq_none (by omega)]
  | succ d ih =>
    intro k i y hi hy hj hk
    obtain ⟨k, rfl⟩ : ∃ m, k = m + 1 := ⟨k - 1, by omega⟩
    have h1 : (i : Int) < (x.length : Int) := by omega
    have h2 : (0 : Int) ≤ (i : Int) := Int.natCast_nonneg _
    have h3 : (i : Int) < (y.length : Int) := by omega
    have h4 : i < x.length := by omega
    simp only [laws_toIntS.l0]
    rw [if_pos h1, if_pos h2, if_pos h3, wsucc i (by omega)]
    refine ih k (i + 1) _ (by omega) (by simpa using hy) ?_ (by omega)
    intro j hlt
    rw [Int.toNat_natCast, List.getElem?_set]
    by_cases e : i = j
    · subst e
      rw [if_pos rfl, if_pos (by omega)]
      simp [rd, List.getD_eq_getElem?_getD, List.getElem?_eq_getElem h4]
    · rw [if_neg e]
      exact hj j (by omega)
theorem toIntS (x : List Int) (hx : x.length ≤ 17592186044416) (k : Nat) (hk : x.length < k) : laws_toIntS.f k x = some x := by
  unfold laws_toIntS.f
  rw [if_pos (Int.natCast_nonneg _), if_pos (by rw [Int.toNat_natCast]; omega), Int.toNat_natCast]
  exact toIntS_l x (by omega) x.length k 0 _ (by omega) (by simp) (fun j h => by omega) hk

/-! ### a list of numbers equals itself -/
theorem eqIntS_l (x : List Int) (hx : x.length ≤ 2 ^ 60) : ∀ (d k i : Nat), i + d = x.length → d < k → laws_eqIntS.l0 k x x i = some true := by
  intro d
  induction d with
  | zero =>
    intro k i hi hk
    obtain ⟨k, rfl⟩ : ∃ m, k = m + 1 := ⟨k - 1, by omega⟩
    simp only [laws_eqIntS.l0]
    rw [if_neg (by omega)]
  | succ d ih =>
    intro k i hi hk
    obtain ⟨k, rfl⟩ : ∃ m, k = m + 1 := ⟨k - 1, by omega⟩
    have h1 : (i : Int) < (x.length : Int) := by omega
    have h2 : (0 : Int) ≤ (i : Int) := Int.natCast_nonneg _
    simp only [laws_eqIntS.l0, if_pos h1, if_pos h2, if_true]
    rw [wsucc i (by omega)]
    exact ih k (i + 1) (by omega) (by omega)
theorem eqIntS (x : List Int) (hx : x.length ≤ 17592186044416) (k : Nat) (hk : x.length < k) : laws_eqIntS.f k x x = some true := by
  unfold laws_eqIntS.f
  rw [if_pos rfl]
  exact eqIntS_l x (by omega) x.length k 0 (by omega) hk

/-! ### lists of numbers: the size asked, a copy, the same -/
theorem szIntS (l : List Int) (h : l.length ≤ maxLen) : laws_szIntS.f l 1048576 = some (if l.length > 1048576 then -1 else 1048576 - (l.length : Int)) := by
  unfold maxLen at h
  have hw : wrap64 (1048576 - (l.length : Int)) = 1048576 - (l.length : Int) := by unfold wrap64; omega
  unfold laws_szIntS.f
  rw [hw]
  clear hw
  by_cases g : l.length > 1048576
  · rw [if_pos (by omega), if_pos g]
  · rw [if_neg (by omega), if_neg g]
theorem toIntS_ev (x : List Int) (hx : x.length ≤ 17592186044416) : Ev (fun k => laws_toIntS.f k x) x := ⟨x.length + 1, fun k hk => toIntS x hx k (by omega)⟩
theorem eqIntS_ev (x : List Int) (hx : x.length ≤ 17592186044416) : Ev (fun k => laws_eqIntS.f k x x) true := ⟨x.length + 1, fun k hk => eqIntS x hx k (by omega)⟩

theorem szIntS' (l : List Int) (left : Nat) (h : l.length ≤ maxLen) (hl : left ≤ 1048576) : laws_szIntS.f l (left : Int) = some (if l.length > left then -1 else ((left - l.length : Nat) : Int)) := by
  unfold maxLen at h
  have hw : wrap64 ((left : Int) - (l.length : Int)) = (left : Int) - (l.length : Int) := by unfold wrap64; omega
  unfold laws_szIntS.f
  rw [hw]
  clear hw
  by_cases g : l.length > left
  · rw [if_pos (by omega), if_pos g]
  · rw [if_neg (by omega), if_neg g]
    congr 1
    omega

/-! ### lists of positions: their size, a copy, the same -/
theorem rdL (xs : List S59) (i : Nat) (h : i < xs.length) : rd_T59 xs (i : Int) = xs[i] := by
  simp [rd_T59, List.getD_eq_getElem?_getD, List.getElem?_eq_getElem h]
theorem rdI (xs : List S57) (i : Nat) (h : i < xs.length) : rd_T57 xs (i : Int) = xs[i] := by
  simp [rd_T57, List.getD_eq_getElem?_getD, List.getElem?_eq_getElem h]
theorem szPosition' (a b : List Int) (left : Nat) (ha : a.length ≤ maxLen) (hb : b.length ≤ maxLen) (hl : left ≤ 1048576) :
    ∃ v : Int, laws_szPosition.f a b (left : Int) = some v ∧ (v < 0 ∨ (a.length ≤ 1048576 ∧ b.length ≤ 1048576 ∧ ∃ n : Nat, v = (n : Int) ∧ n ≤ left)) := by
  unfold laws_szPosition.f
  rw [szIntS' a left ha hl]
  simp only [Option.bind_some]
  by_cases g : a.length > left
  · rw [if_pos g]
    exact ⟨-1, rfl, .inl (by omega)⟩
  · rw [if_neg g, if_neg (by omega), szIntS' b _ hb (by omega)]
    simp only [Option.bind_some]
    by_cases g2 : b.length > left - a.length
    · rw [if_pos g2]
      exact ⟨-1, rfl, .inl (by omega)⟩
    · rw [if_neg g2, if_neg (by omega)]
      exact ⟨_, rfl, .inr ⟨by omega, by omega, _, rfl, by omega⟩⟩
theorem szPositionS_l (l : List S59) (hl : l.length ≤ 1048576) (h : ∀ y ∈ l, y.f0.length ≤ maxLen ∧ y.f1.length ≤ maxLen) : ∀ (d i left : Nat), i + d = l.length → left ≤ 1048576 →
    ∃ v : Int, Ev (fun k => laws_szPositionS.l0 k l (left : Int) (i : Int)) v ∧ (v < 0 ∨ ∀ j : Nat, i ≤ j → ∀ hj : j < l.length, (l[j].f0.length ≤ 1048576 ∧ l[j].f1.length ≤ 1048576)) := by
  intro d
  induction d with
  | zero =>
    intro i left hi hf
    have c : ¬ (i : Int) < (l.length : Int) := by omega
    refine ⟨(left : Int), Ev.step (fun k => ?_) (Ev.now _), .inr fun j h1 h2 => by omega⟩
    simp only [laws_szPositionS.l0, if_neg c]
  | succ d ih =>
    intro i left hi hf
    have g1 : (i : Int) < (l.length : Int) := by omega
    have g2 : (0 : Int) ≤ (i : Int) := Int.natCast_nonneg _
    have hil : i < l.length := by omega
    have hb := h l[i] (List.getElem_mem hil)
    obtain ⟨v, h1, h2⟩ := szPosition' l[i].f0 l[i].f1 left hb.1 hb.2 hf
    rcases h2 with h2 | ⟨a1, a2, n, rfl, hn⟩
    · refine ⟨-1, Ev.step (fun k => ?_) (Ev.now _), .inl (by omega)⟩
      simp only [laws_szPositionS.l0, if_pos g1, if_pos g2, rdL l i hil, h1, Option.bind_some, if_pos h2]
    · obtain ⟨v, e1, e2⟩ := ih (i + 1) n (by omega) (by omega)
      have c : ¬ (n : Int) < 0 := by omega
      refine ⟨v, Ev.step (fun k => ?_) e1, ?_⟩
      · simp only [laws_szPositionS.l0, if_pos g1, if_pos g2, rdL l i hil, h1, Option.bind_some, if_neg c]
        rw [wsucc i (by omega)]
      · rcases e2 with e2 | e2
        · exact .inl e2
        · refine .inr fun j hj hjl => ?_
          by_cases e : j = i
          · subst e; exact ⟨a1, a2⟩
          · exact e2 j (by omega) hjl
theorem szPositionS_ev (l : List S59) (h : l.length ≤ maxLen ∧ ∀ y ∈ l, y.f0.length ≤ maxLen ∧ y.f1.length ≤ maxLen) :
    ∃ v : Int, Ev (fun k => laws_szPositionS.f k l 1048576) v ∧ (v < 0 ∨ (l.length ≤ 1048576 ∧ ∀ y ∈ l, y.f0.length ≤ 1048576 ∧ y.f1.length ≤ 1048576)) := by
  have hm : l.length ≤ 9223372036854775807 := h.1
  have hw : wrap64 (1048576 - (l.length : Int)) = 1048576 - (l.length : Int) := by unfold wrap64; omega
  unfold laws_szPositionS.f
  simp only [hw]
  clear hw
  by_cases g : l.length > 1048576
  · refine ⟨-1, ?_, .inl (by omega)⟩
    simp only [show (1048576 - (l.length : Int)) < 0 from by omega, if_true]
    exact Ev.now _
  · obtain ⟨v, e1, e2⟩ := szPositionS_l l (by omega) h.2 l.length 0 (1048576 - l.length) (by omega) (by omega)
    have e : ((1048576 - l.length : Nat) : Int) = 1048576 - (l.length : Int) := by omega
    rw [e] at e1
    refine ⟨v, ?_, ?_⟩
    · simp only [show ¬ (1048576 - (l.length : Int)) < 0 from by omega, if_false]
      exact e1
    · rcases e2 with e2 | e2
      · exact .inl e2
      · refine .inr ⟨by omega, fun y hy => ?_⟩
        obtain ⟨j, hj, rfl⟩ := List.mem_iff_getElem.1 hy
        exact e2 j (by omega) hj
/-- A position of the program for a position of the law. -/
def conv (p : S59) : S57 := ⟨p.f0, p.f1⟩
theorem toPosition_ev (a b : List Int) (ha : a.length ≤ 1048576) (hb : b.length ≤ 1048576) : Ev (fun k => laws_toPosition.f k a b) (a, b) := by
  unfold laws_toPosition.f
  exact Ev.bind (toIntS_ev a (by omega)) (Ev.bind (toIntS_ev b (by omega)) (Ev.now _))
theorem toPositionS_l (l : List S59) (hl : l.length ≤ 1048576) (h : ∀ y ∈ l, y.f0.length ≤ 1048576 ∧ y.f1.length ≤ 1048576) : ∀ (d i : Nat) (ys : List S57), i + d = l.length → ys.length = l.length → (∀ j, j < i → ys[j]? = (l.map conv)[j]?) →
    Ev (fun k => laws_toPositionS.l0 k l ys (i : Int)) (l.map conv) := by
  intro d
  induction d with
  | zero =>
    intro i ys hi hy hj
    have c : ¬ (i : Int) < (l.length : Int) := by omega
    have : ys = l.map conv := by
      apply List.ext_getElem?
      intro j
      by_cases g : j < i
      · exact hj j g
      · rw [List.getElem?_eq_none (by omega), List.getElem?_eq_none (by rw [List.length_map]; omega)]
    subst this
    refine Ev.step (fun k => ?_) (Ev.now _)
    simp only [laws_toPositionS.l0, if_neg c]
  | succ d ih =>
    intro i ys hi hy hj
    have g1 : (i : Int) < (l.length : Int) := by omega
    have g1' : (i : Int) < (ys.length : Int) := by omega
    have g2 : (0 : Int) ≤ (i : Int) := Int.natCast_nonneg _
    have hil : i < l.length := by omega
    have hb := h l[i] (List.getElem_mem hil)
    refine Ev.step (f := ?f) (fun k => ?e) ?v
    case e => conv => lhs; simp only [laws_toPositionS.l0, if_pos g1, if_pos g2, rdL l i hil]
    case v =>
      refine Ev.bind (toPosition_ev _ _ hb.1 hb.2) ?_
      simp only [if_pos g1']
      rw [wsucc i (by omega), Int.toNat_natCast]
      refine ih (i + 1) _ (by omega) (by rw [List.length_set]; exact hy) (fun j hjl => ?_)
      rw [List.getElem?_set]
      by_cases e : i = j
      · subst e
        rw [if_pos rfl, if_pos (by omega), List.getElem?_map, List.getElem?_eq_getElem hil]
        rfl
      · rw [if_neg e]
        exact hj j (by omega)
theorem toPositionS_ev (l : List S59) (hl : l.length ≤ 1048576) (h : ∀ y ∈ l, y.f0.length ≤ 1048576 ∧ y.f1.length ≤ 1048576) : Ev (fun k => laws_toPositionS.f k l) (l.map conv) := by
  unfold laws_toPositionS.f
  simp only [if_pos (Int.natCast_nonneg l.length), Int.toNat_natCast, show l.length ≤ 5864062014805 from by omega, if_true]
  exact toPositionS_l l hl h l.length 0 _ (by omega) (by simp) (fun j hj => by omega)
/-- What the copies are like. -/
def Small (l : List S57) : Prop := l.length ≤ 1048576 ∧ ∀ y ∈ l, y.f0.length ≤ 1048576 ∧ y.f1.length ≤ 1048576
theorem small_conv (l : List S59) (hl : l.length ≤ 1048576) (h : ∀ y ∈ l, y.f0.length ≤ 1048576 ∧ y.f1.length ≤ 1048576) : Small (l.map conv) := by
  refine ⟨by rw [List.length_map]; exact hl, fun y hy => ?_⟩
  obtain ⟨x, hx, rfl⟩ := List.mem_map.1 hy
  exact h x hx
theorem eqPosition_ev (a b : List Int) (ha : a.length ≤ 1048576) (hb : b.length ≤ 1048576) : Ev (fun k => laws_eqPosition.f k a b a b) true := by
  unfold laws_eqPosition.f
  refine Ev.bind (eqIntS_ev a (by omega)) ?_
  simp only [if_true]
  exact Ev.bind (eqIntS_ev b (by omega)) (Ev.now _)
theorem eqPositionS_l (l : List S57) (h : Small l) : ∀ (d i : Nat), i + d = l.length → Ev (fun k => laws_eqPositionS.l0 k l l (i : Int)) true := by
  have hl := h.1
  intro d
  induction d with
  | zero =>
    intro i hi
    have c : ¬ (i : Int) < (l.length : Int) := by omega
    refine Ev.step (fun k => ?_) (Ev.now _)
    simp only [laws_eqPositionS.l0, if_neg c]
  | succ d ih =>
    intro i hi
    have g1 : (i : Int) < (l.length : Int) := by omega
    have g2 : (0 : Int) ≤ (i : Int) := Int.natCast_nonneg _
    have hil : i < l.length := by omega
    have hb := h.2 l[i] (List.getElem_mem hil)
    refine Ev.step (f := ?f) (fun k => ?e) ?v
    case e => conv => lhs; simp only [laws_eqPositionS.l0, if_pos g1, if_pos g2, rdI l i hil]
    case v =>
      refine Ev.bind (eqPosition_ev _ _ hb.1 hb.2) ?_
      simp only [if_true]
      rw [wsucc i (by omega)]
      exact ih (i + 1) (by omega)
theorem eqPositionS_ev (l : List S57) (h : Small l) : Ev (fun k => laws_eqPositionS.f k l l) true := by
  unfold laws_eqPositionS.f
  simp only [if_true]
  exact eqPositionS_l l h l.length 0 (by omega)

/-! ### what is a game, on both sides -/
theorem in_eq (e a b : Int) : spec_l1In.f e a b = impl_in.f e a b := rfl
theorem in_some (e a b : Int) : impl_in.f e a b = some (decide (a ≤ e ∧ e ≤ b)) := by
  unfold impl_in.f
  by_cases h : e ≥ a
  · rw [if_pos h]; congr 1; simp; omega
  · rw [if_neg h]; congr 1; simp; omega
theorem rising_same (x z : List Int) (i n : Int) : ∀ (k : Nat) (j : Int), spec_l1Rising.l0 k x 0 (wrap64 (i - 1)) z n j = impl_risingBelow.l0 k x i z n j
  | 0, _ => rfl
  | k + 1, j => by simp only [spec_l1Rising.l0, impl_risingBelow.l0, in_eq, rising_same x z i n k]
theorem rising_l (x : List Int) (n : Int) (hx : x.length ≤ 1048576) : ∀ (d j : Nat), j + d = x.length → ∃ b : Bool, Ev (fun k => impl_risingBelow.l0 k x n x (x.length : Int) (j : Int)) b := by
  intro d
  induction d with
  | zero =>
    intro j hj
    have c : ¬ (j : Int) < (x.length : Int) := by omega
    refine ⟨true, Ev.step (fun k => ?_) (Ev.now _)⟩
    simp only [impl_risingBelow.l0, if_neg c]
  | succ d ih =>
    intro j hj
    have g1 : (j : Int) < (x.length : Int) := by omega
    have g2 : (0 : Int) ≤ (j : Int) := Int.natCast_nonneg _
    obtain ⟨b, hb⟩ := ih (j + 1) (by omega)
    have hs : wrap64 ((j : Int) + 1) = ((j + 1 : Nat) : Int) := wsucc j (by omega)
    by_cases h : 0 ≤ rd x (j : Int) ∧ rd x (j : Int) ≤ wrap64 (n - 1)
    · by_cases h0 : (j : Int) > 0
      · have hp : wrap64 ((j : Int) - 1) = ((j - 1 : Nat) : Int) := by clear hs h; unfold wrap64; omega
        have g3 : (0 : Int) ≤ ((j - 1 : Nat) : Int) := Int.natCast_nonneg _
        have g4 : ((j - 1 : Nat) : Int) < (x.length : Int) := by clear hs h hp; omega
        by_cases h5 : rd x ((j - 1 : Nat) : Int) ≥ rd x (j : Int)
        · refine ⟨false, Ev.step (fun k => ?_) (Ev.now _)⟩
          simp only [impl_risingBelow.l0, if_pos g1, if_pos g2, in_some, h, and_self, decide_true, Option.bind_some, if_true, if_pos h0, hp, if_pos g3, if_pos g4, if_pos h5]
        · refine ⟨b, Ev.step (fun k => ?_) hb⟩
          simp only [impl_risingBelow.l0, if_pos g1, if_pos g2, in_some, h, and_self, decide_true, Option.bind_some, if_true, if_pos h0, hp, if_pos g3, if_pos g4, if_neg h5, hs]
      · refine ⟨b, Ev.step (fun k => ?_) hb⟩
        simp only [impl_risingBelow.l0, if_pos g1, if_pos g2, in_some, h, and_self, decide_true, Option.bind_some, if_true, if_neg h0, hs]
    · refine ⟨false, Ev.step (fun k => ?_) (Ev.now _)⟩
      simp only [impl_risingBelow.l0, if_pos g1, if_pos g2, in_some, h, decide_false, Option.bind_some, Bool.false_eq_true, if_false]
theorem rising_ev (x : List Int) (n : Int) (hx : x.length ≤ 1048576) : ∃ b : Bool, Ev (fun k => impl_risingBelow.f k x n) b := rising_l x n hx x.length 0 (by omega)
theorem game_same (x z : List S57) (n : Int) : ∀ (k : Nat) (j : Int), spec_gaGood.l0 k x z n j = impl_IsGame.l0 k x z n j
  | 0, _ => rfl
  | k + 1, j => by
    simp only [spec_gaGood.l0, impl_IsGame.l0, in_eq, spec_l1Rising.f, impl_risingBelow.f, rising_same, game_same x z n k]
theorem game_l (l : List S57) (h : Small l) : ∀ (d i : Nat), i + d = l.length → ∃ b : Bool, Ev (fun k => impl_IsGame.l0 k l l (l.length : Int) (i : Int)) b := by
  have hl := h.1
  intro d
  induction d with
  | zero =>
    intro i hi
    have c : ¬ (i : Int) < (l.length : Int) := by omega
    refine ⟨decide (1 ≤ (l.length : Int) ∧ (l.length : Int) ≤ 40), Ev.step (fun k => ?_) (Ev.now _)⟩
    simp only [impl_IsGame.l0, if_neg c, in_some, Option.bind_some]
  | succ d ih =>
    intro i hi
    have g1 : (i : Int) < (l.length : Int) := by omega
    have g2 : (0 : Int) ≤ (i : Int) := Int.natCast_nonneg _
    have hil : i < l.length := by omega
    have hb := h.2 l[i] (List.getElem_mem hil)
    obtain ⟨b, e⟩ := ih (i + 1) (by omega)
    obtain ⟨b1, e1⟩ := rising_ev l[i].f0 (i : Int) hb.1
    obtain ⟨b2, e2⟩ := rising_ev l[i].f1 (i : Int) hb.2
    have hs : wrap64 ((i : Int) + 1) = ((i + 1 : Nat) : Int) := wsucc i (by omega)
    have key : ∃ c : Bool, Ev (fun k => (impl_risingBelow.f k l[i].f0 (i : Int)).bind fun t => if t = true then ((impl_risingBelow.f k l[i].f1 (i : Int)).bind fun u => if u = true then impl_IsGame.l0 k l l (l.length : Int) ((i + 1 : Nat) : Int) else some false) else some false) c := by
      cases b1 with
      | false => exact ⟨false, Ev.bind e1 (Ev.now _)⟩
      | true =>
        cases b2 with
        | false => exact ⟨false, Ev.bind e1 (Ev.bind e2 (Ev.now _))⟩
        | true => exact ⟨b, Ev.bind e1 (Ev.bind e2 e)⟩
    obtain ⟨c, hc⟩ := key
    refine ⟨c, Ev.step (fun k => ?_) hc⟩
    simp only [impl_IsGame.l0, if_pos g1, if_pos g2, rdI l i hil, hs]
theorem game_ev (l : List S57) (h : Small l) : ∃ b : Bool, Ev (fun k => impl_IsGame.f k l) b ∧ Ev (fun k => spec_gaGood.f k l) b := by
  obtain ⟨b, hb⟩ := game_l l h l.length 0 (by omega)
  exact ⟨b, hb, Ev.congr (fun k => game_same l l _ k _) hb⟩

/-! ### what a game's positions are like -/
theorem rd_nat (x : List Int) (i : Nat) (h : i < x.length) : rd x (i : Int) = x[i] := by
  simp [rd, List.getD_eq_getElem?_getD, List.getElem?_eq_getElem h]
theorem rising_t (x : List Int) (n : Int) (hx : x.length ≤ 1048576) (hn : 0 ≤ n ∧ n ≤ 1048576) : ∀ (d j : Nat), j + d = x.length → ∃ b : Bool, Ev (fun k => impl_risingBelow.l0 k x n x (x.length : Int) (j : Int)) b ∧ (b = true → ∀ i : Nat, j ≤ i → (h : i < x.length) → 0 ≤ x[i] ∧ x[i] < n ∧ (0 < i → rd x ((i - 1 : Nat) : Int) < x[i])) := by
  intro d
  induction d with
  | zero =>
    intro j hj
    have c : ¬ (j : Int) < (x.length : Int) := by omega
    refine ⟨true, Ev.step (fun k => ?_) (Ev.now _), fun _ i h1 h2 => by omega⟩
    simp only [impl_risingBelow.l0, if_neg c]
  | succ d ih =>
    intro j hj
    have g1 : (j : Int) < (x.length : Int) := by omega
    have g2 : (0 : Int) ≤ (j : Int) := Int.natCast_nonneg _
    have hjl : j < x.length := by omega
    obtain ⟨b, hb, hq⟩ := ih (j + 1) (by omega)
    have hs : wrap64 ((j : Int) + 1) = ((j + 1 : Nat) : Int) := wsucc j (by omega)
    have hw : wrap64 (n - 1) = n - 1 := by clear hs; unfold wrap64; omega
    by_cases h : 0 ≤ rd x (j : Int) ∧ rd x (j : Int) ≤ wrap64 (n - 1)
    · have h' := h
      rw [hw, rd_nat x j hjl] at h'
      clear hw
      by_cases h0 : (j : Int) > 0
      · have hp : wrap64 ((j : Int) - 1) = ((j - 1 : Nat) : Int) := by clear hs h; unfold wrap64; omega
        have g3 : (0 : Int) ≤ ((j - 1 : Nat) : Int) := Int.natCast_nonneg _
        have g4 : ((j - 1 : Nat) : Int) < (x.length : Int) := by clear hs h hp; omega
        by_cases h5 : rd x ((j - 1 : Nat) : Int) ≥ rd x (j : Int)
        · refine ⟨false, Ev.step (fun k => ?_) (Ev.now _), fun e => by cases e⟩
          simp only [impl_risingBelow.l0, if_pos g1, if_pos g2, in_some, h, and_self, decide_true, Option.bind_some, if_true, if_pos h0, hp, if_pos g3, if_pos g4, if_pos h5]
        · refine ⟨b, Ev.step (fun k => ?_) hb, fun e i h1 h2 => ?_⟩
          · simp only [impl_risingBelow.l0, if_pos g1, if_pos g2, in_some, h, and_self, decide_true, Option.bind_some, if_true, if_pos h0, hp, if_pos g3, if_pos g4, if_neg h5, hs]
          · by_cases e2 : i = j
            · subst e2
              rw [rd_nat x i hjl] at h5
              clear hs h hp
              exact ⟨h'.1, by omega, fun _ => by omega⟩
            · exact hq e i (by omega) h2
      · refine ⟨b, Ev.step (fun k => ?_) hb, fun e i h1 h2 => ?_⟩
        · simp only [impl_risingBelow.l0, if_pos g1, if_pos g2, in_some, h, and_self, decide_true, Option.bind_some, if_true, if_neg h0, hs]
        · by_cases e2 : i = j
          · subst e2
            clear hs h
            exact ⟨h'.1, by omega, fun _ => by omega⟩
          · exact hq e i (by omega) h2
    · refine ⟨false, Ev.step (fun k => ?_) (Ev.now _), fun e => by cases e⟩
      simp only [impl_risingBelow.l0, if_pos g1, if_pos g2, in_some, h, decide_false, Option.bind_some, Bool.false_eq_true, if_false]
def Rise (x : List Int) (n : Int) : Prop := (∀ y ∈ x, 0 ≤ y ∧ y < n) ∧ x.Pairwise (· < ·)
theorem rise_of {x : List Int} {n : Int} (h : ∀ i : Nat, 0 ≤ i → (h : i < x.length) → 0 ≤ x[i] ∧ x[i] < n ∧ (0 < i → rd x ((i - 1 : Nat) : Int) < x[i])) : Rise x n := by
  refine ⟨fun y hy => ?_, ?_⟩
  · obtain ⟨i, hi, rfl⟩ := List.mem_iff_getElem.1 hy
    exact ⟨(h i (by omega) hi).1, (h i (by omega) hi).2.1⟩
  · rw [List.pairwise_iff_getElem]
    intro i j hi hj hij
    induction j with
    | zero => omega
    | succ j ih =>
      have h1 := (h (j + 1) (by omega) hj).2.2 (by omega)
      rw [show j + 1 - 1 = j from rfl, rd_nat x j (by omega)] at h1
      by_cases e : i = j
      · subst e; exact h1
      · have := ih (by omega) (by omega)
        omega
theorem rising_ev2 (x : List Int) (n : Int) (hx : x.length ≤ 1048576) (hn : 0 ≤ n ∧ n ≤ 1048576) : ∃ b : Bool, Ev (fun k => impl_risingBelow.f k x n) b ∧ (b = true → Rise x n) := by
  obtain ⟨b, h1, h2⟩ := rising_t x n hx hn x.length 0 (by omega)
  exact ⟨b, h1, fun e => rise_of (h2 e)⟩
/-- A game: from 1 to 40 positions, whose options rise and come before them. -/
def Gm (l : List S57) : Prop := 1 ≤ l.length ∧ l.length ≤ 40 ∧ ∀ i : Nat, (h : i < l.length) → Rise l[i].f0 (i : Int) ∧ Rise l[i].f1 (i : Int)
theorem game_t (l : List S57) (h : Small l) : ∀ (d i : Nat), i + d = l.length → ∃ b : Bool, Ev (fun k => impl_IsGame.l0 k l l (l.length : Int) (i : Int)) b ∧ (b = true → 1 ≤ l.length ∧ l.length ≤ 40 ∧ ∀ j : Nat, i ≤ j → (hj : j < l.length) → Rise l[j].f0 (j : Int) ∧ Rise l[j].f1 (j : Int)) := by
  have hl := h.1
  intro d
  induction d with
  | zero =>
    intro i hi
    have c : ¬ (i : Int) < (l.length : Int) := by omega
    refine ⟨decide (1 ≤ (l.length : Int) ∧ (l.length : Int) ≤ 40), Ev.step (fun k => ?_) (Ev.now _), fun e => ?_⟩
    · simp only [impl_IsGame.l0, if_neg c, in_some, Option.bind_some]
    · have := of_decide_eq_true e
      exact ⟨by omega, by omega, fun j h1 h2 => by omega⟩
  | succ d ih =>
    intro i hi
    have g1 : (i : Int) < (l.length : Int) := by omega
    have g2 : (0 : Int) ≤ (i : Int) := Int.natCast_nonneg _
    have hil : i < l.length := by omega
    have hb := h.2 l[i] (List.getElem_mem hil)
    obtain ⟨b, e, q⟩ := ih (i + 1) (by omega)
    obtain ⟨b1, e1, q1⟩ := rising_ev2 l[i].f0 (i : Int) hb.1 (by omega)
    obtain ⟨b2, e2, q2⟩ := rising_ev2 l[i].f1 (i : Int) hb.2 (by omega)
    have hs : wrap64 ((i : Int) + 1) = ((i + 1 : Nat) : Int) := wsucc i (by omega)
    have key : ∃ c : Bool, Ev (fun k => (impl_risingBelow.f k l[i].f0 (i : Int)).bind fun t => if t = true then ((impl_risingBelow.f k l[i].f1 (i : Int)).bind fun u => if u = true then impl_IsGame.l0 k l l (l.length : Int) ((i + 1 : Nat) : Int) else some false) else some false) c ∧ (c = true → 1 ≤ l.length ∧ l.length ≤ 40 ∧ ∀ j : Nat, i ≤ j → (hj : j < l.length) → Rise l[j].f0 (j : Int) ∧ Rise l[j].f1 (j : Int)) := by
      clear hs
      cases b1 with
      | false => exact ⟨false, Ev.bind e1 (Ev.now _), fun e => by cases e⟩
      | true =>
        cases b2 with
        | false => exact ⟨false, Ev.bind e1 (Ev.bind e2 (Ev.now _)), fun e => by cases e⟩
        | true =>
          refine ⟨b, Ev.bind e1 (Ev.bind e2 e), fun eb => ?_⟩
          obtain ⟨r1, r2, r3⟩ := q eb
          refine ⟨r1, r2, fun j hj hjl => ?_⟩
          by_cases e3 : j = i
          · subst e3
            exact ⟨q1 rfl, q2 rfl⟩
          · exact r3 j (by omega) hjl
    obtain ⟨c, hc, hq⟩ := key
    refine ⟨c, Ev.step (fun k => ?_) hc, hq⟩
    simp only [impl_IsGame.l0, if_pos g1, if_pos g2, rdI l i hil, hs]
theorem game_ev2 (l : List S57) (h : Small l) : ∃ b : Bool, Ev (fun k => impl_IsGame.f k l) b ∧ Ev (fun k => spec_gaGood.f k l) b ∧ (b = true → Gm l) := by
  obtain ⟨b, hb, hq⟩ := game_t l h l.length 0 (by omega)
  refine ⟨b, hb, Ev.congr (fun k => game_same l l _ k _) hb, fun e => ?_⟩
  obtain ⟨h1, h2, h3⟩ := hq e
  exact ⟨h1, h2, fun i hi => h3 i (by omega) hi⟩

/-! ### marks in a list of numbers, and marks that are held -/
theorem markIntS_l : ∀ (d i m : Nat) (xs : List Int), i + d = xs.length → m + d < 2 ^ 61 → xs.length < 2 ^ 61 →
    ∃ ys : List Int, Ev (fun k => laws_markIntS.l0 k xs (m : Int) (i : Int)) (((m + d : Nat) : Int), ys) ∧ ys.length = xs.length ∧ (∀ j, j < i → ys[j]? = xs[j]?) ∧
      Ev (fun k => laws_heldIntS.l0 k ys (m : Int) (i : Int)) ((m + d : Nat) : Int) := by
  intro d
  induction d with
  | zero =>
    intro i m xs hi hm hx
    refine ⟨xs, Ev.step (fun k => ?_) (Ev.now _), rfl, fun _ _ => rfl, Ev.step (fun k => ?_) (Ev.now _)⟩
    · simp only [laws_markIntS.l0]
      rw [if_neg (by omega)]
      rfl
    · simp only [laws_heldIntS.l0]
      rw [if_neg (by omega)]
      rfl
  | succ d ih =>
    intro i m xs hi hm hx
    obtain ⟨ys, h1, h2, h3, h4⟩ := ih (i + 1) (m + 1) (xs.set i (m : Int)) (by rw [List.length_set]; omega) (by omega) (by rw [List.length_set]; omega)
    rw [List.length_set] at h2
    have e : m + 1 + d = m + (d + 1) := by omega
    rw [e] at h1 h4
    have g1 : (i : Int) < (xs.length : Int) := by omega
    have g1' : (i : Int) < (ys.length : Int) := by omega
    have g2 : (0 : Int) ≤ (i : Int) := Int.natCast_nonneg _
    have g3 : rd ys (i : Int) = (m : Int) := by
      have := h3 i (by omega)
      rw [List.getElem?_set_self (by omega)] at this
      simp [rd, List.getD_eq_getElem?_getD, this]
    refine ⟨ys, Ev.step (fun k => ?_) h1, h2, fun j hj => ?_, Ev.step (fun k => ?_) h4⟩
    · simp only [laws_markIntS.l0, if_pos g1, if_pos g2]
      rw [wsucc i (by omega), wsucc m (by omega), Int.toNat_natCast]
    · have := h3 j (by omega)
      rwa [List.getElem?_set_ne (by omega)] at this
    · simp only [laws_heldIntS.l0, if_pos g1', if_pos g2, g3, if_true]
      rw [wsucc i (by omega), wsucc m (by omega)]
theorem markIntS_ev (xs : List Int) (m : Nat) (h : xs.length + m < 2 ^ 60) : ∃ ys : List Int, Ev (fun k => laws_markIntS.f k xs (m : Int)) (((m + xs.length : Nat) : Int), ys) ∧ ys.length = xs.length ∧
    Ev (fun k => laws_heldIntS.f k ys (m : Int)) ((m + xs.length : Nat) : Int) := by
  obtain ⟨ys, h1, h2, _, h4⟩ := markIntS_l xs.length 0 m xs (by omega) (by omega) (by omega)
  exact ⟨ys, h1, h2, h4⟩

/-! ### marks in the rows of positions -/
def tot (l : List S57) : Nat := (l.map fun p => p.f0.length + p.f1.length).sum
theorem rdI_mid (D l : List S57) (x : S57) : rd_T57 (D ++ x :: l) (D.length : Int) = x := by
  rw [rdI _ _ (by simp)]
  simp
theorem posmarks_ev : ∀ (l : List S57) (m : Nat), m + tot l < 2 ^ 59 → ∃ l' : List S57, Ev (fun k => laws_markPositionS.f k l (m : Int)) (((m + tot l : Nat) : Int), l') ∧
    ∀ D : List S57, D.length + l.length < 2 ^ 59 → Ev (fun k => laws_heldPositionS.l0 k (D ++ l') (m : Int) (D.length : Int)) ((m + tot l : Nat) : Int) := by
  intro l
  induction l with
  | nil =>
    intro m hm
    refine ⟨[], Ev.congr (fun k => rfl) (Ev.now ((m : Int), [])), fun D hD => ?_⟩
    have c : ¬ (D.length : Int) < ((D ++ [] : List S57).length : Int) := by simp
    refine Ev.step (fun k => ?_) (Ev.now _)
    simp only [laws_heldPositionS.l0, if_neg c]
    rfl
  | cons p ps ih =>
    intro m hm
    have ht : tot (p :: ps) = p.f0.length + p.f1.length + tot ps := by simp [tot]
    rw [ht] at hm ⊢
    obtain ⟨y0, a1, a2, a3⟩ := markIntS_ev p.f0 m (by omega)
    obtain ⟨y1, b1, b2, b3⟩ := markIntS_ev p.f1 (m + p.f0.length) (by omega)
    obtain ⟨l', e1, e2⟩ := ih (m + p.f0.length + p.f1.length) (by omega)
    rw [show m + p.f0.length + p.f1.length + tot ps = m + (p.f0.length + p.f1.length + tot ps) from by omega] at e1 e2
    refine ⟨⟨y0, y1⟩ :: l', ?_, fun D hD => ?_⟩
    · exact Ev.congr (fun k => rfl) (Ev.bind a1 (Ev.bind b1 (Ev.bind e1 (Ev.now _))))
    · have g1 : (D.length : Int) < ((D ++ (⟨y0, y1⟩ : S57) :: l').length : Int) := by simp; omega
      have g2 : (0 : Int) ≤ (D.length : Int) := Int.natCast_nonneg _
      have hn := e2 (D ++ [⟨y0, y1⟩]) (by simp only [List.length_append, List.length_cons, List.length_nil] at hD ⊢; omega)
      rw [List.append_assoc, List.length_append] at hn
      refine Ev.step (f := ?gm1) (fun k => ?gm2) ?gm3
      case gm2 => conv => lhs; simp only [laws_heldPositionS.l0, if_pos g1, if_pos g2, rdI_mid]
      case gm3 =>
        refine Ev.bind a3 ?_
        simp only [show ¬ ((m + p.f0.length : Nat) : Int) < 0 from by omega, if_false]
        refine Ev.bind b3 ?_
        simp only [show ¬ ((m + p.f0.length + p.f1.length : Nat) : Int) < 0 from by omega, if_false, wsucc D.length (by simp only [List.length_cons] at hD; omega)]
        exact hn
theorem tot_small {l : List S57} (h : Small l) : tot l ≤ 2 ^ 41 := by
  have : ∀ (L : List S57), (∀ y ∈ L, y.f0.length ≤ 1048576 ∧ y.f1.length ≤ 1048576) → tot L ≤ L.length * 2097152 := by
    intro L
    induction L with
    | nil => intro _; simp [tot]
    | cons p ps ih =>
      intro hL
      have h1 := hL p (by simp)
      have h2 := ih (fun y hy => hL y (by simp [hy]))
      have ht : tot (p :: ps) = p.f0.length + p.f1.length + tot ps := by simp [tot]
      rw [ht, List.length_cons]
      omega
  have h1 := this l h.2
  have h2 := h.1
  omega
theorem posmarks {l : List S57} (h : Small l) : ∃ (m : Nat) (l' : List S57), Ev (fun k => laws_markPositionS.f k l 1) ((m : Int), l') ∧ Ev (fun k => laws_heldPositionS.f k l' 1) (m : Int) := by
  have ht := tot_small h
  obtain ⟨l', h1, h2⟩ := posmarks_ev l 1 (by omega)
  exact ⟨_, l', h1, by
    have := h2 [] (by have := h.1; simp only [List.length_nil]; omega)
    exact this⟩

theorem own_some (x : List Int) (h : x.length < 17592186044416) : spec_l1Own.f x = some x := by
  unfold spec_l1Own.f
  simp only [Option.bind_some, List.length_nil, List.nil_append, Nat.zero_add, if_pos h]
theorem clone_some (x : List Int) (h : x.length < 17592186044416) : slices_Clone_int_int.f x = some x := by
  unfold slices_Clone_int_int.f
  simp only [Option.bind_some, List.length_nil, List.nil_append, Nat.zero_add, if_pos h]
def flip (p : S57) : S57 := ⟨p.f1, p.f0⟩
theorem flip_l (l : List S57) (h : Small l) : ∀ (d i : Nat), i + d = l.length →
    Ev (fun k => spec_NegateGame.l0 k ((l.take i).map flip) l (l.length : Int) (i : Int)) (l.map flip, true) ∧ Ev (fun k => impl_NegateGame.l0 k ((l.take i).map flip) l (l.length : Int) (i : Int)) (l.map flip, true) := by
  have hl := h.1
  intro d
  induction d with
  | zero =>
    intro i hi
    obtain rfl : i = l.length := by omega
    have c : ¬ (l.length : Int) < (l.length : Int) := by omega
    rw [List.take_length]
    constructor
    · refine Ev.step (fun k => ?_) (Ev.now _)
      simp only [spec_NegateGame.l0, if_neg c]
    · refine Ev.step (fun k => ?_) (Ev.now _)
      simp only [impl_NegateGame.l0, if_neg c]
  | succ d ih =>
    intro i hi
    have hil : i < l.length := by omega
    have c1 : (i : Int) < (l.length : Int) := by omega
    have c2 : (0 : Int) ≤ (i : Int) := Int.natCast_nonneg _
    have hw := wsucc i (by omega)
    have hb := h.2 l[i] (List.getElem_mem hil)
    obtain ⟨n1, n2⟩ := ih (i + 1) (by clear hw; omega)
    have c3 : ((l.take i).map flip).length < 2932031007402 := by rw [List.length_map, List.length_take]; clear hw; omega
    have h0 : l[i].f0.length < 17592186044416 := by clear hw; omega
    have h1 : l[i].f1.length < 17592186044416 := by clear hw; omega
    rw [List.take_succ_eq_append_getElem hil, List.map_append] at n1 n2
    constructor
    · refine Ev.step (fun k => ?_) n1
      simp only [spec_NegateGame.l0, if_pos c1, if_pos c2, rdI l i hil, own_some _ h0, own_some _ h1, Option.bind_some, if_pos c3, hw]
      rfl
    · refine Ev.step (fun k => ?_) n2
      simp only [impl_NegateGame.l0, if_pos c1, if_pos c2, rdI l i hil, clone_some _ h0, clone_some _ h1, Option.bind_some, if_pos c3, hw]
      rfl
theorem both (l : List S57) (hs : Small l) : ∃ r : List S57 × Bool, Ev (fun k => spec_NegateGame.f k l) r ∧ Ev (fun k => impl_NegateGame.f k l) r ∧ Small r.1 := by
  obtain ⟨b, e1, e2, _⟩ := game_ev2 l hs
  unfold spec_NegateGame.f impl_NegateGame.f
  cases b with
  | false => exact ⟨([], false), Ev.bind e2 (Ev.now _), Ev.bind e1 (Ev.now _), by simp [Small]⟩
  | true =>
    obtain ⟨n1, n2⟩ := flip_l l hs l.length 0 (by omega)
    refine ⟨(l.map flip, true), Ev.bind e2 n1, Ev.bind e1 n2, by rw [List.length_map]; exact hs.1, fun y hy => ?_⟩
    obtain ⟨x, hx, rfl⟩ := List.mem_map.1 hy
    exact ⟨(hs.2 x hx).2, (hs.2 x hx).1⟩

theorem proved : laws_FnExactNegateGame.Pure := by
  intro l h
  refine Ev.rounds ?_
  unfold laws_FnExactNegateGame.f
  obtain ⟨v, hv, hs⟩ := szPositionS_ev l ⟨h.1, fun y hy => ⟨(h.2 y hy).1.1, (h.2 y hy).2.1⟩⟩
  refine Ev.bind hv ?_
  by_cases hn : v < 0
  · simp only [if_pos hn]
    exact Ev.now _
  · simp only [if_neg hn]
    obtain ⟨h1, h2⟩ := hs.resolve_left hn
    have ht := toPositionS_ev l h1 h2
    have hsm := small_conv l h1 h2
    obtain ⟨r, s1, s2, s3⟩ := both (l.map conv) hsm
    obtain ⟨m0, l0', a1, _⟩ := posmarks hsm
    obtain ⟨m1, l1', b1, b2⟩ := posmarks s3
    refine Ev.bind ht (Ev.bind s1 (Ev.bind s2 (Ev.bind (eqPositionS_ev _ s3) (Ev.bind (eqPositionS_ev _ hsm) (Ev.bind a1 (Ev.bind b1 (Ev.bind b2 ?_)))))))
    refine Ev.congr (fun k => ?_) (Ev.now true)
    simp

end LFnExactNegateGame
theorem FnExactNegateGame : laws_FnExactNegateGame.Pure := LFnExactNegateGame.proved
end Go.Proofs.Ytpiafobcmhfclaa.Pure
