/- For any list of positions and any number, the dominated options that the program tells are the reference's, in new memory, and the list is left as it was. -/
import Derived.Test.YtpiafobcmhfclaaQFnExactDominatedOfx8
namespace Go.Proofs.Ytpiafobcmhfclaa.Pure
open Go.RowKit Go.Proofs.Ytpiafobcmhfclaa.QFnExactDominatedOf Go.Proofs.YtpiafobcmhfclaaW.PrintWords Go.Proofs.YtpiafobcmhfclaaW.PrintLast
set_option linter.unusedVariables false
set_option linter.unusedSimpArgs false
def laws_FnExactDominatedOf.Pure : Prop := ∀ (l0 : List (S59)) (a1 : Int), (l0.length ≤ maxLen ∧ ∀ y0 ∈ l0, ((y0.f0.length ≤ maxLen ∧ ∀ y1 ∈ y0.f0, (Lit.int .i64 y1).wf = true) ∧ (y0.f1.length ≤ maxLen ∧ ∀ y1 ∈ y0.f1, (Lit.int .i64 y1).wf = true))) → (Lit.int .i64 a1).wf = true → ∃ k, laws_FnExactDominatedOf.f k l0 a1 = some true
namespace LFnExactDominatedOf
/-! ### small words -/
theorem wsucc (i : Nat) (h : i < 2 ^ 62) : wrap64 ((i : Int) + 1) = ((i + 1 : Nat) : Int) := by unfold wrap64; omega
theorem drop_rd {l : List Int} {i : Nat} (h : i < l.length) : l.drop i = rd l (i : Int) :: l.drop (i + 1) := by
  rw [List.drop_eq_getElem_cons h]
  simp [rd, List.getD_eq_getElem?_getD, List.getElem?_eq_getElem h]

/-! ### a copy of a list of numbers is that list -/
theorem toIntS_l (x : List Int) (hx : x.length ≤ 2 ^ 60) : ∀ (d k i : Nat) (y : List Int), i + d = x.length → y.length = x.length → (∀ j, j < i → y[j]? = x[j]?) → d < k → laws_toIntS.l0 k x y i = some x := by
  intro d
  induction d with
  | zero =>
    intro k i y hi hy hj hk
    obtain ⟨k, rfl⟩ : ∃ m, k = m + 1 := ⟨k - 1, by omega⟩
    simp only [laws_toIntS.l0]
    rw [if_neg (by omega)]
    congr 1
    apply List.ext_getElem? 
    intro j
    by_cases h : j < i
    · exact hj j h
    · rw [List.getElem?_eq_none (by omega), List.getElem?_eq_none (by omega)]
  | succ d ih =>
    intro k i y hi hy hj hk
    obtain ⟨k, rfl⟩ : ∃ m, k = m + 1 := ⟨k - 1, by omega⟩
    have h1 : (i : Int) < (x.length : Int) := by omega
    have h2 : (0 : Int) ≤ (i : Int) := Int.natCast_nonneg _
    have h3 : (i : Int) < (y.length : Int) := by omega
    have h4 : i < x.length := by omega
    simp only [laws_toIntS.l0]
    rw [if_pos h1, if_pos h2, if_pos h3, wsucc i (by omega)]
    refine ih k (i + 1) _ (by omega) (by simpa using hy) ?_ (by omega)
    intro j hlt
    rw [Int.toNat_natCast, List.getElem?_set]
    by_cases e : i = j
    · subst e
      rw [if_pos rfl, if_pos (by omega)]
      simp [rd, List.getD_eq_getElem?_getD, List.getElem?_eq_getElem h4]
    · rw [if_neg e]
      exact hj j (by omega)
theorem toIntS (x : List Int) (hx : x.length ≤ 17592186044416) (k : Nat) (hk : x.length < k) : laws_toIntS.f k x = some x := by
  unfold laws_toIntS.f
  rw [if_pos (Int.natCast_nonneg _), if_pos (by rw [Int.toNat_natCast]; omega), Int.toNat_natCast]
  exact toIntS_l x (by omega) x.length k 0 _ (by omega) (by simp) (fun j h => by omega) hk

/-! ### a list of numbers equals itself -/
theorem eqIntS_l (x : List Int) (hx : x.length ≤ 2 ^ 60) : ∀ (d k i : Nat), i + d = x.length → d < k → laws_eqIntS.l0 k x x i = some true := by
  intro d
  induction d with
  | zero =>
    intro k i hi hk
    obtain ⟨k, rfl⟩ : ∃ m, k = m + 1 := ⟨k - 1, by omega⟩
    simp only [laws_eqIntS.l0]
    rw [if_neg (by omega)]
  | succ d ih =>
    intro k i hi hk
    obtain ⟨k, rfl⟩ : ∃ m, k = m + 1 := ⟨k - 1, by omega⟩
    have h1 : (i : Int) < (x.length : Int) := by omega
    have h2 : (0 : Int) ≤ (i : Int) := Int.natCast_nonneg _
    simp only [laws_eqIntS.l0, if_pos h1, if_pos h2, if_true]
    rw [wsucc i (by omega)]
    exact ih k (i + 1) (by omega) (by omega)
theorem eqIntS (x : List Int) (hx : x.length ≤ 17592186044416) (k : Nat) (hk : x.length < k) : laws_eqIntS.f k x x = some true := by
  unfold laws_eqIntS.f
  rw [if_pos rfl]
  exact eqIntS_l x (by omega) x.length k 0 (by omega) hk

/-! ### lists of numbers: the size asked, a copy, the same -/
theorem szIntS (l : List Int) (h : l.length ≤ maxLen) : laws_szIntS.f l 1048576 = some (if l.length > 1048576 then -1 else 1048576 - (l.length : Int)) := by
  unfold maxLen at h
  have hw : wrap64 (1048576 - (l.length : Int)) = 1048576 - (l.length : Int) := by unfold wrap64; omega
  unfold laws_szIntS.f
  rw [hw]
  clear hw
  by_cases g : l.length > 1048576
  · rw [if_pos (by omega), if_pos g]
  · rw [if_neg (by omega), if_neg g]
theorem toIntS_ev (x : List Int) (hx : x.length ≤ 17592186044416) : Ev (fun k => laws_toIntS.f k x) x := ⟨x.length + 1, fun k hk => toIntS x hx k (by omega)⟩
theorem eqIntS_ev (x : List Int) (hx : x.length ≤ 17592186044416) : Ev (fun k => laws_eqIntS.f k x x) true := ⟨x.length + 1, fun k hk => eqIntS x hx k (by omega)⟩

theorem szIntS' (l : List Int) (left : Nat) (h : l.length ≤ maxLen) (hl : left ≤ 1048576) : laws_szIntS.f l (left : Int) = some (if l.length > left then -1 else ((left - l.length : Nat) : Int)) := by
  unfold maxLen at h
  have hw : wrap64 ((left : Int) - (l.length : Int)) = (left : Int) - (l.length : Int) := by unfold wrap64; omega
  unfold laws_szIntS.f
  rw [hw]
  clear hw
  by_cases g : l.length > left
  · rw [if_pos (by omega), if_pos g]
  · rw [if_neg (by omega), if_neg g]
    congr 1
    omega

/-! ### lists of positions: their size, a copy, the same -/
theorem rdL (xs : List S59) (i : Nat) (h : i < xs.length) : rd_T59 xs (i : Int) = xs[i] := by
  simp [rd_T59, List.getD_eq_getElem?_getD, List.getElem?_eq_getElem h]
theorem rdI (xs : List S57) (i : Nat) (h : i < xs.length) : rd_T57 xs (i : Int) = xs[i] := by
  simp [rd_T57, List.getD_eq_getElem?_getD, List.getElem?_eq_getElem h]
theorem szPosition' (a b : List Int) (left : Nat) (ha : a.length ≤ maxLen) (hb : b.length ≤ maxLen) (hl : left ≤ 1048576) :
    ∃ v : Int, laws_szPosition.f a b (left : Int) = some v ∧ (v < 0 ∨ (a.length ≤ 1048576 ∧ b.length ≤ 1048576 ∧ ∃ n : Nat, v = (n : Int) ∧ n ≤ left)) := by
  unfold laws_szPosition.f
  rw [szIntS' a left ha hl]
  simp only [Option.bind_some]
  by_cases g : a.length > left
  · rw [if_pos g]
    exact ⟨-1, rfl, .inl (by omega)⟩
  · rw [if_neg g, if_neg (by omega), szIntS' b _ hb (by omega)]
    simp only [Option.bind_some]
    by_cases g2 : b.length > left - a.length
    · rw [if_pos g2]
      exact ⟨-1, rfl, .inl (by omega)⟩
    · rw [if_neg g2, if_neg (by omega)]
      exact ⟨_, rfl, .inr ⟨by omega, by omega, _, rfl, by omega⟩⟩
theorem szPositionS_l (l : List S59) (hl : l.length ≤ 1048576) (h : ∀ y ∈ l, y.f0.length ≤ maxLen ∧ y.f1.length ≤ maxLen) : ∀ (d i left : Nat), i + d = l.length → left ≤ 1048576 →
    ∃ v : Int, Ev (fun k => laws_szPositionS.l0 k l (left : Int) (i : Int)) v ∧ (v < 0 ∨ ∀ j : Nat, i ≤ j → ∀ hj : j < l.length, (l[j].f0.length ≤ 1048576 ∧ l[j].f1.length ≤ 1048576)) := by
  intro d
  induction d with
  | zero =>
    intro i left hi hf
    have c : ¬ (i : Int) < (l.length : Int) := by omega
    refine ⟨(left : Int), Ev.step (fun k => ?_) (Ev.now _), .inr fun j h1 h2 => by omega⟩
    simp only [laws_szPositionS.l0, if_neg c]
  | succ d ih =>
    intro i left hi hf
    have g1 : (i : Int) < (l.length : Int) := by omega
    have g2 : (0 : Int) ≤ (i : Int) := Int.natCast_nonneg _
    have hil : i < l.length := by omega
    have hb := h l[i] (List.getElem_mem hil)
    obtain ⟨v, h1, h2⟩ := szPosition' l[i].f0 l[i].f1 left hb.1 hb.2 hf
    rcases h2 with h2 | ⟨a1, a2, n, rfl, hn⟩
    · refine ⟨-1, Ev.step (fun k => ?_) (Ev.now _), .inl (by omega)⟩
      simp only [laws_szPositionS.l0, if_pos g1, if_pos g2, rdL l i hil, h1, Option.bind_some, if_pos h2]
    · obtain ⟨v, e1, e2⟩ := ih (i + 1) n (by omega) (by omega)
      have c : ¬ (n : Int) < 0 := by omega
      refine ⟨v, Ev.step (fun k => ?_) e1, ?_⟩
      · simp only [laws_szPositionS.l0, if_pos g1, if_pos g2, rdL l i hil, h1, Option.bind_some, if_neg c]
        rw [wsucc i (by omega)]
      · rcases e2 with e2 | e2
        · exact .inl e2
        · refine .inr fun j hj hjl => ?_
          by_cases e : j = i
          · subst e; exact ⟨a1, a2⟩
          · exact e2 j (by omega) hjl
theorem szPositionS_ev (l : List S59) (h : l.length ≤ maxLen ∧ ∀ y ∈ l, y.f0.length ≤ maxLen ∧ y.f1.length ≤ maxLen) :
    ∃ v : Int, Ev (fun k => laws_szPositionS.f k l 1048576) v ∧ (v < 0 ∨ (l.length ≤ 1048576 ∧ ∀ y ∈ l, y.f0.length ≤ 1048576 ∧ y.f1.length ≤ 1048576)) := by
  have hm : l.length ≤ 9223372036854775807 := h.1
  have hw : wrap64 (1048576 - (l.length : Int)) = 1048576 - (l.length : Int) := by unfold wrap64; omega
  unfold laws_szPositionS.f
  simp only [hw]
  clear hw
  by_cases g : l.length > 1048576
  · refine ⟨-1, ?_, .inl (by omega)⟩
    simp only [show (1048576 - (l.length : Int)) < 0 from by omega, if_true]
    exact Ev.now _
  · obtain ⟨v, e1, e2⟩ := szPositionS_l l (by omega) h.2 l.length 0 (1048576 - l.length) (by omega) (by omega)
    have e : ((1048576 - l.length : Nat) : Int) = 1048576 - (l.length : Int) := by omega
    rw [e] at e1
    refine ⟨v, ?_, ?_⟩
    · simp only [show ¬ (1048576 - (l.length : Int)) < 0 from by omega, if_false]
      exact e1
    · rcases e2 with e2 | e2
      · exact .inl e2
      · refine .inr ⟨by omega, fun y hy => ?_⟩
        obtain ⟨j, hj, rfl⟩ := List.mem_iff_getElem.1 hy
        exact e2 j (by omega) hj
/-- A position of the program for a position of the law. -/
def conv (p : S59) : S57 := ⟨p.f0, p.f1⟩
theorem toPosition_ev (a b : List Int) (ha : a.length ≤ 1048576) (hb : b.length ≤ 1048576) : Ev (fun k => laws_toPosition.f k a b) (a, b) := by
  unfold laws_toPosition.f
  exact Ev.bind (toIntS_ev a (by omega)) (Ev.bind (toIntS_ev b (by omega)) (Ev.now _))
theorem toPositionS_l (l : List S59) (hl : l.length ≤ 1048576) (h : ∀ y ∈ l, y.f0.length ≤ 1048576 ∧ y.f1.length ≤ 1048576) : ∀ (d i : Nat) (ys : List S57), i + d = l.length → ys.length = l.length → (∀ j, j < i → ys[j]? = (l.map conv)[j]?) →
    Ev (fun k => laws_toPositionS.l0 k l ys (i : Int)) (l.map conv) := by
  intro d
  induction d with
  | zero =>
    intro i ys hi hy hj
    have c : ¬ (i : Int) < (l.length : Int) := by omega
    have : ys = l.map conv := by
      apply List.ext_getElem?
      intro j
      by_cases g : j < i
      · exact hj j g
      · rw [List.getElem?_eq_none (by omega), List.getElem?_eq_none (by rw [List.length_map]; omega)]
    subst this
    refine Ev.step (fun k => ?_) (Ev.now _)
    simp only [laws_toPositionS.l0, if_neg c]
  | succ d ih =>
    intro i ys hi hy hj
    have g1 : (i : Int) < (l.length : Int) := by omega
    have g1' : (i : Int) < (ys.length : Int) := by omega
    have g2 : (0 : Int) ≤ (i : Int) := Int.natCast_nonneg _
    have hil : i < l.length := by omega
    have hb := h l[i] (List.getElem_mem hil)
    refine Ev.step (f := ?f) (fun k => ?e) ?v
    case e => conv => lhs; simp only [laws_toPositionS.l0, if_pos g1, if_pos g2, rdL l i hil]
    case v =>
      refine Ev.bind (toPosition_ev _ _ hb.1 hb.2) ?_
      simp only [if_pos g1']
      rw [wsucc i (by omega), Int.toNat_natCast]
      refine ih (i + 1) _ (by omega) (by rw [List.length_set]; exact hy) (fun j hjl => ?_)
      rw [List.getElem?_set]
      by_cases e : i = j
      · subst e
        rw [if_pos rfl, if_pos (by omega), List.getElem?_map, List.getElem?_eq_getElem hil]
        rfl
      · rw [if_neg e]
        exact hj j (by omega)
theorem toPositionS_ev (l : List S59) (hl : l.length ≤ 1048576) (h : ∀ y ∈ l, y.f0.length ≤ 1048576 ∧ y.f1.length ≤ 1048576) : Ev (fun k => laws_toPositionS.f k l) (l.map conv) := by
  unfold laws_toPositionS.f
  simp only [if_pos (Int.natCast_nonneg l.length), Int.toNat_natCast, show l.length ≤ 5864062014805 from by omega, if_true]
  exact toPositionS_l l hl h l.length 0 _ (by omega) (by simp) (fun j hj => by omega)
/-- What the copies are like. -/
def Small (l : List S57) : Prop := l.length ≤ 1048576 ∧ ∀ y ∈ l, y.f0.length ≤ 1048576 ∧ y.f1.length ≤ 1048576
theorem small_conv (l : List S59) (hl : l.length ≤ 1048576) (h : ∀ y ∈ l, y.f0.length ≤ 1048576 ∧ y.f1.length ≤ 1048576) : Small (l.map conv) := by
  refine ⟨by rw [List.length_map]; exact hl, fun y hy => ?_⟩
  obtain ⟨x, hx, rfl⟩ := List.mem_map.1 hy
  exact h x hx
theorem eqPosition_ev (a b : List Int) (ha : a.length ≤ 1048576) (hb : b.length ≤ 1048576) : Ev (fun k => laws_eqPosition.f k a b a b) true := by
  unfold laws_eqPosition.f
  refine Ev.bind (eqIntS_ev a (by omega)) ?_
  simp only [if_true]
  exact Ev.bind (eqIntS_ev b (by omega)) (Ev.now _)
theorem eqPositionS_l (l : List S57) (h : Small l) : ∀ (d i : Nat), i + d = l.length → Ev (fun k => laws_eqPositionS.l0 k l l (i : Int)) true := by
  have hl := h.1
  intro d
  induction d with
  | zero =>
    intro i hi
    have c : ¬ (i : Int) < (l.length : Int) := by omega
    refine Ev.step (fun k => ?_) (Ev.now _)
    simp only [laws_eqPositionS.l0, if_neg c]
  | succ d ih =>
    intro i hi
    have g1 : (i : Int) < (l.length : Int) := by omega
    have g2 : (0 : Int) ≤ (i : Int) := Int.natCast_nonneg _
    have hil : i < l.length := by omega
    have hb := h.2 l[i] (List.getElem_mem hil)
    refine Ev.step (f := ?f) (fun k => ?e) ?v
    case e => conv => lhs; simp only [laws_eqPositionS.l0, if_pos g1, if_pos g2, rdI l i hil]
    case v =>
      refine Ev.bind (eqPosition_ev _ _ hb.1 hb.2) ?_
      simp only [if_true]
      rw [wsucc i (by omega)]
      exact ih (i + 1) (by omega)
theorem eqPositionS_ev (l : List S57) (h : Small l) : Ev (fun k => laws_eqPositionS.f k l l) true := by
  unfold laws_eqPositionS.f
  simp only [if_true]
  exact eqPositionS_l l h l.length 0 (by omega)

/-! ### what is a game, on both sides -/
theorem in_eq (e a b : Int) : spec_l1In.f e a b = impl_in.f e a b := rfl
theorem in_some (e a b : Int) : impl_in.f e a b = some (decide (a ≤ e ∧ e ≤ b)) := by
  unfold impl_in.f
  by_cases h : e ≥ a
  · rw [if_pos h]; congr 1; simp; omega
  · rw [if_neg h]; congr 1; simp; omega
theorem rising_same (x z : List Int) (i n : Int) : ∀ (k : Nat) (j : Int), spec_l1Rising.l0 k x 0 (wrap64 (i - 1)) z n j = impl_risingBelow.l0 k x i z n j
  | 0, _ => rfl
  | k + 1, j => by simp only [spec_l1Rising.l0, impl_risingBelow.l0, in_eq, rising_same x z i n k]
theorem rising_l (x : List Int) (n : Int) (hx : x.length ≤ 1048576) : ∀ (d j : Nat), j + d = x.length → ∃ b : Bool, Ev (fun k => impl_risingBelow.l0 k x n x (x.length : Int) (j : Int)) b := by
  intro d
  induction d with
  | zero =>
    intro j hj
    have c : ¬ (j : Int) < (x.length : Int) := by omega
    refine ⟨true, Ev.step (fun k => ?_) (Ev.now _)⟩
    simp only [impl_risingBelow.l0, if_neg c]
  | succ d ih =>
    intro j hj
    have g1 : (j : Int) < (x.length : Int) := by omega
    have g2 : (0 : Int) ≤ (j : Int) := Int.natCast_nonneg _
    obtain ⟨b, hb⟩ := ih (j + 1) (by omega)
    have hs : wrap64 ((j : Int) + 1) = ((j + 1 : Nat) : Int) := wsucc j (by omega)
    by_cases h : 0 ≤ rd x (j : Int) ∧ rd x (j : Int) ≤ wrap64 (n - 1)
    · by_cases h0 : (j : Int) > 0
      · have hp : wrap64 ((j : Int) - 1) = ((j - 1 : Nat) : Int) := by clear hs h; unfold wrap64; omega
        have g3 : (0 : Int) ≤ ((j - 1 : Nat) : Int) := Int.natCast_nonneg _
        have g4 : ((j - 1 : Nat) : Int) < (x.length : Int) := by clear hs h hp; omega
        by_cases h5 : rd x ((j - 1 : Nat) : Int) ≥ rd x (j : Int)
        · refine ⟨false, Ev.step (fun k => ?_) (Ev.now _)⟩
          simp only [impl_risingBelow.l0, if_pos g1, if_pos g2, in_some, h, and_self, decide_true, Option.bind_some, if_true, if_pos h0, hp, if_pos g3, if_pos g4, if_pos h5]
        · refine ⟨b, Ev.step (fun k => ?_) hb⟩
          simp only [impl_risingBelow.l0, if_pos g1, if_pos g2, in_some, h, and_self, decide_true, Option.bind_some, if_true, if_pos h0, hp, if_pos g3, if_pos g4, if_neg h5, hs]
      · refine ⟨b, Ev.step (fun k => ?_) hb⟩
        simp only [impl_risingBelow.l0, if_pos g1, if_pos g2, in_some, h, and_self, decide_true, Option.bind_some, if_true, if_neg h0, hs]
    · refine ⟨false, Ev.step (fun k => ?_) (Ev.now _)⟩
      simp only [impl_risingBelow.l0, if_pos g1, if_pos g2, in_some, h, decide_false, Option.bind_some, Bool.false_eq_true, if_false]
theorem rising_ev (x : List Int) (n : Int) (hx : x.length ≤ 1048576) : ∃ b : Bool, Ev (fun k => impl_risingBelow.f k x n) b := rising_l x n hx x.length 0 (by omega)
theorem game_same (x z : List S57) (n : Int) : ∀ (k : Nat) (j : Int), spec_gaGood.l0 k x z n j = impl_IsGame.l0 k x z n j
  | 0, _ => rfl
  | k + 1, j => by
    simp only [spec_gaGood.l0, impl_IsGame.l0, in_eq, spec_l1Rising.f, impl_risingBelow.f, rising_same, game_same x z n k]
theorem game_l (l : List S57) (h : Small l) : ∀ (d i : Nat), i + d = l.length → ∃ b : Bool, Ev (fun k => impl_IsGame.l0 k l l (l.length : Int) (i : Int)) b := by
  have hl := h.1
  intro d
  induction d with
  | zero =>
    intro i hi
    have c : ¬ (i : Int) < (l.length : Int) := by omega
    refine ⟨decide (1 ≤ (l.length : Int) ∧ (l.length : Int) ≤ 40), Ev.step (fun k => ?_) (Ev.now _)⟩
    simp only [impl_IsGame.l0, if_neg c, in_some, Option.bind_some]
  | succ d ih =>
    intro i hi
    have g1 : (i : Int) < (l.length : Int) := by omega
    have g2 : (0 : Int) ≤ (i : Int) := Int.natCast_nonneg _
    have hil : i < l.length := by omega
    have hb := h.2 l[i] (List.getElem_mem hil)
    obtain ⟨b, e⟩ := ih (i + 1) (by omega)
    obtain ⟨b1, e1⟩ := rising_ev l[i].f0 (i : Int) hb.1
    obtain ⟨b2, e2⟩ := rising_ev l[i].f1 (i : Int) hb.2
    have hs : wrap64 ((i : Int) + 1) = ((i + 1 : Nat) : Int) := wsucc i (by omega)
    have key : ∃ c : Bool, Ev (fun k => (impl_risingBelow.f k l[i].f0 (i : Int)).bind fun t => if t = true then ((impl_risingBelow.f k l[i].f1 (i : Int)).bind fun u => if u = true then impl_IsGame.l0 k l l (l.length : Int) ((i + 1 : Nat) : Int) else some false) else some false) c := by
      cases b1 with
      | false => exact ⟨false, Ev.bind e1 (Ev.now _)⟩
      | true =>
        cases b2 with
        | false => exact ⟨false, Ev.bind e1 (Ev.bind e2 (Ev.now _))⟩
        | true => exact ⟨b, Ev.bind e1 (Ev.bind e2 e)⟩
    obtain ⟨c, hc⟩ := key
    refine ⟨c, Ev.step (fun k => ?_) hc⟩
    simp only [impl_IsGame.l0, if_pos g1, if_pos g2, rdI l i hil, hs]
theorem game_ev (l : List S57) (h : Small l) : ∃ b : Bool, Ev (fun k => impl_IsGame.f k l) b ∧ Ev (fun k => spec_gaGood.f k l) b := by
  obtain ⟨b, hb⟩ := game_l l h l.length 0 (by omega)
  exact ⟨b, hb, Ev.congr (fun k => game_same l l _ k _) hb⟩

/-! ### what a game's positions are like -/
theorem rd_nat (x : List Int) (i : Nat) (h : i < x.length) : rd x (i : Int) = x[i] := by
  simp [rd, List.getD_eq_getElem?_getD, List.getElem?_eq_getElem h]
theorem rising_t (x : List Int) (n : Int) (hx : x.length ≤ 1048576) (hn : 0 ≤ n ∧ n ≤ 1048576) : ∀ (d j : Nat), j + d = x.length → ∃ b : Bool, Ev (fun k => impl_risingBelow.l0 k x n x (x.length : Int) (j : Int)) b ∧ (b = true → ∀ i : Nat, j ≤ i → (h : i < x.length) → 0 ≤ x[i] ∧ x[i] < n ∧ (0 < i → rd x ((i - 1 : Nat) : Int) < x[i])) := by
  intro d
  induction d with
  | zero =>
    intro j hj
    have c : ¬ (j : Int) < (x.length : Int) := by omega
    refine ⟨true, Ev.step (fun k => ?_) (Ev.now _), fun _ i h1 h2 => by omega⟩
    simp only [impl_risingBelow.l0, if_neg c]
  | succ d ih =>
    intro j hj
    have g1 : (j : Int) < (x.length : Int) := by omega
    have g2 : (0 : Int) ≤ (j : Int) := Int.natCast_nonneg _
    have hjl : j < x.length := by omega
    obtain ⟨b, hb, hq⟩ := ih (j + 1) (by omega)
    have hs : wrap64 ((j : Int) + 1) = ((j + 1 : Nat) : Int) := wsucc j (by omega)
    have hw : wrap64 (n - 1) = n - 1 := by clear hs; unfold wrap64; omega
    by_cases h : 0 ≤ rd x (j : Int) ∧ rd x (j : Int) ≤ wrap64 (n - 1)
    · have h' := h
      rw [hw, rd_nat x j hjl] at h'
      clear hw
      by_cases h0 : (j : Int) > 0
      · have hp : wrap64 ((j : Int) - 1) = ((j - 1 : Nat) : Int) := by clear hs h; unfold wrap64; omega
        have g3 : (0 : Int) ≤ ((j - 1 : Nat) : Int) := Int.natCast_nonneg _
        have g4 : ((j - 1 : Nat) : Int) < (x.length : Int) := by clear hs h hp; omega
        by_cases h5 : rd x ((j - 1 : Nat) : Int) ≥ rd x (j : Int)
        · refine ⟨false, Ev.step (fun k => ?_) (Ev.now _), fun e => by cases e⟩
          simp only [impl_risingBelow.l0, if_pos g1, if_pos g2, in_some, h, and_self, decide_true, Option.bind_some, if_true, if_pos h0, hp, if_pos g3, if_pos g4, if_pos h5]
        · refine ⟨b, Ev.step (fun k => ?_) hb, fun e i h1 h2 => ?_⟩
          · simp only [impl_risingBelow.l0, if_pos g1, if_pos g2, in_some, h, and_self, decide_true, Option.bind_some, if_true, if_pos h0, hp, if_pos g3, if_pos g4, if_neg h5, hs]
          · by_cases e2 : i = j
            · subst e2
              rw [rd_nat x i hjl] at h5
              clear hs h hp
              exact ⟨h'.1, by omega, fun _ => by omega⟩
            · exact hq e i (by omega) h2
      · refine ⟨b, Ev.step (fun k => ?_) hb, fun e i h1 h2 => ?_⟩
        · simp only [impl_risingBelow.l0, if_pos g1, if_pos g2, in_some, h, and_self, decide_true, Option.bind_some, if_true, if_neg h0, hs]
        · by_cases e2 : i = j
          · subst e2
            clear hs h
            exact ⟨h'.1, by omega, fun _ => by omega⟩
          · exact hq e i (by omega) h2
    · refine ⟨false, Ev.step (fun k => ?_) (Ev.now _), fun e => by cases e⟩
      simp only [impl_risingBelow.l0, if_pos g1, if_pos g2, in_some, h, decide_false, Option.bind_some, Bool.false_eq_true, if_false]
def Rise (x : List Int) (n : Int) : Prop := (∀ y ∈ x, 0 ≤ y ∧ y < n) ∧ x.Pairwise (· < ·)
theorem rise_of {x : List Int} {n : Int} (h : ∀ i : Nat, 0 ≤ i → (h : i < x.length) → 0 ≤ x[i] ∧ x[i] < n ∧ (0 < i → rd x ((i - 1 : Nat) : Int) < x[i])) : Rise x n := by
  refine ⟨fun y hy => ?_, ?_⟩
  · obtain ⟨i, hi, rfl⟩ := List.mem_iff_getElem.1 hy
    exact ⟨(h i (by omega) hi).1, (h i (by omega) hi).2.1⟩
  · rw [List.pairwise_iff_getElem]
    intro i j hi hj hij
    induction j with
    | zero => omega
    | succ j ih =>
      have h1 := (h (j + 1) (by omega) hj).2.2 (by omega)
      rw [show j + 1 - 1 = j from rfl, rd_nat x j (by omega)] at h1
      by_cases e : i = j
      · subst e; exact h1
      · have := ih (by omega) (by omega)
        omega
theorem rising_ev2 (x : List Int) (n : Int) (hx : x.length ≤ 1048576) (hn : 0 ≤ n ∧ n ≤ 1048576) : ∃ b : Bool, Ev (fun k => impl_risingBelow.f k x n) b ∧ (b = true → Rise x n) := by
  obtain ⟨b, h1, h2⟩ := rising_t x n hx hn x.length 0 (by omega)
  exact ⟨b, h1, fun e => rise_of (h2 e)⟩
/-- A game: from 1 to 40 positions, whose options rise and come before them. -/
def Gm (l : List S57) : Prop := 1 ≤ l.length ∧ l.length ≤ 40 ∧ ∀ i : Nat, (h : i < l.length) → Rise l[i].f0 (i : Int) ∧ Rise l[i].f1 (i : Int)
theorem game_t (l : List S57) (h : Small l) : ∀ (d i : Nat), i + d = l.length → ∃ b : Bool, Ev (fun k => impl_IsGame.l0 k l l (l.length : Int) (i : Int)) b ∧ (b = true → 1 ≤ l.length ∧ l.length ≤ 40 ∧ ∀ j : Nat, i ≤ j → (hj : j < l.length) → Rise l[j].f0 (j : Int) ∧ Rise l[j].f1 (j : Int)) := by
  have hl := h.1
  intro d
  induction d with
  | zero =>
    intro i hi
    have c : ¬ (i : Int) < (l.length : Int) := by omega
    refine ⟨decide (1 ≤ (l.length : Int) ∧ (l.length : Int) ≤ 40), Ev.step (fun k => ?_) (Ev.now _), fun e => ?_⟩
    · simp only [impl_IsGame.l0, if_neg c, in_some, Option.bind_some]
    · have := of_decide_eq_true e
      exact ⟨by omega, by omega, fun j h1 h2 => by omega⟩
  | succ d ih =>
    intro i hi
    have g1 : (i : Int) < (l.length : Int) := by omega
    have g2 : (0 : Int) ≤ (i : Int) := Int.natCast_nonneg _
    have hil : i < l.length := by omega
    have hb := h.2 l[i] (List.getElem_mem hil)
    obtain ⟨b, e, q⟩ := ih (i + 1) (by omega)
    obtain ⟨b1, e1, q1⟩ := rising_ev2 l[i].f0 (i : Int) hb.1 (by omega)
    obtain ⟨b2, e2, q2⟩ := rising_ev2 l[i].f1 (i : Int) hb.2 (by omega)
    have hs : wrap64 ((i : Int) + 1) = ((i + 1 : Nat) : Int) := wsucc i (by omega)
    have key : ∃ c : Bool, Ev (fun k => (impl_risingBelow.f k l[i].f0 (i : Int)).bind fun t => if t = true then ((impl_risingBelow.f k l[i].f1 (i : Int)).bind fun u => if u = true then impl_IsGame.l0 k l l (l.length : Int) ((i + 1 : Nat) : Int) else some false) else some false) c ∧ (c = true → 1 ≤ l.length ∧ l.length ≤ 40 ∧ ∀ j : Nat, i ≤ j → (hj : j < l.length) → Rise l[j].f0 (j : Int) ∧ Rise l[j].f1 (j : Int)) := by
      clear hs
      cases b1 with
      | false => exact ⟨false, Ev.bind e1 (Ev.now _), fun e => by cases e⟩
      | true =>
        cases b2 with
        | false => exact ⟨false, Ev.bind e1 (Ev.bind e2 (Ev.now _)), fun e => by cases e⟩
        | true =>
          refine ⟨b, Ev.bind e1 (Ev.bind e2 e), fun eb => ?_⟩
          obtain ⟨r1, r2, r3⟩ := q eb
          refine ⟨r1, r2, fun j hj hjl => ?_⟩
          by_cases e3 : j = i
          · subst e3
            exact ⟨q1 rfl, q2 rfl⟩
          · exact r3 j (by omega) hjl
    obtain ⟨c, hc, hq⟩ := key
    refine ⟨c, Ev.step (fun k => ?_) hc, hq⟩
    simp only [impl_IsGame.l0, if_pos g1, if_pos g2, rdI l i hil, hs]
theorem game_ev2 (l : List S57) (h : Small l) : ∃ b : Bool, Ev (fun k => impl_IsGame.f k l) b ∧ Ev (fun k => spec_gaGood.f k l) b ∧ (b = true → Gm l) := by
  obtain ⟨b, hb, hq⟩ := game_t l h l.length 0 (by omega)
  refine ⟨b, hb, Ev.congr (fun k => game_same l l _ k _) hb, fun e => ?_⟩
  obtain ⟨h1, h2, h3⟩ := hq e
  exact ⟨h1, h2, fun i hi => h3 i (by omega) hi⟩

theorem has_ev (l : List S57) (h : Small l) (a : Int) : ∃ b : Bool, Ev (fun k => impl_hasPosition.f k l a) b ∧ Ev (fun k => spec_gaHas.f k l a) b ∧ (b = true → Gm l ∧ 0 ≤ a ∧ a < (l.length : Int)) := by
  obtain ⟨b, e1, e2, q⟩ := game_ev2 l h
  have hl := h.1
  cases b with
  | false =>
    refine ⟨false, ?_, ?_, fun e => by cases e⟩
    · unfold impl_hasPosition.f
      exact Ev.bind e1 (Ev.now _)
    · unfold spec_gaHas.f
      exact Ev.bind e2 (Ev.now _)
  | true =>
    have hw : wrap64 ((l.length : Int) - 1) = (l.length : Int) - 1 := by unfold wrap64; omega
    refine ⟨decide (0 ≤ a ∧ a ≤ (l.length : Int) - 1), ?_, ?_, fun e => ⟨q rfl, ?_⟩⟩
    · unfold impl_hasPosition.f
      refine Ev.bind e1 ?_
      simp only [if_true, in_some, hw, Option.bind_some]
      exact Ev.now _
    · unfold spec_gaHas.f
      refine Ev.bind e2 ?_
      simp only [if_true, in_eq, in_some, hw, Option.bind_some]
      exact Ev.now _
    · have := of_decide_eq_true e
      clear hw
      omega

/-! ### marks in a list of numbers, and marks that are held -/
theorem markIntS_l : ∀ (d i m : Nat) (xs : List Int), i + d = xs.length → m + d < 2 ^ 61 → xs.length < 2 ^ 61 →
    ∃ ys : List Int, Ev (fun k => laws_markIntS.l0 k xs (m : Int) (i : Int)) (((m + d : Nat) : Int), ys) ∧ ys.length = xs.length ∧ (∀ j, j < i → ys[j]? = xs[j]?) ∧
      Ev (fun k => laws_heldIntS.l0 k ys (m : Int) (i : Int)) ((m + d : Nat) : Int) := by
  intro d
  induction d with
  | zero =>
    intro i m xs hi hm hx
    refine ⟨xs, Ev.step (fun k => ?_) (Ev.now _), rfl, fun _ _ => rfl, Ev.step (fun k => ?_) (Ev.now _)⟩
    · simp only [laws_markIntS.l0]
      rw [if_neg (by omega)]
      rfl
    · simp only [laws_heldIntS.l0]
      rw [if_neg (by omega)]
      rfl
  | succ d ih =>
    intro i m xs hi hm hx
    obtain ⟨ys, h1, h2, h3, h4⟩ := ih (i + 1) (m + 1) (xs.set i (m : Int)) (by rw [List.length_set]; omega) (by omega) (by rw [List.length_set]; omega)
    rw [List.length_set] at h2
    have e : m + 1 + d = m + (d + 1) := by omega
    rw [e] at h1 h4
    have g1 : (i : Int) < (xs.length : Int) := by omega
    have g1' : (i : Int) < (ys.length : Int) := by omega
    have g2 : (0 : Int) ≤ (i : Int) := Int.natCast_nonneg _
    have g3 : rd ys (i : Int) = (m : Int) := by
      have := h3 i (by omega)
      rw [List.getElem?_set_self (by omega)] at this
      simp [rd, List.getD_eq_getElem?_getD, this]
    refine ⟨ys, Ev.step (fun k => ?_) h1, h2, fun j hj => ?_, Ev.step (fun k => ?_) h4⟩
    · simp only [laws_markIntS.l0, if_pos g1, if_pos g2]
      rw [wsucc i (by omega), wsucc m (by omega), Int.toNat_natCast]
    · have := h3 j (by omega)
      rwa [List.getElem?_set_ne (by omega)] at this
    · simp only [laws_heldIntS.l0, if_pos g1', if_pos g2, g3, if_true]
      rw [wsucc i (by omega), wsucc m (by omega)]
theorem markIntS_ev (xs : List Int) (m : Nat) (h : xs.length + m < 2 ^ 60) : ∃ ys : List Int, Ev (fun k => laws_markIntS.f k xs (m : Int)) (((m + xs.length : Nat) : Int), ys) ∧ ys.length = xs.length ∧
    Ev (fun k => laws_heldIntS.f k ys (m : Int)) ((m + xs.length : Nat) : Int) := by
  obtain ⟨ys, h1, h2, _, h4⟩ := markIntS_l xs.length 0 m xs (by omega) (by omega) (by omega)
  exact ⟨ys, h1, h2, h4⟩

/-! ### marks in the rows of positions, where nothing is asked of them after -/
def tot (l : List S57) : Nat := (l.map fun p => p.f0.length + p.f1.length).sum
theorem posmarks_ev : ∀ (l : List S57) (m : Nat), m + tot l < 2 ^ 59 → ∃ l' : List S57, Ev (fun k => laws_markPositionS.f k l (m : Int)) (((m + tot l : Nat) : Int), l') := by
  intro l
  induction l with
  | nil =>
    intro m hm
    exact ⟨[], Ev.congr (fun k => rfl) (Ev.now ((m : Int), []))⟩
  | cons p ps ih =>
    intro m hm
    have ht : tot (p :: ps) = p.f0.length + p.f1.length + tot ps := by simp [tot]
    rw [ht] at hm ⊢
    obtain ⟨y0, a1, a2, a3⟩ := markIntS_ev p.f0 m (by omega)
    obtain ⟨y1, b1, b2, b3⟩ := markIntS_ev p.f1 (m + p.f0.length) (by omega)
    obtain ⟨l', e1⟩ := ih (m + p.f0.length + p.f1.length) (by omega)
    rw [show m + p.f0.length + p.f1.length + tot ps = m + (p.f0.length + p.f1.length + tot ps) from by omega] at e1
    exact ⟨⟨y0, y1⟩ :: l', Ev.congr (fun k => rfl) (Ev.bind a1 (Ev.bind b1 (Ev.bind e1 (Ev.now _))))⟩
theorem tot_small {l : List S57} (h : Small l) : tot l ≤ 2 ^ 41 := by
  have : ∀ (L : List S57), (∀ y ∈ L, y.f0.length ≤ 1048576 ∧ y.f1.length ≤ 1048576) → tot L ≤ L.length * 2097152 := by
    intro L
    induction L with
    | nil => intro _; simp [tot]
    | cons p ps ih =>
      intro hL
      have h1 := hL p (by simp)
      have h2 := ih (fun y hy => hL y (by simp [hy]))
      have ht : tot (p :: ps) = p.f0.length + p.f1.length + tot ps := by simp [tot]
      rw [ht, List.length_cons]
      omega
  have h1 := this l h.2
  have h2 := h.1
  omega
theorem posmarks {l : List S57} (h : Small l) : ∃ (m : Nat) (l' : List S57), Ev (fun k => laws_markPositionS.f k l 1) ((m : Int), l') := by
  have ht := tot_small h
  obtain ⟨l', h1⟩ := posmarks_ev l 1 (by omega)
  exact ⟨_, l', h1⟩

/-! ### the table of what is at most what -/
def en (T : List (List Bool)) (a b : Nat) : Bool := (T.getD a []).getD b false
def Sq (n : Nat) (T : List (List Bool)) : Prop := T.length = n ∧ ∀ a, a < n → (T.getD a []).length = n
theorem rd5 (T : List (List Bool)) (a : Nat) : rd_L5 T (a : Int) = T.getD a [] := rfl
theorem rdO (r : List Bool) (b : Nat) : rdOf false r (b : Int) = r.getD b false := rfl
theorem getD_set_same {α : Type} (T : List α) (a : Nat) (r d : α) (h : a < T.length) : (T.set a r).getD a d = r := by
  simp [List.getD_eq_getElem?_getD, h]
theorem getD_set_ne {α : Type} (T : List α) (a c : Nat) (r d : α) (h : a ≠ c) : (T.set a r).getD c d = T.getD c d := by
  simp [List.getD_eq_getElem?_getD, List.getElem?_set_ne h]
theorem sq_set {n : Nat} {T : List (List Bool)} (h : Sq n T) (a b : Nat) (ha : a < n) (v : Bool) : Sq n (T.set a ((T.getD a []).set b v)) := by
  refine ⟨by rw [List.length_set]; exact h.1, fun c hc => ?_⟩
  by_cases e : a = c
  · subst e
    rw [getD_set_same _ _ _ _ (by rw [h.1]; exact ha), List.length_set]
    exact h.2 a ha
  · rw [getD_set_ne _ _ _ _ _ e]
    exact h.2 c hc
theorem en_same {n : Nat} {T : List (List Bool)} (h : Sq n T) (a b : Nat) (ha : a < n) (hb : b < n) (v : Bool) : en (T.set a ((T.getD a []).set b v)) a b = v := by
  unfold en
  rw [getD_set_same _ _ _ _ (by rw [h.1]; exact ha), getD_set_same _ _ _ _ (by rw [h.2 a ha]; exact hb)]
theorem en_ne {T : List (List Bool)} (n : Nat) (h : Sq n T) (a b : Nat) (ha : a < n) (v : Bool) (c d : Nat) (hne : ¬ (a = c ∧ b = d)) : en (T.set a ((T.getD a []).set b v)) c d = en T c d := by
  unfold en
  by_cases e : a = c
  · subst e
    have : b ≠ d := fun e2 => hne ⟨rfl, e2⟩
    rw [getD_set_same _ _ _ _ (by rw [h.1]; exact ha), getD_set_ne _ _ _ _ _ this]
  · rw [getD_set_ne _ _ _ _ _ e]
theorem nat_of {y : Int} (h : 0 ≤ y) : ∃ m : Nat, y = (m : Int) := ⟨y.toNat, by omega⟩
theorem shown_l1 {n : Nat} {T : List (List Bool)} (h : Sq n T) (a : Nat) (ha : a < n) (ys : List Int) (hl : ys.length ≤ 1048576) (hy : ∀ y ∈ ys, 0 ≤ y ∧ y < (n : Int)) :
    ∀ (d j : Nat), j + d = ys.length → Ev (fun k => spec_gaShown.l1 k T (a : Int) ys (ys.length : Int) (j : Int)) ((ys.drop j).all (fun y => !en T y.toNat a)) := by
  intro d
  induction d with
  | zero =>
    intro j hj
    have c : ¬ (j : Int) < (ys.length : Int) := by omega
    rw [List.drop_of_length_le (by omega)]
    refine Ev.step (fun k => ?_) (Ev.now _)
    simp only [spec_gaShown.l1, if_neg c]
    rfl
  | succ d ih =>
    intro j hj
    have g1 : (j : Int) < (ys.length : Int) := by omega
    have g2 : (0 : Int) ≤ (j : Int) := Int.natCast_nonneg _
    have hjl : j < ys.length := by omega
    have hyj := hy ys[j] (List.getElem_mem hjl)
    obtain ⟨m, hm⟩ := nat_of hyj.1
    rw [List.drop_eq_getElem_cons hjl, List.all_cons]
    rw [hm] at hyj ⊢
    have hmn : m < n := by omega
    have g3 : (m : Int) < (T.length : Int) := by rw [h.1]; omega
    have g4 : (0 : Int) ≤ (a : Int) := Int.natCast_nonneg _
    have g5 : (a : Int) < ((T.getD m []).length : Int) := by rw [h.2 m hmn]; omega
    have gm : (0 : Int) ≤ (m : Int) := Int.natCast_nonneg _
    cases hv : en T m a with
    | true =>
      have hv' : (T.getD m []).getD a false = true := hv
      rw [Int.toNat_natCast, hv]
      refine Ev.step (fun k => ?_) (Ev.now _)
      simp only [spec_gaShown.l1, if_pos g1, if_pos g2, rd_nat ys j hjl, hm, if_pos gm, if_pos g3, if_pos g4, rd5, if_pos g5, rdO, hv', if_true]
      rfl
    | false =>
      have hv' : (T.getD m []).getD a false = false := hv
      rw [Int.toNat_natCast, hv]
      refine Ev.step (fun k => ?_) (ih (j + 1) (by omega))
      simp only [spec_gaShown.l1, if_pos g1, if_pos g2, rd_nat ys j hjl, hm, if_pos gm, if_pos g3, if_pos g4, rd5, if_pos g5, rdO, hv', Bool.false_eq_true, if_false, wsucc j (by omega)]
theorem shown_l0 {n : Nat} {T : List (List Bool)} (h : Sq n T) (g : List S57) (hg : g.length = n) (a b : Nat) (ha : a < n) (hb : b < n) (xs : List Int) (hl : xs.length ≤ 1048576) (hx : ∀ y ∈ xs, 0 ≤ y ∧ y < (n : Int))
    (hl2 : (rd_T57 g (b : Int)).f1.length ≤ 1048576) (hy : ∀ y ∈ (rd_T57 g (b : Int)).f1, 0 ≤ y ∧ y < (n : Int)) :
    ∀ (d j : Nat), j + d = xs.length → Ev (fun k => spec_gaShown.l0 k g T (a : Int) (b : Int) xs (xs.length : Int) (j : Int)) ((xs.drop j).all (fun x => !en T b x.toNat) && (rd_T57 g (b : Int)).f1.all (fun y => !en T y.toNat a)) := by
  have gb : (0 : Int) ≤ (b : Int) := Int.natCast_nonneg _
  have gb2 : (b : Int) < (g.length : Int) := by omega
  have gb3 : (b : Int) < (T.length : Int) := by rw [h.1]; omega
  intro d
  induction d with
  | zero =>
    intro j hj
    have c : ¬ (j : Int) < (xs.length : Int) := by omega
    rw [List.drop_of_length_le (by omega), List.all_nil, Bool.true_and]
    refine Ev.step (fun k => ?_) (shown_l1 h a ha _ hl2 hy _ 0 (Nat.zero_add _))
    simp only [spec_gaShown.l0, if_neg c, if_pos gb, if_pos gb2]
    rfl
  | succ d ih =>
    intro j hj
    have g1 : (j : Int) < (xs.length : Int) := by omega
    have g2 : (0 : Int) ≤ (j : Int) := Int.natCast_nonneg _
    have hjl : j < xs.length := by omega
    have hyj := hx xs[j] (List.getElem_mem hjl)
    obtain ⟨m, hm⟩ := nat_of hyj.1
    rw [List.drop_eq_getElem_cons hjl, List.all_cons]
    rw [hm] at hyj ⊢
    have hmn : m < n := by omega
    have g5 : (m : Int) < ((T.getD b []).length : Int) := by rw [h.2 b hb]; omega
    have gm : (0 : Int) ≤ (m : Int) := Int.natCast_nonneg _
    cases hv : en T b m with
    | true =>
      have hv' : (T.getD b []).getD m false = true := hv
      rw [Int.toNat_natCast, hv]
      refine Ev.step (fun k => ?_) (Ev.now _)
      simp only [spec_gaShown.l0, if_pos g1, if_pos g2, rd_nat xs j hjl, hm, if_pos gm, if_pos gb, if_pos gb3, rd5, if_pos g5, rdO, hv', if_true]
      rfl
    | false =>
      have hv' : (T.getD b []).getD m false = false := hv
      rw [Int.toNat_natCast, hv]
      refine Ev.step (fun k => ?_) (ih (j + 1) (by omega))
      simp only [spec_gaShown.l0, if_pos g1, if_pos g2, rd_nat xs j hjl, hm, if_pos gm, if_pos gb, if_pos gb3, rd5, if_pos g5, rdO, hv', Bool.false_eq_true, if_false, wsucc j (by omega)]
theorem opt_in {g : List S57} (hw : jd.Wf g) (hs : Small g) (a : Nat) (ha : a < g.length) : ((rd_T57 g (a : Int)).f0.length ≤ 1048576 ∧ ∀ y ∈ (rd_T57 g (a : Int)).f0, 0 ≤ y ∧ y < (a : Int)) ∧ ((rd_T57 g (a : Int)).f1.length ≤ 1048576 ∧ ∀ y ∈ (rd_T57 g (a : Int)).f1, 0 ≤ y ∧ y < (a : Int)) := by
  rw [rdI g a ha]
  have z := hs.2 g[a] (List.getElem_mem ha)
  exact ⟨⟨z.1, (hw.2 a ha).1⟩, z.2, (hw.2 a ha).2⟩
theorem shown_ev {g : List S57} (hw : jd.Wf g) (hs : Small g) {T : List (List Bool)} (h : Sq g.length T) (a b : Nat) (ha : a < g.length) (hb : b < g.length)
    (h1 : ∀ x : Nat, x < a → en T b x = jd.LE g b x) (h2 : ∀ y : Nat, y < b → en T y a = jd.LE g y a) : Ev (fun k => spec_gaShown.f k g T (a : Int) (b : Int)) (jd.LE g a b) := by
  have ga : (0 : Int) ≤ (a : Int) := Int.natCast_nonneg _
  have ga2 : (a : Int) < (g.length : Int) := by omega
  obtain ⟨oa, ob⟩ := (⟨(opt_in hw hs a ha).1, (opt_in hw hs b hb).2⟩ : _ ∧ _)
  have e := shown_l0 h g rfl a b ha hb _ oa.1 (fun y hy => ⟨(oa.2 y hy).1, by have := (oa.2 y hy).2; omega⟩) ob.1 (fun y hy => ⟨(ob.2 y hy).1, by have := (ob.2 y hy).2; omega⟩) _ 0 (Nat.zero_add _)
  rw [List.drop_zero] at e
  have q : jd.LE g a b = ((rd_T57 g (a : Int)).f0.all (fun x => !en T b x.toNat) && (rd_T57 g (b : Int)).f1.all (fun y => !en T y.toNat a)) := by
    rw [jd.LE_eq hw a b ha hb, rdI g a ha, rdI g b hb]
    congr 1
    · refine jd.all_congr (fun x hx => ?_)
      have := (hw.2 a ha).1 x hx
      rw [h1 x.toNat (by omega)]
    · refine jd.all_congr (fun x hx => ?_)
      have := (hw.2 b hb).2 x hx
      rw [h2 x.toNat (by omega)]
  rw [q]
  refine Ev.congr (fun k => ?_) e
  unfold spec_gaShown.f
  rw [if_pos ga, if_pos ga2]
  rfl
def Full (g : List S57) (T : List (List Bool)) : Prop := Sq g.length T ∧ ∀ a b, a < g.length → b < g.length → en T a b = jd.LE g a b
theorem table_l2 {g : List S57} (hw : jd.Wf g) (hs : Small g) (i : Nat) (hi : i < g.length)
    (next : ∀ T, Sq g.length T → (∀ a b, a ≤ i → b ≤ i → en T a b = jd.LE g a b) → ∃ R, Full g R ∧ Ev (fun k => spec_gaAtMost.l1 k g T (g.length : Int) ((i + 1 : Nat) : Int)) R) :
    ∀ (d j : Nat) (T : List (List Bool)), j + d = i + 1 → Sq g.length T → (∀ a b, (a < i ∧ b < i) ∨ (a = i ∧ b < j) ∨ (b = i ∧ a < j) → en T a b = jd.LE g a b) → ∃ R, Full g R ∧ Ev (fun k => spec_gaAtMost.l2 k g T (i : Int) (j : Int) (g.length : Int) (i : Int)) R := by
  have h40 := hw.1
  have gi : (0 : Int) ≤ (i : Int) := Int.natCast_nonneg _
  intro d
  induction d with
  | zero =>
    intro j T hj hq hk
    have c : ¬ (j : Int) ≤ (i : Int) := by omega
    obtain ⟨R, r1, r2⟩ := next T hq (fun a b ha hb => hk a b (by omega))
    refine ⟨R, r1, Ev.step (fun k => ?_) r2⟩
    simp only [spec_gaAtMost.l2, if_neg c, wsucc i (by omega)]
  | succ d ih =>
    intro j T hj hq hk
    have hji : j ≤ i := by omega
    have hjn : j < g.length := by omega
    have c : (j : Int) ≤ (i : Int) := by omega
    have gj : (0 : Int) ≤ (j : Int) := Int.natCast_nonneg _
    have gT : (i : Int) < (T.length : Int) := by rw [hq.1]; omega
    have gR : (j : Int) < ((T.getD i []).length : Int) := by rw [hq.2 i hi]; omega
    have gT2 : (j : Int) < (T.length : Int) := by rw [hq.1]; omega
    have s1 := shown_ev hw hs hq i j hi hjn (fun x hx => hk j x (by omega)) (fun y hy => hk y i (by omega))
    have hq1 := sq_set hq i j hi (jd.LE g i j)
    have k1 : ∀ a b, ¬ (i = a ∧ j = b) → en (T.set i ((T.getD i []).set j (jd.LE g i j))) a b = en T a b := fun a b hne => en_ne _ hq i j hi _ a b hne
    have k2 := en_same hq i j hi hjn (jd.LE g i j)
    generalize hT1 : T.set i ((T.getD i []).set j (jd.LE g i j)) = T1 at hq1 k1 k2
    have s2 := shown_ev hw hs hq1 j i hjn hi (fun x hx => by rw [k1 i x (by omega)]; exact hk i x (by omega)) (fun y hy => by rw [k1 y j (by omega)]; exact hk y j (by omega))
    have hq2 := sq_set hq1 j i hjn (jd.LE g j i)
    have k3 : ∀ a b, ¬ (j = a ∧ i = b) → en (T1.set j ((T1.getD j []).set i (jd.LE g j i))) a b = en T1 a b := fun a b hne => en_ne _ hq1 j i hjn _ a b hne
    have k4 := en_same hq1 j i hjn hi (jd.LE g j i)
    have gT1 : (j : Int) < (T1.length : Int) := by rw [hq1.1]; omega
    have gR1 : (i : Int) < ((T1.getD j []).length : Int) := by rw [hq1.2 j hjn]; omega
    generalize hT2 : T1.set j ((T1.getD j []).set i (jd.LE g j i)) = T2 at hq2 k3 k4
    obtain ⟨R, r1, r2⟩ := ih (j + 1) T2 (by omega) hq2 (fun a b hab => by
      by_cases e1 : j = a ∧ i = b
      · rw [← e1.1, ← e1.2]; exact k4
      · rw [k3 a b e1]
        by_cases e2 : i = a ∧ j = b
        · rw [← e2.1, ← e2.2]; exact k2
        · rw [k1 a b e2]
          exact hk a b (by omega))
    refine ⟨R, r1, ?_⟩
    refine Ev.step (f := ?tf1) (fun k => ?tf2) ?tf3
    case tf2 => conv => lhs; simp only [spec_gaAtMost.l2, if_pos c, if_pos gi, if_pos gT, if_pos gj, rd5, if_pos gR, if_pos gT2, wsucc j (by omega)]
    case tf3 =>
      refine Ev.bind s1 ?_
      rw [Int.toNat_natCast, Int.toNat_natCast, hT1]
      refine Ev.bind (Ev.now _) ?_
      refine Ev.bind s2 ?_
      simp only [if_pos gR1, hT2]
      exact r2
theorem table_l1 {g : List S57} (hw : jd.Wf g) (hs : Small g) : ∀ (d i : Nat) (T : List (List Bool)), i + d = g.length → Sq g.length T → (∀ a b, a < i → b < i → en T a b = jd.LE g a b) → ∃ R, Full g R ∧ Ev (fun k => spec_gaAtMost.l1 k g T (g.length : Int) (i : Int)) R := by
  intro d
  induction d with
  | zero =>
    intro i T hi hq hk
    have c : ¬ (i : Int) < (g.length : Int) := by omega
    refine ⟨T, ⟨hq, fun a b ha hb => hk a b (by omega) (by omega)⟩, Ev.step (fun k => ?_) (Ev.now _)⟩
    simp only [spec_gaAtMost.l1, if_neg c]
  | succ d ih =>
    intro i T hi hq hk
    have c : (i : Int) < (g.length : Int) := by omega
    obtain ⟨R, r1, r2⟩ := table_l2 hw hs i (by omega) (fun T' hq' hk' => ih (i + 1) T' (by omega) hq' (fun a b ha hb => hk' a b (by omega) (by omega))) (i + 1) 0 T (by omega) hq (fun a b hab => hk a b (by omega) (by omega))
    refine ⟨R, r1, Ev.step (fun k => ?_) r2⟩
    simp only [spec_gaAtMost.l1, if_pos c]
    rfl
theorem table_l0 {g : List S57} (hw : jd.Wf g) (hs : Small g) : ∀ (d i : Nat) (T : List (List Bool)), i + d = g.length → T.length = g.length → (∀ a, a < i → (T.getD a []).length = g.length) → ∃ R, Full g R ∧ Ev (fun k => spec_gaAtMost.l0 k g T (g.length : Int) (i : Int)) R := by
  have h40 := hw.1
  intro d
  induction d with
  | zero =>
    intro i T hi hq hk
    have c : ¬ (i : Int) < (g.length : Int) := by omega
    obtain ⟨R, r1, r2⟩ := table_l1 hw hs g.length 0 T (by omega) ⟨hq, fun a ha => hk a (by omega)⟩ (fun a b ha => by omega)
    refine ⟨R, r1, Ev.step (fun k => ?_) r2⟩
    simp only [spec_gaAtMost.l0, if_neg c]
    rfl
  | succ d ih =>
    intro i T hi hq hk
    have c : (i : Int) < (g.length : Int) := by omega
    have g2 : (0 : Int) ≤ (i : Int) := Int.natCast_nonneg _
    have g0 : (0 : Int) ≤ (g.length : Int) := Int.natCast_nonneg _
    have gT : (i : Int) < (T.length : Int) := by rw [hq]; omega
    have gb : ((g.length : Int)).toNat ≤ 281474976710656 := by rw [Int.toNat_natCast]; omega
    obtain ⟨R, r1, r2⟩ := ih (i + 1) (T.set i (List.replicate g.length false)) (by omega) (by rw [List.length_set]; exact hq) (fun a ha => by
      by_cases e : i = a
      · subst e
        rw [getD_set_same _ _ _ _ (by omega), List.length_replicate]
      · rw [getD_set_ne _ _ _ _ _ e]
        exact hk a (by omega))
    refine ⟨R, r1, Ev.step (fun k => ?_) r2⟩
    simp only [spec_gaAtMost.l0, if_pos c, if_pos g0, if_pos gb, if_pos g2, if_pos gT, wsucc i (by omega)]
    simp only [Int.toNat_natCast]
theorem table_ev {g : List S57} (hw : jd.Wf g) (hs : Small g) : ∃ R, Full g R ∧ Ev (fun k => spec_gaAtMost.f k g) R := by
  have h40 := hw.1
  have g0 : (0 : Int) ≤ (g.length : Int) := Int.natCast_nonneg _
  have gb : ((g.length : Int)).toNat ≤ 11728124029610 := by rw [Int.toNat_natCast]; omega
  obtain ⟨R, r1, r2⟩ := table_l0 hw hs g.length 0 (List.replicate g.length []) (by omega) (List.length_replicate ..) (fun a ha => by omega)
  refine ⟨R, r1, Ev.congr (fun k => ?_) r2⟩
  unfold spec_gaAtMost.f
  rw [if_pos g0, if_pos gb, Int.toNat_natCast]
  rfl
/-- The judge's game holds what the walk asks. -/
theorem wf_game {g : List S57} (h : Gm g) (hs : Small g) : jd.wfB g = true := by
  unfold jd.wfB
  rw [Bool.and_eq_true, decide_eq_true_eq, List.all_eq_true]
  refine ⟨h.2.1, fun i hi => ?_⟩
  have hi' := List.mem_range.1 hi
  have q := h.2.2 i hi'
  have z := hs.2 g[i] (List.getElem_mem hi')
  rw [rdI g i hi', Bool.and_eq_true, Bool.and_eq_true, Bool.and_eq_true, List.all_eq_true, List.all_eq_true, decide_eq_true_eq, decide_eq_true_eq]
  exact ⟨⟨fun x hx => by simpa using q.1.1 x hx, fun x hx => by simpa using q.2.1 x hx⟩, z⟩

/-! ### dominated options -/
theorem put_l (l : List Int) (x : Int) (hl : l.length ≤ 1048576) (h : ∀ y ∈ l, y < x) : ∀ (d j : Nat), j + d = l.length → Ev (fun k => spec_l1Put.l0 k l x (j : Int)) (l ++ [x]) := by
  intro d
  induction d with
  | zero =>
    intro j hj
    have c : ¬ (j : Int) < (l.length : Int) := by omega
    have g2 : (0 : Int) ≤ (j : Int) := Int.natCast_nonneg _
    have g3 : (j : Int) ≤ (l.length : Int) := by omega
    have hjl : j = l.length := by omega
    subst hjl
    have c1 : l.length < 17592186044416 := by omega
    have c2 : (l ++ [x]).length < 17592186044416 := by rw [List.length_append, List.length_singleton]; omega
    refine Ev.step (fun k => ?_) (Ev.now _)
    simp only [spec_l1Put.l0, if_neg c, Option.bind_some, if_pos g2, if_pos g3, Int.toNat_natCast, List.take_length, List.drop_length, List.nil_append, List.length_nil, Nat.zero_add, Nat.add_zero, List.append_nil, if_pos c1, if_pos c2]
  | succ d ih =>
    intro j hj
    have c : (j : Int) < (l.length : Int) := by omega
    have g2 : (0 : Int) ≤ (j : Int) := Int.natCast_nonneg _
    have hjl : j < l.length := by omega
    have hv := h l[j] (List.getElem_mem hjl)
    refine Ev.step (fun k => ?_) (ih (j + 1) (by omega))
    simp only [spec_l1Put.l0, if_pos c, if_pos g2, rd_nat l j hjl, if_pos hv, wsucc j (by omega)]
theorem put_new (l : List Int) (x : Int) (hl : l.length ≤ 1048576) (h : ∀ y ∈ l, y < x) : Ev (fun k => spec_l1Put.f k l x) (l ++ [x]) := put_l l x hl h _ 0 (Nat.zero_add _)
theorem put_old_l (l : List Int) (x : Int) (hl : l.length ≤ 1048576) (h : ∀ y ∈ l, y < x) : ∀ (d j : Nat), j + d = l.length → Ev (fun k => spec_l1Put.l0 k (l ++ [x]) x (j : Int)) (l ++ [x]) := by
  intro d
  induction d with
  | zero =>
    intro j hj
    have hjl : j < (l ++ [x]).length := by rw [List.length_append, List.length_singleton]; omega
    have c : (j : Int) < ((l ++ [x]).length : Int) := by omega
    have g2 : (0 : Int) ≤ (j : Int) := Int.natCast_nonneg _
    have e : rd (l ++ [x]) (j : Int) = x := by
      have q : j = l.length := by omega
      subst q
      simp [rd, List.getD_eq_getElem?_getD]
    refine Ev.step (fun k => ?_) (Ev.now _)
    simp only [spec_l1Put.l0, if_pos c, if_pos g2, e, if_neg (Int.lt_irrefl x), if_true]
  | succ d ih =>
    intro j hj
    have hj2 : j < l.length := by omega
    have c : (j : Int) < ((l ++ [x]).length : Int) := by rw [List.length_append, List.length_singleton]; omega
    have g2 : (0 : Int) ≤ (j : Int) := Int.natCast_nonneg _
    have e : rd (l ++ [x]) (j : Int) = l[j] := by simp [rd, List.getD_eq_getElem?_getD, List.getElem?_append_left hj2, List.getElem?_eq_getElem hj2]
    have hv := h l[j] (List.getElem_mem hj2)
    refine Ev.step (fun k => ?_) (ih (j + 1) (by omega))
    simp only [spec_l1Put.l0, if_pos c, if_pos g2, e, if_pos hv, wsucc j (by omega)]
theorem put_old (l : List Int) (x : Int) (hl : l.length ≤ 1048576) (h : ∀ y ∈ l, y < x) : Ev (fun k => spec_l1Put.f k (l ++ [x]) x) (l ++ [x]) := put_old_l l x hl h _ 0 (Nat.zero_add _)
theorem worse_in {T : List (List Bool)} {left : Bool} {x : Int} (out : List Int) (hl : out.length ≤ 1048576) (h : ∀ y ∈ out, y < x) : ∀ (ys : List Int) (b : Bool), Ev (fun k => gw.l1 k T left x ys (if b = true then out ++ [x] else out)) (if (b || ys.any (fun y => gw.wd T left x y)) = true then out ++ [x] else out)
  | [], b => by
    rw [List.any_nil, Bool.or_false]
    exact Ev.now _
  | y :: ys, b => by
    rw [List.any_cons]
    cases hw : gw.wd T left x y with
    | false =>
      have e := worse_in (T := T) (left := left) out hl h ys b
      rw [Bool.false_or]
      refine Ev.congr (fun k => ?_) e
      conv => lhs; unfold gw.l1
      rw [hw, if_neg (by decide)]
    | true =>
      have e := worse_in (T := T) (left := left) out hl h ys true
      rw [Bool.true_or, Bool.or_true]
      rw [Bool.true_or] at e
      have p : Ev (fun k => spec_l1Put.f k (if b = true then out ++ [x] else out) x) (out ++ [x]) := by
        cases b with
        | false => exact put_new out x hl h
        | true => exact put_old out x hl h
      have e2 := Ev.bind p (f := fun k o => gw.l1 k T left x ys o) e
      refine Ev.congr (fun k => ?_) e2
      conv => lhs; unfold gw.l1
      rw [hw, if_pos rfl]
theorem worse_out {T : List (List Bool)} {left : Bool} (l : List Int) : ∀ (xs out : List Int), xs.Pairwise (· < ·) → (∀ y ∈ out, ∀ x ∈ xs, y < x) → out.length + xs.length ≤ 1048576 → Ev (fun k => gw.l0 k T left l xs out) (out ++ xs.filter (fun x => l.any (fun y => gw.wd T left x y)))
  | [], out, _, _, _ => by
    rw [List.filter_nil, List.append_nil]
    exact Ev.now _
  | x :: xs, out, hp, ho, hl => by
    rw [List.length_cons] at hl
    rw [List.pairwise_cons] at hp
    have e := worse_in (T := T) (left := left) (x := x) out (by omega) (fun y hy => ho y hy x (List.mem_cons_self ..)) l false
    simp only [Bool.false_eq_true, if_false, Bool.false_or] at e
    cases hq : l.any (fun y => gw.wd T left x y) with
    | false =>
      rw [hq] at e
      rw [List.filter_cons, hq, if_neg (by decide)]
      simp only [Bool.false_eq_true, if_false] at e
      have e2 := Ev.bind e (f := fun k o => gw.l0 k T left l xs o) (worse_out l xs out hp.2 (fun y hy z hz => ho y hy z (List.mem_cons_of_mem _ hz)) (by omega))
      exact Ev.congr (fun k => rfl) e2
    | true =>
      rw [hq] at e
      rw [List.filter_cons, hq, if_pos rfl]
      simp only [if_true] at e
      have e2 := Ev.bind e (f := fun k o => gw.l0 k T left l xs o) (worse_out l xs (out ++ [x]) hp.2 (fun y hy z hz => by
        rcases List.mem_append.1 hy with hy | hy
        · exact ho y hy z (List.mem_cons_of_mem _ hz)
        · rw [List.mem_singleton] at hy
          subst hy
          exact hp.1 z hz) (by rw [List.length_append, List.length_singleton]; omega))
      rw [List.append_assoc] at e2
      exact Ev.congr (fun k => rfl) e2
theorem worse_ev {g : List S57} {T : List (List Bool)} (h : Full g T) (left : Bool) (l : List Int) (hp : l.Pairwise (· < ·)) (hx : ∀ y ∈ l, 0 ≤ y ∧ y < (g.length : Int)) (hl : l.length ≤ 1048576) : Ev (fun k => spec_gaWorse.f k T l left) (jd.doms g left l) := by
  have e := worse_out (T := T) (left := left) l l [] hp (fun y hy => by cases hy) (by simpa using hl)
  rw [List.nil_append] at e
  have hok : gw.ok T l = true := by
    unfold gw.ok
    rw [Bool.and_eq_true, Bool.and_eq_true, List.all_eq_true, List.all_eq_true, decide_eq_true_eq]
    refine ⟨fun r hr => ?_, fun x hx' => ?_, hl⟩
    · obtain ⟨i, hi, rfl⟩ := List.mem_iff_getElem.1 hr
      have := h.1.2 i (by rw [← h.1.1]; exact hi)
      rw [List.getD_eq_getElem?_getD, List.getElem?_eq_getElem hi] at this
      rw [h.1.1]
      exact decide_eq_true this
    · rw [h.1.1]
      simpa using hx x hx'
  have q : l.filter (fun x => l.any (fun y => gw.wd T left x y)) = jd.doms g left l := by
    unfold jd.doms
    refine List.filter_congr (fun x hx' => ?_)
    have hany : ∀ (L : List Int), (∀ y ∈ L, y ∈ l) → L.any (fun y => gw.wd T left x y) = L.any (fun y => jd.dm g left x y) := by
      intro L
      induction L with
      | nil => intro _; rfl
      | cons y L ih =>
        intro hL
        rw [List.any_cons, List.any_cons, ih (fun z hz => hL z (List.mem_cons_of_mem _ hz))]
        congr 1
        obtain ⟨x0, x1⟩ := hx x hx'
        obtain ⟨y0, y1⟩ := hx y (hL y (List.mem_cons_self ..))
        obtain ⟨a, rfl⟩ := nat_of x0
        obtain ⟨b, rfl⟩ := nat_of y0
        have e1 : rdOf false (rd_L5 T (a : Int)) (b : Int) = jd.LE g a b := h.2 a b (by omega) (by omega)
        have e2 : rdOf false (rd_L5 T (b : Int)) (a : Int) = jd.LE g b a := h.2 b a (by omega) (by omega)
        unfold gw.wd jd.dm jd.c2
        rw [e1, e2]
        have hne : decide ((a : Int) ≠ (b : Int)) = ((b : Int) != (a : Int)) := by
          by_cases e : a = b
          · subst e; simp
          · have e' : ¬ (a : Int) = (b : Int) := by omega
            have e'' : ¬ (b : Int) = (a : Int) := by omega
            simp [e', e'']
            first | done | omega
        rw [hne]
        congr 1
        simp only [Int.toNat_natCast]
        cases left with
        | true => simp only [if_true]; cases jd.LE g a b <;> cases jd.LE g b a <;> simp
        | false => simp only [Bool.false_eq_true, if_false]; cases jd.LE g a b <;> cases jd.LE g b a <;> simp
    exact hany l (fun y hy => hy)
  rw [← q]
  refine Ev.congr (fun k => ?_) e
  unfold spec_gaWorse.f
  rw [if_pos hok]
theorem doms_ev {g : List S57} (hs : Small g) (a : Int) : ∃ r : List Int × List Int × Bool, Ev (fun k => spec_DominatedOf.f k g a) r ∧ Ev (fun k => impl_DominatedOf.f k g a) r ∧ r.1.length ≤ 1048576 ∧ r.2.1.length ≤ 1048576 := by
  obtain ⟨b, e1, e2, q⟩ := has_ev g hs a
  cases b with
  | false =>
    refine ⟨([], [], false), ?_, ?_, by simp, by simp⟩
    · unfold spec_DominatedOf.f
      refine Ev.bind e2 ?_
      simp only [Bool.false_eq_true, if_false]
      exact Ev.now _
    · unfold impl_DominatedOf.f
      refine Ev.bind e1 ?_
      simp only [Bool.false_eq_true, if_false]
      exact Ev.now _
  | true =>
    obtain ⟨hg, h0, h1⟩ := q rfl
    have hB := wf_game hg hs
    have hw := jd.wf_of hB
    obtain ⟨n, rfl⟩ := nat_of h0
    have hn : n < g.length := by omega
    obtain ⟨o0, o1⟩ := opt_in hw hs n hn
    have p0 : (rd_T57 g (n : Int)).f0.Pairwise (· < ·) := by rw [rdI g n hn]; exact (hg.2.2 n hn).1.2
    have p1 : (rd_T57 g (n : Int)).f1.Pairwise (· < ·) := by rw [rdI g n hn]; exact (hg.2.2 n hn).2.2
    obtain ⟨T, hT, eT⟩ := table_ev hw hs
    have b1 := worse_ev hT true _ p0 (fun y hy => ⟨(o0.2 y hy).1, by have := (o0.2 y hy).2; omega⟩) o0.1
    have b2 := worse_ev hT false _ p1 (fun y hy => ⟨(o1.2 y hy).1, by have := (o1.2 y hy).2; omega⟩) o1.1
    refine ⟨(jd.doms g true (rd_T57 g (n : Int)).f0, jd.doms g false (rd_T57 g (n : Int)).f1, true), ?_, ?_, ?_, ?_⟩
    · unfold spec_DominatedOf.f
      refine Ev.bind e2 ?_
      simp only [if_true]
      refine Ev.bind eT ?_
      simp only [if_pos h0, if_pos h1]
      exact Ev.bind b1 (Ev.bind b2 (Ev.now _))
    · unfold impl_DominatedOf.f
      refine Ev.bind e1 ?_
      simp only [if_true, hB, decide_eq_true h0, decide_eq_true h1, Bool.and_self]
      exact Ev.now _
    · exact Nat.le_trans (List.length_filter_le _ _) o0.1
    · exact Nat.le_trans (List.length_filter_le _ _) o1.1

theorem proved : laws_FnExactDominatedOf.Pure := by
  intro l a h _
  refine Ev.rounds ?_
  unfold laws_FnExactDominatedOf.f
  obtain ⟨v, hv, hs⟩ := szPositionS_ev l ⟨h.1, fun y hy => ⟨(h.2 y hy).1.1, (h.2 y hy).2.1⟩⟩
  refine Ev.bind hv ?_
  by_cases hn : v < 0
  · simp only [if_pos hn]
    exact Ev.now _
  · simp only [if_neg hn]
    obtain ⟨h1, h2⟩ := hs.resolve_left hn
    have ht := toPositionS_ev l h1 h2
    have hsm := small_conv l h1 h2
    obtain ⟨r, s1, s2, r1, r2⟩ := doms_ev hsm a
    obtain ⟨m0, l0', a1⟩ := posmarks hsm
    obtain ⟨ys1, b1, b2, b3⟩ := markIntS_ev r.1 1 (by omega)
    obtain ⟨ys2, c1, c2, c3⟩ := markIntS_ev r.2.1 (1 + r.1.length) (by omega)
    have b1' : Ev (fun k => laws_markIntS.f k r.1 1) (((1 + r.1.length : Nat) : Int), ys1) := b1
    have b3' : Ev (fun k => laws_heldIntS.f k ys1 1) ((1 + r.1.length : Nat) : Int) := b3
    refine Ev.bind ht (Ev.bind s1 (Ev.bind s2 (Ev.bind (eqIntS_ev _ (by omega)) (Ev.bind (eqIntS_ev _ (by omega)) (Ev.bind (eqPositionS_ev _ hsm) (Ev.bind a1 (Ev.bind b1' (Ev.bind c1 (Ev.bind b3' (Ev.bind c3 ?_))))))))))
    refine Ev.congr (fun k => ?_) (Ev.now true)
    have q0 : (0 : Int) ≤ (m0 : Int) := Int.natCast_nonneg _
    have q1 : (0 : Int) ≤ ((1 + r.1.length : Nat) : Int) := Int.natCast_nonneg _
    have q2 : (0 : Int) ≤ ((1 + r.1.length + r.2.1.length : Nat) : Int) := Int.natCast_nonneg _
    simp only [Bool.true_and, decide_eq_true q0, decide_eq_true q1, decide_eq_true q2, decide_true]

end LFnExactDominatedOf
theorem FnExactDominatedOf : laws_FnExactDominatedOf.Pure := LFnExactDominatedOf.proved
end Go.Proofs.Ytpiafobcmhfclaa.Pure
