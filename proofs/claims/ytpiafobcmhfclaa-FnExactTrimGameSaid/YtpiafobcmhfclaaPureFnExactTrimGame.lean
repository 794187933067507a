/- For any list of positions, the game that the program gives without the positions that are not reached is the reference's, in new memory, and the list is left as it was. -/
import Derived.Test.YtpiafobcmhfclaaQFnExactTrimGamex7
namespace Go.Proofs.Ytpiafobcmhfclaa.Pure
open Go.RowKit Go.Proofs.Ytpiafobcmhfclaa.QFnExactTrimGame Go.Proofs.YtpiafobcmhfclaaW.PrintWords Go.Proofs.YtpiafobcmhfclaaW.PrintLast
set_option linter.unusedVariables false
set_option linter.unusedSimpArgs false
def laws_FnExactTrimGame.Pure : Prop := ∀ (l0 : List (S59)), (l0.length ≤ maxLen ∧ ∀ y0 ∈ l0, ((y0.f0.length ≤ maxLen ∧ ∀ y1 ∈ y0.f0, (Lit.int .i64 y1).wf = true) ∧ (y0.f1.length ≤ maxLen ∧ ∀ y1 ∈ y0.f1, (Lit.int .i64 y1).wf = true))) → ∃ k, laws_FnExactTrimGame.f k l0 = some true
namespace LFnExactTrimGame
/-! ### small words -/
theorem wsucc (i : Nat) (h : i < 2 ^ 62) : wrap64 ((i : Int) + 1) = ((i + 1 : Nat) : Int) := by unfold wrap64; omega
theorem drop_rd {l : List Int} {i : Nat} (h : i < l.length) : l.drop i = rd l (i : Int) :: l.drop (i + 1) := by
  rw [List.drop_eq_getElem_cons h]
  simp [rd, List.getD_eq_getElem?_getD, List.getElem?_eq_getElem h]

/-! ### a copy of a list of numbers is that list -/
theorem toIntS_l (x : List Int) (hx : x.length ≤ 2 ^ 60) : ∀ (d k i : Nat) (y : List Int), i + d = x.length → y.length = x.length → (∀ j, j < i → y[j]? = x[j]?) → d < k → laws_toIntS.l0 k x y i = some x := by
  intro d
  induction d with
  | zero =>
    intro k i y hi hy hj hk
    obtain ⟨k, rfl⟩ : ∃ m, k = m + 1 := ⟨k - 1, by omega⟩
    simp only [laws_toIntS.l0]
    rw [if_neg (by omega)]
    congr 1
    apply List.ext_getElem? 
    intro j
    by_cases h : j < i
    · exact hj j h
    · rw [List.getElem?_eq_none (by omega), List.getElem?_eq_none (by omega)]
  | succ d ih =>
    intro k i y hi hy hj hk
    obtain ⟨k, rfl⟩ : ∃ m, k = m + 1 := ⟨k - 1, by omega⟩
    have h1 : (i : Int) < (x.length : Int) := by omega
    have h2 : (0 : Int) ≤ (i : Int) := Int.natCast_nonneg _
    have h3 : (i : Int) < (y.length : Int) := by omega
    have h4 : i < x.length := by omega
    simp only [laws_toIntS.l0]
    rw [if_pos h1, if_pos h2, if_pos h3, wsucc i (by omega)]
    refine ih k (i + 1) _ (by omega) (by simpa using hy) ?_ (by omega)
    intro j hlt
    rw [Int.toNat_natCast, List.getElem?_set]
    by_cases e : i = j
    · subst e
      rw [if_pos rfl, if_pos (by omega)]
      simp [rd, List.getD_eq_getElem?_getD, List.getElem?_eq_getElem h4]
    · rw [if_neg e]
      exact hj j (by omega)
theorem toIntS (x : List Int) (hx : x.length ≤ 17592186044416) (k : Nat) (hk : x.length < k) : laws_toIntS.f k x = some x := by
  unfold laws_toIntS.f
  rw [if_pos (Int.natCast_nonneg _), if_pos (by rw [Int.toNat_natCast]; omega), Int.toNat_natCast]
  exact toIntS_l x (by omega) x.length k 0 _ (by omega) (by simp) (fun j h => by omega) hk

/-! ### a list of numbers equals itself -/
theorem eqIntS_l (x : List Int) (hx : x.length ≤ 2 ^ 60) : ∀ (d k i : Nat), i + d = x.length → d < k → laws_eqIntS.l0 k x x i = some true := by
  intro d
  induction d with
  | zero =>
    intro k i hi hk
    obtain ⟨k, rfl⟩ : ∃ m, k = m + 1 := ⟨k - 1, by omega⟩
    simp only [laws_eqIntS.l0]
    rw [if_neg (by omega)]
  | succ d ih =>
    intro k i hi hk
    obtain ⟨k, rfl⟩ : ∃ m, k = m + 1 := ⟨k - 1, by omega⟩
    have h1 : (i : Int) < (x.length : Int) := by omega
    have h2 : (0 : Int) ≤ (i : Int) := Int.natCast_nonneg _
    simp only [laws_eqIntS.l0, if_pos h1, if_pos h2, if_true]
    rw [wsucc i (by omega)]
    exact ih k (i + 1) (by omega) (by omega)
theorem eqIntS (x : List Int) (hx : x.length ≤ 17592186044416) (k : Nat) (hk : x.length < k) : laws_eqIntS.f k x x = some true := by
  unfold laws_eqIntS.f
  rw [if_pos rfl]
  exact eqIntS_l x (by omega) x.length k 0 (by omega) hk

/-! ### lists of numbers: the size asked, a copy, the same -/
theorem szIntS (l : List Int) (h : l.length ≤ maxLen) : laws_szIntS.f l 1048576 = some (if l.length > 1048576 then -1 else 1048576 - (l.length : Int)) := by
  unfold maxLen at h
  have hw : wrap64 (1048576 - (l.length : Int)) = 1048576 - (l.length : Int) := by unfold wrap64; omega
  unfold laws_szIntS.f
  rw [hw]
  clear hw
  by_cases g : l.length > 1048576
  · rw [if_pos (by omega), if_pos g]
  · rw [if_neg (by omega), if_neg g]
theorem toIntS_ev (x : List Int) (hx : x.length ≤ 17592186044416) : Ev (fun k => laws_toIntS.f k x) x := ⟨x.length + 1, fun k hk => toIntS x hx k (by omega)⟩
theorem eqIntS_ev (x : List Int) (hx : x.length ≤ 17592186044416) : Ev (fun k => laws_eqIntS.f k x x) true := ⟨x.length + 1, fun k hk => eqIntS x hx k (by omega)⟩

theorem szIntS' (l : List Int) (left : Nat) (h : l.length ≤ maxLen) (hl : left ≤ 1048576) : laws_szIntS.f l (left : Int) = some (if l.length > left then -1 else ((left - l.length : Nat) : Int)) := by
  unfold maxLen at h
  have hw : wrap64 ((left : Int) - (l.length : Int)) = (left : Int) - (l.length : Int) := by unfold wrap64; omega
  unfold laws_szIntS.f
  rw [hw]
  clear hw
  by_cases g : l.length > left
  · rw [if_pos (by omega), if_pos g]
  · rw [if_neg (by omega), if_neg g]
    congr 1
    omega

/-! ### lists of positions: their size, a copy, the same -/
theorem rdL (xs : List S59) (i : Nat) (h : i < xs.length) : rd_T59 xs (i : Int) = xs[i] := by
  simp [rd_T59, List.getD_eq_getElem?_getD, List.getElem?_eq_getElem h]
theorem rdI (xs : List S57) (i : Nat) (h : i < xs.length) : rd_T57 xs (i : Int) = xs[i] := by
  simp [rd_T57, List.getD_eq_getElem?_getD, List.getElem?_eq_getElem h]
theorem szPosition' (a b : List Int) (left : Nat) (ha : a.length ≤ maxLen) (hb : b.length ≤ maxLen) (hl : left ≤ 1048576) :
    ∃ v : Int, laws_szPosition.f a b (left : Int) = some v ∧ (v < 0 ∨ (a.length ≤ 1048576 ∧ b.length ≤ 1048576 ∧ ∃ n : Nat, v = (n : Int) ∧ n ≤ left)) := by
  unfold laws_szPosition.f
  rw [szIntS' a left ha hl]
  simp only [Option.bind_some]
  by_cases g : a.length > left
  · rw [if_pos g]
    exact ⟨-1, rfl, .inl (by omega)⟩
  · rw [if_neg g, if_neg (by omega), szIntS' b _ hb (by omega)]
    simp only [Option.bind_some]
    by_cases g2 : b.length > left - a.length
    · rw [if_pos g2]
      exact ⟨-1, rfl, .inl (by omega)⟩
    · rw [if_neg g2, if_neg (by omega)]
      exact ⟨_, rfl, .inr ⟨by omega, by omega, _, rfl, by omega⟩⟩
theorem szPositionS_l (l : List S59) (hl : l.length ≤ 1048576) (h : ∀ y ∈ l, y.f0.length ≤ maxLen ∧ y.f1.length ≤ maxLen) : ∀ (d i left : Nat), i + d = l.length → left ≤ 1048576 →
    ∃ v : Int, Ev (fun k => laws_szPositionS.l0 k l (left : Int) (i : Int)) v ∧ (v < 0 ∨ ∀ j : Nat, i ≤ j → ∀ hj : j < l.length, (l[j].f0.length ≤ 1048576 ∧ l[j].f1.length ≤ 1048576)) := by
  intro d
  induction d with
  | zero =>
    intro i left hi hf
    have c : ¬ (i : Int) < (l.length : Int) := by omega
    refine ⟨(left : Int), Ev.step (fun k => ?_) (Ev.now _), .inr fun j h1 h2 => by omega⟩
    simp only [laws_szPositionS.l0, if_neg c]
  | succ d ih =>
    intro i left hi hf
    have g1 : (i : Int) < (l.length : Int) := by omega
    have g2 : (0 : Int) ≤ (i : Int) := Int.natCast_nonneg _
    have hil : i < l.length := by omega
    have hb := h l[i] (List.getElem_mem hil)
    obtain ⟨v, h1, h2⟩ := szPosition' l[i].f0 l[i].f1 left hb.1 hb.2 hf
    rcases h2 with h2 | ⟨a1, a2, n, rfl, hn⟩
    · refine ⟨-1, Ev.step (fun k => ?_) (Ev.now _), .inl (by omega)⟩
      simp only [laws_szPositionS.l0, if_pos g1, if_pos g2, rdL l i hil, h1, Option.bind_some, if_pos h2]
    · obtain ⟨v, e1, e2⟩ := ih (i + 1) n (by omega) (by omega)
      have c : ¬ (n : Int) < 0 := by omega
      refine ⟨v, Ev.step (fun k => ?_) e1, ?_⟩
      · simp only [laws_szPositionS.l0, if_pos g1, if_pos g2, rdL l i hil, h1, Option.bind_some, if_neg c]
        rw [wsucc i (by omega)]
      · rcases e2 with e2 | e2
        · exact .inl e2
        · refine .inr fun j hj hjl => ?_
          by_cases e : j = i
          · subst e; exact ⟨a1, a2⟩
          · exact e2 j (by omega) hjl
theorem szPositionS_ev (l : List S59) (h : l.length ≤ maxLen ∧ ∀ y ∈ l, y.f0.length ≤ maxLen ∧ y.f1.length ≤ maxLen) :
    ∃ v : Int, Ev (fun k => laws_szPositionS.f k l 1048576) v ∧ (v < 0 ∨ (l.length ≤ 1048576 ∧ ∀ y ∈ l, y.f0.length ≤ 1048576 ∧ y.f1.length ≤ 1048576)) := by
  have hm : l.length ≤ 9223372036854775807 := h.1
  have hw : wrap64 (1048576 - (l.length : Int)) = 1048576 - (l.length : Int) := by unfold wrap64; omega
  unfold laws_szPositionS.f
  simp only [hw]
  clear hw
  by_cases g : l.length > 1048576
  · refine ⟨-1, ?_, .inl (by omega)⟩
    simp only [show (1048576 - (l.length : Int)) < 0 from by omega, if_true]
    exact Ev.now _
  · obtain ⟨v, e1, e2⟩ := szPositionS_l l (by omega) h.2 l.length 0 (1048576 - l.length) (by omega) (by omega)
    have e : ((1048576 - l.length : Nat) : Int) = 1048576 - (l.length : Int) := by omega
    rw [e] at e1
    refine ⟨v, ?_, ?_⟩
    · simp only [show ¬ (1048576 - (l.length : Int)) < 0 from by omega, if_false]
      exact e1
    · rcases e2 with e2 | e2
      · exact .inl e2
      · refine .inr ⟨by omega, fun y hy => ?_⟩
        obtain ⟨j, hj, rfl⟩ := List.mem_iff_getElem.1 hy
        exact e2 j (by omega) hj
/-- A position of the program for a position of the law. -/
def conv (p : S59) : S57 := ⟨p.f0, p.f1⟩
theorem toPosition_ev (a b : List Int) (ha : a.length ≤ 1048576) (hb : b.length ≤ 1048576) : Ev (fun k => laws_toPosition.f k a b) (a, b) := by
  unfold laws_toPosition.f
  exact Ev.bind (toIntS_ev a (by omega)) (Ev.bind (toIntS_ev b (by omega)) (Ev.now _))
theorem toPositionS_l (l : List S59) (hl : l.length ≤ 1048576) (h : ∀ y ∈ l, y.f0.length ≤ 1048576 ∧ y.f1.length ≤ 1048576) : ∀ (d i : Nat) (ys : List S57), i + d = l.length → ys.length = l.length → (∀ j, j < i → ys[j]? = (l.map conv)[j]?) →
    Ev (fun k => laws_toPositionS.l0 k l ys (i : Int)) (l.map conv) := by
  intro d
  induction d with
  | zero =>
    intro i ys hi hy hj
    have c : ¬ (i : Int) < (l.length : Int) := by omega
    have : ys = l.map conv := by
      apply List.ext_getElem?
      intro j
      by_cases g : j < i
      · exact hj j g
      · rw [List.getElem?_eq_none (by omega), List.getElem?_eq_none (by rw [List.length_map]; omega)]
    subst this
    refine Ev.step (fun k => ?_) (Ev.now _)
    simp only [laws_toPositionS.l0, if_neg c]
  | succ d ih =>
    intro i ys hi hy hj
    have g1 : (i : Int) < (l.length : Int) := by omega
    have g1' : (i : Int) < (ys.length : Int) := by omega
    have g2 : (0 : Int) ≤ (i : Int) := Int.natCast_nonneg _
    have hil : i < l.length := by omega
    have hb := h l[i] (List.getElem_mem hil)
    refine Ev.step (f := ?f) (fun k => ?e) ?v
    case e => conv => lhs; simp only [laws_toPositionS.l0, if_pos g1, if_pos g2, rdL l i hil]
    case v =>
      refine Ev.bind (toPosition_ev _ _ hb.1 hb.2) ?_
      simp only [if_pos g1']
      rw [wsucc i (by omega), Int.toNat_natCast]
      refine ih (i + 1) _ (by omega) (by rw [List.length_set]; exact hy) (fun j hjl => ?_)
      rw [List.getElem?_set]
      by_cases e : i = j
      · subst e
        rw [if_pos rfl, if_pos (by omega), List.getElem?_map, List.getElem?_eq_getElem hil]
        rfl
      · rw [if_neg e]
        exact hj j (by omega)
theorem toPositionS_ev (l : List S59) (hl : l.length ≤ 1048576) (h : ∀ y ∈ l, y.f0.length ≤ 1048576 ∧ y.f1.length ≤ 1048576) : Ev (fun k => laws_toPositionS.f k l) (l.map conv) := by
  unfold laws_toPositionS.f
  simp only [if_pos (Int.natCast_nonneg l.length), Int.toNat_natCast, show l.length ≤ 5864062014805 from by omega, if_true]
  exact toPositionS_l l hl h l.length 0 _ (by omega) (by simp) (fun j hj => by omega)
/-- What the copies are like. -/
def Small (l : List S57) : Prop := l.length ≤ 1048576 ∧ ∀ y ∈ l, y.f0.length ≤ 1048576 ∧ y.f1.length ≤ 1048576
theorem small_conv (l : List S59) (hl : l.length ≤ 1048576) (h : ∀ y ∈ l, y.f0.length ≤ 1048576 ∧ y.f1.length ≤ 1048576) : Small (l.map conv) := by
  refine ⟨by rw [List.length_map]; exact hl, fun y hy => ?_⟩
  obtain ⟨x, hx, rfl⟩ := List.mem_map.1 hy
  exact h x hx
theorem eqPosition_ev (a b : List Int) (ha : a.length ≤ 1048576) (hb : b.length ≤ 1048576) : Ev (fun k => laws_eqPosition.f k a b a b) true := by
  unfold laws_eqPosition.f
  refine Ev.bind (eqIntS_ev a (by omega)) ?_
  simp only [if_true]
  exact Ev.bind (eqIntS_ev b (by omega)) (Ev.now _)
theorem eqPositionS_l (l : List S57) (h : Small l) : ∀ (d i : Nat), i + d = l.length → Ev (fun k => laws_eqPositionS.l0 k l l (i : Int)) true := by
  have hl := h.1
  intro d
  induction d with
  | zero =>
    intro i hi
    have c : ¬ (i : Int) < (l.length : Int) := by omega
    refine Ev.step (fun k => ?_) (Ev.now _)
    simp only [laws_eqPositionS.l0, if_neg c]
  | succ d ih =>
    intro i hi
    have g1 : (i : Int) < (l.length : Int) := by omega
    have g2 : (0 : Int) ≤ (i : Int) := Int.natCast_nonneg _
    have hil : i < l.length := by omega
    have hb := h.2 l[i] (List.getElem_mem hil)
    refine Ev.step (f := ?f) (fun k => ?e) ?v
    case e => conv => lhs; simp only [laws_eqPositionS.l0, if_pos g1, if_pos g2, rdI l i hil]
    case v =>
      refine Ev.bind (eqPosition_ev _ _ hb.1 hb.2) ?_
      simp only [if_true]
      rw [wsucc i (by omega)]
      exact ih (i + 1) (by omega)
theorem eqPositionS_ev (l : List S57) (h : Small l) : Ev (fun k => laws_eqPositionS.f k l l) true := by
  unfold laws_eqPositionS.f
  simp only [if_true]
  exact eqPositionS_l l h l.length 0 (by omega)

/-! ### what is a game, on both sides -/
theorem in_eq (e a b : Int) : spec_l1In.f e a b = impl_in.f e a b := rfl
theorem in_some (e a b : Int) : impl_in.f e a b = some (decide (a ≤ e ∧ e ≤ b)) := by
  unfold impl_in.f
  by_cases h : e ≥ a
  · rw [if_pos h]; congr 1; simp; omega
  · rw [if_neg h]; congr 1; simp; omega
theorem rising_same (x z : List Int) (i n : Int) : ∀ (k : Nat) (j : Int), spec_l1Rising.l0 k x 0 (wrap64 (i - 1)) z n j = impl_risingBelow.l0 k x i z n j
  | 0, _ => rfl
  | k + 1, j => by simp only [spec_l1Rising.l0, impl_risingBelow.l0, in_eq, rising_same x z i n k]
theorem rising_l (x : List Int) (n : Int) (hx : x.length ≤ 1048576) : ∀ (d j : Nat), j + d = x.length → ∃ b : Bool, Ev (fun k => impl_risingBelow.l0 k x n x (x.length : Int) (j : Int)) b := by
  intro d
  induction d with
  | zero =>
    intro j hj
    have c : ¬ (j : Int) < (x.length : Int) := by omega
    refine ⟨true, Ev.step (fun k => ?_) (Ev.now _)⟩
    simp only [impl_risingBelow.l0, if_neg c]
  | succ d ih =>
    intro j hj
    have g1 : (j : Int) < (x.length : Int) := by omega
    have g2 : (0 : Int) ≤ (j : Int) := Int.natCast_nonneg _
    obtain ⟨b, hb⟩ := ih (j + 1) (by omega)
    have hs : wrap64 ((j : Int) + 1) = ((j + 1 : Nat) : Int) := wsucc j (by omega)
    by_cases h : 0 ≤ rd x (j : Int) ∧ rd x (j : Int) ≤ wrap64 (n - 1)
    · by_cases h0 : (j : Int) > 0
      · have hp : wrap64 ((j : Int) - 1) = ((j - 1 : Nat) : Int) := by clear hs h; unfold wrap64; omega
        have g3 : (0 : Int) ≤ ((j - 1 : Nat) : Int) := Int.natCast_nonneg _
        have g4 : ((j - 1 : Nat) : Int) < (x.length : Int) := by clear hs h hp; omega
        by_cases h5 : rd x ((j - 1 : Nat) : Int) ≥ rd x (j : Int)
        · refine ⟨false, Ev.step (fun k => ?_) (Ev.now _)⟩
          simp only [impl_risingBelow.l0, if_pos g1, if_pos g2, in_some, h, and_self, decide_true, Option.bind_some, if_true, if_pos h0, hp, if_pos g3, if_pos g4, if_pos h5]
        · refine ⟨b, Ev.step (fun k => ?_) hb⟩
          simp only [impl_risingBelow.l0, if_pos g1, if_pos g2, in_some, h, and_self, decide_true, Option.bind_some, if_true, if_pos h0, hp, if_pos g3, if_pos g4, if_neg h5, hs]
      · refine ⟨b, Ev.step (fun k => ?_) hb⟩
        simp only [impl_risingBelow.l0, if_pos g1, if_pos g2, in_some, h, and_self, decide_true, Option.bind_some, if_true, if_neg h0, hs]
    · refine ⟨false, Ev.step (fun k => ?_) (Ev.now _)⟩
      simp only [impl_risingBelow.l0, if_pos g1, if_pos g2, in_some, h, decide_false, Option.bind_some, Bool.false_eq_true, if_false]
theorem rising_ev (x : List Int) (n : Int) (hx : x.length ≤ 1048576) : ∃ b : Bool, Ev (fun k => impl_risingBelow.f k x n) b := rising_l x n hx x.length 0 (by omega)
theorem game_same (x z : List S57) (n : Int) : ∀ (k : Nat) (j : Int), spec_gaGood.l0 k x z n j = impl_IsGame.l0 k x z n j
  | 0, _ => rfl
  | k + 1, j => by
    simp only [spec_gaGood.l0, impl_IsGame.l0, in_eq, spec_l1Rising.f, impl_risingBelow.f, rising_same, game_same x z n k]
theorem game_l (l : List S57) (h : Small l) : ∀ (d i : Nat), i + d = l.length → ∃ b : Bool, Ev (fun k => impl_IsGame.l0 k l l (l.length : Int) (i : Int)) b := by
  have hl := h.1
  intro d
  induction d with
  | zero =>
    intro i hi
    have c : ¬ (i : Int) < (l.length : Int) := by omega
    refine ⟨decide (1 ≤ (l.length : Int) ∧ (l.length : Int) ≤ 40), Ev.step (fun k => ?_) (Ev.now _)⟩
    simp only [impl_IsGame.l0, if_neg c, in_some, Option.bind_some]
  | succ d ih =>
    intro i hi
    have g1 : (i : Int) < (l.length : Int) := by omega
    have g2 : (0 : Int) ≤ (i : Int) := Int.natCast_nonneg _
    have hil : i < l.length := by omega
    have hb := h.2 l[i] (List.getElem_mem hil)
    obtain ⟨b, e⟩ := ih (i + 1) (by omega)
    obtain ⟨b1, e1⟩ := rising_ev l[i].f0 (i : Int) hb.1
    obtain ⟨b2, e2⟩ := rising_ev l[i].f1 (i : Int) hb.2
    have hs : wrap64 ((i : Int) + 1) = ((i + 1 : Nat) : Int) := wsucc i (by omega)
    have key : ∃ c : Bool, Ev (fun k => (impl_risingBelow.f k l[i].f0 (i : Int)).bind fun t => if t = true then ((impl_risingBelow.f k l[i].f1 (i : Int)).bind fun u => if u = true then impl_IsGame.l0 k l l (l.length : Int) ((i + 1 : Nat) : Int) else some false) else some false) c := by
      cases b1 with
      | false => exact ⟨false, Ev.bind e1 (Ev.now _)⟩
      | true =>
        cases b2 with
        | false => exact ⟨false, Ev.bind e1 (Ev.bind e2 (Ev.now _))⟩
        | true => exact ⟨b, Ev.bind e1 (Ev.bind e2 e)⟩
    obtain ⟨c, hc⟩ := key
    refine ⟨c, Ev.step (fun k => ?_) hc⟩
    simp only [impl_IsGame.l0, if_pos g1, if_pos g2, rdI l i hil, hs]
theorem game_ev (l : List S57) (h : Small l) : ∃ b : Bool, Ev (fun k => impl_IsGame.f k l) b ∧ Ev (fun k => spec_gaGood.f k l) b := by
  obtain ⟨b, hb⟩ := game_l l h l.length 0 (by omega)
  exact ⟨b, hb, Ev.congr (fun k => game_same l l _ k _) hb⟩

/-! ### what a game's positions are like -/
theorem rd_nat (x : List Int) (i : Nat) (h : i < x.length) : rd x (i : Int) = x[i] := by
  simp [rd, List.getD_eq_getElem?_getD, List.getElem?_eq_getElem h]
theorem rising_t (x : List Int) (n : Int) (hx : x.length ≤ 1048576) (hn : 0 ≤ n ∧ n ≤ 1048576) : ∀ (d j : Nat), j + d = x.length → ∃ b : Bool, Ev (fun k => impl_risingBelow.l0 k x n x (x.length : Int) (j : Int)) b ∧ (b = true → ∀ i : Nat, j ≤ i → (h : i < x.length) → 0 ≤ x[i] ∧ x[i] < n ∧ (0 < i → rd x ((i - 1 : Nat) : Int) < x[i])) := by
  intro d
  induction d with
  | zero =>
    intro j hj
    have c : ¬ (j : Int) < (x.length : Int) := by omega
    refine ⟨true, Ev.step (fun k => ?_) (Ev.now _), fun _ i h1 h2 => by omega⟩
    simp only [impl_risingBelow.l0, if_neg c]
  | succ d ih =>
    intro j hj
    have g1 : (j : Int) < (x.length : Int) := by omega
    have g2 : (0 : Int) ≤ (j : Int) := Int.natCast_nonneg _
    have hjl : j < x.length := by omega
    obtain ⟨b, hb, hq⟩ := ih (j + 1) (by omega)
    have hs : wrap64 ((j : Int) + 1) = ((j + 1 : Nat) : Int) := wsucc j (by omega)
    have hw : wrap64 (n - 1) = n - 1 := by clear hs; unfold wrap64; omega
    by_cases h : 0 ≤ rd x (j : Int) ∧ rd x (j : Int) ≤ wrap64 (n - 1)
    · have h' := h
      rw [hw, rd_nat x j hjl] at h'
      clear hw
      by_cases h0 : (j : Int) > 0
      · have hp : wrap64 ((j : Int) - 1) = ((j - 1 : Nat) : Int) := by clear hs h; unfold wrap64; omega
        have g3 : (0 : Int) ≤ ((j - 1 : Nat) : Int) := Int.natCast_nonneg _
        have g4 : ((j - 1 : Nat) : Int) < (x.length : Int) := by clear hs h hp; omega
        by_cases h5 : rd x ((j - 1 : Nat) : Int) ≥ rd x (j : Int)
        · refine ⟨false, Ev.step (fun k => ?_) (Ev.now _), fun e => by cases e⟩
          simp only [impl_risingBelow.l0, if_pos g1, if_pos g2, in_some, h, and_self, decide_true, Option.bind_some, if_true, if_pos h0, hp, if_pos g3, if_pos g4, if_pos h5]
        · refine ⟨b, Ev.step (fun k => ?_) hb, fun e i h1 h2 => ?_⟩
          · simp only [impl_risingBelow.l0, if_pos g1, if_pos g2, in_some, h, and_self, decide_true, Option.bind_some, if_true, if_pos h0, hp, if_pos g3, if_pos g4, if_neg h5, hs]
          · by_cases e2 : i = j
            · subst e2
              rw [rd_nat x i hjl] at h5
              clear hs h hp
              exact ⟨h'.1, by omega, fun _ => by omega⟩
            · exact hq e i (by omega) h2
      · refine ⟨b, Ev.step (fun k => ?_) hb, fun e i h1 h2 => ?_⟩
        · simp only [impl_risingBelow.l0, if_pos g1, if_pos g2, in_some, h, and_self, decide_true, Option.bind_some, if_true, if_neg h0, hs]
        · by_cases e2 : i = j
          · subst e2
            clear hs h
            exact ⟨h'.1, by omega, fun _ => by omega⟩
          · exact hq e i (by omega) h2
    · refine ⟨false, Ev.step (fun k => ?_) (Ev.now _), fun e => by cases e⟩
      simp only [impl_risingBelow.l0, if_pos g1, if_pos g2, in_some, h, decide_false, Option.bind_some, Bool.false_eq_true, if_false]
def Rise (x : List Int) (n : Int) : Prop := (∀ y ∈ x, 0 ≤ y ∧ y < n) ∧ x.Pairwise (· < ·)
theorem rise_of {x : List Int} {n : Int} (h : ∀ i : Nat, 0 ≤ i → (h : i < x.length) → 0 ≤ x[i] ∧ x[i] < n ∧ (0 < i → rd x ((i - 1 : Nat) : Int) < x[i])) : Rise x n := by
  refine ⟨fun y hy => ?_, ?_⟩
  · obtain ⟨i, hi, rfl⟩ := List.mem_iff_getElem.1 hy
    exact ⟨(h i (by omega) hi).1, (h i (by omega) hi).2.1⟩
  · rw [List.pairwise_iff_getElem]
    intro i j hi hj hij
    induction j with
    | zero => omega
    | succ j ih =>
      have h1 := (h (j + 1) (by omega) hj).2.2 (by omega)
      rw [show j + 1 - 1 = j from rfl, rd_nat x j (by omega)] at h1
      by_cases e : i = j
      · subst e; exact h1
      · have := ih (by omega) (by omega)
        omega
theorem rising_ev2 (x : List Int) (n : Int) (hx : x.length ≤ 1048576) (hn : 0 ≤ n ∧ n ≤ 1048576) : ∃ b : Bool, Ev (fun k => impl_risingBelow.f k x n) b ∧ (b = true → Rise x n) := by
  obtain ⟨b, h1, h2⟩ := rising_t x n hx hn x.length 0 (by omega)
  exact ⟨b, h1, fun e => rise_of (h2 e)⟩
/-- A game: from 1 to 40 positions, whose options rise and come before them. -/
def Gm (l : List S57) : Prop := 1 ≤ l.length ∧ l.length ≤ 40 ∧ ∀ i : Nat, (h : i < l.length) → Rise l[i].f0 (i : Int) ∧ Rise l[i].f1 (i : Int)
theorem game_t (l : List S57) (h : Small l) : ∀ (d i : Nat), i + d = l.length → ∃ b : Bool, Ev (fun k => impl_IsGame.l0 k l l (l.length : Int) (i : Int)) b ∧ (b = true → 1 ≤ l.length ∧ l.length ≤ 40 ∧ ∀ j : Nat, i ≤ j → (hj : j < l.length) → Rise l[j].f0 (j : Int) ∧ Rise l[j].f1 (j : Int)) := by
  have hl := h.1
  intro d
  induction d with
  | zero =>
    intro i hi
    have c : ¬ (i : Int) < (l.length : Int) := by omega
    refine ⟨decide (1 ≤ (l.length : Int) ∧ (l.length : Int) ≤ 40), Ev.step (fun k => ?_) (Ev.now _), fun e => ?_⟩
    · simp only [impl_IsGame.l0, if_neg c, in_some, Option.bind_some]
    · have := of_decide_eq_true e
      exact ⟨by omega, by omega, fun j h1 h2 => by omega⟩
  | succ d ih =>
    intro i hi
    have g1 : (i : Int) < (l.length : Int) := by omega
    have g2 : (0 : Int) ≤ (i : Int) := Int.natCast_nonneg _
    have hil : i < l.length := by omega
    have hb := h.2 l[i] (List.getElem_mem hil)
    obtain ⟨b, e, q⟩ := ih (i + 1) (by omega)
    obtain ⟨b1, e1, q1⟩ := rising_ev2 l[i].f0 (i : Int) hb.1 (by omega)
    obtain ⟨b2, e2, q2⟩ := rising_ev2 l[i].f1 (i : Int) hb.2 (by omega)
    have hs : wrap64 ((i : Int) + 1) = ((i + 1 : Nat) : Int) := wsucc i (by omega)
    have key : ∃ c : Bool, Ev (fun k => (impl_risingBelow.f k l[i].f0 (i : Int)).bind fun t => if t = true then ((impl_risingBelow.f k l[i].f1 (i : Int)).bind fun u => if u = true then impl_IsGame.l0 k l l (l.length : Int) ((i + 1 : Nat) : Int) else some false) else some false) c ∧ (c = true → 1 ≤ l.length ∧ l.length ≤ 40 ∧ ∀ j : Nat, i ≤ j → (hj : j < l.length) → Rise l[j].f0 (j : Int) ∧ Rise l[j].f1 (j : Int)) := by
      clear hs
      cases b1 with
      | false => exact ⟨false, Ev.bind e1 (Ev.now _), fun e => by cases e⟩
      | true =>
        cases b2 with
        | false => exact ⟨false, Ev.bind e1 (Ev.bind e2 (Ev.now _)), fun e => by cases e⟩
        | true =>
          refine ⟨b, Ev.bind e1 (Ev.bind e2 e), fun eb => ?_⟩
          obtain ⟨r1, r2, r3⟩ := q eb
          refine ⟨r1, r2, fun j hj hjl => ?_⟩
          by_cases e3 : j = i
          · subst e3
            exact ⟨q1 rfl, q2 rfl⟩
          · exact r3 j (by omega) hjl
    obtain ⟨c, hc, hq⟩ := key
    refine ⟨c, Ev.step (fun k => ?_) hc, hq⟩
    simp only [impl_IsGame.l0, if_pos g1, if_pos g2, rdI l i hil, hs]
theorem game_ev2 (l : List S57) (h : Small l) : ∃ b : Bool, Ev (fun k => impl_IsGame.f k l) b ∧ Ev (fun k => spec_gaGood.f k l) b ∧ (b = true → Gm l) := by
  obtain ⟨b, hb, hq⟩ := game_t l h l.length 0 (by omega)
  refine ⟨b, hb, Ev.congr (fun k => game_same l l _ k _) hb, fun e => ?_⟩
  obtain ⟨h1, h2, h3⟩ := hq e
  exact ⟨h1, h2, fun i hi => h3 i (by omega) hi⟩

/-! ### marks in a list of numbers, and marks that are held -/
theorem markIntS_l : ∀ (d i m : Nat) (xs : List Int), i + d = xs.length → m + d < 2 ^ 61 → xs.length < 2 ^ 61 →
    ∃ ys : List Int, Ev (fun k => laws_markIntS.l0 k xs (m : Int) (i : Int)) (((m + d : Nat) : Int), ys) ∧ ys.length = xs.length ∧ (∀ j, j < i → ys[j]? = xs[j]?) ∧
      Ev (fun k => laws_heldIntS.l0 k ys (m : Int) (i : Int)) ((m + d : Nat) : Int) := by
  intro d
  induction d with
  | zero =>
    intro i m xs hi hm hx
    refine ⟨xs, Ev.step (fun k => ?_) (Ev.now _), rfl, fun _ _ => rfl, Ev.step (fun k => ?_) (Ev.now _)⟩
    · simp only [laws_markIntS.l0]
      rw [if_neg (by omega)]
      rfl
    · simp only [laws_heldIntS.l0]
      rw [if_neg (by omega)]
      rfl
  | succ d ih =>
    intro i m xs hi hm hx
    obtain ⟨ys, h1, h2, h3, h4⟩ := ih (i + 1) (m + 1) (xs.set i (m : Int)) (by rw [List.length_set]; omega) (by omega) (by rw [List.length_set]; omega)
    rw [List.length_set] at h2
    have e : m + 1 + d = m + (d + 1) := by omega
    rw [e] at h1 h4
    have g1 : (i : Int) < (xs.length : Int) := by omega
    have g1' : (i : Int) < (ys.length : Int) := by omega
    have g2 : (0 : Int) ≤ (i : Int) := Int.natCast_nonneg _
    have g3 : rd ys (i : Int) = (m : Int) := by
      have := h3 i (by omega)
      rw [List.getElem?_set_self (by omega)] at this
      simp [rd, List.getD_eq_getElem?_getD, this]
    refine ⟨ys, Ev.step (fun k => ?_) h1, h2, fun j hj => ?_, Ev.step (fun k => ?_) h4⟩
    · simp only [laws_markIntS.l0, if_pos g1, if_pos g2]
      rw [wsucc i (by omega), wsucc m (by omega), Int.toNat_natCast]
    · have := h3 j (by omega)
      rwa [List.getElem?_set_ne (by omega)] at this
    · simp only [laws_heldIntS.l0, if_pos g1', if_pos g2, g3, if_true]
      rw [wsucc i (by omega), wsucc m (by omega)]
theorem markIntS_ev (xs : List Int) (m : Nat) (h : xs.length + m < 2 ^ 60) : ∃ ys : List Int, Ev (fun k => laws_markIntS.f k xs (m : Int)) (((m + xs.length : Nat) : Int), ys) ∧ ys.length = xs.length ∧
    Ev (fun k => laws_heldIntS.f k ys (m : Int)) ((m + xs.length : Nat) : Int) := by
  obtain ⟨ys, h1, h2, _, h4⟩ := markIntS_l xs.length 0 m xs (by omega) (by omega) (by omega)
  exact ⟨ys, h1, h2, h4⟩

/-! ### marks in the rows of positions -/
def tot (l : List S57) : Nat := (l.map fun p => p.f0.length + p.f1.length).sum
theorem rdI_mid (D l : List S57) (x : S57) : rd_T57 (D ++ x :: l) (D.length : Int) = x := by
  rw [rdI _ _ (by simp)]
  simp
theorem posmarks_ev : ∀ (l : List S57) (m : Nat), m + tot l < 2 ^ 59 → ∃ l' : List S57, Ev (fun k => laws_markPositionS.f k l (m : Int)) (((m + tot l : Nat) : Int), l') ∧
    ∀ D : List S57, D.length + l.length < 2 ^ 59 → Ev (fun k => laws_heldPositionS.l0 k (D ++ l') (m : Int) (D.length : Int)) ((m + tot l : Nat) : Int) := by
  intro l
  induction l with
  | nil =>
    intro m hm
    refine ⟨[], Ev.congr (fun k => rfl) (Ev.now ((m : Int), [])), fun D hD => ?_⟩
    have c : ¬ (D.length : Int) < ((D ++ [] : List S57).length : Int) := by simp
    refine Ev.step (fun k => ?_) (Ev.now _)
    simp only [laws_heldPositionS.l0, if_neg c]
    rfl
  | cons p ps ih =>
    intro m hm
    have ht : tot (p :: ps) = p.f0.length + p.f1.length + tot ps := by simp [tot]
    rw [ht] at hm ⊢
    obtain ⟨y0, a1, a2, a3⟩ := markIntS_ev p.f0 m (by omega)
    obtain ⟨y1, b1, b2, b3⟩ := markIntS_ev p.f1 (m + p.f0.length) (by omega)
    obtain ⟨l', e1, e2⟩ := ih (m + p.f0.length + p.f1.length) (by omega)
    rw [show m + p.f0.length + p.f1.length + tot ps = m + (p.f0.length + p.f1.length + tot ps) from by omega] at e1 e2
    refine ⟨⟨y0, y1⟩ :: l', ?_, fun D hD => ?_⟩
    · exact Ev.congr (fun k => rfl) (Ev.bind a1 (Ev.bind b1 (Ev.bind e1 (Ev.now _))))
    · have g1 : (D.length : Int) < ((D ++ (⟨y0, y1⟩ : S57) :: l').length : Int) := by simp; omega
      have g2 : (0 : Int) ≤ (D.length : Int) := Int.natCast_nonneg _
      have hn := e2 (D ++ [⟨y0, y1⟩]) (by simp only [List.length_append, List.length_cons, List.length_nil] at hD ⊢; omega)
      rw [List.append_assoc, List.length_append] at hn
      refine Ev.step (f := ?gm1) (fun k => ?gm2) ?gm3
      case gm2 => conv => lhs; simp only [laws_heldPositionS.l0, if_pos g1, if_pos g2, rdI_mid]
      case gm3 =>
        refine Ev.bind a3 ?_
        simp only [show ¬ ((m + p.f0.length : Nat) : Int) < 0 from by omega, if_false]
        refine Ev.bind b3 ?_
        simp only [show ¬ ((m + p.f0.length + p.f1.length : Nat) : Int) < 0 from by omega, if_false, wsucc D.length (by simp only [List.length_cons] at hD; omega)]
        exact hn
theorem tot_small {l : List S57} (h : Small l) : tot l ≤ 2 ^ 41 := by
  have : ∀ (L : List S57), (∀ y ∈ L, y.f0.length ≤ 1048576 ∧ y.f1.length ≤ 1048576) → tot L ≤ L.length * 2097152 := by
    intro L
    induction L with
    | nil => intro _; simp [tot]
    | cons p ps ih =>
      intro hL
      have h1 := hL p (by simp)
      have h2 := ih (fun y hy => hL y (by simp [hy]))
      have ht : tot (p :: ps) = p.f0.length + p.f1.length + tot ps := by simp [tot]
      rw [ht, List.length_cons]
      omega
  have h1 := this l h.2
  have h2 := h.1
  omega
theorem posmarks {l : List S57} (h : Small l) : ∃ (m : Nat) (l' : List S57), Ev (fun k => laws_markPositionS.f k l 1) ((m : Int), l') ∧ Ev (fun k => laws_heldPositionS.f k l' 1) (m : Int) := by
  have ht := tot_small h
  obtain ⟨l', h1, h2⟩ := posmarks_ev l 1 (by omega)
  exact ⟨_, l', h1, by
    have := h2 [] (by have := h.1; simp only [List.length_nil]; omega)
    exact this⟩

/-! ### a game's form, as the walk asks it -/
theorem nat_of {y : Int} (h : 0 ≤ y) : ∃ m : Nat, y = (m : Int) := ⟨y.toNat, by omega⟩
theorem opt_in {g : List S57} (hw : jd.Wf g) (hs : Small g) (a : Nat) (ha : a < g.length) : ((rd_T57 g (a : Int)).f0.length ≤ 1048576 ∧ ∀ y ∈ (rd_T57 g (a : Int)).f0, 0 ≤ y ∧ y < (a : Int)) ∧ ((rd_T57 g (a : Int)).f1.length ≤ 1048576 ∧ ∀ y ∈ (rd_T57 g (a : Int)).f1, 0 ≤ y ∧ y < (a : Int)) := by
  rw [rdI g a ha]
  have z := hs.2 g[a] (List.getElem_mem ha)
  exact ⟨⟨z.1, (hw.2 a ha).1⟩, z.2, (hw.2 a ha).2⟩
theorem wf_game {g : List S57} (h : Gm g) (hs : Small g) : jd.wfB g = true := by
  unfold jd.wfB
  rw [Bool.and_eq_true, decide_eq_true_eq, List.all_eq_true]
  refine ⟨h.2.1, fun i hi => ?_⟩
  have hi' := List.mem_range.1 hi
  have q := h.2.2 i hi'
  have z := hs.2 g[i] (List.getElem_mem hi')
  rw [rdI g i hi', Bool.and_eq_true, Bool.and_eq_true, Bool.and_eq_true, List.all_eq_true, List.all_eq_true, decide_eq_true_eq, decide_eq_true_eq]
  exact ⟨⟨fun x hx => by simpa using q.1.1 x hx, fun x hx => by simpa using q.2.1 x hx⟩, z⟩

/-! ### trimmed games -/
theorem own_some (x : List Int) (h : x.length < 17592186044416) : spec_l1Own.f x = some x := by
  unfold spec_l1Own.f
  simp only [Option.bind_some, List.length_nil, List.nil_append, Nat.zero_add, if_pos h]
theorem has_l (l : List Int) (x : Int) (hl : l.length ≤ 1048576) : ∀ (d j : Nat), j + d = l.length → Ev (fun k => spec_l1Has.l0 k x l (l.length : Int) (j : Int)) (decide (x ∈ l.drop j)) := by
  intro d
  induction d with
  | zero =>
    intro j hj
    have c : ¬ (j : Int) < (l.length : Int) := by omega
    rw [List.drop_of_length_le (by omega), decide_eq_false (by simp)]
    refine Ev.step (fun k => ?_) (Ev.now _)
    simp only [spec_l1Has.l0, if_neg c]
  | succ d ih =>
    intro j hj
    have g1 : (j : Int) < (l.length : Int) := by omega
    have g2 : (0 : Int) ≤ (j : Int) := Int.natCast_nonneg _
    have hjl : j < l.length := by omega
    have hw := wsucc j (by omega)
    by_cases h : l[j] = x
    · have : x ∈ l.drop j := by rw [List.drop_eq_getElem_cons hjl, h]; simp
      rw [decide_eq_true this]
      refine Ev.step (fun k => ?_) (Ev.now _)
      simp only [spec_l1Has.l0, if_pos g1, if_pos g2, rd_nat l j hjl, if_pos h]
    · have e : (x ∈ l.drop j) ↔ x ∈ l.drop (j + 1) := by
        rw [List.drop_eq_getElem_cons hjl, List.mem_cons]
        exact ⟨fun q => q.resolve_left (fun z => h z.symm), .inr⟩
      rw [decide_eq_decide.2 e]
      refine Ev.step (fun k => ?_) (ih (j + 1) (by clear hw; omega))
      simp only [spec_l1Has.l0, if_pos g1, if_pos g2, rd_nat l j hjl, if_neg h, hw]
theorem has_ev_ (l : List Int) (x : Int) (hl : l.length ≤ 1048576) : Ev (fun k => spec_l1Has.f k l x) (decide (x ∈ l)) := by
  have := has_l l x hl l.length 0 (by omega)
  rw [List.drop_zero] at this
  exact this
def ins (x : Int) : List Int → List Int
  | [] => [x]
  | y :: l => if y < x then y :: ins x l else if y = x then y :: l else x :: y :: l
theorem ins_mem (x z : Int) : ∀ l : List Int, z ∈ ins x l ↔ z = x ∨ z ∈ l
  | [] => by simp [ins]
  | y :: l => by
    unfold ins
    split
    · rw [List.mem_cons, ins_mem x z l, List.mem_cons]
      exact ⟨fun h => h.elim (fun e => .inr (.inl e)) (fun h => h.elim .inl (fun e => .inr (.inr e))), fun h => h.elim (fun e => .inr (.inl e)) (fun h => h.elim .inl (fun e => .inr (.inr e)))⟩
    · split
      · rename_i e
        subst e
        rw [List.mem_cons]
        exact ⟨.inr, fun h => h.elim .inl id⟩
      · rw [List.mem_cons]
theorem ins_up (x : Int) : ∀ l : List Int, l.Pairwise (· < ·) → (ins x l).Pairwise (· < ·)
  | [], _ => by simp [ins]
  | y :: l, h => by
    have h2 := List.pairwise_cons.1 h
    unfold ins
    split
    · rename_i hy
      refine List.pairwise_cons.2 ⟨fun z hz => ?_, ins_up x l h2.2⟩
      rcases (ins_mem x z l).1 hz with rfl | hz
      · exact hy
      · exact h2.1 z hz
    · split
      · exact h
      · rename_i h3 h4
        refine List.pairwise_cons.2 ⟨fun z hz => ?_, h⟩
        rcases List.mem_cons.1 hz with rfl | hz
        · omega
        · have := h2.1 z hz
          omega
theorem ins_len (x : Int) : ∀ l : List Int, (ins x l).length ≤ l.length + 1
  | [] => by simp [ins]
  | y :: l => by
    unfold ins
    have := ins_len x l
    split
    · simp only [List.length_cons]; omega
    · split
      · simp only [List.length_cons]; omega
      · simp only [List.length_cons]; omega
theorem up_ext : ∀ A B : List Int, A.Pairwise (· < ·) → B.Pairwise (· < ·) → (∀ x, x ∈ A ↔ x ∈ B) → A = B
  | [], [], _, _, _ => rfl
  | [], b :: B, _, _, h => absurd ((h b).2 (List.mem_cons_self ..)) (by simp)
  | a :: A, [], _, _, h => absurd ((h a).1 (List.mem_cons_self ..)) (by simp)
  | a :: A, b :: B, ha, hb, h => by
    have a2 := List.pairwise_cons.1 ha
    have b2 := List.pairwise_cons.1 hb
    have e : a = b := by
      rcases List.mem_cons.1 ((h a).1 (List.mem_cons_self ..)) with e | h1
      · exact e
      · rcases List.mem_cons.1 ((h b).2 (List.mem_cons_self ..)) with e | h3
        · exact e.symm
        · have := b2.1 a h1
          have := a2.1 b h3
          omega
    subst e
    rw [up_ext A B a2.2 b2.2 (fun x => ⟨fun hx => by
      rcases List.mem_cons.1 ((h x).1 (List.mem_cons_of_mem _ hx)) with e | h1
      · have := a2.1 x hx
        omega
      · exact h1, fun hx => by
      rcases List.mem_cons.1 ((h x).2 (List.mem_cons_of_mem _ hx)) with e | h1
      · have := b2.1 x hx
        omega
      · exact h1⟩)]
theorem put_l (l : List Int) (x : Int) (hl : l.length ≤ 1048576) : ∀ (d j : Nat), j + d = l.length → Ev (fun k => spec_l1Put.l0 k l x (j : Int)) (l.take j ++ ins x (l.drop j)) := by
  intro d
  induction d with
  | zero =>
    intro j hj
    have c : ¬ (j : Int) < (l.length : Int) := by omega
    have g2 : (0 : Int) ≤ (j : Int) := Int.natCast_nonneg _
    have g3 : (j : Int) ≤ (l.length : Int) := by omega
    have hjl : j = l.length := by omega
    subst hjl
    have c1 : l.length < 17592186044416 := by omega
    have c2 : (l ++ [x]).length < 17592186044416 := by rw [List.length_append, List.length_singleton]; omega
    rw [List.take_length, List.drop_length]
    refine Ev.step (fun k => ?_) (Ev.now _)
    simp only [spec_l1Put.l0, if_neg c, Option.bind_some, if_pos g2, if_pos g3, Int.toNat_natCast, List.take_length, List.drop_length, List.nil_append, List.length_nil, Nat.zero_add, Nat.add_zero, List.append_nil, if_pos c1, if_pos c2, ins]
  | succ d ih =>
    intro j hj
    have c : (j : Int) < (l.length : Int) := by omega
    have g2 : (0 : Int) ≤ (j : Int) := Int.natCast_nonneg _
    have hjl : j < l.length := by omega
    have hw := wsucc j (by omega)
    rw [List.drop_eq_getElem_cons hjl]
    by_cases h1 : l[j] < x
    · have e : l.take j ++ ins x (l[j] :: l.drop (j + 1)) = l.take (j + 1) ++ ins x (l.drop (j + 1)) := by
        rw [List.take_succ_eq_append_getElem hjl, List.append_assoc]
        show _ = l.take j ++ (l[j] :: ins x (l.drop (j + 1)))
        rw [ins, if_pos h1]
      rw [e]
      refine Ev.step (fun k => ?_) (ih (j + 1) (by clear hw; omega))
      simp only [spec_l1Put.l0, if_pos c, if_pos g2, rd_nat l j hjl, if_pos h1, hw]
    · by_cases h2 : l[j] = x
      · have e : l.take j ++ ins x (l[j] :: l.drop (j + 1)) = l := by
          rw [ins, if_neg h1, if_pos h2, ← List.drop_eq_getElem_cons hjl, List.take_append_drop]
        rw [e]
        refine Ev.step (fun k => ?_) (Ev.now _)
        simp only [spec_l1Put.l0, if_pos c, if_pos g2, rd_nat l j hjl, if_neg h1, if_pos h2]
      · have e : l.take j ++ ins x (l[j] :: l.drop (j + 1)) = l.take j ++ [x] ++ l.drop j := by
          rw [ins, if_neg h1, if_neg h2, ← List.drop_eq_getElem_cons hjl, List.append_assoc]
          rfl
        have g3 : (j : Int) ≤ (l.length : Int) := by omega
        have c1 : (l.take j).length < 17592186044416 := by rw [List.length_take]; clear hw; omega
        have c2 : (l.take j ++ [x]).length + (l.drop j).length < 17592186044416 := by rw [List.length_append, List.length_singleton, List.length_take, List.length_drop]; clear hw; omega
        rw [e]
        refine Ev.step (fun k => ?_) (Ev.now _)
        simp only [spec_l1Put.l0, if_pos c, if_pos g2, rd_nat l j hjl, if_neg h1, if_neg h2, Option.bind_some, if_pos g3, Int.toNat_natCast, List.nil_append, List.length_nil, Nat.zero_add, if_pos c1, if_pos c2]
theorem put_ev (l : List Int) (x : Int) (hl : l.length ≤ 1048576) : Ev (fun k => spec_l1Put.f k l x) (ins x l) := put_l l x hl l.length 0 (Nat.zero_add _)
def ops (g : List S57) (i : Int) : List Int := (rd_T57 g i).f0 ++ (rd_T57 g i).f1
theorem ops_in {g : List S57} (hw : jd.Wf g) (m : Nat) (hm : m < g.length) {y : Int} (hy : y ∈ ops g (m : Int)) : 0 ≤ y ∧ y < (m : Int) := by
  unfold ops at hy
  rw [jd.at m hm] at hy
  rcases List.mem_append.1 hy with hy | hy
  · exact (hw.2 m hm).1 y hy
  · exact (hw.2 m hm).2 y hy
inductive Rc (g : List S57) : Int → Prop
  | top : Rc g ((g.length : Int) - 1)
  | step {i y : Int} (h : Rc g i) (hy : y ∈ ops g i) : Rc g y
theorem Rc.range {g : List S57} (hw : jd.Wf g) (h1 : 1 ≤ g.length) {i : Int} (h : Rc g i) : 0 ≤ i ∧ i < (g.length : Int) := by
  induction h with
  | top => omega
  | @step i y h hy ih =>
    obtain ⟨m, hm⟩ := nat_of ih.1
    rw [hm] at hy ih
    have := ops_in hw m (by omega) hy
    omega
def addNew (F : List Int) (x : Int) : List Int := if x ∈ F then F else F ++ [x]
theorem addNew_mem (F : List Int) (x y : Int) : y ∈ addNew F x ↔ y ∈ F ∨ y = x := by
  unfold addNew
  by_cases h : x ∈ F
  · rw [if_pos h]
    exact ⟨.inl, fun q => q.elim id (fun e => e ▸ h)⟩
  · rw [if_neg h, List.mem_append, List.mem_singleton]
theorem addNew_nodup {F : List Int} (x : Int) (h : F.Nodup) : (addNew F x).Nodup := by
  unfold addNew
  by_cases hx : x ∈ F
  · rw [if_pos hx]
    exact h
  · rw [if_neg hx]
    refine List.nodup_append.2 ⟨h, by simp, ?_⟩
    intro a ha b hb e
    rw [List.mem_singleton] at hb
    subst hb
    exact hx (e ▸ ha)
def addAll (F ys : List Int) : List Int := ys.foldl addNew F
theorem addAll_mem : ∀ (ys F : List Int) (y : Int), y ∈ addAll F ys ↔ y ∈ F ∨ y ∈ ys
  | [], F, y => by simp [addAll]
  | x :: ys, F, y => by
    show y ∈ addAll (addNew F x) ys ↔ _
    rw [addAll_mem ys, addNew_mem, List.mem_cons, or_assoc]
theorem addAll_nodup : ∀ (ys F : List Int), F.Nodup → (addAll F ys).Nodup
  | [], _, h => h
  | x :: ys, F, h => addAll_nodup ys (addNew F x) (addNew_nodup x h)
theorem addAll_pre : ∀ (ys F : List Int), ∃ T, addAll F ys = F ++ T
  | [], F => ⟨[], (List.append_nil F).symm⟩
  | x :: ys, F => by
    obtain ⟨T, hT⟩ := addAll_pre ys (addNew F x)
    show ∃ T, addAll (addNew F x) ys = F ++ T
    rw [hT]
    unfold addNew
    by_cases h : x ∈ F
    · rw [if_pos h]; exact ⟨T, rfl⟩
    · rw [if_neg h]; exact ⟨[x] ++ T, by rw [List.append_assoc]⟩
theorem reach_in (g : List S57) (i : Int) (ys : List Int) (n : Nat) (hn : n ≤ 40) (hy : ∀ y ∈ ys, 0 ≤ y ∧ y < (n : Int)) (hl : ys.length ≤ 2097152) (r : List Int) : ∀ (d j : Nat) (F : List Int), j + d = ys.length → F.Nodup → (∀ x ∈ F, 0 ≤ x ∧ x < (n : Int)) →
    Ev (fun k => spec_gaReached.l0 k g (addAll F (ys.drop j)) (wrap64 (i + 1))) r → Ev (fun k => spec_gaReached.l1 k g F i ys (ys.length : Int) (j : Int)) r := by
  intro d
  induction d with
  | zero =>
    intro j F hj _ _ h
    have c : ¬ (j : Int) < (ys.length : Int) := by omega
    rw [List.drop_of_length_le (by omega)] at h
    refine Ev.step (fun k => ?_) h
    simp only [spec_gaReached.l1, if_neg c]
    rfl
  | succ d ih =>
    intro j F hj hnd hF h
    have hjl : j < ys.length := by omega
    have c1 : (j : Int) < (ys.length : Int) := by omega
    have c2 : (0 : Int) ≤ (j : Int) := Int.natCast_nonneg _
    have hfl : F.length ≤ n := Mp.nodup_range F n hnd hF
    have hw := wsucc j (by omega)
    rw [List.drop_eq_getElem_cons hjl] at h
    have hyj := hy ys[j] (List.getElem_mem hjl)
    have h2 := ih (j + 1) (addNew F ys[j]) (by clear hw; omega) (addNew_nodup _ hnd) (fun x hx => by
      rcases (addNew_mem F ys[j] x).1 hx with hx | rfl
      · exact hF x hx
      · exact hyj) h
    have h3 := Ev.bind (has_ev_ F ys[j] (by clear hw; omega)) (f := fun k t => if t = true then spec_gaReached.l1 k g F i ys (ys.length : Int) ((j + 1 : Nat) : Int) else if F.length < 17592186044416 then spec_gaReached.l1 k g (F ++ [ys[j]]) i ys (ys.length : Int) ((j + 1 : Nat) : Int) else none) (r := r) (by
      by_cases hm : ys[j] ∈ F
      · simp only [decide_eq_true hm, if_true]
        rw [show addNew F ys[j] = F from if_pos hm] at h2
        exact h2
      · have hc : F.length < 17592186044416 := by clear hw; omega
        simp only [decide_eq_false hm, Bool.false_eq_true, if_false, if_pos hc]
        rw [show addNew F ys[j] = F ++ [ys[j]] from if_neg hm] at h2
        exact h2)
    refine Ev.step (fun k => ?_) h3
    simp only [spec_gaReached.l1, if_pos c1, if_pos c2, rd_nat ys j hjl, hw]
theorem reach_l2 (L : List Int) (hl : L.length ≤ 1000) : ∀ (d i : Nat) (out : List Int), i + d = L.length → out.length + d ≤ 1000 → Ev (fun k => spec_gaReached.l2 k out L (L.length : Int) (i : Int)) ((L.drop i).foldl (fun o x => ins x o) out) := by
  intro d
  induction d with
  | zero =>
    intro i out hi _
    have c : ¬ (i : Int) < (L.length : Int) := by omega
    rw [List.drop_of_length_le (by omega)]
    refine Ev.step (fun k => ?_) (Ev.now _)
    simp only [spec_gaReached.l2, if_neg c]
    rfl
  | succ d ih =>
    intro i out hi ho
    have hil : i < L.length := by omega
    have c1 : (i : Int) < (L.length : Int) := by omega
    have c2 : (0 : Int) ≤ (i : Int) := Int.natCast_nonneg _
    have hw := wsucc i (by omega)
    have hlen := ins_len L[i] out
    rw [List.drop_eq_getElem_cons hil]
    have h3 := Ev.bind (put_ev out L[i] (by clear hw; omega)) (f := fun k t => spec_gaReached.l2 k t L (L.length : Int) ((i + 1 : Nat) : Int)) (ih (i + 1) (ins L[i] out) (by clear hw; omega) (by clear hw; omega))
    refine Ev.step (fun k => ?_) h3
    simp only [spec_gaReached.l2, if_pos c1, if_pos c2, rd_nat L i hil, hw]
theorem ins_fold_mem (z : Int) : ∀ (L out : List Int), z ∈ L.foldl (fun o x => ins x o) out ↔ z ∈ out ∨ z ∈ L
  | [], out => by simp
  | x :: L, out => by
    rw [List.foldl_cons, ins_fold_mem z L, ins_mem, List.mem_cons]
    exact ⟨fun h => h.elim (fun h => h.elim (fun e => .inr (.inl e)) .inl) (fun h => .inr (.inr h)), fun h => h.elim (fun h => .inl (.inr h)) (fun h => h.elim (fun e => .inl (.inl e)) .inr)⟩
theorem ins_fold_up : ∀ (L out : List Int), out.Pairwise (· < ·) → (L.foldl (fun o x => ins x o) out).Pairwise (· < ·)
  | [], _, h => h
  | x :: L, out, h => ins_fold_up L (ins x out) (ins_up x out h)
theorem reach_out (g : List S57) (hwB : jd.wfB g = true) (h1 : 1 ≤ g.length) : ∀ (d i : Nat) (F : List Int), i + d = g.length → i ≤ F.length → F.Nodup → (∀ x ∈ F, Rc g x) → ((g.length : Int) - 1) ∈ F → (∀ x ∈ F.take i, ∀ y ∈ ops g x, y ∈ F) →
    ∃ F' : List Int, (∀ x, x ∈ F' ↔ Rc g x) ∧ Ev (fun k => spec_gaReached.l0 k g F (i : Int)) (F'.foldl (fun o x => ins x o) []) := by
  have hw := jd.wf_of hwB
  have h40 := hw.1
  intro d
  induction d with
  | zero =>
    intro i F hi hiF hnd hF htop hcl
    have hfl : F.length ≤ g.length := Mp.nodup_range F g.length hnd (fun x hx => (hF x hx).range hw h1)
    obtain rfl : i = F.length := by omega
    rw [List.take_length] at hcl
    refine ⟨F, fun x => ⟨hF x, fun h => ?_⟩, ?_⟩
    · induction h with
      | top => exact htop
      | step h hy ih => exact hcl _ ih _ hy
    · have c : ¬ (F.length : Int) < (F.length : Int) := by omega
      have e := reach_l2 F (by omega) F.length 0 [] (by omega) (by simp; omega)
      rw [List.drop_zero] at e
      refine Ev.step (fun k => ?_) e
      simp only [spec_gaReached.l0, if_neg c]
      rfl
  | succ d ih =>
    intro i F hi hiF hnd hF htop hcl
    have hrg : ∀ x ∈ F, 0 ≤ x ∧ x < (g.length : Int) := fun x hx => (hF x hx).range hw h1
    have hfl : F.length ≤ g.length := Mp.nodup_range F g.length hnd hrg
    by_cases hil : i < F.length
    · have hx := hF F[i] (List.getElem_mem hil)
      have hxr := hx.range hw h1
      obtain ⟨m, hm⟩ := nat_of hxr.1
      have hmg : m < g.length := by omega
      have hsh := jd.short hwB m hmg
      rw [← jd.at m hmg, ← hm] at hsh
      have hys : ∀ y ∈ ops g F[i], 0 ≤ y ∧ y < (g.length : Int) := fun y hy => by
        rw [hm] at hy
        have := ops_in hw m hmg hy
        omega
      obtain ⟨T, hT⟩ := addAll_pre (ops g F[i]) F
      have hmem := fun y => addAll_mem (ops g F[i]) F y
      obtain ⟨F', a, e⟩ := ih (i + 1) (addAll F (ops g F[i])) (by omega) (by rw [hT, List.length_append]; omega) (addAll_nodup _ _ hnd) (fun x h => by
        rcases (hmem x).1 h with h | h
        · exact hF x h
        · exact .step hx h) ((hmem _).2 (.inl htop)) (fun x h y hy => by
        rw [hT, List.take_append_of_le_length (by omega), List.take_succ_eq_append_getElem hil] at h
        rcases List.mem_append.1 h with h | h
        · exact (hmem y).2 (.inl (hcl x h y hy))
        · rw [List.mem_singleton] at h
          subst h
          exact (hmem y).2 (.inr hy))
      refine ⟨F', a, ?_⟩
      have hwi := wsucc i (by omega)
      have e2 := reach_in g (i : Int) (ops g F[i]) g.length h40 hys (by unfold ops; rw [List.length_append]; clear hwi; omega) _ (ops g F[i]).length 0 F (by clear hwi; omega) hnd hrg (by rw [List.drop_zero, hwi]; exact e)
      have c1 : (i : Int) < (F.length : Int) := by clear hwi; omega
      have c2 : (0 : Int) ≤ (i : Int) := Int.natCast_nonneg _
      have c3 : (rd_T57 g F[i]).f0.length < 17592186044416 := by clear hwi; omega
      have c4 : (rd_T57 g F[i]).f0.length + (rd_T57 g F[i]).f1.length < 17592186044416 := by clear hwi; omega
      refine Ev.step (fun k => ?_) e2
      simp only [spec_gaReached.l0, if_pos c1, if_pos c2, rd_nat F i hil, if_pos hxr.1, if_pos hxr.2, own_some _ c3, Option.bind_some, if_pos c4]
      rfl
    · obtain rfl : i = F.length := by omega
      rw [List.take_length] at hcl
      refine ⟨F, fun x => ⟨hF x, fun h => ?_⟩, ?_⟩
      · induction h with
        | top => exact htop
        | step h hy ih => exact hcl _ ih _ hy
      · have c : ¬ (F.length : Int) < (F.length : Int) := by omega
        have e := reach_l2 F (by omega) F.length 0 [] (by omega) (by simp; omega)
        rw [List.drop_zero] at e
        refine Ev.step (fun k => ?_) e
        simp only [spec_gaReached.l0, if_neg c]
        rfl

/-! ### what impl.trimmed flags is what the reference reaches -/
theorem getD_set {α : Type} (z : α) (L : List α) (q : Nat) (b : α) (hq : q < L.length) (j : Nat) : (L.set q b).getD j z = if j = q then b else L.getD j z := by
  by_cases h : j = q
  · subst h
    simp [List.getD_eq_getElem?_getD, hq]
  · rw [if_neg h]
    simp [List.getD_eq_getElem?_getD, List.getElem?_set_ne (Ne.symm h)]
theorem mark_fold (m : Nat) : ∀ (ks : List Int) (L : List Bool), (∀ k ∈ ks, 0 ≤ k ∧ k < (m : Int)) → m < L.length → ∀ j, j < L.length → ((ks.foldl (tr.mark1 m) L).getD j false = true ↔ L.getD j false = true ∨ ((j : Int) ∈ ks ∧ L.getD m false = true))
  | [], L, _, _, j, _ => by simp
  | k :: ks, L, hk, hm, j, hj => by
    obtain ⟨q, hq⟩ := nat_of (hk k (List.mem_cons_self ..)).1
    have hqm := hk k (List.mem_cons_self ..)
    rw [hq] at hqm
    have hql : q < L.length := by omega
    have hL' : tr.mark1 m L k = L.set q (L.getD q false || L.getD m false) := by unfold tr.mark1; rw [hq, Int.toNat_natCast]
    have h1 : (tr.mark1 m L k).getD m false = L.getD m false := by rw [hL', getD_set _ _ _ _ hql, if_neg (by omega)]
    have h2 : (tr.mark1 m L k).getD j false = if j = q then (L.getD q false || L.getD m false) else L.getD j false := by rw [hL', getD_set _ _ _ _ hql]
    have hlen := tr.mark1_len m L k
    rw [List.foldl_cons, mark_fold m ks (tr.mark1 m L k) (fun y hy => hk y (List.mem_cons_of_mem _ hy)) (by omega) j (by omega), h1, h2, List.mem_cons, hq]
    by_cases e : j = q
    · subst e
      rw [if_pos rfl, Bool.or_eq_true]
      exact ⟨fun h => h.elim (fun h => h.elim .inl (fun h => .inr ⟨.inl rfl, h⟩)) (fun h => .inr ⟨.inr h.1, h.2⟩), fun h => h.elim (fun h => .inl (.inl h)) (fun h => .inl (.inr h.2))⟩
    · rw [if_neg e]
      have e2 : ¬ (j : Int) = (q : Int) := by omega
      exact ⟨fun h => h.elim .inl (fun h => .inr ⟨.inr h.1, h.2⟩), fun h => h.elim .inl (fun h => .inr ⟨h.1.resolve_left e2, h.2⟩)⟩
def Lr (g : List S57) (r : Nat) : List Bool := (rq.come g.length r).foldl (fun L x => tr.mark g L x.1) (tr.flags0 g.length)
theorem Lr_len (g : List S57) (r : Nat) : (Lr g r).length = g.length := by
  have h : ∀ (pre : List (Fin g.length)) (L : List Bool), (pre.foldl (fun L x => tr.mark g L x.1) L).length = L.length := by
    intro pre
    induction pre with
    | nil => intro L; rfl
    | cons x pre ih => intro L; rw [List.foldl_cons, ih, tr.mark_len]
  unfold Lr
  rw [h]
  unfold tr.flags0
  rw [List.length_set, List.length_replicate]
theorem Rc.cases' {g : List S57} {x : Int} (h : Rc g x) : x = (g.length : Int) - 1 ∨ ∃ i : Int, Rc g i ∧ x ∈ ops g i := by
  cases h with
  | top => exact .inl rfl
  | step h hy => exact .inr ⟨_, h, hy⟩
theorem rc_at {g : List S57} (hw : jd.Wf g) (h1 : 1 ≤ g.length) (r s : Nat) (hs : s ≤ r + 1) : Rc g (r : Int) ↔ r = g.length - 1 ∨ ∃ i : Nat, s ≤ i ∧ i < g.length ∧ Rc g (i : Int) ∧ (r : Int) ∈ ops g (i : Int) := by
  constructor
  · intro h
    rcases h.cases' with e | ⟨i, hi, hy⟩
    · exact .inl (by omega)
    · have hr := hi.range hw h1
      obtain ⟨m, hm⟩ := nat_of hr.1
      rw [hm] at hi hy hr
      have := ops_in hw m (by omega) hy
      exact .inr ⟨m, by omega, by omega, hi, hy⟩
  · rintro (e | ⟨i, _, _, hi, hy⟩)
    · have : (r : Int) = (g.length : Int) - 1 := by omega
      rw [this]
      exact .top
    · exact .step hi hy
theorem flags_inv {g : List S57} (hw : jd.Wf g) (h1 : 1 ≤ g.length) : ∀ (d r : Nat), r + d = g.length → ∀ j, j < g.length → ((Lr g r).getD j false = true ↔ j = g.length - 1 ∨ ∃ i : Nat, r ≤ i ∧ i < g.length ∧ Rc g (i : Int) ∧ (j : Int) ∈ ops g (i : Int)) := by
  intro d
  induction d with
  | zero =>
    intro r hr j hj
    obtain rfl : r = g.length := by omega
    unfold Lr
    rw [rq.come_top, List.foldl_nil]
    unfold tr.flags0
    rw [getD_set _ _ _ _ (by rw [List.length_replicate]; omega)]
    by_cases e : j = g.length - 1
    · rw [if_pos e]
      exact ⟨fun _ => .inl e, fun _ => rfl⟩
    · rw [if_neg e]
      refine ⟨fun h => ?_, fun h => ?_⟩
      · simp [List.getD_eq_getElem?_getD, hj] at h
      · rcases h with h | ⟨i, h2, h3, _⟩
        · exact absurd h e
        · omega
  | succ d ih =>
    intro r hr j hj
    have hrl : r < g.length := by omega
    have e : Lr g r = (ops g (r : Int)).foldl (tr.mark1 r) (Lr g (r + 1)) := by
      unfold Lr
      rw [rq.come_step g.length r hrl, List.foldl_append]
      rfl
    have hlen := Lr_len g (r + 1)
    rw [e, mark_fold r _ _ (fun k hk => ops_in hw r hrl hk) (by omega) j (by omega), ih (r + 1) (by omega) j hj, ih (r + 1) (by omega) r hrl, ← rc_at hw h1 r (r + 1) (Nat.le_refl _)]
    constructor
    · rintro ((h | ⟨i, h2, h3, h4, h5⟩) | ⟨h, h2⟩)
      · exact .inl h
      · exact .inr ⟨i, by omega, h3, h4, h5⟩
      · exact .inr ⟨r, Nat.le_refl _, hrl, h2, h⟩
    · rintro (h | ⟨i, h2, h3, h4, h5⟩)
      · exact .inl (.inl h)
      · by_cases e : i = r
        · subst e
          exact .inr ⟨h5, h4⟩
        · exact .inl (.inr ⟨i, by omega, h3, h4, h5⟩)
theorem flags_iff {g : List S57} (hw : jd.Wf g) (h1 : 1 ≤ g.length) (j : Nat) (hj : j < g.length) : (tr.flags g).getD j false = true ↔ Rc g (j : Int) := by
  rw [rc_at hw h1 j 0 (Nat.zero_le _)]
  exact flags_inv hw h1 g.length 0 (Nat.zero_add _) j hj
def Kq (p : Nat → Bool) (j : Nat) : List Nat := (List.range j).filter p
theorem Kq_succ (p : Nat → Bool) (j : Nat) : Kq p (j + 1) = if p j = true then Kq p j ++ [j] else Kq p j := by
  unfold Kq
  rw [List.range_succ, List.filter_append]
  by_cases h : p j = true
  · rw [if_pos h]
    simp [h]
  · rw [if_neg h]
    simp [h]
theorem Kq_mem (p : Nat → Bool) (j x : Nat) : x ∈ Kq p j ↔ x < j ∧ p x = true := by
  unfold Kq
  rw [List.mem_filter, List.mem_range]
theorem Kq_split (p : Nat → Bool) (k : Nat) (hk : p k = true) : ∀ n, k < n → ∃ B, Kq p n = Kq p k ++ k :: B
  | 0, h => absurd h (Nat.not_lt_zero _)
  | n + 1, h => by
    rw [Kq_succ]
    by_cases e : k = n
    · subst e
      rw [if_pos hk]
      exact ⟨[], rfl⟩
    · obtain ⟨B, hB⟩ := Kq_split p k hk n (by omega)
      rw [hB]
      by_cases hp : p n = true
      · rw [if_pos hp]
        exact ⟨B ++ [n], by rw [List.append_assoc]; rfl⟩
      · rw [if_neg hp]
        exact ⟨B, rfl⟩
theorem Kq_len (p : Nat → Bool) (n : Nat) : (Kq p n).length ≤ n := by
  unfold Kq
  exact Nat.le_trans (List.length_filter_le _ _) (by rw [List.length_range]; exact Nat.le_refl _)
def natI (i : Nat) : Int := (i : Int)
theorem Kq_up (p : Nat → Bool) (n : Nat) : ((Kq p n).map natI).Pairwise (· < ·) := by
  induction n with
  | zero => exact List.Pairwise.nil
  | succ n ih =>
    rw [Kq_succ]
    by_cases h : p n = true
    · rw [if_pos h, List.map_append]
      refine List.pairwise_append.2 ⟨ih, by simp, ?_⟩
      intro a ha b hb
      obtain ⟨x, hx, rfl⟩ := List.mem_map.1 ha
      have := (Kq_mem p n x).1 hx
      simp only [List.map_cons, List.map_nil, List.mem_singleton] at hb
      subst hb
      unfold natI
      omega
    · rw [if_neg h]
      exact ih
def pf (g : List S57) (i : Nat) : Bool := (tr.flags g).getD i false
theorem kept_eq {g : List S57} (hw : jd.Wf g) (h1 : 1 ≤ g.length) (F' : List Int) (h : ∀ x, x ∈ F' ↔ Rc g x) : F'.foldl (fun o x => ins x o) [] = (Kq (pf g) g.length).map natI := by
  refine up_ext _ _ (ins_fold_up F' [] List.Pairwise.nil) (Kq_up _ _) (fun x => ?_)
  rw [ins_fold_mem, h x]
  constructor
  · intro hx
    have hr := hx.elim (fun h => absurd h (by simp)) id
    have hrr := hr.range hw h1
    obtain ⟨m, hm⟩ := nat_of hrr.1
    rw [hm] at hr hrr
    exact List.mem_map.2 ⟨m, (Kq_mem _ _ _).2 ⟨by omega, (flags_iff hw h1 m (by omega)).2 hr⟩, hm.symm⟩
  · intro hx
    obtain ⟨m, hm, rfl⟩ := List.mem_map.1 hx
    obtain ⟨h2, h3⟩ := (Kq_mem _ _ _).1 hm
    exact .inr ((flags_iff hw h1 m h2).1 h3)
def rank (p : Nat → Bool) (j : Nat) : Nat := (Kq p j).length
def rk (g : List S57) (y : Int) : Int := (rank (pf g) y.toNat : Int)
theorem place_l (A B : List Int) (x : Int) (hA : ∀ y ∈ A, y ≠ x) (hl : (A ++ x :: B).length ≤ 1048576) : ∀ (d j : Nat), j + d = A.length → Ev (fun k => spec_gaPlace.l0 k x (A ++ x :: B) ((A ++ x :: B).length : Int) (j : Int)) (A.length : Int) := by
  have hlen : (A ++ x :: B).length = A.length + 1 + B.length := by rw [List.length_append, List.length_cons]; omega
  intro d
  induction d with
  | zero =>
    intro j hj
    obtain rfl : j = A.length := by omega
    have c1 : (A.length : Int) < ((A ++ x :: B).length : Int) := by omega
    have c2 : (0 : Int) ≤ (A.length : Int) := Int.natCast_nonneg _
    have e : rd (A ++ x :: B) (A.length : Int) = x := by simp [rd, List.getD_eq_getElem?_getD]
    refine Ev.step (fun k => ?_) (Ev.now _)
    simp only [spec_gaPlace.l0, if_pos c1, if_pos c2, e, if_true]
  | succ d ih =>
    intro j hj
    have hjl : j < A.length := by omega
    have c1 : (j : Int) < ((A ++ x :: B).length : Int) := by omega
    have c2 : (0 : Int) ≤ (j : Int) := Int.natCast_nonneg _
    have e : rd (A ++ x :: B) (j : Int) = A[j] := by simp [rd, List.getD_eq_getElem?_getD, List.getElem?_append_left hjl, List.getElem?_eq_getElem hjl]
    have hne := hA A[j] (List.getElem_mem hjl)
    have hw := wsucc j (by omega)
    refine Ev.step (fun k => ?_) (ih (j + 1) (by clear hw; omega))
    simp only [spec_gaPlace.l0, if_pos c1, if_pos c2, e, if_neg hne, hw]
theorem place_ev {g : List S57} (h40 : g.length ≤ 40) (k : Nat) (hk : k < g.length) (hp : pf g k = true) : Ev (fun q => spec_gaPlace.f q ((Kq (pf g) g.length).map natI) (k : Int)) (rk g (k : Int)) := by
  obtain ⟨B, hB⟩ := Kq_split (pf g) k hp g.length hk
  have hl := Kq_len (pf g) g.length
  have e : (Kq (pf g) g.length).map natI = (Kq (pf g) k).map natI ++ (k : Int) :: B.map natI := by rw [hB, List.map_append]; rfl
  have e2 : rk g (k : Int) = (((Kq (pf g) k).map natI).length : Int) := by unfold rk rank; rw [Int.toNat_natCast, List.length_map]
  rw [e2]
  have hl2 : ((Kq (pf g) k).map natI ++ (k : Int) :: B.map natI).length ≤ 1048576 := by rw [← e, List.length_map]; omega
  have := place_l ((Kq (pf g) k).map natI) (B.map natI) (k : Int) (fun y hy e => by
    obtain ⟨x, hx, rfl⟩ := List.mem_map.1 hy
    have := (Kq_mem _ _ _).1 hx
    unfold natI at e
    omega) hl2 _ 0 (Nat.zero_add _)
  rw [← e] at this
  exact this
theorem places_l (K : List Int) (f : Int → Int) (ys : List Int) (hy : ∀ y ∈ ys, Ev (fun k => spec_gaPlace.f k K y) (f y)) (hl : ys.length ≤ 1048576) : ∀ (d j : Nat), j + d = ys.length → Ev (fun k => spec_gaPlaces.l0 k K ((ys.take j).map f) ys (ys.length : Int) (j : Int)) (ys.map f) := by
  intro d
  induction d with
  | zero =>
    intro j hj
    obtain rfl : j = ys.length := by omega
    have c : ¬ (ys.length : Int) < (ys.length : Int) := by omega
    rw [List.take_length]
    refine Ev.step (fun k => ?_) (Ev.now _)
    simp only [spec_gaPlaces.l0, if_neg c]
  | succ d ih =>
    intro j hj
    have hjl : j < ys.length := by omega
    have c1 : (j : Int) < (ys.length : Int) := by omega
    have c2 : (0 : Int) ≤ (j : Int) := Int.natCast_nonneg _
    have c3 : ((ys.take j).map f).length < 17592186044416 := by rw [List.length_map, List.length_take]; omega
    have hw := wsucc j (by omega)
    have h2 := ih (j + 1) (by clear hw; omega)
    rw [List.take_succ_eq_append_getElem hjl, List.map_append] at h2
    have h3 := Ev.bind (hy ys[j] (List.getElem_mem hjl)) (f := fun k t => if ((ys.take j).map f).length < 17592186044416 then spec_gaPlaces.l0 k K ((ys.take j).map f ++ [t]) ys (ys.length : Int) ((j + 1 : Nat) : Int) else none) (by simp only [if_pos c3]; exact h2)
    refine Ev.step (fun k => ?_) h3
    simp only [spec_gaPlaces.l0, if_pos c1, if_pos c2, rd_nat ys j hjl, hw]
def nw (g : List S57) (x : Int) : S57 := ⟨(rd_T57 g x).f0.map (rk g), (rd_T57 g x).f1.map (rk g)⟩
theorem trim_l (g : List S57) (K : List Int) (hl : K.length ≤ 1000) (hK : ∀ x ∈ K, 0 ≤ x ∧ x < (g.length : Int) ∧ (∀ y ∈ ops g x, Ev (fun k => spec_gaPlace.f k K y) (rk g y)) ∧ (rd_T57 g x).f0.length ≤ 1048576 ∧ (rd_T57 g x).f1.length ≤ 1048576) : ∀ (d j : Nat), j + d = K.length → Ev (fun k => spec_gaTrim.l0 k g K ((K.take j).map (nw g)) K (K.length : Int) (j : Int)) (K.map (nw g)) := by
  intro d
  induction d with
  | zero =>
    intro j hj
    obtain rfl : j = K.length := by omega
    have c : ¬ (K.length : Int) < (K.length : Int) := by omega
    rw [List.take_length]
    refine Ev.step (fun k => ?_) (Ev.now _)
    simp only [spec_gaTrim.l0, if_neg c]
  | succ d ih =>
    intro j hj
    have hjl : j < K.length := by omega
    obtain ⟨a1, a2, a3, a4, a5⟩ := hK K[j] (List.getElem_mem hjl)
    have c1 : (j : Int) < (K.length : Int) := by omega
    have c2 : (0 : Int) ≤ (j : Int) := Int.natCast_nonneg _
    have c3 : ((K.take j).map (nw g)).length < 2932031007402 := by rw [List.length_map, List.length_take]; omega
    have hw := wsucc j (by omega)
    have h2 := ih (j + 1) (by clear hw; omega)
    rw [List.take_succ_eq_append_getElem hjl, List.map_append] at h2
    have p0 := places_l K (rk g) (rd_T57 g K[j]).f0 (fun y hy => a3 y (List.mem_append.2 (.inl hy))) a4 _ 0 (Nat.zero_add _)
    have p1 := places_l K (rk g) (rd_T57 g K[j]).f1 (fun y hy => a3 y (List.mem_append.2 (.inr hy))) a5 _ 0 (Nat.zero_add _)
    have h3 := Ev.bind (f := fun k t => (spec_gaPlaces.f k K (rd_T57 g K[j]).f1).bind fun u => if ((K.take j).map (nw g)).length < 2932031007402 then spec_gaTrim.l0 k g K ((K.take j).map (nw g) ++ [(⟨t, u⟩ : S57)]) K (K.length : Int) ((j + 1 : Nat) : Int) else none) (show Ev (fun k => spec_gaPlaces.f k K (rd_T57 g K[j]).f0) _ from p0) (Ev.bind (f := fun k u => if ((K.take j).map (nw g)).length < 2932031007402 then spec_gaTrim.l0 k g K ((K.take j).map (nw g) ++ [(⟨_, u⟩ : S57)]) K (K.length : Int) ((j + 1 : Nat) : Int) else none) (show Ev (fun k => spec_gaPlaces.f k K (rd_T57 g K[j]).f1) _ from p1) (by simp only [if_pos c3]; exact h2))
    refine Ev.step (fun k => ?_) h3
    simp only [spec_gaTrim.l0, if_pos c1, if_pos c2, rd_nat K j hjl, if_pos a1, if_pos a2, hw]
theorem go_inv {g : List S57} (hw : jd.Wf g) (h1 : 1 ≤ g.length) : ∀ j, j ≤ g.length → (tr.go g (tr.flags g) j).2 = (Kq (pf g) j).map (fun i => nw g (natI i)) ∧ ∀ i, i < j → pf g i = true → (tr.go g (tr.flags g) j).1.getD i 0 = (rank (pf g) i : Int)
  | 0, _ => ⟨rfl, fun i h => absurd h (Nat.not_lt_zero _)⟩
  | j + 1, hj => by
    obtain ⟨ih1, ih2⟩ := go_inv hw h1 j (by omega)
    obtain ⟨_, hpl⟩ := tr.go_len g (tr.flags g) j
    rw [tr.go_step, Kq_succ]
    generalize tr.go g (tr.flags g) j = s at ih1 ih2 hpl
    have hlen : s.2.length = rank (pf g) j := by rw [ih1, List.length_map]; rfl
    unfold tr.st
    by_cases hp : pf g j = true
    · rw [if_pos hp, if_pos (show (tr.flags g).getD j false = true from hp)]
      have hset : ∀ i, (s.1.set j (s.2.length : Int)).getD i 0 = if i = j then (s.2.length : Int) else s.1.getD i 0 := fun i => getD_set 0 s.1 j _ (by omega) i
      have hrc := (flags_iff hw h1 j (by omega)).1 hp
      have hnm : ∀ y ∈ ops g (j : Int), tr.name (s.1.set j (s.2.length : Int)) y = rk g y := by
        intro y hy
        have hy2 := ops_in hw j (by omega) hy
        obtain ⟨k, hk⟩ := nat_of hy2.1
        have hr := Rc.step hrc hy
        rw [hk] at hr hy2 ⊢
        have hpk : pf g k = true := (flags_iff hw h1 k (by omega)).2 hr
        unfold tr.name rk
        rw [Int.toNat_natCast, hset, if_neg (by omega), ih2 k (by omega) hpk]
      refine ⟨?_, fun i hi hpi => ?_⟩
      · rw [List.map_append, ← ih1]
        refine congrArg (fun z => s.2 ++ [z]) ?_
        show (⟨_, _⟩ : S57) = nw g (natI j)
        unfold nw natI
        rw [List.map_congr_left (fun y hy => hnm y (List.mem_append.2 (.inl hy))), List.map_congr_left (fun y hy => hnm y (List.mem_append.2 (.inr hy)))]
      · show (s.1.set j (s.2.length : Int)).getD i 0 = _
        rw [hset]
        by_cases e : i = j
        · subst e
          rw [if_pos rfl, hlen]
        · rw [if_neg e]
          exact ih2 i (by omega) hpi
    · rw [if_neg hp, if_neg (show ¬ (tr.flags g).getD j false = true from hp)]
      exact ⟨ih1, fun i hi hpi => by
        by_cases e : i = j
        · subst e
          exact absurd hpi hp
        · exact ih2 i (by omega) hpi⟩
theorem both (l : List S57) (hs : Small l) : ∃ r : List S57 × Bool, Ev (fun k => spec_TrimGame.f k l) r ∧ Ev (fun k => impl_TrimGame.f k l) r ∧ Small r.1 := by
  obtain ⟨b, e1, e2, hb⟩ := game_ev2 l hs
  unfold spec_TrimGame.f impl_TrimGame.f
  cases b with
  | false => exact ⟨([], false), Ev.bind e2 (Ev.now _), Ev.bind e1 (Ev.now _), by simp [Small]⟩
  | true =>
    have hg := hb rfl
    have hwB := wf_game hg hs
    have hw := jd.wf_of hwB
    have h1 : 1 ≤ l.length := hg.1
    obtain ⟨F', a, e⟩ := reach_out l hwB h1 l.length 0 [(l.length : Int) - 1] (by omega) (by simp) (by simp) (fun x hx => by rw [List.mem_singleton] at hx; rw [hx]; exact .top) (by simp) (by simp)
    rw [kept_eq hw h1 F' a] at e
    have hkl := Kq_len (pf l) l.length
    have h40 := hw.1
    have hK : ∀ x ∈ (Kq (pf l) l.length).map natI, 0 ≤ x ∧ x < (l.length : Int) ∧ (∀ y ∈ ops l x, Ev (fun k => spec_gaPlace.f k ((Kq (pf l) l.length).map natI) y) (rk l y)) ∧ (rd_T57 l x).f0.length ≤ 1048576 ∧ (rd_T57 l x).f1.length ≤ 1048576 := by
      intro x hx
      obtain ⟨m, hm, rfl⟩ := List.mem_map.1 hx
      obtain ⟨h2, h3⟩ := (Kq_mem _ _ _).1 hm
      have hsh := jd.short hwB m h2
      rw [← jd.at m h2] at hsh
      refine ⟨Int.natCast_nonneg _, by unfold natI; omega, fun y hy => ?_, hsh.1, hsh.2⟩
      have hy2 := ops_in hw m h2 hy
      obtain ⟨k, hk⟩ := nat_of hy2.1
      have hr := Rc.step ((flags_iff hw h1 m h2).1 h3) hy
      rw [hk] at hr hy2 ⊢
      exact place_ev h40 k (by omega) ((flags_iff hw h1 k (by omega)).2 hr)
    have t := trim_l l ((Kq (pf l) l.length).map natI) (by rw [List.length_map]; omega) hK _ 0 (Nat.zero_add _)
    have ho : tr.out l = ((Kq (pf l) l.length).map natI).map (nw l) := by
      unfold tr.out
      rw [(go_inv hw h1 l.length (Nat.le_refl _)).1, List.map_map]
      rfl
    have hwm : wrap64 ((l.length : Int) - 1) = (l.length : Int) - 1 := by unfold wrap64; omega
    refine ⟨(tr.out l, true), Ev.bind e2 ?_, Ev.bind e1 ?_, ?_, ?_⟩
    · simp only [if_true]
      refine Ev.bind (a := tr.out l) ?_ (Ev.now _)
      unfold spec_gaTrim.f spec_gaReached.f
      rw [hwm, ho]
      exact Ev.bind e t
    · simp only [if_true, if_pos (show jd.wfB l = true ∧ 0 < l.length from ⟨hwB, h1⟩)]
      exact Ev.now _
    · rw [ho, List.length_map, List.length_map]
      omega
    · intro y hy
      rw [ho] at hy
      obtain ⟨x, hx, rfl⟩ := List.mem_map.1 hy
      have := hK x hx
      unfold nw
      rw [List.length_map, List.length_map]
      exact ⟨this.2.2.2.1, this.2.2.2.2⟩

theorem proved : laws_FnExactTrimGame.Pure := by
  intro l h
  refine Ev.rounds ?_
  unfold laws_FnExactTrimGame.f
  obtain ⟨v, hv, hs⟩ := szPositionS_ev l ⟨h.1, fun y hy => ⟨(h.2 y hy).1.1, (h.2 y hy).2.1⟩⟩
  refine Ev.bind hv ?_
  by_cases hn : v < 0
  · simp only [if_pos hn]
    exact Ev.now _
  · simp only [if_neg hn]
    obtain ⟨h1, h2⟩ := hs.resolve_left hn
    have ht := toPositionS_ev l h1 h2
    have hsm := small_conv l h1 h2
    obtain ⟨r, s1, s2, s3⟩ := both (l.map conv) hsm
    obtain ⟨m0, l0', a1, _⟩ := posmarks hsm
    obtain ⟨m1, l1', b1, b2⟩ := posmarks s3
    refine Ev.bind ht (Ev.bind s1 (Ev.bind s2 (Ev.bind (eqPositionS_ev _ s3) (Ev.bind (eqPositionS_ev _ hsm) (Ev.bind a1 (Ev.bind b1 (Ev.bind b2 ?_)))))))
    refine Ev.congr (fun k => ?_) (Ev.now true)
    simp

end LFnExactTrimGame
theorem FnExactTrimGame : laws_FnExactTrimGame.Pure := LFnExactTrimGame.proved
end Go.Proofs.Ytpiafobcmhfclaa.Pure
