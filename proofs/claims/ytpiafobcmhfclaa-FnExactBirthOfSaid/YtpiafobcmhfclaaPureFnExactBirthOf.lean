/- For any list of positions and any number, the birth that the program tells is the reference's, and the list is left as it was. -/
import Derived.Test.YtpiafobcmhfclaaQFnExactBirthOfx5
namespace Go.Proofs.Ytpiafobcmhfclaa.Pure
open Go.RowKit Go.Proofs.Ytpiafobcmhfclaa.QFnExactBirthOf Go.Proofs.YtpiafobcmhfclaaW.PrintWords Go.Proofs.YtpiafobcmhfclaaW.PrintLast
set_option linter.unusedVariables false
set_option linter.unusedSimpArgs false
def laws_FnExactBirthOf.Pure : Prop := ∀ (l0 : List (S59)) (a1 : Int), (l0.length ≤ maxLen ∧ ∀ y0 ∈ l0, ((y0.f0.length ≤ maxLen ∧ ∀ y1 ∈ y0.f0, (Lit.int .i64 y1).wf = true) ∧ (y0.f1.length ≤ maxLen ∧ ∀ y1 ∈ y0.f1, (Lit.int .i64 y1).wf = true))) → (Lit.int .i64 a1).wf = true → ∃ k, laws_FnExactBirthOf.f k l0 a1 = some true
namespace LFnExactBirthOf
/-! ### small words -/
theorem wsucc (i : Nat) (h : i < 2 ^ 62) : wrap64 ((i : Int) + 1) = ((i + 1 : Nat) : Int) := by unfold wrap64; omega
theorem drop_rd {l : List Int} {i : Nat} (h : i < l.length) : l.drop i = rd l (i : Int) :: l.drop (i + 1) := by
  rw [List.drop_eq_getElem_cons h]
  simp [rd, List.getD_eq_getElem?_getD, List.getElem?_eq_getElem h]

/-! ### a copy of a list of numbers is that list -/
theorem toIntS_l (x : List Int) (hx : x.length ≤ 2 ^ 60) : ∀ (d k i : Nat) (y : List Int), i + d = x.length → y.length = x.length → (∀ j, j < i → y[j]? = x[j]?) → d < k → laws_toIntS.l0 k x y i = some x := by
  intro d
  induction d with
  | zero =>
    intro k i y hi hy hj hk
    obtain ⟨k, rfl⟩ : ∃ m, k = m + 1 := ⟨k - 1, by omega⟩
    simp only [laws_toIntS.l0]
    rw [if_neg (by omega)]
    congr 1
    apply List.ext_getElem? 
    intro j
    by_cases h : j < i
    · exact hj j h
    · rw [List.getElem?_eq_none (by omega), List.getElem?_eq_none (by omega)]
  | succ d ih =>
    intro k i y hi hy hj hk
    obtain ⟨k, rfl⟩ : ∃ m, k = m + 1 := ⟨k - 1, by omega⟩
    have h1 : (i : Int) < (x.length : Int) := by omega
    have h2 : (0 : Int) ≤ (i : Int) := Int.natCast_nonneg _
    have h3 : (i : Int) < (y.length : Int) := by omega
    have h4 : i < x.length := by omega
    simp only [laws_toIntS.l0]
    rw [if_pos h1, if_pos h2, if_pos h3, wsucc i (by omega)]
    refine ih k (i + 1) _ (by omega) (by simpa using hy) ?_ (by omega)
    intro j hlt
    rw [Int.toNat_natCast, List.getElem?_set]
    by_cases e : i = j
    · subst e
      rw [if_pos rfl, if_pos (by omega)]
      simp [rd, List.getD_eq_getElem?_getD, List.getElem?_eq_getElem h4]
    · rw [if_neg e]
      exact hj j (by omega)
theorem toIntS (x : List Int) (hx : x.length ≤ 17592186044416) (k : Nat) (hk : x.length < k) : laws_toIntS.f k x = some x := by
  unfold laws_toIntS.f
  rw [if_pos (Int.natCast_nonneg _), if_pos (by rw [Int.toNat_natCast]; omega), Int.toNat_natCast]
  exact toIntS_l x (by omega) x.length k 0 _ (by omega) (by simp) (fun j h => by omega) hk

/-! ### a list of numbers equals itself -/
theorem eqIntS_l (x : List Int) (hx : x.length ≤ 2 ^ 60) : ∀ (d k i : Nat), i + d = x.length → d < k → laws_eqIntS.l0 k x x i = some true := by
  intro d
  induction d with
  | zero =>
    intro k i hi hk
    obtain ⟨k, rfl⟩ : ∃ m, k = m + 1 := ⟨k - 1, by omega⟩
    simp only [laws_eqIntS.l0]
    rw [if_neg (by omega)]
  | succ d ih =>
    intro k i hi hk
    obtain ⟨k, rfl⟩ : ∃ m, k = m + 1 := ⟨k - 1, by omega⟩
    have h1 : (i : Int) < (x.length : Int) := by omega
    have h2 : (0 : Int) ≤ (i : Int) := Int.natCast_nonneg _
    simp only [laws_eqIntS.l0, if_pos h1, if_pos h2, if_true]
    rw [wsucc i (by omega)]
    exact ih k (i + 1) (by omega) (by omega)
theorem eqIntS (x : List Int) (hx : x.length ≤ 17592186044416) (k : Nat) (hk : x.length < k) : laws_eqIntS.f k x x = some true := by
  unfold laws_eqIntS.f
  rw [if_pos rfl]
  exact eqIntS_l x (by omega) x.length k 0 (by omega) hk

/-! ### lists of numbers: the size asked, a copy, the same -/
theorem szIntS (l : List Int) (h : l.length ≤ maxLen) : laws_szIntS.f l 1048576 = some (if l.length > 1048576 then -1 else 1048576 - (l.length : Int)) := by
  unfold maxLen at h
  have hw : wrap64 (1048576 - (l.length : Int)) = 1048576 - (l.length : Int) := by unfold wrap64; omega
  unfold laws_szIntS.f
  rw [hw]
  clear hw
  by_cases g : l.length > 1048576
  · rw [if_pos (by omega), if_pos g]
  · rw [if_neg (by omega), if_neg g]
theorem toIntS_ev (x : List Int) (hx : x.length ≤ 17592186044416) : Ev (fun k => laws_toIntS.f k x) x := ⟨x.length + 1, fun k hk => toIntS x hx k (by omega)⟩
theorem eqIntS_ev (x : List Int) (hx : x.length ≤ 17592186044416) : Ev (fun k => laws_eqIntS.f k x x) true := ⟨x.length + 1, fun k hk => eqIntS x hx k (by omega)⟩

theorem szIntS' (l : List Int) (left : Nat) (h : l.length ≤ maxLen) (hl : left ≤ 1048576) : laws_szIntS.f l (left : Int) = some (if l.length > left then -1 else ((left - l.length : Nat) : Int)) := by
  unfold maxLen at h
  have hw : wrap64 ((left : Int) - (l.length : Int)) = (left : Int) - (l.length : Int) := by unfold wrap64; omega
  unfold laws_szIntS.f
  rw [hw]
  clear hw
  by_cases g : l.length > left
  · rw [if_pos (by omega), if_pos g]
  · rw [if_neg (by omega), if_neg g]
    congr 1
    omega

/-! ### lists of positions: their size, a copy, the same -/
theorem rdL (xs : List S59) (i : Nat) (h : i < xs.length) : rd_T59 xs (i : Int) = xs[i] := by
  simp [rd_T59, List.getD_eq_getElem?_getD, List.getElem?_eq_getElem h]
theorem rdI (xs : List S57) (i : Nat) (h : i < xs.length) : rd_T57 xs (i : Int) = xs[i] := by
  simp [rd_T57, List.getD_eq_getElem?_getD, List.getElem?_eq_getElem h]
theorem szPosition' (a b : List Int) (left : Nat) (ha : a.length ≤ maxLen) (hb : b.length ≤ maxLen) (hl : left ≤ 1048576) :
    ∃ v : Int, laws_szPosition.f a b (left : Int) = some v ∧ (v < 0 ∨ (a.length ≤ 1048576 ∧ b.length ≤ 1048576 ∧ ∃ n : Nat, v = (n : Int) ∧ n ≤ left)) := by
  unfold laws_szPosition.f
  rw [szIntS' a left ha hl]
  simp only [Option.bind_some]
  by_cases g : a.length > left
  · rw [if_pos g]
    exact ⟨-1, rfl, .inl (by omega)⟩
  · rw [if_neg g, if_neg (by omega), szIntS' b _ hb (by omega)]
    simp only [Option.bind_some]
    by_cases g2 : b.length > left - a.length
    · rw [if_pos g2]
      exact ⟨-1, rfl, .inl (by omega)⟩
    · rw [if_neg g2, if_neg (by omega)]
      exact ⟨_, rfl, .inr ⟨by omega, by omega, _, rfl, by omega⟩⟩
theorem szPositionS_l (l : List S59) (hl : l.length ≤ 1048576) (h : ∀ y ∈ l, y.f0.length ≤ maxLen ∧ y.f1.length ≤ maxLen) : ∀ (d i left : Nat), i + d = l.length → left ≤ 1048576 →
    ∃ v : Int, Ev (fun k => laws_szPositionS.l0 k l (left : Int) (i : Int)) v ∧ (v < 0 ∨ ∀ j : Nat, i ≤ j → ∀ hj : j < l.length, (l[j].f0.length ≤ 1048576 ∧ l[j].f1.length ≤ 1048576)) := by
  intro d
  induction d with
  | zero =>
    intro i left hi hf
    have c : ¬ (i : Int) < (l.length : Int) := by omega
    refine ⟨(left : Int), Ev.step (fun k => ?_) (Ev.now _), .inr fun j h1 h2 => by omega⟩
    simp only [laws_szPositionS.l0, if_neg c]
  | succ d ih =>
    intro i left hi hf
    have g1 : (i : Int) < (l.length : Int) := by omega
    have g2 : (0 : Int) ≤ (i : Int) := Int.natCast_nonneg _
    have hil : i < l.length := by omega
    have hb := h l[i] (List.getElem_mem hil)
    obtain ⟨v, h1, h2⟩ := szPosition' l[i].f0 l[i].f1 left hb.1 hb.2 hf
    rcases h2 with h2 | ⟨a1, a2, n, rfl, hn⟩
    · refine ⟨-1, Ev.step (fun k => ?_) (Ev.now _), .inl (by omega)⟩
      simp only [laws_szPositionS.l0, if_pos g1, if_pos g2, rdL l i hil, h1, Option.bind_some, if_pos h2]
    · obtain ⟨v, e1, e2⟩ := ih (i + 1) n (by omega) (by omega)
      have c : ¬ (n : Int) < 0 := by omega
      refine ⟨v, Ev.step (fun k => ?_) e1, ?_⟩
      · simp only [laws_szPositionS.l0, if_pos g1, if_pos g2, rdL l i hil, h1, Option.bind_some, if_neg c]
        rw [wsucc i (by omega)]
      · rcases e2 with e2 | e2
        · exact .inl e2
        · refine .inr fun j hj hjl => ?_
          by_cases e : j = i
          · subst e; exact ⟨a1, a2⟩
          · exact e2 j (by omega) hjl
theorem szPositionS_ev (l : List S59) (h : l.length ≤ maxLen ∧ ∀ y ∈ l, y.f0.length ≤ maxLen ∧ y.f1.length ≤ maxLen) :
    ∃ v : Int, Ev (fun k => laws_szPositionS.f k l 1048576) v ∧ (v < 0 ∨ (l.length ≤ 1048576 ∧ ∀ y ∈ l, y.f0.length ≤ 1048576 ∧ y.f1.length ≤ 1048576)) := by
  have hm : l.length ≤ 9223372036854775807 := h.1
  have hw : wrap64 (1048576 - (l.length : Int)) = 1048576 - (l.length : Int) := by unfold wrap64; omega
  unfold laws_szPositionS.f
  simp only [hw]
  clear hw
  by_cases g : l.length > 1048576
  · refine ⟨-1, ?_, .inl (by omega)⟩
    simp only [show (1048576 - (l.length : Int)) < 0 from by omega, if_true]
    exact Ev.now _
  · obtain ⟨v, e1, e2⟩ := szPositionS_l l (by omega) h.2 l.length 0 (1048576 - l.length) (by omega) (by omega)
    have e : ((1048576 - l.length : Nat) : Int) = 1048576 - (l.length : Int) := by omega
    rw [e] at e1
    refine ⟨v, ?_, ?_⟩
    · simp only [show ¬ (1048576 - (l.length : Int)) < 0 from by omega, if_false]
      exact e1
    · rcases e2 with e2 | e2
      · exact .inl e2
      · refine .inr ⟨by omega, fun y hy => ?_⟩
        obtain ⟨j, hj, rfl⟩ := List.mem_iff_getElem.1 hy
        exact e2 j (by omega) hj
/-- A position of the program for a position of the law. -/
def conv (p : S59) : S57 := ⟨p.f0, p.f1⟩
theorem toPosition_ev (a b : List Int) (ha : a.length ≤ 1048576) (hb : b.length ≤ 1048576) : Ev (fun k => laws_toPosition.f k a b) (a, b) := by
  unfold laws_toPosition.f
  exact Ev.bind (toIntS_ev a (by omega)) (Ev.bind (toIntS_ev b (by omega)) (Ev.now _))
theorem toPositionS_l (l : List S59) (hl : l.length ≤ 1048576) (h : ∀ y ∈ l, y.f0.length ≤ 1048576 ∧ y.f1.length ≤ 1048576) : ∀ (d i : Nat) (ys : List S57), i + d = l.length → ys.length = l.length → (∀ j, j < i → ys[j]? = (l.map conv)[j]?) →
    Ev (fun k => laws_toPositionS.l0 k l ys (i : Int)) (l.map conv) := by
  intro d
  induction d with
  | zero =>
    intro i ys hi hy hj
    have c : ¬ (i : Int) < (l.length : Int) := by omega
    have : ys = l.map conv := by
      apply List.ext_getElem?
      intro j
      by_cases g : j < i
      · exact hj j g
      · rw [List.getElem?_eq_none (by omega), List.getElem?_eq_none (by rw [List.length_map]; omega)]
    subst this
    refine Ev.step (fun k => ?_) (Ev.now _)
    simp only [laws_toPositionS.l0, if_neg c]
  | succ d ih =>
    intro i ys hi hy hj
    have g1 : (i : Int) < (l.length : Int) := by omega
    have g1' : (i : Int) < (ys.length : Int) := by omega
    have g2 : (0 : Int) ≤ (i : Int) := Int.natCast_nonneg _
    have hil : i < l.length := by omega
    have hb := h l[i] (List.getElem_mem hil)
    refine Ev.step (f := ?f) (fun k => ?e) ?v
    case e => conv => lhs; simp only [laws_toPositionS.l0, if_pos g1, if_pos g2, rdL l i hil]
    case v =>
      refine Ev.bind (toPosition_ev _ _ hb.1 hb.2) ?_
      simp only [if_pos g1']
      rw [wsucc i (by omega), Int.toNat_natCast]
      refine ih (i + 1) _ (by omega) (by rw [List.length_set]; exact hy) (fun j hjl => ?_)
      rw [List.getElem?_set]
      by_cases e : i = j
      · subst e
        rw [if_pos rfl, if_pos (by omega), List.getElem?_map, List.getElem?_eq_getElem hil]
        rfl
      · rw [if_neg e]
        exact hj j (by omega)
theorem toPositionS_ev (l : List S59) (hl : l.length ≤ 1048576) (h : ∀ y ∈ l, y.f0.length ≤ 1048576 ∧ y.f1.length ≤ 1048576) : Ev (fun k => laws_toPositionS.f k l) (l.map conv) := by
  unfold laws_toPositionS.f
  simp only [if_pos (Int.natCast_nonneg l.length), Int.toNat_natCast, show l.length ≤ 5864062014805 from by omega, if_true]
  exact toPositionS_l l hl h l.length 0 _ (by omega) (by simp) (fun j hj => by omega)
/-- What the copies are like. -/
def Small (l : List S57) : Prop := l.length ≤ 1048576 ∧ ∀ y ∈ l, y.f0.length ≤ 1048576 ∧ y.f1.length ≤ 1048576
theorem small_conv (l : List S59) (hl : l.length ≤ 1048576) (h : ∀ y ∈ l, y.f0.length ≤ 1048576 ∧ y.f1.length ≤ 1048576) : Small (l.map conv) := by
  refine ⟨by rw [List.length_map]; exact hl, fun y hy => ?_⟩
  obtain ⟨x, hx, rfl⟩ := List.mem_map.1 hy
  exact h x hx
theorem eqPosition_ev (a b : List Int) (ha : a.length ≤ 1048576) (hb : b.length ≤ 1048576) : Ev (fun k => laws_eqPosition.f k a b a b) true := by
  unfold laws_eqPosition.f
  refine Ev.bind (eqIntS_ev a (by omega)) ?_
  simp only [if_true]
  exact Ev.bind (eqIntS_ev b (by omega)) (Ev.now _)
theorem eqPositionS_l (l : List S57) (h : Small l) : ∀ (d i : Nat), i + d = l.length → Ev (fun k => laws_eqPositionS.l0 k l l (i : Int)) true := by
  have hl := h.1
  intro d
  induction d with
  | zero =>
    intro i hi
    have c : ¬ (i : Int) < (l.length : Int) := by omega
    refine Ev.step (fun k => ?_) (Ev.now _)
    simp only [laws_eqPositionS.l0, if_neg c]
  | succ d ih =>
    intro i hi
    have g1 : (i : Int) < (l.length : Int) := by omega
    have g2 : (0 : Int) ≤ (i : Int) := Int.natCast_nonneg _
    have hil : i < l.length := by omega
    have hb := h.2 l[i] (List.getElem_mem hil)
    refine Ev.step (f := ?f) (fun k => ?e) ?v
    case e => conv => lhs; simp only [laws_eqPositionS.l0, if_pos g1, if_pos g2, rdI l i hil]
    case v =>
      refine Ev.bind (eqPosition_ev _ _ hb.1 hb.2) ?_
      simp only [if_true]
      rw [wsucc i (by omega)]
      exact ih (i + 1) (by omega)
theorem eqPositionS_ev (l : List S57) (h : Small l) : Ev (fun k => laws_eqPositionS.f k l l) true := by
  unfold laws_eqPositionS.f
  simp only [if_true]
  exact eqPositionS_l l h l.length 0 (by omega)

/-! ### what is a game, on both sides -/
theorem in_eq (e a b : Int) : spec_l1In.f e a b = impl_in.f e a b := rfl
theorem in_some (e a b : Int) : impl_in.f e a b = some (decide (a ≤ e ∧ e ≤ b)) := by
  unfold impl_in.f
  by_cases h : e ≥ a
  · rw [if_pos h]; congr 1; simp; omega
  · rw [if_neg h]; congr 1; simp; omega
theorem rising_same (x z : List Int) (i n : Int) : ∀ (k : Nat) (j : Int), spec_l1Rising.l0 k x 0 (wrap64 (i - 1)) z n j = impl_risingBelow.l0 k x i z n j
  | 0, _ => rfl
  | k + 1, j => by simp only [spec_l1Rising.l0, impl_risingBelow.l0, in_eq, rising_same x z i n k]
theorem rising_l (x : List Int) (n : Int) (hx : x.length ≤ 1048576) : ∀ (d j : Nat), j + d = x.length → ∃ b : Bool, Ev (fun k => impl_risingBelow.l0 k x n x (x.length : Int) (j : Int)) b := by
  intro d
  induction d with
  | zero =>
    intro j hj
    have c : ¬ (j : Int) < (x.length : Int) := by omega
    refine ⟨true, Ev.step (fun k => ?_) (Ev.now _)⟩
    simp only [impl_risingBelow.l0, if_neg c]
  | succ d ih =>
    intro j hj
    have g1 : (j : Int) < (x.length : Int) := by omega
    have g2 : (0 : Int) ≤ (j : Int) := Int.natCast_nonneg _
    obtain ⟨b, hb⟩ := ih (j + 1) (by omega)
    have hs : wrap64 ((j : Int) + 1) = ((j + 1 : Nat) : Int) := wsucc j (by omega)
    by_cases h : 0 ≤ rd x (j : Int) ∧ rd x (j : Int) ≤ wrap64 (n - 1)
    · by_cases h0 : (j : Int) > 0
      · have hp : wrap64 ((j : Int) - 1) = ((j - 1 : Nat) : Int) := by clear hs h; unfold wrap64; omega
        have g3 : (0 : Int) ≤ ((j - 1 : Nat) : Int) := Int.natCast_nonneg _
        have g4 : ((j - 1 : Nat) : Int) < (x.length : Int) := by clear hs h hp; omega
        by_cases h5 : rd x ((j - 1 : Nat) : Int) ≥ rd x (j : Int)
        · refine ⟨false, Ev.step (fun k => ?_) (Ev.now _)⟩
          simp only [impl_risingBelow.l0, if_pos g1, if_pos g2, in_some, h, and_self, decide_true, Option.bind_some, if_true, if_pos h0, hp, if_pos g3, if_pos g4, if_pos h5]
        · refine ⟨b, Ev.step (fun k => ?_) hb⟩
          simp only [impl_risingBelow.l0, if_pos g1, if_pos g2, in_some, h, and_self, decide_true, Option.bind_some, if_true, if_pos h0, hp, if_pos g3, if_pos g4, if_neg h5, hs]
      · refine ⟨b, Ev.step (fun k => ?_) hb⟩
        simp only [impl_risingBelow.l0, if_pos g1, if_pos g2, in_some, h, and_self, decide_true, Option.bind_some, if_true, if_neg h0, hs]
    · refine ⟨false, Ev.step (fun k => ?_) (Ev.now _)⟩
      simp only [impl_risingBelow.l0, if_pos g1, if_pos g2, in_some, h, decide_false, Option.bind_some, Bool.false_eq_true, if_false]
theorem rising_ev (x : List Int) (n : Int) (hx : x.length ≤ 1048576) : ∃ b : Bool, Ev (fun k => impl_risingBelow.f k x n) b := rising_l x n hx x.length 0 (by omega)
theorem game_same (x z : List S57) (n : Int) : ∀ (k : Nat) (j : Int), spec_gaGood.l0 k x z n j = impl_IsGame.l0 k x z n j
  | 0, _ => rfl
  | k + 1, j => by
    simp only [spec_gaGood.l0, impl_IsGame.l0, in_eq, spec_l1Rising.f, impl_risingBelow.f, rising_same, game_same x z n k]
theorem game_l (l : List S57) (h : Small l) : ∀ (d i : Nat), i + d = l.length → ∃ b : Bool, Ev (fun k => impl_IsGame.l0 k l l (l.length : Int) (i : Int)) b := by
  have hl := h.1
  intro d
  induction d with
  | zero =>
    intro i hi
    have c : ¬ (i : Int) < (l.length : Int) := by omega
    refine ⟨decide (1 ≤ (l.length : Int) ∧ (l.length : Int) ≤ 40), Ev.step (fun k => ?_) (Ev.now _)⟩
    simp only [impl_IsGame.l0, if_neg c, in_some, Option.bind_some]
  | succ d ih =>
    intro i hi
    have g1 : (i : Int) < (l.length : Int) := by omega
    have g2 : (0 : Int) ≤ (i : Int) := Int.natCast_nonneg _
    have hil : i < l.length := by omega
    have hb := h.2 l[i] (List.getElem_mem hil)
    obtain ⟨b, e⟩ := ih (i + 1) (by omega)
    obtain ⟨b1, e1⟩ := rising_ev l[i].f0 (i : Int) hb.1
    obtain ⟨b2, e2⟩ := rising_ev l[i].f1 (i : Int) hb.2
    have hs : wrap64 ((i : Int) + 1) = ((i + 1 : Nat) : Int) := wsucc i (by omega)
    have key : ∃ c : Bool, Ev (fun k => (impl_risingBelow.f k l[i].f0 (i : Int)).bind fun t => if t = true then ((impl_risingBelow.f k l[i].f1 (i : Int)).bind fun u => if u = true then impl_IsGame.l0 k l l (l.length : Int) ((i + 1 : Nat) : Int) else some false) else some false) c := by
      cases b1 with
      | false => exact ⟨false, Ev.bind e1 (Ev.now _)⟩
      | true =>
        cases b2 with
        | false => exact ⟨false, Ev.bind e1 (Ev.bind e2 (Ev.now _))⟩
        | true => exact ⟨b, Ev.bind e1 (Ev.bind e2 e)⟩
    obtain ⟨c, hc⟩ := key
    refine ⟨c, Ev.step (fun k => ?_) hc⟩
    simp only [impl_IsGame.l0, if_pos g1, if_pos g2, rdI l i hil, hs]
theorem game_ev (l : List S57) (h : Small l) : ∃ b : Bool, Ev (fun k => impl_IsGame.f k l) b ∧ Ev (fun k => spec_gaGood.f k l) b := by
  obtain ⟨b, hb⟩ := game_l l h l.length 0 (by omega)
  exact ⟨b, hb, Ev.congr (fun k => game_same l l _ k _) hb⟩

/-! ### what a game's positions are like -/
theorem rd_nat (x : List Int) (i : Nat) (h : i < x.length) : rd x (i : Int) = x[i] := by
  simp [rd, List.getD_eq_getElem?_getD, List.getElem?_eq_getElem h]
theorem rising_t (x : List Int) (n : Int) (hx : x.length ≤ 1048576) (hn : 0 ≤ n ∧ n ≤ 1048576) : ∀ (d j : Nat), j + d = x.length → ∃ b : Bool, Ev (fun k => impl_risingBelow.l0 k x n x (x.length : Int) (j : Int)) b ∧ (b = true → ∀ i : Nat, j ≤ i → (h : i < x.length) → 0 ≤ x[i] ∧ x[i] < n ∧ (0 < i → rd x ((i - 1 : Nat) : Int) < x[i])) := by
  intro d
  induction d with
  | zero =>
    intro j hj
    have c : ¬ (j : Int) < (x.length : Int) := by omega
    refine ⟨true, Ev.step (fun k => ?_) (Ev.now _), fun _ i h1 h2 => by omega⟩
    simp only [impl_risingBelow.l0, if_neg c]
  | succ d ih =>
    intro j hj
    have g1 : (j : Int) < (x.length : Int) := by omega
    have g2 : (0 : Int) ≤ (j : Int) := Int.natCast_nonneg _
    have hjl : j < x.length := by omega
    obtain ⟨b, hb, hq⟩ := ih (j + 1) (by omega)
    have hs : wrap64 ((j : Int) + 1) = ((j + 1 : Nat) : Int) := wsucc j (by omega)
    have hw : wrap64 (n - 1) = n - 1 := by clear hs; unfold wrap64; omega
    by_cases h : 0 ≤ rd x (j : Int) ∧ rd x (j : Int) ≤ wrap64 (n - 1)
    · have h' := h
      rw [hw, rd_nat x j hjl] at h'
      clear hw
      by_cases h0 : (j : Int) > 0
      · have hp : wrap64 ((j : Int) - 1) = ((j - 1 : Nat) : Int) := by clear hs h; unfold wrap64; omega
        have g3 : (0 : Int) ≤ ((j - 1 : Nat) : Int) := Int.natCast_nonneg _
        have g4 : ((j - 1 : Nat) : Int) < (x.length : Int) := by clear hs h hp; omega
        by_cases h5 : rd x ((j - 1 : Nat) : Int) ≥ rd x (j : Int)
        · refine ⟨false, Ev.step (fun k => ?_) (Ev.now _), fun e => by cases e⟩
          simp only [impl_risingBelow.l0, if_pos g1, if_pos g2, in_some, h, and_self, decide_true, Option.bind_some, if_true, if_pos h0, hp, if_pos g3, if_pos g4, if_pos h5]
        · refine ⟨b, Ev.step (fun k => ?_) hb, fun e i h1 h2 => ?_⟩
          · simp only [impl_risingBelow.l0, if_pos g1, if_pos g2, in_some, h, and_self, decide_true, Option.bind_some, if_true, if_pos h0, hp, if_pos g3, if_pos g4, if_neg h5, hs]
          · by_cases e2 : i = j
            · subst e2
              rw [rd_nat x i hjl] at h5
              clear hs h hp
              exact ⟨h'.1, by omega, fun _ => by omega⟩
            · exact hq e i (by omega) h2
      · refine ⟨b, Ev.step (fun k => ?_) hb, fun e i h1 h2 => ?_⟩
        · simp only [impl_risingBelow.l0, if_pos g1, if_pos g2, in_some, h, and_self, decide_true, Option.bind_some, if_true, if_neg h0, hs]
        · by_cases e2 : i = j
          · subst e2
            clear hs h
            exact ⟨h'.1, by omega, fun _ => by omega⟩
          · exact hq e i (by omega) h2
    · refine ⟨false, Ev.step (fun k => ?_) (Ev.now _), fun e => by cases e⟩
      simp only [impl_risingBelow.l0, if_pos g1, if_pos g2, in_some, h, decide_false, Option.bind_some, Bool.false_eq_true, if_false]
def Rise (x : List Int) (n : Int) : Prop := (∀ y ∈ x, 0 ≤ y ∧ y < n) ∧ x.Pairwise (· < ·)
theorem rise_of {x : List Int} {n : Int} (h : ∀ i : Nat, 0 ≤ i → (h : i < x.length) → 0 ≤ x[i] ∧ x[i] < n ∧ (0 < i → rd x ((i - 1 : Nat) : Int) < x[i])) : Rise x n := by
  refine ⟨fun y hy => ?_, ?_⟩
  · obtain ⟨i, hi, rfl⟩ := List.mem_iff_getElem.1 hy
    exact ⟨(h i (by omega) hi).1, (h i (by omega) hi).2.1⟩
  · rw [List.pairwise_iff_getElem]
    intro i j hi hj hij
    induction j with
    | zero => omega
    | succ j ih =>
      have h1 := (h (j + 1) (by omega) hj).2.2 (by omega)
      rw [show j + 1 - 1 = j from rfl, rd_nat x j (by omega)] at h1
      by_cases e : i = j
      · subst e; exact h1
      · have := ih (by omega) (by omega)
        omega
theorem rising_ev2 (x : List Int) (n : Int) (hx : x.length ≤ 1048576) (hn : 0 ≤ n ∧ n ≤ 1048576) : ∃ b : Bool, Ev (fun k => impl_risingBelow.f k x n) b ∧ (b = true → Rise x n) := by
  obtain ⟨b, h1, h2⟩ := rising_t x n hx hn x.length 0 (by omega)
  exact ⟨b, h1, fun e => rise_of (h2 e)⟩
/-- A game: from 1 to 40 positions, whose options rise and come before them. -/
def Gm (l : List S57) : Prop := 1 ≤ l.length ∧ l.length ≤ 40 ∧ ∀ i : Nat, (h : i < l.length) → Rise l[i].f0 (i : Int) ∧ Rise l[i].f1 (i : Int)
theorem game_t (l : List S57) (h : Small l) : ∀ (d i : Nat), i + d = l.length → ∃ b : Bool, Ev (fun k => impl_IsGame.l0 k l l (l.length : Int) (i : Int)) b ∧ (b = true → 1 ≤ l.length ∧ l.length ≤ 40 ∧ ∀ j : Nat, i ≤ j → (hj : j < l.length) → Rise l[j].f0 (j : Int) ∧ Rise l[j].f1 (j : Int)) := by
  have hl := h.1
  intro d
  induction d with
  | zero =>
    intro i hi
    have c : ¬ (i : Int) < (l.length : Int) := by omega
    refine ⟨decide (1 ≤ (l.length : Int) ∧ (l.length : Int) ≤ 40), Ev.step (fun k => ?_) (Ev.now _), fun e => ?_⟩
    · simp only [impl_IsGame.l0, if_neg c, in_some, Option.bind_some]
    · have := of_decide_eq_true e
      exact ⟨by omega, by omega, fun j h1 h2 => by omega⟩
  | succ d ih =>
    intro i hi
    have g1 : (i : Int) < (l.length : Int) := by omega
    have g2 : (0 : Int) ≤ (i : Int) := Int.natCast_nonneg _
    have hil : i < l.length := by omega
    have hb := h.2 l[i] (List.getElem_mem hil)
    obtain ⟨b, e, q⟩ := ih (i + 1) (by omega)
    obtain ⟨b1, e1, q1⟩ := rising_ev2 l[i].f0 (i : Int) hb.1 (by omega)
    obtain ⟨b2, e2, q2⟩ := rising_ev2 l[i].f1 (i : Int) hb.2 (by omega)
    have hs : wrap64 ((i : Int) + 1) = ((i + 1 : Nat) : Int) := wsucc i (by omega)
    have key : ∃ c : Bool, Ev (fun k => (impl_risingBelow.f k l[i].f0 (i : Int)).bind fun t => if t = true then ((impl_risingBelow.f k l[i].f1 (i : Int)).bind fun u => if u = true then impl_IsGame.l0 k l l (l.length : Int) ((i + 1 : Nat) : Int) else some false) else some false) c ∧ (c = true → 1 ≤ l.length ∧ l.length ≤ 40 ∧ ∀ j : Nat, i ≤ j → (hj : j < l.length) → Rise l[j].f0 (j : Int) ∧ Rise l[j].f1 (j : Int)) := by
      clear hs
      cases b1 with
      | false => exact ⟨false, Ev.bind e1 (Ev.now _), fun e => by cases e⟩
      | true =>
        cases b2 with
        | false => exact ⟨false, Ev.bind e1 (Ev.bind e2 (Ev.now _)), fun e => by cases e⟩
        | true =>
          refine ⟨b, Ev.bind e1 (Ev.bind e2 e), fun eb => ?_⟩
          obtain ⟨r1, r2, r3⟩ := q eb
          refine ⟨r1, r2, fun j hj hjl => ?_⟩
          by_cases e3 : j = i
          · subst e3
            exact ⟨q1 rfl, q2 rfl⟩
          · exact r3 j (by omega) hjl
    obtain ⟨c, hc, hq⟩ := key
    refine ⟨c, Ev.step (fun k => ?_) hc, hq⟩
    simp only [impl_IsGame.l0, if_pos g1, if_pos g2, rdI l i hil, hs]
theorem game_ev2 (l : List S57) (h : Small l) : ∃ b : Bool, Ev (fun k => impl_IsGame.f k l) b ∧ Ev (fun k => spec_gaGood.f k l) b ∧ (b = true → Gm l) := by
  obtain ⟨b, hb, hq⟩ := game_t l h l.length 0 (by omega)
  refine ⟨b, hb, Ev.congr (fun k => game_same l l _ k _) hb, fun e => ?_⟩
  obtain ⟨h1, h2, h3⟩ := hq e
  exact ⟨h1, h2, fun i hi => h3 i (by omega) hi⟩

theorem has_ev (l : List S57) (h : Small l) (a : Int) : ∃ b : Bool, Ev (fun k => impl_hasPosition.f k l a) b ∧ Ev (fun k => spec_gaHas.f k l a) b ∧ (b = true → Gm l ∧ 0 ≤ a ∧ a < (l.length : Int)) := by
  obtain ⟨b, e1, e2, q⟩ := game_ev2 l h
  have hl := h.1
  cases b with
  | false =>
    refine ⟨false, ?_, ?_, fun e => by cases e⟩
    · unfold impl_hasPosition.f
      exact Ev.bind e1 (Ev.now _)
    · unfold spec_gaHas.f
      exact Ev.bind e2 (Ev.now _)
  | true =>
    have hw : wrap64 ((l.length : Int) - 1) = (l.length : Int) - 1 := by unfold wrap64; omega
    refine ⟨decide (0 ≤ a ∧ a ≤ (l.length : Int) - 1), ?_, ?_, fun e => ⟨q rfl, ?_⟩⟩
    · unfold impl_hasPosition.f
      refine Ev.bind e1 ?_
      simp only [if_true, in_some, hw, Option.bind_some]
      exact Ev.now _
    · unfold spec_gaHas.f
      refine Ev.bind e2 ?_
      simp only [if_true, in_eq, in_some, hw, Option.bind_some]
      exact Ev.now _
    · have := of_decide_eq_true e
      clear hw
      omega

/-! ### births -/
def Fb (L : List Int) (ys : List Int) (n : Int) : Int := ys.foldl (fun m y => max m (rd L y + 1)) n
def opts (l : List S57) (i : Nat) : List Int := (rd_T57 l (i : Int)).f0 ++ (rd_T57 l (i : Int)).f1
def bl (l : List S57) : Nat → List Int
  | 0 => []
  | i + 1 => bl l i ++ [Fb (bl l i) (opts l i) 0]
theorem bl_length (l : List S57) (i : Nat) : (bl l i).length = i := by
  induction i with
  | zero => rfl
  | succ i ih => simp [bl, ih]
theorem Fb_bd (L : List Int) (B : Int) (hL : ∀ y, 0 ≤ rd L y ∧ rd L y ≤ B) : ∀ (ys : List Int) (n : Int), 0 ≤ n → n ≤ B + 1 → 0 ≤ Fb L ys n ∧ Fb L ys n ≤ B + 1
  | [], n, h0, h1 => ⟨h0, h1⟩
  | y :: ys, n, h0, h1 => by
    have := hL y
    exact Fb_bd L B hL ys (max n (rd L y + 1)) (by omega) (by omega)
theorem rd_snoc (L : List Int) (x y : Int) : rd (L ++ [x]) y = rd L y ∨ rd (L ++ [x]) y = x := by
  unfold rd
  rw [List.getD_eq_getElem?_getD, List.getD_eq_getElem?_getD]
  by_cases h : y.toNat < L.length
  · left; rw [List.getElem?_append_left h]
  · by_cases h2 : y.toNat = L.length
    · right; rw [h2]; simp
    · left; rw [List.getElem?_eq_none (by simp; omega), List.getElem?_eq_none (by omega)]
theorem bl_bd (l : List S57) (i : Nat) : ∀ y, 0 ≤ rd (bl l i) y ∧ rd (bl l i) y ≤ (i : Int) := by
  induction i with
  | zero => intro y; simp [bl, rd]
  | succ i ih =>
    intro y
    have hF := Fb_bd (bl l i) (i : Int) ih (opts l i) 0 (by omega) (by omega)
    have := ih y
    rcases rd_snoc (bl l i) (Fb (bl l i) (opts l i) 0) y with e | e
    · show 0 ≤ rd (bl l i ++ [_]) y ∧ rd (bl l i ++ [_]) y ≤ _
      rw [e]; omega
    · show 0 ≤ rd (bl l i ++ [_]) y ∧ rd (bl l i ++ [_]) y ≤ _
      rw [e]; omega
theorem mx_max (a b : Int) : mx a b = max a b := by unfold mx; split <;> omega
theorem most_some (a b : Int) : spec_l1Most.f a b = some (max a b) := by
  unfold spec_l1Most.f
  split <;> (congr 1; omega)
theorem own_some (x : List Int) (h : x.length < 17592186044416) : spec_l1Own.f x = some x := by
  unfold spec_l1Own.f
  simp only [Option.bind_some, List.length_nil, List.nil_append, Nat.zero_add, if_pos h]
theorem rd_app (L M : List Int) (x : Int) (h : x.toNat < L.length) : rd (L ++ M) x = rd L x := by
  simp [rd, List.getD_eq_getElem?_getD, List.getElem?_append_left h]
theorem rd_mid (L M : List Int) (n : Int) : rd (L ++ n :: M) (L.length : Int) = n := by
  simp [rd, List.getD_eq_getElem?_getD]
theorem set_mid (L M : List Int) (n m : Int) : (L ++ n :: M).set ((L.length : Int)).toNat m = L ++ m :: M := by
  rw [Int.toNat_natCast, List.set_append_right _ _ (Nat.le_refl _)]
  simp
theorem wone (v : Int) (h : 0 ≤ v ∧ v ≤ 1048576) : wrap64 (v + 1) = v + 1 := by unfold wrap64; omega
theorem spec_in (l : List S57) (a : Int) (i : Nat) (L ys : List Int) (r : Int) (hi : L.length = i) (h40 : i ≤ 40) (hL : ∀ y, 0 ≤ rd L y ∧ rd L y ≤ (i : Int)) (hy : ∀ y ∈ ys, 0 ≤ y ∧ y < (i : Int)) (hyl : ys.length ≤ 4194304) :
    ∀ (d j : Nat) (n : Int), j + d = ys.length → Ev (fun k => spec_gaBirth.l0 k l a (L ++ [Fb L (ys.drop j) n]) ((i + 1 : Nat) : Int)) r → Ev (fun k => spec_gaBirth.l1 k l a L (i : Int) n ys (ys.length : Int) (j : Int)) r := by
  intro d
  induction d with
  | zero =>
    intro j n hj he
    have c : ¬ (j : Int) < (ys.length : Int) := by omega
    have c2 : L.length < 17592186044416 := by omega
    rw [List.drop_of_length_le (by omega)] at he
    refine Ev.step (fun k => ?_) he
    simp only [spec_gaBirth.l1, if_neg c, if_pos c2, wsucc i (by omega)]
    rfl
  | succ d ih =>
    intro j n hj he
    have g1 : (j : Int) < (ys.length : Int) := by omega
    have g2 : (0 : Int) ≤ (j : Int) := Int.natCast_nonneg _
    have hjl : j < ys.length := by omega
    have hyj := hy ys[j] (List.getElem_mem hjl)
    have g3 : ys[j] < (L.length : Int) := by omega
    have hv := hL ys[j]
    rw [List.drop_eq_getElem_cons hjl] at he
    refine Ev.step (fun k => ?_) (ih (j + 1) (max n (rd L ys[j] + 1)) (by omega) he)
    simp only [spec_gaBirth.l1, if_pos g1, if_pos g2, rd_nat ys j hjl, if_pos hyj.1, if_pos g3, most_some, Option.bind_some, wone _ (show 0 ≤ rd L ys[j] ∧ rd L ys[j] ≤ 1048576 by omega), wsucc j (by omega)]
theorem impl_in_ (l : List S57) (a : Int) (i : Nat) (L ys Z : List Int) (r : Int × Bool) (hi : L.length = i) (h40 : i ≤ 40) (hL : ∀ y, 0 ≤ rd L y ∧ rd L y ≤ (i : Int)) (hy : ∀ y ∈ ys, 0 ≤ y ∧ y < (i : Int)) (hyl : ys.length ≤ 4194304) :
    ∀ (d j : Nat) (n : Int), j + d = ys.length → Ev (fun k => impl_BirthOf.l0 k a (L ++ Fb L (ys.drop j) n :: Z) l (l.length : Int) ((i + 1 : Nat) : Int)) r → Ev (fun k => impl_BirthOf.l1 k a (L ++ n :: Z) (i : Int) l (l.length : Int) (i : Int) ys (ys.length : Int) (j : Int)) r := by
  intro d
  induction d with
  | zero =>
    intro j n hj he
    have c : ¬ (j : Int) < (ys.length : Int) := by omega
    rw [List.drop_of_length_le (by omega)] at he
    refine Ev.step (fun k => ?_) he
    simp only [impl_BirthOf.l1, if_neg c, wsucc i (by omega)]
    rfl
  | succ d ih =>
    intro j n hj he
    have g1 : (j : Int) < (ys.length : Int) := by omega
    have g2 : (0 : Int) ≤ (j : Int) := Int.natCast_nonneg _
    have g4 : (0 : Int) ≤ (i : Int) := Int.natCast_nonneg _
    have hjl : j < ys.length := by omega
    have hyj := hy ys[j] (List.getElem_mem hjl)
    have hlen : ((L ++ n :: Z).length : Int) = (i : Int) + 1 + (Z.length : Int) := by simp; omega
    have g3 : ys[j] < ((L ++ n :: Z).length : Int) := by omega
    have g5 : (i : Int) < ((L ++ n :: Z).length : Int) := by omega
    have hv := hL ys[j]
    rw [List.drop_eq_getElem_cons hjl] at he
    have e1 : rd (L ++ n :: Z) ys[j] = rd L ys[j] := rd_app _ _ _ (by omega)
    have e2 : rd (L ++ n :: Z) (i : Int) = n := by rw [← hi]; exact rd_mid _ _ _
    have e3 : ∀ m, (L ++ n :: Z).set ((i : Int)).toNat m = L ++ m :: Z := fun m => by rw [← hi]; exact set_mid _ _ _ _
    refine Ev.step (fun k => ?_) (ih (j + 1) (max n (rd L ys[j] + 1)) (by omega) he)
    simp only [impl_BirthOf.l1, if_pos g1, if_pos g2, rd_nat ys j hjl, if_pos g4, if_pos g5, if_pos hyj.1, if_pos g3, e1, e2, e3, mx_max, wone _ (show 0 ≤ rd L ys[j] ∧ rd L ys[j] ≤ 1048576 by omega), wsucc j (by omega)]
theorem opts_bd {l : List S57} (h : Gm l) (hs : Small l) (i : Nat) (hi : i < l.length) : (∀ y ∈ opts l i, 0 ≤ y ∧ y < (i : Int)) ∧ (opts l i).length ≤ 4194304 ∧ l[i].f0.length + l[i].f1.length < 17592186044416 := by
  have q := h.2.2 i hi
  have z := hs.2 l[i] (List.getElem_mem hi)
  unfold opts
  rw [rdI l i hi]
  refine ⟨fun y hy => ?_, by rw [List.length_append]; omega, by omega⟩
  rcases List.mem_append.1 hy with hy | hy
  · exact q.1.1 y hy
  · exact q.2.1 y hy
theorem opts_eq (l : List S57) (i : Nat) (hi : i < l.length) : opts l i = l[i].f0 ++ l[i].f1 := by
  unfold opts
  rw [rdI l i hi]
theorem spec_out {l : List S57} (h : Gm l) (hs : Small l) (a : Nat) (ha : a < l.length) : ∀ (d i : Nat), i + d = a + 1 → Ev (fun k => spec_gaBirth.l0 k l (a : Int) (bl l i) (i : Int)) (rd (bl l (a + 1)) (a : Int)) := by
  have h40 := h.2.1
  intro d
  induction d with
  | zero =>
    intro i hi
    obtain rfl : i = a + 1 := by omega
    have c : ¬ ((a + 1 : Nat) : Int) ≤ (a : Int) := by omega
    have c2 : (a : Int) < ((bl l (a + 1)).length : Int) := by rw [bl_length]; omega
    refine Ev.step (fun k => ?_) (Ev.now _)
    simp only [spec_gaBirth.l0, if_neg c, if_pos (Int.natCast_nonneg a), if_pos c2]
  | succ d ih =>
    intro i hi
    have c1 : (i : Int) ≤ (a : Int) := by omega
    have hil : i < l.length := by omega
    have c2 : (i : Int) < (l.length : Int) := by omega
    obtain ⟨o1, o2, o3⟩ := opts_bd h hs i hil
    have hn := spec_in l (a : Int) i (bl l i) (opts l i) _ (bl_length l i) (by omega) (bl_bd l i) o1 o2 (opts l i).length 0 0 (by omega) (ih (i + 1) (by omega))
    rw [opts_eq l i hil] at hn
    refine Ev.step (fun k => ?_) hn
    simp only [spec_gaBirth.l0, if_pos c1, if_pos (Int.natCast_nonneg i), if_pos c2, rdI l i hil, own_some _ (show l[i].f0.length < 17592186044416 by omega), Option.bind_some, if_pos o3]
    rfl
theorem impl_out {l : List S57} (h : Gm l) (hs : Small l) (a : Nat) (ha : a < l.length) : ∀ (d i : Nat), i + d = l.length → Ev (fun k => impl_BirthOf.l0 k (a : Int) (bl l i ++ List.replicate d 0) l (l.length : Int) (i : Int)) (rd (bl l l.length) (a : Int), true) := by
  have h40 := h.2.1
  intro d
  induction d with
  | zero =>
    intro i hi
    obtain rfl : i = l.length := by omega
    have c : ¬ (l.length : Int) < (l.length : Int) := by omega
    have c2 : (a : Int) < ((bl l l.length).length : Int) := by rw [bl_length]; omega
    rw [List.replicate_zero, List.append_nil]
    refine Ev.step (fun k => ?_) (Ev.now _)
    simp only [impl_BirthOf.l0, if_neg c, if_pos (Int.natCast_nonneg a), if_pos c2]
  | succ d ih =>
    intro i hi
    have hil : i < l.length := by omega
    have c2 : (i : Int) < (l.length : Int) := by omega
    obtain ⟨o1, o2, o3⟩ := opts_bd h hs i hil
    have hih := ih (i + 1) (by omega)
    rw [show bl l (i + 1) ++ List.replicate d 0 = bl l i ++ Fb (bl l i) ((opts l i).drop 0) 0 :: List.replicate d 0 from by simp [bl]] at hih
    have hn := impl_in_ l (a : Int) i (bl l i) (opts l i) (List.replicate d 0) _ (bl_length l i) (by omega) (bl_bd l i) o1 o2 (opts l i).length 0 0 (by omega) hih
    rw [opts_eq l i hil] at hn
    rw [List.replicate_succ]
    refine Ev.step (fun k => ?_) hn
    simp only [impl_BirthOf.l0, if_pos c2, if_pos (Int.natCast_nonneg i), rdI l i hil, own_some _ (show l[i].f0.length < 17592186044416 by omega), Option.bind_some, if_pos o3]
    rfl
theorem bl_keep (l : List S57) (a : Nat) : ∀ d, rd (bl l (a + 1 + d)) (a : Int) = rd (bl l (a + 1)) (a : Int)
  | 0 => rfl
  | d + 1 => by
    rw [← bl_keep l a d]
    show rd (bl l (a + 1 + d) ++ [_]) (a : Int) = _
    exact rd_app _ _ _ (by rw [bl_length, Int.toNat_natCast]; omega)
theorem both (l : List S57) (hs : Small l) (a : Int) : ∃ r : Int × Bool, Ev (fun k => spec_BirthOf.f k l a) r ∧ Ev (fun k => impl_BirthOf.f k l a) r := by
  obtain ⟨b, e1, e2, q⟩ := has_ev l hs a
  have hl := hs.1
  unfold spec_BirthOf.f impl_BirthOf.f
  cases b with
  | false => exact ⟨(0, false), Ev.bind e2 (Ev.now _), Ev.bind e1 (Ev.now _)⟩
  | true =>
    obtain ⟨g, h0, h1⟩ := q rfl
    obtain ⟨n, rfl⟩ := Int.eq_ofNat_of_zero_le h0
    have hn : n < l.length := by omega
    refine ⟨(rd (bl l (n + 1)) (n : Int), true), Ev.bind e2 ?_, Ev.bind e1 ?_⟩
    · simp only [if_true]
      refine Ev.bind (a := rd (bl l (n + 1)) (n : Int)) ?_ (Ev.now _)
      unfold spec_gaBirth.f
      exact spec_out g hs n hn (n + 1) 0 (by omega)
    · simp only [if_true, if_pos (Int.natCast_nonneg l.length), Int.toNat_natCast, show l.length ≤ 35184372088832 from by omega]
      have := impl_out g hs n hn l.length 0 (by omega)
      rw [show l.length = n + 1 + (l.length - (n + 1)) from by omega, bl_keep, ← show l.length = n + 1 + (l.length - (n + 1)) from by omega] at this
      exact this

theorem proved : laws_FnExactBirthOf.Pure := by
  intro l a h _
  refine Ev.rounds ?_
  unfold laws_FnExactBirthOf.f
  obtain ⟨v, hv, hs⟩ := szPositionS_ev l ⟨h.1, fun y hy => ⟨(h.2 y hy).1.1, (h.2 y hy).2.1⟩⟩
  refine Ev.bind hv ?_
  by_cases hn : v < 0
  · simp only [if_pos hn]
    exact Ev.now _
  · simp only [if_neg hn]
    obtain ⟨h1, h2⟩ := hs.resolve_left hn
    have ht := toPositionS_ev l h1 h2
    have hsm := small_conv l h1 h2
    obtain ⟨r, s1, s2⟩ := both (l.map conv) hsm a
    refine Ev.bind ht (Ev.bind s1 (Ev.bind ht (Ev.bind s2 ?_)))
    simp only [bne_self_eq_false, if_true]
    refine Ev.step (f := ?gga) (fun k => ?ggb) ?ggc
    case ggb => conv => lhs; simp only [laws_FnExactBirthOf.j0, Bool.false_eq_true, if_false]
    case ggc => exact Ev.bind ht (Ev.bind (eqPositionS_ev _ hsm) (Ev.now _))

end LFnExactBirthOf
theorem FnExactBirthOf : laws_FnExactBirthOf.Pure := LFnExactBirthOf.proved
end Go.Proofs.Ytpiafobcmhfclaa.Pure
