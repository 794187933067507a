/- For any number, the game of a nimber that the program gives is the reference's, in new memory. -/
import Derived.Test.YtpiafobcmhfclaaQFnExactGameOfNimberx3
namespace Go.Proofs.Ytpiafobcmhfclaa.Pure
open Go.RowKit Go.Proofs.Ytpiafobcmhfclaa.QFnExactGameOfNimber Go.Proofs.YtpiafobcmhfclaaW.PrintWords Go.Proofs.YtpiafobcmhfclaaW.PrintLast
set_option linter.unusedVariables false
set_option linter.unusedSimpArgs false
def laws_FnExactGameOfNimber.Pure : Prop := ∀ (a0 : Int), (Lit.int .i64 a0).wf = true → ∃ k, laws_FnExactGameOfNimber.f k a0 = some true
namespace LFnExactGameOfNimber
/-! ### small words -/
theorem wsucc (i : Nat) (h : i < 2 ^ 62) : wrap64 ((i : Int) + 1) = ((i + 1 : Nat) : Int) := by unfold wrap64; omega
theorem drop_rd {l : List Int} {i : Nat} (h : i < l.length) : l.drop i = rd l (i : Int) :: l.drop (i + 1) := by
  rw [List.drop_eq_getElem_cons h]
  simp [rd, List.getD_eq_getElem?_getD, List.getElem?_eq_getElem h]

/-! ### a list of numbers equals itself -/
theorem eqIntS_l (x : List Int) (hx : x.length ≤ 2 ^ 60) : ∀ (d k i : Nat), i + d = x.length → d < k → laws_eqIntS.l0 k x x i = some true := by
  intro d
  induction d with
  | zero =>
    intro k i hi hk
    obtain ⟨k, rfl⟩ : ∃ m, k = m + 1 := ⟨k - 1, by omega⟩
    simp only [laws_eqIntS.l0]
    rw [if_neg (by omega)]
  | succ d ih =>
    intro k i hi hk
    obtain ⟨k, rfl⟩ : ∃ m, k = m + 1 := ⟨k - 1, by omega⟩
    have h1 : (i : Int) < (x.length : Int) := by omega
    have h2 : (0 : Int) ≤ (i : Int) := Int.natCast_nonneg _
    simp only [laws_eqIntS.l0, if_pos h1, if_pos h2, if_true]
    rw [wsucc i (by omega)]
    exact ih k (i + 1) (by omega) (by omega)
theorem eqIntS (x : List Int) (hx : x.length ≤ 17592186044416) (k : Nat) (hk : x.length < k) : laws_eqIntS.f k x x = some true := by
  unfold laws_eqIntS.f
  rw [if_pos rfl]
  exact eqIntS_l x (by omega) x.length k 0 (by omega) hk

theorem rdI (xs : List S57) (i : Nat) (h : i < xs.length) : rd_T57 xs (i : Int) = xs[i] := by
  simp [rd_T57, List.getD_eq_getElem?_getD, List.getElem?_eq_getElem h]
theorem eqIntS_ev (x : List Int) (hx : x.length ≤ 17592186044416) : Ev (fun k => laws_eqIntS.f k x x) true := ⟨x.length + 1, fun k hk => eqIntS x hx k (by omega)⟩
def Small (l : List S57) : Prop := l.length ≤ 1048576 ∧ ∀ y ∈ l, y.f0.length ≤ 1048576 ∧ y.f1.length ≤ 1048576
theorem eqPosition_ev (a b : List Int) (ha : a.length ≤ 1048576) (hb : b.length ≤ 1048576) : Ev (fun k => laws_eqPosition.f k a b a b) true := by
  unfold laws_eqPosition.f
  refine Ev.bind (eqIntS_ev a (by omega)) ?_
  simp only [if_true]
  exact Ev.bind (eqIntS_ev b (by omega)) (Ev.now _)
theorem eqPositionS_l (l : List S57) (h : Small l) : ∀ (d i : Nat), i + d = l.length → Ev (fun k => laws_eqPositionS.l0 k l l (i : Int)) true := by
  have hl := h.1
  intro d
  induction d with
  | zero =>
    intro i hi
    have c : ¬ (i : Int) < (l.length : Int) := by omega
    refine Ev.step (fun k => ?_) (Ev.now _)
    simp only [laws_eqPositionS.l0, if_neg c]
  | succ d ih =>
    intro i hi
    have g1 : (i : Int) < (l.length : Int) := by omega
    have g2 : (0 : Int) ≤ (i : Int) := Int.natCast_nonneg _
    have hil : i < l.length := by omega
    have hb := h.2 l[i] (List.getElem_mem hil)
    refine Ev.step (f := ?f) (fun k => ?e) ?v
    case e => conv => lhs; simp only [laws_eqPositionS.l0, if_pos g1, if_pos g2, rdI l i hil]
    case v =>
      refine Ev.bind (eqPosition_ev _ _ hb.1 hb.2) ?_
      simp only [if_true]
      rw [wsucc i (by omega)]
      exact ih (i + 1) (by omega)
theorem eqPositionS_ev (l : List S57) (h : Small l) : Ev (fun k => laws_eqPositionS.f k l l) true := by
  unfold laws_eqPositionS.f
  simp only [if_true]
  exact eqPositionS_l l h l.length 0 (by omega)

theorem in_eq (e a b : Int) : spec_l1In.f e a b = impl_in.f e a b := rfl
theorem in_some (e a b : Int) : impl_in.f e a b = some (decide (a ≤ e ∧ e ≤ b)) := by
  unfold impl_in.f
  by_cases h : e ≥ a
  · rw [if_pos h]; congr 1; simp; omega
  · rw [if_neg h]; congr 1; simp; omega

/-! ### marks in a list of numbers, and marks that are held -/
theorem markIntS_l : ∀ (d i m : Nat) (xs : List Int), i + d = xs.length → m + d < 2 ^ 61 → xs.length < 2 ^ 61 →
    ∃ ys : List Int, Ev (fun k => laws_markIntS.l0 k xs (m : Int) (i : Int)) (((m + d : Nat) : Int), ys) ∧ ys.length = xs.length ∧ (∀ j, j < i → ys[j]? = xs[j]?) ∧
      Ev (fun k => laws_heldIntS.l0 k ys (m : Int) (i : Int)) ((m + d : Nat) : Int) := by
  intro d
  induction d with
  | zero =>
    intro i m xs hi hm hx
    refine ⟨xs, Ev.step (fun k => ?_) (Ev.now _), rfl, fun _ _ => rfl, Ev.step (fun k => ?_) (Ev.now _)⟩
    · simp only [laws_markIntS.l0]
      rw [if_neg (by omega)]
      rfl
    · simp only [laws_heldIntS.l0]
      rw [if_neg (by omega)]
      rfl
  | succ d ih =>
    intro i m xs hi hm hx
    obtain ⟨ys, h1, h2, h3, h4⟩ := ih (i + 1) (m + 1) (xs.set i (m : Int)) (by rw [List.length_set]; omega) (by omega) (by rw [List.length_set]; omega)
    rw [List.length_set] at h2
    have e : m + 1 + d = m + (d + 1) := by omega
    rw [e] at h1 h4
    have g1 : (i : Int) < (xs.length : Int) := by omega
    have g1' : (i : Int) < (ys.length : Int) := by omega
    have g2 : (0 : Int) ≤ (i : Int) := Int.natCast_nonneg _
    have g3 : rd ys (i : Int) = (m : Int) := by
      have := h3 i (by omega)
      rw [List.getElem?_set_self (by omega)] at this
      simp [rd, List.getD_eq_getElem?_getD, this]
    refine ⟨ys, Ev.step (fun k => ?_) h1, h2, fun j hj => ?_, Ev.step (fun k => ?_) h4⟩
    · simp only [laws_markIntS.l0, if_pos g1, if_pos g2]
      rw [wsucc i (by omega), wsucc m (by omega), Int.toNat_natCast]
    · have := h3 j (by omega)
      rwa [List.getElem?_set_ne (by omega)] at this
    · simp only [laws_heldIntS.l0, if_pos g1', if_pos g2, g3, if_true]
      rw [wsucc i (by omega), wsucc m (by omega)]
theorem markIntS_ev (xs : List Int) (m : Nat) (h : xs.length + m < 2 ^ 60) : ∃ ys : List Int, Ev (fun k => laws_markIntS.f k xs (m : Int)) (((m + xs.length : Nat) : Int), ys) ∧ ys.length = xs.length ∧
    Ev (fun k => laws_heldIntS.f k ys (m : Int)) ((m + xs.length : Nat) : Int) := by
  obtain ⟨ys, h1, h2, _, h4⟩ := markIntS_l xs.length 0 m xs (by omega) (by omega) (by omega)
  exact ⟨ys, h1, h2, h4⟩

/-! ### marks in the rows of positions -/
def tot (l : List S57) : Nat := (l.map fun p => p.f0.length + p.f1.length).sum
theorem rdI_mid (D l : List S57) (x : S57) : rd_T57 (D ++ x :: l) (D.length : Int) = x := by
  rw [rdI _ _ (by simp)]
  simp
theorem posmarks_ev : ∀ (l : List S57) (m : Nat), m + tot l < 2 ^ 59 → ∃ l' : List S57, Ev (fun k => laws_markPositionS.f k l (m : Int)) (((m + tot l : Nat) : Int), l') ∧
    ∀ D : List S57, D.length + l.length < 2 ^ 59 → Ev (fun k => laws_heldPositionS.l0 k (D ++ l') (m : Int) (D.length : Int)) ((m + tot l : Nat) : Int) := by
  intro l
  induction l with
  | nil =>
    intro m hm
    refine ⟨[], Ev.congr (fun k => rfl) (Ev.now ((m : Int), [])), fun D hD => ?_⟩
    have c : ¬ (D.length : Int) < ((D ++ [] : List S57).length : Int) := by simp
    refine Ev.step (fun k => ?_) (Ev.now _)
    simp only [laws_heldPositionS.l0, if_neg c]
    rfl
  | cons p ps ih =>
    intro m hm
    have ht : tot (p :: ps) = p.f0.length + p.f1.length + tot ps := by simp [tot]
    rw [ht] at hm ⊢
    obtain ⟨y0, a1, a2, a3⟩ := markIntS_ev p.f0 m (by omega)
    obtain ⟨y1, b1, b2, b3⟩ := markIntS_ev p.f1 (m + p.f0.length) (by omega)
    obtain ⟨l', e1, e2⟩ := ih (m + p.f0.length + p.f1.length) (by omega)
    rw [show m + p.f0.length + p.f1.length + tot ps = m + (p.f0.length + p.f1.length + tot ps) from by omega] at e1 e2
    refine ⟨⟨y0, y1⟩ :: l', ?_, fun D hD => ?_⟩
    · exact Ev.congr (fun k => rfl) (Ev.bind a1 (Ev.bind b1 (Ev.bind e1 (Ev.now _))))
    · have g1 : (D.length : Int) < ((D ++ (⟨y0, y1⟩ : S57) :: l').length : Int) := by simp; omega
      have g2 : (0 : Int) ≤ (D.length : Int) := Int.natCast_nonneg _
      have hn := e2 (D ++ [⟨y0, y1⟩]) (by simp only [List.length_append, List.length_cons, List.length_nil] at hD ⊢; omega)
      rw [List.append_assoc, List.length_append] at hn
      refine Ev.step (f := ?gm1) (fun k => ?gm2) ?gm3
      case gm2 => conv => lhs; simp only [laws_heldPositionS.l0, if_pos g1, if_pos g2, rdI_mid]
      case gm3 =>
        refine Ev.bind a3 ?_
        simp only [show ¬ ((m + p.f0.length : Nat) : Int) < 0 from by omega, if_false]
        refine Ev.bind b3 ?_
        simp only [show ¬ ((m + p.f0.length + p.f1.length : Nat) : Int) < 0 from by omega, if_false, wsucc D.length (by simp only [List.length_cons] at hD; omega)]
        exact hn
theorem tot_small {l : List S57} (h : Small l) : tot l ≤ 2 ^ 41 := by
  have : ∀ (L : List S57), (∀ y ∈ L, y.f0.length ≤ 1048576 ∧ y.f1.length ≤ 1048576) → tot L ≤ L.length * 2097152 := by
    intro L
    induction L with
    | nil => intro _; simp [tot]
    | cons p ps ih =>
      intro hL
      have h1 := hL p (by simp)
      have h2 := ih (fun y hy => hL y (by simp [hy]))
      have ht : tot (p :: ps) = p.f0.length + p.f1.length + tot ps := by simp [tot]
      rw [ht, List.length_cons]
      omega
  have h1 := this l h.2
  have h2 := h.1
  omega
theorem posmarks {l : List S57} (h : Small l) : ∃ (m : Nat) (l' : List S57), Ev (fun k => laws_markPositionS.f k l 1) ((m : Int), l') ∧ Ev (fun k => laws_heldPositionS.f k l' 1) (m : Int) := by
  have ht := tot_small h
  obtain ⟨l', h1, h2⟩ := posmarks_ev l 1 (by omega)
  exact ⟨_, l', h1, by
    have := h2 [] (by have := h.1; simp only [List.length_nil]; omega)
    exact this⟩

theorem own_some (x : List Int) (h : x.length < 17592186044416) : spec_l1Own.f x = some x := by
  unfold spec_l1Own.f
  simp only [Option.bind_some, List.length_nil, List.nil_append, Nat.zero_add, if_pos h]
theorem clone_some (x : List Int) (h : x.length < 17592186044416) : slices_Clone_int_int.f x = some x := by
  unfold slices_Clone_int_int.f
  simp only [Option.bind_some, List.length_nil, List.nil_append, Nat.zero_add, if_pos h]
def upto (i : Nat) : List Int := (List.range i).map fun j : Nat => (j : Int)
def nimb (i : Nat) : List S57 := (List.range i).map fun j => ⟨upto j, upto j⟩
theorem upto_succ (i : Nat) : upto (i + 1) = upto i ++ [(i : Int)] := by simp [upto, List.range_succ]
theorem nimb_succ (i : Nat) : nimb (i + 1) = nimb i ++ [(⟨upto i, upto i⟩ : S57)] := by simp [nimb, List.range_succ]
theorem upto_length (i : Nat) : (upto i).length = i := by simp [upto]
theorem nimb_length (i : Nat) : (nimb i).length = i := by simp [nimb]
theorem nimb_l (n : Nat) (hn : n ≤ 39) : ∀ (d i : Nat), i + d = n + 1 → Ev (fun k => spec_gaNim.l0 k (n : Int) (nimb i) (upto i) (i : Int)) (nimb (n + 1)) ∧ Ev (fun k => impl_nimberGame.l0 k (nimb i) (upto i) ((n + 1 : Nat) : Int) (i : Int)) (nimb (n + 1)) := by
  intro d
  induction d with
  | zero =>
    intro i hi
    obtain rfl : i = n + 1 := by omega
    constructor
    · refine Ev.step (fun k => ?_) (Ev.now _)
      simp only [spec_gaNim.l0, if_neg (show ¬ ((n + 1 : Nat) : Int) ≤ (n : Int) by omega)]
    · refine Ev.step (fun k => ?_) (Ev.now _)
      simp only [impl_nimberGame.l0, if_neg (show ¬ ((n + 1 : Nat) : Int) < ((n + 1 : Nat) : Int) by omega)]
  | succ d ih =>
    intro i hi
    obtain ⟨n1, n2⟩ := ih (i + 1) (by omega)
    rw [nimb_succ i, upto_succ] at n1 n2
    have c1 : (i : Int) ≤ (n : Int) := by omega
    have c2 : (i : Int) < ((n + 1 : Nat) : Int) := by omega
    have c3 : (nimb i).length < 2932031007402 := by rw [nimb_length]; omega
    have c4 : (upto i).length < 17592186044416 := by rw [upto_length]; omega
    have hw := wsucc i (by omega)
    constructor
    · refine Ev.step (fun k => ?_) n1
      simp only [spec_gaNim.l0, if_pos c1, own_some _ c4, Option.bind_some, if_pos c3, if_pos c4, hw]
    · refine Ev.step (fun k => ?_) n2
      simp only [impl_nimberGame.l0, if_pos c2, clone_some _ c4, Option.bind_some, if_pos c3, if_pos c4, hw]
theorem nimb_small (n : Nat) (hn : n ≤ 39) : Small (nimb (n + 1)) := by
  refine ⟨by rw [nimb_length]; omega, fun y hy => ?_⟩
  obtain ⟨j, hj, rfl⟩ := List.mem_map.1 hy
  have := List.mem_range.1 hj
  constructor
  · show (upto j).length ≤ _
    rw [upto_length]; omega
  · show (upto j).length ≤ _
    rw [upto_length]; omega
theorem both (a : Int) (_ha : True) : ∃ r : List S57 × Bool, Ev (fun k => spec_GameOfNimber.f k a) r ∧ Ev (fun k => impl_GameOfNimber.f k a) r ∧ Small r.1 := by
  unfold spec_GameOfNimber.f impl_GameOfNimber.f
  simp only [in_eq, in_some, Option.bind_some]
  by_cases h : 0 ≤ a ∧ a ≤ 39
  · obtain ⟨n, rfl⟩ := Int.eq_ofNat_of_zero_le h.1
    have hn : n ≤ 39 := by omega
    obtain ⟨n1, n2⟩ := nimb_l n hn (n + 1) 0 (by omega)
    simp only [decide_eq_true h, if_true]
    refine ⟨(nimb (n + 1), true), Ev.bind (a := nimb (n + 1)) ?_ (Ev.now _), Ev.bind (a := nimb (n + 1)) ?_ (Ev.now _), nimb_small n hn⟩
    · unfold spec_gaNim.f
      exact n1
    · unfold impl_nimberGame.f
      rw [wsucc n (by omega)]
      exact n2
  · simp only [decide_eq_false h, Bool.false_eq_true, if_false]
    exact ⟨([], false), Ev.now _, Ev.now _, by simp [Small]⟩

theorem proved : laws_FnExactGameOfNimber.Pure := by
  intro a _
  refine Ev.rounds ?_
  unfold laws_FnExactGameOfNimber.f
  obtain ⟨r, s1, s2, s3⟩ := both a trivial
  obtain ⟨m1, l1', b1, b2⟩ := posmarks s3
  refine Ev.bind s1 (Ev.bind s2 (Ev.bind (eqPositionS_ev _ s3) (Ev.bind b1 (Ev.bind b2 ?_))))
  refine Ev.congr (fun k => ?_) (Ev.now true)
  simp

end LFnExactGameOfNimber
theorem FnExactGameOfNimber : laws_FnExactGameOfNimber.Pure := LFnExactGameOfNimber.proved
end Go.Proofs.Ytpiafobcmhfclaa.Pure
