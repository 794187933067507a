/- For any list of twigs, the winning twig that the program tells is the reference's, and the list is left as it was. -/
import Derived.Test.YtnkaipnnbdgkkaaQFnExactWinningTwigx5
import Derived.Test.YtnkaipnnbdgkkaaGreen
import Derived.Test.YtnkaipnnbdgkkaaMp
namespace Go.Proofs.Ytnkaipnnbdgkkaa.Pure
open Go.RowKit Go.Proofs.Ytnkaipnnbdgkkaa.QFnExactWinningTwig Go.Proofs.YtnkaipnnbdgkkaaW.PrintWords Go.Proofs.YtnkaipnnbdgkkaaW.PrintLast
open Go.Proofs.Ytnkaipnnbdgkkaa.Green Go.Proofs.Ytnkaipnnbdgkkaa.Bits
set_option linter.unusedVariables false
set_option linter.unusedSimpArgs false
def laws_FnExactWinningTwig.Pure : Prop := ∀ (l0 : List (S40)), (l0.length ≤ maxLen ∧ ∀ y0 ∈ l0, ((Lit.int .i64 y0.f0).wf = true ∧ (Lit.int .i64 y0.f1).wf = true)) → ∃ k, laws_FnExactWinningTwig.f k l0 = some true
namespace LFnExactWinningTwig
/-! ### small words -/
theorem wsucc (i : Nat) (h : i < 2 ^ 62) : wrap64 ((i : Int) + 1) = ((i + 1 : Nat) : Int) := by unfold wrap64; omega

/-! ### lists of twigs: their size, a copy, the same -/
theorem rdL (xs : List S40) (i : Nat) (h : i < xs.length) : rd_T40 xs (i : Int) = xs[i] := by
  simp [rd_T40, List.getD_eq_getElem?_getD, List.getElem?_eq_getElem h]
theorem rdI (xs : List S36) (i : Nat) (h : i < xs.length) : rd_T36 xs (i : Int) = xs[i] := by
  simp [rd_T36, List.getD_eq_getElem?_getD, List.getElem?_eq_getElem h]
theorem szTwigS (l : List S40) (h : l.length ≤ maxLen) : laws_szTwigS.f l 1048576 = some (if l.length > 1048576 then -1 else 1048576 - (l.length : Int)) := by
  unfold maxLen at h
  have hw : wrap64 (1048576 - (l.length : Int)) = 1048576 - (l.length : Int) := by unfold wrap64; omega
  unfold laws_szTwigS.f
  rw [hw]
  clear hw
  by_cases g : l.length > 1048576
  · rw [if_pos (by omega), if_pos g]
  · rw [if_neg (by omega), if_neg g]
/-- A twig of the program for a twig of the law. -/
def conv (p : S40) : S36 := ⟨p.f0, p.f1⟩
theorem toTwigS_l (l : List S40) (hl : l.length ≤ 1048576) : ∀ (d i : Nat) (ys : List S36), i + d = l.length → ys.length = l.length → (∀ j, j < i → ys[j]? = (l.map conv)[j]?) →
    Ev (fun k => laws_toTwigS.l0 k l ys (i : Int)) (l.map conv) := by
  intro d
  induction d with
  | zero =>
    intro i ys hi hy hj
    have c : ¬ (i : Int) < (l.length : Int) := by omega
    have : ys = l.map conv := by
      apply List.ext_getElem?
      intro j
      by_cases g : j < i
      · exact hj j g
      · rw [List.getElem?_eq_none (by omega), List.getElem?_eq_none (by rw [List.length_map]; omega)]
    subst this
    refine Ev.step (fun k => ?_) (Ev.now _)
    simp only [laws_toTwigS.l0, if_neg c]
  | succ d ih =>
    intro i ys hi hy hj
    have g1 : (i : Int) < (l.length : Int) := by omega
    have g1' : (i : Int) < (ys.length : Int) := by omega
    have g2 : (0 : Int) ≤ (i : Int) := Int.natCast_nonneg _
    have hil : i < l.length := by omega
    have hw : wrap64 ((i : Int) + 1) = ((i + 1 : Nat) : Int) := wsucc i (by omega)
    refine Ev.step (fun k => ?_) (ih (i + 1) (ys.set i (conv l[i])) (by clear hw; omega) (by rw [List.length_set]; exact hy) (fun j hjl => ?_))
    · simp only [laws_toTwigS.l0, if_pos g1, if_pos g2, rdL l i hil, laws_toTwig.f, Option.bind_some, if_pos g1', Int.toNat_natCast, hw]
      rfl
    · rw [List.getElem?_set]
      by_cases e : i = j
      · subst e
        rw [if_pos rfl, if_pos (by clear hw; omega), List.getElem?_map, List.getElem?_eq_getElem hil]
        rfl
      · rw [if_neg e]
        exact hj j (by clear hw; omega)
theorem toTwigS_ev (l : List S40) (hl : l.length ≤ 1048576) : Ev (fun k => laws_toTwigS.f k l) (l.map conv) := by
  unfold laws_toTwigS.f
  simp only [if_pos (Int.natCast_nonneg l.length), Int.toNat_natCast, show l.length ≤ 17592186044416 from by omega, if_true]
  exact toTwigS_l l hl l.length 0 _ (by omega) (by simp) (fun j hj => by omega)
theorem eqTwigS_l (l : List S36) (hl : l.length ≤ 1048576) : ∀ (d i : Nat), i + d = l.length → Ev (fun k => laws_eqTwigS.l0 k l l (i : Int)) true := by
  intro d
  induction d with
  | zero =>
    intro i hi
    have c : ¬ (i : Int) < (l.length : Int) := by omega
    refine Ev.step (fun k => ?_) (Ev.now _)
    simp only [laws_eqTwigS.l0, if_neg c]
  | succ d ih =>
    intro i hi
    have g1 : (i : Int) < (l.length : Int) := by omega
    have g2 : (0 : Int) ≤ (i : Int) := Int.natCast_nonneg _
    have hw : wrap64 ((i : Int) + 1) = ((i + 1 : Nat) : Int) := wsucc i (by omega)
    refine Ev.step (fun k => ?_) (ih (i + 1) (by clear hw; omega))
    simp only [laws_eqTwigS.l0, if_pos g1, if_pos g2, laws_eqTwig.f, if_true, Option.bind_some, hw]
theorem eqTwigS_ev (l : List S36) (hl : l.length ≤ 1048576) : Ev (fun k => laws_eqTwigS.f k l l) true := by
  unfold laws_eqTwigS.f
  simp only [if_true]
  exact eqTwigS_l l hl l.length 0 (by omega)

/-! ### what is a green picture, on both sides -/
theorem in_some (e a b : Int) : spec_l1In.f e a b = some (decide (a ≤ e ∧ e ≤ b)) := by
  unfold spec_l1In.f
  by_cases h : e ≥ a
  · rw [if_pos h]; congr 1; simp; omega
  · rw [if_neg h]; congr 1; simp; omega
theorem twig_some (x : S36) : spec_grTwig.f x.f0 x.f1 = some (!impl_IsGreen.bad x) := by
  unfold spec_grTwig.f impl_IsGreen.bad impl_IsGreen.inK
  simp only [in_some, Option.bind_some]
  by_cases h1 : 0 ≤ x.f0 ∧ x.f0 ≤ 12 <;> by_cases h2 : 0 ≤ x.f1 ∧ x.f1 ≤ 12 <;> simp [h1, h2]
/-- What is a green picture. -/
def good (l : List S36) : Bool := decide (l.length ≤ 14) && !l.any impl_IsGreen.bad
theorem good_l (l : List S36) (hl : l.length ≤ 1048576) : ∀ (d i : Nat), i + d = l.length → Ev (fun k => spec_grGood.l0 k l l (l.length : Int) (i : Int)) (decide (l.length ≤ 14) && !(l.drop i).any impl_IsGreen.bad) := by
  intro d
  induction d with
  | zero =>
    intro i hi
    have c : ¬ (i : Int) < (l.length : Int) := by omega
    rw [List.drop_eq_nil_of_le (by omega)]
    refine Ev.step (fun k => ?_) (Ev.now _)
    have : decide ((l.length : Int) ≤ 14) = decide (l.length ≤ 14) := by
      by_cases h : l.length ≤ 14
      · rw [decide_eq_true h, decide_eq_true (by omega)]
      · rw [decide_eq_false h, decide_eq_false (by omega)]
    simp only [spec_grGood.l0, if_neg c, this, List.any_nil, Bool.not_false, Bool.and_true]
  | succ d ih =>
    intro i hi
    have g1 : (i : Int) < (l.length : Int) := by omega
    have g2 : (0 : Int) ≤ (i : Int) := Int.natCast_nonneg _
    have hil : i < l.length := by omega
    rw [List.drop_eq_getElem_cons hil, List.any_cons]
    cases hb : impl_IsGreen.bad l[i] with
    | true =>
      refine Ev.step (fun k => ?_) (Ev.now _)
      simp only [spec_grGood.l0, if_pos g1, if_pos g2, rdI l i hil, twig_some, hb, Option.bind_some, Bool.not_true, Bool.false_eq_true, if_false, Bool.true_or, Bool.and_false]
    | false =>
      have hw : wrap64 ((i : Int) + 1) = ((i + 1 : Nat) : Int) := wsucc i (by omega)
      rw [Bool.false_or]
      refine Ev.step (fun k => ?_) (ih (i + 1) (by clear hw; omega))
      simp only [spec_grGood.l0, if_pos g1, if_pos g2, rdI l i hil, twig_some, hb, Option.bind_some, Bool.not_false, if_true, hw]
theorem good_ev (l : List S36) (hl : l.length ≤ 1048576) : Ev (fun k => spec_grGood.f k l) (good l) := by
  have := good_l l hl l.length 0 (by omega)
  rwa [List.drop_zero] at this
theorem isGreen_ev (l : List S36) : Ev (fun k => impl_IsGreen.f k l) (good l) := Ev.now _

/-! ### what is grounded, by bits -/
def kA (l : List S36) (i : Nat) : Nat := (rd_T36 l (i : Int)).f0.toNat
def kB (l : List S36) (i : Nat) : Nat := (rd_T36 l (i : Int)).f1.toNat
structure Ok (l : List S36) : Prop where
  len : l.length ≤ 14
  fA : ∀ i : Nat, (rd_T36 l (i : Int)).f0 = (kA l i : Int)
  fB : ∀ i : Nat, (rd_T36 l (i : Int)).f1 = (kB l i : Int)
  A12 : ∀ i, kA l i ≤ 12
  B12 : ∀ i, kB l i ≤ 12
theorem ok_of_good {l : List S36} (h : good l = true) : Ok l := by
  unfold good at h
  rw [Bool.and_eq_true] at h
  have hl : l.length ≤ 14 := of_decide_eq_true h.1
  have hb : ∀ x ∈ l, impl_IsGreen.bad x = false := by
    have := h.2
    simp only [Bool.not_eq_true', List.any_eq_false] at this
    intro x hx
    have := this x hx
    simpa using this
  have key : ∀ i : Nat, (0 ≤ (rd_T36 l (i : Int)).f0 ∧ (rd_T36 l (i : Int)).f0 ≤ 12) ∧ (0 ≤ (rd_T36 l (i : Int)).f1 ∧ (rd_T36 l (i : Int)).f1 ≤ 12) := by
    intro i
    by_cases hi : i < l.length
    · have := hb _ (List.getElem_mem hi)
      rw [rdI l i hi]
      simp only [impl_IsGreen.bad, impl_IsGreen.inK, Bool.or_eq_false_iff, Bool.not_eq_false', decide_eq_true_eq] at this
      exact this
    · have e : rd_T36 l (i : Int) = z36 := by
        unfold rd_T36
        rw [Int.toNat_natCast, List.getD_eq_getElem?_getD, List.getElem?_eq_none (by omega)]
        rfl
      rw [e]
      exact ⟨by decide, by decide⟩
  refine ⟨hl, fun i => ?_, fun i => ?_, fun i => ?_, fun i => ?_⟩
  · unfold kA; have := (key i).1; omega
  · unfold kB; have := (key i).2; omega
  · unfold kA; have := (key i).1; omega
  · unfold kB; have := (key i).2; omega
theorem or13 {S a b : Nat} (hS : S < 2 ^ 13) (ha : a ≤ 12) (hb : b ≤ 12) : S ||| (2 ^ a ||| 2 ^ b) < 2 ^ 13 :=
  Nat.or_lt_two_pow hS (Nat.or_lt_two_pow (Nat.pow_lt_pow_right (by decide) (by omega)) (Nat.pow_lt_pow_right (by decide) (by omega)))
theorem or14 {O i : Nat} (hO : O < 2 ^ 14) (hi : i < 14) : O ||| 2 ^ i < 2 ^ 14 := Nat.or_lt_two_pow hO (Nat.pow_lt_pow_right (by decide) hi)
theorem one_bit (O i j : Nat) : (O ||| 2 ^ i).testBit j = (O.testBit j || decide (j = i)) := by
  rw [Nat.testBit_or, Nat.testBit_two_pow]
  congr 1
  exact decide_eq_decide.2 ⟨fun h => h.symm, fun h => h.symm⟩
section
variable (l : List S36) (h : Ok l) (M : Nat) (hM : M < 2 ^ 64)
include h hM
theorem grounded_in : ∀ (d i S O : Nat), i + d = l.length → S < 2 ^ 13 → O < 2 ^ 14 → (∀ x, S.testBit x = true → Hangs l.length (kA l) (kB l) M 0 x) →
    ∃ S' O' : Nat, S' < 2 ^ 13 ∧ O' < 2 ^ 14 ∧ Rnd l.length (kA l) (kB l) M 0 i S S' ∧
      (∀ j, O'.testBit j = true → O.testBit j = true ∨ (j < l.length ∧ M.testBit j = true ∧ Hangs l.length (kA l) (kB l) M 0 (kA l j))) ∧ (∀ j, O.testBit j = true → O'.testBit j = true) ∧
      (∀ j, i ≤ j → j < l.length → M.testBit j = true → (S.testBit (kA l j) = true ∨ S.testBit (kB l j) = true) → O'.testBit j = true) ∧
      ∀ (T c r : Int), Ev (fun k => impl_grounded.l0 k l (M : Int) (S' : Int) (O' : Int) T (wrap64 (c + 1))) r → Ev (fun k => impl_grounded.l1 k l (M : Int) (S : Int) (O : Int) T c l (l.length : Int) (i : Int)) r := by
  have hlen := h.len
  intro d
  induction d with
  | zero =>
    intro i S O hi hS hO hr
    have c : ¬ (i : Int) < (l.length : Int) := by omega
    refine ⟨S, O, hS, hO, rnd_end (by omega) hr, fun j hj => .inl hj, fun j hj => hj, fun j h1 h2 => by omega, fun T c' r he => Ev.step (fun k => ?_) he⟩
    simp only [impl_grounded.l1, if_neg c]
  | succ d ih =>
    intro i S O hi hS hO hr
    have g1 : (i : Int) < (l.length : Int) := by omega
    have g2 : (0 : Int) ≤ (i : Int) := Int.natCast_nonneg _
    have hil : i < l.length := by omega
    have gA : (0 : Int) ≤ (kA l i : Int) := Int.natCast_nonneg _
    have gB : (0 : Int) ≤ (kB l i : Int) := Int.natCast_nonneg _
    have hA := h.A12 i
    have hB := h.B12 i
    have hS64 : S < 2 ^ 64 := Nat.lt_trans hS (by decide)
    have hO64 : O < 2 ^ 64 := Nat.lt_trans hO (by decide)
    have bM := bit1 M i hM (by omega)
    have bA := bit1 S (kA l i) hS64 (by omega)
    have bB := bit1 S (kB l i) hS64 (by omega)
    have aS := add_u S (kA l i) (kB l i) hS64 (by omega) (by omega)
    have aO := add1_u O i hO64 (by omega)
    have hw : wrap64 ((i : Int) + 1) = ((i + 1 : Nat) : Int) := wsucc i (by omega)
    cases hm : M.testBit i with
    | false =>
      obtain ⟨S', O', p1, p2, p3, p4, p5, p6, p7⟩ := ih (i + 1) S O (by clear hw; omega) hS hO hr
      refine ⟨S', O', p1, p2, rnd_skip p3 (fun q => by rw [hm] at q; cases q), p4, p5, fun j h1 h2 h3 h4 => ?_, fun T c r he => Ev.step (fun k => ?_) (p7 T c r he)⟩
      · by_cases e : j = i
        · subst e; rw [hm] at h3; cases h3
        · exact p6 j (by clear hw; omega) h2 h3 h4
      · simp only [impl_grounded.l1, if_pos g1, if_pos g2, bM, hm, Bool.false_eq_true, if_false, hw]
    | true =>
      by_cases ht : S.testBit (kA l i) = true ∨ S.testBit (kB l i) = true
      · obtain ⟨S', O', p1, p2, p3, p4, p5, p6, p7⟩ := ih (i + 1) (S ||| (2 ^ kA l i ||| 2 ^ kB l i)) (O ||| 2 ^ i) (by clear hw; omega) (or13 hS hA hB) (or14 hO (by clear hw; omega)) (add_ok hil hm ht hr)
        have rA : Hangs l.length (kA l) (kB l) M 0 (kA l i) := add_ok hil hm ht hr _ (by rw [bit_add]; simp)
        refine ⟨S', O', p1, p2, rnd_add hil hm ht p3, fun j hj => ?_, fun j hj => p5 j (by rw [one_bit, hj]; rfl), fun j h1 h2 h3 h4 => ?_, fun T c r he => Ev.step (fun k => ?_) (p7 T c r he)⟩
        · rcases p4 j hj with q | q
          · rw [one_bit, Bool.or_eq_true, decide_eq_true_eq] at q
            rcases q with q | rfl
            · exact .inl q
            · exact .inr ⟨hil, hm, rA⟩
          · exact .inr q
        · by_cases e : j = i
          · subst e; exact p5 _ (by rw [one_bit]; simp)
          · exact p6 j (by clear hw; omega) h2 h3 (h4.imp (fun q => by rw [bit_add, q]; rfl) (fun q => by rw [bit_add, q]; rfl))
        · cases hx : S.testBit (kA l i) with
          | true => simp only [impl_grounded.l1, if_pos g1, if_pos g2, bM, hm, if_true, h.fA, h.fB, if_pos gA, if_pos gB, bA, hx, aS, aO, hw]
          | false =>
            have hy : S.testBit (kB l i) = true := ht.resolve_left (by rw [hx]; simp)
            simp only [impl_grounded.l1, if_pos g1, if_pos g2, bM, hm, if_true, h.fA, h.fB, if_pos gA, if_pos gB, bA, hx, bB, hy, Bool.false_eq_true, if_false, aS, aO, hw]
      · obtain ⟨S', O', p1, p2, p3, p4, p5, p6, p7⟩ := ih (i + 1) S O (by clear hw; omega) hS hO hr
        refine ⟨S', O', p1, p2, rnd_skip p3 (fun _ => ht), p4, p5, fun j h1 h2 h3 h4 => ?_, fun T c r he => Ev.step (fun k => ?_) (p7 T c r he)⟩
        · by_cases e : j = i
          · subst e; exact absurd h4 ht
          · exact p6 j (by clear hw; omega) h2 h3 h4
        · have hx : S.testBit (kA l i) = false := by
            cases q : S.testBit (kA l i)
            · rfl
            · exact absurd (.inl q) ht
          have hy : S.testBit (kB l i) = false := by
            cases q : S.testBit (kB l i)
            · rfl
            · exact absurd (.inr q) ht
          simp only [impl_grounded.l1, if_pos g1, if_pos g2, bM, hm, if_true, h.fA, h.fB, if_pos gA, if_pos gB, bA, hx, bB, hy, Bool.false_eq_true, if_false, hw]
/-- The grounded twigs of some. -/
noncomputable def gm (l : List S36) (M : Nat) : Nat := mk l.length fun i => M.testBit i && reachB l.length (kA l) (kB l) M 0 (kA l i)
theorem grounded_out : ∀ (d c S O : Nat), c + d = l.length + 1 → S < 2 ^ 13 → O < 2 ^ 14 → S.testBit 0 = true → (∀ x, S.testBit x = true → Hangs l.length (kA l) (kB l) M 0 x) →
    (∀ j, O.testBit j = true → j < l.length ∧ M.testBit j = true ∧ Hangs l.length (kA l) (kB l) M 0 (kA l j)) → (Closed l.length (kA l) (kB l) M S ∨ c ≤ used l.length (kA l) (kB l) M S) →
    (d = 0 → ∀ j, j < l.length → M.testBit j = true → Hangs l.length (kA l) (kB l) M 0 (kA l j) → O.testBit j = true) →
    Ev (fun k => impl_grounded.l0 k l (M : Int) (S : Int) (O : Int) ((l.length + 1 : Nat) : Int) (c : Int)) ((gm l M : Nat) : Int) := by
  have hlen := h.len
  intro d
  induction d with
  | zero =>
    intro c S O hc hS hO h0 hr hO2 hcl hfin
    have g : ¬ (c : Int) < ((l.length + 1 : Nat) : Int) := by omega
    have e : O = gm l M := by
      apply bits_ext
      intro j
      rw [gm, mk_bit]
      cases q : O.testBit j with
      | true =>
        have := hO2 j q
        rw [decide_eq_true this.1, this.2.1, reachB_iff.2 this.2.2]
        rfl
      | false =>
        by_cases hj : j < l.length
        · cases hm : M.testBit j with
          | false => simp
          | true =>
            cases hb : reachB l.length (kA l) (kB l) M 0 (kA l j) with
            | false => simp
            | true =>
              have := hfin rfl j hj hm (reachB_iff.1 hb)
              rw [q] at this
              cases this
        · rw [decide_eq_false hj]; rfl
    rw [← e]
    refine Ev.step (fun k => ?_) (Ev.now _)
    simp only [impl_grounded.l0, if_neg g]
  | succ d ih =>
    intro c S O hc hS hO h0 hr hO2 hcl hfin
    have g : (c : Int) < ((l.length + 1 : Nat) : Int) := by omega
    obtain ⟨S', O', p1, p2, p3, p4, p5, p6, p7⟩ := grounded_in l h M hM l.length 0 S O (by omega) hS hO hr
    refine Ev.step (fun k => ?_) (p7 ((l.length + 1 : Nat) : Int) (c : Int) _ ?_)
    · simp only [impl_grounded.l0, if_pos g]
      rfl
    · rw [wsucc c (by omega)]
      refine ih (c + 1) S' O' (by omega) p1 p2 (p3.sub _ h0) p3.ok (fun j hj => ?_) (rnd_round p3 h0 hcl) (fun hd j hj hm hrj => ?_)
      · rcases p4 j hj with q | q
        · exact hO2 j q
        · exact q
      · have hcn : Closed l.length (kA l) (kB l) M S := hcl.elim id (fun q => used_full (by omega))
        exact p6 j (Nat.zero_le _) hj hm (.inl (closed_reach hcn h0 hrj))
theorem grounded_ev : Ev (fun k => impl_grounded.f k l (M : Int)) ((gm l M : Nat) : Int) := by
  have hlen := h.len
  unfold impl_grounded.f
  rw [wsucc l.length (by omega)]
  have := grounded_out l h M hM (l.length + 1) 0 1 0 (by omega) (by decide) (by decide) (by decide) (fun x hx => by
    have : x = 0 := by
      by_cases e : x = 0
      · exact e
      · have h1 : Nat.testBit 1 x = decide (x = 0) := Nat.testBit_one_eq_true_iff_self_eq_zero.elim (by
          cases q : Nat.testBit 1 x <;> simp [Nat.testBit_one_eq_true_iff_self_eq_zero] at * <;> simp_all)
        rw [h1] at hx
        exact absurd (of_decide_eq_true hx) e
    subst this
    exact .here) (fun j hj => by rw [Nat.zero_testBit] at hj; cases hj) (.inr (Nat.zero_le _)) (fun hd => by omega)
  simpa using this
end

/-! ### knots, by a list that grows -/
theorem nodup_bound : ∀ (n : Nat) (F : List Nat), F.Nodup → (∀ x ∈ F, x < n) → F.length ≤ n
  | 0, F, _, h => by
    cases F with
    | nil => simp
    | cons x F => exact absurd (h x (by simp)) (by omega)
  | n + 1, F, hn, h => by
    have h1 : (F.filter fun x => x != n).length ≤ n := nodup_bound n _ (hn.filter _) (fun x hx => by
      have := List.mem_filter.1 hx
      have h2 := h x this.1
      have h3 : x ≠ n := by simpa using this.2
      omega)
    have h2 : F.length ≤ (F.filter fun x => x != n).length + 1 := by
      clear h h1
      induction F with
      | nil => simp
      | cons x F ih =>
        have hx := List.nodup_cons.1 hn
        by_cases e : x = n
        · subst e
          have : F.filter (fun y => y != x) = F := List.filter_eq_self.2 (fun y hy => by
            have : y ≠ x := fun q => hx.1 (q ▸ hy)
            simpa using this)
          rw [List.filter_cons_of_neg (by simp), this, List.length_cons]
          omega
        · rw [List.filter_cons_of_pos (by simpa using e), List.length_cons, List.length_cons]
          have := ih hx.2
          omega
    omega
/-- Knots as Go's whole numbers. -/
def cz (F : List Nat) : List Int := F.map fun x : Nat => (x : Int)
theorem cz_length (F : List Nat) : (cz F).length = F.length := by simp [cz]
theorem cz_snoc (F : List Nat) (x : Nat) : cz F ++ [(x : Int)] = cz (F ++ [x]) := by simp [cz]
theorem cz_rd (F : List Nat) (i : Nat) (h : i < F.length) : rd (cz F) (i : Int) = (F[i] : Int) := by
  simp [rd, cz, List.getD_eq_getElem?_getD, h]
theorem has_l (F : List Nat) (x : Nat) (hF : F.length < 2 ^ 60) : ∀ (d j : Nat), j + d = F.length → Ev (fun k => spec_l1Has.l0 k (x : Int) (cz F) ((cz F).length : Int) (j : Int)) (decide (x ∈ F.drop j)) := by
  intro d
  induction d with
  | zero =>
    intro j hj
    have c : ¬ (j : Int) < ((cz F).length : Int) := by rw [cz_length]; omega
    rw [List.drop_eq_nil_of_le (by omega)]
    refine Ev.step (fun k => ?_) (Ev.now _)
    simp only [spec_l1Has.l0, if_neg c]
    simp
  | succ d ih =>
    intro j hj
    have g1 : (j : Int) < ((cz F).length : Int) := by rw [cz_length]; omega
    have g2 : (0 : Int) ≤ (j : Int) := Int.natCast_nonneg _
    have hjl : j < F.length := by omega
    rw [List.drop_eq_getElem_cons hjl]
    by_cases e : F[j] = x
    · refine Ev.step (fun k => ?_) (Ev.now _)
      simp only [spec_l1Has.l0, if_pos g1, if_pos g2, cz_rd F j hjl, e, if_true]
      simp
    · have e' : ¬ (F[j] : Int) = (x : Int) := by omega
      have hd : decide (x ∈ F[j] :: F.drop (j + 1)) = decide (x ∈ F.drop (j + 1)) := by
        have : ¬ x = F[j] := fun q => e q.symm
        exact decide_eq_decide.2 ⟨fun q => (List.mem_cons.1 q).resolve_left this, List.mem_cons_of_mem _⟩
      have hw : wrap64 ((j : Int) + 1) = ((j + 1 : Nat) : Int) := wsucc j (by omega)
      rw [hd]
      refine Ev.step (fun k => ?_) (ih (j + 1) (by clear hw; omega))
      simp only [spec_l1Has.l0, if_pos g1, if_pos g2, cz_rd F j hjl, if_neg e', hw]
theorem has_ev (F : List Nat) (x : Nat) (hF : F.length < 2 ^ 60) : Ev (fun k => spec_l1Has.f k (cz F) (x : Int)) (decide (x ∈ F)) := by
  have := has_l F x hF F.length 0 (by omega)
  rwa [List.drop_zero] at this
section
variable (l : List S36) (h : Ok l) (M a : Nat)
/-- What is found so far. -/
structure Inv (l : List S36) (M a : Nat) (F : List Nat) : Prop where
  nodup : F.Nodup
  le12 : ∀ x ∈ F, x < 13
  ok : ∀ x ∈ F, Hangs l.length (kA l) (kB l) M a x
theorem Inv.len {l : List S36} {M a : Nat} {F : List Nat} (q : Inv l M a F) : F.length ≤ 13 := nodup_bound 13 F q.nodup q.le12
theorem Inv.snoc {l : List S36} {M a : Nat} {F : List Nat} (q : Inv l M a F) {x : Nat} (hx : x ∉ F) (h12 : x < 13) (hr : Hangs l.length (kA l) (kB l) M a x) : Inv l M a (F ++ [x]) := by
  refine ⟨?_, fun y hy => ?_, fun y hy => ?_⟩
  · rw [List.nodup_append]
    refine ⟨q.nodup, by simp, fun y hy z hz => ?_⟩
    have : z = x := by simpa using hz
    subst this
    exact fun e => hx (e ▸ hy)
  · rcases List.mem_append.1 hy with hy | hy
    · exact q.le12 y hy
    · have : y = x := by simpa using hy
      subst this; exact h12
  · rcases List.mem_append.1 hy with hy | hy
    · exact q.ok y hy
    · have : y = x := by simpa using hy
      subst this; exact hr
include h
theorem knots_in (kk v : Nat) : ∀ (d i : Nat) (F : List Nat), i + d = l.length → Inv l M a F → ∀ hk : kk < F.length, F[kk] = v →
    ∃ F' : List Nat, Inv l M a F' ∧ F <+: F' ∧ (∀ j, i ≤ j → j < l.length → M.testBit j = true → (kA l j = v → kB l j ∈ F') ∧ (kB l j = v → kA l j ∈ F')) ∧
      ∀ r, Ev (fun k => spec_grKnots.l0 k l (bl l.length M) (cz F') ((kk + 1 : Nat) : Int)) r → Ev (fun k => spec_grKnots.l1 k l (bl l.length M) (cz F) (kk : Int) l (l.length : Int) (i : Int)) r := by
  have hlen := h.len
  intro d
  induction d with
  | zero =>
    intro i F hi q hk hv
    have c : ¬ (i : Int) < (l.length : Int) := by omega
    have hkk := q.len
    have hw : wrap64 ((kk : Int) + 1) = ((kk + 1 : Nat) : Int) := wsucc kk (by omega)
    refine ⟨F, q, List.prefix_refl _, fun j h1 h2 => by clear hw; omega, fun r he => Ev.step (fun k => ?_) he⟩
    simp only [spec_grKnots.l1, if_neg c, hw]
  | succ d ih =>
    intro i F hi q hk hv
    have hq := q.len
    have g1 : (i : Int) < (l.length : Int) := by omega
    have g2 : (0 : Int) ≤ (i : Int) := Int.natCast_nonneg _
    have hil : i < l.length := by omega
    have g3 : (i : Int) < ((bl l.length M).length : Int) := by rw [bl_length]; exact g1
    have g4 : (0 : Int) ≤ (kk : Int) := Int.natCast_nonneg _
    have g5 : (kk : Int) < ((cz F).length : Int) := by rw [cz_length]; omega
    have g6 : (cz F).length < 17592186044416 := by rw [cz_length]; omega
    have hbl := bl_rd l.length M i hil
    have hrv : rd (cz F) (kk : Int) = (v : Int) := by rw [cz_rd F kk hk, hv]
    have hvF : v ∈ F := by rw [← hv]; exact List.getElem_mem hk
    have hw : wrap64 ((i : Int) + 1) = ((i + 1 : Nat) : Int) := wsucc i (by omega)
    cases hm : M.testBit i with
    | false =>
      obtain ⟨F', p1, p2, p3, p4⟩ := ih (i + 1) F (by clear hw; omega) q hk hv
      refine ⟨F', p1, p2, fun j h1 h2 h3 => ?_, fun r he => Ev.step (fun k => ?_) (p4 r he)⟩
      · by_cases e : j = i
        · subst e; rw [hm] at h3; cases h3
        · exact p3 j (by clear hw; omega) h2 h3
      · simp only [spec_grKnots.l1, if_pos g1, if_pos g2, if_pos g3, hbl, hm, Bool.false_eq_true, if_false, hw]
    | true =>
      have hb13 : kB l i < 13 := by have := h.B12 i; clear hw; omega
      have ha13 : kA l i < 13 := by have := h.A12 i; clear hw; omega
      -- what is done with the twig: the list behind it, and that the walk goes on from there
      have key : ∃ F1 : List Nat, Inv l M a F1 ∧ F <+: F1 ∧ (kA l i = v → kB l i ∈ F1) ∧ (kB l i = v → kA l i ∈ F1) ∧
          ∀ r, Ev (fun k => spec_grKnots.l1 k l (bl l.length M) (cz F1) (kk : Int) l (l.length : Int) ((i + 1 : Nat) : Int)) r → Ev (fun k => spec_grKnots.l1 k l (bl l.length M) (cz F) (kk : Int) l (l.length : Int) (i : Int)) r := by
        have hasB := has_ev F (kB l i) (by clear hw; omega)
        have hasA := has_ev F (kA l i) (by clear hw; omega)
        by_cases eA : kA l i = v
        · have eA' : ((kA l i : Nat) : Int) = (v : Int) := by rw [eA]
          by_cases mB : kB l i ∈ F
          · -- nothing new
            refine ⟨F, q, List.prefix_refl _, fun _ => mB, fun _ => eA ▸ hvF, fun r he => Ev.step (f := ?fu1) (fun k => ?eu1) ?vu1⟩
            case eu1 => conv => lhs; simp only [spec_grKnots.l1, if_pos g1, if_pos g2, if_pos g3, hbl, hm, if_true, if_pos g4, if_pos g5, hrv, h.fA, h.fB, if_pos eA']
            case vu1 =>
              refine Ev.bind hasB ?_
              rw [decide_eq_true mB]
              by_cases eB : kB l i = v
              · have eB' : ((kB l i : Nat) : Int) = (v : Int) := by rw [eB]
                refine Ev.step (f := ?f2u2) (fun k => ?e2u2) ?v2u2
                case e2u2 => conv => lhs; simp only [spec_grKnots.j2, Bool.not_true, Bool.false_eq_true, if_false, if_pos g4, if_pos g5, hrv, if_pos eB']
                case v2u2 =>
                  refine Ev.bind hasA ?_
                  rw [decide_eq_true (eA ▸ hvF)]
                  simp only [if_true, hw]
                  exact he
              · have eB' : ¬ ((kB l i : Nat) : Int) = (v : Int) := by clear hw; omega
                refine Ev.step (fun k => ?_) he
                simp only [spec_grKnots.j2, Bool.not_true, Bool.false_eq_true, if_false, if_pos g4, if_pos g5, hrv, if_neg eB', hw]
          · have nB : kB l i ≠ v := fun e => mB (e ▸ hvF)
            have eB' : ¬ ((kB l i : Nat) : Int) = (v : Int) := by clear hw; omega
            have hr : Hangs l.length (kA l) (kB l) M a (kB l i) := .up hil hm (eA ▸ q.ok v hvF)
            have q1 := q.snoc mB hb13 hr
            have g5' : (kk : Int) < ((cz (F ++ [kB l i])).length : Int) := by rw [cz_length, List.length_append]; clear hw; omega
            have hrv' : rd (cz (F ++ [kB l i])) (kk : Int) = (v : Int) := by
              rw [cz_rd _ kk (by rw [List.length_append]; clear hw; omega), List.getElem_append_left hk, hv]
            refine ⟨F ++ [kB l i], q1, List.prefix_append _ _, fun _ => by simp, fun e => absurd e nB, fun r he => Ev.step (f := ?fu3) (fun k => ?eu3) ?vu3⟩
            case eu3 => conv => lhs; simp only [spec_grKnots.l1, if_pos g1, if_pos g2, if_pos g3, hbl, hm, if_true, if_pos g4, if_pos g5, hrv, h.fA, h.fB, if_pos eA']
            case vu3 =>
              refine Ev.bind hasB ?_
              rw [decide_eq_false mB]
              refine Ev.step (fun k => ?_) he
              simp only [spec_grKnots.j2, Bool.not_false, if_true, if_pos g6, cz_snoc, Option.bind_some, if_pos g4, if_pos g5', hrv', if_neg eB', hw]
        · have eA' : ¬ ((kA l i : Nat) : Int) = (v : Int) := by clear hw; omega
          by_cases eB : kB l i = v
          · have eB' : ((kB l i : Nat) : Int) = (v : Int) := by rw [eB]
            by_cases mA : kA l i ∈ F
            · refine ⟨F, q, List.prefix_refl _, fun e => absurd e eA, fun _ => mA, fun r he => Ev.step (f := ?fu4) (fun k => ?eu4) ?vu4⟩
              case eu4 => conv => lhs; simp only [spec_grKnots.l1, if_pos g1, if_pos g2, if_pos g3, hbl, hm, if_true, if_pos g4, if_pos g5, hrv, h.fA, h.fB, if_neg eA']
              case vu4 =>
                refine Ev.step (f := ?f2u5) (fun k => ?e2u5) ?v2u5
                case e2u5 => conv => lhs; simp only [spec_grKnots.j2, Bool.false_eq_true, if_false, if_pos g4, if_pos g5, hrv, if_pos eB']
                case v2u5 =>
                  refine Ev.bind hasA ?_
                  rw [decide_eq_true mA]
                  simp only [if_true, hw]
                  exact he
            · have hr : Hangs l.length (kA l) (kB l) M a (kA l i) := .down hil hm (eB ▸ q.ok v hvF)
              refine ⟨F ++ [kA l i], q.snoc mA ha13 hr, List.prefix_append _ _, fun e => absurd e eA, fun _ => by simp, fun r he => Ev.step (f := ?fu6) (fun k => ?eu6) ?vu6⟩
              case eu6 => conv => lhs; simp only [spec_grKnots.l1, if_pos g1, if_pos g2, if_pos g3, hbl, hm, if_true, if_pos g4, if_pos g5, hrv, h.fA, h.fB, if_neg eA']
              case vu6 =>
                refine Ev.step (f := ?f2u7) (fun k => ?e2u7) ?v2u7
                case e2u7 => conv => lhs; simp only [spec_grKnots.j2, Bool.false_eq_true, if_false, if_pos g4, if_pos g5, hrv, if_pos eB']
                case v2u7 =>
                  refine Ev.bind hasA ?_
                  rw [decide_eq_false mA]
                  simp only [Bool.false_eq_true, if_false, if_pos g6, cz_snoc, hw]
                  exact he
          · have eB' : ¬ ((kB l i : Nat) : Int) = (v : Int) := by clear hw; omega
            refine ⟨F, q, List.prefix_refl _, fun e => absurd e eA, fun e => absurd e eB, fun r he => Ev.step (f := ?fu8) (fun k => ?eu8) ?vu8⟩
            case eu8 => conv => lhs; simp only [spec_grKnots.l1, if_pos g1, if_pos g2, if_pos g3, hbl, hm, if_true, if_pos g4, if_pos g5, hrv, h.fA, h.fB, if_neg eA']
            case vu8 =>
              refine Ev.step (fun k => ?_) he
              simp only [spec_grKnots.j2, Bool.false_eq_true, if_false, if_pos g4, if_pos g5, hrv, if_neg eB', hw]
      obtain ⟨F1, q1, pre, d1, d2, next⟩ := key
      have hk1 : kk < F1.length := Nat.lt_of_lt_of_le hk pre.length_le
      have hv1 : F1[kk] = v := by
        obtain ⟨t, rfl⟩ := pre
        rw [List.getElem_append_left hk, hv]
      obtain ⟨F', p1, p2, p3, p4⟩ := ih (i + 1) F1 (by clear hw; omega) q1 hk1 hv1
      refine ⟨F', p1, pre.trans p2, fun j h1 h2 h3 => ?_, fun r he => next r (p4 r he)⟩
      by_cases e : j = i
      · subst e; exact ⟨fun e => p2.subset (d1 e), fun e => p2.subset (d2 e)⟩
      · exact p3 j (by clear hw; omega) h2 h3
theorem knots_out : ∀ (d kk : Nat) (F : List Nat), kk + d = 13 → Inv l M a F → a ∈ F → kk ≤ F.length →
    (∀ m, m < kk → ∀ hm : m < F.length, ∀ j, j < l.length → M.testBit j = true → (kA l j = F[m] → kB l j ∈ F) ∧ (kB l j = F[m] → kA l j ∈ F)) →
    ∃ R : List Nat, Ev (fun k => spec_grKnots.l0 k l (bl l.length M) (cz F) (kk : Int)) (cz R) ∧ R.length ≤ 13 ∧ ∀ x, x ∈ R ↔ Hangs l.length (kA l) (kB l) M a x := by
  have stop : ∀ (kk : Nat) (F : List Nat), Inv l M a F → a ∈ F → kk = F.length →
      (∀ m, m < kk → ∀ hm : m < F.length, ∀ j, j < l.length → M.testBit j = true → (kA l j = F[m] → kB l j ∈ F) ∧ (kB l j = F[m] → kA l j ∈ F)) →
      ∃ R : List Nat, Ev (fun k => spec_grKnots.l0 k l (bl l.length M) (cz F) (kk : Int)) (cz R) ∧ R.length ≤ 13 ∧ ∀ x, x ∈ R ↔ Hangs l.length (kA l) (kB l) M a x := by
    intro kk F q ha hk hd
    have c : ¬ (kk : Int) < ((cz F).length : Int) := by rw [cz_length]; omega
    refine ⟨F, Ev.step (fun k => ?_) (Ev.now _), q.len, fun x => ⟨q.ok x, fun hx => ?_⟩⟩
    · simp only [spec_grKnots.l0, if_neg c]
    · induction hx with
      | here => exact ha
      | up hi hM _ ih =>
        obtain ⟨m, hm, e⟩ := List.mem_iff_getElem.1 ih
        exact (hd m (by omega) hm _ hi hM).1 e.symm
      | down hi hM _ ih =>
        obtain ⟨m, hm, e⟩ := List.mem_iff_getElem.1 ih
        exact (hd m (by omega) hm _ hi hM).2 e.symm
  intro d
  induction d with
  | zero =>
    intro kk F hk q ha hkl hd
    have := q.len
    exact stop kk F q ha (by omega) hd
  | succ d ih =>
    intro kk F hk q ha hkl hd
    by_cases hlt : kk < F.length
    · have g : (kk : Int) < ((cz F).length : Int) := by rw [cz_length]; omega
      obtain ⟨F', p1, p2, p3, p4⟩ := knots_in l h M a kk F[kk] l.length 0 F (by omega) q hlt rfl
      have hl' := p2.length_le
      obtain ⟨R, r1, r2⟩ := ih (kk + 1) F' (by omega) p1 (p2.subset ha) (by omega) (fun m hm hm' j hj hM => by
        obtain ⟨t, rfl⟩ := p2
        by_cases e : m = kk
        · subst e
          rw [List.getElem_append_left hlt]
          exact p3 j (Nat.zero_le _) hj hM
        · have hmF : m < F.length := by omega
          rw [List.getElem_append_left hmF]
          have := hd m (by omega) hmF j hj hM
          exact ⟨fun e => List.mem_append_left _ (this.1 e), fun e => List.mem_append_left _ (this.2 e)⟩)
      refine ⟨R, Ev.step (fun k => ?_) (p4 _ r1), r2⟩
      simp only [spec_grKnots.l0, if_pos g]
      rfl
    · exact stop kk F q ha (by omega) hd
theorem knots_ev (ha : a < 13) : ∃ R : List Nat, Ev (fun k => spec_grKnots.f k l (bl l.length M) (a : Int)) (cz R) ∧ R.length ≤ 13 ∧ ∀ x, x ∈ R ↔ Hangs l.length (kA l) (kB l) M a x :=
  knots_out l h M a 13 0 [a] (by omega)
    ⟨by simp, fun x hx => (show x < 13 from by rw [List.mem_singleton.1 hx]; exact ha), fun x hx => (by rw [List.mem_singleton.1 hx]; exact .here)⟩ (by simp) (by simp) (fun m hm => by omega)
end

/-! ### the same by lists of bools; what is chosen -/
theorem bl_succ (n M : Nat) : bl (n + 1) M = bl n M ++ [M.testBit n] := by simp [bl, List.range_succ]
theorem ground_l (l : List S36) (h : Ok l) (M : Nat) (R : List Nat) (hR : R.length ≤ 13) (hm : ∀ x, x ∈ R ↔ Hangs l.length (kA l) (kB l) M 0 x) : ∀ (d i : Nat), i + d = l.length →
    Ev (fun k => spec_grGround.l0 k (bl l.length M) (cz R) (bl i (gm l M)) l (l.length : Int) (i : Int)) (bl l.length (gm l M)) := by
  have hlen := h.len
  intro d
  induction d with
  | zero =>
    intro i hi
    have c : ¬ (i : Int) < (l.length : Int) := by omega
    have e : i = l.length := by omega
    subst e
    refine Ev.step (fun k => ?_) (Ev.now _)
    simp only [spec_grGround.l0, if_neg c]
  | succ d ih =>
    intro i hi
    have g1 : (i : Int) < (l.length : Int) := by omega
    have g2 : (0 : Int) ≤ (i : Int) := Int.natCast_nonneg _
    have hil : i < l.length := by omega
    have g3 : (i : Int) < ((bl l.length M).length : Int) := by rw [bl_length]; exact g1
    have g4 : (bl i (gm l M)).length < 140737488355328 := by rw [bl_length]; omega
    have hbl := bl_rd l.length M i hil
    have hw : wrap64 ((i : Int) + 1) = ((i + 1 : Nat) : Int) := wsucc i (by omega)
    have hg : (gm l M).testBit i = (M.testBit i && reachB l.length (kA l) (kB l) M 0 (kA l i)) := by
      rw [gm, mk_bit, decide_eq_true hil, Bool.true_and]
    have next := ih (i + 1) (by clear hw; omega)
    rw [bl_succ, hg] at next
    cases hM : M.testBit i with
    | false =>
      rw [hM, Bool.false_and] at next
      refine Ev.step (fun k => ?_) next
      simp only [spec_grGround.l0, if_pos g1, if_pos g2, if_pos g3, hbl, hM, Bool.false_eq_true, if_false, if_pos g4, hw]
    | true =>
      rw [hM, Bool.true_and] at next
      have hb : reachB l.length (kA l) (kB l) M 0 (kA l i) = decide (kA l i ∈ R) := by
        cases q : reachB l.length (kA l) (kB l) M 0 (kA l i) with
        | true => exact (decide_eq_true ((hm _).2 (reachB_iff.1 q))).symm
        | false =>
          refine (decide_eq_false fun z => ?_).symm
          have := reachB_iff.2 ((hm _).1 z)
          rw [q] at this
          cases this
      rw [hb] at next
      refine Ev.step (f := ?fu1) (fun k => ?eu1) ?vu1
      case eu1 => conv => lhs; simp only [spec_grGround.l0, if_pos g1, if_pos g2, if_pos g3, hbl, hM, if_true, h.fA, if_pos g4, hw]
      case vu1 => exact Ev.bind (has_ev R (kA l i) (by clear hw; omega)) next
theorem ground_ev (l : List S36) (h : Ok l) (M : Nat) : Ev (fun k => spec_grGround.f k l (bl l.length M)) (bl l.length (gm l M)) := by
  obtain ⟨R, r1, r2, r3⟩ := knots_ev l h M 0 (by decide)
  unfold spec_grGround.f
  exact Ev.bind r1 (ground_l l h M R r2 r3 l.length 0 (by omega))
/-- All twigs. -/
def am (n : Nat) : Nat := mk n fun _ => true
theorem all_l (n : Nat) (hn : n ≤ 14) : ∀ (d i : Nat), i + d = n → Ev (fun k => spec_grAll.l0 k (bl i (am n)) (n : Int) (i : Int)) (bl n (am n)) := by
  intro d
  induction d with
  | zero =>
    intro i hi
    have c : ¬ (i : Int) < (n : Int) := by omega
    have e : i = n := by omega
    subst e
    refine Ev.step (fun k => ?_) (Ev.now _)
    simp only [spec_grAll.l0, if_neg c]
  | succ d ih =>
    intro i hi
    have g1 : (i : Int) < (n : Int) := by omega
    have g4 : (bl i (am n)).length < 140737488355328 := by rw [bl_length]; omega
    have hg : (am n).testBit i = true := by rw [am, mk_bit, decide_eq_true (by omega)]; rfl
    have next := ih (i + 1) (by omega)
    rw [bl_succ, hg] at next
    have hw : wrap64 ((i : Int) + 1) = ((i + 1 : Nat) : Int) := wsucc i (by omega)
    refine Ev.step (fun k => ?_) next
    simp only [spec_grAll.l0, if_pos g1, if_pos g4, hw]
theorem specAll_ev (l : List S36) (h : Ok l) : Ev (fun k => spec_grAll.f k l) (bl l.length (am l.length)) := all_l l.length h.len l.length 0 (by omega)
theorem am_eq (n : Nat) : am n = 2 ^ n - 1 := by
  apply bits_ext
  intro j
  rw [am, mk_bit, Bool.and_true, Nat.testBit_two_pow_sub_one]
theorem implAll (l : List S36) (h : Ok l) : impl_all.f l = some ((am l.length : Nat) : Int) := by
  have hlen := h.len
  have hp : 2 ^ l.length ≤ 2 ^ 14 := Nat.pow_le_pow_right (by decide) hlen
  have h1 : 1 ≤ 2 ^ l.length := Nat.two_pow_pos _
  unfold impl_all.f
  rw [shl_one l.length (by omega), am_eq]
  congr 1
  have e : ((2 ^ l.length : Nat) : Int) - 1 = ((2 ^ l.length - 1 : Nat) : Int) := by omega
  rw [e]
  exact u64_small _ (by omega)
theorem am_lt (n : Nat) (h : n ≤ 14) : am n < 2 ^ 64 := Nat.lt_of_lt_of_le (mk_lt _ _) (Nat.pow_le_pow_right (by decide) (by omega))
theorem gm_lt (l : List S36) (h : Ok l) (M : Nat) : gm l M < 2 ^ 64 := Nat.lt_of_lt_of_le (mk_lt _ _) (Nat.pow_le_pow_right (by decide) (by have := h.len; omega))

/-! ### a twig is cut -/
theorem bl_set (n M c i : Nat) (hc : ∀ j, c.testBit j = (M.testBit j && !decide (j = i))) : (bl n M).set i false = bl n c := by
  apply List.ext_getElem?
  intro j
  rw [List.getElem?_set]
  by_cases e : i = j
  · subst e
    rw [if_pos rfl, bl_length]
    by_cases h : i < n
    · rw [if_pos h]
      simp [bl, h, hc]
    · rw [if_neg h, List.getElem?_eq_none (by rw [bl_length]; omega)]
  · rw [if_neg e]
    have : ¬ j = i := fun q => e q.symm
    by_cases hj : j < n
    · simp [bl, hc, this, hj]
    · rw [List.getElem?_eq_none (by rw [bl_length]; omega), List.getElem?_eq_none (by rw [bl_length]; omega)]
theorem minus_u (M i : Nat) (hM : M < 2 ^ 64) (hi : i < 64) : ∃ c : Nat, bits .andNot .u64 (M : Int) (shl .u64 1 (i : Int)) = (c : Int) ∧ c < 2 ^ 64 ∧ ∀ j, c.testBit j = (M.testBit j && !decide (j = i)) := by
  obtain ⟨c, h1, h2, h3⟩ := andNot_u M (2 ^ i) hM
  refine ⟨c, by rw [shl_one i hi]; exact h1, h2, fun j => ?_⟩
  rw [h3, Nat.testBit_two_pow]
  congr 2
  exact decide_eq_decide.2 ⟨fun h => h.symm, fun h => h.symm⟩

theorem specCut_ev (l : List S36) (h : Ok l) (M c i : Nat) (hi : i < l.length) (hc : ∀ j, c.testBit j = (M.testBit j && !decide (j = i))) : Ev (fun k => spec_grCut.f k l (bl l.length M) (i : Int)) (bl l.length (gm l c)) := by
  have hlen := h.len
  have g1 : ([] : List Bool).length + (bl l.length M).length < 140737488355328 := by rw [bl_length]; simp; omega
  have g2 : (0 : Int) ≤ (i : Int) := Int.natCast_nonneg _
  have g3 : (i : Int) < (([] ++ bl l.length M : List Bool).length : Int) := by rw [List.nil_append, bl_length]; omega
  unfold spec_grCut.f
  simp only [Option.bind_some, if_pos g1, if_pos g2, if_pos g3]
  rw [List.nil_append, Int.toNat_natCast, bl_set l.length M c i hc]
  exact Ev.bind (ground_ev l h c) (Ev.now _)

/-! ### a set without a twig -/
def mn (M i : Nat) : Nat := mk 64 fun j => M.testBit j && !decide (j = i)
theorem mn_bit (M i : Nat) (hM : M < 2 ^ 64) (j : Nat) : (mn M i).testBit j = (M.testBit j && !decide (j = i)) := by
  rw [mn, mk_bit]
  by_cases hj : j < 64
  · rw [decide_eq_true hj, Bool.true_and]
  · have : M.testBit j = false := Nat.testBit_lt_two_pow (Nat.lt_of_lt_of_le hM (Nat.pow_le_pow_right (by decide) (by omega)))
    rw [decide_eq_false hj, this]; rfl
theorem mn_lt (M i : Nat) : mn M i < 2 ^ 64 := mk_lt _ _
theorem minus_mn (M i : Nat) (hM : M < 2 ^ 64) (hi : i < 64) : bits .andNot .u64 (M : Int) (shl .u64 1 (i : Int)) = ((mn M i : Nat) : Int) := by
  obtain ⟨c, h1, _, h3⟩ := minus_u M i hM hi
  rw [h1]
  congr 1
  apply bits_ext
  intro j
  rw [h3, mn_bit M i hM]

/-! ### values by play -/
theorem ev_uniq {α : Type} {g : Nat → Option α} {a b : α} (h1 : Ev g a) (h2 : Ev g b) : a = b := by
  obtain ⟨K1, q1⟩ := h1
  obtain ⟨K2, q2⟩ := h2
  exact Option.some.inj ((q1 (K1 + K2) (by omega)).symm.trans (q2 (K1 + K2) (by omega)))
theorem two_cast (i : Nat) : ((2 : Int) ^ i) = ((2 ^ i : Nat) : Int) := by rw [Int.natCast_pow]; rfl
theorem ibit (M i : Nat) (hM : M < 2 ^ 64) (hi : i < 64) : (bits .and .u64 ((M : Int) / 2 ^ i) 1 = 1) = (M.testBit i = true) := by
  have e : (M : Int) / 2 ^ i = shr .u64 (M : Int) (i : Int) := by
    rw [shr_u M i hi, two_cast, Int.natCast_ediv]
  rw [e, bit1 M i hM hi]
theorem iwrap (i : Nat) (hi : i < 64) : IntKind.u64.wrap (2 ^ i) = shl .u64 1 (i : Int) := by
  rw [shl_one i hi, two_cast]
  exact u64_small _ (Nat.pow_lt_pow_right (by decide) hi)
noncomputable def gc (l : List S36) (M i : Nat) : Nat := gm l (mn M i)
def V (l : List S36) (M v : Nat) : Prop := Ev (fun k => impl_grundy.f k l (M : Int)) ((v : Nat) : Int)
def W (l : List S36) (M i : Nat) (vs : List Nat) : Prop := Ev (fun k => impl_grundy.vals (impl_grundy.f k l) (impl_grounded.f k l) (M : Int) i) (cz vs)
theorem sub_le {a b : Nat} (h : ∀ j, a.testBit j = true → b.testBit j = true) : a ≤ b := by
  have e : a = a &&& b := by
    apply Nat.eq_of_testBit_eq
    intro j
    rw [Nat.testBit_and]
    cases q : a.testBit j with
    | false => rfl
    | true => rw [h j q]; rfl
  rw [e]
  exact Nat.and_le_right
theorem gc_lt (l : List S36) (M i : Nat) (hM : M < 2 ^ 64) (hb : M.testBit i = true) : gc l M i < M := by
  have h1 : gc l M i ≤ mn M i := sub_le (fun j hj => by
    unfold gc gm at hj
    rw [mk_bit] at hj
    simp only [Bool.and_eq_true] at hj
    exact hj.2.1)
  have h2 : mn M i ≤ M := sub_le (fun j hj => by
    rw [mn_bit M i hM] at hj
    simp only [Bool.and_eq_true] at hj
    exact hj.1)
  have h3 : mn M i ≠ M := fun e => by
    have := mn_bit M i hM i
    rw [e, hb] at this
    simp at this
  omega
theorem gm_bd (l : List S36) (M : Nat) : gm l M < 2 ^ l.length := mk_lt _ _
theorem W_zero (l : List S36) (M : Nat) : W l M 0 [] := Ev.now _
theorem W_bit {l : List S36} (h : Ok l) {M i v : Nat} {vs : List Nat} (hM : M < 2 ^ 64) (hi : i < l.length) (hb : M.testBit i = true) (hv : V l (gc l M i) v) (hW : W l M i vs) : W l M (i + 1) (vs ++ [v]) := by
  have hlen := h.len
  have c : bits .and .u64 ((M : Int) / 2 ^ i) 1 = 1 := by rw [ibit M i hM (by omega)]; exact hb
  have e : bits .andNot .u64 (M : Int) (IntKind.u64.wrap (2 ^ i)) = ((mn M i : Nat) : Int) := by rw [iwrap i (by omega)]; exact minus_mn M i hM (by omega)
  unfold W
  rw [← cz_snoc]
  have h2 : Ev (fun k => (impl_grounded.f k l ((mn M i : Nat) : Int)).bind fun s => (impl_grundy.f k l s).bind fun v => some (cz vs ++ [v])) (cz vs ++ [(v : Int)]) := Ev.bind (grounded_ev l h (mn M i) (mn_lt M i)) (Ev.bind hv (Ev.now _))
  refine Ev.congr (fun k => ?_) (Ev.bind (f := fun k ws => (impl_grounded.f k l ((mn M i : Nat) : Int)).bind fun s => (impl_grundy.f k l s).bind fun v => some (ws ++ [v])) hW h2)
  show (impl_grundy.vals (impl_grundy.f k l) (impl_grounded.f k l) (M : Int) i).bind _ = _
  congr 1
  funext ws
  rw [if_pos c, e]
theorem W_no {l : List S36} (h : Ok l) {M i : Nat} {vs : List Nat} (hM : M < 2 ^ 64) (hi : i < l.length) (hb : M.testBit i = false) (hW : W l M i vs) : W l M (i + 1) vs := by
  have hlen := h.len
  have c : ¬ bits .and .u64 ((M : Int) / 2 ^ i) 1 = 1 := by rw [ibit M i hM (by omega), hb]; decide
  unfold W
  refine Ev.congr (fun k => ?_) (Ev.bind (f := fun _ ws => some ws) hW (Ev.now _))
  show (impl_grundy.vals (impl_grundy.f k l) (impl_grounded.f k l) (M : Int) i).bind _ = _
  congr 1
  funext ws
  rw [if_neg c]
theorem V_of_W {l : List S36} {M : Nat} {vs : List Nat} (hM : M < 16384) (hW : W l M l.length vs) : V l M (Go.Proofs.Ytnkaipnnbdgkkaa.Mp.mex (cz vs)) := by
  have c : 0 ≤ (M : Int) ∧ (M : Int) < 16384 := by omega
  refine Ev.step (f := fun k => (impl_grundy.vals (impl_grundy.f k l) (impl_grounded.f k l) (M : Int) l.length).bind fun vs => some ((Go.Proofs.Ytnkaipnnbdgkkaa.Mp.mex vs : Nat) : Int)) (fun k => ?_) (Ev.bind hW (Ev.now _))
  show (if 0 ≤ (M : Int) ∧ (M : Int) < 16384 then _ else _) = _
  rw [if_pos c]
theorem pow14 {l : List S36} (h : Ok l) : 2 ^ l.length ≤ 16384 := Nat.le_trans (Nat.pow_le_pow_right (by decide) h.len) (by decide)
theorem V_ex {l : List S36} (h : Ok l) : ∀ M, M < 2 ^ l.length → ∃ v : Nat, V l M v ∧ v ≤ 14 := by
  intro M
  induction M using Nat.strongRecOn with
  | ind M ih =>
    intro hM
    have hp := pow14 h
    have hlen := h.len
    have loop : ∀ i, i ≤ l.length → ∃ vs, W l M i vs ∧ vs.length ≤ i := by
      intro i
      induction i with
      | zero => intro _; exact ⟨[], W_zero l M, Nat.le_refl _⟩
      | succ i ih2 =>
        intro hi
        obtain ⟨vs, h1, h2⟩ := ih2 (by omega)
        cases hb : M.testBit i with
        | false => exact ⟨vs, W_no h (by omega) (by omega) hb h1, by omega⟩
        | true =>
          obtain ⟨v, q1, _⟩ := ih (gc l M i) (gc_lt l M i (by omega) hb) (gm_bd l _)
          exact ⟨vs ++ [v], W_bit h (by omega) (by omega) hb q1 h1, by simp; omega⟩
    obtain ⟨vs, h1, h2⟩ := loop l.length (Nat.le_refl _)
    refine ⟨_, V_of_W (by omega) h1, ?_⟩
    have := Go.Proofs.Ytnkaipnnbdgkkaa.Mp.mex_le (cz vs)
    rw [cz_length] at this
    omega
theorem V_le {l : List S36} (h : Ok l) {M v : Nat} (hM : M < 2 ^ l.length) (hv : V l M v) : v ≤ 14 := by
  obtain ⟨v', h1, h2⟩ := V_ex h M hM
  have := ev_uniq hv h1
  omega
/-! ### the reference's table -/
theorem shl1 (n : Nat) (h : n ≤ 40) : shl .i64 1 (n : Int) = ((2 ^ n : Nat) : Int) := by
  have hp : 2 ^ n ≤ 2 ^ 40 := Nat.pow_le_pow_right (by decide) h
  unfold shl
  have : min ((n : Int).toNat) IntKind.i64.bits = n := by simp [IntKind.bits]; omega
  rw [this, IntKind.wrap_i64, Int.one_mul, two_cast]
  generalize 2 ^ n = q at hp ⊢
  omega
theorem mod_succ (M i : Nat) : M % 2 ^ (i + 1) = M % 2 ^ i + 2 ^ i * (M.testBit i).toNat := by
  rw [Nat.pow_succ, Nat.mod_mul, Nat.testBit_eq_decide_div_mod_eq]
  congr 2
  have : M / 2 ^ i % 2 < 2 := Nat.mod_lt _ (by decide)
  generalize M / 2 ^ i % 2 = q at this ⊢
  rcases (by omega : q = 0 ∨ q = 1) with rfl | rfl <;> rfl
theorem wadd (a b : Nat) (ha : a < 2 ^ 50) (hb : b < 2 ^ 50) : wrap64 ((a : Int) + (b : Int)) = ((a + b : Nat) : Int) := by unfold wrap64; omega
theorem wpred (v : Nat) (h : v < 2 ^ 50) : wrap64 (((v : Int) + 1) - 1) = (v : Int) := by unfold wrap64; omega
theorem mask_l (n M : Nat) (hn : n ≤ 14) : ∀ (d i : Nat), i + d = n → Ev (fun k => spec_grMask.l0 k ((M % 2 ^ i : Nat) : Int) (bl n M) (n : Int) (i : Int)) ((M % 2 ^ n : Nat) : Int) := by
  intro d
  induction d with
  | zero =>
    intro i hi
    obtain rfl : i = n := by omega
    refine Ev.step (fun k => ?_) (Ev.now _)
    simp only [spec_grMask.l0, if_neg (show ¬ (i : Int) < (i : Int) by omega)]
  | succ d ih =>
    intro i hi
    have g1 : (i : Int) < (n : Int) := by omega
    have g2 : (0 : Int) ≤ (i : Int) := Int.natCast_nonneg _
    have g3 : (i : Int) < ((bl n M).length : Int) := by rw [bl_length]; omega
    have hn' := ih (i + 1) (by omega)
    have hp : 2 ^ i ≤ 2 ^ 14 := Nat.pow_le_pow_right (by decide) (by omega)
    have hm : M % 2 ^ i < 2 ^ i := Nat.mod_lt _ (Nat.two_pow_pos _)
    rw [mod_succ] at hn'
    have hw := wsucc i (by omega)
    cases hb : M.testBit i with
    | true =>
      rw [hb] at hn'
      simp only [Bool.toNat_true, Nat.mul_one] at hn'
      refine Ev.step (fun k => ?_) hn'
      simp only [spec_grMask.l0, if_pos g1, if_pos g2, if_pos g3, bl_rd n M i (by omega), hb, if_true, shl1 i (by omega), wadd _ _ (show M % 2 ^ i < 2 ^ 50 by omega) (show 2 ^ i < 2 ^ 50 by omega), hw]
    | false =>
      rw [hb] at hn'
      simp only [Bool.toNat_false, Nat.mul_zero, Nat.add_zero] at hn'
      refine Ev.step (fun k => ?_) hn'
      simp only [spec_grMask.l0, if_pos g1, if_pos g2, if_pos g3, bl_rd n M i (by omega), hb, Bool.false_eq_true, if_false, hw]
theorem mask_ev (n M : Nat) (hn : n ≤ 14) (hM : M < 2 ^ n) : Ev (fun k => spec_grMask.f k (bl n M)) (M : Int) := by
  have := mask_l n M hn n 0 (by omega)
  rw [Nat.pow_zero, Nat.mod_one, Nat.mod_eq_of_lt hM] at this
  unfold spec_grMask.f
  rw [bl_length]
  exact this
theorem cz_has (F : List Nat) (x : Nat) : (cz F).contains (x : Int) = decide (x ∈ F) := by
  rw [Bool.eq_iff_iff, List.contains_iff_mem, decide_eq_true_iff]
  unfold cz
  rw [List.mem_map]
  constructor
  · rintro ⟨y, hy, e⟩
    rwa [← Int.ofNat_inj.1 e]
  · intro h
    exact ⟨x, h, rfl⟩
theorem mex_l (F : List Nat) (hF : F.length ≤ 14) : ∀ (d m : Nat), m + d = Go.Proofs.Ytnkaipnnbdgkkaa.Mp.mex (cz F) → Ev (fun k => spec_grMex.l0 k (cz F) (m : Int)) ((Go.Proofs.Ytnkaipnnbdgkkaa.Mp.mex (cz F) : Nat) : Int) := by
  intro d
  have hle := Go.Proofs.Ytnkaipnnbdgkkaa.Mp.mex_le (cz F)
  rw [cz_length] at hle
  induction d with
  | zero =>
    intro m hm
    have e : m = Go.Proofs.Ytnkaipnnbdgkkaa.Mp.mex (cz F) := by omega
    have hh := has_ev F m (by omega)
    have hn := Go.Proofs.Ytnkaipnnbdgkkaa.Mp.mex_not (cz F)
    rw [← e, cz_has] at hn
    rw [hn] at hh
    rw [← e]
    refine Ev.step (f := ?gga1) (fun k => ?ggb1) ?ggc1
    case ggb1 => conv => lhs; simp only [spec_grMex.l0]
    case ggc1 =>
      refine Ev.bind hh ?_
      simp only [Bool.false_eq_true, if_false]
      exact Ev.now _
  | succ d ih =>
    intro m hm
    have hh := has_ev F m (by omega)
    have hn := Go.Proofs.Ytnkaipnnbdgkkaa.Mp.mex_all (cz F) m (by omega)
    rw [cz_has] at hn
    rw [hn] at hh
    have hnx := ih (m + 1) (by omega)
    have hw := wsucc m (by omega)
    refine Ev.step (f := ?gga2) (fun k => ?ggb2) ?ggc2
    case ggb2 => conv => lhs; simp only [spec_grMex.l0]
    case ggc2 =>
      refine Ev.bind hh ?_
      simp only [if_true, hw]
      exact hnx
theorem mex_ev (F : List Nat) (hF : F.length ≤ 14) : Ev (fun k => spec_grMex.f k (cz F)) ((Go.Proofs.Ytnkaipnnbdgkkaa.Mp.mex (cz F) : Nat) : Int) := mex_l F hF (Go.Proofs.Ytnkaipnnbdgkkaa.Mp.mex (cz F)) 0 (by omega)
/-- What the table tells is right. -/
structure Tab (l : List S36) (T : List Int) : Prop where
  len : T.length = 2 ^ l.length
  at_ : ∀ M : Nat, M < 2 ^ l.length → rd T (M : Int) = 0 ∨ ∃ v : Nat, V l M v ∧ rd T (M : Int) = (v : Int) + 1
theorem rd_set (T : List Int) (i : Nat) (v : Int) (h : i < T.length) (j : Nat) : rd (T.set i v) (j : Int) = if j = i then v else rd T (j : Int) := by
  unfold rd
  rw [Int.toNat_natCast]
  by_cases e : j = i
  · subst e
    rw [if_pos rfl]
    simp [h]
  · rw [if_neg e]
    have : ¬ i = j := fun q => e q.symm
    simp [this]
theorem Tab.set {l : List S36} {T : List Int} (h : Tab l T) {M v : Nat} (hM : M < 2 ^ l.length) (hv : V l M v) : Tab l (T.set M ((v : Int) + 1)) := by
  refine ⟨by rw [List.length_set]; exact h.len, fun M' hM' => ?_⟩
  rw [rd_set T M _ (by rw [h.len]; exact hM)]
  by_cases e : M' = M
  · subst e
    rw [if_pos rfl]
    exact Or.inr ⟨v, hv, rfl⟩
  · rw [if_neg e]
    exact h.at_ M' hM'
theorem Tab.zero (l : List S36) : Tab l (List.replicate (2 ^ l.length) 0) := by
  refine ⟨List.length_replicate, fun M hM => Or.inl ?_⟩
  unfold rd
  simp [hM]
theorem play_ev {l : List S36} (h : Ok l) : ∀ M, M < 2 ^ l.length → ∀ v, V l M v → ∀ T, Tab l T → ∃ T', Tab l T' ∧ Ev (fun k => spec_grPlay.f k l (bl l.length M) T) ((v : Int), T') := by
  intro M
  induction M using Nat.strongRecOn with
  | ind M ih =>
    intro hM v hv T hT
    have hp := pow14 h
    have hlen := h.len
    have hv14 := V_le h hM hv
    have hmask := mask_ev l.length M hlen hM
    have g1 : (0 : Int) ≤ (M : Int) := Int.natCast_nonneg _
    have g2 : (M : Int) < (T.length : Int) := by rw [hT.len]; omega
    by_cases hz : rd T (M : Int) > 0
    · rcases hT.at_ M hM with e | ⟨v', hv', e⟩
      · omega
      · have evv : (v : Int) = (v' : Int) := ev_uniq hv hv'
        refine ⟨T, hT, Ev.step (f := ?gga3) (fun k => ?ggb3) ?ggc3⟩
        case ggb3 => conv => lhs; simp only [spec_grPlay.f]
        case ggc3 =>
          refine Ev.bind hmask ?_
          simp only [if_pos g1, if_pos g2, if_pos hz]
          rw [e, wpred v' (by omega), evv]
          exact Ev.now _
    · have loop : ∀ (d i : Nat) (vs : List Nat) (T : List Int), i + d = l.length → Tab l T → W l M i vs → vs.length ≤ i → ∃ T', Tab l T' ∧ Ev (fun k => spec_grPlay.l0 k l (bl l.length M) T (M : Int) (cz vs) (l.length : Int) (i : Int)) ((v : Int), T') := by
        intro d
        induction d with
        | zero =>
          intro i vs T hi hT hW hvs
          obtain rfl : i = l.length := by omega
          have hm := V_of_W (by omega) hW
          have e : v = Go.Proofs.Ytnkaipnnbdgkkaa.Mp.mex (cz vs) := Int.ofNat_inj.1 (ev_uniq hv hm)
          have hme := mex_ev vs (by omega)
          rw [← e] at hme
          have g2 : (M : Int) < (T.length : Int) := by rw [hT.len]; omega
          have g3 : ¬ (l.length : Int) < (l.length : Int) := by omega
          have e2 : rd (T.set M ((v : Int) + 1)) (M : Int) = (v : Int) + 1 := by rw [rd_set T M _ (by rw [hT.len]; exact hM), if_pos rfl]
          have e3 : wrap64 ((v : Int) + 1) = (v : Int) + 1 := by rw [wsucc v (by omega)]; rfl
          refine ⟨T.set M ((v : Int) + 1), hT.set hM hv, Ev.step (f := ?gga4) (fun k => ?ggb4) ?ggc4⟩
          case ggb4 => conv => lhs; simp only [spec_grPlay.l0, if_neg g3]
          case ggc4 =>
            refine Ev.bind hme ?_
            simp only [if_pos g1, if_pos g2, Int.toNat_natCast, Option.bind_some, e3, e2, wpred v (by clear e3; omega)]
            exact Ev.now _
        | succ d ihd =>
          intro i vs T hi hT hW hvs
          have k1 : (i : Int) < (l.length : Int) := by omega
          have k2 : (0 : Int) ≤ (i : Int) := Int.natCast_nonneg _
          have k3 : (i : Int) < ((bl l.length M).length : Int) := by rw [bl_length]; omega
          have hrd := bl_rd l.length M i (by omega)
          have hw := wsucc i (by omega)
          have hM64 : M < 2 ^ 64 := by clear hw; omega
          have hil : i < l.length := by clear hw; omega
          cases hb : M.testBit i with
          | true =>
            obtain ⟨v', hv', hv14'⟩ := V_ex h (gc l M i) (gm_bd l _)
            obtain ⟨T2, hT2, p2⟩ := ih (gc l M i) (gc_lt l M i hM64 hb) (gm_bd l _) v' hv' T hT
            obtain ⟨T3, hT3, p3⟩ := ihd (i + 1) (vs ++ [v']) T2 (by clear hw; omega) hT2 (W_bit h hM64 hil hb hv' hW) (by simp; clear hw; omega)
            have hcut := specCut_ev l h M (mn M i) i hil (mn_bit M i hM64)
            have k4 : (cz vs).length < 17592186044416 := by rw [cz_length]; clear hw; omega
            refine ⟨T3, hT3, Ev.step (f := ?gga5) (fun k => ?ggb5) ?ggc5⟩
            case ggb5 => conv => lhs; simp only [spec_grPlay.l0, if_pos k1, if_pos k2, if_pos k3, hrd, hb, if_true]
            case ggc5 =>
              refine Ev.bind hcut (Ev.bind p2 ?_)
              simp only [if_pos k4, cz_snoc, hw]
              exact p3
          | false =>
            obtain ⟨T3, hT3, p3⟩ := ihd (i + 1) vs T (by clear hw; omega) hT (W_no h hM64 hil hb hW) (by clear hw; omega)
            refine ⟨T3, hT3, Ev.step (fun k => ?_) p3⟩
            simp only [spec_grPlay.l0, if_pos k1, if_pos k2, if_pos k3, hrd, hb, Bool.false_eq_true, if_false, hw]
      obtain ⟨T', hT', p⟩ := loop l.length 0 [] T (by omega) hT (W_zero l M) (Nat.le_refl _)
      refine ⟨T', hT', Ev.step (f := ?gga6) (fun k => ?ggb6) ?ggc6⟩
      case ggb6 => conv => lhs; simp only [spec_grPlay.f]
      case ggc6 =>
        refine Ev.bind hmask ?_
        simp only [if_pos g1, if_pos g2, if_neg hz]
        exact p
theorem shl_n {l : List S36} (h : Ok l) : shl .i64 1 (l.length : Int) = ((2 ^ l.length : Nat) : Int) := shl1 _ (Nat.le_trans h.len (by decide))

theorem look_ev {l : List S36} (h : Ok l) (M : Nat) (hM : M < 2 ^ l.length) : ∀ (d i : Nat), i + d = l.length → ∃ r : Int × Bool, Ev (fun k => impl_WinningTwig.look (impl_grundy.f k l) (impl_grounded.f k l) (M : Int) d i) r ∧
    ∀ T, Tab l T → Ev (fun k => spec_WinningTwig.l0 k l (bl l.length M) T (l.length : Int) (i : Int)) r := by
  have hp := pow14 h
  have hlen := h.len
  intro d
  induction d with
  | zero =>
    intro i hi
    have g3 : ¬ (i : Int) < (l.length : Int) := by omega
    refine ⟨(0, false), Ev.now _, fun T hT => Ev.step (fun k => ?_) (Ev.now _)⟩
    simp only [spec_WinningTwig.l0, if_neg g3]
  | succ d ih =>
    intro i hi
    have k1 : (i : Int) < (l.length : Int) := by omega
    have k2 : (0 : Int) ≤ (i : Int) := Int.natCast_nonneg _
    have k3 : (i : Int) < ((bl l.length M).length : Int) := by rw [bl_length]; omega
    have hrd := bl_rd l.length M i (by omega)
    have hil : i < l.length := by omega
    have hM64 : M < 2 ^ 64 := by omega
    have hw := wsucc i (by omega)
    obtain ⟨r, q1, q2⟩ := ih (i + 1) (by clear hw; omega)
    cases hb : M.testBit i with
    | false =>
      have c : ¬ bits .and .u64 ((M : Int) / 2 ^ i) 1 = 1 := by rw [ibit M i hM64 (by clear hw; omega), hb]; decide
      refine ⟨r, Ev.congr (fun k => ?_) q1, fun T hT => Ev.step (fun k => ?_) (q2 T hT)⟩
      · show (if bits .and .u64 ((M : Int) / 2 ^ i) 1 = 1 then _ else _) = _
        rw [if_neg c]
      · simp only [spec_WinningTwig.l0, if_pos k1, if_pos k2, if_pos k3, hrd, hb, Bool.false_eq_true, if_false, hw]
    | true =>
      have c : bits .and .u64 ((M : Int) / 2 ^ i) 1 = 1 := by rw [ibit M i hM64 (by clear hw; omega)]; exact hb
      have e : bits .andNot .u64 (M : Int) (IntKind.u64.wrap (2 ^ i)) = ((mn M i : Nat) : Int) := by rw [iwrap i (by clear hw; omega)]; exact minus_mn M i hM64 (by clear hw; omega)
      obtain ⟨v, hv, hv14⟩ := V_ex h (gc l M i) (gm_bd l _)
      have hcut := specCut_ev l h M (mn M i) i hil (mn_bit M i hM64)
      refine ⟨if (v : Int) = 0 then ((i : Int), true) else r, ?_, fun T hT => ?_⟩
      · have h3 : Ev (fun k => if (v : Int) = 0 then some ((i : Int), true) else impl_WinningTwig.look (impl_grundy.f k l) (impl_grounded.f k l) (M : Int) d (i + 1)) (if (v : Int) = 0 then ((i : Int), true) else r) := by
          by_cases z : (v : Int) = 0
          · simp only [if_pos z]; exact Ev.now _
          · simp only [if_neg z]; exact q1
        have h2 : Ev (fun k => (impl_grounded.f k l ((mn M i : Nat) : Int)).bind fun s => (impl_grundy.f k l s).bind fun v => if v = 0 then some ((i : Int), true) else impl_WinningTwig.look (impl_grundy.f k l) (impl_grounded.f k l) (M : Int) d (i + 1)) (if (v : Int) = 0 then ((i : Int), true) else r) :=
          Ev.bind (grounded_ev l h (mn M i) (mn_lt M i)) (Ev.bind hv h3)
        refine Ev.congr (fun k => ?_) h2
        show (if bits .and .u64 ((M : Int) / 2 ^ i) 1 = 1 then _ else _) = _
        rw [if_pos c, e]
      · obtain ⟨T2, hT2, p2⟩ := play_ev h (gc l M i) (gm_bd l _) v hv T hT
        refine Ev.step (f := ?gga) (fun k => ?ggb) ?ggc
        case ggb => conv => lhs; simp only [spec_WinningTwig.l0, if_pos k1, if_pos k2, if_pos k3, hrd, hb, if_true]
        case ggc =>
          refine Ev.bind hcut (Ev.bind p2 ?_)
          by_cases z : (v : Int) = 0
          · simp only [if_pos z]
            exact Ev.now _
          · simp only [if_neg z, hw]
            exact q2 T2 hT2
theorem both (l : List S36) (hl : l.length ≤ 1048576) : ∃ r : Int × Bool, Ev (fun k => spec_WinningTwig.f k l) r ∧ Ev (fun k => impl_WinningTwig.f k l) r := by
  unfold spec_WinningTwig.f impl_WinningTwig.f
  have g1 := good_ev l hl
  have g2 := isGreen_ev l
  cases hg : good l with
  | false =>
    rw [hg] at g1 g2
    exact ⟨(0, false), Ev.bind g1 (Ev.now _), Ev.bind g2 (Ev.now _)⟩
  | true =>
    rw [hg] at g1 g2
    have h := ok_of_good hg
    have hlen := h.len
    have hp := pow14 h
    obtain ⟨r, r1, r2⟩ := look_ev h (gm l (am l.length)) (gm_bd l _) l.length 0 (by omega)
    have k1 : 0 ≤ ((2 ^ l.length : Nat) : Int) := Int.natCast_nonneg _
    have k2 : 2 ^ l.length ≤ 35184372088832 := by omega
    refine ⟨r, Ev.bind g1 ?_, Ev.bind g2 ?_⟩
    · simp only [if_true, shl_n h, if_pos k1, Int.toNat_natCast, if_pos k2]
      exact Ev.bind (specAll_ev l h) (Ev.bind (ground_ev l h _) (r2 _ (Tab.zero l)))
    · simp only [if_true, implAll l h, Option.bind_some]
      exact Ev.bind (grounded_ev l h _ (am_lt _ hlen)) r1
theorem proved : laws_FnExactWinningTwig.Pure := by
  intro l h
  refine Ev.rounds ?_
  unfold laws_FnExactWinningTwig.f
  simp only [szTwigS l h.1, Option.bind_some]
  by_cases hb : l.length > 1048576
  · simp only [if_pos hb]
    exact Ev.now _
  · have hl : l.length ≤ 1048576 := by omega
    have hl' : (l.map conv).length ≤ 1048576 := by rw [List.length_map]; exact hl
    have c : ¬ (1048576 - (l.length : Int)) < 0 := by omega
    simp only [if_neg hb, if_neg c]
    obtain ⟨r, s1, s2⟩ := both (l.map conv) hl'
    have ht := toTwigS_ev l hl
    refine Ev.bind ht (Ev.bind s1 (Ev.bind ht (Ev.bind s2 ?_)))
    simp only [bne_self_eq_false, if_true]
    refine Ev.step (f := ?gga) (fun k => ?ggb) ?ggc
    case ggb => conv => lhs; simp only [laws_FnExactWinningTwig.j0, Bool.false_eq_true, if_false]
    case ggc => exact Ev.bind ht (Ev.bind (eqTwigS_ev _ hl') (Ev.now _))

end LFnExactWinningTwig
theorem FnExactWinningTwig : laws_FnExactWinningTwig.Pure := LFnExactWinningTwig.proved
end Go.Proofs.Ytnkaipnnbdgkkaa.Pure
