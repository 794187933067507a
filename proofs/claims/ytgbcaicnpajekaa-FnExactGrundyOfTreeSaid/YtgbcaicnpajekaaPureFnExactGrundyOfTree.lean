/- For any list of twigs, the value of a tree that the program tells is the reference's, and the list is left as it was. -/
import Derived.Test.YtgbcaicnpajekaaQFnExactGrundyOfTreex8
import Derived.Test.YtgbcaicnpajekaaGreen
import Derived.Test.YtgbcaicnpajekaaMp
namespace Go.Proofs.Ytgbcaicnpajekaa.Pure
open Go.RowKit Go.Proofs.Ytgbcaicnpajekaa.QFnExactGrundyOfTree Go.Proofs.YtgbcaicnpajekaaW.PrintWords Go.Proofs.YtgbcaicnpajekaaW.PrintLast
open Go.Proofs.Ytgbcaicnpajekaa.Green Go.Proofs.Ytgbcaicnpajekaa.Bits
set_option linter.unusedVariables false
set_option linter.unusedSimpArgs false
def laws_FnExactGrundyOfTree.Pure : Prop := ∀ (l0 : List (S35)), (l0.length ≤ maxLen ∧ ∀ y0 ∈ l0, ((Lit.int .i64 y0.f0).wf = true ∧ (Lit.int .i64 y0.f1).wf = true)) → ∃ k, laws_FnExactGrundyOfTree.f k l0 = some true
namespace LFnExactGrundyOfTree
/-! ### small words -/
theorem wsucc (i : Nat) (h : i < 2 ^ 62) : wrap64 ((i : Int) + 1) = ((i + 1 : Nat) : Int) := by unfold wrap64; omega

/-! ### lists of twigs: their size, a copy, the same -/
theorem rdL (xs : List S35) (i : Nat) (h : i < xs.length) : rd_T35 xs (i : Int) = xs[i] := by
  simp [rd_T35, List.getD_eq_getElem?_getD, List.getElem?_eq_getElem h]
theorem rdI (xs : List S33) (i : Nat) (h : i < xs.length) : rd_T33 xs (i : Int) = xs[i] := by
  simp [rd_T33, List.getD_eq_getElem?_getD, List.getElem?_eq_getElem h]
theorem szTwigS (l : List S35) (h : l.length ≤ maxLen) : laws_szTwigS.f l 1048576 = some (if l.length > 1048576 then -1 else 1048576 - (l.length : Int)) := by
  unfold maxLen at h
  have hw : wrap64 (1048576 - (l.length : Int)) = 1048576 - (l.length : Int) := by unfold wrap64; omega
  unfold laws_szTwigS.f
  rw [hw]
  clear hw
  by_cases g : l.length > 1048576
  · rw [if_pos (by omega), if_pos g]
  · rw [if_neg (by omega), if_neg g]
/-- A twig of the program for a twig of the law. -/
def conv (p : S35) : S33 := ⟨p.f0, p.f1⟩
theorem toTwigS_l (l : List S35) (hl : l.length ≤ 1048576) : ∀ (d i : Nat) (ys : List S33), i + d = l.length → ys.length = l.length → (∀ j, j < i → ys[j]? = (l.map conv)[j]?) →
    Ev (fun k => laws_toTwigS.l0 k l ys (i : Int)) (l.map conv) := by
  intro d
  induction d with
  | zero =>
    intro i ys hi hy hj
    have c : ¬ (i : Int) < (l.length : Int) := by omega
    have : ys = l.map conv := by
      apply List.ext_getElem?
      intro j
      by_cases g : j < i
      · exact hj j g
      · rw [List.getElem?_eq_none (by omega), List.getElem?_eq_none (by rw [List.length_map]; omega)]
    subst this
    refine Ev.step (fun k => ?_) (Ev.now _)
    simp only [laws_toTwigS.l0, if_neg c]
  | succ d ih =>
    intro i ys hi hy hj
    have g1 : (i : Int) < (l.length : Int) := by omega
    have g1' : (i : Int) < (ys.length : Int) := by omega
    have g2 : (0 : Int) ≤ (i : Int) := Int.natCast_nonneg _
    have hil : i < l.length := by omega
    have hw : wrap64 ((i : Int) + 1) = ((i + 1 : Nat) : Int) := wsucc i (by omega)
    refine Ev.step (fun k => ?_) (ih (i + 1) (ys.set i (conv l[i])) (by clear hw; omega) (by rw [List.length_set]; exact hy) (fun j hjl => ?_))
    · simp only [laws_toTwigS.l0, if_pos g1, if_pos g2, rdL l i hil, laws_toTwig.f, Option.bind_some, if_pos g1', Int.toNat_natCast, hw]
      rfl
    · rw [List.getElem?_set]
      by_cases e : i = j
      · subst e
        rw [if_pos rfl, if_pos (by clear hw; omega), List.getElem?_map, List.getElem?_eq_getElem hil]
        rfl
      · rw [if_neg e]
        exact hj j (by clear hw; omega)
theorem toTwigS_ev (l : List S35) (hl : l.length ≤ 1048576) : Ev (fun k => laws_toTwigS.f k l) (l.map conv) := by
  unfold laws_toTwigS.f
  simp only [if_pos (Int.natCast_nonneg l.length), Int.toNat_natCast, show l.length ≤ 17592186044416 from by omega, if_true]
  exact toTwigS_l l hl l.length 0 _ (by omega) (by simp) (fun j hj => by omega)
theorem eqTwigS_l (l : List S33) (hl : l.length ≤ 1048576) : ∀ (d i : Nat), i + d = l.length → Ev (fun k => laws_eqTwigS.l0 k l l (i : Int)) true := by
  intro d
  induction d with
  | zero =>
    intro i hi
    have c : ¬ (i : Int) < (l.length : Int) := by omega
    refine Ev.step (fun k => ?_) (Ev.now _)
    simp only [laws_eqTwigS.l0, if_neg c]
  | succ d ih =>
    intro i hi
    have g1 : (i : Int) < (l.length : Int) := by omega
    have g2 : (0 : Int) ≤ (i : Int) := Int.natCast_nonneg _
    have hw : wrap64 ((i : Int) + 1) = ((i + 1 : Nat) : Int) := wsucc i (by omega)
    refine Ev.step (fun k => ?_) (ih (i + 1) (by clear hw; omega))
    simp only [laws_eqTwigS.l0, if_pos g1, if_pos g2, laws_eqTwig.f, if_true, Option.bind_some, hw]
theorem eqTwigS_ev (l : List S33) (hl : l.length ≤ 1048576) : Ev (fun k => laws_eqTwigS.f k l l) true := by
  unfold laws_eqTwigS.f
  simp only [if_true]
  exact eqTwigS_l l hl l.length 0 (by omega)

/-! ### what is a green picture, on both sides -/
theorem in_some (e a b : Int) : spec_l1In.f e a b = some (decide (a ≤ e ∧ e ≤ b)) := by
  unfold spec_l1In.f
  by_cases h : e ≥ a
  · rw [if_pos h]; congr 1; simp; omega
  · rw [if_neg h]; congr 1; simp; omega
theorem twig_some (x : S33) : spec_grTwig.f x.f0 x.f1 = some (!impl_IsGreen.bad x) := by
  unfold spec_grTwig.f impl_IsGreen.bad impl_IsGreen.inK
  simp only [in_some, Option.bind_some]
  by_cases h1 : 0 ≤ x.f0 ∧ x.f0 ≤ 12 <;> by_cases h2 : 0 ≤ x.f1 ∧ x.f1 ≤ 12 <;> simp [h1, h2]
/-- What is a green picture. -/
def good (l : List S33) : Bool := decide (l.length ≤ 14) && !l.any impl_IsGreen.bad
theorem good_l (l : List S33) (hl : l.length ≤ 1048576) : ∀ (d i : Nat), i + d = l.length → Ev (fun k => spec_grGood.l0 k l l (l.length : Int) (i : Int)) (decide (l.length ≤ 14) && !(l.drop i).any impl_IsGreen.bad) := by
  intro d
  induction d with
  | zero =>
    intro i hi
    have c : ¬ (i : Int) < (l.length : Int) := by omega
    rw [List.drop_eq_nil_of_le (by omega)]
    refine Ev.step (fun k => ?_) (Ev.now _)
    have : decide ((l.length : Int) ≤ 14) = decide (l.length ≤ 14) := by
      by_cases h : l.length ≤ 14
      · rw [decide_eq_true h, decide_eq_true (by omega)]
      · rw [decide_eq_false h, decide_eq_false (by omega)]
    simp only [spec_grGood.l0, if_neg c, this, List.any_nil, Bool.not_false, Bool.and_true]
  | succ d ih =>
    intro i hi
    have g1 : (i : Int) < (l.length : Int) := by omega
    have g2 : (0 : Int) ≤ (i : Int) := Int.natCast_nonneg _
    have hil : i < l.length := by omega
    rw [List.drop_eq_getElem_cons hil, List.any_cons]
    cases hb : impl_IsGreen.bad l[i] with
    | true =>
      refine Ev.step (fun k => ?_) (Ev.now _)
      simp only [spec_grGood.l0, if_pos g1, if_pos g2, rdI l i hil, twig_some, hb, Option.bind_some, Bool.not_true, Bool.false_eq_true, if_false, Bool.true_or, Bool.and_false]
    | false =>
      have hw : wrap64 ((i : Int) + 1) = ((i + 1 : Nat) : Int) := wsucc i (by omega)
      rw [Bool.false_or]
      refine Ev.step (fun k => ?_) (ih (i + 1) (by clear hw; omega))
      simp only [spec_grGood.l0, if_pos g1, if_pos g2, rdI l i hil, twig_some, hb, Option.bind_some, Bool.not_false, if_true, hw]
theorem good_ev (l : List S33) (hl : l.length ≤ 1048576) : Ev (fun k => spec_grGood.f k l) (good l) := by
  have := good_l l hl l.length 0 (by omega)
  rwa [List.drop_zero] at this
theorem isGreen_ev (l : List S33) : Ev (fun k => impl_IsGreen.f k l) (good l) := Ev.now _

/-! ### what is grounded, by bits -/
def kA (l : List S33) (i : Nat) : Nat := (rd_T33 l (i : Int)).f0.toNat
def kB (l : List S33) (i : Nat) : Nat := (rd_T33 l (i : Int)).f1.toNat
structure Ok (l : List S33) : Prop where
  len : l.length ≤ 14
  fA : ∀ i : Nat, (rd_T33 l (i : Int)).f0 = (kA l i : Int)
  fB : ∀ i : Nat, (rd_T33 l (i : Int)).f1 = (kB l i : Int)
  A12 : ∀ i, kA l i ≤ 12
  B12 : ∀ i, kB l i ≤ 12
theorem ok_of_good {l : List S33} (h : good l = true) : Ok l := by
  unfold good at h
  rw [Bool.and_eq_true] at h
  have hl : l.length ≤ 14 := of_decide_eq_true h.1
  have hb : ∀ x ∈ l, impl_IsGreen.bad x = false := by
    have := h.2
    simp only [Bool.not_eq_true', List.any_eq_false] at this
    intro x hx
    have := this x hx
    simpa using this
  have key : ∀ i : Nat, (0 ≤ (rd_T33 l (i : Int)).f0 ∧ (rd_T33 l (i : Int)).f0 ≤ 12) ∧ (0 ≤ (rd_T33 l (i : Int)).f1 ∧ (rd_T33 l (i : Int)).f1 ≤ 12) := by
    intro i
    by_cases hi : i < l.length
    · have := hb _ (List.getElem_mem hi)
      rw [rdI l i hi]
      simp only [impl_IsGreen.bad, impl_IsGreen.inK, Bool.or_eq_false_iff, Bool.not_eq_false', decide_eq_true_eq] at this
      exact this
    · have e : rd_T33 l (i : Int) = z33 := by
        unfold rd_T33
        rw [Int.toNat_natCast, List.getD_eq_getElem?_getD, List.getElem?_eq_none (by omega)]
        rfl
      rw [e]
      exact ⟨by decide, by decide⟩
  refine ⟨hl, fun i => ?_, fun i => ?_, fun i => ?_, fun i => ?_⟩
  · unfold kA; have := (key i).1; omega
  · unfold kB; have := (key i).2; omega
  · unfold kA; have := (key i).1; omega
  · unfold kB; have := (key i).2; omega
theorem or13 {S a b : Nat} (hS : S < 2 ^ 13) (ha : a ≤ 12) (hb : b ≤ 12) : S ||| (2 ^ a ||| 2 ^ b) < 2 ^ 13 :=
  Nat.or_lt_two_pow hS (Nat.or_lt_two_pow (Nat.pow_lt_pow_right (by decide) (by omega)) (Nat.pow_lt_pow_right (by decide) (by omega)))
theorem or14 {O i : Nat} (hO : O < 2 ^ 14) (hi : i < 14) : O ||| 2 ^ i < 2 ^ 14 := Nat.or_lt_two_pow hO (Nat.pow_lt_pow_right (by decide) hi)
theorem one_bit (O i j : Nat) : (O ||| 2 ^ i).testBit j = (O.testBit j || decide (j = i)) := by
  rw [Nat.testBit_or, Nat.testBit_two_pow]
  congr 1
  exact decide_eq_decide.2 ⟨fun h => h.symm, fun h => h.symm⟩
section
variable (l : List S33) (h : Ok l) (M : Nat) (hM : M < 2 ^ 64)
include h hM
theorem grounded_in : ∀ (d i S O : Nat), i + d = l.length → S < 2 ^ 13 → O < 2 ^ 14 → (∀ x, S.testBit x = true → Hangs l.length (kA l) (kB l) M 0 x) →
    ∃ S' O' : Nat, S' < 2 ^ 13 ∧ O' < 2 ^ 14 ∧ Rnd l.length (kA l) (kB l) M 0 i S S' ∧
      (∀ j, O'.testBit j = true → O.testBit j = true ∨ (j < l.length ∧ M.testBit j = true ∧ Hangs l.length (kA l) (kB l) M 0 (kA l j))) ∧ (∀ j, O.testBit j = true → O'.testBit j = true) ∧
      (∀ j, i ≤ j → j < l.length → M.testBit j = true → (S.testBit (kA l j) = true ∨ S.testBit (kB l j) = true) → O'.testBit j = true) ∧
      ∀ (T c r : Int), Ev (fun k => impl_grounded.l0 k l (M : Int) (S' : Int) (O' : Int) T (wrap64 (c + 1))) r → Ev (fun k => impl_grounded.l1 k l (M : Int) (S : Int) (O : Int) T c l (l.length : Int) (i : Int)) r := by
  have hlen := h.len
  intro d
  induction d with
  | zero =>
    intro i S O hi hS hO hr
    have c : ¬ (i : Int) < (l.length : Int) := by omega
    refine ⟨S, O, hS, hO, rnd_end (by omega) hr, fun j hj => .inl hj, fun j hj => hj, fun j h1 h2 => by omega, fun T c' r he => Ev.step (fun k => ?_) he⟩
    simp only [impl_grounded.l1, if_neg c]
  | succ d ih =>
    intro i S O hi hS hO hr
    have g1 : (i : Int) < (l.length : Int) := by omega
    have g2 : (0 : Int) ≤ (i : Int) := Int.natCast_nonneg _
    have hil : i < l.length := by omega
    have gA : (0 : Int) ≤ (kA l i : Int) := Int.natCast_nonneg _
    have gB : (0 : Int) ≤ (kB l i : Int) := Int.natCast_nonneg _
    have hA := h.A12 i
    have hB := h.B12 i
    have hS64 : S < 2 ^ 64 := Nat.lt_trans hS (by decide)
    have hO64 : O < 2 ^ 64 := Nat.lt_trans hO (by decide)
    have bM := bit1 M i hM (by omega)
    have bA := bit1 S (kA l i) hS64 (by omega)
    have bB := bit1 S (kB l i) hS64 (by omega)
    have aS := add_u S (kA l i) (kB l i) hS64 (by omega) (by omega)
    have aO := add1_u O i hO64 (by omega)
    have hw : wrap64 ((i : Int) + 1) = ((i + 1 : Nat) : Int) := wsucc i (by omega)
    cases hm : M.testBit i with
    | false =>
      obtain ⟨S', O', p1, p2, p3, p4, p5, p6, p7⟩ := ih (i + 1) S O (by clear hw; omega) hS hO hr
      refine ⟨S', O', p1, p2, rnd_skip p3 (fun q => by rw [hm] at q; cases q), p4, p5, fun j h1 h2 h3 h4 => ?_, fun T c r he => Ev.step (fun k => ?_) (p7 T c r he)⟩
      · by_cases e : j = i
        · subst e; rw [hm] at h3; cases h3
        · exact p6 j (by clear hw; omega) h2 h3 h4
      · simp only [impl_grounded.l1, if_pos g1, if_pos g2, bM, hm, Bool.false_eq_true, if_false, hw]
    | true =>
      by_cases ht : S.testBit (kA l i) = true ∨ S.testBit (kB l i) = true
      · obtain ⟨S', O', p1, p2, p3, p4, p5, p6, p7⟩ := ih (i + 1) (S ||| (2 ^ kA l i ||| 2 ^ kB l i)) (O ||| 2 ^ i) (by clear hw; omega) (or13 hS hA hB) (or14 hO (by clear hw; omega)) (add_ok hil hm ht hr)
        have rA : Hangs l.length (kA l) (kB l) M 0 (kA l i) := add_ok hil hm ht hr _ (by rw [bit_add]; simp)
        refine ⟨S', O', p1, p2, rnd_add hil hm ht p3, fun j hj => ?_, fun j hj => p5 j (by rw [one_bit, hj]; rfl), fun j h1 h2 h3 h4 => ?_, fun T c r he => Ev.step (fun k => ?_) (p7 T c r he)⟩
        · rcases p4 j hj with q | q
          · rw [one_bit, Bool.or_eq_true, decide_eq_true_eq] at q
            rcases q with q | rfl
            · exact .inl q
            · exact .inr ⟨hil, hm, rA⟩
          · exact .inr q
        · by_cases e : j = i
          · subst e; exact p5 _ (by rw [one_bit]; simp)
          · exact p6 j (by clear hw; omega) h2 h3 (h4.imp (fun q => by rw [bit_add, q]; rfl) (fun q => by rw [bit_add, q]; rfl))
        · cases hx : S.testBit (kA l i) with
          | true => simp only [impl_grounded.l1, if_pos g1, if_pos g2, bM, hm, if_true, h.fA, h.fB, if_pos gA, if_pos gB, bA, hx, aS, aO, hw]
          | false =>
            have hy : S.testBit (kB l i) = true := ht.resolve_left (by rw [hx]; simp)
            simp only [impl_grounded.l1, if_pos g1, if_pos g2, bM, hm, if_true, h.fA, h.fB, if_pos gA, if_pos gB, bA, hx, bB, hy, Bool.false_eq_true, if_false, aS, aO, hw]
      · obtain ⟨S', O', p1, p2, p3, p4, p5, p6, p7⟩ := ih (i + 1) S O (by clear hw; omega) hS hO hr
        refine ⟨S', O', p1, p2, rnd_skip p3 (fun _ => ht), p4, p5, fun j h1 h2 h3 h4 => ?_, fun T c r he => Ev.step (fun k => ?_) (p7 T c r he)⟩
        · by_cases e : j = i
          · subst e; exact absurd h4 ht
          · exact p6 j (by clear hw; omega) h2 h3 h4
        · have hx : S.testBit (kA l i) = false := by
            cases q : S.testBit (kA l i)
            · rfl
            · exact absurd (.inl q) ht
          have hy : S.testBit (kB l i) = false := by
            cases q : S.testBit (kB l i)
            · rfl
            · exact absurd (.inr q) ht
          simp only [impl_grounded.l1, if_pos g1, if_pos g2, bM, hm, if_true, h.fA, h.fB, if_pos gA, if_pos gB, bA, hx, bB, hy, Bool.false_eq_true, if_false, hw]
/-- The grounded twigs of some. -/
noncomputable def gm (l : List S33) (M : Nat) : Nat := mk l.length fun i => M.testBit i && reachB l.length (kA l) (kB l) M 0 (kA l i)
theorem grounded_out : ∀ (d c S O : Nat), c + d = l.length + 1 → S < 2 ^ 13 → O < 2 ^ 14 → S.testBit 0 = true → (∀ x, S.testBit x = true → Hangs l.length (kA l) (kB l) M 0 x) →
    (∀ j, O.testBit j = true → j < l.length ∧ M.testBit j = true ∧ Hangs l.length (kA l) (kB l) M 0 (kA l j)) → (Closed l.length (kA l) (kB l) M S ∨ c ≤ used l.length (kA l) (kB l) M S) →
    (d = 0 → ∀ j, j < l.length → M.testBit j = true → Hangs l.length (kA l) (kB l) M 0 (kA l j) → O.testBit j = true) →
    Ev (fun k => impl_grounded.l0 k l (M : Int) (S : Int) (O : Int) ((l.length + 1 : Nat) : Int) (c : Int)) ((gm l M : Nat) : Int) := by
  have hlen := h.len
  intro d
  induction d with
  | zero =>
    intro c S O hc hS hO h0 hr hO2 hcl hfin
    have g : ¬ (c : Int) < ((l.length + 1 : Nat) : Int) := by omega
    have e : O = gm l M := by
      apply bits_ext
      intro j
      rw [gm, mk_bit]
      cases q : O.testBit j with
      | true =>
        have := hO2 j q
        rw [decide_eq_true this.1, this.2.1, reachB_iff.2 this.2.2]
        rfl
      | false =>
        by_cases hj : j < l.length
        · cases hm : M.testBit j with
          | false => simp
          | true =>
            cases hb : reachB l.length (kA l) (kB l) M 0 (kA l j) with
            | false => simp
            | true =>
              have := hfin rfl j hj hm (reachB_iff.1 hb)
              rw [q] at this
              cases this
        · rw [decide_eq_false hj]; rfl
    rw [← e]
    refine Ev.step (fun k => ?_) (Ev.now _)
    simp only [impl_grounded.l0, if_neg g]
  | succ d ih =>
    intro c S O hc hS hO h0 hr hO2 hcl hfin
    have g : (c : Int) < ((l.length + 1 : Nat) : Int) := by omega
    obtain ⟨S', O', p1, p2, p3, p4, p5, p6, p7⟩ := grounded_in l h M hM l.length 0 S O (by omega) hS hO hr
    refine Ev.step (fun k => ?_) (p7 ((l.length + 1 : Nat) : Int) (c : Int) _ ?_)
    · simp only [impl_grounded.l0, if_pos g]
      rfl
    · rw [wsucc c (by omega)]
      refine ih (c + 1) S' O' (by omega) p1 p2 (p3.sub _ h0) p3.ok (fun j hj => ?_) (rnd_round p3 h0 hcl) (fun hd j hj hm hrj => ?_)
      · rcases p4 j hj with q | q
        · exact hO2 j q
        · exact q
      · have hcn : Closed l.length (kA l) (kB l) M S := hcl.elim id (fun q => used_full (by omega))
        exact p6 j (Nat.zero_le _) hj hm (.inl (closed_reach hcn h0 hrj))
theorem grounded_ev : Ev (fun k => impl_grounded.f k l (M : Int)) ((gm l M : Nat) : Int) := by
  have hlen := h.len
  unfold impl_grounded.f
  rw [wsucc l.length (by omega)]
  have := grounded_out l h M hM (l.length + 1) 0 1 0 (by omega) (by decide) (by decide) (by decide) (fun x hx => by
    have : x = 0 := by
      by_cases e : x = 0
      · exact e
      · have h1 : Nat.testBit 1 x = decide (x = 0) := Nat.testBit_one_eq_true_iff_self_eq_zero.elim (by
          cases q : Nat.testBit 1 x <;> simp [Nat.testBit_one_eq_true_iff_self_eq_zero] at * <;> simp_all)
        rw [h1] at hx
        exact absurd (of_decide_eq_true hx) e
    subst this
    exact .here) (fun j hj => by rw [Nat.zero_testBit] at hj; cases hj) (.inr (Nat.zero_le _)) (fun hd => by omega)
  simpa using this
end

/-! ### knots, by a list that grows -/
theorem nodup_bound : ∀ (n : Nat) (F : List Nat), F.Nodup → (∀ x ∈ F, x < n) → F.length ≤ n
  | 0, F, _, h => by
    cases F with
    | nil => simp
    | cons x F => exact absurd (h x (by simp)) (by omega)
  | n + 1, F, hn, h => by
    have h1 : (F.filter fun x => x != n).length ≤ n := nodup_bound n _ (hn.filter _) (fun x hx => by
      have := List.mem_filter.1 hx
      have h2 := h x this.1
      have h3 : x ≠ n := by simpa using this.2
      omega)
    have h2 : F.length ≤ (F.filter fun x => x != n).length + 1 := by
      clear h h1
      induction F with
      | nil => simp
      | cons x F ih =>
        have hx := List.nodup_cons.1 hn
        by_cases e : x = n
        · subst e
          have : F.filter (fun y => y != x) = F := List.filter_eq_self.2 (fun y hy => by
            have : y ≠ x := fun q => hx.1 (q ▸ hy)
            simpa using this)
          rw [List.filter_cons_of_neg (by simp), this, List.length_cons]
          omega
        · rw [List.filter_cons_of_pos (by simpa using e), List.length_cons, List.length_cons]
          have := ih hx.2
          omega
    omega
/-- Knots as Go's whole numbers. -/
def cz (F : List Nat) : List Int := F.map fun x : Nat => (x : Int)
theorem cz_length (F : List Nat) : (cz F).length = F.length := by simp [cz]
theorem cz_snoc (F : List Nat) (x : Nat) : cz F ++ [(x : Int)] = cz (F ++ [x]) := by simp [cz]
theorem cz_rd (F : List Nat) (i : Nat) (h : i < F.length) : rd (cz F) (i : Int) = (F[i] : Int) := by
  simp [rd, cz, List.getD_eq_getElem?_getD, h]
theorem has_l (F : List Nat) (x : Nat) (hF : F.length < 2 ^ 60) : ∀ (d j : Nat), j + d = F.length → Ev (fun k => spec_l1Has.l0 k (x : Int) (cz F) ((cz F).length : Int) (j : Int)) (decide (x ∈ F.drop j)) := by
  intro d
  induction d with
  | zero =>
    intro j hj
    have c : ¬ (j : Int) < ((cz F).length : Int) := by rw [cz_length]; omega
    rw [List.drop_eq_nil_of_le (by omega)]
    refine Ev.step (fun k => ?_) (Ev.now _)
    simp only [spec_l1Has.l0, if_neg c]
    simp
  | succ d ih =>
    intro j hj
    have g1 : (j : Int) < ((cz F).length : Int) := by rw [cz_length]; omega
    have g2 : (0 : Int) ≤ (j : Int) := Int.natCast_nonneg _
    have hjl : j < F.length := by omega
    rw [List.drop_eq_getElem_cons hjl]
    by_cases e : F[j] = x
    · refine Ev.step (fun k => ?_) (Ev.now _)
      simp only [spec_l1Has.l0, if_pos g1, if_pos g2, cz_rd F j hjl, e, if_true]
      simp
    · have e' : ¬ (F[j] : Int) = (x : Int) := by omega
      have hd : decide (x ∈ F[j] :: F.drop (j + 1)) = decide (x ∈ F.drop (j + 1)) := by
        have : ¬ x = F[j] := fun q => e q.symm
        exact decide_eq_decide.2 ⟨fun q => (List.mem_cons.1 q).resolve_left this, List.mem_cons_of_mem _⟩
      have hw : wrap64 ((j : Int) + 1) = ((j + 1 : Nat) : Int) := wsucc j (by omega)
      rw [hd]
      refine Ev.step (fun k => ?_) (ih (j + 1) (by clear hw; omega))
      simp only [spec_l1Has.l0, if_pos g1, if_pos g2, cz_rd F j hjl, if_neg e', hw]
theorem has_ev (F : List Nat) (x : Nat) (hF : F.length < 2 ^ 60) : Ev (fun k => spec_l1Has.f k (cz F) (x : Int)) (decide (x ∈ F)) := by
  have := has_l F x hF F.length 0 (by omega)
  rwa [List.drop_zero] at this
section
variable (l : List S33) (h : Ok l) (M a : Nat)
/-- What is found so far. -/
structure Inv (l : List S33) (M a : Nat) (F : List Nat) : Prop where
  nodup : F.Nodup
  le12 : ∀ x ∈ F, x < 13
  ok : ∀ x ∈ F, Hangs l.length (kA l) (kB l) M a x
theorem Inv.len {l : List S33} {M a : Nat} {F : List Nat} (q : Inv l M a F) : F.length ≤ 13 := nodup_bound 13 F q.nodup q.le12
theorem Inv.snoc {l : List S33} {M a : Nat} {F : List Nat} (q : Inv l M a F) {x : Nat} (hx : x ∉ F) (h12 : x < 13) (hr : Hangs l.length (kA l) (kB l) M a x) : Inv l M a (F ++ [x]) := by
  refine ⟨?_, fun y hy => ?_, fun y hy => ?_⟩
  · rw [List.nodup_append]
    refine ⟨q.nodup, by simp, fun y hy z hz => ?_⟩
    have : z = x := by simpa using hz
    subst this
    exact fun e => hx (e ▸ hy)
  · rcases List.mem_append.1 hy with hy | hy
    · exact q.le12 y hy
    · have : y = x := by simpa using hy
      subst this; exact h12
  · rcases List.mem_append.1 hy with hy | hy
    · exact q.ok y hy
    · have : y = x := by simpa using hy
      subst this; exact hr
include h
theorem knots_in (kk v : Nat) : ∀ (d i : Nat) (F : List Nat), i + d = l.length → Inv l M a F → ∀ hk : kk < F.length, F[kk] = v →
    ∃ F' : List Nat, Inv l M a F' ∧ F <+: F' ∧ (∀ j, i ≤ j → j < l.length → M.testBit j = true → (kA l j = v → kB l j ∈ F') ∧ (kB l j = v → kA l j ∈ F')) ∧
      ∀ r, Ev (fun k => spec_grKnots.l0 k l (bl l.length M) (cz F') ((kk + 1 : Nat) : Int)) r → Ev (fun k => spec_grKnots.l1 k l (bl l.length M) (cz F) (kk : Int) l (l.length : Int) (i : Int)) r := by
  have hlen := h.len
  intro d
  induction d with
  | zero =>
    intro i F hi q hk hv
    have c : ¬ (i : Int) < (l.length : Int) := by omega
    have hkk := q.len
    have hw : wrap64 ((kk : Int) + 1) = ((kk + 1 : Nat) : Int) := wsucc kk (by omega)
    refine ⟨F, q, List.prefix_refl _, fun j h1 h2 => by clear hw; omega, fun r he => Ev.step (fun k => ?_) he⟩
    simp only [spec_grKnots.l1, if_neg c, hw]
  | succ d ih =>
    intro i F hi q hk hv
    have hq := q.len
    have g1 : (i : Int) < (l.length : Int) := by omega
    have g2 : (0 : Int) ≤ (i : Int) := Int.natCast_nonneg _
    have hil : i < l.length := by omega
    have g3 : (i : Int) < ((bl l.length M).length : Int) := by rw [bl_length]; exact g1
    have g4 : (0 : Int) ≤ (kk : Int) := Int.natCast_nonneg _
    have g5 : (kk : Int) < ((cz F).length : Int) := by rw [cz_length]; omega
    have g6 : (cz F).length < 17592186044416 := by rw [cz_length]; omega
    have hbl := bl_rd l.length M i hil
    have hrv : rd (cz F) (kk : Int) = (v : Int) := by rw [cz_rd F kk hk, hv]
    have hvF : v ∈ F := by rw [← hv]; exact List.getElem_mem hk
    have hw : wrap64 ((i : Int) + 1) = ((i + 1 : Nat) : Int) := wsucc i (by omega)
    cases hm : M.testBit i with
    | false =>
      obtain ⟨F', p1, p2, p3, p4⟩ := ih (i + 1) F (by clear hw; omega) q hk hv
      refine ⟨F', p1, p2, fun j h1 h2 h3 => ?_, fun r he => Ev.step (fun k => ?_) (p4 r he)⟩
      · by_cases e : j = i
        · subst e; rw [hm] at h3; cases h3
        · exact p3 j (by clear hw; omega) h2 h3
      · simp only [spec_grKnots.l1, if_pos g1, if_pos g2, if_pos g3, hbl, hm, Bool.false_eq_true, if_false, hw]
    | true =>
      have hb13 : kB l i < 13 := by have := h.B12 i; clear hw; omega
      have ha13 : kA l i < 13 := by have := h.A12 i; clear hw; omega
      -- what is done with the twig: the list behind it, and that the walk goes on from there
      have key : ∃ F1 : List Nat, Inv l M a F1 ∧ F <+: F1 ∧ (kA l i = v → kB l i ∈ F1) ∧ (kB l i = v → kA l i ∈ F1) ∧
          ∀ r, Ev (fun k => spec_grKnots.l1 k l (bl l.length M) (cz F1) (kk : Int) l (l.length : Int) ((i + 1 : Nat) : Int)) r → Ev (fun k => spec_grKnots.l1 k l (bl l.length M) (cz F) (kk : Int) l (l.length : Int) (i : Int)) r := by
        have hasB := has_ev F (kB l i) (by clear hw; omega)
        have hasA := has_ev F (kA l i) (by clear hw; omega)
        by_cases eA : kA l i = v
        · have eA' : ((kA l i : Nat) : Int) = (v : Int) := by rw [eA]
          by_cases mB : kB l i ∈ F
          · -- nothing new
            refine ⟨F, q, List.prefix_refl _, fun _ => mB, fun _ => eA ▸ hvF, fun r he => Ev.step (f := ?fu1) (fun k => ?eu1) ?vu1⟩
            case eu1 => conv => lhs; simp only [spec_grKnots.l1, if_pos g1, if_pos g2, if_pos g3, hbl, hm, if_true, if_pos g4, if_pos g5, hrv, h.fA, h.fB, if_pos eA']
            case vu1 =>
              refine Ev.bind hasB ?_
              rw [decide_eq_true mB]
              by_cases eB : kB l i = v
              · have eB' : ((kB l i : Nat) : Int) = (v : Int) := by rw [eB]
                refine Ev.step (f := ?f2u2) (fun k => ?e2u2) ?v2u2
                case e2u2 => conv => lhs; simp only [spec_grKnots.j2, Bool.not_true, Bool.false_eq_true, if_false, if_pos g4, if_pos g5, hrv, if_pos eB']
                case v2u2 =>
                  refine Ev.bind hasA ?_
                  rw [decide_eq_true (eA ▸ hvF)]
                  simp only [if_true, hw]
                  exact he
              · have eB' : ¬ ((kB l i : Nat) : Int) = (v : Int) := by clear hw; omega
                refine Ev.step (fun k => ?_) he
                simp only [spec_grKnots.j2, Bool.not_true, Bool.false_eq_true, if_false, if_pos g4, if_pos g5, hrv, if_neg eB', hw]
          · have nB : kB l i ≠ v := fun e => mB (e ▸ hvF)
            have eB' : ¬ ((kB l i : Nat) : Int) = (v : Int) := by clear hw; omega
            have hr : Hangs l.length (kA l) (kB l) M a (kB l i) := .up hil hm (eA ▸ q.ok v hvF)
            have q1 := q.snoc mB hb13 hr
            have g5' : (kk : Int) < ((cz (F ++ [kB l i])).length : Int) := by rw [cz_length, List.length_append]; clear hw; omega
            have hrv' : rd (cz (F ++ [kB l i])) (kk : Int) = (v : Int) := by
              rw [cz_rd _ kk (by rw [List.length_append]; clear hw; omega), List.getElem_append_left hk, hv]
            refine ⟨F ++ [kB l i], q1, List.prefix_append _ _, fun _ => by simp, fun e => absurd e nB, fun r he => Ev.step (f := ?fu3) (fun k => ?eu3) ?vu3⟩
            case eu3 => conv => lhs; simp only [spec_grKnots.l1, if_pos g1, if_pos g2, if_pos g3, hbl, hm, if_true, if_pos g4, if_pos g5, hrv, h.fA, h.fB, if_pos eA']
            case vu3 =>
              refine Ev.bind hasB ?_
              rw [decide_eq_false mB]
              refine Ev.step (fun k => ?_) he
              simp only [spec_grKnots.j2, Bool.not_false, if_true, if_pos g6, cz_snoc, Option.bind_some, if_pos g4, if_pos g5', hrv', if_neg eB', hw]
        · have eA' : ¬ ((kA l i : Nat) : Int) = (v : Int) := by clear hw; omega
          by_cases eB : kB l i = v
          · have eB' : ((kB l i : Nat) : Int) = (v : Int) := by rw [eB]
            by_cases mA : kA l i ∈ F
            · refine ⟨F, q, List.prefix_refl _, fun e => absurd e eA, fun _ => mA, fun r he => Ev.step (f := ?fu4) (fun k => ?eu4) ?vu4⟩
              case eu4 => conv => lhs; simp only [spec_grKnots.l1, if_pos g1, if_pos g2, if_pos g3, hbl, hm, if_true, if_pos g4, if_pos g5, hrv, h.fA, h.fB, if_neg eA']
              case vu4 =>
                refine Ev.step (f := ?f2u5) (fun k => ?e2u5) ?v2u5
                case e2u5 => conv => lhs; simp only [spec_grKnots.j2, Bool.false_eq_true, if_false, if_pos g4, if_pos g5, hrv, if_pos eB']
                case v2u5 =>
                  refine Ev.bind hasA ?_
                  rw [decide_eq_true mA]
                  simp only [if_true, hw]
                  exact he
            · have hr : Hangs l.length (kA l) (kB l) M a (kA l i) := .down hil hm (eB ▸ q.ok v hvF)
              refine ⟨F ++ [kA l i], q.snoc mA ha13 hr, List.prefix_append _ _, fun e => absurd e eA, fun _ => by simp, fun r he => Ev.step (f := ?fu6) (fun k => ?eu6) ?vu6⟩
              case eu6 => conv => lhs; simp only [spec_grKnots.l1, if_pos g1, if_pos g2, if_pos g3, hbl, hm, if_true, if_pos g4, if_pos g5, hrv, h.fA, h.fB, if_neg eA']
              case vu6 =>
                refine Ev.step (f := ?f2u7) (fun k => ?e2u7) ?v2u7
                case e2u7 => conv => lhs; simp only [spec_grKnots.j2, Bool.false_eq_true, if_false, if_pos g4, if_pos g5, hrv, if_pos eB']
                case v2u7 =>
                  refine Ev.bind hasA ?_
                  rw [decide_eq_false mA]
                  simp only [Bool.false_eq_true, if_false, if_pos g6, cz_snoc, hw]
                  exact he
          · have eB' : ¬ ((kB l i : Nat) : Int) = (v : Int) := by clear hw; omega
            refine ⟨F, q, List.prefix_refl _, fun e => absurd e eA, fun e => absurd e eB, fun r he => Ev.step (f := ?fu8) (fun k => ?eu8) ?vu8⟩
            case eu8 => conv => lhs; simp only [spec_grKnots.l1, if_pos g1, if_pos g2, if_pos g3, hbl, hm, if_true, if_pos g4, if_pos g5, hrv, h.fA, h.fB, if_neg eA']
            case vu8 =>
              refine Ev.step (fun k => ?_) he
              simp only [spec_grKnots.j2, Bool.false_eq_true, if_false, if_pos g4, if_pos g5, hrv, if_neg eB', hw]
      obtain ⟨F1, q1, pre, d1, d2, next⟩ := key
      have hk1 : kk < F1.length := Nat.lt_of_lt_of_le hk pre.length_le
      have hv1 : F1[kk] = v := by
        obtain ⟨t, rfl⟩ := pre
        rw [List.getElem_append_left hk, hv]
      obtain ⟨F', p1, p2, p3, p4⟩ := ih (i + 1) F1 (by clear hw; omega) q1 hk1 hv1
      refine ⟨F', p1, pre.trans p2, fun j h1 h2 h3 => ?_, fun r he => next r (p4 r he)⟩
      by_cases e : j = i
      · subst e; exact ⟨fun e => p2.subset (d1 e), fun e => p2.subset (d2 e)⟩
      · exact p3 j (by clear hw; omega) h2 h3
theorem knots_out : ∀ (d kk : Nat) (F : List Nat), kk + d = 13 → Inv l M a F → a ∈ F → kk ≤ F.length →
    (∀ m, m < kk → ∀ hm : m < F.length, ∀ j, j < l.length → M.testBit j = true → (kA l j = F[m] → kB l j ∈ F) ∧ (kB l j = F[m] → kA l j ∈ F)) →
    ∃ R : List Nat, Ev (fun k => spec_grKnots.l0 k l (bl l.length M) (cz F) (kk : Int)) (cz R) ∧ R.length ≤ 13 ∧ ∀ x, x ∈ R ↔ Hangs l.length (kA l) (kB l) M a x := by
  have stop : ∀ (kk : Nat) (F : List Nat), Inv l M a F → a ∈ F → kk = F.length →
      (∀ m, m < kk → ∀ hm : m < F.length, ∀ j, j < l.length → M.testBit j = true → (kA l j = F[m] → kB l j ∈ F) ∧ (kB l j = F[m] → kA l j ∈ F)) →
      ∃ R : List Nat, Ev (fun k => spec_grKnots.l0 k l (bl l.length M) (cz F) (kk : Int)) (cz R) ∧ R.length ≤ 13 ∧ ∀ x, x ∈ R ↔ Hangs l.length (kA l) (kB l) M a x := by
    intro kk F q ha hk hd
    have c : ¬ (kk : Int) < ((cz F).length : Int) := by rw [cz_length]; omega
    refine ⟨F, Ev.step (fun k => ?_) (Ev.now _), q.len, fun x => ⟨q.ok x, fun hx => ?_⟩⟩
    · simp only [spec_grKnots.l0, if_neg c]
    · induction hx with
      | here => exact ha
      | up hi hM _ ih =>
        obtain ⟨m, hm, e⟩ := List.mem_iff_getElem.1 ih
        exact (hd m (by omega) hm _ hi hM).1 e.symm
      | down hi hM _ ih =>
        obtain ⟨m, hm, e⟩ := List.mem_iff_getElem.1 ih
        exact (hd m (by omega) hm _ hi hM).2 e.symm
  intro d
  induction d with
  | zero =>
    intro kk F hk q ha hkl hd
    have := q.len
    exact stop kk F q ha (by omega) hd
  | succ d ih =>
    intro kk F hk q ha hkl hd
    by_cases hlt : kk < F.length
    · have g : (kk : Int) < ((cz F).length : Int) := by rw [cz_length]; omega
      obtain ⟨F', p1, p2, p3, p4⟩ := knots_in l h M a kk F[kk] l.length 0 F (by omega) q hlt rfl
      have hl' := p2.length_le
      obtain ⟨R, r1, r2⟩ := ih (kk + 1) F' (by omega) p1 (p2.subset ha) (by omega) (fun m hm hm' j hj hM => by
        obtain ⟨t, rfl⟩ := p2
        by_cases e : m = kk
        · subst e
          rw [List.getElem_append_left hlt]
          exact p3 j (Nat.zero_le _) hj hM
        · have hmF : m < F.length := by omega
          rw [List.getElem_append_left hmF]
          have := hd m (by omega) hmF j hj hM
          exact ⟨fun e => List.mem_append_left _ (this.1 e), fun e => List.mem_append_left _ (this.2 e)⟩)
      refine ⟨R, Ev.step (fun k => ?_) (p4 _ r1), r2⟩
      simp only [spec_grKnots.l0, if_pos g]
      rfl
    · exact stop kk F q ha (by omega) hd
theorem knots_ev (ha : a < 13) : ∃ R : List Nat, Ev (fun k => spec_grKnots.f k l (bl l.length M) (a : Int)) (cz R) ∧ R.length ≤ 13 ∧ ∀ x, x ∈ R ↔ Hangs l.length (kA l) (kB l) M a x :=
  knots_out l h M a 13 0 [a] (by omega)
    ⟨by simp, fun x hx => (show x < 13 from by rw [List.mem_singleton.1 hx]; exact ha), fun x hx => (by rw [List.mem_singleton.1 hx]; exact .here)⟩ (by simp) (by simp) (fun m hm => by omega)
end

/-! ### the same by lists of bools; what is chosen -/
theorem bl_succ (n M : Nat) : bl (n + 1) M = bl n M ++ [M.testBit n] := by simp [bl, List.range_succ]
theorem ground_l (l : List S33) (h : Ok l) (M : Nat) (R : List Nat) (hR : R.length ≤ 13) (hm : ∀ x, x ∈ R ↔ Hangs l.length (kA l) (kB l) M 0 x) : ∀ (d i : Nat), i + d = l.length →
    Ev (fun k => spec_grGround.l0 k (bl l.length M) (cz R) (bl i (gm l M)) l (l.length : Int) (i : Int)) (bl l.length (gm l M)) := by
  have hlen := h.len
  intro d
  induction d with
  | zero =>
    intro i hi
    have c : ¬ (i : Int) < (l.length : Int) := by omega
    have e : i = l.length := by omega
    subst e
    refine Ev.step (fun k => ?_) (Ev.now _)
    simp only [spec_grGround.l0, if_neg c]
  | succ d ih =>
    intro i hi
    have g1 : (i : Int) < (l.length : Int) := by omega
    have g2 : (0 : Int) ≤ (i : Int) := Int.natCast_nonneg _
    have hil : i < l.length := by omega
    have g3 : (i : Int) < ((bl l.length M).length : Int) := by rw [bl_length]; exact g1
    have g4 : (bl i (gm l M)).length < 140737488355328 := by rw [bl_length]; omega
    have hbl := bl_rd l.length M i hil
    have hw : wrap64 ((i : Int) + 1) = ((i + 1 : Nat) : Int) := wsucc i (by omega)
    have hg : (gm l M).testBit i = (M.testBit i && reachB l.length (kA l) (kB l) M 0 (kA l i)) := by
      rw [gm, mk_bit, decide_eq_true hil, Bool.true_and]
    have next := ih (i + 1) (by clear hw; omega)
    rw [bl_succ, hg] at next
    cases hM : M.testBit i with
    | false =>
      rw [hM, Bool.false_and] at next
      refine Ev.step (fun k => ?_) next
      simp only [spec_grGround.l0, if_pos g1, if_pos g2, if_pos g3, hbl, hM, Bool.false_eq_true, if_false, if_pos g4, hw]
    | true =>
      rw [hM, Bool.true_and] at next
      have hb : reachB l.length (kA l) (kB l) M 0 (kA l i) = decide (kA l i ∈ R) := by
        cases q : reachB l.length (kA l) (kB l) M 0 (kA l i) with
        | true => exact (decide_eq_true ((hm _).2 (reachB_iff.1 q))).symm
        | false =>
          refine (decide_eq_false fun z => ?_).symm
          have := reachB_iff.2 ((hm _).1 z)
          rw [q] at this
          cases this
      rw [hb] at next
      refine Ev.step (f := ?fu1) (fun k => ?eu1) ?vu1
      case eu1 => conv => lhs; simp only [spec_grGround.l0, if_pos g1, if_pos g2, if_pos g3, hbl, hM, if_true, h.fA, if_pos g4, hw]
      case vu1 => exact Ev.bind (has_ev R (kA l i) (by clear hw; omega)) next
theorem ground_ev (l : List S33) (h : Ok l) (M : Nat) : Ev (fun k => spec_grGround.f k l (bl l.length M)) (bl l.length (gm l M)) := by
  obtain ⟨R, r1, r2, r3⟩ := knots_ev l h M 0 (by decide)
  unfold spec_grGround.f
  exact Ev.bind r1 (ground_l l h M R r2 r3 l.length 0 (by omega))
/-- All twigs. -/
def am (n : Nat) : Nat := mk n fun _ => true
theorem all_l (n : Nat) (hn : n ≤ 14) : ∀ (d i : Nat), i + d = n → Ev (fun k => spec_grAll.l0 k (bl i (am n)) (n : Int) (i : Int)) (bl n (am n)) := by
  intro d
  induction d with
  | zero =>
    intro i hi
    have c : ¬ (i : Int) < (n : Int) := by omega
    have e : i = n := by omega
    subst e
    refine Ev.step (fun k => ?_) (Ev.now _)
    simp only [spec_grAll.l0, if_neg c]
  | succ d ih =>
    intro i hi
    have g1 : (i : Int) < (n : Int) := by omega
    have g4 : (bl i (am n)).length < 140737488355328 := by rw [bl_length]; omega
    have hg : (am n).testBit i = true := by rw [am, mk_bit, decide_eq_true (by omega)]; rfl
    have next := ih (i + 1) (by omega)
    rw [bl_succ, hg] at next
    have hw : wrap64 ((i : Int) + 1) = ((i + 1 : Nat) : Int) := wsucc i (by omega)
    refine Ev.step (fun k => ?_) next
    simp only [spec_grAll.l0, if_pos g1, if_pos g4, hw]
theorem specAll_ev (l : List S33) (h : Ok l) : Ev (fun k => spec_grAll.f k l) (bl l.length (am l.length)) := all_l l.length h.len l.length 0 (by omega)
theorem am_eq (n : Nat) : am n = 2 ^ n - 1 := by
  apply bits_ext
  intro j
  rw [am, mk_bit, Bool.and_true, Nat.testBit_two_pow_sub_one]
theorem implAll (l : List S33) (h : Ok l) : impl_all.f l = some ((am l.length : Nat) : Int) := by
  have hlen := h.len
  have hp : 2 ^ l.length ≤ 2 ^ 14 := Nat.pow_le_pow_right (by decide) hlen
  have h1 : 1 ≤ 2 ^ l.length := Nat.two_pow_pos _
  unfold impl_all.f
  rw [shl_one l.length (by omega), am_eq]
  congr 1
  have e : ((2 ^ l.length : Nat) : Int) - 1 = ((2 ^ l.length - 1 : Nat) : Int) := by omega
  rw [e]
  exact u64_small _ (by omega)
theorem am_lt (n : Nat) (h : n ≤ 14) : am n < 2 ^ 64 := Nat.lt_of_lt_of_le (mk_lt _ _) (Nat.pow_le_pow_right (by decide) (by omega))
theorem gm_lt (l : List S33) (h : Ok l) (M : Nat) : gm l M < 2 ^ 64 := Nat.lt_of_lt_of_le (mk_lt _ _) (Nat.pow_le_pow_right (by decide) (by have := h.len; omega))

def impl_grundy.vals (R G : Int → Option Int) (set : Int) : Nat → Option (List Int)
  | 0 => some []
  | n + 1 => (impl_grundy.vals R G set n).bind fun vs => if Go.bits .and .u64 (set / 2 ^ n) 1 = 1 then (G (Go.bits .andNot .u64 set (IntKind.u64.wrap (2 ^ n)))).bind fun s => (R s).bind fun v => some (vs ++ [v]) else some vs
/-- The Grundy value of a set of twigs, without a table. -/
def impl_grundy.f : Nat → List S33 → Int → Option Int
  | 0, _, _ => none
  | k + 1, l, set => if 0 ≤ set ∧ set < 16384 then (impl_grundy.vals (impl_grundy.f k l) (impl_grounded.f k l) set l.length).bind fun vs => some ((Go.Proofs.Ytgbcaicnpajekaa.Mp.mex vs : Nat) : Int) else none

/-! ### a twig is cut -/
theorem bl_set (n M c i : Nat) (hc : ∀ j, c.testBit j = (M.testBit j && !decide (j = i))) : (bl n M).set i false = bl n c := by
  apply List.ext_getElem?
  intro j
  rw [List.getElem?_set]
  by_cases e : i = j
  · subst e
    rw [if_pos rfl, bl_length]
    by_cases h : i < n
    · rw [if_pos h]
      simp [bl, h, hc]
    · rw [if_neg h, List.getElem?_eq_none (by rw [bl_length]; omega)]
  · rw [if_neg e]
    have : ¬ j = i := fun q => e q.symm
    by_cases hj : j < n
    · simp [bl, hc, this, hj]
    · rw [List.getElem?_eq_none (by rw [bl_length]; omega), List.getElem?_eq_none (by rw [bl_length]; omega)]
theorem minus_u (M i : Nat) (hM : M < 2 ^ 64) (hi : i < 64) : ∃ c : Nat, bits .andNot .u64 (M : Int) (shl .u64 1 (i : Int)) = (c : Int) ∧ c < 2 ^ 64 ∧ ∀ j, c.testBit j = (M.testBit j && !decide (j = i)) := by
  obtain ⟨c, h1, h2, h3⟩ := andNot_u M (2 ^ i) hM
  refine ⟨c, by rw [shl_one i hi]; exact h1, h2, fun j => ?_⟩
  rw [h3, Nat.testBit_two_pow]
  congr 2
  exact decide_eq_decide.2 ⟨fun h => h.symm, fun h => h.symm⟩

theorem specCut_ev (l : List S33) (h : Ok l) (M c i : Nat) (hi : i < l.length) (hc : ∀ j, c.testBit j = (M.testBit j && !decide (j = i))) : Ev (fun k => spec_grCut.f k l (bl l.length M) (i : Int)) (bl l.length (gm l c)) := by
  have hlen := h.len
  have g1 : ([] : List Bool).length + (bl l.length M).length < 140737488355328 := by rw [bl_length]; simp; omega
  have g2 : (0 : Int) ≤ (i : Int) := Int.natCast_nonneg _
  have g3 : (i : Int) < (([] ++ bl l.length M : List Bool).length : Int) := by rw [List.nil_append, bl_length]; omega
  unfold spec_grCut.f
  simp only [Option.bind_some, if_pos g1, if_pos g2, if_pos g3]
  rw [List.nil_append, Int.toNat_natCast, bl_set l.length M c i hc]
  exact Ev.bind (ground_ev l h c) (Ev.now _)

/-! ### what hangs together with a knot, by bits -/
section
variable (l : List S33) (h : Ok l) (M a : Nat) (hM : M < 2 ^ 64)
include h hM
theorem hung_in : ∀ (d i S : Nat), i + d = l.length → S < 2 ^ 13 → (∀ x, S.testBit x = true → Hangs l.length (kA l) (kB l) M a x) →
    ∃ S' : Nat, S' < 2 ^ 13 ∧ Rnd l.length (kA l) (kB l) M a i S S' ∧
      ∀ (T c r : Int), Ev (fun k => impl_hung.l0 k l (M : Int) (S' : Int) T (wrap64 (c + 1))) r → Ev (fun k => impl_hung.l1 k l (M : Int) (S : Int) T c l (l.length : Int) (i : Int)) r := by
  have hlen := h.len
  intro d
  induction d with
  | zero =>
    intro i S hi hS hr
    have c : ¬ (i : Int) < (l.length : Int) := by omega
    refine ⟨S, hS, rnd_end (by omega) hr, fun T c' r he => Ev.step (fun k => ?_) he⟩
    simp only [impl_hung.l1, if_neg c]
  | succ d ih =>
    intro i S hi hS hr
    have g1 : (i : Int) < (l.length : Int) := by omega
    have g2 : (0 : Int) ≤ (i : Int) := Int.natCast_nonneg _
    have hil : i < l.length := by omega
    have gA : (0 : Int) ≤ (kA l i : Int) := Int.natCast_nonneg _
    have gB : (0 : Int) ≤ (kB l i : Int) := Int.natCast_nonneg _
    have hA := h.A12 i
    have hB := h.B12 i
    have hS64 : S < 2 ^ 64 := Nat.lt_trans hS (by decide)
    have bM := bit1 M i hM (by omega)
    have bA := bit1 S (kA l i) hS64 (by omega)
    have bB := bit1 S (kB l i) hS64 (by omega)
    have aS := add_u S (kA l i) (kB l i) hS64 (by omega) (by omega)
    have hw : wrap64 ((i : Int) + 1) = ((i + 1 : Nat) : Int) := wsucc i (by omega)
    cases hm : M.testBit i with
    | false =>
      obtain ⟨S', p1, p3, p7⟩ := ih (i + 1) S (by clear hw; omega) hS hr
      refine ⟨S', p1, rnd_skip p3 (fun q => by rw [hm] at q; cases q), fun T c r he => Ev.step (fun k => ?_) (p7 T c r he)⟩
      simp only [impl_hung.l1, if_pos g1, if_pos g2, bM, hm, Bool.false_eq_true, if_false, hw]
    | true =>
      by_cases ht : S.testBit (kA l i) = true ∨ S.testBit (kB l i) = true
      · obtain ⟨S', p1, p3, p7⟩ := ih (i + 1) (S ||| (2 ^ kA l i ||| 2 ^ kB l i)) (by clear hw; omega) (or13 hS hA hB) (add_ok hil hm ht hr)
        refine ⟨S', p1, rnd_add hil hm ht p3, fun T c r he => Ev.step (fun k => ?_) (p7 T c r he)⟩
        cases hx : S.testBit (kA l i) with
        | true => simp only [impl_hung.l1, if_pos g1, if_pos g2, bM, hm, if_true, h.fA, h.fB, if_pos gA, if_pos gB, bA, hx, aS, hw]
        | false =>
          have hy : S.testBit (kB l i) = true := ht.resolve_left (by rw [hx]; simp)
          simp only [impl_hung.l1, if_pos g1, if_pos g2, bM, hm, if_true, h.fA, h.fB, if_pos gA, if_pos gB, bA, hx, bB, hy, Bool.false_eq_true, if_false, aS, hw]
      · obtain ⟨S', p1, p3, p7⟩ := ih (i + 1) S (by clear hw; omega) hS hr
        refine ⟨S', p1, rnd_skip p3 (fun _ => ht), fun T c r he => Ev.step (fun k => ?_) (p7 T c r he)⟩
        have hx : S.testBit (kA l i) = false := by
          cases q : S.testBit (kA l i)
          · rfl
          · exact absurd (.inl q) ht
        have hy : S.testBit (kB l i) = false := by
          cases q : S.testBit (kB l i)
          · rfl
          · exact absurd (.inr q) ht
        simp only [impl_hung.l1, if_pos g1, if_pos g2, bM, hm, if_true, h.fA, h.fB, if_pos gA, if_pos gB, bA, hx, bB, hy, Bool.false_eq_true, if_false, hw]
/-- The knots that hang together with one. -/
noncomputable def hgk (l : List S33) (M a : Nat) : Nat := mk 13 (reachB l.length (kA l) (kB l) M a)
theorem hung_out : ∀ (d c S : Nat), c + d = l.length → S < 2 ^ 13 → S.testBit a = true → (∀ x, S.testBit x = true → Hangs l.length (kA l) (kB l) M a x) →
    (Closed l.length (kA l) (kB l) M S ∨ c ≤ used l.length (kA l) (kB l) M S) →
    Ev (fun k => impl_hung.l0 k l (M : Int) (S : Int) (l.length : Int) (c : Int)) ((hgk l M a : Nat) : Int) := by
  have hlen := h.len
  intro d
  induction d with
  | zero =>
    intro c S hc hS h0 hr hcl
    have g : ¬ (c : Int) < (l.length : Int) := by omega
    have hcn : Closed l.length (kA l) (kB l) M S := hcl.elim id (fun q => used_full (by omega))
    have e : S = hgk l M a := reach_set hS hcn h0 hr
    rw [← e]
    refine Ev.step (fun k => ?_) (Ev.now _)
    simp only [impl_hung.l0, if_neg g]
  | succ d ih =>
    intro c S hc hS h0 hr hcl
    have g : (c : Int) < (l.length : Int) := by omega
    obtain ⟨S', p1, p3, p7⟩ := hung_in l h M a hM l.length 0 S (by omega) hS hr
    refine Ev.step (fun k => ?_) (p7 (l.length : Int) (c : Int) _ ?_)
    · simp only [impl_hung.l0, if_pos g]
      rfl
    · rw [wsucc c (by omega)]
      exact ih (c + 1) S' (by omega) p1 (p3.sub _ h0) p3.ok (rnd_round p3 h0 hcl)
theorem hung_ev (ha : a < 13) : Ev (fun k => impl_hung.f k l (M : Int) (a : Int)) ((hgk l M a : Nat) : Int) := by
  unfold impl_hung.f
  simp only [if_pos (Int.natCast_nonneg a), shl_one a (by omega)]
  refine hung_out l h M a hM l.length 0 (2 ^ a) (by omega) (Nat.pow_lt_pow_right (by decide) ha) (Nat.testBit_two_pow_self) (fun x hx => ?_) (.inr (Nat.zero_le _))
  have e : x = a := by
    rw [Nat.testBit_two_pow] at hx
    exact (of_decide_eq_true hx).symm
  subst e
  exact .here
end
theorem hm_lt (l : List S33) (M a : Nat) : hgk l M a < 2 ^ 64 := Nat.lt_of_lt_of_le (mk_lt _ _) (Nat.pow_le_pow_right (by decide) (by decide))
theorem hm_bit (l : List S33) (M a x : Nat) (hx : x < 13) : (hgk l M a).testBit x = reachB l.length (kA l) (kB l) M a x := by
  rw [hgk, mk_bit, decide_eq_true hx, Bool.true_and]

/-! ### bridges -/
/-- A set without one. -/
def mn (M i : Nat) : Nat := mk 64 fun j => M.testBit j && !decide (j = i)
theorem mn_bit (M i : Nat) (hM : M < 2 ^ 64) (j : Nat) : (mn M i).testBit j = (M.testBit j && !decide (j = i)) := by
  rw [mn, mk_bit]
  by_cases hj : j < 64
  · rw [decide_eq_true hj, Bool.true_and]
  · have : M.testBit j = false := Nat.testBit_lt_two_pow (Nat.lt_of_lt_of_le hM (Nat.pow_le_pow_right (by decide) (by omega)))
    rw [decide_eq_false hj, this]; rfl
theorem mn_lt (M i : Nat) : mn M i < 2 ^ 64 := mk_lt _ _
theorem minus_mn (M i : Nat) (hM : M < 2 ^ 64) (hi : i < 64) : bits .andNot .u64 (M : Int) (shl .u64 1 (i : Int)) = ((mn M i : Nat) : Int) := by
  obtain ⟨c, h1, _, h3⟩ := minus_u M i hM hi
  rw [h1]
  congr 1
  apply bits_ext
  intro j
  rw [h3, mn_bit M i hM]
/-- Is a twig of a set a bridge. -/
noncomputable def isB (l : List S33) (G i : Nat) : Bool := G.testBit i && !reachB l.length (kA l) (kB l) (mn G i) (kA l i) (kB l i)
noncomputable def bm (l : List S33) (G : Nat) : Nat := mk l.length (isB l G)
theorem bridge_ev (l : List S33) (h : Ok l) (G i : Nat) (hG : G < 2 ^ 64) (hi : i < l.length) : Ev (fun k => spec_grBridge.f k l (bl l.length G) (i : Int)) (!reachB l.length (kA l) (kB l) (mn G i) (kA l i) (kB l i)) := by
  have hlen := h.len
  have hA := h.A12 i
  have hB := h.B12 i
  obtain ⟨R, r1, r2, r3⟩ := knots_ev l h (mn G i) (kA l i) (by omega)
  have g1 : ([] : List Bool).length + (bl l.length G).length < 140737488355328 := by rw [bl_length]; simp; omega
  have g2 : (0 : Int) ≤ (i : Int) := Int.natCast_nonneg _
  have g3 : (i : Int) < (([] ++ bl l.length G : List Bool).length : Int) := by rw [List.nil_append, bl_length]; omega
  have g4 : (i : Int) < (l.length : Int) := by omega
  have hb : reachB l.length (kA l) (kB l) (mn G i) (kA l i) (kB l i) = decide (kB l i ∈ R) := by
    cases q : reachB l.length (kA l) (kB l) (mn G i) (kA l i) (kB l i) with
    | true => exact (decide_eq_true ((r3 _).2 (reachB_iff.1 q))).symm
    | false =>
      refine (decide_eq_false fun z => ?_).symm
      have := reachB_iff.2 ((r3 _).1 z)
      rw [q] at this
      cases this
  unfold spec_grBridge.f
  simp only [Option.bind_some, if_pos g1, if_pos g2, if_pos g3, if_pos g4, h.fA, h.fB]
  rw [List.nil_append, Int.toNat_natCast, bl_set l.length G (mn G i) i (mn_bit G i hG), hb]
  exact Ev.bind r1 (Ev.bind (has_ev R (kB l i) (by omega)) (Ev.now _))
theorem specBridges_l (l : List S33) (h : Ok l) (G : Nat) (hG : G < 2 ^ 64) : ∀ (d i : Nat), i + d = l.length →
    Ev (fun k => spec_grBridges.l0 k l (bl l.length G) (bl i (bm l G)) (l.length : Int) (i : Int)) (bl l.length (bm l G)) := by
  have hlen := h.len
  intro d
  induction d with
  | zero =>
    intro i hi
    have c : ¬ (i : Int) < (l.length : Int) := by omega
    have e : i = l.length := by omega
    subst e
    refine Ev.step (fun k => ?_) (Ev.now _)
    simp only [spec_grBridges.l0, if_neg c]
  | succ d ih =>
    intro i hi
    have g1 : (i : Int) < (l.length : Int) := by omega
    have g2 : (0 : Int) ≤ (i : Int) := Int.natCast_nonneg _
    have hil : i < l.length := by omega
    have g3 : (i : Int) < ((bl l.length G).length : Int) := by rw [bl_length]; exact g1
    have g4 : (bl i (bm l G)).length < 140737488355328 := by rw [bl_length]; omega
    have hbl := bl_rd l.length G i hil
    have hg : (bm l G).testBit i = isB l G i := by rw [bm, mk_bit, decide_eq_true hil, Bool.true_and]
    have next := ih (i + 1) (by omega)
    have hw : wrap64 ((i : Int) + 1) = ((i + 1 : Nat) : Int) := wsucc i (by omega)
    rw [bl_succ, hg, isB] at next
    cases hm : G.testBit i with
    | false =>
      rw [hm, Bool.false_and] at next
      refine Ev.step (fun k => ?_) next
      simp only [spec_grBridges.l0, if_pos g1, if_pos g2, if_pos g3, hbl, hm, Bool.false_eq_true, if_false, if_pos g4, hw]
    | true =>
      rw [hm, Bool.true_and] at next
      refine Ev.step (f := ?gga) (fun k => ?ggb) ?ggc
      case ggb => conv => lhs; simp only [spec_grBridges.l0, if_pos g1, if_pos g2, if_pos g3, hbl, hm, if_true, if_pos g4, hw]
      case ggc => exact Ev.bind (bridge_ev l h G i hG hil) next
theorem specBridges_ev (l : List S33) (h : Ok l) : Ev (fun k => spec_grBridges.f k l) (bl l.length (bm l (gm l (am l.length)))) := by
  unfold spec_grBridges.f
  exact Ev.bind (specAll_ev l h) (Ev.bind (ground_ev l h _) (specBridges_l l h _ (gm_lt l h _) l.length 0 (by omega)))
theorem mk_succ (n : Nat) (f : Nat → Bool) : mk (n + 1) f = mk n f ||| (if f n then 2 ^ n else 0) := rfl
theorem implBridges_l (l : List S33) (h : Ok l) (G : Nat) (hG : G < 2 ^ 64) : ∀ (d i : Nat), i + d = l.length →
    Ev (fun k => impl_bridges.l0 k l (G : Int) ((mk i (isB l G) : Nat) : Int) l (l.length : Int) (i : Int)) ((bm l G : Nat) : Int) := by
  have hlen := h.len
  intro d
  induction d with
  | zero =>
    intro i hi
    have c : ¬ (i : Int) < (l.length : Int) := by omega
    have e : i = l.length := by omega
    subst e
    refine Ev.step (fun k => ?_) (Ev.now _)
    simp only [impl_bridges.l0, if_neg c]
    rfl
  | succ d ih =>
    intro i hi
    have g1 : (i : Int) < (l.length : Int) := by omega
    have g2 : (0 : Int) ≤ (i : Int) := Int.natCast_nonneg _
    have hil : i < l.length := by omega
    have hi64 : i < 64 := by omega
    have hA := h.A12 i
    have hB := h.B12 i
    have gB : (0 : Int) ≤ (kB l i : Int) := Int.natCast_nonneg _
    have bM := bit1 G i hG hi64
    have b0 := bit0 (hgk l (mn G i) (kA l i)) (kB l i) (hm_lt l _ _) (by omega)
    rw [hm_bit l _ _ _ (by omega)] at b0
    have next := ih (i + 1) (by omega)
    have hev := hung_ev l h (mn G i) (kA l i) (mn_lt _ _) (by omega)
    have hlt : mk i (isB l G) < 2 ^ 64 := Nat.lt_of_lt_of_le (mk_lt _ _) (Nat.pow_le_pow_right (by decide) (by omega))
    have aO := add1_u (mk i (isB l G)) i hlt hi64
    have hw : wrap64 ((i : Int) + 1) = ((i + 1 : Nat) : Int) := wsucc i (by omega)
    rw [mk_succ] at next
    cases hm : G.testBit i with
    | false =>
      have hb : isB l G i = false := by rw [isB, hm]; rfl
      rw [hb, if_neg (by decide), Nat.or_zero] at next
      refine Ev.step (fun k => ?_) next
      simp only [impl_bridges.l0, if_pos g1, if_pos g2, bM, hm, Bool.false_eq_true, if_false, hw]
    | true =>
      refine Ev.step (f := ?gga) (fun k => ?ggb) ?ggc
      case ggb => conv => lhs; simp only [impl_bridges.l0, if_pos g1, if_pos g2, bM, hm, if_true, minus_mn G i hG hi64, h.fA, h.fB, if_pos gB, aO, hw]
      case ggc =>
        refine Ev.bind hev ?_
        simp only [b0]
        cases hr : reachB l.length (kA l) (kB l) (mn G i) (kA l i) (kB l i) with
        | false =>
          have hb : isB l G i = true := by rw [isB, hm, hr]; rfl
          rw [hb, if_pos rfl] at next
          simp only [if_true]
          exact next
        | true =>
          have hb : isB l G i = false := by rw [isB, hm, hr]; rfl
          rw [hb, if_neg (by decide), Nat.or_zero] at next
          simp only [Bool.true_eq_false, if_false]
          exact next
theorem implBridges_ev (l : List S33) (h : Ok l) : Ev (fun k => impl_bridges.f k l) ((bm l (gm l (am l.length)) : Nat) : Int) := by
  unfold impl_bridges.f
  simp only [implAll l h, Option.bind_some]
  exact Ev.bind (grounded_ev l h _ (am_lt _ h.len)) (implBridges_l l h _ (gm_lt l h _) l.length 0 (by omega))

/-! ### values by play -/
theorem ev_uniq {α : Type} {g : Nat → Option α} {a b : α} (h1 : Ev g a) (h2 : Ev g b) : a = b := by
  obtain ⟨K1, q1⟩ := h1
  obtain ⟨K2, q2⟩ := h2
  exact Option.some.inj ((q1 (K1 + K2) (by omega)).symm.trans (q2 (K1 + K2) (by omega)))
theorem two_cast (i : Nat) : ((2 : Int) ^ i) = ((2 ^ i : Nat) : Int) := by rw [Int.natCast_pow]; rfl
theorem ibit (M i : Nat) (hM : M < 2 ^ 64) (hi : i < 64) : (bits .and .u64 ((M : Int) / 2 ^ i) 1 = 1) = (M.testBit i = true) := by
  have e : (M : Int) / 2 ^ i = shr .u64 (M : Int) (i : Int) := by
    rw [shr_u M i hi, two_cast, Int.natCast_ediv]
  rw [e, bit1 M i hM hi]
theorem iwrap (i : Nat) (hi : i < 64) : IntKind.u64.wrap (2 ^ i) = shl .u64 1 (i : Int) := by
  rw [shl_one i hi, two_cast]
  exact u64_small _ (Nat.pow_lt_pow_right (by decide) hi)
noncomputable def gc (l : List S33) (M i : Nat) : Nat := gm l (mn M i)
def V (l : List S33) (M v : Nat) : Prop := Ev (fun k => impl_grundy.f k l (M : Int)) ((v : Nat) : Int)
def W (l : List S33) (M i : Nat) (vs : List Nat) : Prop := Ev (fun k => impl_grundy.vals (impl_grundy.f k l) (impl_grounded.f k l) (M : Int) i) (cz vs)
theorem sub_le {a b : Nat} (h : ∀ j, a.testBit j = true → b.testBit j = true) : a ≤ b := by
  have e : a = a &&& b := by
    apply Nat.eq_of_testBit_eq
    intro j
    rw [Nat.testBit_and]
    cases q : a.testBit j with
    | false => rfl
    | true => rw [h j q]; rfl
  rw [e]
  exact Nat.and_le_right
theorem gc_lt (l : List S33) (M i : Nat) (hM : M < 2 ^ 64) (hb : M.testBit i = true) : gc l M i < M := by
  have h1 : gc l M i ≤ mn M i := sub_le (fun j hj => by
    unfold gc gm at hj
    rw [mk_bit] at hj
    simp only [Bool.and_eq_true] at hj
    exact hj.2.1)
  have h2 : mn M i ≤ M := sub_le (fun j hj => by
    rw [mn_bit M i hM] at hj
    simp only [Bool.and_eq_true] at hj
    exact hj.1)
  have h3 : mn M i ≠ M := fun e => by
    have := mn_bit M i hM i
    rw [e, hb] at this
    simp at this
  omega
theorem gm_bd (l : List S33) (M : Nat) : gm l M < 2 ^ l.length := mk_lt _ _
theorem W_zero (l : List S33) (M : Nat) : W l M 0 [] := Ev.now _
theorem W_bit {l : List S33} (h : Ok l) {M i v : Nat} {vs : List Nat} (hM : M < 2 ^ 64) (hi : i < l.length) (hb : M.testBit i = true) (hv : V l (gc l M i) v) (hW : W l M i vs) : W l M (i + 1) (vs ++ [v]) := by
  have hlen := h.len
  have c : bits .and .u64 ((M : Int) / 2 ^ i) 1 = 1 := by rw [ibit M i hM (by omega)]; exact hb
  have e : bits .andNot .u64 (M : Int) (IntKind.u64.wrap (2 ^ i)) = ((mn M i : Nat) : Int) := by rw [iwrap i (by omega)]; exact minus_mn M i hM (by omega)
  unfold W
  rw [← cz_snoc]
  have h2 : Ev (fun k => (impl_grounded.f k l ((mn M i : Nat) : Int)).bind fun s => (impl_grundy.f k l s).bind fun v => some (cz vs ++ [v])) (cz vs ++ [(v : Int)]) := Ev.bind (grounded_ev l h (mn M i) (mn_lt M i)) (Ev.bind hv (Ev.now _))
  refine Ev.congr (fun k => ?_) (Ev.bind (f := fun k ws => (impl_grounded.f k l ((mn M i : Nat) : Int)).bind fun s => (impl_grundy.f k l s).bind fun v => some (ws ++ [v])) hW h2)
  show (impl_grundy.vals (impl_grundy.f k l) (impl_grounded.f k l) (M : Int) i).bind _ = _
  congr 1
  funext ws
  rw [if_pos c, e]
theorem W_no {l : List S33} (h : Ok l) {M i : Nat} {vs : List Nat} (hM : M < 2 ^ 64) (hi : i < l.length) (hb : M.testBit i = false) (hW : W l M i vs) : W l M (i + 1) vs := by
  have hlen := h.len
  have c : ¬ bits .and .u64 ((M : Int) / 2 ^ i) 1 = 1 := by rw [ibit M i hM (by omega), hb]; decide
  unfold W
  refine Ev.congr (fun k => ?_) (Ev.bind (f := fun _ ws => some ws) hW (Ev.now _))
  show (impl_grundy.vals (impl_grundy.f k l) (impl_grounded.f k l) (M : Int) i).bind _ = _
  congr 1
  funext ws
  rw [if_neg c]
theorem V_of_W {l : List S33} {M : Nat} {vs : List Nat} (hM : M < 16384) (hW : W l M l.length vs) : V l M (Go.Proofs.Ytgbcaicnpajekaa.Mp.mex (cz vs)) := by
  have c : 0 ≤ (M : Int) ∧ (M : Int) < 16384 := by omega
  refine Ev.step (f := fun k => (impl_grundy.vals (impl_grundy.f k l) (impl_grounded.f k l) (M : Int) l.length).bind fun vs => some ((Go.Proofs.Ytgbcaicnpajekaa.Mp.mex vs : Nat) : Int)) (fun k => ?_) (Ev.bind hW (Ev.now _))
  show (if 0 ≤ (M : Int) ∧ (M : Int) < 16384 then _ else _) = _
  rw [if_pos c]
theorem pow14 {l : List S33} (h : Ok l) : 2 ^ l.length ≤ 16384 := Nat.le_trans (Nat.pow_le_pow_right (by decide) h.len) (by decide)
theorem V_ex {l : List S33} (h : Ok l) : ∀ M, M < 2 ^ l.length → ∃ v : Nat, V l M v ∧ v ≤ 14 := by
  intro M
  induction M using Nat.strongRecOn with
  | ind M ih =>
    intro hM
    have hp := pow14 h
    have hlen := h.len
    have loop : ∀ i, i ≤ l.length → ∃ vs, W l M i vs ∧ vs.length ≤ i := by
      intro i
      induction i with
      | zero => intro _; exact ⟨[], W_zero l M, Nat.le_refl _⟩
      | succ i ih2 =>
        intro hi
        obtain ⟨vs, h1, h2⟩ := ih2 (by omega)
        cases hb : M.testBit i with
        | false => exact ⟨vs, W_no h (by omega) (by omega) hb h1, by omega⟩
        | true =>
          obtain ⟨v, q1, _⟩ := ih (gc l M i) (gc_lt l M i (by omega) hb) (gm_bd l _)
          exact ⟨vs ++ [v], W_bit h (by omega) (by omega) hb q1 h1, by simp; omega⟩
    obtain ⟨vs, h1, h2⟩ := loop l.length (Nat.le_refl _)
    refine ⟨_, V_of_W (by omega) h1, ?_⟩
    have := Go.Proofs.Ytgbcaicnpajekaa.Mp.mex_le (cz vs)
    rw [cz_length] at this
    omega
theorem V_le {l : List S33} (h : Ok l) {M v : Nat} (hM : M < 2 ^ l.length) (hv : V l M v) : v ≤ 14 := by
  obtain ⟨v', h1, h2⟩ := V_ex h M hM
  have := ev_uniq hv h1
  omega
/-! ### the reference's table -/
theorem shl1 (n : Nat) (h : n ≤ 40) : shl .i64 1 (n : Int) = ((2 ^ n : Nat) : Int) := by
  have hp : 2 ^ n ≤ 2 ^ 40 := Nat.pow_le_pow_right (by decide) h
  unfold shl
  have : min ((n : Int).toNat) IntKind.i64.bits = n := by simp [IntKind.bits]; omega
  rw [this, IntKind.wrap_i64, Int.one_mul, two_cast]
  generalize 2 ^ n = q at hp ⊢
  omega
theorem mod_succ (M i : Nat) : M % 2 ^ (i + 1) = M % 2 ^ i + 2 ^ i * (M.testBit i).toNat := by
  rw [Nat.pow_succ, Nat.mod_mul, Nat.testBit_eq_decide_div_mod_eq]
  congr 2
  have : M / 2 ^ i % 2 < 2 := Nat.mod_lt _ (by decide)
  generalize M / 2 ^ i % 2 = q at this ⊢
  rcases (by omega : q = 0 ∨ q = 1) with rfl | rfl <;> rfl
theorem wadd (a b : Nat) (ha : a < 2 ^ 50) (hb : b < 2 ^ 50) : wrap64 ((a : Int) + (b : Int)) = ((a + b : Nat) : Int) := by unfold wrap64; omega
theorem wpred (v : Nat) (h : v < 2 ^ 50) : wrap64 (((v : Int) + 1) - 1) = (v : Int) := by unfold wrap64; omega
theorem mask_l (n M : Nat) (hn : n ≤ 14) : ∀ (d i : Nat), i + d = n → Ev (fun k => spec_grMask.l0 k ((M % 2 ^ i : Nat) : Int) (bl n M) (n : Int) (i : Int)) ((M % 2 ^ n : Nat) : Int) := by
  intro d
  induction d with
  | zero =>
    intro i hi
    obtain rfl : i = n := by omega
    refine Ev.step (fun k => ?_) (Ev.now _)
    simp only [spec_grMask.l0, if_neg (show ¬ (i : Int) < (i : Int) by omega)]
  | succ d ih =>
    intro i hi
    have g1 : (i : Int) < (n : Int) := by omega
    have g2 : (0 : Int) ≤ (i : Int) := Int.natCast_nonneg _
    have g3 : (i : Int) < ((bl n M).length : Int) := by rw [bl_length]; omega
    have hn' := ih (i + 1) (by omega)
    have hp : 2 ^ i ≤ 2 ^ 14 := Nat.pow_le_pow_right (by decide) (by omega)
    have hm : M % 2 ^ i < 2 ^ i := Nat.mod_lt _ (Nat.two_pow_pos _)
    rw [mod_succ] at hn'
    have hw := wsucc i (by omega)
    cases hb : M.testBit i with
    | true =>
      rw [hb] at hn'
      simp only [Bool.toNat_true, Nat.mul_one] at hn'
      refine Ev.step (fun k => ?_) hn'
      simp only [spec_grMask.l0, if_pos g1, if_pos g2, if_pos g3, bl_rd n M i (by omega), hb, if_true, shl1 i (by omega), wadd _ _ (show M % 2 ^ i < 2 ^ 50 by omega) (show 2 ^ i < 2 ^ 50 by omega), hw]
    | false =>
      rw [hb] at hn'
      simp only [Bool.toNat_false, Nat.mul_zero, Nat.add_zero] at hn'
      refine Ev.step (fun k => ?_) hn'
      simp only [spec_grMask.l0, if_pos g1, if_pos g2, if_pos g3, bl_rd n M i (by omega), hb, Bool.false_eq_true, if_false, hw]
theorem mask_ev (n M : Nat) (hn : n ≤ 14) (hM : M < 2 ^ n) : Ev (fun k => spec_grMask.f k (bl n M)) (M : Int) := by
  have := mask_l n M hn n 0 (by omega)
  rw [Nat.pow_zero, Nat.mod_one, Nat.mod_eq_of_lt hM] at this
  unfold spec_grMask.f
  rw [bl_length]
  exact this
theorem cz_has (F : List Nat) (x : Nat) : (cz F).contains (x : Int) = decide (x ∈ F) := by
  rw [Bool.eq_iff_iff, List.contains_iff_mem, decide_eq_true_iff]
  unfold cz
  rw [List.mem_map]
  constructor
  · rintro ⟨y, hy, e⟩
    rwa [← Int.ofNat_inj.1 e]
  · intro h
    exact ⟨x, h, rfl⟩
theorem mex_l (F : List Nat) (hF : F.length ≤ 14) : ∀ (d m : Nat), m + d = Go.Proofs.Ytgbcaicnpajekaa.Mp.mex (cz F) → Ev (fun k => spec_grMex.l0 k (cz F) (m : Int)) ((Go.Proofs.Ytgbcaicnpajekaa.Mp.mex (cz F) : Nat) : Int) := by
  intro d
  have hle := Go.Proofs.Ytgbcaicnpajekaa.Mp.mex_le (cz F)
  rw [cz_length] at hle
  induction d with
  | zero =>
    intro m hm
    have e : m = Go.Proofs.Ytgbcaicnpajekaa.Mp.mex (cz F) := by omega
    have hh := has_ev F m (by omega)
    have hn := Go.Proofs.Ytgbcaicnpajekaa.Mp.mex_not (cz F)
    rw [← e, cz_has] at hn
    rw [hn] at hh
    rw [← e]
    refine Ev.step (f := ?gga1) (fun k => ?ggb1) ?ggc1
    case ggb1 => conv => lhs; simp only [spec_grMex.l0]
    case ggc1 =>
      refine Ev.bind hh ?_
      simp only [Bool.false_eq_true, if_false]
      exact Ev.now _
  | succ d ih =>
    intro m hm
    have hh := has_ev F m (by omega)
    have hn := Go.Proofs.Ytgbcaicnpajekaa.Mp.mex_all (cz F) m (by omega)
    rw [cz_has] at hn
    rw [hn] at hh
    have hnx := ih (m + 1) (by omega)
    have hw := wsucc m (by omega)
    refine Ev.step (f := ?gga2) (fun k => ?ggb2) ?ggc2
    case ggb2 => conv => lhs; simp only [spec_grMex.l0]
    case ggc2 =>
      refine Ev.bind hh ?_
      simp only [if_true, hw]
      exact hnx
theorem mex_ev (F : List Nat) (hF : F.length ≤ 14) : Ev (fun k => spec_grMex.f k (cz F)) ((Go.Proofs.Ytgbcaicnpajekaa.Mp.mex (cz F) : Nat) : Int) := mex_l F hF (Go.Proofs.Ytgbcaicnpajekaa.Mp.mex (cz F)) 0 (by omega)
/-- What the table tells is right. -/
structure Tab (l : List S33) (T : List Int) : Prop where
  len : T.length = 2 ^ l.length
  at_ : ∀ M : Nat, M < 2 ^ l.length → rd T (M : Int) = 0 ∨ ∃ v : Nat, V l M v ∧ rd T (M : Int) = (v : Int) + 1
theorem rd_set (T : List Int) (i : Nat) (v : Int) (h : i < T.length) (j : Nat) : rd (T.set i v) (j : Int) = if j = i then v else rd T (j : Int) := by
  unfold rd
  rw [Int.toNat_natCast]
  by_cases e : j = i
  · subst e
    rw [if_pos rfl]
    simp [h]
  · rw [if_neg e]
    have : ¬ i = j := fun q => e q.symm
    simp [this]
theorem Tab.set {l : List S33} {T : List Int} (h : Tab l T) {M v : Nat} (hM : M < 2 ^ l.length) (hv : V l M v) : Tab l (T.set M ((v : Int) + 1)) := by
  refine ⟨by rw [List.length_set]; exact h.len, fun M' hM' => ?_⟩
  rw [rd_set T M _ (by rw [h.len]; exact hM)]
  by_cases e : M' = M
  · subst e
    rw [if_pos rfl]
    exact Or.inr ⟨v, hv, rfl⟩
  · rw [if_neg e]
    exact h.at_ M' hM'
theorem Tab.zero (l : List S33) : Tab l (List.replicate (2 ^ l.length) 0) := by
  refine ⟨List.length_replicate, fun M hM => Or.inl ?_⟩
  unfold rd
  simp [hM]
theorem play_ev {l : List S33} (h : Ok l) : ∀ M, M < 2 ^ l.length → ∀ v, V l M v → ∀ T, Tab l T → ∃ T', Tab l T' ∧ Ev (fun k => spec_grPlay.f k l (bl l.length M) T) ((v : Int), T') := by
  intro M
  induction M using Nat.strongRecOn with
  | ind M ih =>
    intro hM v hv T hT
    have hp := pow14 h
    have hlen := h.len
    have hv14 := V_le h hM hv
    have hmask := mask_ev l.length M hlen hM
    have g1 : (0 : Int) ≤ (M : Int) := Int.natCast_nonneg _
    have g2 : (M : Int) < (T.length : Int) := by rw [hT.len]; omega
    by_cases hz : rd T (M : Int) > 0
    · rcases hT.at_ M hM with e | ⟨v', hv', e⟩
      · omega
      · have evv : (v : Int) = (v' : Int) := ev_uniq hv hv'
        refine ⟨T, hT, Ev.step (f := ?gga3) (fun k => ?ggb3) ?ggc3⟩
        case ggb3 => conv => lhs; simp only [spec_grPlay.f]
        case ggc3 =>
          refine Ev.bind hmask ?_
          simp only [if_pos g1, if_pos g2, if_pos hz]
          rw [e, wpred v' (by omega), evv]
          exact Ev.now _
    · have loop : ∀ (d i : Nat) (vs : List Nat) (T : List Int), i + d = l.length → Tab l T → W l M i vs → vs.length ≤ i → ∃ T', Tab l T' ∧ Ev (fun k => spec_grPlay.l0 k l (bl l.length M) T (M : Int) (cz vs) (l.length : Int) (i : Int)) ((v : Int), T') := by
        intro d
        induction d with
        | zero =>
          intro i vs T hi hT hW hvs
          obtain rfl : i = l.length := by omega
          have hm := V_of_W (by omega) hW
          have e : v = Go.Proofs.Ytgbcaicnpajekaa.Mp.mex (cz vs) := Int.ofNat_inj.1 (ev_uniq hv hm)
          have hme := mex_ev vs (by omega)
          rw [← e] at hme
          have g2 : (M : Int) < (T.length : Int) := by rw [hT.len]; omega
          have g3 : ¬ (l.length : Int) < (l.length : Int) := by omega
          have e2 : rd (T.set M ((v : Int) + 1)) (M : Int) = (v : Int) + 1 := by rw [rd_set T M _ (by rw [hT.len]; exact hM), if_pos rfl]
          have e3 : wrap64 ((v : Int) + 1) = (v : Int) + 1 := by rw [wsucc v (by omega)]; rfl
          refine ⟨T.set M ((v : Int) + 1), hT.set hM hv, Ev.step (f := ?gga4) (fun k => ?ggb4) ?ggc4⟩
          case ggb4 => conv => lhs; simp only [spec_grPlay.l0, if_neg g3]
          case ggc4 =>
            refine Ev.bind hme ?_
            simp only [if_pos g1, if_pos g2, Int.toNat_natCast, Option.bind_some, e3, e2, wpred v (by clear e3; omega)]
            exact Ev.now _
        | succ d ihd =>
          intro i vs T hi hT hW hvs
          have k1 : (i : Int) < (l.length : Int) := by omega
          have k2 : (0 : Int) ≤ (i : Int) := Int.natCast_nonneg _
          have k3 : (i : Int) < ((bl l.length M).length : Int) := by rw [bl_length]; omega
          have hrd := bl_rd l.length M i (by omega)
          have hw := wsucc i (by omega)
          have hM64 : M < 2 ^ 64 := by clear hw; omega
          have hil : i < l.length := by clear hw; omega
          cases hb : M.testBit i with
          | true =>
            obtain ⟨v', hv', hv14'⟩ := V_ex h (gc l M i) (gm_bd l _)
            obtain ⟨T2, hT2, p2⟩ := ih (gc l M i) (gc_lt l M i hM64 hb) (gm_bd l _) v' hv' T hT
            obtain ⟨T3, hT3, p3⟩ := ihd (i + 1) (vs ++ [v']) T2 (by clear hw; omega) hT2 (W_bit h hM64 hil hb hv' hW) (by simp; clear hw; omega)
            have hcut := specCut_ev l h M (mn M i) i hil (mn_bit M i hM64)
            have k4 : (cz vs).length < 17592186044416 := by rw [cz_length]; clear hw; omega
            refine ⟨T3, hT3, Ev.step (f := ?gga5) (fun k => ?ggb5) ?ggc5⟩
            case ggb5 => conv => lhs; simp only [spec_grPlay.l0, if_pos k1, if_pos k2, if_pos k3, hrd, hb, if_true]
            case ggc5 =>
              refine Ev.bind hcut (Ev.bind p2 ?_)
              simp only [if_pos k4, cz_snoc, hw]
              exact p3
          | false =>
            obtain ⟨T3, hT3, p3⟩ := ihd (i + 1) vs T (by clear hw; omega) hT (W_no h hM64 hil hb hW) (by clear hw; omega)
            refine ⟨T3, hT3, Ev.step (fun k => ?_) p3⟩
            simp only [spec_grPlay.l0, if_pos k1, if_pos k2, if_pos k3, hrd, hb, Bool.false_eq_true, if_false, hw]
      obtain ⟨T', hT', p⟩ := loop l.length 0 [] T (by omega) hT (W_zero l M) (Nat.le_refl _)
      refine ⟨T', hT', Ev.step (f := ?gga6) (fun k => ?ggb6) ?ggc6⟩
      case ggb6 => conv => lhs; simp only [spec_grPlay.f]
      case ggc6 =>
        refine Ev.bind hmask ?_
        simp only [if_pos g1, if_pos g2, if_neg hz]
        exact p
theorem shl_n {l : List S33} (h : Ok l) : shl .i64 1 (l.length : Int) = ((2 ^ l.length : Nat) : Int) := shl1 _ (Nat.le_trans h.len (by decide))

/-! ### the value of a picture -/
theorem value_ev {l : List S33} (h : Ok l) : ∃ v : Nat, V l (gm l (am l.length)) v ∧ Ev (fun k => spec_grValue.f k l) (v : Int) := by
  obtain ⟨v, h1, h2⟩ := V_ex h (gm l (am l.length)) (gm_bd l _)
  obtain ⟨T', _, p⟩ := play_ev h (gm l (am l.length)) (gm_bd l _) v h1 _ (Tab.zero l)
  have hp := pow14 h
  have g1 : 0 ≤ ((2 ^ l.length : Nat) : Int) := Int.natCast_nonneg _
  have g2 : 2 ^ l.length ≤ 35184372088832 := by omega
  refine ⟨v, h1, ?_⟩
  unfold spec_grValue.f
  simp only [shl_n h, if_pos g1, Int.toNat_natCast, if_pos g2]
  exact Ev.bind (specAll_ev l h) (Ev.bind (ground_ev l h _) (Ev.bind p (Ev.now _)))

/-! ### the value by fusion: both sides go the same way, and the way ends -/
theorem hangs_mono {n : Nat} {A B : Nat → Nat} {M M' a x : Nat} (hs : ∀ j, j < n → M.testBit j = true → M'.testBit j = true) (h : Hangs n A B M a x) : Hangs n A B M' a x := by
  induction h with
  | here => exact .here
  | up hi hM _ ih => exact .up hi (hs _ hi hM) ih
  | down hi hM _ ih => exact .down hi (hs _ hi hM) ih
theorem hangs_trans {n : Nat} {A B : Nat → Nat} {M a b x : Nat} (h1 : Hangs n A B M a b) (h2 : Hangs n A B M b x) : Hangs n A B M a x := by
  induction h2 with
  | here => exact h1
  | up hi hM _ ih => exact .up hi hM ih
  | down hi hM _ ih => exact .down hi hM ih
theorem hangs_symm {n : Nat} {A B : Nat → Nat} {M a x : Nat} (h : Hangs n A B M a x) : Hangs n A B M x a := by
  induction h with
  | here => exact .here
  | up hi hM _ ih => exact hangs_trans (.down hi hM .here) ih
  | down hi hM _ ih => exact hangs_trans (.up hi hM .here) ih
/-- The twigs of a set that are no bridges. -/
def kd (G Q : Nat) : Nat := mk 64 fun j => G.testBit j && !Q.testBit j
theorem kd_bit (G Q : Nat) (hG : G < 2 ^ 64) (j : Nat) : (kd G Q).testBit j = (G.testBit j && !Q.testBit j) := by
  rw [kd, mk_bit]
  by_cases hj : j < 64
  · rw [decide_eq_true hj, Bool.true_and]
  · have : G.testBit j = false := Nat.testBit_lt_two_pow (Nat.lt_of_lt_of_le hG (Nat.pow_le_pow_right (by decide) (by omega)))
    rw [decide_eq_false hj, this]; rfl
theorem kd_lt (G Q : Nat) : kd G Q < 2 ^ 64 := mk_lt _ _
theorem minus_kd (G Q : Nat) (hG : G < 2 ^ 64) : bits .andNot .u64 (G : Int) (Q : Int) = ((kd G Q : Nat) : Int) := by
  obtain ⟨c, h1, _, h3⟩ := andNot_u G Q hG
  rw [h1]
  congr 1
  apply bits_ext
  intro j
  rw [h3, kd_bit G Q hG]
/-- The set without the twig that leads down. -/
def ds (G : Nat) (down : Int) : Nat := if down < 0 then G else mn G down.toNat
theorem ds_bit (G : Nat) (hG : G < 2 ^ 64) (down : Int) (hd : -1 ≤ down) (j : Nat) : (ds G down).testBit j = (G.testBit j && !decide ((j : Int) = down)) := by
  unfold ds
  by_cases h : down < 0
  · have : ¬ (j : Int) = down := by omega
    rw [if_pos h, decide_eq_false this]; simp
  · rw [if_neg h, mn_bit G _ hG]
    congr 2
    exact decide_eq_decide.2 ⟨fun e => by omega, fun e => by omega⟩
/-- How many twigs stand above a knot. -/
noncomputable def mu (l : List S33) (G knot : Nat) (down : Int) : Nat :=
  (List.range l.length).countP fun j => (ds G down).testBit j && reachB l.length (kA l) (kB l) (ds G down) knot (kA l j)
/-- A bridge leads down from the knot, or there is none. -/
def Leads (l : List S33) (G knot : Nat) (down : Int) : Prop := down = -1 ∨ ∃ i : Nat, i < l.length ∧ down = (i : Int) ∧ isB l G i = true ∧ (knot = kA l i ∨ knot = kB l i)
theorem Leads.ge {l : List S33} {G knot : Nat} {down : Int} (h : Leads l G knot down) : -1 ≤ down := by
  rcases h with h | ⟨i, _, h, _⟩ <;> omega
theorem isB_bit {l : List S33} {G i : Nat} (h : isB l G i = true) : G.testBit i = true ∧ ¬ Hangs l.length (kA l) (kB l) (mn G i) (kA l i) (kB l i) := by
  rw [isB, Bool.and_eq_true, Bool.not_eq_true'] at h
  refine ⟨h.1, fun q => ?_⟩
  have := reachB_iff.2 q
  rw [h.2] at this
  cases this
/-- Over a bridge there is less: c is the knot here, c' the one behind the bridge i. -/
theorem mu_less (l : List S33) (G : Nat) (hG : G < 2 ^ 64) (knot : Nat) (down : Int) (hl : Leads l G knot down) (i c c' : Nat) (hi : i < l.length) (hb : isB l G i = true) (hd : (i : Int) ≠ down)
    (hc : (c = kA l i ∧ c' = kB l i) ∨ (c = kB l i ∧ c' = kA l i)) (hk : Hangs l.length (kA l) (kB l) (kd G (bm l G)) knot c) : mu l G c' (i : Int) < mu l G knot down := by
  obtain ⟨hGi, hno⟩ := isB_bit hb
  have bq : ∀ j, j < l.length → (bm l G).testBit j = isB l G j := fun j hj => by rw [bm, mk_bit, decide_eq_true hj, Bool.true_and]
  -- no twig that is kept leads over i, or over the one that leads down
  have k1 : ∀ j, j < l.length → (kd G (bm l G)).testBit j = true → (mn G i).testBit j = true := fun j hj h => by
    rw [kd_bit G _ hG, Bool.and_eq_true, bq j hj] at h
    rw [mn_bit G i hG, h.1, Bool.true_and, Bool.not_eq_true', decide_eq_false_iff_not]
    rintro rfl
    rw [hb] at h
    exact absurd h.2 (by decide)
  have k2 : ∀ j, j < l.length → (kd G (bm l G)).testBit j = true → (ds G down).testBit j = true := fun j hj h => by
    rw [kd_bit G _ hG, Bool.and_eq_true, bq j hj] at h
    rw [ds_bit G hG down hl.ge, h.1, Bool.true_and, Bool.not_eq_true', decide_eq_false_iff_not]
    intro e
    rcases hl with hl | ⟨t, ht, e2, hbt, _⟩
    · omega
    · have : j = t := by omega
      subst this
      rw [hbt] at h
      exact absurd h.2 (by decide)
  have hdi : (ds G (i : Int)) = mn G i := by unfold ds; rw [if_neg (by omega)]; rfl
  -- from behind the bridge one does not come to the knot
  have far : ¬ Hangs l.length (kA l) (kB l) (mn G i) c' knot := fun q => by
    have w := hangs_trans q (hangs_mono k1 hk)
    rcases hc with ⟨rfl, rfl⟩ | ⟨rfl, rfl⟩
    · exact hno (hangs_symm w)
    · exact hno w
  have other : ∀ x, Hangs l.length (kA l) (kB l) (mn G i) c' x → Hangs l.length (kA l) (kB l) (ds G down) c' x := by
    have ne : ∀ t, t < l.length → (mn G i).testBit t = true → (Hangs l.length (kA l) (kB l) (mn G i) c' (kA l t) ∨ Hangs l.length (kA l) (kB l) (mn G i) c' (kB l t)) → (ds G down).testBit t = true := by
      intro t ht hM hx
      have hMt := hM
      rw [mn_bit G i hG, Bool.and_eq_true] at hM
      rw [ds_bit G hG down hl.ge, hM.1, Bool.true_and, Bool.not_eq_true', decide_eq_false_iff_not]
      intro e
      rcases hl with hl | ⟨s, hs, e2, hbs, hks⟩
      · omega
      · have : t = s := by omega
        subst this
        have both : Hangs l.length (kA l) (kB l) (mn G i) c' (kA l t) ∧ Hangs l.length (kA l) (kB l) (mn G i) c' (kB l t) := by
          rcases hx with hx | hx
          · exact ⟨hx, .up ht hMt hx⟩
          · exact ⟨.down ht hMt hx, hx⟩
        rcases hks with rfl | rfl
        · exact far both.1
        · exact far both.2
    intro x hx
    induction hx with
    | here => exact .here
    | up ht hM hx ih => exact .up ht (ne _ ht hM (.inl hx)) ih
    | down ht hM hx ih => exact .down ht (ne _ ht hM (.inr hx)) ih
  have dsi : (ds G down).testBit i = true := by
    rw [ds_bit G hG down hl.ge, hGi, Bool.true_and, Bool.not_eq_true', decide_eq_false_iff_not]
    exact hd
  have hkc : Hangs l.length (kA l) (kB l) (ds G down) knot c := hangs_mono k2 hk
  have hkA : Hangs l.length (kA l) (kB l) (ds G down) knot (kA l i) := by
    rcases hc with ⟨rfl, _⟩ | ⟨rfl, _⟩
    · exact hkc
    · exact .down hi dsi hkc
  have hkc' : Hangs l.length (kA l) (kB l) (ds G down) knot c' := by
    rcases hc with ⟨_, rfl⟩ | ⟨_, rfl⟩
    · exact .up hi dsi hkA
    · exact hkA
  unfold mu
  rw [hdi]
  refine countP_lt _ (fun j hj hp => ?_) ⟨i, List.mem_range.2 hi, ?_, ?_⟩
  · rw [Bool.and_eq_true] at hp ⊢
    have hjl := List.mem_range.1 hj
    have hx := reachB_iff.1 hp.2
    refine ⟨?_, reachB_iff.2 (hangs_trans hkc' (other _ hx))⟩
    have hM := hp.1
    rw [mn_bit G i hG, Bool.and_eq_true] at hM
    rw [ds_bit G hG down hl.ge, hM.1, Bool.true_and, Bool.not_eq_true', decide_eq_false_iff_not]
    intro e
    rcases hl with hl | ⟨s, hs, e2, hbs, hks⟩
    · omega
    · have : j = s := by omega
      subst this
      have both : Hangs l.length (kA l) (kB l) (mn G i) c' (kA l j) ∧ Hangs l.length (kA l) (kB l) (mn G i) c' (kB l j) := ⟨hx, .up hjl hp.1 hx⟩
      rcases hks with rfl | rfl
      · exact far both.1
      · exact far both.2
  · rw [mn_bit G i hG]
    simp
  · rw [Bool.and_eq_true]
    exact ⟨dsi, reachB_iff.2 hkA⟩

/-! ### trees: what a knot is worth by its twigs, and by play -/
section tv
variable {n : Nat} {A B : Nat → Nat}
def xs : Nat → (Nat → Nat) → Nat
  | 0, _ => 0
  | n + 1, t => xs n t ^^^ t n
theorem xs_congr : ∀ (n : Nat) (t t' : Nat → Nat), (∀ e, e < n → t e = t' e) → xs n t = xs n t'
  | 0, _, _, _ => rfl
  | n + 1, t, t', h => by
    show xs n t ^^^ t n = xs n t' ^^^ t' n
    rw [xs_congr n t t' (fun e he => h e (by omega)), h n (by omega)]
theorem xs_change : ∀ (n : Nat) (t t' : Nat → Nat) (e : Nat), e < n → (∀ j, j < n → j ≠ e → t' j = t j) → xs n t' = xs n t ^^^ (t e ^^^ t' e)
  | 0, _, _, _, h, _ => by omega
  | n + 1, t, t', e, h, hj => by
    show xs n t' ^^^ t' n = xs n t ^^^ t n ^^^ (t e ^^^ t' e)
    by_cases he : e = n
    · subst he
      rw [xs_congr e t' t (fun j hjn => hj j (by omega) (by omega))]
      rw [Nat.xor_assoc, ← Nat.xor_assoc (t e) (t e), Nat.xor_self, Nat.zero_xor]
    · rw [xs_change n t t' e (by omega) (fun j h1 h2 => hj j (by omega) h2), hj n (by omega) (fun q => he q.symm)]
      rw [Nat.xor_assoc, Nat.xor_assoc (xs n t) (t n)]
      congr 1
      rw [Nat.xor_comm (t n)]
theorem xs_lt : ∀ (n : Nat) (t : Nat → Nat) (k : Nat), (∀ e, e < n → t e < 2 ^ k) → xs n t < 2 ^ k
  | 0, _, k, _ => Nat.two_pow_pos k
  | n + 1, t, k, h => Nat.xor_lt_two_pow (xs_lt n t k (fun e he => h e (by omega))) (h n (by omega))
theorem xs_bit : ∀ (n : Nat) (t : Nat → Nat) (k : Nat), (xs n t).testBit k = true → ∃ e, e < n ∧ (t e).testBit k = true
  | 0, _, k, h => by simp [xs] at h
  | n + 1, t, k, h => by
    have h' : (xs n t ^^^ t n).testBit k = true := h
    rw [Nat.testBit_xor] at h'
    cases q : (t n).testBit k with
    | true => exact ⟨n, by omega, q⟩
    | false =>
      rw [q, Bool.xor_false] at h'
      obtain ⟨e, he, hb⟩ := xs_bit n t k h'
      exact ⟨e, by omega, hb⟩
theorem lt_tb {x y : Nat} (i : Nat) (hx : x.testBit i = false) (hy : y.testBit i = true) (h : ∀ j, i < j → x.testBit j = y.testBit j) : x < y := by
  have e : x >>> (i + 1) = y >>> (i + 1) := bits_ext (fun j => by rw [Nat.testBit_shiftRight, Nat.testBit_shiftRight]; exact h _ (by omega))
  rw [Nat.shiftRight_eq_div_pow, Nat.shiftRight_eq_div_pow, Nat.pow_succ, ← Nat.div_div_eq_div_mul, ← Nat.div_div_eq_div_mul] at e
  rw [Nat.testBit_eq_decide_div_mod_eq] at hx hy
  have h1 := of_decide_eq_false hx
  have h2 := of_decide_eq_true hy
  by_cases q : x < y
  · exact q
  · have := Nat.div_le_div_right (c := 2 ^ i) (Nat.not_lt.1 q)
    omega
theorem top_bit {s : Nat} (hs : s ≠ 0) : ∃ k, s.testBit k = true ∧ ∀ j, k < j → s.testBit j = false := by
  refine ⟨s.log2, Nat.testBit_log2 hs, fun j hj => ?_⟩
  exact Nat.testBit_lt_two_pow (Nat.lt_of_lt_of_le Nat.lt_log2_self (Nat.pow_le_pow_right (by decide) (by omega)))
theorem xs_move (n : Nat) (t : Nat → Nat) (u : Nat) (hu : u < xs n t) : ∃ e v, e < n ∧ v < t e ∧ ∀ t' : Nat → Nat, (∀ j, j < n → j ≠ e → t' j = t j) → t' e = v → xs n t' = u := by
  have hs : xs n t ^^^ u ≠ 0 := fun h => by
    have : xs n t = u := by
      have h2 : (xs n t ^^^ u) ^^^ u = u := by rw [h, Nat.zero_xor]
      rw [Nat.xor_assoc, Nat.xor_self, Nat.xor_zero] at h2
      exact h2
    omega
  obtain ⟨k, k1, k2⟩ := top_bit hs
  have hX : (xs n t).testBit k = true := by
    cases q : (xs n t).testBit k with
    | true => rfl
    | false =>
      rw [Nat.testBit_xor, q, Bool.false_xor] at k1
      have : xs n t < u := lt_tb k q k1 (fun j hj => by
        have := k2 j hj
        rw [Nat.testBit_xor] at this
        cases h1 : (xs n t).testBit j <;> cases h2 : u.testBit j <;> rw [h1, h2] at this <;> simp at this ⊢)
      omega
  obtain ⟨e, he, hb⟩ := xs_bit n t k hX
  refine ⟨e, t e ^^^ (xs n t ^^^ u), he, ?_, fun t' h1 h2 => ?_⟩
  · refine lt_tb k ?_ hb (fun j hj => ?_)
    · rw [Nat.testBit_xor, hb, k1]; rfl
    · rw [Nat.testBit_xor, k2 j hj, Bool.xor_false]
  · rw [xs_change n t t' e he h1, h2, ← Nat.xor_assoc (t e), Nat.xor_self, Nat.zero_xor, ← Nat.xor_assoc, Nat.xor_self, Nat.zero_xor]
def inc (A B : Nat → Nat) (e x : Nat) : Prop := A e = x ∨ B e = x
instance (e x : Nat) : Decidable (inc A B e x) := inferInstanceAs (Decidable (_ ∨ _))
def oth (A B : Nat → Nat) (e x : Nat) : Nat := if A e = x then B e else A e
def val (n : Nat) (A B : Nat → Nat) : Nat → Nat → Nat → Nat → Nat
  | 0, _, _, _ => 0
  | f + 1, M, x, d => xs n fun e => if M.testBit e = true ∧ e ≠ d ∧ inc A B e x then val n A B f M (oth A B e x) e + 1 else 0
theorem val_lt : ∀ (f M x d : Nat), val n A B f M x d < 2 ^ f
  | 0, _, _, _ => Nat.zero_lt_one
  | f + 1, M, x, d => by
    refine xs_lt n _ _ (fun e _ => ?_)
    have := val_lt f M (oth A B e x) e
    have h2 : 2 ^ (f + 1) = 2 ^ f + 2 ^ f := by rw [Nat.pow_succ]; omega
    have h3 := Nat.two_pow_pos f
    split <;> omega
def Tr (n : Nat) (A B : Nat → Nat) (M : Nat) : Prop := M < 2 ^ 64 ∧ ∀ i, i < n → M.testBit i = true → ¬ Hangs n A B (mn M i) (A i) (B i)
def Dn (n : Nat) (A B : Nat → Nat) (M d x : Nat) : Prop := M.testBit d = true → d < n ∧ inc A B d x
def Cm (n : Nat) (A B : Nat → Nat) (M d x i : Nat) : Prop := i < n ∧ M.testBit i = true ∧ i ≠ d ∧ Hangs n A B (mn M d) x (A i)
def Ch (n : Nat) (A B : Nat → Nat) (M d x e : Nat) : Prop := e < n ∧ M.testBit e = true ∧ e ≠ d ∧ inc A B e x
theorem mn_in {M i j : Nat} (hM : M < 2 ^ 64) (h : M.testBit j = true) (hj : j ≠ i) : (mn M i).testBit j = true := by rw [mn_bit M i hM, h]; simp [hj]
theorem mn_of {M i j : Nat} (hM : M < 2 ^ 64) (h : (mn M i).testBit j = true) : M.testBit j = true ∧ j ≠ i := by
  rw [mn_bit M i hM] at h
  simp only [Bool.and_eq_true, Bool.not_eq_true', decide_eq_false_iff_not] at h
  exact h
theorem mn2 {M i j : Nat} (hM : M < 2 ^ 64) {k : Nat} (h : (mn (mn M i) j).testBit k = true) : M.testBit k = true ∧ k ≠ i ∧ k ≠ j := by
  obtain ⟨h1, h2⟩ := mn_of (mn_lt M i) h
  obtain ⟨h3, h4⟩ := mn_of hM h1
  exact ⟨h3, h4, h2⟩
theorem mn2_in {M i j k : Nat} (hM : M < 2 ^ 64) (h : M.testBit k = true) (hi : k ≠ i) (hj : k ≠ j) : (mn (mn M i) j).testBit k = true := mn_in (mn_lt M i) (mn_in hM h hi) hj
theorem step_oth {M e x : Nat} (he : e < n) (hM : M.testBit e = true) (hi : inc A B e x) {a : Nat} (h : Hangs n A B M a x) : Hangs n A B M a (oth A B e x) := by
  unfold oth
  by_cases q : A e = x
  · rw [if_pos q]; rw [← q] at h; exact .up he hM h
  · rw [if_neg q]; rcases hi with hi | hi
    · exact absurd hi q
    · rw [← hi] at h; exact .down he hM h
theorem step_back {M e x : Nat} (he : e < n) (hM : M.testBit e = true) (hi : inc A B e x) {a : Nat} (h : Hangs n A B M a (oth A B e x)) : Hangs n A B M a x := by
  unfold oth at h
  by_cases q : A e = x
  · rw [if_pos q] at h; rw [← q]; exact .down he hM h
  · rw [if_neg q] at h; rcases hi with hi | hi
    · exact absurd hi q
    · rw [← hi]; exact .up he hM h
theorem inc_oth {e x : Nat} (h : inc A B e x) : inc A B e (oth A B e x) := by
  unfold inc oth
  by_cases q : A e = x
  · rw [if_pos q]; exact .inr rfl
  · rw [if_neg q]; exact .inl rfl
theorem ends {e x : Nat} (h : inc A B e x) : (A e = x ∧ B e = oth A B e x) ∨ (A e = oth A B e x ∧ B e = x) := by
  unfold oth
  by_cases q : A e = x
  · rw [if_pos q]; exact .inl ⟨q, rfl⟩
  · rw [if_neg q]; rcases h with h | h
    · exact absurd h q
    · exact .inr ⟨rfl, h⟩
theorem br {M e x : Nat} (hT : Tr n A B M) (he : e < n) (hM : M.testBit e = true) (hi : inc A B e x) : ¬ Hangs n A B (mn M e) (oth A B e x) x := fun h => by
  rcases ends hi with ⟨h1, h2⟩ | ⟨h1, h2⟩
  · exact hT.2 e he hM (by rw [h1, h2]; exact hangs_symm h)
  · exact hT.2 e he hM (by rw [h1, h2]; exact h)
theorem split {M e a x : Nat} (hM : M < 2 ^ 64) (h : Hangs n A B M a x) : Hangs n A B (mn M e) a x ∨ Hangs n A B (mn M e) a (A e) ∨ Hangs n A B (mn M e) a (B e) := by
  induction h with
  | here => exact .inl .here
  | @up i hi hb _ ih =>
    rcases ih with ih | ih
    · by_cases q : i = e
      · subst q; exact .inr (.inl ih)
      · exact .inl (.up hi (mn_in hM hb q) ih)
    · exact .inr ih
  | @down i hi hb _ ih =>
    rcases ih with ih | ih
    · by_cases q : i = e
      · subst q; exact .inr (.inr ih)
      · exact .inl (.down hi (mn_in hM hb q) ih)
    · exact .inr ih
/-- Over a child, no way leads back over what leads down. -/
theorem noend {M d x e : Nat} (hT : Tr n A B M) (hd : Dn n A B M d x) (he : Ch n A B M d x e) (hdM : M.testBit d = true) {y : Nat} (hy : inc A B d y) : ¬ Hangs n A B (mn (mn M e) d) (oth A B e x) y := fun h => by
  obtain ⟨h1, h2, h3, h4⟩ := he
  obtain ⟨d1, d2⟩ := hd hdM
  have hM := hT.1
  have hx : y = x ∨ y = oth A B d x := by
    rcases ends d2 with ⟨q1, q2⟩ | ⟨q1, q2⟩ <;> rcases hy with hy | hy
    · exact .inl (hy.symm.trans q1)
    · exact .inr (hy.symm.trans q2)
    · exact .inr (hy.symm.trans q1)
    · exact .inl (hy.symm.trans q2)
  rcases hx with rfl | rfl
  · exact br hT h1 h2 h4 (hangs_mono (fun j _ hj => by obtain ⟨a1, a2, a3⟩ := mn2 hM hj; exact mn_in hM a1 a2) h)
  · have p1 : Hangs n A B (mn M d) (oth A B e x) (oth A B d x) := hangs_mono (fun j _ hj => by obtain ⟨a1, a2, a3⟩ := mn2 hM hj; exact mn_in hM a1 a3) h
    exact br hT d1 hdM d2 (step_back h1 (mn_in hM h2 h3) h4 (hangs_symm p1))
theorem child_way {M d x e y : Nat} (hT : Tr n A B M) (hd : Dn n A B M d x) (he : Ch n A B M d x e) (h : Hangs n A B (mn M e) (oth A B e x) y) : Hangs n A B (mn (mn M e) d) (oth A B e x) y := by
  rcases split (e := d) (mn_lt M e) h with h | h
  · exact h
  · by_cases hdM : M.testBit d = true
    · rcases h with h | h
      · exact absurd h (noend hT hd he hdM (.inl rfl))
      · exact absurd h (noend hT hd he hdM (.inr rfl))
    · refine hangs_mono (fun j _ hj => ?_) ‹Hangs n A B (mn M e) (oth A B e x) y›
      refine mn_in (mn_lt M e) hj (fun q => ?_)
      subst q
      exact hdM (mn_of hT.1 hj).1
theorem D1 {M d x e i : Nat} (hT : Tr n A B M) (hd : Dn n A B M d x) (he : Ch n A B M d x e) (h : Cm n A B M e (oth A B e x) i) : Cm n A B M d x i := by
  obtain ⟨c1, c2, c3, c4⟩ := h
  have w := child_way hT hd he c4
  obtain ⟨h1, h2, h3, h4⟩ := he
  have hM := hT.1
  refine ⟨c1, c2, fun q => ?_, ?_⟩
  · subst q
    exact noend hT hd ⟨h1, h2, h3, h4⟩ c2 (.inl rfl) w
  · exact hangs_trans (step_oth h1 (mn_in hM h2 h3) h4 .here) (hangs_mono (fun j _ hj => by obtain ⟨a1, a2, a3⟩ := mn2 hM hj; exact mn_in hM a1 a3) w)
theorem D2a {M d x e e' : Nat} (hT : Tr n A B M) (he : Ch n A B M d x e) (he' : Ch n A B M d x e') (hne : e ≠ e') : ¬ Cm n A B M e (oth A B e x) e' := fun ⟨c1, c2, c3, c4⟩ => by
  obtain ⟨h1, h2, h3, h4⟩ := he
  obtain ⟨k1, k2, k3, k4⟩ := he'
  refine br hT h1 h2 h4 ?_
  rcases ends k4 with ⟨q1, q2⟩ | ⟨q1, q2⟩
  · rw [q1] at c4; exact c4
  · rw [q1] at c4; exact step_back k1 (mn_in hT.1 k2 (fun q => hne q.symm)) k4 c4
theorem D2 {M d x e e' i : Nat} (hT : Tr n A B M) (he : Ch n A B M d x e) (he' : Ch n A B M d x e') (hne : e ≠ e') (h : Cm n A B M e (oth A B e x) i) : ¬ Cm n A B M e' (oth A B e' x) i := fun h' => by
  have key : ∀ {e e' : Nat}, Ch n A B M d x e → Ch n A B M d x e' → e ≠ e' → ∀ {y}, Hangs n A B (mn M e) (oth A B e x) y → Hangs n A B (mn (mn M e) e') (oth A B e x) y := by
    intro e e' he he' hne y h
    obtain ⟨h1, h2, h3, h4⟩ := he
    obtain ⟨k1, k2, k3, k4⟩ := he'
    rcases split (e := e') (mn_lt M e) h with h | h
    · exact h
    · exfalso
      have : Hangs n A B (mn M e) (oth A B e x) x ∨ Hangs n A B (mn M e) (oth A B e x) (oth A B e' x) := by
        have up : ∀ {z}, Hangs n A B (mn (mn M e) e') (oth A B e x) z → Hangs n A B (mn M e) (oth A B e x) z := fun hz => hangs_mono (fun j _ hj => (mn_of (mn_lt M e) hj).1) hz
        rcases ends k4 with ⟨q1, q2⟩ | ⟨q1, q2⟩ <;> rcases h with h | h
        · rw [q1] at h; exact .inl (up h)
        · rw [q2] at h; exact .inr (up h)
        · rw [q1] at h; exact .inr (up h)
        · rw [q2] at h; exact .inl (up h)
      rcases this with h | h
      · exact br hT h1 h2 h4 h
      · exact br hT h1 h2 h4 (step_back k1 (mn_in hT.1 k2 (fun q => hne q.symm)) k4 h)
  obtain ⟨c1, c2, c3, c4⟩ := h
  obtain ⟨b1, b2, b3, b4⟩ := h'
  have w1 := key he he' hne c4
  have w2 := key he' he (fun q => hne q.symm) b4
  obtain ⟨h1, h2, h3, h4⟩ := he
  obtain ⟨k1, k2, k3, k4⟩ := he'
  have u1 : Hangs n A B (mn M e) (oth A B e x) (A i) := hangs_mono (fun j _ hj => (mn_of (mn_lt M e) hj).1) w1
  have u2 : Hangs n A B (mn M e) (oth A B e' x) (A i) := hangs_mono (fun j _ hj => by obtain ⟨a1, a2, a3⟩ := mn2 hT.1 hj; exact mn_in hT.1 a1 a3) w2
  exact br hT h1 h2 h4 (step_back k1 (mn_in hT.1 k2 (fun q => hne q.symm)) k4 (hangs_trans u1 (hangs_symm u2)))
theorem D3 {M d x i : Nat} (hM : M < 2 ^ 64) (h : Cm n A B M d x i) : inc A B i x ∨ ∃ e, Ch n A B M d x e ∧ e ≠ i ∧ Cm n A B M e (oth A B e x) i := by
  have key : ∀ {y}, Hangs n A B (mn M d) x y → y = x ∨ ∃ e, Ch n A B M d x e ∧ Hangs n A B (mn M e) (oth A B e x) y := by
    intro y hy
    have fin : ∀ {i y y' : Nat}, i < n → (mn M d).testBit i = true → inc A B i y → oth A B i y = y' → (y = x ∨ ∃ e, Ch n A B M d x e ∧ Hangs n A B (mn M e) (oth A B e x) y) → (y' = x ∨ ∃ e, Ch n A B M d x e ∧ Hangs n A B (mn M e) (oth A B e x) y') := by
      intro i y y' hi hb hin ho ih
      obtain ⟨m1, m2⟩ := mn_of hM hb
      rcases ih with rfl | ⟨e, he, hh⟩
      · exact .inr ⟨i, ⟨hi, m1, m2, hin⟩, by rw [ho]; exact .here⟩
      · by_cases q : i = e
        · subst q
          rcases ends he.2.2.2 with ⟨q1, q2⟩ | ⟨q1, q2⟩ <;> rcases ends hin with ⟨r1, r2⟩ | ⟨r1, r2⟩
          · exact .inr ⟨i, he, by rw [← ho, ← r2, q2]; exact .here⟩
          · exact .inl (by rw [← ho, ← r1, q1])
          · exact .inl (by rw [← ho, ← r2, q2])
          · exact .inr ⟨i, he, by rw [← ho, ← r1, q1]; exact .here⟩
        · exact .inr ⟨e, he, by rw [← ho]; exact step_oth hi (mn_in hM m1 q) hin hh⟩
    induction hy with
    | here => exact .inl rfl
    | @up j hj hb _ ih =>
      exact fin hj hb (.inl rfl) (by unfold oth; rw [if_pos rfl]) ih
    | @down j hj hb _ ih =>
      by_cases q : A j = B j
      · rw [q]; exact ih
      · exact fin hj hb (.inr rfl) (by unfold oth; rw [if_neg q]) ih
  obtain ⟨c1, c2, c3, c4⟩ := h
  rcases key c4 with h | ⟨e, he, hh⟩
  · exact .inl (.inl h)
  · by_cases q : e = i
    · subst q; exact .inl he.2.2.2
    · exact .inr ⟨e, he, q, c1, c2, fun z => q z.symm, hh⟩
theorem child_Cm {M d x e : Nat} (hM : M < 2 ^ 64) (he : Ch n A B M d x e) : Cm n A B M d x e := by
  obtain ⟨h1, h2, h3, h4⟩ := he
  refine ⟨h1, h2, h3, ?_⟩
  rcases ends h4 with ⟨q1, q2⟩ | ⟨q1, q2⟩
  · rw [q1]; exact .here
  · rw [q1]; exact step_oth h1 (mn_in hM h2 h3) h4 .here
theorem Dn_child {M d x e : Nat} (he : Ch n A B M d x e) : Dn n A B M e (oth A B e x) := fun _ => ⟨he.1, inc_oth he.2.2.2⟩
theorem T1 : ∀ (f : Nat) {M d x i : Nat}, Tr n A B M → Dn n A B M d x → ¬ Cm n A B M d x i → val n A B f (mn M i) x d = val n A B f M x d
  | 0, _, _, _, _, _, _, _ => rfl
  | f + 1, M, d, x, i, hT, hd, hc => by
    refine xs_congr n _ _ (fun e he => ?_)
    by_cases h : M.testBit e = true ∧ e ≠ d ∧ inc A B e x
    · have hCh : Ch n A B M d x e := ⟨he, h⟩
      have hei : e ≠ i := fun q => by subst q; exact hc (child_Cm hT.1 hCh)
      rw [if_pos h, if_pos ⟨mn_in hT.1 h.1 hei, h.2⟩, T1 f hT (Dn_child hCh) (fun q => hc (D1 hT hd hCh q))]
    · rw [if_neg h, if_neg (fun q => h ⟨(mn_of hT.1 q.1).1, q.2⟩)]
noncomputable def cnt (n : Nat) (A B : Nat → Nat) (M d x : Nat) : Nat := (List.range n).countP fun i => @decide (Cm n A B M d x i) (Classical.propDecidable _)
theorem cnt_child {M d x e : Nat} (hT : Tr n A B M) (hd : Dn n A B M d x) (he : Ch n A B M d x e) : cnt n A B M e (oth A B e x) < cnt n A B M d x := by
  refine countP_lt _ (fun i _ h => ?_) ⟨e, List.mem_range.2 he.1, ?_, ?_⟩
  · exact @decide_eq_true _ (Classical.propDecidable _) (D1 hT hd he (@of_decide_eq_true _ (Classical.propDecidable _) h))
  · exact @decide_eq_false _ (Classical.propDecidable _) (fun q => q.2.2.1 rfl)
  · exact @decide_eq_true _ (Classical.propDecidable _) (child_Cm hT.1 he)
theorem cnt_zero {M d x i : Nat} (h : cnt n A B M d x ≤ 0) : ¬ Cm n A B M d x i := fun q => by
  have := (List.countP_eq_zero.1 (Nat.le_zero.1 h)) i (List.mem_range.2 q.1)
  exact this (@decide_eq_true _ (Classical.propDecidable _) q)
theorem moves : ∀ (f : Nat) {M d x : Nat}, Tr n A B M → Dn n A B M d x → cnt n A B M d x ≤ f → (∀ i, Cm n A B M d x i → val n A B f (mn M i) x d ≠ val n A B f M x d) ∧ (∀ u, u < val n A B f M x d → ∃ i, Cm n A B M d x i ∧ val n A B f (mn M i) x d = u)
  | 0, M, d, x, _, _, hc => ⟨fun i q => absurd q (cnt_zero hc), fun u hu => by simp [val] at hu⟩
  | f + 1, M, d, x, hT, hd, hc => by
    have hM := hT.1
    have IH : ∀ e, Ch n A B M d x e → (∀ i, Cm n A B M e (oth A B e x) i → val n A B f (mn M i) (oth A B e x) e ≠ val n A B f M (oth A B e x) e) ∧ (∀ u, u < val n A B f M (oth A B e x) e → ∃ i, Cm n A B M e (oth A B e x) i ∧ val n A B f (mn M i) (oth A B e x) e = u) := fun e he => moves f hT (Dn_child he) (by have := cnt_child hT hd he; omega)
    let t : Nat → Nat := fun e => if M.testBit e = true ∧ e ≠ d ∧ inc A B e x then val n A B f M (oth A B e x) e + 1 else 0
    let t' : Nat → Nat → Nat := fun i e => if (mn M i).testBit e = true ∧ e ≠ d ∧ inc A B e x then val n A B f (mn M i) (oth A B e x) e + 1 else 0
    have hv : val n A B (f + 1) M x d = xs n t := rfl
    have hv' : ∀ i, val n A B (f + 1) (mn M i) x d = xs n (t' i) := fun _ => rfl
    have tc : ∀ e, Ch n A B M d x e → t e = val n A B f M (oth A B e x) e + 1 := fun e he => if_pos he.2
    have tc' : ∀ i e, Ch n A B M d x e → e ≠ i → t' i e = val n A B f (mn M i) (oth A B e x) e + 1 := fun i e he q => if_pos ⟨mn_in hM he.2.1 q, he.2.2⟩
    have ti : ∀ i, t' i i = 0 := fun i => if_neg (fun q => (mn_of hM q.1).2 rfl)
    -- a twig at the knot itself
    have same1 : ∀ i, Ch n A B M d x i → ∀ j, j < n → j ≠ i → t' i j = t j := fun i hi j hj hji => by
      by_cases h : M.testBit j = true ∧ j ≠ d ∧ inc A B j x
      · have hj' : Ch n A B M d x j := ⟨hj, h⟩
        rw [tc' i j hj' hji, tc j hj', T1 f hT (Dn_child hj') (D2a hT hj' hi hji)]
      · show (if _ then _ else _) = (if _ then _ else _)
        rw [if_neg h, if_neg (fun q => h ⟨(mn_of hM q.1).1, q.2⟩)]
    -- a twig above a child
    have same2 : ∀ i e, Ch n A B M d x e → Cm n A B M e (oth A B e x) i → ∀ j, j < n → j ≠ e → t' i j = t j := fun i e he hi j hj hje => by
      by_cases h : M.testBit j = true ∧ j ≠ d ∧ inc A B j x
      · have hj' : Ch n A B M d x j := ⟨hj, h⟩
        have hji : j ≠ i := fun q => by subst q; exact D2a hT he hj' (fun z => hje z.symm) hi
        rw [tc' i j hj' hji, tc j hj', T1 f hT (Dn_child hj') (D2 hT he hj' (fun z => hje z.symm) hi)]
      · show (if _ then _ else _) = (if _ then _ else _)
        rw [if_neg h, if_neg (fun q => h ⟨(mn_of hM q.1).1, q.2⟩)]
    have cancel : ∀ a b c : Nat, a ^^^ (b ^^^ c) = a → b = c := fun a b c h => by
      have h2 : a ^^^ (a ^^^ (b ^^^ c)) = a ^^^ a := by rw [h]
      rw [← Nat.xor_assoc, Nat.xor_self, Nat.zero_xor] at h2
      have h3 : (b ^^^ c) ^^^ c = 0 ^^^ c := by rw [h2]
      rw [Nat.xor_assoc, Nat.xor_self, Nat.xor_zero, Nat.zero_xor] at h3
      exact h3
    constructor
    · intro i hi
      rw [hv, hv']
      rcases D3 hM hi with h | ⟨e, he, hei, hci⟩
      · have hCh : Ch n A B M d x i := ⟨hi.1, hi.2.1, hi.2.2.1, h⟩
        rw [xs_change n t (t' i) i hi.1 (same1 i hCh), ti, tc i hCh]
        intro q
        have := cancel _ _ _ q
        omega
      · rw [xs_change n t (t' i) e he.1 (same2 i e he hci), tc e he, tc' i e he hei]
        intro q
        have := cancel _ _ _ q
        exact (IH e he).1 i hci (by omega)
    · intro u hu
      rw [hv] at hu
      obtain ⟨e, v, he, hvt, hx⟩ := xs_move n t u hu
      have hCh : Ch n A B M d x e := by
        by_cases h : M.testBit e = true ∧ e ≠ d ∧ inc A B e x
        · exact ⟨he, h⟩
        · have h0 : t e = 0 := if_neg h
          omega
      rw [tc e hCh] at hvt
      cases v with
      | zero => exact ⟨e, child_Cm hM hCh, by rw [hv']; exact hx (t' e) (same1 e hCh) (ti e)⟩
      | succ v =>
        obtain ⟨i, hi, hvi⟩ := (IH e hCh).2 v (by omega)
        refine ⟨i, D1 hT hd hCh hi, ?_⟩
        rw [hv']
        exact hx (t' i) (same2 i e hCh hi) (by rw [tc' i e hCh (fun q => by subst q; exact hi.2.2.1 rfl), hvi])
end tv

theorem xor_nat (a b : Nat) (ha : a < 2 ^ 62) (hb : b < 2 ^ 62) : bits .xor .i64 (a : Int) (b : Int) = ((a ^^^ b : Nat) : Int) := by
  have hx : a ^^^ b < 2 ^ 62 := Nat.xor_lt_two_pow ha hb
  have hB : IntKind.i64.bits = 64 := rfl
  have ha' : a % 2 ^ IntKind.i64.bits = a := Nat.mod_eq_of_lt (by rw [hB]; omega)
  have hb' : b % 2 ^ IntKind.i64.bits = b := Nat.mod_eq_of_lt (by rw [hB]; omega)
  simp only [bits, BitVec.ofInt_natCast, BitVec.toNat_xor, BitVec.toNat_ofNat, ha', hb']
  rw [IntKind.wrap_i64]
  omega
theorem Tr.sub {n : Nat} {A B : Nat → Nat} {M M' : Nat} (h : Tr n A B M) (hs : ∀ j, M'.testBit j = true → M.testBit j = true) (hM' : M' < 2 ^ 64) : Tr n A B M' :=
  ⟨hM', fun i hi hb q => h.2 i hi (hs i hb) (hangs_mono (fun j _ hj => by obtain ⟨a1, a2⟩ := mn_of hM' hj; exact mn_in h.1 (hs j a1) a2) q)⟩
theorem gm_iff (l : List S33) (M j : Nat) : (gm l M).testBit j = true ↔ j < l.length ∧ M.testBit j = true ∧ Hangs l.length (kA l) (kB l) M 0 (kA l j) := by
  rw [gm, mk_bit]
  simp only [Bool.and_eq_true, decide_eq_true_eq, reachB_iff]
theorem gm_gm (l : List S33) (M j : Nat) (hM : M < 2 ^ 64) (hl : l.length ≤ 14) : gm l (mn (gm l M) j) = gm l (mn M j) := by
  have hG : gm l M < 2 ^ 64 := Nat.lt_of_lt_of_le (mk_lt _ _) (Nat.pow_le_pow_right (by decide) (by omega))
  have up : ∀ {y}, Hangs l.length (kA l) (kB l) (mn M j) 0 y → Hangs l.length (kA l) (kB l) M 0 y := fun h => hangs_mono (fun i _ hi => (mn_of hM hi).1) h
  have key : ∀ {y}, Hangs l.length (kA l) (kB l) (mn M j) 0 y → Hangs l.length (kA l) (kB l) (mn (gm l M) j) 0 y := by
    intro y h
    induction h with
    | here => exact .here
    | up hi hb hh ih => exact .up hi (mn_in hG ((gm_iff l M _).2 ⟨hi, (mn_of hM hb).1, up hh⟩) (mn_of hM hb).2) ih
    | down hi hb hh ih => exact .down hi (mn_in hG ((gm_iff l M _).2 ⟨hi, (mn_of hM hb).1, .down hi (mn_of hM hb).1 (up hh)⟩) (mn_of hM hb).2) ih
  apply bits_ext
  intro i
  rw [Bool.eq_iff_iff, gm_iff, gm_iff]
  constructor
  · rintro ⟨a1, a2, a3⟩
    obtain ⟨b1, b2⟩ := mn_of hG a2
    exact ⟨a1, mn_in hM ((gm_iff l M i).1 b1).2.1 b2, hangs_mono (fun k _ hk => by obtain ⟨c1, c2⟩ := mn_of hG hk; exact mn_in hM ((gm_iff l M k).1 c1).2.1 c2) a3⟩
  · rintro ⟨a1, a2, a3⟩
    obtain ⟨b1, b2⟩ := mn_of hM a2
    exact ⟨a1, mn_in hG ((gm_iff l M i).2 ⟨a1, b1, up a3⟩) b2, key a3⟩
theorem big_bit {M n d : Nat} (hM : M < 2 ^ n) (hd : n ≤ d) : M.testBit d = false := Nat.testBit_lt_two_pow (Nat.lt_of_lt_of_le hM (Nat.pow_le_pow_right (by decide) hd))
theorem gm_Cm (l : List S33) (M j : Nat) (hM : M < 2 ^ l.length) (hl : l.length ≤ 14) : (gm l M).testBit j = true ↔ Cm l.length (kA l) (kB l) M 60 0 j := by
  have hM64 : M < 2 ^ 64 := Nat.lt_of_lt_of_le hM (Nat.pow_le_pow_right (by decide) (by omega))
  have h60 : M.testBit 60 = false := big_bit hM (by omega)
  rw [gm_iff]
  constructor
  · rintro ⟨a1, a2, a3⟩
    exact ⟨a1, a2, by omega, hangs_mono (fun k _ hk => mn_in hM64 hk (fun q => by subst q; rw [h60] at hk; cases hk)) a3⟩
  · rintro ⟨a1, a2, _, a3⟩
    exact ⟨a1, a2, hangs_mono (fun k _ hk => (mn_of hM64 hk).1) a3⟩
theorem mem_cz (vs : List Nat) (u : Nat) : (cz vs).contains (u : Int) = true ↔ u ∈ vs := by
  simp only [cz, List.contains_eq_mem, decide_eq_true_eq, List.mem_map]
  constructor
  · rintro ⟨a, h, e⟩
    have : a = u := by omega
    rwa [← this]
  · exact fun h => ⟨u, h, rfl⟩
theorem mn_small {M n i : Nat} (hM : M < 2 ^ n) (hn : n ≤ 64) : mn M i < 2 ^ n := by
  have h64 : M < 2 ^ 64 := Nat.lt_of_lt_of_le hM (Nat.pow_le_pow_right (by decide) hn)
  have : mn M i ≤ M := sub_le (fun j hj => (mn_of h64 hj).1)
  omega
theorem mn_less {M i : Nat} (hM : M < 2 ^ 64) (hb : M.testBit i = true) : mn M i < M := by
  have h1 : mn M i ≤ M := sub_le (fun j hj => (mn_of hM hj).1)
  have h2 : mn M i ≠ M := fun e => by
    have : (mn M i).testBit i = true := by rw [e]; exact hb
    exact (mn_of hM this).2 rfl
  omega
/-- What a tree is worth by play is what its ground is worth by its twigs. -/
theorem V_tree {l : List S33} (h : Ok l) : ∀ M, M < 2 ^ l.length → Tr l.length (kA l) (kB l) M → V l (gm l M) (val l.length (kA l) (kB l) l.length M 0 60) := by
  intro M
  induction M using Nat.strongRecOn with
  | ind M ih =>
    intro hM hT
    have hlen := h.len
    have hp := pow14 h
    have hM64 : M < 2 ^ 64 := hT.1
    have hK : gm l M < 2 ^ l.length := gm_bd l _
    have hd : Dn l.length (kA l) (kB l) M 60 0 := fun q => by rw [big_bit hM (by omega)] at q; cases q
    have hc : cnt l.length (kA l) (kB l) M 60 0 ≤ l.length := by
      have := List.countP_le_length (p := fun i => @decide (Cm l.length (kA l) (kB l) M 60 0 i) (Classical.propDecidable _)) (l := List.range l.length)
      rwa [List.length_range] at this
    obtain ⟨m1, m2⟩ := moves l.length hT hd hc
    have loop : ∀ i, i ≤ l.length → ∃ vs, W l (gm l M) i vs ∧ ∀ u : Nat, u ∈ vs ↔ ∃ j, j < i ∧ (gm l M).testBit j = true ∧ val l.length (kA l) (kB l) l.length (mn M j) 0 60 = u := by
      intro i
      induction i with
      | zero =>
        intro _
        exact ⟨[], W_zero l _, fun u => ⟨fun q => (by cases q), fun ⟨j, hj, _⟩ => (by omega)⟩⟩
      | succ i ihi =>
        intro hi
        obtain ⟨vs, w1, w2⟩ := ihi (by omega)
        cases hb : (gm l M).testBit i with
        | false =>
          refine ⟨vs, W_no h (by omega) (by omega) hb w1, fun u => (w2 u).trans ⟨fun ⟨j, a, b⟩ => ⟨j, by omega, b⟩, fun ⟨j, a, b⟩ => ⟨j, ?_, b⟩⟩⟩
          by_cases e : j = i
          · subst e; rw [hb] at b; cases b.1
          · omega
        | true =>
          have hMi := ((gm_iff l M i).1 hb).2.1
          have hv := ih (mn M i) (mn_less hM64 hMi) (mn_small hM (by omega)) (hT.sub (fun j hj => (mn_of hM64 hj).1) (mn_lt _ _))
          have e : gc l (gm l M) i = gm l (mn M i) := gm_gm l M i hM64 hlen
          rw [← e] at hv
          refine ⟨_, W_bit h (by omega) (by omega) hb hv w1, fun u => ?_⟩
          rw [List.mem_append, List.mem_singleton, w2 u]
          constructor
          · rintro (⟨j, a, b⟩ | q)
            · exact ⟨j, by omega, b⟩
            · exact ⟨i, by omega, hb, q.symm⟩
          · rintro ⟨j, a, b, c⟩
            by_cases e : j = i
            · subst e; exact .inr c.symm
            · exact .inl ⟨j, by omega, b, c⟩
    obtain ⟨vs, w1, w2⟩ := loop l.length (Nat.le_refl _)
    have hV := V_of_W (by omega) w1
    rw [← Go.Proofs.Ytgbcaicnpajekaa.Mp.mex_unique (cz vs) (val l.length (kA l) (kB l) l.length M 0 60)] at hV
    · exact hV
    · cases q : (cz vs).contains ((val l.length (kA l) (kB l) l.length M 0 60 : Nat) : Int) with
      | false => rfl
      | true =>
        obtain ⟨j, _, b, c⟩ := (w2 _).1 ((mem_cz vs _).1 q)
        exact absurd c (m1 j ((gm_Cm l M j hM hlen).1 b))
    · intro u hu
      obtain ⟨i, hi, hvi⟩ := m2 u hu
      exact (mem_cz vs u).2 ((w2 u).2 ⟨i, hi.1, (gm_Cm l M i hM hlen).2 hi, hvi⟩)
theorem hgk_none (l : List S33) (G x y : Nat) (hG : G < 2 ^ 64) (hy : y < 13) : (hgk l (kd G G) x).testBit y = decide (y = x) := by
  rw [hm_bit l _ _ _ hy]
  have : ∀ {z}, Hangs l.length (kA l) (kB l) (kd G G) x z → z = x := by
    intro z hz
    induction hz with
    | here => rfl
    | @up i _ hb _ _ => rw [kd_bit G G hG] at hb; simp at hb
    | @down i _ hb _ _ => rw [kd_bit G G hG] at hb; simp at hb
  cases q : reachB l.length (kA l) (kB l) (kd G G) x y with
  | true => rw [decide_eq_true (this (reachB_iff.1 q))]
  | false => rw [decide_eq_false (fun e => by subst e; have := reachB_iff.2 (Hangs.here (n := l.length) (A := kA l) (B := kB l) (M := kd G G) (a := y)); rw [q] at this; cases this)]
theorem fused_val (l : List S33) (h : Ok l) (G : Nat) (hG : G < 2 ^ l.length) (hT : Tr l.length (kA l) (kB l) G) : ∀ (f x d : Nat) (down : Int), x < 13 → f ≤ 14 → Dn l.length (kA l) (kB l) G d x → (∀ i : Nat, i < l.length → (((i : Int) = down) ↔ i = d)) →
    cnt l.length (kA l) (kB l) G d x ≤ f → Ev (fun k => impl_fused.f k l (G : Int) (G : Int) (x : Int) down) ((val l.length (kA l) (kB l) f G x d : Nat) : Int) := by
  have hlen := h.len
  have hG64 := hT.1
  intro f
  induction f with
  | zero =>
    intro x d down hx hf hd hdn hc
    have none_ : ∀ e, ¬ Ch l.length (kA l) (kB l) G d x e := fun e he => cnt_zero hc (child_Cm hG64 he)
    have loop : ∀ (dd i : Nat), i + dd = l.length → Ev (fun k => impl_fused.l0 k l (G : Int) (G : Int) down ((hgk l (kd G G) x : Nat) : Int) ((0 : Nat) : Int) l (l.length : Int) (i : Int)) ((0 : Nat) : Int) := by
      intro dd
      induction dd with
      | zero =>
        intro i hi
        refine Ev.step (fun k => ?_) (Ev.now _)
        simp only [impl_fused.l0, if_neg (show ¬ (i : Int) < (l.length : Int) by omega)]
      | succ dd ihd =>
        intro i hi
        have g1 : (i : Int) < (l.length : Int) := by omega
        have g2 : (0 : Int) ≤ (i : Int) := Int.natCast_nonneg _
        have hA := h.A12 i
        have hB := h.B12 i
        have gA : (0 : Int) ≤ (kA l i : Int) := Int.natCast_nonneg _
        have gB : (0 : Int) ≤ (kB l i : Int) := Int.natCast_nonneg _
        have z1 := bit0 G i hG64 (by omega)
        have z2 := bit1 G i hG64 (by omega)
        have hH := hm_lt l (kd G G) x
        have oA : (bits .and .u64 (shr .u64 ((hgk l (kd G G) x : Nat) : Int) (kA l i : Int)) 1 == 1) = decide (kA l i = x) := by
          rw [bit_u _ _ hH (by omega), hgk_none l G x _ hG64 (by omega)]
          by_cases q : kA l i = x <;> simp [q]
        have oB : (bits .and .u64 (shr .u64 ((hgk l (kd G G) x : Nat) : Int) (kB l i : Int)) 1 == 1) = decide (kB l i = x) := by
          rw [bit_u _ _ hH (by omega), hgk_none l G x _ hG64 (by omega)]
          by_cases q : kB l i = x <;> simp [q]
        have nx := ihd (i + 1) (by omega)
        have hw : wrap64 ((i : Int) + 1) = ((i + 1 : Nat) : Int) := wsucc i (by omega)
        cases hg : G.testBit i with
        | false =>
          refine Ev.step (fun k => ?_) (Ev.step (f := fun k => impl_fused.l0 k l (G : Int) (G : Int) down ((hgk l (kd G G) x : Nat) : Int) ((0 : Nat) : Int) l (l.length : Int) ((i + 1 : Nat) : Int)) (g := fun k => impl_fused.j1 k l (G : Int) (G : Int) down ((hgk l (kd G G) x : Nat) : Int) ((0 : Nat) : Int) (i : Int) l (l.length : Int) (i : Int) true (kA l i : Int) (kB l i : Int)) (fun k => ?_) nx)
          · simp only [impl_fused.l0, if_pos g1, if_pos g2, z1, hg, if_true, h.fA, h.fB]
          · simp only [impl_fused.j1, if_true, hw]
        | true =>
          by_cases hdd : (i : Int) = down
          · have e : ((i : Int) == down) = true := by simpa using hdd
            refine Ev.step (fun k => ?_) (Ev.step (f := fun k => impl_fused.l0 k l (G : Int) (G : Int) down ((hgk l (kd G G) x : Nat) : Int) ((0 : Nat) : Int) l (l.length : Int) ((i + 1 : Nat) : Int)) (g := fun k => impl_fused.j1 k l (G : Int) (G : Int) down ((hgk l (kd G G) x : Nat) : Int) ((0 : Nat) : Int) (i : Int) l (l.length : Int) (i : Int) true (kA l i : Int) (kB l i : Int)) (fun k => ?_) nx)
            · simp only [impl_fused.l0, if_pos g1, if_pos g2, z1, hg, Bool.true_eq_false, if_false, h.fA, h.fB, e]
            · simp only [impl_fused.j1, if_true, hw]
          · have e : ((i : Int) == down) = false := by simpa using hdd
            have hni : ¬ inc (kA l) (kB l) i x := fun q => none_ i ⟨by omega, hg, fun z => hdd ((hdn i (by omega)).2 z), q⟩
            have nA : ¬ kA l i = x := fun q => hni (.inl q)
            have nB : ¬ kB l i = x := fun q => hni (.inr q)
            refine Ev.step (g := fun k => impl_fused.l0 k l (G : Int) (G : Int) down ((hgk l (kd G G) x : Nat) : Int) ((0 : Nat) : Int) l (l.length : Int) (i : Int)) (f := fun k => impl_fused.j1 k l (G : Int) (G : Int) down ((hgk l (kd G G) x : Nat) : Int) ((0 : Nat) : Int) (i : Int) l (l.length : Int) (i : Int) false (kA l i : Int) (kB l i : Int)) (fun k => ?_) (Ev.step (f := fun k => impl_fused.j2 k l (G : Int) (G : Int) down ((hgk l (kd G G) x : Nat) : Int) ((0 : Nat) : Int) (i : Int) false false l (l.length : Int) (i : Int) false (kA l i : Int) (kB l i : Int)) (fun k => ?_) (Ev.step (f := fun k => impl_fused.j3 k l (G : Int) (G : Int) down ((hgk l (kd G G) x : Nat) : Int) ((0 : Nat) : Int) (i : Int) false l (l.length : Int) (i : Int) false (kA l i : Int) (kB l i : Int)) (fun k => ?_) (Ev.step (fun k => ?_) nx)))
            · simp only [impl_fused.l0, if_pos g1, if_pos g2, z1, hg, Bool.true_eq_false, if_false, h.fA, h.fB, e]
            · simp only [impl_fused.j1, Bool.false_eq_true, if_false, if_pos gA, if_pos gB, if_pos g2, z1, hg, Bool.true_eq_false, oA, oB, decide_eq_false nA, decide_eq_false nB]
            · simp only [impl_fused.j2, Bool.false_eq_true, if_false, if_pos g2, z2, hg, if_true]
            · simp only [impl_fused.j3, Bool.false_eq_true, if_false, if_pos g2, z2, hg, if_true, hw]
    refine Ev.step (f := ?fa1) (fun k => ?fb1) ?fc1
    case fb1 => conv => lhs; simp only [impl_fused.f, minus_kd G _ hG64]
    case fc1 => exact Ev.bind (hung_ev l h (kd G G) x (kd_lt _ _) hx) (loop l.length 0 (by omega))
  | succ f ihf =>
    intro x d down hx hf hd hdn hc
    have IH : ∀ e, Ch l.length (kA l) (kB l) G d x e → Ev (fun k => impl_fused.f k l (G : Int) (G : Int) ((oth (kA l) (kB l) e x : Nat) : Int) (e : Int)) ((val l.length (kA l) (kB l) f G (oth (kA l) (kB l) e x) e : Nat) : Int) := fun e he => by
      refine ihf _ e (e : Int) ?_ (by omega) (Dn_child he) (fun i _ => by omega) (by have := cnt_child hT hd he; omega)
      have hA := h.A12 e
      have hB := h.B12 e
      unfold oth
      split <;> omega
    have hvl : ∀ y e, val l.length (kA l) (kB l) f G y e < 2 ^ 14 := fun y e => Nat.lt_of_lt_of_le (val_lt f G y e) (Nat.pow_le_pow_right (by decide) (by omega))
    have tl : ∀ e, (if G.testBit e = true ∧ e ≠ d ∧ inc (kA l) (kB l) e x then val l.length (kA l) (kB l) f G (oth (kA l) (kB l) e x) e + 1 else 0) < 2 ^ 15 := fun e => by
      have := hvl (oth (kA l) (kB l) e x) e
      split <;> omega
    show Ev _ ((xs l.length (fun e => if G.testBit e = true ∧ e ≠ d ∧ inc (kA l) (kB l) e x then val l.length (kA l) (kB l) f G (oth (kA l) (kB l) e x) e + 1 else 0) : Nat) : Int)
    generalize ht : (fun e => if G.testBit e = true ∧ e ≠ d ∧ inc (kA l) (kB l) e x then val l.length (kA l) (kB l) f G (oth (kA l) (kB l) e x) e + 1 else 0) = t
    have tl' : ∀ e, t e < 2 ^ 15 := fun e => by rw [← ht]; exact tl e
    have loop : ∀ (dd i : Nat), i + dd = l.length → Ev (fun k => impl_fused.l0 k l (G : Int) (G : Int) down ((hgk l (kd G G) x : Nat) : Int) ((xs i t : Nat) : Int) l (l.length : Int) (i : Int)) ((xs l.length t : Nat) : Int) := by
      intro dd
      induction dd with
      | zero =>
        intro i hi
        obtain rfl : i = l.length := by omega
        refine Ev.step (fun k => ?_) (Ev.now _)
        simp only [impl_fused.l0, if_neg (show ¬ (l.length : Int) < (l.length : Int) by omega)]
      | succ dd ihd =>
        intro i hi
        have g1 : (i : Int) < (l.length : Int) := by omega
        have g2 : (0 : Int) ≤ (i : Int) := Int.natCast_nonneg _
        have hA := h.A12 i
        have hB := h.B12 i
        have gA : (0 : Int) ≤ (kA l i : Int) := Int.natCast_nonneg _
        have gB : (0 : Int) ≤ (kB l i : Int) := Int.natCast_nonneg _
        have z1 := bit0 G i hG64 (by omega)
        have z2 := bit1 G i hG64 (by omega)
        have hH := hm_lt l (kd G G) x
        have oA : (bits .and .u64 (shr .u64 ((hgk l (kd G G) x : Nat) : Int) (kA l i : Int)) 1 == 1) = decide (kA l i = x) := by
          rw [bit_u _ _ hH (by omega), hgk_none l G x _ hG64 (by omega)]
          by_cases q : kA l i = x <;> simp [q]
        have oB : (bits .and .u64 (shr .u64 ((hgk l (kd G G) x : Nat) : Int) (kB l i : Int)) 1 == 1) = decide (kB l i = x) := by
          rw [bit_u _ _ hH (by omega), hgk_none l G x _ hG64 (by omega)]
          by_cases q : kB l i = x <;> simp [q]
        have nx := ihd (i + 1) (by omega)
        rw [show xs (i + 1) t = xs i t ^^^ t i from rfl] at nx
        have hw : wrap64 ((i : Int) + 1) = ((i + 1 : Nat) : Int) := wsucc i (by omega)
        have hxl : xs i t < 2 ^ 15 := xs_lt i t 15 (fun e _ => tl' e)
        have hti : t i = if G.testBit i = true ∧ i ≠ d ∧ inc (kA l) (kB l) i x then val l.length (kA l) (kB l) f G (oth (kA l) (kB l) i x) i + 1 else 0 := by rw [← ht]
        cases hg : G.testBit i with
        | false =>
          rw [hti, if_neg (fun q => by rw [hg] at q; cases q.1), Nat.xor_zero] at nx
          refine Ev.step (fun k => ?_) (Ev.step (f := fun k => impl_fused.l0 k l (G : Int) (G : Int) down ((hgk l (kd G G) x : Nat) : Int) ((xs i t : Nat) : Int) l (l.length : Int) ((i + 1 : Nat) : Int)) (g := fun k => impl_fused.j1 k l (G : Int) (G : Int) down ((hgk l (kd G G) x : Nat) : Int) ((xs i t : Nat) : Int) (i : Int) l (l.length : Int) (i : Int) true (kA l i : Int) (kB l i : Int)) (fun k => ?_) nx)
          · simp only [impl_fused.l0, if_pos g1, if_pos g2, z1, hg, if_true, h.fA, h.fB]
          · simp only [impl_fused.j1, if_true, hw]
        | true =>
          by_cases hdd : (i : Int) = down
          · have e : ((i : Int) == down) = true := by simpa using hdd
            rw [hti, if_neg (fun q => q.2.1 ((hdn i (by omega)).1 hdd)), Nat.xor_zero] at nx
            refine Ev.step (fun k => ?_) (Ev.step (f := fun k => impl_fused.l0 k l (G : Int) (G : Int) down ((hgk l (kd G G) x : Nat) : Int) ((xs i t : Nat) : Int) l (l.length : Int) ((i + 1 : Nat) : Int)) (g := fun k => impl_fused.j1 k l (G : Int) (G : Int) down ((hgk l (kd G G) x : Nat) : Int) ((xs i t : Nat) : Int) (i : Int) l (l.length : Int) (i : Int) true (kA l i : Int) (kB l i : Int)) (fun k => ?_) nx)
            · simp only [impl_fused.l0, if_pos g1, if_pos g2, z1, hg, Bool.true_eq_false, if_false, h.fA, h.fB, e]
            · simp only [impl_fused.j1, if_true, hw]
          · have e : ((i : Int) == down) = false := by simpa using hdd
            have hid : i ≠ d := fun z => hdd ((hdn i (by omega)).2 z)
            refine Ev.step (g := fun k => impl_fused.l0 k l (G : Int) (G : Int) down ((hgk l (kd G G) x : Nat) : Int) ((xs i t : Nat) : Int) l (l.length : Int) (i : Int)) (f := fun k => impl_fused.j1 k l (G : Int) (G : Int) down ((hgk l (kd G G) x : Nat) : Int) ((xs i t : Nat) : Int) (i : Int) l (l.length : Int) (i : Int) false (kA l i : Int) (kB l i : Int)) (fun k => ?_) ?_
            · simp only [impl_fused.l0, if_pos g1, if_pos g2, z1, hg, Bool.true_eq_false, if_false, h.fA, h.fB, e]
            · by_cases qA : kA l i = x
              · have hCh : Ch l.length (kA l) (kB l) G d x i := ⟨by omega, hg, hid, .inl qA⟩
                have hv := IH i hCh
                have ho : oth (kA l) (kB l) i x = kB l i := by unfold oth; rw [if_pos qA]
                rw [ho] at hv
                have hb := hvl (kB l i) i
                rw [hti, if_pos hCh.2, ho, ← xor_nat _ _ (by omega) (by omega)] at nx
                refine Ev.step (f := fun k => impl_fused.j2 k l (G : Int) (G : Int) down ((hgk l (kd G G) x : Nat) : Int) ((xs i t : Nat) : Int) (i : Int) true (decide (kB l i = x)) l (l.length : Int) (i : Int) false (kA l i : Int) (kB l i : Int)) (fun k => ?_) (Ev.step (f := fun k => impl_fused.j3 k l (G : Int) (G : Int) down ((hgk l (kd G G) x : Nat) : Int) ((xs i t : Nat) : Int) (i : Int) (decide (kB l i = x)) l (l.length : Int) (i : Int) true (kA l i : Int) (kB l i : Int)) (fun k => ?_) (Ev.step (f := ?ha1) (fun k => ?hb1) ?hc1))
                · simp only [impl_fused.j1, Bool.false_eq_true, if_false, if_pos gA, if_pos gB, if_pos g2, z1, hg, Bool.true_eq_false, oA, oB, decide_eq_true qA]
                · simp only [impl_fused.j2, Bool.false_eq_true, if_false, if_pos g2, z2, hg, if_true]
                case hb1 => conv => lhs; simp only [impl_fused.j3, if_true, hw]
                case hc1 =>
                  refine Ev.bind hv ?_
                  rw [wsucc _ (by omega)]
                  exact nx
              · by_cases qB : kB l i = x
                · have hCh : Ch l.length (kA l) (kB l) G d x i := ⟨by omega, hg, hid, .inr qB⟩
                  have hv := IH i hCh
                  have ho : oth (kA l) (kB l) i x = kA l i := by unfold oth; rw [if_neg qA]
                  rw [ho] at hv
                  have hb := hvl (kA l i) i
                  rw [hti, if_pos hCh.2, ho, ← xor_nat _ _ (by omega) (by omega)] at nx
                  refine Ev.step (f := fun k => impl_fused.j2 k l (G : Int) (G : Int) down ((hgk l (kd G G) x : Nat) : Int) ((xs i t : Nat) : Int) (i : Int) false (decide (kB l i = x)) l (l.length : Int) (i : Int) false (kA l i : Int) (kB l i : Int)) (fun k => ?_) (Ev.step (f := fun k => impl_fused.j3 k l (G : Int) (G : Int) down ((hgk l (kd G G) x : Nat) : Int) ((xs i t : Nat) : Int) (i : Int) (decide (kB l i = x)) l (l.length : Int) (i : Int) false (kA l i : Int) (kB l i : Int)) (fun k => ?_) (Ev.step (f := ?ha2) (fun k => ?hb2) ?hc2))
                  · simp only [impl_fused.j1, Bool.false_eq_true, if_false, if_pos gA, if_pos gB, if_pos g2, z1, hg, Bool.true_eq_false, oA, oB, decide_eq_false qA]
                  · simp only [impl_fused.j2, Bool.false_eq_true, if_false, if_pos g2, z2, hg, if_true]
                  case hb2 => conv => lhs; simp only [impl_fused.j3, Bool.false_eq_true, if_false, if_pos g2, z2, hg, if_true, decide_eq_true qB, hw]
                  case hc2 =>
                    refine Ev.bind hv ?_
                    rw [wsucc _ (by omega)]
                    exact nx
                · rw [hti, if_neg (fun q => q.2.2.elim qA qB), Nat.xor_zero] at nx
                  refine Ev.step (f := fun k => impl_fused.j2 k l (G : Int) (G : Int) down ((hgk l (kd G G) x : Nat) : Int) ((xs i t : Nat) : Int) (i : Int) false false l (l.length : Int) (i : Int) false (kA l i : Int) (kB l i : Int)) (fun k => ?_) (Ev.step (f := fun k => impl_fused.j3 k l (G : Int) (G : Int) down ((hgk l (kd G G) x : Nat) : Int) ((xs i t : Nat) : Int) (i : Int) false l (l.length : Int) (i : Int) false (kA l i : Int) (kB l i : Int)) (fun k => ?_) (Ev.step (fun k => ?_) nx))
                  · simp only [impl_fused.j1, Bool.false_eq_true, if_false, if_pos gA, if_pos gB, if_pos g2, z1, hg, Bool.true_eq_false, oA, oB, decide_eq_false qA, decide_eq_false qB]
                  · simp only [impl_fused.j2, Bool.false_eq_true, if_false, if_pos g2, z2, hg, if_true]
                  · simp only [impl_fused.j3, Bool.false_eq_true, if_false, if_pos g2, z2, hg, if_true, hw]
    refine Ev.step (f := ?fa2) (fun k => ?fb2) ?fc2
    case fb2 => conv => lhs; simp only [impl_fused.f, minus_kd G _ hG64]
    case fc2 => exact Ev.bind (hung_ev l h (kd G G) x (kd_lt _ _) hx) (loop l.length 0 (by omega))

theorem tree_l (n G Q : Nat) (hn : n ≤ 14) (hsub : ∀ j, Q.testBit j = true → G.testBit j = true) : ∀ (d i : Nat), i + d = n → (∀ j, j < i → G.testBit j = Q.testBit j) → G < 2 ^ n → 
    Ev (fun k => spec_grTree.l0 k (bl n Q) (bl n G) ((bl n G).length : Int) (i : Int)) (decide (G = Q)) := by
  intro d
  induction d with
  | zero =>
    intro i hi hj hG
    have c : ¬ (i : Int) < ((bl n G).length : Int) := by rw [bl_length]; omega
    have e : G = Q := by
      apply bits_ext
      intro j
      by_cases q : j < n
      · exact hj j (by omega)
      · have h1 : G.testBit j = false := Nat.testBit_lt_two_pow (Nat.lt_of_lt_of_le hG (Nat.pow_le_pow_right (by decide) (by omega)))
        cases h2 : Q.testBit j with
        | false => exact h1
        | true => have := hsub j h2; rw [h1] at this; cases this
    rw [decide_eq_true e]
    refine Ev.step (fun k => ?_) (Ev.now _)
    simp only [spec_grTree.l0, if_neg c]
  | succ d ih =>
    intro i hi hj hG
    have g1 : (i : Int) < ((bl n G).length : Int) := by rw [bl_length]; omega
    have g1' : (i : Int) < ((bl n Q).length : Int) := by rw [bl_length]; omega
    have g2 : (0 : Int) ≤ (i : Int) := Int.natCast_nonneg _
    have bG := bl_rd n G i (by omega)
    have bQ := bl_rd n Q i (by omega)
    have ext : G.testBit i = Q.testBit i → ∀ j, j < i + 1 → G.testBit j = Q.testBit j := fun q j hjl => by
      by_cases e : j = i
      · subst e; exact q
      · exact hj j (by omega)
    have next := fun q => ih (i + 1) (by omega) (ext q) hG
    have hw : wrap64 ((i : Int) + 1) = ((i + 1 : Nat) : Int) := wsucc i (by omega)
    cases hg : G.testBit i with
    | false =>
      have hq : Q.testBit i = false := by
        cases q : Q.testBit i with
        | false => rfl
        | true => have := hsub i q; rw [hg] at this; cases this
      refine Ev.step (fun k => ?_) (next (by rw [hg, hq]))
      simp only [spec_grTree.l0, if_pos g1, if_pos g2, bG, hg, Bool.false_eq_true, if_false, hw]
    | true =>
      cases hq : Q.testBit i with
      | false =>
        have e : ¬ G = Q := fun e => by rw [e, hq] at hg; cases hg
        rw [decide_eq_false e]
        refine Ev.step (fun k => ?_) (Ev.now _)
        simp only [spec_grTree.l0, if_pos g1, if_pos g2, bG, hg, if_true, if_pos g1', bQ, hq, Bool.false_eq_true, if_false]
      | true =>
        refine Ev.step (fun k => ?_) (next (by rw [hg, hq]))
        simp only [spec_grTree.l0, if_pos g1, if_pos g2, bG, hg, if_true, if_pos g1', bQ, hq, hw]
theorem bm_sub (l : List S33) (G j : Nat) (hj : (bm l G).testBit j = true) : G.testBit j = true := by
  rw [bm, mk_bit, Bool.and_eq_true, isB, Bool.and_eq_true] at hj
  exact hj.2.1
theorem both (l : List S33) (hl : l.length ≤ 1048576) : ∃ r : Int × Bool, Ev (fun k => spec_GrundyOfTree.f k l) r ∧ Ev (fun k => impl_GrundyOfTree.f k l) r := by
  unfold spec_GrundyOfTree.f impl_GrundyOfTree.f
  have g1 := good_ev l hl
  have g2 := isGreen_ev l
  cases hg : good l with
  | false =>
    rw [hg] at g1 g2
    refine ⟨(0, false), Ev.bind g1 (Ev.now _), Ev.bind (a := (false, false)) ?_ (Ev.now _)⟩
    unfold impl_IsGreenTree.f
    exact Ev.bind g2 (Ev.now _)
  | true =>
    rw [hg] at g1 g2
    have h := ok_of_good hg
    have hlen := h.len
    generalize hGe : gm l (am l.length) = G
    have hG : G < 2 ^ l.length := by rw [← hGe]; exact mk_lt _ _
    have hG64 : G < 2 ^ 64 := Nat.lt_of_lt_of_le hG (Nat.pow_le_pow_right (by decide) (by omega))
    have hgr := grounded_ev l h _ (am_lt _ hlen)
    have hbr := implBridges_ev l h
    rw [hGe] at hgr hbr
    have ht : Ev (fun k => spec_grTree.f k l) (decide (G = bm l G)) := by
      unfold spec_grTree.f
      have a1 := specBridges_ev l h
      have a2 := ground_ev l h (am l.length)
      rw [hGe] at a1 a2
      refine Ev.bind a1 (Ev.bind (specAll_ev l h) (Ev.bind a2 ?_))
      exact tree_l l.length _ _ hlen (bm_sub l _) l.length 0 (by omega) (fun j hj => by omega) hG
    have hi : Ev (fun k => impl_IsGreenTree.f k l) (decide (G = bm l G), true) := by
      unfold impl_IsGreenTree.f
      refine Ev.bind g2 ?_
      simp only [if_true, implAll l h, Option.bind_some]
      refine Ev.bind hgr (Ev.bind hbr ?_)
      have e : (((G : Nat) : Int) == ((bm l G : Nat) : Int)) = decide (G = bm l G) := by
        by_cases q : G = bm l G
        · rw [decide_eq_true q, ← q]; simp
        · rw [decide_eq_false q]; simp; omega
      rw [e]
      exact Ev.now _
    by_cases q : G = bm l G
    · rw [decide_eq_true q] at ht hi
      have hT : Tr l.length (kA l) (kB l) G := ⟨hG64, fun i hil hb => by
        rw [q, bm, mk_bit, Bool.and_eq_true] at hb
        exact (isB_bit hb.2).2⟩
      have hd : Dn l.length (kA l) (kB l) G 60 0 := fun z => by rw [big_bit hG (by omega)] at z; cases z
      have hc : cnt l.length (kA l) (kB l) G 60 0 ≤ l.length := by
        have := List.countP_le_length (p := fun i => @decide (Cm l.length (kA l) (kB l) G 60 0 i) (Classical.propDecidable _)) (l := List.range l.length)
        rwa [List.length_range] at this
      have hf := fused_val l h G hG hT l.length 0 60 (-1) (by omega) hlen hd (fun i hi => by omega) hc
      have hgg : gm l G = G := by
        have := gm_gm l (am l.length) 60 (am_lt _ hlen) hlen
        have e1 : mn (gm l (am l.length)) 60 = gm l (am l.length) := by
          apply bits_ext
          intro j
          have hGG : gm l (am l.length) < 2 ^ 64 := by rw [hGe]; exact hG64
          rw [mn_bit _ _ hGG]
          by_cases z : j = 60
          · subst z; rw [hGe, big_bit hG (by omega)]; rfl
          · simp [z]
        have e2 : mn (am l.length) 60 = am l.length := by
          apply bits_ext
          intro j
          rw [mn_bit _ _ (am_lt _ hlen)]
          by_cases z : j = 60
          · subst z
            have : (am l.length).testBit 60 = false := by unfold am; rw [mk_bit, decide_eq_false (by omega)]; rfl
            rw [this]; rfl
          · simp [z]
        rw [e1, e2, hGe] at this
        exact this
      have hV := V_tree h G hG hT
      rw [hgg] at hV
      obtain ⟨v, r1, r2⟩ := value_ev h
      rw [hGe] at r1
      have hvv := ev_uniq r1 hV
      rw [hvv] at r2
      refine ⟨((val l.length (kA l) (kB l) l.length G 0 60 : Nat), true), Ev.bind g1 ?_, Ev.bind hi ?_⟩
      · simp only [if_true]
        refine Ev.bind ht ?_
        simp only [if_true]
        exact Ev.bind r2 (Ev.now _)
      · simp only [if_true]
        refine Ev.bind (a := (((val l.length (kA l) (kB l) l.length G 0 60 : Nat) : Int), true)) ?_ (Ev.now _)
        unfold impl_GrundyByFusion.f
        refine Ev.bind g2 ?_
        simp only [if_true, implAll l h, Option.bind_some]
        rw [← q] at hbr
        exact Ev.bind hgr (Ev.bind hbr (Ev.bind hf (Ev.now _)))
    · rw [decide_eq_false q] at ht hi
      refine ⟨(0, false), Ev.bind g1 ?_, Ev.bind hi (Ev.now _)⟩
      simp only [if_true]
      exact Ev.bind ht (Ev.now _)
theorem proved : laws_FnExactGrundyOfTree.Pure := by
  intro l h
  refine Ev.rounds ?_
  unfold laws_FnExactGrundyOfTree.f
  simp only [szTwigS l h.1, Option.bind_some]
  by_cases hb : l.length > 1048576
  · simp only [if_pos hb]
    exact Ev.now _
  · have hl : l.length ≤ 1048576 := by omega
    have hl' : (l.map conv).length ≤ 1048576 := by rw [List.length_map]; exact hl
    have c : ¬ (1048576 - (l.length : Int)) < 0 := by omega
    simp only [if_neg hb, if_neg c]
    obtain ⟨r, s1, s2⟩ := both (l.map conv) hl'
    have ht := toTwigS_ev l hl
    refine Ev.bind ht (Ev.bind s1 (Ev.bind ht (Ev.bind s2 ?_)))
    simp only [bne_self_eq_false, if_true]
    refine Ev.step (f := ?gga) (fun k => ?ggb) ?ggc
    case ggb => conv => lhs; simp only [laws_FnExactGrundyOfTree.j0, Bool.false_eq_true, if_false]
    case ggc => exact Ev.bind ht (Ev.bind (eqTwigS_ev _ hl') (Ev.now _))

end LFnExactGrundyOfTree
theorem FnExactGrundyOfTree : laws_FnExactGrundyOfTree.Pure := LFnExactGrundyOfTree.proved
end Go.Proofs.Ytgbcaicnpajekaa.Pure
