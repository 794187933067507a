/- For any list of twigs, the value by fusion that the program tells is the reference's, and the list is left as it was. -/
import Derived.Test.YtoiobcdaomfepaaQFnExactGrundyByFusionx9
import Derived.Test.YtoiobcdaomfepaaGreen
namespace Go.Proofs.Ytoiobcdaomfepaa.Pure
open Go.RowKit Go.Proofs.Ytoiobcdaomfepaa.QFnExactGrundyByFusion Go.Proofs.YtoiobcdaomfepaaW.PrintWords Go.Proofs.YtoiobcdaomfepaaW.PrintLast
open Go.Proofs.Ytoiobcdaomfepaa.Green Go.Proofs.Ytoiobcdaomfepaa.Bits
set_option linter.unusedVariables false
set_option linter.unusedSimpArgs false
def laws_FnExactGrundyByFusion.Pure : Prop := ∀ (l0 : List (S43)), (l0.length ≤ maxLen ∧ ∀ y0 ∈ l0, ((Lit.int .i64 y0.f0).wf = true ∧ (Lit.int .i64 y0.f1).wf = true)) → ∃ k, laws_FnExactGrundyByFusion.f k l0 = some true
namespace LFnExactGrundyByFusion
/-! ### small words -/
theorem wsucc (i : Nat) (h : i < 2 ^ 62) : wrap64 ((i : Int) + 1) = ((i + 1 : Nat) : Int) := by unfold wrap64; omega

/-! ### lists of twigs: their size, a copy, the same -/
theorem rdL (xs : List S43) (i : Nat) (h : i < xs.length) : rd_T43 xs (i : Int) = xs[i] := by
  simp [rd_T43, List.getD_eq_getElem?_getD, List.getElem?_eq_getElem h]
theorem rdI (xs : List S41) (i : Nat) (h : i < xs.length) : rd_T41 xs (i : Int) = xs[i] := by
  simp [rd_T41, List.getD_eq_getElem?_getD, List.getElem?_eq_getElem h]
theorem szTwigS (l : List S43) (h : l.length ≤ maxLen) : laws_szTwigS.f l 1048576 = some (if l.length > 1048576 then -1 else 1048576 - (l.length : Int)) := by
  unfold maxLen at h
  have hw : wrap64 (1048576 - (l.length : Int)) = 1048576 - (l.length : Int) := by unfold wrap64; omega
  unfold laws_szTwigS.f
  rw [hw]
  clear hw
  by_cases g : l.length > 1048576
  · rw [if_pos (by omega), if_pos g]
  · rw [if_neg (by omega), if_neg g]
/-- A twig of the program for a twig of the law. -/
def conv (p : S43) : S41 := ⟨p.f0, p.f1⟩
theorem toTwigS_l (l : List S43) (hl : l.length ≤ 1048576) : ∀ (d i : Nat) (ys : List S41), i + d = l.length → ys.length = l.length → (∀ j, j < i → ys[j]? = (l.map conv)[j]?) →
    Ev (fun k => laws_toTwigS.l0 k l ys (i : Int)) (l.map conv) := by
  intro d
  induction d with
  | zero =>
    intro i ys hi hy hj
    have c : ¬ (i : Int) < (l.length : Int) := by omega
    have : ys = l.map conv := by
      apply List.ext_getElem?
      intro j
      by_cases g : j < i
      · exact hj j g
      · rw [List.getElem?_eq_none (by omega), List.getElem?_eq_none (by rw [List.length_map]; omega)]
    subst this
    refine Ev.step (fun k => ?_) (Ev.now _)
    simp only [laws_toTwigS.l0, if_neg c]
  | succ d ih =>
    intro i ys hi hy hj
    have g1 : (i : Int) < (l.length : Int) := by omega
    have g1' : (i : Int) < (ys.length : Int) := by omega
    have g2 : (0 : Int) ≤ (i : Int) := Int.natCast_nonneg _
    have hil : i < l.length := by omega
    have hw : wrap64 ((i : Int) + 1) = ((i + 1 : Nat) : Int) := wsucc i (by omega)
    refine Ev.step (fun k => ?_) (ih (i + 1) (ys.set i (conv l[i])) (by clear hw; omega) (by rw [List.length_set]; exact hy) (fun j hjl => ?_))
    · simp only [laws_toTwigS.l0, if_pos g1, if_pos g2, rdL l i hil, laws_toTwig.f, Option.bind_some, if_pos g1', Int.toNat_natCast, hw]
      rfl
    · rw [List.getElem?_set]
      by_cases e : i = j
      · subst e
        rw [if_pos rfl, if_pos (by clear hw; omega), List.getElem?_map, List.getElem?_eq_getElem hil]
        rfl
      · rw [if_neg e]
        exact hj j (by clear hw; omega)
theorem toTwigS_ev (l : List S43) (hl : l.length ≤ 1048576) : Ev (fun k => laws_toTwigS.f k l) (l.map conv) := by
  unfold laws_toTwigS.f
  simp only [if_pos (Int.natCast_nonneg l.length), Int.toNat_natCast, show l.length ≤ 17592186044416 from by omega, if_true]
  exact toTwigS_l l hl l.length 0 _ (by omega) (by simp) (fun j hj => by omega)
theorem eqTwigS_l (l : List S41) (hl : l.length ≤ 1048576) : ∀ (d i : Nat), i + d = l.length → Ev (fun k => laws_eqTwigS.l0 k l l (i : Int)) true := by
  intro d
  induction d with
  | zero =>
    intro i hi
    have c : ¬ (i : Int) < (l.length : Int) := by omega
    refine Ev.step (fun k => ?_) (Ev.now _)
    simp only [laws_eqTwigS.l0, if_neg c]
  | succ d ih =>
    intro i hi
    have g1 : (i : Int) < (l.length : Int) := by omega
    have g2 : (0 : Int) ≤ (i : Int) := Int.natCast_nonneg _
    have hw : wrap64 ((i : Int) + 1) = ((i + 1 : Nat) : Int) := wsucc i (by omega)
    refine Ev.step (fun k => ?_) (ih (i + 1) (by clear hw; omega))
    simp only [laws_eqTwigS.l0, if_pos g1, if_pos g2, laws_eqTwig.f, if_true, Option.bind_some, hw]
theorem eqTwigS_ev (l : List S41) (hl : l.length ≤ 1048576) : Ev (fun k => laws_eqTwigS.f k l l) true := by
  unfold laws_eqTwigS.f
  simp only [if_true]
  exact eqTwigS_l l hl l.length 0 (by omega)

/-! ### what is a green picture, on both sides -/
theorem in_some (e a b : Int) : spec_l1In.f e a b = some (decide (a ≤ e ∧ e ≤ b)) := by
  unfold spec_l1In.f
  by_cases h : e ≥ a
  · rw [if_pos h]; congr 1; simp; omega
  · rw [if_neg h]; congr 1; simp; omega
theorem twig_some (x : S41) : spec_grTwig.f x.f0 x.f1 = some (!impl_IsGreen.bad x) := by
  unfold spec_grTwig.f impl_IsGreen.bad impl_IsGreen.inK
  simp only [in_some, Option.bind_some]
  by_cases h1 : 0 ≤ x.f0 ∧ x.f0 ≤ 12 <;> by_cases h2 : 0 ≤ x.f1 ∧ x.f1 ≤ 12 <;> simp [h1, h2]
/-- What is a green picture. -/
def good (l : List S41) : Bool := decide (l.length ≤ 14) && !l.any impl_IsGreen.bad
theorem good_l (l : List S41) (hl : l.length ≤ 1048576) : ∀ (d i : Nat), i + d = l.length → Ev (fun k => spec_grGood.l0 k l l (l.length : Int) (i : Int)) (decide (l.length ≤ 14) && !(l.drop i).any impl_IsGreen.bad) := by
  intro d
  induction d with
  | zero =>
    intro i hi
    have c : ¬ (i : Int) < (l.length : Int) := by omega
    rw [List.drop_eq_nil_of_le (by omega)]
    refine Ev.step (fun k => ?_) (Ev.now _)
    have : decide ((l.length : Int) ≤ 14) = decide (l.length ≤ 14) := by
      by_cases h : l.length ≤ 14
      · rw [decide_eq_true h, decide_eq_true (by omega)]
      · rw [decide_eq_false h, decide_eq_false (by omega)]
    simp only [spec_grGood.l0, if_neg c, this, List.any_nil, Bool.not_false, Bool.and_true]
  | succ d ih =>
    intro i hi
    have g1 : (i : Int) < (l.length : Int) := by omega
    have g2 : (0 : Int) ≤ (i : Int) := Int.natCast_nonneg _
    have hil : i < l.length := by omega
    rw [List.drop_eq_getElem_cons hil, List.any_cons]
    cases hb : impl_IsGreen.bad l[i] with
    | true =>
      refine Ev.step (fun k => ?_) (Ev.now _)
      simp only [spec_grGood.l0, if_pos g1, if_pos g2, rdI l i hil, twig_some, hb, Option.bind_some, Bool.not_true, Bool.false_eq_true, if_false, Bool.true_or, Bool.and_false]
    | false =>
      have hw : wrap64 ((i : Int) + 1) = ((i + 1 : Nat) : Int) := wsucc i (by omega)
      rw [Bool.false_or]
      refine Ev.step (fun k => ?_) (ih (i + 1) (by clear hw; omega))
      simp only [spec_grGood.l0, if_pos g1, if_pos g2, rdI l i hil, twig_some, hb, Option.bind_some, Bool.not_false, if_true, hw]
theorem good_ev (l : List S41) (hl : l.length ≤ 1048576) : Ev (fun k => spec_grGood.f k l) (good l) := by
  have := good_l l hl l.length 0 (by omega)
  rwa [List.drop_zero] at this
theorem isGreen_ev (l : List S41) : Ev (fun k => impl_IsGreen.f k l) (good l) := Ev.now _

/-! ### what is grounded, by bits -/
def kA (l : List S41) (i : Nat) : Nat := (rd_T41 l (i : Int)).f0.toNat
def kB (l : List S41) (i : Nat) : Nat := (rd_T41 l (i : Int)).f1.toNat
structure Ok (l : List S41) : Prop where
  len : l.length ≤ 14
  fA : ∀ i : Nat, (rd_T41 l (i : Int)).f0 = (kA l i : Int)
  fB : ∀ i : Nat, (rd_T41 l (i : Int)).f1 = (kB l i : Int)
  A12 : ∀ i, kA l i ≤ 12
  B12 : ∀ i, kB l i ≤ 12
theorem ok_of_good {l : List S41} (h : good l = true) : Ok l := by
  unfold good at h
  rw [Bool.and_eq_true] at h
  have hl : l.length ≤ 14 := of_decide_eq_true h.1
  have hb : ∀ x ∈ l, impl_IsGreen.bad x = false := by
    have := h.2
    simp only [Bool.not_eq_true', List.any_eq_false] at this
    intro x hx
    have := this x hx
    simpa using this
  have key : ∀ i : Nat, (0 ≤ (rd_T41 l (i : Int)).f0 ∧ (rd_T41 l (i : Int)).f0 ≤ 12) ∧ (0 ≤ (rd_T41 l (i : Int)).f1 ∧ (rd_T41 l (i : Int)).f1 ≤ 12) := by
    intro i
    by_cases hi : i < l.length
    · have := hb _ (List.getElem_mem hi)
      rw [rdI l i hi]
      simp only [impl_IsGreen.bad, impl_IsGreen.inK, Bool.or_eq_false_iff, Bool.not_eq_false', decide_eq_true_eq] at this
      exact this
    · have e : rd_T41 l (i : Int) = z41 := by
        unfold rd_T41
        rw [Int.toNat_natCast, List.getD_eq_getElem?_getD, List.getElem?_eq_none (by omega)]
        rfl
      rw [e]
      exact ⟨by decide, by decide⟩
  refine ⟨hl, fun i => ?_, fun i => ?_, fun i => ?_, fun i => ?_⟩
  · unfold kA; have := (key i).1; omega
  · unfold kB; have := (key i).2; omega
  · unfold kA; have := (key i).1; omega
  · unfold kB; have := (key i).2; omega
theorem or13 {S a b : Nat} (hS : S < 2 ^ 13) (ha : a ≤ 12) (hb : b ≤ 12) : S ||| (2 ^ a ||| 2 ^ b) < 2 ^ 13 :=
  Nat.or_lt_two_pow hS (Nat.or_lt_two_pow (Nat.pow_lt_pow_right (by decide) (by omega)) (Nat.pow_lt_pow_right (by decide) (by omega)))
theorem or14 {O i : Nat} (hO : O < 2 ^ 14) (hi : i < 14) : O ||| 2 ^ i < 2 ^ 14 := Nat.or_lt_two_pow hO (Nat.pow_lt_pow_right (by decide) hi)
theorem one_bit (O i j : Nat) : (O ||| 2 ^ i).testBit j = (O.testBit j || decide (j = i)) := by
  rw [Nat.testBit_or, Nat.testBit_two_pow]
  congr 1
  exact decide_eq_decide.2 ⟨fun h => h.symm, fun h => h.symm⟩
section
variable (l : List S41) (h : Ok l) (M : Nat) (hM : M < 2 ^ 64)
include h hM
theorem grounded_in : ∀ (d i S O : Nat), i + d = l.length → S < 2 ^ 13 → O < 2 ^ 14 → (∀ x, S.testBit x = true → Hangs l.length (kA l) (kB l) M 0 x) →
    ∃ S' O' : Nat, S' < 2 ^ 13 ∧ O' < 2 ^ 14 ∧ Rnd l.length (kA l) (kB l) M 0 i S S' ∧
      (∀ j, O'.testBit j = true → O.testBit j = true ∨ (j < l.length ∧ M.testBit j = true ∧ Hangs l.length (kA l) (kB l) M 0 (kA l j))) ∧ (∀ j, O.testBit j = true → O'.testBit j = true) ∧
      (∀ j, i ≤ j → j < l.length → M.testBit j = true → (S.testBit (kA l j) = true ∨ S.testBit (kB l j) = true) → O'.testBit j = true) ∧
      ∀ (T c r : Int), Ev (fun k => impl_grounded.l0 k l (M : Int) (S' : Int) (O' : Int) T (wrap64 (c + 1))) r → Ev (fun k => impl_grounded.l1 k l (M : Int) (S : Int) (O : Int) T c l (l.length : Int) (i : Int)) r := by
  have hlen := h.len
  intro d
  induction d with
  | zero =>
    intro i S O hi hS hO hr
    have c : ¬ (i : Int) < (l.length : Int) := by omega
    refine ⟨S, O, hS, hO, rnd_end (by omega) hr, fun j hj => .inl hj, fun j hj => hj, fun j h1 h2 => by omega, fun T c' r he => Ev.step (fun k => ?_) he⟩
    simp only [impl_grounded.l1, if_neg c]
  | succ d ih =>
    intro i S O hi hS hO hr
    have g1 : (i : Int) < (l.length : Int) := by omega
    have g2 : (0 : Int) ≤ (i : Int) := Int.natCast_nonneg _
    have hil : i < l.length := by omega
    have gA : (0 : Int) ≤ (kA l i : Int) := Int.natCast_nonneg _
    have gB : (0 : Int) ≤ (kB l i : Int) := Int.natCast_nonneg _
    have hA := h.A12 i
    have hB := h.B12 i
    have hS64 : S < 2 ^ 64 := Nat.lt_trans hS (by decide)
    have hO64 : O < 2 ^ 64 := Nat.lt_trans hO (by decide)
    have bM := bit1 M i hM (by omega)
    have bA := bit1 S (kA l i) hS64 (by omega)
    have bB := bit1 S (kB l i) hS64 (by omega)
    have aS := add_u S (kA l i) (kB l i) hS64 (by omega) (by omega)
    have aO := add1_u O i hO64 (by omega)
    have hw : wrap64 ((i : Int) + 1) = ((i + 1 : Nat) : Int) := wsucc i (by omega)
    cases hm : M.testBit i with
    | false =>
      obtain ⟨S', O', p1, p2, p3, p4, p5, p6, p7⟩ := ih (i + 1) S O (by clear hw; omega) hS hO hr
      refine ⟨S', O', p1, p2, rnd_skip p3 (fun q => by rw [hm] at q; cases q), p4, p5, fun j h1 h2 h3 h4 => ?_, fun T c r he => Ev.step (fun k => ?_) (p7 T c r he)⟩
      · by_cases e : j = i
        · subst e; rw [hm] at h3; cases h3
        · exact p6 j (by clear hw; omega) h2 h3 h4
      · simp only [impl_grounded.l1, if_pos g1, if_pos g2, bM, hm, Bool.false_eq_true, if_false, hw]
    | true =>
      by_cases ht : S.testBit (kA l i) = true ∨ S.testBit (kB l i) = true
      · obtain ⟨S', O', p1, p2, p3, p4, p5, p6, p7⟩ := ih (i + 1) (S ||| (2 ^ kA l i ||| 2 ^ kB l i)) (O ||| 2 ^ i) (by clear hw; omega) (or13 hS hA hB) (or14 hO (by clear hw; omega)) (add_ok hil hm ht hr)
        have rA : Hangs l.length (kA l) (kB l) M 0 (kA l i) := add_ok hil hm ht hr _ (by rw [bit_add]; simp)
        refine ⟨S', O', p1, p2, rnd_add hil hm ht p3, fun j hj => ?_, fun j hj => p5 j (by rw [one_bit, hj]; rfl), fun j h1 h2 h3 h4 => ?_, fun T c r he => Ev.step (fun k => ?_) (p7 T c r he)⟩
        · rcases p4 j hj with q | q
          · rw [one_bit, Bool.or_eq_true, decide_eq_true_eq] at q
            rcases q with q | rfl
            · exact .inl q
            · exact .inr ⟨hil, hm, rA⟩
          · exact .inr q
        · by_cases e : j = i
          · subst e; exact p5 _ (by rw [one_bit]; simp)
          · exact p6 j (by clear hw; omega) h2 h3 (h4.imp (fun q => by rw [bit_add, q]; rfl) (fun q => by rw [bit_add, q]; rfl))
        · cases hx : S.testBit (kA l i) with
          | true => simp only [impl_grounded.l1, if_pos g1, if_pos g2, bM, hm, if_true, h.fA, h.fB, if_pos gA, if_pos gB, bA, hx, aS, aO, hw]
          | false =>
            have hy : S.testBit (kB l i) = true := ht.resolve_left (by rw [hx]; simp)
            simp only [impl_grounded.l1, if_pos g1, if_pos g2, bM, hm, if_true, h.fA, h.fB, if_pos gA, if_pos gB, bA, hx, bB, hy, Bool.false_eq_true, if_false, aS, aO, hw]
      · obtain ⟨S', O', p1, p2, p3, p4, p5, p6, p7⟩ := ih (i + 1) S O (by clear hw; omega) hS hO hr
        refine ⟨S', O', p1, p2, rnd_skip p3 (fun _ => ht), p4, p5, fun j h1 h2 h3 h4 => ?_, fun T c r he => Ev.step (fun k => ?_) (p7 T c r he)⟩
        · by_cases e : j = i
          · subst e; exact absurd h4 ht
          · exact p6 j (by clear hw; omega) h2 h3 h4
        · have hx : S.testBit (kA l i) = false := by
            cases q : S.testBit (kA l i)
            · rfl
            · exact absurd (.inl q) ht
          have hy : S.testBit (kB l i) = false := by
            cases q : S.testBit (kB l i)
            · rfl
            · exact absurd (.inr q) ht
          simp only [impl_grounded.l1, if_pos g1, if_pos g2, bM, hm, if_true, h.fA, h.fB, if_pos gA, if_pos gB, bA, hx, bB, hy, Bool.false_eq_true, if_false, hw]
/-- The grounded twigs of some. -/
noncomputable def gm (l : List S41) (M : Nat) : Nat := mk l.length fun i => M.testBit i && reachB l.length (kA l) (kB l) M 0 (kA l i)
theorem grounded_out : ∀ (d c S O : Nat), c + d = l.length + 1 → S < 2 ^ 13 → O < 2 ^ 14 → S.testBit 0 = true → (∀ x, S.testBit x = true → Hangs l.length (kA l) (kB l) M 0 x) →
    (∀ j, O.testBit j = true → j < l.length ∧ M.testBit j = true ∧ Hangs l.length (kA l) (kB l) M 0 (kA l j)) → (Closed l.length (kA l) (kB l) M S ∨ c ≤ used l.length (kA l) (kB l) M S) →
    (d = 0 → ∀ j, j < l.length → M.testBit j = true → Hangs l.length (kA l) (kB l) M 0 (kA l j) → O.testBit j = true) →
    Ev (fun k => impl_grounded.l0 k l (M : Int) (S : Int) (O : Int) ((l.length + 1 : Nat) : Int) (c : Int)) ((gm l M : Nat) : Int) := by
  have hlen := h.len
  intro d
  induction d with
  | zero =>
    intro c S O hc hS hO h0 hr hO2 hcl hfin
    have g : ¬ (c : Int) < ((l.length + 1 : Nat) : Int) := by omega
    have e : O = gm l M := by
      apply bits_ext
      intro j
      rw [gm, mk_bit]
      cases q : O.testBit j with
      | true =>
        have := hO2 j q
        rw [decide_eq_true this.1, this.2.1, reachB_iff.2 this.2.2]
        rfl
      | false =>
        by_cases hj : j < l.length
        · cases hm : M.testBit j with
          | false => simp
          | true =>
            cases hb : reachB l.length (kA l) (kB l) M 0 (kA l j) with
            | false => simp
            | true =>
              have := hfin rfl j hj hm (reachB_iff.1 hb)
              rw [q] at this
              cases this
        · rw [decide_eq_false hj]; rfl
    rw [← e]
    refine Ev.step (fun k => ?_) (Ev.now _)
    simp only [impl_grounded.l0, if_neg g]
  | succ d ih =>
    intro c S O hc hS hO h0 hr hO2 hcl hfin
    have g : (c : Int) < ((l.length + 1 : Nat) : Int) := by omega
    obtain ⟨S', O', p1, p2, p3, p4, p5, p6, p7⟩ := grounded_in l h M hM l.length 0 S O (by omega) hS hO hr
    refine Ev.step (fun k => ?_) (p7 ((l.length + 1 : Nat) : Int) (c : Int) _ ?_)
    · simp only [impl_grounded.l0, if_pos g]
      rfl
    · rw [wsucc c (by omega)]
      refine ih (c + 1) S' O' (by omega) p1 p2 (p3.sub _ h0) p3.ok (fun j hj => ?_) (rnd_round p3 h0 hcl) (fun hd j hj hm hrj => ?_)
      · rcases p4 j hj with q | q
        · exact hO2 j q
        · exact q
      · have hcn : Closed l.length (kA l) (kB l) M S := hcl.elim id (fun q => used_full (by omega))
        exact p6 j (Nat.zero_le _) hj hm (.inl (closed_reach hcn h0 hrj))
theorem grounded_ev : Ev (fun k => impl_grounded.f k l (M : Int)) ((gm l M : Nat) : Int) := by
  have hlen := h.len
  unfold impl_grounded.f
  rw [wsucc l.length (by omega)]
  have := grounded_out l h M hM (l.length + 1) 0 1 0 (by omega) (by decide) (by decide) (by decide) (fun x hx => by
    have : x = 0 := by
      by_cases e : x = 0
      · exact e
      · have h1 : Nat.testBit 1 x = decide (x = 0) := Nat.testBit_one_eq_true_iff_self_eq_zero.elim (by
          cases q : Nat.testBit 1 x <;> simp [Nat.testBit_one_eq_true_iff_self_eq_zero] at * <;> simp_all)
        rw [h1] at hx
        exact absurd (of_decide_eq_true hx) e
    subst this
    exact .here) (fun j hj => by rw [Nat.zero_testBit] at hj; cases hj) (.inr (Nat.zero_le _)) (fun hd => by omega)
  simpa using this
end

/-! ### knots, by a list that grows -/
theorem nodup_bound : ∀ (n : Nat) (F : List Nat), F.Nodup → (∀ x ∈ F, x < n) → F.length ≤ n
  | 0, F, _, h => by
    cases F with
    | nil => simp
    | cons x F => exact absurd (h x (by simp)) (by omega)
  | n + 1, F, hn, h => by
    have h1 : (F.filter fun x => x != n).length ≤ n := nodup_bound n _ (hn.filter _) (fun x hx => by
      have := List.mem_filter.1 hx
      have h2 := h x this.1
      have h3 : x ≠ n := by simpa using this.2
      omega)
    have h2 : F.length ≤ (F.filter fun x => x != n).length + 1 := by
      clear h h1
      induction F with
      | nil => simp
      | cons x F ih =>
        have hx := List.nodup_cons.1 hn
        by_cases e : x = n
        · subst e
          have : F.filter (fun y => y != x) = F := List.filter_eq_self.2 (fun y hy => by
            have : y ≠ x := fun q => hx.1 (q ▸ hy)
            simpa using this)
          rw [List.filter_cons_of_neg (by simp), this, List.length_cons]
          omega
        · rw [List.filter_cons_of_pos (by simpa using e), List.length_cons, List.length_cons]
          have := ih hx.2
          omega
    omega
/-- Knots as Go's whole numbers. -/
def cz (F : List Nat) : List Int := F.map fun x : Nat => (x : Int)
theorem cz_length (F : List Nat) : (cz F).length = F.length := by simp [cz]
theorem cz_snoc (F : List Nat) (x : Nat) : cz F ++ [(x : Int)] = cz (F ++ [x]) := by simp [cz]
theorem cz_rd (F : List Nat) (i : Nat) (h : i < F.length) : rd (cz F) (i : Int) = (F[i] : Int) := by
  simp [rd, cz, List.getD_eq_getElem?_getD, h]
theorem has_l (F : List Nat) (x : Nat) (hF : F.length < 2 ^ 60) : ∀ (d j : Nat), j + d = F.length → Ev (fun k => spec_l1Has.l0 k (x : Int) (cz F) ((cz F).length : Int) (j : Int)) (decide (x ∈ F.drop j)) := by
  intro d
  induction d with
  | zero =>
    intro j hj
    have c : ¬ (j : Int) < ((cz F).length : Int) := by rw [cz_length]; omega
    rw [List.drop_eq_nil_of_le (by omega)]
    refine Ev.step (fun k => ?_) (Ev.now _)
    simp only [spec_l1Has.l0, if_neg c]
    simp
  | succ d ih =>
    intro j hj
    have g1 : (j : Int) < ((cz F).length : Int) := by rw [cz_length]; omega
    have g2 : (0 : Int) ≤ (j : Int) := Int.natCast_nonneg _
    have hjl : j < F.length := by omega
    rw [List.drop_eq_getElem_cons hjl]
    by_cases e : F[j] = x
    · refine Ev.step (fun k => ?_) (Ev.now _)
      simp only [spec_l1Has.l0, if_pos g1, if_pos g2, cz_rd F j hjl, e, if_true]
      simp
    · have e' : ¬ (F[j] : Int) = (x : Int) := by omega
      have hd : decide (x ∈ F[j] :: F.drop (j + 1)) = decide (x ∈ F.drop (j + 1)) := by
        have : ¬ x = F[j] := fun q => e q.symm
        exact decide_eq_decide.2 ⟨fun q => (List.mem_cons.1 q).resolve_left this, List.mem_cons_of_mem _⟩
      have hw : wrap64 ((j : Int) + 1) = ((j + 1 : Nat) : Int) := wsucc j (by omega)
      rw [hd]
      refine Ev.step (fun k => ?_) (ih (j + 1) (by clear hw; omega))
      simp only [spec_l1Has.l0, if_pos g1, if_pos g2, cz_rd F j hjl, if_neg e', hw]
theorem has_ev (F : List Nat) (x : Nat) (hF : F.length < 2 ^ 60) : Ev (fun k => spec_l1Has.f k (cz F) (x : Int)) (decide (x ∈ F)) := by
  have := has_l F x hF F.length 0 (by omega)
  rwa [List.drop_zero] at this
section
variable (l : List S41) (h : Ok l) (M a : Nat)
/-- What is found so far. -/
structure Inv (l : List S41) (M a : Nat) (F : List Nat) : Prop where
  nodup : F.Nodup
  le12 : ∀ x ∈ F, x < 13
  ok : ∀ x ∈ F, Hangs l.length (kA l) (kB l) M a x
theorem Inv.len {l : List S41} {M a : Nat} {F : List Nat} (q : Inv l M a F) : F.length ≤ 13 := nodup_bound 13 F q.nodup q.le12
theorem Inv.snoc {l : List S41} {M a : Nat} {F : List Nat} (q : Inv l M a F) {x : Nat} (hx : x ∉ F) (h12 : x < 13) (hr : Hangs l.length (kA l) (kB l) M a x) : Inv l M a (F ++ [x]) := by
  refine ⟨?_, fun y hy => ?_, fun y hy => ?_⟩
  · rw [List.nodup_append]
    refine ⟨q.nodup, by simp, fun y hy z hz => ?_⟩
    have : z = x := by simpa using hz
    subst this
    exact fun e => hx (e ▸ hy)
  · rcases List.mem_append.1 hy with hy | hy
    · exact q.le12 y hy
    · have : y = x := by simpa using hy
      subst this; exact h12
  · rcases List.mem_append.1 hy with hy | hy
    · exact q.ok y hy
    · have : y = x := by simpa using hy
      subst this; exact hr
include h
theorem knots_in (kk v : Nat) : ∀ (d i : Nat) (F : List Nat), i + d = l.length → Inv l M a F → ∀ hk : kk < F.length, F[kk] = v →
    ∃ F' : List Nat, Inv l M a F' ∧ F <+: F' ∧ (∀ j, i ≤ j → j < l.length → M.testBit j = true → (kA l j = v → kB l j ∈ F') ∧ (kB l j = v → kA l j ∈ F')) ∧
      ∀ r, Ev (fun k => spec_grKnots.l0 k l (bl l.length M) (cz F') ((kk + 1 : Nat) : Int)) r → Ev (fun k => spec_grKnots.l1 k l (bl l.length M) (cz F) (kk : Int) l (l.length : Int) (i : Int)) r := by
  have hlen := h.len
  intro d
  induction d with
  | zero =>
    intro i F hi q hk hv
    have c : ¬ (i : Int) < (l.length : Int) := by omega
    have hkk := q.len
    have hw : wrap64 ((kk : Int) + 1) = ((kk + 1 : Nat) : Int) := wsucc kk (by omega)
    refine ⟨F, q, List.prefix_refl _, fun j h1 h2 => by clear hw; omega, fun r he => Ev.step (fun k => ?_) he⟩
    simp only [spec_grKnots.l1, if_neg c, hw]
  | succ d ih =>
    intro i F hi q hk hv
    have hq := q.len
    have g1 : (i : Int) < (l.length : Int) := by omega
    have g2 : (0 : Int) ≤ (i : Int) := Int.natCast_nonneg _
    have hil : i < l.length := by omega
    have g3 : (i : Int) < ((bl l.length M).length : Int) := by rw [bl_length]; exact g1
    have g4 : (0 : Int) ≤ (kk : Int) := Int.natCast_nonneg _
    have g5 : (kk : Int) < ((cz F).length : Int) := by rw [cz_length]; omega
    have g6 : (cz F).length < 17592186044416 := by rw [cz_length]; omega
    have hbl := bl_rd l.length M i hil
    have hrv : rd (cz F) (kk : Int) = (v : Int) := by rw [cz_rd F kk hk, hv]
    have hvF : v ∈ F := by rw [← hv]; exact List.getElem_mem hk
    have hw : wrap64 ((i : Int) + 1) = ((i + 1 : Nat) : Int) := wsucc i (by omega)
    cases hm : M.testBit i with
    | false =>
      obtain ⟨F', p1, p2, p3, p4⟩ := ih (i + 1) F (by clear hw; omega) q hk hv
      refine ⟨F', p1, p2, fun j h1 h2 h3 => ?_, fun r he => Ev.step (fun k => ?_) (p4 r he)⟩
      · by_cases e : j = i
        · subst e; rw [hm] at h3; cases h3
        · exact p3 j (by clear hw; omega) h2 h3
      · simp only [spec_grKnots.l1, if_pos g1, if_pos g2, if_pos g3, hbl, hm, Bool.false_eq_true, if_false, hw]
    | true =>
      have hb13 : kB l i < 13 := by have := h.B12 i; clear hw; omega
      have ha13 : kA l i < 13 := by have := h.A12 i; clear hw; omega
      -- what is done with the twig: the list behind it, and that the walk goes on from there
      have key : ∃ F1 : List Nat, Inv l M a F1 ∧ F <+: F1 ∧ (kA l i = v → kB l i ∈ F1) ∧ (kB l i = v → kA l i ∈ F1) ∧
          ∀ r, Ev (fun k => spec_grKnots.l1 k l (bl l.length M) (cz F1) (kk : Int) l (l.length : Int) ((i + 1 : Nat) : Int)) r → Ev (fun k => spec_grKnots.l1 k l (bl l.length M) (cz F) (kk : Int) l (l.length : Int) (i : Int)) r := by
        have hasB := has_ev F (kB l i) (by clear hw; omega)
        have hasA := has_ev F (kA l i) (by clear hw; omega)
        by_cases eA : kA l i = v
        · have eA' : ((kA l i : Nat) : Int) = (v : Int) := by rw [eA]
          by_cases mB : kB l i ∈ F
          · -- nothing new
            refine ⟨F, q, List.prefix_refl _, fun _ => mB, fun _ => eA ▸ hvF, fun r he => Ev.step (f := ?fu1) (fun k => ?eu1) ?vu1⟩
            case eu1 => conv => lhs; simp only [spec_grKnots.l1, if_pos g1, if_pos g2, if_pos g3, hbl, hm, if_true, if_pos g4, if_pos g5, hrv, h.fA, h.fB, if_pos eA']
            case vu1 =>
              refine Ev.bind hasB ?_
              rw [decide_eq_true mB]
              by_cases eB : kB l i = v
              · have eB' : ((kB l i : Nat) : Int) = (v : Int) := by rw [eB]
                refine Ev.step (f := ?f2u2) (fun k => ?e2u2) ?v2u2
                case e2u2 => conv => lhs; simp only [spec_grKnots.j2, Bool.not_true, Bool.false_eq_true, if_false, if_pos g4, if_pos g5, hrv, if_pos eB']
                case v2u2 =>
                  refine Ev.bind hasA ?_
                  rw [decide_eq_true (eA ▸ hvF)]
                  simp only [if_true, hw]
                  exact he
              · have eB' : ¬ ((kB l i : Nat) : Int) = (v : Int) := by clear hw; omega
                refine Ev.step (fun k => ?_) he
                simp only [spec_grKnots.j2, Bool.not_true, Bool.false_eq_true, if_false, if_pos g4, if_pos g5, hrv, if_neg eB', hw]
          · have nB : kB l i ≠ v := fun e => mB (e ▸ hvF)
            have eB' : ¬ ((kB l i : Nat) : Int) = (v : Int) := by clear hw; omega
            have hr : Hangs l.length (kA l) (kB l) M a (kB l i) := .up hil hm (eA ▸ q.ok v hvF)
            have q1 := q.snoc mB hb13 hr
            have g5' : (kk : Int) < ((cz (F ++ [kB l i])).length : Int) := by rw [cz_length, List.length_append]; clear hw; omega
            have hrv' : rd (cz (F ++ [kB l i])) (kk : Int) = (v : Int) := by
              rw [cz_rd _ kk (by rw [List.length_append]; clear hw; omega), List.getElem_append_left hk, hv]
            refine ⟨F ++ [kB l i], q1, List.prefix_append _ _, fun _ => by simp, fun e => absurd e nB, fun r he => Ev.step (f := ?fu3) (fun k => ?eu3) ?vu3⟩
            case eu3 => conv => lhs; simp only [spec_grKnots.l1, if_pos g1, if_pos g2, if_pos g3, hbl, hm, if_true, if_pos g4, if_pos g5, hrv, h.fA, h.fB, if_pos eA']
            case vu3 =>
              refine Ev.bind hasB ?_
              rw [decide_eq_false mB]
              refine Ev.step (fun k => ?_) he
              simp only [spec_grKnots.j2, Bool.not_false, if_true, if_pos g6, cz_snoc, Option.bind_some, if_pos g4, if_pos g5', hrv', if_neg eB', hw]
        · have eA' : ¬ ((kA l i : Nat) : Int) = (v : Int) := by clear hw; omega
          by_cases eB : kB l i = v
          · have eB' : ((kB l i : Nat) : Int) = (v : Int) := by rw [eB]
            by_cases mA : kA l i ∈ F
            · refine ⟨F, q, List.prefix_refl _, fun e => absurd e eA, fun _ => mA, fun r he => Ev.step (f := ?fu4) (fun k => ?eu4) ?vu4⟩
              case eu4 => conv => lhs; simp only [spec_grKnots.l1, if_pos g1, if_pos g2, if_pos g3, hbl, hm, if_true, if_pos g4, if_pos g5, hrv, h.fA, h.fB, if_neg eA']
              case vu4 =>
                refine Ev.step (f := ?f2u5) (fun k => ?e2u5) ?v2u5
                case e2u5 => conv => lhs; simp only [spec_grKnots.j2, Bool.false_eq_true, if_false, if_pos g4, if_pos g5, hrv, if_pos eB']
                case v2u5 =>
                  refine Ev.bind hasA ?_
                  rw [decide_eq_true mA]
                  simp only [if_true, hw]
                  exact he
            · have hr : Hangs l.length (kA l) (kB l) M a (kA l i) := .down hil hm (eB ▸ q.ok v hvF)
              refine ⟨F ++ [kA l i], q.snoc mA ha13 hr, List.prefix_append _ _, fun e => absurd e eA, fun _ => by simp, fun r he => Ev.step (f := ?fu6) (fun k => ?eu6) ?vu6⟩
              case eu6 => conv => lhs; simp only [spec_grKnots.l1, if_pos g1, if_pos g2, if_pos g3, hbl, hm, if_true, if_pos g4, if_pos g5, hrv, h.fA, h.fB, if_neg eA']
              case vu6 =>
                refine Ev.step (f := ?f2u7) (fun k => ?e2u7) ?v2u7
                case e2u7 => conv => lhs; simp only [spec_grKnots.j2, Bool.false_eq_true, if_false, if_pos g4, if_pos g5, hrv, if_pos eB']
                case v2u7 =>
                  refine Ev.bind hasA ?_
                  rw [decide_eq_false mA]
                  simp only [Bool.false_eq_true, if_false, if_pos g6, cz_snoc, hw]
                  exact he
          · have eB' : ¬ ((kB l i : Nat) : Int) = (v : Int) := by clear hw; omega
            refine ⟨F, q, List.prefix_refl _, fun e => absurd e eA, fun e => absurd e eB, fun r he => Ev.step (f := ?fu8) (fun k => ?eu8) ?vu8⟩
            case eu8 => conv => lhs; simp only [spec_grKnots.l1, if_pos g1, if_pos g2, if_pos g3, hbl, hm, if_true, if_pos g4, if_pos g5, hrv, h.fA, h.fB, if_neg eA']
            case vu8 =>
              refine Ev.step (fun k => ?_) he
              simp only [spec_grKnots.j2, Bool.false_eq_true, if_false, if_pos g4, if_pos g5, hrv, if_neg eB', hw]
      obtain ⟨F1, q1, pre, d1, d2, next⟩ := key
      have hk1 : kk < F1.length := Nat.lt_of_lt_of_le hk pre.length_le
      have hv1 : F1[kk] = v := by
        obtain ⟨t, rfl⟩ := pre
        rw [List.getElem_append_left hk, hv]
      obtain ⟨F', p1, p2, p3, p4⟩ := ih (i + 1) F1 (by clear hw; omega) q1 hk1 hv1
      refine ⟨F', p1, pre.trans p2, fun j h1 h2 h3 => ?_, fun r he => next r (p4 r he)⟩
      by_cases e : j = i
      · subst e; exact ⟨fun e => p2.subset (d1 e), fun e => p2.subset (d2 e)⟩
      · exact p3 j (by clear hw; omega) h2 h3
theorem knots_out : ∀ (d kk : Nat) (F : List Nat), kk + d = 13 → Inv l M a F → a ∈ F → kk ≤ F.length →
    (∀ m, m < kk → ∀ hm : m < F.length, ∀ j, j < l.length → M.testBit j = true → (kA l j = F[m] → kB l j ∈ F) ∧ (kB l j = F[m] → kA l j ∈ F)) →
    ∃ R : List Nat, Ev (fun k => spec_grKnots.l0 k l (bl l.length M) (cz F) (kk : Int)) (cz R) ∧ R.length ≤ 13 ∧ ∀ x, x ∈ R ↔ Hangs l.length (kA l) (kB l) M a x := by
  have stop : ∀ (kk : Nat) (F : List Nat), Inv l M a F → a ∈ F → kk = F.length →
      (∀ m, m < kk → ∀ hm : m < F.length, ∀ j, j < l.length → M.testBit j = true → (kA l j = F[m] → kB l j ∈ F) ∧ (kB l j = F[m] → kA l j ∈ F)) →
      ∃ R : List Nat, Ev (fun k => spec_grKnots.l0 k l (bl l.length M) (cz F) (kk : Int)) (cz R) ∧ R.length ≤ 13 ∧ ∀ x, x ∈ R ↔ Hangs l.length (kA l) (kB l) M a x := by
    intro kk F q ha hk hd
    have c : ¬ (kk : Int) < ((cz F).length : Int) := by rw [cz_length]; omega
    refine ⟨F, Ev.step (fun k => ?_) (Ev.now _), q.len, fun x => ⟨q.ok x, fun hx => ?_⟩⟩
    · simp only [spec_grKnots.l0, if_neg c]
    · induction hx with
      | here => exact ha
      | up hi hM _ ih =>
        obtain ⟨m, hm, e⟩ := List.mem_iff_getElem.1 ih
        exact (hd m (by omega) hm _ hi hM).1 e.symm
      | down hi hM _ ih =>
        obtain ⟨m, hm, e⟩ := List.mem_iff_getElem.1 ih
        exact (hd m (by omega) hm _ hi hM).2 e.symm
  intro d
  induction d with
  | zero =>
    intro kk F hk q ha hkl hd
    have := q.len
    exact stop kk F q ha (by omega) hd
  | succ d ih =>
    intro kk F hk q ha hkl hd
    by_cases hlt : kk < F.length
    · have g : (kk : Int) < ((cz F).length : Int) := by rw [cz_length]; omega
      obtain ⟨F', p1, p2, p3, p4⟩ := knots_in l h M a kk F[kk] l.length 0 F (by omega) q hlt rfl
      have hl' := p2.length_le
      obtain ⟨R, r1, r2⟩ := ih (kk + 1) F' (by omega) p1 (p2.subset ha) (by omega) (fun m hm hm' j hj hM => by
        obtain ⟨t, rfl⟩ := p2
        by_cases e : m = kk
        · subst e
          rw [List.getElem_append_left hlt]
          exact p3 j (Nat.zero_le _) hj hM
        · have hmF : m < F.length := by omega
          rw [List.getElem_append_left hmF]
          have := hd m (by omega) hmF j hj hM
          exact ⟨fun e => List.mem_append_left _ (this.1 e), fun e => List.mem_append_left _ (this.2 e)⟩)
      refine ⟨R, Ev.step (fun k => ?_) (p4 _ r1), r2⟩
      simp only [spec_grKnots.l0, if_pos g]
      rfl
    · exact stop kk F q ha (by omega) hd
theorem knots_ev (ha : a < 13) : ∃ R : List Nat, Ev (fun k => spec_grKnots.f k l (bl l.length M) (a : Int)) (cz R) ∧ R.length ≤ 13 ∧ ∀ x, x ∈ R ↔ Hangs l.length (kA l) (kB l) M a x :=
  knots_out l h M a 13 0 [a] (by omega)
    ⟨by simp, fun x hx => (show x < 13 from by rw [List.mem_singleton.1 hx]; exact ha), fun x hx => (by rw [List.mem_singleton.1 hx]; exact .here)⟩ (by simp) (by simp) (fun m hm => by omega)
end

/-! ### the same by lists of bools; what is chosen -/
theorem bl_succ (n M : Nat) : bl (n + 1) M = bl n M ++ [M.testBit n] := by simp [bl, List.range_succ]
theorem ground_l (l : List S41) (h : Ok l) (M : Nat) (R : List Nat) (hR : R.length ≤ 13) (hm : ∀ x, x ∈ R ↔ Hangs l.length (kA l) (kB l) M 0 x) : ∀ (d i : Nat), i + d = l.length →
    Ev (fun k => spec_grGround.l0 k (bl l.length M) (cz R) (bl i (gm l M)) l (l.length : Int) (i : Int)) (bl l.length (gm l M)) := by
  have hlen := h.len
  intro d
  induction d with
  | zero =>
    intro i hi
    have c : ¬ (i : Int) < (l.length : Int) := by omega
    have e : i = l.length := by omega
    subst e
    refine Ev.step (fun k => ?_) (Ev.now _)
    simp only [spec_grGround.l0, if_neg c]
  | succ d ih =>
    intro i hi
    have g1 : (i : Int) < (l.length : Int) := by omega
    have g2 : (0 : Int) ≤ (i : Int) := Int.natCast_nonneg _
    have hil : i < l.length := by omega
    have g3 : (i : Int) < ((bl l.length M).length : Int) := by rw [bl_length]; exact g1
    have g4 : (bl i (gm l M)).length < 140737488355328 := by rw [bl_length]; omega
    have hbl := bl_rd l.length M i hil
    have hw : wrap64 ((i : Int) + 1) = ((i + 1 : Nat) : Int) := wsucc i (by omega)
    have hg : (gm l M).testBit i = (M.testBit i && reachB l.length (kA l) (kB l) M 0 (kA l i)) := by
      rw [gm, mk_bit, decide_eq_true hil, Bool.true_and]
    have next := ih (i + 1) (by clear hw; omega)
    rw [bl_succ, hg] at next
    cases hM : M.testBit i with
    | false =>
      rw [hM, Bool.false_and] at next
      refine Ev.step (fun k => ?_) next
      simp only [spec_grGround.l0, if_pos g1, if_pos g2, if_pos g3, hbl, hM, Bool.false_eq_true, if_false, if_pos g4, hw]
    | true =>
      rw [hM, Bool.true_and] at next
      have hb : reachB l.length (kA l) (kB l) M 0 (kA l i) = decide (kA l i ∈ R) := by
        cases q : reachB l.length (kA l) (kB l) M 0 (kA l i) with
        | true => exact (decide_eq_true ((hm _).2 (reachB_iff.1 q))).symm
        | false =>
          refine (decide_eq_false fun z => ?_).symm
          have := reachB_iff.2 ((hm _).1 z)
          rw [q] at this
          cases this
      rw [hb] at next
      refine Ev.step (f := ?fu1) (fun k => ?eu1) ?vu1
      case eu1 => conv => lhs; simp only [spec_grGround.l0, if_pos g1, if_pos g2, if_pos g3, hbl, hM, if_true, h.fA, if_pos g4, hw]
      case vu1 => exact Ev.bind (has_ev R (kA l i) (by clear hw; omega)) next
theorem ground_ev (l : List S41) (h : Ok l) (M : Nat) : Ev (fun k => spec_grGround.f k l (bl l.length M)) (bl l.length (gm l M)) := by
  obtain ⟨R, r1, r2, r3⟩ := knots_ev l h M 0 (by decide)
  unfold spec_grGround.f
  exact Ev.bind r1 (ground_l l h M R r2 r3 l.length 0 (by omega))
/-- All twigs. -/
def am (n : Nat) : Nat := mk n fun _ => true
theorem all_l (n : Nat) (hn : n ≤ 14) : ∀ (d i : Nat), i + d = n → Ev (fun k => spec_grAll.l0 k (bl i (am n)) (n : Int) (i : Int)) (bl n (am n)) := by
  intro d
  induction d with
  | zero =>
    intro i hi
    have c : ¬ (i : Int) < (n : Int) := by omega
    have e : i = n := by omega
    subst e
    refine Ev.step (fun k => ?_) (Ev.now _)
    simp only [spec_grAll.l0, if_neg c]
  | succ d ih =>
    intro i hi
    have g1 : (i : Int) < (n : Int) := by omega
    have g4 : (bl i (am n)).length < 140737488355328 := by rw [bl_length]; omega
    have hg : (am n).testBit i = true := by rw [am, mk_bit, decide_eq_true (by omega)]; rfl
    have next := ih (i + 1) (by omega)
    rw [bl_succ, hg] at next
    have hw : wrap64 ((i : Int) + 1) = ((i + 1 : Nat) : Int) := wsucc i (by omega)
    refine Ev.step (fun k => ?_) next
    simp only [spec_grAll.l0, if_pos g1, if_pos g4, hw]
theorem specAll_ev (l : List S41) (h : Ok l) : Ev (fun k => spec_grAll.f k l) (bl l.length (am l.length)) := all_l l.length h.len l.length 0 (by omega)
theorem am_eq (n : Nat) : am n = 2 ^ n - 1 := by
  apply bits_ext
  intro j
  rw [am, mk_bit, Bool.and_true, Nat.testBit_two_pow_sub_one]
theorem implAll (l : List S41) (h : Ok l) : impl_all.f l = some ((am l.length : Nat) : Int) := by
  have hlen := h.len
  have hp : 2 ^ l.length ≤ 2 ^ 14 := Nat.pow_le_pow_right (by decide) hlen
  have h1 : 1 ≤ 2 ^ l.length := Nat.two_pow_pos _
  unfold impl_all.f
  rw [shl_one l.length (by omega), am_eq]
  congr 1
  have e : ((2 ^ l.length : Nat) : Int) - 1 = ((2 ^ l.length - 1 : Nat) : Int) := by omega
  rw [e]
  exact u64_small _ (by omega)
theorem am_lt (n : Nat) (h : n ≤ 14) : am n < 2 ^ 64 := Nat.lt_of_lt_of_le (mk_lt _ _) (Nat.pow_le_pow_right (by decide) (by omega))
theorem gm_lt (l : List S41) (h : Ok l) (M : Nat) : gm l M < 2 ^ 64 := Nat.lt_of_lt_of_le (mk_lt _ _) (Nat.pow_le_pow_right (by decide) (by have := h.len; omega))

/-! ### a twig is cut -/
theorem bl_set (n M c i : Nat) (hc : ∀ j, c.testBit j = (M.testBit j && !decide (j = i))) : (bl n M).set i false = bl n c := by
  apply List.ext_getElem?
  intro j
  rw [List.getElem?_set]
  by_cases e : i = j
  · subst e
    rw [if_pos rfl, bl_length]
    by_cases h : i < n
    · rw [if_pos h]
      simp [bl, h, hc]
    · rw [if_neg h, List.getElem?_eq_none (by rw [bl_length]; omega)]
  · rw [if_neg e]
    have : ¬ j = i := fun q => e q.symm
    by_cases hj : j < n
    · simp [bl, hc, this, hj]
    · rw [List.getElem?_eq_none (by rw [bl_length]; omega), List.getElem?_eq_none (by rw [bl_length]; omega)]
theorem minus_u (M i : Nat) (hM : M < 2 ^ 64) (hi : i < 64) : ∃ c : Nat, bits .andNot .u64 (M : Int) (shl .u64 1 (i : Int)) = (c : Int) ∧ c < 2 ^ 64 ∧ ∀ j, c.testBit j = (M.testBit j && !decide (j = i)) := by
  obtain ⟨c, h1, h2, h3⟩ := andNot_u M (2 ^ i) hM
  refine ⟨c, by rw [shl_one i hi]; exact h1, h2, fun j => ?_⟩
  rw [h3, Nat.testBit_two_pow]
  congr 2
  exact decide_eq_decide.2 ⟨fun h => h.symm, fun h => h.symm⟩

/-! ### what hangs together with a knot, by bits -/
section
variable (l : List S41) (h : Ok l) (M a : Nat) (hM : M < 2 ^ 64)
include h hM
theorem hung_in : ∀ (d i S : Nat), i + d = l.length → S < 2 ^ 13 → (∀ x, S.testBit x = true → Hangs l.length (kA l) (kB l) M a x) →
    ∃ S' : Nat, S' < 2 ^ 13 ∧ Rnd l.length (kA l) (kB l) M a i S S' ∧
      ∀ (T c r : Int), Ev (fun k => impl_hung.l0 k l (M : Int) (S' : Int) T (wrap64 (c + 1))) r → Ev (fun k => impl_hung.l1 k l (M : Int) (S : Int) T c l (l.length : Int) (i : Int)) r := by
  have hlen := h.len
  intro d
  induction d with
  | zero =>
    intro i S hi hS hr
    have c : ¬ (i : Int) < (l.length : Int) := by omega
    refine ⟨S, hS, rnd_end (by omega) hr, fun T c' r he => Ev.step (fun k => ?_) he⟩
    simp only [impl_hung.l1, if_neg c]
  | succ d ih =>
    intro i S hi hS hr
    have g1 : (i : Int) < (l.length : Int) := by omega
    have g2 : (0 : Int) ≤ (i : Int) := Int.natCast_nonneg _
    have hil : i < l.length := by omega
    have gA : (0 : Int) ≤ (kA l i : Int) := Int.natCast_nonneg _
    have gB : (0 : Int) ≤ (kB l i : Int) := Int.natCast_nonneg _
    have hA := h.A12 i
    have hB := h.B12 i
    have hS64 : S < 2 ^ 64 := Nat.lt_trans hS (by decide)
    have bM := bit1 M i hM (by omega)
    have bA := bit1 S (kA l i) hS64 (by omega)
    have bB := bit1 S (kB l i) hS64 (by omega)
    have aS := add_u S (kA l i) (kB l i) hS64 (by omega) (by omega)
    have hw : wrap64 ((i : Int) + 1) = ((i + 1 : Nat) : Int) := wsucc i (by omega)
    cases hm : M.testBit i with
    | false =>
      obtain ⟨S', p1, p3, p7⟩ := ih (i + 1) S (by clear hw; omega) hS hr
      refine ⟨S', p1, rnd_skip p3 (fun q => by rw [hm] at q; cases q), fun T c r he => Ev.step (fun k => ?_) (p7 T c r he)⟩
      simp only [impl_hung.l1, if_pos g1, if_pos g2, bM, hm, Bool.false_eq_true, if_false, hw]
    | true =>
      by_cases ht : S.testBit (kA l i) = true ∨ S.testBit (kB l i) = true
      · obtain ⟨S', p1, p3, p7⟩ := ih (i + 1) (S ||| (2 ^ kA l i ||| 2 ^ kB l i)) (by clear hw; omega) (or13 hS hA hB) (add_ok hil hm ht hr)
        refine ⟨S', p1, rnd_add hil hm ht p3, fun T c r he => Ev.step (fun k => ?_) (p7 T c r he)⟩
        cases hx : S.testBit (kA l i) with
        | true => simp only [impl_hung.l1, if_pos g1, if_pos g2, bM, hm, if_true, h.fA, h.fB, if_pos gA, if_pos gB, bA, hx, aS, hw]
        | false =>
          have hy : S.testBit (kB l i) = true := ht.resolve_left (by rw [hx]; simp)
          simp only [impl_hung.l1, if_pos g1, if_pos g2, bM, hm, if_true, h.fA, h.fB, if_pos gA, if_pos gB, bA, hx, bB, hy, Bool.false_eq_true, if_false, aS, hw]
      · obtain ⟨S', p1, p3, p7⟩ := ih (i + 1) S (by clear hw; omega) hS hr
        refine ⟨S', p1, rnd_skip p3 (fun _ => ht), fun T c r he => Ev.step (fun k => ?_) (p7 T c r he)⟩
        have hx : S.testBit (kA l i) = false := by
          cases q : S.testBit (kA l i)
          · rfl
          · exact absurd (.inl q) ht
        have hy : S.testBit (kB l i) = false := by
          cases q : S.testBit (kB l i)
          · rfl
          · exact absurd (.inr q) ht
        simp only [impl_hung.l1, if_pos g1, if_pos g2, bM, hm, if_true, h.fA, h.fB, if_pos gA, if_pos gB, bA, hx, bB, hy, Bool.false_eq_true, if_false, hw]
/-- The knots that hang together with one. -/
noncomputable def hgk (l : List S41) (M a : Nat) : Nat := mk 13 (reachB l.length (kA l) (kB l) M a)
theorem hung_out : ∀ (d c S : Nat), c + d = l.length → S < 2 ^ 13 → S.testBit a = true → (∀ x, S.testBit x = true → Hangs l.length (kA l) (kB l) M a x) →
    (Closed l.length (kA l) (kB l) M S ∨ c ≤ used l.length (kA l) (kB l) M S) →
    Ev (fun k => impl_hung.l0 k l (M : Int) (S : Int) (l.length : Int) (c : Int)) ((hgk l M a : Nat) : Int) := by
  have hlen := h.len
  intro d
  induction d with
  | zero =>
    intro c S hc hS h0 hr hcl
    have g : ¬ (c : Int) < (l.length : Int) := by omega
    have hcn : Closed l.length (kA l) (kB l) M S := hcl.elim id (fun q => used_full (by omega))
    have e : S = hgk l M a := reach_set hS hcn h0 hr
    rw [← e]
    refine Ev.step (fun k => ?_) (Ev.now _)
    simp only [impl_hung.l0, if_neg g]
  | succ d ih =>
    intro c S hc hS h0 hr hcl
    have g : (c : Int) < (l.length : Int) := by omega
    obtain ⟨S', p1, p3, p7⟩ := hung_in l h M a hM l.length 0 S (by omega) hS hr
    refine Ev.step (fun k => ?_) (p7 (l.length : Int) (c : Int) _ ?_)
    · simp only [impl_hung.l0, if_pos g]
      rfl
    · rw [wsucc c (by omega)]
      exact ih (c + 1) S' (by omega) p1 (p3.sub _ h0) p3.ok (rnd_round p3 h0 hcl)
theorem hung_ev (ha : a < 13) : Ev (fun k => impl_hung.f k l (M : Int) (a : Int)) ((hgk l M a : Nat) : Int) := by
  unfold impl_hung.f
  simp only [if_pos (Int.natCast_nonneg a), shl_one a (by omega)]
  refine hung_out l h M a hM l.length 0 (2 ^ a) (by omega) (Nat.pow_lt_pow_right (by decide) ha) (Nat.testBit_two_pow_self) (fun x hx => ?_) (.inr (Nat.zero_le _))
  have e : x = a := by
    rw [Nat.testBit_two_pow] at hx
    exact (of_decide_eq_true hx).symm
  subst e
  exact .here
end
theorem hm_lt (l : List S41) (M a : Nat) : hgk l M a < 2 ^ 64 := Nat.lt_of_lt_of_le (mk_lt _ _) (Nat.pow_le_pow_right (by decide) (by decide))
theorem hm_bit (l : List S41) (M a x : Nat) (hx : x < 13) : (hgk l M a).testBit x = reachB l.length (kA l) (kB l) M a x := by
  rw [hgk, mk_bit, decide_eq_true hx, Bool.true_and]

/-! ### bridges -/
/-- A set without one. -/
def mn (M i : Nat) : Nat := mk 64 fun j => M.testBit j && !decide (j = i)
theorem mn_bit (M i : Nat) (hM : M < 2 ^ 64) (j : Nat) : (mn M i).testBit j = (M.testBit j && !decide (j = i)) := by
  rw [mn, mk_bit]
  by_cases hj : j < 64
  · rw [decide_eq_true hj, Bool.true_and]
  · have : M.testBit j = false := Nat.testBit_lt_two_pow (Nat.lt_of_lt_of_le hM (Nat.pow_le_pow_right (by decide) (by omega)))
    rw [decide_eq_false hj, this]; rfl
theorem mn_lt (M i : Nat) : mn M i < 2 ^ 64 := mk_lt _ _
theorem minus_mn (M i : Nat) (hM : M < 2 ^ 64) (hi : i < 64) : bits .andNot .u64 (M : Int) (shl .u64 1 (i : Int)) = ((mn M i : Nat) : Int) := by
  obtain ⟨c, h1, _, h3⟩ := minus_u M i hM hi
  rw [h1]
  congr 1
  apply bits_ext
  intro j
  rw [h3, mn_bit M i hM]
/-- Is a twig of a set a bridge. -/
noncomputable def isB (l : List S41) (G i : Nat) : Bool := G.testBit i && !reachB l.length (kA l) (kB l) (mn G i) (kA l i) (kB l i)
noncomputable def bm (l : List S41) (G : Nat) : Nat := mk l.length (isB l G)
theorem bridge_ev (l : List S41) (h : Ok l) (G i : Nat) (hG : G < 2 ^ 64) (hi : i < l.length) : Ev (fun k => spec_grBridge.f k l (bl l.length G) (i : Int)) (!reachB l.length (kA l) (kB l) (mn G i) (kA l i) (kB l i)) := by
  have hlen := h.len
  have hA := h.A12 i
  have hB := h.B12 i
  obtain ⟨R, r1, r2, r3⟩ := knots_ev l h (mn G i) (kA l i) (by omega)
  have g1 : ([] : List Bool).length + (bl l.length G).length < 140737488355328 := by rw [bl_length]; simp; omega
  have g2 : (0 : Int) ≤ (i : Int) := Int.natCast_nonneg _
  have g3 : (i : Int) < (([] ++ bl l.length G : List Bool).length : Int) := by rw [List.nil_append, bl_length]; omega
  have g4 : (i : Int) < (l.length : Int) := by omega
  have hb : reachB l.length (kA l) (kB l) (mn G i) (kA l i) (kB l i) = decide (kB l i ∈ R) := by
    cases q : reachB l.length (kA l) (kB l) (mn G i) (kA l i) (kB l i) with
    | true => exact (decide_eq_true ((r3 _).2 (reachB_iff.1 q))).symm
    | false =>
      refine (decide_eq_false fun z => ?_).symm
      have := reachB_iff.2 ((r3 _).1 z)
      rw [q] at this
      cases this
  unfold spec_grBridge.f
  simp only [Option.bind_some, if_pos g1, if_pos g2, if_pos g3, if_pos g4, h.fA, h.fB]
  rw [List.nil_append, Int.toNat_natCast, bl_set l.length G (mn G i) i (mn_bit G i hG), hb]
  exact Ev.bind r1 (Ev.bind (has_ev R (kB l i) (by omega)) (Ev.now _))
theorem specBridges_l (l : List S41) (h : Ok l) (G : Nat) (hG : G < 2 ^ 64) : ∀ (d i : Nat), i + d = l.length →
    Ev (fun k => spec_grBridges.l0 k l (bl l.length G) (bl i (bm l G)) (l.length : Int) (i : Int)) (bl l.length (bm l G)) := by
  have hlen := h.len
  intro d
  induction d with
  | zero =>
    intro i hi
    have c : ¬ (i : Int) < (l.length : Int) := by omega
    have e : i = l.length := by omega
    subst e
    refine Ev.step (fun k => ?_) (Ev.now _)
    simp only [spec_grBridges.l0, if_neg c]
  | succ d ih =>
    intro i hi
    have g1 : (i : Int) < (l.length : Int) := by omega
    have g2 : (0 : Int) ≤ (i : Int) := Int.natCast_nonneg _
    have hil : i < l.length := by omega
    have g3 : (i : Int) < ((bl l.length G).length : Int) := by rw [bl_length]; exact g1
    have g4 : (bl i (bm l G)).length < 140737488355328 := by rw [bl_length]; omega
    have hbl := bl_rd l.length G i hil
    have hg : (bm l G).testBit i = isB l G i := by rw [bm, mk_bit, decide_eq_true hil, Bool.true_and]
    have next := ih (i + 1) (by omega)
    have hw : wrap64 ((i : Int) + 1) = ((i + 1 : Nat) : Int) := wsucc i (by omega)
    rw [bl_succ, hg, isB] at next
    cases hm : G.testBit i with
    | false =>
      rw [hm, Bool.false_and] at next
      refine Ev.step (fun k => ?_) next
      simp only [spec_grBridges.l0, if_pos g1, if_pos g2, if_pos g3, hbl, hm, Bool.false_eq_true, if_false, if_pos g4, hw]
    | true =>
      rw [hm, Bool.true_and] at next
      refine Ev.step (f := ?gga) (fun k => ?ggb) ?ggc
      case ggb => conv => lhs; simp only [spec_grBridges.l0, if_pos g1, if_pos g2, if_pos g3, hbl, hm, if_true, if_pos g4, hw]
      case ggc => exact Ev.bind (bridge_ev l h G i hG hil) next
theorem specBridges_ev (l : List S41) (h : Ok l) : Ev (fun k => spec_grBridges.f k l) (bl l.length (bm l (gm l (am l.length)))) := by
  unfold spec_grBridges.f
  exact Ev.bind (specAll_ev l h) (Ev.bind (ground_ev l h _) (specBridges_l l h _ (gm_lt l h _) l.length 0 (by omega)))
theorem mk_succ (n : Nat) (f : Nat → Bool) : mk (n + 1) f = mk n f ||| (if f n then 2 ^ n else 0) := rfl
theorem implBridges_l (l : List S41) (h : Ok l) (G : Nat) (hG : G < 2 ^ 64) : ∀ (d i : Nat), i + d = l.length →
    Ev (fun k => impl_bridges.l0 k l (G : Int) ((mk i (isB l G) : Nat) : Int) l (l.length : Int) (i : Int)) ((bm l G : Nat) : Int) := by
  have hlen := h.len
  intro d
  induction d with
  | zero =>
    intro i hi
    have c : ¬ (i : Int) < (l.length : Int) := by omega
    have e : i = l.length := by omega
    subst e
    refine Ev.step (fun k => ?_) (Ev.now _)
    simp only [impl_bridges.l0, if_neg c]
    rfl
  | succ d ih =>
    intro i hi
    have g1 : (i : Int) < (l.length : Int) := by omega
    have g2 : (0 : Int) ≤ (i : Int) := Int.natCast_nonneg _
    have hil : i < l.length := by omega
    have hi64 : i < 64 := by omega
    have hA := h.A12 i
    have hB := h.B12 i
    have gB : (0 : Int) ≤ (kB l i : Int) := Int.natCast_nonneg _
    have bM := bit1 G i hG hi64
    have b0 := bit0 (hgk l (mn G i) (kA l i)) (kB l i) (hm_lt l _ _) (by omega)
    rw [hm_bit l _ _ _ (by omega)] at b0
    have next := ih (i + 1) (by omega)
    have hev := hung_ev l h (mn G i) (kA l i) (mn_lt _ _) (by omega)
    have hlt : mk i (isB l G) < 2 ^ 64 := Nat.lt_of_lt_of_le (mk_lt _ _) (Nat.pow_le_pow_right (by decide) (by omega))
    have aO := add1_u (mk i (isB l G)) i hlt hi64
    have hw : wrap64 ((i : Int) + 1) = ((i + 1 : Nat) : Int) := wsucc i (by omega)
    rw [mk_succ] at next
    cases hm : G.testBit i with
    | false =>
      have hb : isB l G i = false := by rw [isB, hm]; rfl
      rw [hb, if_neg (by decide), Nat.or_zero] at next
      refine Ev.step (fun k => ?_) next
      simp only [impl_bridges.l0, if_pos g1, if_pos g2, bM, hm, Bool.false_eq_true, if_false, hw]
    | true =>
      refine Ev.step (f := ?gga) (fun k => ?ggb) ?ggc
      case ggb => conv => lhs; simp only [impl_bridges.l0, if_pos g1, if_pos g2, bM, hm, if_true, minus_mn G i hG hi64, h.fA, h.fB, if_pos gB, aO, hw]
      case ggc =>
        refine Ev.bind hev ?_
        simp only [b0]
        cases hr : reachB l.length (kA l) (kB l) (mn G i) (kA l i) (kB l i) with
        | false =>
          have hb : isB l G i = true := by rw [isB, hm, hr]; rfl
          rw [hb, if_pos rfl] at next
          simp only [if_true]
          exact next
        | true =>
          have hb : isB l G i = false := by rw [isB, hm, hr]; rfl
          rw [hb, if_neg (by decide), Nat.or_zero] at next
          simp only [Bool.true_eq_false, if_false]
          exact next
theorem implBridges_ev (l : List S41) (h : Ok l) : Ev (fun k => impl_bridges.f k l) ((bm l (gm l (am l.length)) : Nat) : Int) := by
  unfold impl_bridges.f
  simp only [implAll l h, Option.bind_some]
  exact Ev.bind (grounded_ev l h _ (am_lt _ h.len)) (implBridges_l l h _ (gm_lt l h _) l.length 0 (by omega))

/-! ### the value by fusion: both sides go the same way, and the way ends -/
theorem hangs_mono {n : Nat} {A B : Nat → Nat} {M M' a x : Nat} (hs : ∀ j, j < n → M.testBit j = true → M'.testBit j = true) (h : Hangs n A B M a x) : Hangs n A B M' a x := by
  induction h with
  | here => exact .here
  | up hi hM _ ih => exact .up hi (hs _ hi hM) ih
  | down hi hM _ ih => exact .down hi (hs _ hi hM) ih
theorem hangs_trans {n : Nat} {A B : Nat → Nat} {M a b x : Nat} (h1 : Hangs n A B M a b) (h2 : Hangs n A B M b x) : Hangs n A B M a x := by
  induction h2 with
  | here => exact h1
  | up hi hM _ ih => exact .up hi hM ih
  | down hi hM _ ih => exact .down hi hM ih
theorem hangs_symm {n : Nat} {A B : Nat → Nat} {M a x : Nat} (h : Hangs n A B M a x) : Hangs n A B M x a := by
  induction h with
  | here => exact .here
  | up hi hM _ ih => exact hangs_trans (.down hi hM .here) ih
  | down hi hM _ ih => exact hangs_trans (.up hi hM .here) ih
/-- The twigs of a set that are no bridges. -/
def kd (G Q : Nat) : Nat := mk 64 fun j => G.testBit j && !Q.testBit j
theorem kd_bit (G Q : Nat) (hG : G < 2 ^ 64) (j : Nat) : (kd G Q).testBit j = (G.testBit j && !Q.testBit j) := by
  rw [kd, mk_bit]
  by_cases hj : j < 64
  · rw [decide_eq_true hj, Bool.true_and]
  · have : G.testBit j = false := Nat.testBit_lt_two_pow (Nat.lt_of_lt_of_le hG (Nat.pow_le_pow_right (by decide) (by omega)))
    rw [decide_eq_false hj, this]; rfl
theorem kd_lt (G Q : Nat) : kd G Q < 2 ^ 64 := mk_lt _ _
theorem minus_kd (G Q : Nat) (hG : G < 2 ^ 64) : bits .andNot .u64 (G : Int) (Q : Int) = ((kd G Q : Nat) : Int) := by
  obtain ⟨c, h1, _, h3⟩ := andNot_u G Q hG
  rw [h1]
  congr 1
  apply bits_ext
  intro j
  rw [h3, kd_bit G Q hG]
/-- The set without the twig that leads down. -/
def ds (G : Nat) (down : Int) : Nat := if down < 0 then G else mn G down.toNat
theorem ds_bit (G : Nat) (hG : G < 2 ^ 64) (down : Int) (hd : -1 ≤ down) (j : Nat) : (ds G down).testBit j = (G.testBit j && !decide ((j : Int) = down)) := by
  unfold ds
  by_cases h : down < 0
  · have : ¬ (j : Int) = down := by omega
    rw [if_pos h, decide_eq_false this]; simp
  · rw [if_neg h, mn_bit G _ hG]
    congr 2
    exact decide_eq_decide.2 ⟨fun e => by omega, fun e => by omega⟩
/-- How many twigs stand above a knot. -/
noncomputable def mu (l : List S41) (G knot : Nat) (down : Int) : Nat :=
  (List.range l.length).countP fun j => (ds G down).testBit j && reachB l.length (kA l) (kB l) (ds G down) knot (kA l j)
/-- A bridge leads down from the knot, or there is none. -/
def Leads (l : List S41) (G knot : Nat) (down : Int) : Prop := down = -1 ∨ ∃ i : Nat, i < l.length ∧ down = (i : Int) ∧ isB l G i = true ∧ (knot = kA l i ∨ knot = kB l i)
theorem Leads.ge {l : List S41} {G knot : Nat} {down : Int} (h : Leads l G knot down) : -1 ≤ down := by
  rcases h with h | ⟨i, _, h, _⟩ <;> omega
theorem isB_bit {l : List S41} {G i : Nat} (h : isB l G i = true) : G.testBit i = true ∧ ¬ Hangs l.length (kA l) (kB l) (mn G i) (kA l i) (kB l i) := by
  rw [isB, Bool.and_eq_true, Bool.not_eq_true'] at h
  refine ⟨h.1, fun q => ?_⟩
  have := reachB_iff.2 q
  rw [h.2] at this
  cases this
/-- Over a bridge there is less: c is the knot here, c' the one behind the bridge i. -/
theorem mu_less (l : List S41) (G : Nat) (hG : G < 2 ^ 64) (knot : Nat) (down : Int) (hl : Leads l G knot down) (i c c' : Nat) (hi : i < l.length) (hb : isB l G i = true) (hd : (i : Int) ≠ down)
    (hc : (c = kA l i ∧ c' = kB l i) ∨ (c = kB l i ∧ c' = kA l i)) (hk : Hangs l.length (kA l) (kB l) (kd G (bm l G)) knot c) : mu l G c' (i : Int) < mu l G knot down := by
  obtain ⟨hGi, hno⟩ := isB_bit hb
  have bq : ∀ j, j < l.length → (bm l G).testBit j = isB l G j := fun j hj => by rw [bm, mk_bit, decide_eq_true hj, Bool.true_and]
  -- no twig that is kept leads over i, or over the one that leads down
  have k1 : ∀ j, j < l.length → (kd G (bm l G)).testBit j = true → (mn G i).testBit j = true := fun j hj h => by
    rw [kd_bit G _ hG, Bool.and_eq_true, bq j hj] at h
    rw [mn_bit G i hG, h.1, Bool.true_and, Bool.not_eq_true', decide_eq_false_iff_not]
    rintro rfl
    rw [hb] at h
    exact absurd h.2 (by decide)
  have k2 : ∀ j, j < l.length → (kd G (bm l G)).testBit j = true → (ds G down).testBit j = true := fun j hj h => by
    rw [kd_bit G _ hG, Bool.and_eq_true, bq j hj] at h
    rw [ds_bit G hG down hl.ge, h.1, Bool.true_and, Bool.not_eq_true', decide_eq_false_iff_not]
    intro e
    rcases hl with hl | ⟨t, ht, e2, hbt, _⟩
    · omega
    · have : j = t := by omega
      subst this
      rw [hbt] at h
      exact absurd h.2 (by decide)
  have hdi : (ds G (i : Int)) = mn G i := by unfold ds; rw [if_neg (by omega)]; rfl
  -- from behind the bridge one does not come to the knot
  have far : ¬ Hangs l.length (kA l) (kB l) (mn G i) c' knot := fun q => by
    have w := hangs_trans q (hangs_mono k1 hk)
    rcases hc with ⟨rfl, rfl⟩ | ⟨rfl, rfl⟩
    · exact hno (hangs_symm w)
    · exact hno w
  have other : ∀ x, Hangs l.length (kA l) (kB l) (mn G i) c' x → Hangs l.length (kA l) (kB l) (ds G down) c' x := by
    have ne : ∀ t, t < l.length → (mn G i).testBit t = true → (Hangs l.length (kA l) (kB l) (mn G i) c' (kA l t) ∨ Hangs l.length (kA l) (kB l) (mn G i) c' (kB l t)) → (ds G down).testBit t = true := by
      intro t ht hM hx
      have hMt := hM
      rw [mn_bit G i hG, Bool.and_eq_true] at hM
      rw [ds_bit G hG down hl.ge, hM.1, Bool.true_and, Bool.not_eq_true', decide_eq_false_iff_not]
      intro e
      rcases hl with hl | ⟨s, hs, e2, hbs, hks⟩
      · omega
      · have : t = s := by omega
        subst this
        have both : Hangs l.length (kA l) (kB l) (mn G i) c' (kA l t) ∧ Hangs l.length (kA l) (kB l) (mn G i) c' (kB l t) := by
          rcases hx with hx | hx
          · exact ⟨hx, .up ht hMt hx⟩
          · exact ⟨.down ht hMt hx, hx⟩
        rcases hks with rfl | rfl
        · exact far both.1
        · exact far both.2
    intro x hx
    induction hx with
    | here => exact .here
    | up ht hM hx ih => exact .up ht (ne _ ht hM (.inl hx)) ih
    | down ht hM hx ih => exact .down ht (ne _ ht hM (.inr hx)) ih
  have dsi : (ds G down).testBit i = true := by
    rw [ds_bit G hG down hl.ge, hGi, Bool.true_and, Bool.not_eq_true', decide_eq_false_iff_not]
    exact hd
  have hkc : Hangs l.length (kA l) (kB l) (ds G down) knot c := hangs_mono k2 hk
  have hkA : Hangs l.length (kA l) (kB l) (ds G down) knot (kA l i) := by
    rcases hc with ⟨rfl, _⟩ | ⟨rfl, _⟩
    · exact hkc
    · exact .down hi dsi hkc
  have hkc' : Hangs l.length (kA l) (kB l) (ds G down) knot c' := by
    rcases hc with ⟨_, rfl⟩ | ⟨_, rfl⟩
    · exact .up hi dsi hkA
    · exact hkA
  unfold mu
  rw [hdi]
  refine countP_lt _ (fun j hj hp => ?_) ⟨i, List.mem_range.2 hi, ?_, ?_⟩
  · rw [Bool.and_eq_true] at hp ⊢
    have hjl := List.mem_range.1 hj
    have hx := reachB_iff.1 hp.2
    refine ⟨?_, reachB_iff.2 (hangs_trans hkc' (other _ hx))⟩
    have hM := hp.1
    rw [mn_bit G i hG, Bool.and_eq_true] at hM
    rw [ds_bit G hG down hl.ge, hM.1, Bool.true_and, Bool.not_eq_true', decide_eq_false_iff_not]
    intro e
    rcases hl with hl | ⟨s, hs, e2, hbs, hks⟩
    · omega
    · have : j = s := by omega
      subst this
      have both : Hangs l.length (kA l) (kB l) (mn G i) c' (kA l j) ∧ Hangs l.length (kA l) (kB l) (mn G i) c' (kB l j) := ⟨hx, .up hjl hp.1 hx⟩
      rcases hks with rfl | rfl
      · exact far both.1
      · exact far both.2
  · rw [mn_bit G i hG]
    simp
  · rw [Bool.and_eq_true]
    exact ⟨dsi, reachB_iff.2 hkA⟩

section
variable (l : List S41) (h : Ok l) (G : Nat) (hG : G < 2 ^ 64)
include h hG
theorem inside_l (knot : Nat) (from_ : Int) (R : List Nat) (res : Int) (hR : Ev (fun k => spec_grKnots.f k l (bl l.length (kd G (bm l G))) (knot : Int)) (cz R))
    (next : Ev (fun k => spec_grFused.l1 k l (bl l.length G) (bl l.length (bm l G)) from_ (cz R) 0 l (l.length : Int) 0) res) : ∀ (d i : Nat), i + d = l.length →
    Ev (fun k => spec_grFused.l0 k l (bl l.length G) (bl l.length (bm l G)) (knot : Int) from_ (bl i (kd G (bm l G))) (l.length : Int) (i : Int)) res := by
  have hlen := h.len
  intro d
  induction d with
  | zero =>
    intro i hi
    have c : ¬ (i : Int) < (l.length : Int) := by omega
    have e : i = l.length := by omega
    subst e
    refine Ev.step (f := ?gga) (fun k => ?ggb) ?ggc
    case ggb => conv => lhs; simp only [spec_grFused.l0, if_neg c]
    case ggc => exact Ev.bind hR next
  | succ d ih =>
    intro i hi
    have g1 : (i : Int) < (l.length : Int) := by omega
    have g2 : (0 : Int) ≤ (i : Int) := Int.natCast_nonneg _
    have hil : i < l.length := by omega
    have g3 : (i : Int) < ((bl l.length G).length : Int) := by rw [bl_length]; exact g1
    have g3' : (i : Int) < ((bl l.length (bm l G)).length : Int) := by rw [bl_length]; exact g1
    have g4 : (bl i (kd G (bm l G))).length < 140737488355328 := by rw [bl_length]; omega
    have hb1 := bl_rd l.length G i hil
    have hb2 := bl_rd l.length (bm l G) i hil
    have nx := ih (i + 1) (by omega)
    have hw : wrap64 ((i : Int) + 1) = ((i + 1 : Nat) : Int) := wsucc i (by omega)
    rw [bl_succ, kd_bit G _ hG] at nx
    cases hm : G.testBit i with
    | false =>
      rw [hm, Bool.false_and] at nx
      refine Ev.step (fun k => ?_) nx
      simp only [spec_grFused.l0, if_pos g1, if_pos g2, if_pos g3, hb1, hm, Bool.false_eq_true, if_false, if_pos g4, hw]
    | true =>
      rw [hm, Bool.true_and] at nx
      refine Ev.step (fun k => ?_) nx
      simp only [spec_grFused.l0, if_pos g1, if_pos g2, if_pos g3, if_pos g3', hb1, hb2, hm, if_true, if_pos g4, hw]
/-- What both sides tell of a knot. -/
def Told (l : List S41) (G knot : Nat) (down r : Int) : Prop :=
  Ev (fun k => impl_fused.f k l (G : Int) ((bm l G : Nat) : Int) (knot : Int) down) r ∧ Ev (fun k => spec_grFused.f k l (bl l.length G) (bl l.length (bm l G)) (knot : Int) down) r
theorem fused_l (knot : Nat) (hk13 : knot < 13) (down : Int) (hl : Leads l G knot down) (R : List Nat) (hR : R.length ≤ 13) (hm : ∀ x, x ∈ R ↔ Hangs l.length (kA l) (kB l) (kd G (bm l G)) knot x)
    (rec : ∀ (i c' : Nat), i < l.length → isB l G i = true → (c' = kA l i ∨ c' = kB l i) → mu l G c' (i : Int) < mu l G knot down → ∃ r, Told l G c' (i : Int) r) : ∀ (d i : Nat) (acc : Int), i + d = l.length →
    ∃ r : Int, Ev (fun k => impl_fused.l0 k l (G : Int) ((bm l G : Nat) : Int) down ((hgk l (kd G (bm l G)) knot : Nat) : Int) acc l (l.length : Int) (i : Int)) r ∧
      Ev (fun k => spec_grFused.l1 k l (bl l.length G) (bl l.length (bm l G)) down (cz R) acc l (l.length : Int) (i : Int)) r := by
  have hlen := h.len
  have hQ : bm l G < 2 ^ 64 := Nat.lt_of_lt_of_le (mk_lt _ _) (Nat.pow_le_pow_right (by decide) (by omega))
  intro d
  induction d with
  | zero =>
    intro i acc hi
    have c : ¬ (i : Int) < (l.length : Int) := by omega
    refine ⟨acc, Ev.step (fun k => ?_) (Ev.now _), Ev.step (fun k => ?_) (Ev.now _)⟩
    · simp only [impl_fused.l0, if_neg c]
    · simp only [spec_grFused.l1, if_neg c]
  | succ d ih =>
    intro i acc hi
    have g1 : (i : Int) < (l.length : Int) := by omega
    have g2 : (0 : Int) ≤ (i : Int) := Int.natCast_nonneg _
    have hil : i < l.length := by omega
    have hi64 : i < 64 := by omega
    have g3 : (i : Int) < ((bl l.length G).length : Int) := by rw [bl_length]; exact g1
    have g3' : (i : Int) < ((bl l.length (bm l G)).length : Int) := by rw [bl_length]; exact g1
    have hb1 := bl_rd l.length G i hil
    have hb2 := bl_rd l.length (bm l G) i hil
    have hA := h.A12 i
    have hB := h.B12 i
    have gA : (0 : Int) ≤ (kA l i : Int) := Int.natCast_nonneg _
    have gB : (0 : Int) ≤ (kB l i : Int) := Int.natCast_nonneg _
    have z1 := bit0 G i hG hi64
    have q0 := bit0 (bm l G) i hQ hi64
    have q1 := bit1 (bm l G) i hQ hi64
    have hH := hm_lt l (kd G (bm l G)) knot
    have oA : (bits .and .u64 (shr .u64 ((hgk l (kd G (bm l G)) knot : Nat) : Int) (kA l i : Int)) 1 == 1) = decide (kA l i ∈ R) := by
      rw [bit_u _ _ hH (by omega), hm_bit l _ _ _ (by omega)]
      cases q : reachB l.length (kA l) (kB l) (kd G (bm l G)) knot (kA l i) with
      | true => rw [decide_eq_true ((hm _).2 (reachB_iff.1 q))]; rfl
      | false =>
        rw [decide_eq_false (fun z => by have := reachB_iff.2 ((hm _).1 z); rw [q] at this; cases this)]; rfl
    have oB : (bits .and .u64 (shr .u64 ((hgk l (kd G (bm l G)) knot : Nat) : Int) (kB l i : Int)) 1 == 1) = decide (kB l i ∈ R) := by
      rw [bit_u _ _ hH (by omega), hm_bit l _ _ _ (by omega)]
      cases q : reachB l.length (kA l) (kB l) (kd G (bm l G)) knot (kB l i) with
      | true => rw [decide_eq_true ((hm _).2 (reachB_iff.1 q))]; rfl
      | false =>
        rw [decide_eq_false (fun z => by have := reachB_iff.2 ((hm _).1 z); rw [q] at this; cases this)]; rfl
    have hasA := has_ev R (kA l i) (by omega)
    have hasB := has_ev R (kB l i) (by omega)
    have bq : (bm l G).testBit i = isB l G i := by rw [bm, mk_bit, decide_eq_true hil, Bool.true_and]
    have nx : ∀ acc' : Int, ∃ r : Int, Ev (fun k => impl_fused.l0 k l (G : Int) ((bm l G : Nat) : Int) down ((hgk l (kd G (bm l G)) knot : Nat) : Int) acc' l (l.length : Int) ((i + 1 : Nat) : Int)) r ∧
        Ev (fun k => spec_grFused.l1 k l (bl l.length G) (bl l.length (bm l G)) down (cz R) acc' l (l.length : Int) ((i + 1 : Nat) : Int)) r := fun acc' => ih (i + 1) acc' (by omega)
    have hw : wrap64 ((i : Int) + 1) = ((i + 1 : Nat) : Int) := wsucc i (by omega)
    cases hg : G.testBit i with
    | false =>
      obtain ⟨r, r1, r2⟩ := nx acc
      refine ⟨r, Ev.step (fun k => ?_) (Ev.step (f := fun k => impl_fused.l0 k l (G : Int) ((bm l G : Nat) : Int) down ((hgk l (kd G (bm l G)) knot : Nat) : Int) acc l (l.length : Int) ((i + 1 : Nat) : Int)) (g := fun k => impl_fused.j1 k l (G : Int) ((bm l G : Nat) : Int) down ((hgk l (kd G (bm l G)) knot : Nat) : Int) acc (i : Int) l (l.length : Int) (i : Int) true (kA l i : Int) (kB l i : Int)) (fun k => ?_) r1),
        Ev.step (fun k => ?_) (Ev.step (f := fun k => spec_grFused.l1 k l (bl l.length G) (bl l.length (bm l G)) down (cz R) acc l (l.length : Int) ((i + 1 : Nat) : Int)) (g := fun k => spec_grFused.j2 k l (bl l.length G) (bl l.length (bm l G)) down (cz R) acc (i : Int) l (l.length : Int) (i : Int) true (kA l i : Int) (kB l i : Int)) (fun k => ?_) r2)⟩
      · simp only [impl_fused.l0, if_pos g1, if_pos g2, z1, hg, if_true, h.fA, h.fB]
      · simp only [impl_fused.j1, if_true, hw]
      · simp only [spec_grFused.l1, if_pos g1, if_pos g2, if_pos g3, hb1, hg, Bool.false_eq_true, if_false, h.fA, h.fB]
      · simp only [spec_grFused.j2, if_true, hw]
    | true =>
      by_cases hd : (i : Int) = down
      · obtain ⟨r, r1, r2⟩ := nx acc
        have e : ((i : Int) == down) = true := by simpa using hd
        refine ⟨r, Ev.step (fun k => ?_) (Ev.step (f := fun k => impl_fused.l0 k l (G : Int) ((bm l G : Nat) : Int) down ((hgk l (kd G (bm l G)) knot : Nat) : Int) acc l (l.length : Int) ((i + 1 : Nat) : Int)) (g := fun k => impl_fused.j1 k l (G : Int) ((bm l G : Nat) : Int) down ((hgk l (kd G (bm l G)) knot : Nat) : Int) acc (i : Int) l (l.length : Int) (i : Int) true (kA l i : Int) (kB l i : Int)) (fun k => ?_) r1),
          Ev.step (fun k => ?_) (Ev.step (f := fun k => spec_grFused.l1 k l (bl l.length G) (bl l.length (bm l G)) down (cz R) acc l (l.length : Int) ((i + 1 : Nat) : Int)) (g := fun k => spec_grFused.j2 k l (bl l.length G) (bl l.length (bm l G)) down (cz R) acc (i : Int) l (l.length : Int) (i : Int) true (kA l i : Int) (kB l i : Int)) (fun k => ?_) r2)⟩
        · simp only [impl_fused.l0, if_pos g1, if_pos g2, z1, hg, Bool.true_eq_false, if_false, h.fA, h.fB, e]
        · simp only [impl_fused.j1, if_true, hw]
        · simp only [spec_grFused.l1, if_pos g1, if_pos g2, if_pos g3, hb1, hg, if_true, h.fA, h.fB, e]
        · simp only [spec_grFused.j2, if_true, hw]
      · have e : ((i : Int) == down) = false := by simpa using hd
        -- the heads of both rounds
        suffices key : ∃ r : Int, Ev (fun k => impl_fused.j1 k l (G : Int) ((bm l G : Nat) : Int) down ((hgk l (kd G (bm l G)) knot : Nat) : Int) acc (i : Int) l (l.length : Int) (i : Int) false (kA l i : Int) (kB l i : Int)) r ∧
            Ev (fun k => spec_grFused.j2 k l (bl l.length G) (bl l.length (bm l G)) down (cz R) acc (i : Int) l (l.length : Int) (i : Int) false (kA l i : Int) (kB l i : Int)) r by
          obtain ⟨r, r1, r2⟩ := key
          refine ⟨r, Ev.step (fun k => ?_) r1, Ev.step (fun k => ?_) r2⟩
          · simp only [impl_fused.l0, if_pos g1, if_pos g2, z1, hg, Bool.true_eq_false, if_false, h.fA, h.fB, e]
          · simp only [spec_grFused.l1, if_pos g1, if_pos g2, if_pos g3, hb1, hg, if_true, h.fA, h.fB, e]
        cases hq : (bm l G).testBit i with
        | false =>
          by_cases mA : kA l i ∈ R
          · obtain ⟨r, r1, r2⟩ := nx (Go.bits .xor .i64 acc 1)
            refine ⟨r, Ev.step (fun k => ?_) (Ev.step (f := fun k => impl_fused.l0 k l (G : Int) ((bm l G : Nat) : Int) down ((hgk l (kd G (bm l G)) knot : Nat) : Int) (Go.bits .xor .i64 acc 1) l (l.length : Int) ((i + 1 : Nat) : Int)) (g := fun k => impl_fused.j2 k l (G : Int) ((bm l G : Nat) : Int) down ((hgk l (kd G (bm l G)) knot : Nat) : Int) acc (i : Int) true (decide (kB l i ∈ R)) l (l.length : Int) (i : Int) true (kA l i : Int) (kB l i : Int)) (fun k => ?_) r1),
              Ev.step (f := ?ha1) (fun k => ?hb1) ?hc1⟩
            · simp only [impl_fused.j1, Bool.false_eq_true, if_false, if_pos gA, if_pos gB, if_pos g2, q0, hq, if_true, oA, oB, decide_eq_true mA]
            · simp only [impl_fused.j2, if_true, hw]
            case hb1 => conv => lhs; simp only [spec_grFused.j2, Bool.false_eq_true, if_false, if_pos g2, if_pos g3', hb2, hq]
            case hc1 =>
              refine Ev.bind hasA ?_
              rw [decide_eq_true mA]
              refine Ev.step (fun k => ?_) r2
              simp only [spec_grFused.j3, if_true, hw]
          · obtain ⟨r, r1, r2⟩ := nx acc
            refine ⟨r, Ev.step (fun k => ?_) (Ev.step (f := fun k => impl_fused.j3 k l (G : Int) ((bm l G : Nat) : Int) down ((hgk l (kd G (bm l G)) knot : Nat) : Int) acc (i : Int) (decide (kB l i ∈ R)) l (l.length : Int) (i : Int) false (kA l i : Int) (kB l i : Int)) (g := fun k => impl_fused.j2 k l (G : Int) ((bm l G : Nat) : Int) down ((hgk l (kd G (bm l G)) knot : Nat) : Int) acc (i : Int) false (decide (kB l i ∈ R)) l (l.length : Int) (i : Int) false (kA l i : Int) (kB l i : Int)) (fun k => ?_) (Ev.step (fun k => ?_) r1)),
              Ev.step (f := ?ha2) (fun k => ?hb2) ?hc2⟩
            · simp only [impl_fused.j1, Bool.false_eq_true, if_false, if_pos gA, if_pos gB, if_pos g2, q0, hq, if_true, oA, oB, decide_eq_false mA]
            · simp only [impl_fused.j2, Bool.false_eq_true, if_false, if_pos g2, q1, hq]
            · simp only [impl_fused.j3, Bool.false_eq_true, if_false, if_pos g2, q1, hq, hw]
            case hb2 => conv => lhs; simp only [spec_grFused.j2, Bool.false_eq_true, if_false, if_pos g2, if_pos g3', hb2, hq]
            case hc2 =>
              refine Ev.bind hasA ?_
              rw [decide_eq_false mA]
              refine Ev.step (f := fun k => spec_grFused.j4 k l (bl l.length G) (bl l.length (bm l G)) down (cz R) acc (i : Int) l (l.length : Int) (i : Int) false (kA l i : Int) (kB l i : Int)) (fun k => ?_) (Ev.step (fun k => ?_) r2)
              · simp only [spec_grFused.j3, Bool.false_eq_true, if_false, if_pos g2, if_pos g3', hb2, hq]
              · simp only [spec_grFused.j4, Bool.false_eq_true, if_false, if_pos g2, if_pos g3', hb2, hq, hw]
        | true =>
          have hbi : isB l G i = true := by rw [← bq, hq]
          by_cases mA : kA l i ∈ R
          · obtain ⟨v, v1, v2⟩ := rec i (kB l i) hil hbi (.inr rfl) (mu_less l G hG knot down hl i _ _ hil hbi hd (.inl ⟨rfl, rfl⟩) ((hm _).1 mA))
            obtain ⟨r, r1, r2⟩ := nx (Go.bits .xor .i64 acc (wrap64 (v + 1)))
            refine ⟨r, Ev.step (fun k => ?_) (Ev.step (f := fun k => impl_fused.j3 k l (G : Int) ((bm l G : Nat) : Int) down ((hgk l (kd G (bm l G)) knot : Nat) : Int) acc (i : Int) (decide (kB l i ∈ R)) l (l.length : Int) (i : Int) true (kA l i : Int) (kB l i : Int)) (g := fun k => impl_fused.j2 k l (G : Int) ((bm l G : Nat) : Int) down ((hgk l (kd G (bm l G)) knot : Nat) : Int) acc (i : Int) true (decide (kB l i ∈ R)) l (l.length : Int) (i : Int) false (kA l i : Int) (kB l i : Int)) (fun k => ?_) (Ev.step (f := ?ha3) (fun k => ?hb3) ?hc3)),
              Ev.step (f := fun k => spec_grFused.j3 k l (bl l.length G) (bl l.length (bm l G)) down (cz R) acc (i : Int) l (l.length : Int) (i : Int) false (kA l i : Int) (kB l i : Int)) (fun k => ?_) (Ev.step (f := ?ha4) (fun k => ?hb4) ?hc4)⟩
            · simp only [impl_fused.j1, Bool.false_eq_true, if_false, if_pos gA, if_pos gB, if_pos g2, q0, hq, Bool.true_eq_false, oA, oB, decide_eq_true mA]
            · simp only [impl_fused.j2, Bool.false_eq_true, if_false, if_pos g2, q1, hq, if_true]
            case hb3 => conv => lhs; simp only [impl_fused.j3, if_true, hw]
            case hc3 => exact Ev.bind v1 r1
            · simp only [spec_grFused.j2, Bool.false_eq_true, if_false, if_pos g2, if_pos g3', hb2, hq, if_true]
            case hb4 => conv => lhs; simp only [spec_grFused.j3, Bool.false_eq_true, if_false, if_pos g2, if_pos g3', hb2, hq, if_true]
            case hc4 =>
              refine Ev.bind hasA ?_
              rw [decide_eq_true mA]
              refine Ev.step (f := ?ha5) (fun k => ?hb5) ?hc5
              case hb5 => conv => lhs; simp only [spec_grFused.j4, if_true, hw]
              case hc5 => exact Ev.bind v2 r2
          · by_cases mB : kB l i ∈ R
            · obtain ⟨v, v1, v2⟩ := rec i (kA l i) hil hbi (.inl rfl) (mu_less l G hG knot down hl i _ _ hil hbi hd (.inr ⟨rfl, rfl⟩) ((hm _).1 mB))
              obtain ⟨r, r1, r2⟩ := nx (Go.bits .xor .i64 acc (wrap64 (v + 1)))
              refine ⟨r, Ev.step (fun k => ?_) (Ev.step (f := fun k => impl_fused.j3 k l (G : Int) ((bm l G : Nat) : Int) down ((hgk l (kd G (bm l G)) knot : Nat) : Int) acc (i : Int) (decide (kB l i ∈ R)) l (l.length : Int) (i : Int) false (kA l i : Int) (kB l i : Int)) (g := fun k => impl_fused.j2 k l (G : Int) ((bm l G : Nat) : Int) down ((hgk l (kd G (bm l G)) knot : Nat) : Int) acc (i : Int) false (decide (kB l i ∈ R)) l (l.length : Int) (i : Int) false (kA l i : Int) (kB l i : Int)) (fun k => ?_) (Ev.step (f := ?ha6) (fun k => ?hb6) ?hc6)),
                Ev.step (f := fun k => spec_grFused.j3 k l (bl l.length G) (bl l.length (bm l G)) down (cz R) acc (i : Int) l (l.length : Int) (i : Int) false (kA l i : Int) (kB l i : Int)) (fun k => ?_) (Ev.step (f := ?ha7) (fun k => ?hb7) ?hc7)⟩
              · simp only [impl_fused.j1, Bool.false_eq_true, if_false, if_pos gA, if_pos gB, if_pos g2, q0, hq, Bool.true_eq_false, oA, oB, decide_eq_false mA]
              · simp only [impl_fused.j2, Bool.false_eq_true, if_false, if_pos g2, q1, hq, if_true]
              case hb6 => conv => lhs; simp only [impl_fused.j3, Bool.false_eq_true, if_false, if_pos g2, q1, hq, if_true, decide_eq_true mB, hw]
              case hc6 => exact Ev.bind v1 r1
              · simp only [spec_grFused.j2, Bool.false_eq_true, if_false, if_pos g2, if_pos g3', hb2, hq, if_true]
              case hb7 => conv => lhs; simp only [spec_grFused.j3, Bool.false_eq_true, if_false, if_pos g2, if_pos g3', hb2, hq, if_true]
              case hc7 =>
                refine Ev.bind hasA ?_
                rw [decide_eq_false mA]
                refine Ev.step (f := ?ha8) (fun k => ?hb8) ?hc8
                case hb8 => conv => lhs; simp only [spec_grFused.j4, Bool.false_eq_true, if_false, if_pos g2, if_pos g3', hb2, hq, if_true, hw]
                case hc8 =>
                  refine Ev.bind hasB ?_
                  simp only [decide_eq_true mB, if_true]
                  exact Ev.bind v2 r2
            · obtain ⟨r, r1, r2⟩ := nx acc
              refine ⟨r, Ev.step (fun k => ?_) (Ev.step (f := fun k => impl_fused.j3 k l (G : Int) ((bm l G : Nat) : Int) down ((hgk l (kd G (bm l G)) knot : Nat) : Int) acc (i : Int) (decide (kB l i ∈ R)) l (l.length : Int) (i : Int) false (kA l i : Int) (kB l i : Int)) (g := fun k => impl_fused.j2 k l (G : Int) ((bm l G : Nat) : Int) down ((hgk l (kd G (bm l G)) knot : Nat) : Int) acc (i : Int) false (decide (kB l i ∈ R)) l (l.length : Int) (i : Int) false (kA l i : Int) (kB l i : Int)) (fun k => ?_) (Ev.step (fun k => ?_) r1)),
                Ev.step (f := fun k => spec_grFused.j3 k l (bl l.length G) (bl l.length (bm l G)) down (cz R) acc (i : Int) l (l.length : Int) (i : Int) false (kA l i : Int) (kB l i : Int)) (fun k => ?_) (Ev.step (f := ?ha9) (fun k => ?hb9) ?hc9)⟩
              · simp only [impl_fused.j1, Bool.false_eq_true, if_false, if_pos gA, if_pos gB, if_pos g2, q0, hq, Bool.true_eq_false, oA, oB, decide_eq_false mA]
              · simp only [impl_fused.j2, Bool.false_eq_true, if_false, if_pos g2, q1, hq, if_true]
              · simp only [impl_fused.j3, Bool.false_eq_true, if_false, if_pos g2, q1, hq, if_true, decide_eq_false mB, hw]
              · simp only [spec_grFused.j2, Bool.false_eq_true, if_false, if_pos g2, if_pos g3', hb2, hq, if_true]
              case hb9 => conv => lhs; simp only [spec_grFused.j3, Bool.false_eq_true, if_false, if_pos g2, if_pos g3', hb2, hq, if_true]
              case hc9 =>
                refine Ev.bind hasA ?_
                rw [decide_eq_false mA]
                refine Ev.step (f := ?haa) (fun k => ?hba) ?hca
                case hba => conv => lhs; simp only [spec_grFused.j4, Bool.false_eq_true, if_false, if_pos g2, if_pos g3', hb2, hq, if_true, hw]
                case hca =>
                  refine Ev.bind hasB ?_
                  simp only [decide_eq_false mB, Bool.false_eq_true, if_false]
                  exact r2
theorem fused_ev : ∀ (d knot : Nat) (down : Int), knot < 13 → Leads l G knot down → mu l G knot down < d → ∃ r, Told l G knot down r := by
  intro d
  induction d with
  | zero => intro knot down _ _ hmu; omega
  | succ d ih =>
    intro knot down hk hl hmu
    obtain ⟨R, r1, r2, r3⟩ := knots_ev l h (kd G (bm l G)) knot hk
    obtain ⟨r, e1, e2⟩ := fused_l l h G hG knot hk down hl R r2 r3 (fun i c' hi hb hc hlt => by
      refine ih c' (i : Int) ?_ (.inr ⟨i, hi, rfl, hb, hc⟩) (by omega)
      have hA := h.A12 i
      have hB := h.B12 i
      rcases hc with rfl | rfl <;> omega) l.length 0 0 (by omega)
    refine ⟨r, ?_, ?_⟩
    · refine Ev.step (f := ?gga) (fun k => ?ggb) ?ggc
      case ggb => conv => lhs; simp only [impl_fused.f, minus_kd G _ hG]
      case ggc => exact Ev.bind (hung_ev l h (kd G (bm l G)) knot (kd_lt _ _) hk) e1
    · exact Ev.step (fun k => by simp only [spec_grFused.f]; rfl) (inside_l l h G hG knot down R r r1 e2 l.length 0 (by omega))
end

theorem both (l : List S41) (hl : l.length ≤ 1048576) : ∃ r : Int × Bool, Ev (fun k => spec_GrundyByFusion.f k l) r ∧ Ev (fun k => impl_GrundyByFusion.f k l) r := by
  unfold spec_GrundyByFusion.f impl_GrundyByFusion.f
  have g1 := good_ev l hl
  have g2 := isGreen_ev l
  cases hg : good l with
  | false =>
    rw [hg] at g1 g2
    exact ⟨(0, false), Ev.bind g1 (Ev.now _), Ev.bind g2 (Ev.now _)⟩
  | true =>
    rw [hg] at g1 g2
    have h := ok_of_good hg
    have hlen := h.len
    obtain ⟨r, r1, r2⟩ := fused_ev l h (gm l (am l.length)) (gm_lt l h _) (mu l (gm l (am l.length)) 0 (-1) + 1) 0 (-1) (by decide) (.inl rfl) (Nat.lt_succ_self _)
    refine ⟨(r, true), Ev.bind g1 ?_, Ev.bind g2 ?_⟩
    · simp only [if_true]
      exact Ev.bind (specAll_ev l h) (Ev.bind (ground_ev l h _) (Ev.bind (specBridges_ev l h) (Ev.bind r2 (Ev.now _))))
    · simp only [if_true, implAll l h, Option.bind_some]
      exact Ev.bind (grounded_ev l h _ (am_lt _ hlen)) (Ev.bind (implBridges_ev l h) (Ev.bind r1 (Ev.now _)))
theorem proved : laws_FnExactGrundyByFusion.Pure := by
  intro l h
  refine Ev.rounds ?_
  unfold laws_FnExactGrundyByFusion.f
  simp only [szTwigS l h.1, Option.bind_some]
  by_cases hb : l.length > 1048576
  · simp only [if_pos hb]
    exact Ev.now _
  · have hl : l.length ≤ 1048576 := by omega
    have hl' : (l.map conv).length ≤ 1048576 := by rw [List.length_map]; exact hl
    have c : ¬ (1048576 - (l.length : Int)) < 0 := by omega
    simp only [if_neg hb, if_neg c]
    obtain ⟨r, s1, s2⟩ := both (l.map conv) hl'
    have ht := toTwigS_ev l hl
    refine Ev.bind ht (Ev.bind s1 (Ev.bind ht (Ev.bind s2 ?_)))
    simp only [bne_self_eq_false, if_true]
    refine Ev.step (f := ?gga) (fun k => ?ggb) ?ggc
    case ggb => conv => lhs; simp only [laws_FnExactGrundyByFusion.j0, Bool.false_eq_true, if_false]
    case ggc => exact Ev.bind ht (Ev.bind (eqTwigS_ev _ hl') (Ev.now _))

end LFnExactGrundyByFusion
theorem FnExactGrundyByFusion : laws_FnExactGrundyByFusion.Pure := LFnExactGrundyByFusion.proved
end Go.Proofs.Ytoiobcdaomfepaa.Pure
