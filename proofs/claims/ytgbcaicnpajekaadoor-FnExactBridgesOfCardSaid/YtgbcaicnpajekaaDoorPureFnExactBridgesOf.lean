/- For any list of twigs, the program's bridges are the reference's; they are new memory, and the list is left as it was. -/
import Derived.Test.YtgbcaicnpajekaaDoorQFnExactBridgesOfx7
import Derived.Laws.Bits64b
import Derived.Test.YtgbcaicnpajekaaDoorGreen
namespace Go.Proofs.YtgbcaicnpajekaaDoor.Pure
open Go.RowKit Go.Proofs.YtgbcaicnpajekaaDoor.QFnExactBridgesOf Go.Proofs.YtgbcaicnpajekaaDoorW.PrintWords Go.Proofs.YtgbcaicnpajekaaDoorW.PrintLast
open Go.Proofs.YtgbcaicnpajekaaDoor.Green Go.Proofs.YtgbcaicnpajekaaDoor.Bits
set_option linter.unusedVariables false
set_option linter.unusedSimpArgs false
def laws_FnExactBridgesOf.Pure : Prop := ∀ (l0 : List (S40)), (l0.length ≤ maxLen ∧ ∀ y0 ∈ l0, ((Lit.int .i64 y0.f0).wf = true ∧ (Lit.int .i64 y0.f1).wf = true)) → ∃ k, laws_FnExactBridgesOf.f k l0 = some true
namespace LFnExactBridgesOf
/-! ### small words -/
theorem wsucc (i : Nat) (h : i < 2 ^ 62) : wrap64 ((i : Int) + 1) = ((i + 1 : Nat) : Int) := by unfold wrap64; omega

/-! ### lists of twigs: their size, a copy, the same -/
theorem rdL (xs : List S40) (i : Nat) (h : i < xs.length) : rd_T40 xs (i : Int) = xs[i] := by
  simp [rd_T40, List.getD_eq_getElem?_getD, List.getElem?_eq_getElem h]
theorem rdI (xs : List S38) (i : Nat) (h : i < xs.length) : rd_T38 xs (i : Int) = xs[i] := by
  simp [rd_T38, List.getD_eq_getElem?_getD, List.getElem?_eq_getElem h]
theorem szTwigS (l : List S40) (h : l.length ≤ maxLen) : laws_szTwigS.f l 1048576 = some (if l.length > 1048576 then -1 else 1048576 - (l.length : Int)) := by
  unfold maxLen at h
  have hw : wrap64 (1048576 - (l.length : Int)) = 1048576 - (l.length : Int) := by unfold wrap64; omega
  unfold laws_szTwigS.f
  rw [hw]
  clear hw
  by_cases g : l.length > 1048576
  · rw [if_pos (by omega), if_pos g]
  · rw [if_neg (by omega), if_neg g]
/-- A twig of the program for a twig of the law. -/
def conv (p : S40) : S38 := ⟨p.f0, p.f1⟩
theorem toTwigS_l (l : List S40) (hl : l.length ≤ 1048576) : ∀ (d i : Nat) (ys : List S38), i + d = l.length → ys.length = l.length → (∀ j, j < i → ys[j]? = (l.map conv)[j]?) →
    Ev (fun k => laws_toTwigS.l0 k l ys (i : Int)) (l.map conv) := by
  intro d
  induction d with
  | zero =>
    intro i ys hi hy hj
    have c : ¬ (i : Int) < (l.length : Int) := by omega
    have : ys = l.map conv := by
      apply List.ext_getElem?
      intro j
      by_cases g : j < i
      · exact hj j g
      · rw [List.getElem?_eq_none (by omega), List.getElem?_eq_none (by rw [List.length_map]; omega)]
    subst this
    refine Ev.step (fun k => ?_) (Ev.now _)
    simp only [laws_toTwigS.l0, if_neg c]
  | succ d ih =>
    intro i ys hi hy hj
    have g1 : (i : Int) < (l.length : Int) := by omega
    have g1' : (i : Int) < (ys.length : Int) := by omega
    have g2 : (0 : Int) ≤ (i : Int) := Int.natCast_nonneg _
    have hil : i < l.length := by omega
    have hw : wrap64 ((i : Int) + 1) = ((i + 1 : Nat) : Int) := wsucc i (by omega)
    refine Ev.step (fun k => ?_) (ih (i + 1) (ys.set i (conv l[i])) (by clear hw; omega) (by rw [List.length_set]; exact hy) (fun j hjl => ?_))
    · simp only [laws_toTwigS.l0, if_pos g1, if_pos g2, rdL l i hil, laws_toTwig.f, Option.bind_some, if_pos g1', Int.toNat_natCast, hw]
      rfl
    · rw [List.getElem?_set]
      by_cases e : i = j
      · subst e
        rw [if_pos rfl, if_pos (by clear hw; omega), List.getElem?_map, List.getElem?_eq_getElem hil]
        rfl
      · rw [if_neg e]
        exact hj j (by clear hw; omega)
theorem toTwigS_ev (l : List S40) (hl : l.length ≤ 1048576) : Ev (fun k => laws_toTwigS.f k l) (l.map conv) := by
  unfold laws_toTwigS.f
  simp only [if_pos (Int.natCast_nonneg l.length), Int.toNat_natCast, show l.length ≤ 17592186044416 from by omega, if_true]
  exact toTwigS_l l hl l.length 0 _ (by omega) (by simp) (fun j hj => by omega)
theorem eqTwigS_l (l : List S38) (hl : l.length ≤ 1048576) : ∀ (d i : Nat), i + d = l.length → Ev (fun k => laws_eqTwigS.l0 k l l (i : Int)) true := by
  intro d
  induction d with
  | zero =>
    intro i hi
    have c : ¬ (i : Int) < (l.length : Int) := by omega
    refine Ev.step (fun k => ?_) (Ev.now _)
    simp only [laws_eqTwigS.l0, if_neg c]
  | succ d ih =>
    intro i hi
    have g1 : (i : Int) < (l.length : Int) := by omega
    have g2 : (0 : Int) ≤ (i : Int) := Int.natCast_nonneg _
    have hw : wrap64 ((i : Int) + 1) = ((i + 1 : Nat) : Int) := wsucc i (by omega)
    refine Ev.step (fun k => ?_) (ih (i + 1) (by clear hw; omega))
    simp only [laws_eqTwigS.l0, if_pos g1, if_pos g2, laws_eqTwig.f, if_true, Option.bind_some, hw]
theorem eqTwigS_ev (l : List S38) (hl : l.length ≤ 1048576) : Ev (fun k => laws_eqTwigS.f k l l) true := by
  unfold laws_eqTwigS.f
  simp only [if_true]
  exact eqTwigS_l l hl l.length 0 (by omega)

/-! ### a list of numbers equals itself -/
theorem eqIntS_l (x : List Int) (hx : x.length ≤ 2 ^ 60) : ∀ (d k i : Nat), i + d = x.length → d < k → laws_eqIntS.l0 k x x i = some true := by
  intro d
  induction d with
  | zero =>
    intro k i hi hk
    obtain ⟨k, rfl⟩ : ∃ m, k = m + 1 := ⟨k - 1, by omega⟩
    simp only [laws_eqIntS.l0]
    rw [if_neg (by omega)]
  | succ d ih =>
    intro k i hi hk
    obtain ⟨k, rfl⟩ : ∃ m, k = m + 1 := ⟨k - 1, by omega⟩
    have h1 : (i : Int) < (x.length : Int) := by omega
    have h2 : (0 : Int) ≤ (i : Int) := Int.natCast_nonneg _
    simp only [laws_eqIntS.l0, if_pos h1, if_pos h2, if_true]
    rw [wsucc i (by omega)]
    exact ih k (i + 1) (by omega) (by omega)
theorem eqIntS (x : List Int) (hx : x.length ≤ 17592186044416) (k : Nat) (hk : x.length < k) : laws_eqIntS.f k x x = some true := by
  unfold laws_eqIntS.f
  rw [if_pos rfl]
  exact eqIntS_l x (by omega) x.length k 0 (by omega) hk

/-! ### what is a green picture, on both sides -/
theorem in_some (e a b : Int) : spec_l1In.f e a b = some (decide (a ≤ e ∧ e ≤ b)) := by
  unfold spec_l1In.f
  by_cases h : e ≥ a
  · rw [if_pos h]; congr 1; simp; omega
  · rw [if_neg h]; congr 1; simp; omega
theorem twig_some (x : S38) : spec_grTwig.f x.f0 x.f1 = some (!impl_IsGreen.bad x) := by
  unfold spec_grTwig.f impl_IsGreen.bad impl_IsGreen.inK
  simp only [in_some, Option.bind_some]
  by_cases h1 : 0 ≤ x.f0 ∧ x.f0 ≤ 12 <;> by_cases h2 : 0 ≤ x.f1 ∧ x.f1 ≤ 12 <;> simp [h1, h2]
/-- What is a green picture. -/
def good (l : List S38) : Bool := decide (l.length ≤ 14) && !l.any impl_IsGreen.bad
theorem good_l (l : List S38) (hl : l.length ≤ 1048576) : ∀ (d i : Nat), i + d = l.length → Ev (fun k => spec_grGood.l0 k l l (l.length : Int) (i : Int)) (decide (l.length ≤ 14) && !(l.drop i).any impl_IsGreen.bad) := by
  intro d
  induction d with
  | zero =>
    intro i hi
    have c : ¬ (i : Int) < (l.length : Int) := by omega
    rw [List.drop_eq_nil_of_le (by omega)]
    refine Ev.step (fun k => ?_) (Ev.now _)
    have : decide ((l.length : Int) ≤ 14) = decide (l.length ≤ 14) := by
      by_cases h : l.length ≤ 14
      · rw [decide_eq_true h, decide_eq_true (by omega)]
      · rw [decide_eq_false h, decide_eq_false (by omega)]
    simp only [spec_grGood.l0, if_neg c, this, List.any_nil, Bool.not_false, Bool.and_true]
  | succ d ih =>
    intro i hi
    have g1 : (i : Int) < (l.length : Int) := by omega
    have g2 : (0 : Int) ≤ (i : Int) := Int.natCast_nonneg _
    have hil : i < l.length := by omega
    rw [List.drop_eq_getElem_cons hil, List.any_cons]
    cases hb : impl_IsGreen.bad l[i] with
    | true =>
      refine Ev.step (fun k => ?_) (Ev.now _)
      simp only [spec_grGood.l0, if_pos g1, if_pos g2, rdI l i hil, twig_some, hb, Option.bind_some, Bool.not_true, Bool.false_eq_true, if_false, Bool.true_or, Bool.and_false]
    | false =>
      have hw : wrap64 ((i : Int) + 1) = ((i + 1 : Nat) : Int) := wsucc i (by omega)
      rw [Bool.false_or]
      refine Ev.step (fun k => ?_) (ih (i + 1) (by clear hw; omega))
      simp only [spec_grGood.l0, if_pos g1, if_pos g2, rdI l i hil, twig_some, hb, Option.bind_some, Bool.not_false, if_true, hw]
theorem good_ev (l : List S38) (hl : l.length ≤ 1048576) : Ev (fun k => spec_grGood.f k l) (good l) := by
  have := good_l l hl l.length 0 (by omega)
  rwa [List.drop_zero] at this
theorem isGreen_ev (l : List S38) : Ev (fun k => impl_IsGreen.f k l) (good l) := Ev.now _

/-! ### what is grounded, by bits -/
def kA (l : List S38) (i : Nat) : Nat := (rd_T38 l (i : Int)).f0.toNat
def kB (l : List S38) (i : Nat) : Nat := (rd_T38 l (i : Int)).f1.toNat
structure Ok (l : List S38) : Prop where
  len : l.length ≤ 14
  fA : ∀ i : Nat, (rd_T38 l (i : Int)).f0 = (kA l i : Int)
  fB : ∀ i : Nat, (rd_T38 l (i : Int)).f1 = (kB l i : Int)
  A12 : ∀ i, kA l i ≤ 12
  B12 : ∀ i, kB l i ≤ 12
theorem ok_of_good {l : List S38} (h : good l = true) : Ok l := by
  unfold good at h
  rw [Bool.and_eq_true] at h
  have hl : l.length ≤ 14 := of_decide_eq_true h.1
  have hb : ∀ x ∈ l, impl_IsGreen.bad x = false := by
    have := h.2
    simp only [Bool.not_eq_true', List.any_eq_false] at this
    intro x hx
    have := this x hx
    simpa using this
  have key : ∀ i : Nat, (0 ≤ (rd_T38 l (i : Int)).f0 ∧ (rd_T38 l (i : Int)).f0 ≤ 12) ∧ (0 ≤ (rd_T38 l (i : Int)).f1 ∧ (rd_T38 l (i : Int)).f1 ≤ 12) := by
    intro i
    by_cases hi : i < l.length
    · have := hb _ (List.getElem_mem hi)
      rw [rdI l i hi]
      simp only [impl_IsGreen.bad, impl_IsGreen.inK, Bool.or_eq_false_iff, Bool.not_eq_false', decide_eq_true_eq] at this
      exact this
    · have e : rd_T38 l (i : Int) = z38 := by
        unfold rd_T38
        rw [Int.toNat_natCast, List.getD_eq_getElem?_getD, List.getElem?_eq_none (by omega)]
        rfl
      rw [e]
      exact ⟨by decide, by decide⟩
  refine ⟨hl, fun i => ?_, fun i => ?_, fun i => ?_, fun i => ?_⟩
  · unfold kA; have := (key i).1; omega
  · unfold kB; have := (key i).2; omega
  · unfold kA; have := (key i).1; omega
  · unfold kB; have := (key i).2; omega
theorem or13 {S a b : Nat} (hS : S < 2 ^ 13) (ha : a ≤ 12) (hb : b ≤ 12) : S ||| (2 ^ a ||| 2 ^ b) < 2 ^ 13 :=
  Nat.or_lt_two_pow hS (Nat.or_lt_two_pow (Nat.pow_lt_pow_right (by decide) (by omega)) (Nat.pow_lt_pow_right (by decide) (by omega)))
theorem or14 {O i : Nat} (hO : O < 2 ^ 14) (hi : i < 14) : O ||| 2 ^ i < 2 ^ 14 := Nat.or_lt_two_pow hO (Nat.pow_lt_pow_right (by decide) hi)
theorem one_bit (O i j : Nat) : (O ||| 2 ^ i).testBit j = (O.testBit j || decide (j = i)) := by
  rw [Nat.testBit_or, Nat.testBit_two_pow]
  congr 1
  exact decide_eq_decide.2 ⟨fun h => h.symm, fun h => h.symm⟩
section
variable (l : List S38) (h : Ok l) (M : Nat) (hM : M < 2 ^ 64)
include h hM
theorem grounded_in : ∀ (d i S O : Nat), i + d = l.length → S < 2 ^ 13 → O < 2 ^ 14 → (∀ x, S.testBit x = true → Hangs l.length (kA l) (kB l) M 0 x) →
    ∃ S' O' : Nat, S' < 2 ^ 13 ∧ O' < 2 ^ 14 ∧ Rnd l.length (kA l) (kB l) M 0 i S S' ∧
      (∀ j, O'.testBit j = true → O.testBit j = true ∨ (j < l.length ∧ M.testBit j = true ∧ Hangs l.length (kA l) (kB l) M 0 (kA l j))) ∧ (∀ j, O.testBit j = true → O'.testBit j = true) ∧
      (∀ j, i ≤ j → j < l.length → M.testBit j = true → (S.testBit (kA l j) = true ∨ S.testBit (kB l j) = true) → O'.testBit j = true) ∧
      ∀ (T c r : Int), Ev (fun k => impl_grounded.l0 k l (M : Int) (S' : Int) (O' : Int) T (wrap64 (c + 1))) r → Ev (fun k => impl_grounded.l1 k l (M : Int) (S : Int) (O : Int) T c l (l.length : Int) (i : Int)) r := by
  have hlen := h.len
  intro d
  induction d with
  | zero =>
    intro i S O hi hS hO hr
    have c : ¬ (i : Int) < (l.length : Int) := by omega
    refine ⟨S, O, hS, hO, rnd_end (by omega) hr, fun j hj => .inl hj, fun j hj => hj, fun j h1 h2 => by omega, fun T c' r he => Ev.step (fun k => ?_) he⟩
    simp only [impl_grounded.l1, if_neg c]
  | succ d ih =>
    intro i S O hi hS hO hr
    have g1 : (i : Int) < (l.length : Int) := by omega
    have g2 : (0 : Int) ≤ (i : Int) := Int.natCast_nonneg _
    have hil : i < l.length := by omega
    have gA : (0 : Int) ≤ (kA l i : Int) := Int.natCast_nonneg _
    have gB : (0 : Int) ≤ (kB l i : Int) := Int.natCast_nonneg _
    have hA := h.A12 i
    have hB := h.B12 i
    have hS64 : S < 2 ^ 64 := Nat.lt_trans hS (by decide)
    have hO64 : O < 2 ^ 64 := Nat.lt_trans hO (by decide)
    have bM := bit1 M i hM (by omega)
    have bA := bit1 S (kA l i) hS64 (by omega)
    have bB := bit1 S (kB l i) hS64 (by omega)
    have aS := add_u S (kA l i) (kB l i) hS64 (by omega) (by omega)
    have aO := add1_u O i hO64 (by omega)
    have hw : wrap64 ((i : Int) + 1) = ((i + 1 : Nat) : Int) := wsucc i (by omega)
    cases hm : M.testBit i with
    | false =>
      obtain ⟨S', O', p1, p2, p3, p4, p5, p6, p7⟩ := ih (i + 1) S O (by clear hw; omega) hS hO hr
      refine ⟨S', O', p1, p2, rnd_skip p3 (fun q => by rw [hm] at q; cases q), p4, p5, fun j h1 h2 h3 h4 => ?_, fun T c r he => Ev.step (fun k => ?_) (p7 T c r he)⟩
      · by_cases e : j = i
        · subst e; rw [hm] at h3; cases h3
        · exact p6 j (by clear hw; omega) h2 h3 h4
      · simp only [impl_grounded.l1, if_pos g1, if_pos g2, bM, hm, Bool.false_eq_true, if_false, hw]
    | true =>
      by_cases ht : S.testBit (kA l i) = true ∨ S.testBit (kB l i) = true
      · obtain ⟨S', O', p1, p2, p3, p4, p5, p6, p7⟩ := ih (i + 1) (S ||| (2 ^ kA l i ||| 2 ^ kB l i)) (O ||| 2 ^ i) (by clear hw; omega) (or13 hS hA hB) (or14 hO (by clear hw; omega)) (add_ok hil hm ht hr)
        have rA : Hangs l.length (kA l) (kB l) M 0 (kA l i) := add_ok hil hm ht hr _ (by rw [bit_add]; simp)
        refine ⟨S', O', p1, p2, rnd_add hil hm ht p3, fun j hj => ?_, fun j hj => p5 j (by rw [one_bit, hj]; rfl), fun j h1 h2 h3 h4 => ?_, fun T c r he => Ev.step (fun k => ?_) (p7 T c r he)⟩
        · rcases p4 j hj with q | q
          · rw [one_bit, Bool.or_eq_true, decide_eq_true_eq] at q
            rcases q with q | rfl
            · exact .inl q
            · exact .inr ⟨hil, hm, rA⟩
          · exact .inr q
        · by_cases e : j = i
          · subst e; exact p5 _ (by rw [one_bit]; simp)
          · exact p6 j (by clear hw; omega) h2 h3 (h4.imp (fun q => by rw [bit_add, q]; rfl) (fun q => by rw [bit_add, q]; rfl))
        · cases hx : S.testBit (kA l i) with
          | true => simp only [impl_grounded.l1, if_pos g1, if_pos g2, bM, hm, if_true, h.fA, h.fB, if_pos gA, if_pos gB, bA, hx, aS, aO, hw]
          | false =>
            have hy : S.testBit (kB l i) = true := ht.resolve_left (by rw [hx]; simp)
            simp only [impl_grounded.l1, if_pos g1, if_pos g2, bM, hm, if_true, h.fA, h.fB, if_pos gA, if_pos gB, bA, hx, bB, hy, Bool.false_eq_true, if_false, aS, aO, hw]
      · obtain ⟨S', O', p1, p2, p3, p4, p5, p6, p7⟩ := ih (i + 1) S O (by clear hw; omega) hS hO hr
        refine ⟨S', O', p1, p2, rnd_skip p3 (fun _ => ht), p4, p5, fun j h1 h2 h3 h4 => ?_, fun T c r he => Ev.step (fun k => ?_) (p7 T c r he)⟩
        · by_cases e : j = i
          · subst e; exact absurd h4 ht
          · exact p6 j (by clear hw; omega) h2 h3 h4
        · have hx : S.testBit (kA l i) = false := by
            cases q : S.testBit (kA l i)
            · rfl
            · exact absurd (.inl q) ht
          have hy : S.testBit (kB l i) = false := by
            cases q : S.testBit (kB l i)
            · rfl
            · exact absurd (.inr q) ht
          simp only [impl_grounded.l1, if_pos g1, if_pos g2, bM, hm, if_true, h.fA, h.fB, if_pos gA, if_pos gB, bA, hx, bB, hy, Bool.false_eq_true, if_false, hw]
/-- The grounded twigs of some. -/
noncomputable def gm (l : List S38) (M : Nat) : Nat := mk l.length fun i => M.testBit i && reachB l.length (kA l) (kB l) M 0 (kA l i)
theorem grounded_out : ∀ (d c S O : Nat), c + d = l.length + 1 → S < 2 ^ 13 → O < 2 ^ 14 → S.testBit 0 = true → (∀ x, S.testBit x = true → Hangs l.length (kA l) (kB l) M 0 x) →
    (∀ j, O.testBit j = true → j < l.length ∧ M.testBit j = true ∧ Hangs l.length (kA l) (kB l) M 0 (kA l j)) → (Closed l.length (kA l) (kB l) M S ∨ c ≤ used l.length (kA l) (kB l) M S) →
    (d = 0 → ∀ j, j < l.length → M.testBit j = true → Hangs l.length (kA l) (kB l) M 0 (kA l j) → O.testBit j = true) →
    Ev (fun k => impl_grounded.l0 k l (M : Int) (S : Int) (O : Int) ((l.length + 1 : Nat) : Int) (c : Int)) ((gm l M : Nat) : Int) := by
  have hlen := h.len
  intro d
  induction d with
  | zero =>
    intro c S O hc hS hO h0 hr hO2 hcl hfin
    have g : ¬ (c : Int) < ((l.length + 1 : Nat) : Int) := by omega
    have e : O = gm l M := by
      apply bits_ext
      intro j
      rw [gm, mk_bit]
      cases q : O.testBit j with
      | true =>
        have := hO2 j q
        rw [decide_eq_true this.1, this.2.1, reachB_iff.2 this.2.2]
        rfl
      | false =>
        by_cases hj : j < l.length
        · cases hm : M.testBit j with
          | false => simp
          | true =>
            cases hb : reachB l.length (kA l) (kB l) M 0 (kA l j) with
            | false => simp
            | true =>
              have := hfin rfl j hj hm (reachB_iff.1 hb)
              rw [q] at this
              cases this
        · rw [decide_eq_false hj]; rfl
    rw [← e]
    refine Ev.step (fun k => ?_) (Ev.now _)
    simp only [impl_grounded.l0, if_neg g]
  | succ d ih =>
    intro c S O hc hS hO h0 hr hO2 hcl hfin
    have g : (c : Int) < ((l.length + 1 : Nat) : Int) := by omega
    obtain ⟨S', O', p1, p2, p3, p4, p5, p6, p7⟩ := grounded_in l h M hM l.length 0 S O (by omega) hS hO hr
    refine Ev.step (fun k => ?_) (p7 ((l.length + 1 : Nat) : Int) (c : Int) _ ?_)
    · simp only [impl_grounded.l0, if_pos g]
      rfl
    · rw [wsucc c (by omega)]
      refine ih (c + 1) S' O' (by omega) p1 p2 (p3.sub _ h0) p3.ok (fun j hj => ?_) (rnd_round p3 h0 hcl) (fun hd j hj hm hrj => ?_)
      · rcases p4 j hj with q | q
        · exact hO2 j q
        · exact q
      · have hcn : Closed l.length (kA l) (kB l) M S := hcl.elim id (fun q => used_full (by omega))
        exact p6 j (Nat.zero_le _) hj hm (.inl (closed_reach hcn h0 hrj))
theorem grounded_ev : Ev (fun k => impl_grounded.f k l (M : Int)) ((gm l M : Nat) : Int) := by
  have hlen := h.len
  unfold impl_grounded.f
  rw [wsucc l.length (by omega)]
  have := grounded_out l h M hM (l.length + 1) 0 1 0 (by omega) (by decide) (by decide) (by decide) (fun x hx => by
    have : x = 0 := by
      by_cases e : x = 0
      · exact e
      · have h1 : Nat.testBit 1 x = decide (x = 0) := Nat.testBit_one_eq_true_iff_self_eq_zero.elim (by
          cases q : Nat.testBit 1 x <;> simp [Nat.testBit_one_eq_true_iff_self_eq_zero] at * <;> simp_all)
        rw [h1] at hx
        exact absurd (of_decide_eq_true hx) e
    subst this
    exact .here) (fun j hj => by rw [Nat.zero_testBit] at hj; cases hj) (.inr (Nat.zero_le _)) (fun hd => by omega)
  simpa using this
end

/-! ### knots, by a list that grows -/
theorem nodup_bound : ∀ (n : Nat) (F : List Nat), F.Nodup → (∀ x ∈ F, x < n) → F.length ≤ n
  | 0, F, _, h => by
    cases F with
    | nil => simp
    | cons x F => exact absurd (h x (by simp)) (by omega)
  | n + 1, F, hn, h => by
    have h1 : (F.filter fun x => x != n).length ≤ n := nodup_bound n _ (hn.filter _) (fun x hx => by
      have := List.mem_filter.1 hx
      have h2 := h x this.1
      have h3 : x ≠ n := by simpa using this.2
      omega)
    have h2 : F.length ≤ (F.filter fun x => x != n).length + 1 := by
      clear h h1
      induction F with
      | nil => simp
      | cons x F ih =>
        have hx := List.nodup_cons.1 hn
        by_cases e : x = n
        · subst e
          have : F.filter (fun y => y != x) = F := List.filter_eq_self.2 (fun y hy => by
            have : y ≠ x := fun q => hx.1 (q ▸ hy)
            simpa using this)
          rw [List.filter_cons_of_neg (by simp), this, List.length_cons]
          omega
        · rw [List.filter_cons_of_pos (by simpa using e), List.length_cons, List.length_cons]
          have := ih hx.2
          omega
    omega
/-- Knots as Go's whole numbers. -/
def cz (F : List Nat) : List Int := F.map fun x : Nat => (x : Int)
theorem cz_length (F : List Nat) : (cz F).length = F.length := by simp [cz]
theorem cz_snoc (F : List Nat) (x : Nat) : cz F ++ [(x : Int)] = cz (F ++ [x]) := by simp [cz]
theorem cz_rd (F : List Nat) (i : Nat) (h : i < F.length) : rd (cz F) (i : Int) = (F[i] : Int) := by
  simp [rd, cz, List.getD_eq_getElem?_getD, h]
theorem has_l (F : List Nat) (x : Nat) (hF : F.length < 2 ^ 60) : ∀ (d j : Nat), j + d = F.length → Ev (fun k => spec_l1Has.l0 k (x : Int) (cz F) ((cz F).length : Int) (j : Int)) (decide (x ∈ F.drop j)) := by
  intro d
  induction d with
  | zero =>
    intro j hj
    have c : ¬ (j : Int) < ((cz F).length : Int) := by rw [cz_length]; omega
    rw [List.drop_eq_nil_of_le (by omega)]
    refine Ev.step (fun k => ?_) (Ev.now _)
    simp only [spec_l1Has.l0, if_neg c]
    simp
  | succ d ih =>
    intro j hj
    have g1 : (j : Int) < ((cz F).length : Int) := by rw [cz_length]; omega
    have g2 : (0 : Int) ≤ (j : Int) := Int.natCast_nonneg _
    have hjl : j < F.length := by omega
    rw [List.drop_eq_getElem_cons hjl]
    by_cases e : F[j] = x
    · refine Ev.step (fun k => ?_) (Ev.now _)
      simp only [spec_l1Has.l0, if_pos g1, if_pos g2, cz_rd F j hjl, e, if_true]
      simp
    · have e' : ¬ (F[j] : Int) = (x : Int) := by omega
      have hd : decide (x ∈ F[j] :: F.drop (j + 1)) = decide (x ∈ F.drop (j + 1)) := by
        have : ¬ x = F[j] := fun q => e q.symm
        exact decide_eq_decide.2 ⟨fun q => (List.mem_cons.1 q).resolve_left this, List.mem_cons_of_mem _⟩
      have hw : wrap64 ((j : Int) + 1) = ((j + 1 : Nat) : Int) := wsucc j (by omega)
      rw [hd]
      refine Ev.step (fun k => ?_) (ih (j + 1) (by clear hw; omega))
      simp only [spec_l1Has.l0, if_pos g1, if_pos g2, cz_rd F j hjl, if_neg e', hw]
theorem has_ev (F : List Nat) (x : Nat) (hF : F.length < 2 ^ 60) : Ev (fun k => spec_l1Has.f k (cz F) (x : Int)) (decide (x ∈ F)) := by
  have := has_l F x hF F.length 0 (by omega)
  rwa [List.drop_zero] at this
section
variable (l : List S38) (h : Ok l) (M a : Nat)
/-- What is found so far. -/
structure Inv (l : List S38) (M a : Nat) (F : List Nat) : Prop where
  nodup : F.Nodup
  le12 : ∀ x ∈ F, x < 13
  ok : ∀ x ∈ F, Hangs l.length (kA l) (kB l) M a x
theorem Inv.len {l : List S38} {M a : Nat} {F : List Nat} (q : Inv l M a F) : F.length ≤ 13 := nodup_bound 13 F q.nodup q.le12
theorem Inv.snoc {l : List S38} {M a : Nat} {F : List Nat} (q : Inv l M a F) {x : Nat} (hx : x ∉ F) (h12 : x < 13) (hr : Hangs l.length (kA l) (kB l) M a x) : Inv l M a (F ++ [x]) := by
  refine ⟨?_, fun y hy => ?_, fun y hy => ?_⟩
  · rw [List.nodup_append]
    refine ⟨q.nodup, by simp, fun y hy z hz => ?_⟩
    have : z = x := by simpa using hz
    subst this
    exact fun e => hx (e ▸ hy)
  · rcases List.mem_append.1 hy with hy | hy
    · exact q.le12 y hy
    · have : y = x := by simpa using hy
      subst this; exact h12
  · rcases List.mem_append.1 hy with hy | hy
    · exact q.ok y hy
    · have : y = x := by simpa using hy
      subst this; exact hr
include h
theorem knots_in (kk v : Nat) : ∀ (d i : Nat) (F : List Nat), i + d = l.length → Inv l M a F → ∀ hk : kk < F.length, F[kk] = v →
    ∃ F' : List Nat, Inv l M a F' ∧ F <+: F' ∧ (∀ j, i ≤ j → j < l.length → M.testBit j = true → (kA l j = v → kB l j ∈ F') ∧ (kB l j = v → kA l j ∈ F')) ∧
      ∀ r, Ev (fun k => spec_grKnots.l0 k l (bl l.length M) (cz F') ((kk + 1 : Nat) : Int)) r → Ev (fun k => spec_grKnots.l1 k l (bl l.length M) (cz F) (kk : Int) l (l.length : Int) (i : Int)) r := by
  have hlen := h.len
  intro d
  induction d with
  | zero =>
    intro i F hi q hk hv
    have c : ¬ (i : Int) < (l.length : Int) := by omega
    have hkk := q.len
    have hw : wrap64 ((kk : Int) + 1) = ((kk + 1 : Nat) : Int) := wsucc kk (by omega)
    refine ⟨F, q, List.prefix_refl _, fun j h1 h2 => by clear hw; omega, fun r he => Ev.step (fun k => ?_) he⟩
    simp only [spec_grKnots.l1, if_neg c, hw]
  | succ d ih =>
    intro i F hi q hk hv
    have hq := q.len
    have g1 : (i : Int) < (l.length : Int) := by omega
    have g2 : (0 : Int) ≤ (i : Int) := Int.natCast_nonneg _
    have hil : i < l.length := by omega
    have g3 : (i : Int) < ((bl l.length M).length : Int) := by rw [bl_length]; exact g1
    have g4 : (0 : Int) ≤ (kk : Int) := Int.natCast_nonneg _
    have g5 : (kk : Int) < ((cz F).length : Int) := by rw [cz_length]; omega
    have g6 : (cz F).length < 17592186044416 := by rw [cz_length]; omega
    have hbl := bl_rd l.length M i hil
    have hrv : rd (cz F) (kk : Int) = (v : Int) := by rw [cz_rd F kk hk, hv]
    have hvF : v ∈ F := by rw [← hv]; exact List.getElem_mem hk
    have hw : wrap64 ((i : Int) + 1) = ((i + 1 : Nat) : Int) := wsucc i (by omega)
    cases hm : M.testBit i with
    | false =>
      obtain ⟨F', p1, p2, p3, p4⟩ := ih (i + 1) F (by clear hw; omega) q hk hv
      refine ⟨F', p1, p2, fun j h1 h2 h3 => ?_, fun r he => Ev.step (fun k => ?_) (p4 r he)⟩
      · by_cases e : j = i
        · subst e; rw [hm] at h3; cases h3
        · exact p3 j (by clear hw; omega) h2 h3
      · simp only [spec_grKnots.l1, if_pos g1, if_pos g2, if_pos g3, hbl, hm, Bool.false_eq_true, if_false, hw]
    | true =>
      have hb13 : kB l i < 13 := by have := h.B12 i; clear hw; omega
      have ha13 : kA l i < 13 := by have := h.A12 i; clear hw; omega
      -- what is done with the twig: the list behind it, and that the walk goes on from there
      have key : ∃ F1 : List Nat, Inv l M a F1 ∧ F <+: F1 ∧ (kA l i = v → kB l i ∈ F1) ∧ (kB l i = v → kA l i ∈ F1) ∧
          ∀ r, Ev (fun k => spec_grKnots.l1 k l (bl l.length M) (cz F1) (kk : Int) l (l.length : Int) ((i + 1 : Nat) : Int)) r → Ev (fun k => spec_grKnots.l1 k l (bl l.length M) (cz F) (kk : Int) l (l.length : Int) (i : Int)) r := by
        have hasB := has_ev F (kB l i) (by clear hw; omega)
        have hasA := has_ev F (kA l i) (by clear hw; omega)
        by_cases eA : kA l i = v
        · have eA' : ((kA l i : Nat) : Int) = (v : Int) := by rw [eA]
          by_cases mB : kB l i ∈ F
          · -- nothing new
            refine ⟨F, q, List.prefix_refl _, fun _ => mB, fun _ => eA ▸ hvF, fun r he => Ev.step (f := ?fu1) (fun k => ?eu1) ?vu1⟩
            case eu1 => conv => lhs; simp only [spec_grKnots.l1, if_pos g1, if_pos g2, if_pos g3, hbl, hm, if_true, if_pos g4, if_pos g5, hrv, h.fA, h.fB, if_pos eA']
            case vu1 =>
              refine Ev.bind hasB ?_
              rw [decide_eq_true mB]
              by_cases eB : kB l i = v
              · have eB' : ((kB l i : Nat) : Int) = (v : Int) := by rw [eB]
                refine Ev.step (f := ?f2u2) (fun k => ?e2u2) ?v2u2
                case e2u2 => conv => lhs; simp only [spec_grKnots.j2, Bool.not_true, Bool.false_eq_true, if_false, if_pos g4, if_pos g5, hrv, if_pos eB']
                case v2u2 =>
                  refine Ev.bind hasA ?_
                  rw [decide_eq_true (eA ▸ hvF)]
                  simp only [if_true, hw]
                  exact he
              · have eB' : ¬ ((kB l i : Nat) : Int) = (v : Int) := by clear hw; omega
                refine Ev.step (fun k => ?_) he
                simp only [spec_grKnots.j2, Bool.not_true, Bool.false_eq_true, if_false, if_pos g4, if_pos g5, hrv, if_neg eB', hw]
          · have nB : kB l i ≠ v := fun e => mB (e ▸ hvF)
            have eB' : ¬ ((kB l i : Nat) : Int) = (v : Int) := by clear hw; omega
            have hr : Hangs l.length (kA l) (kB l) M a (kB l i) := .up hil hm (eA ▸ q.ok v hvF)
            have q1 := q.snoc mB hb13 hr
            have g5' : (kk : Int) < ((cz (F ++ [kB l i])).length : Int) := by rw [cz_length, List.length_append]; clear hw; omega
            have hrv' : rd (cz (F ++ [kB l i])) (kk : Int) = (v : Int) := by
              rw [cz_rd _ kk (by rw [List.length_append]; clear hw; omega), List.getElem_append_left hk, hv]
            refine ⟨F ++ [kB l i], q1, List.prefix_append _ _, fun _ => by simp, fun e => absurd e nB, fun r he => Ev.step (f := ?fu3) (fun k => ?eu3) ?vu3⟩
            case eu3 => conv => lhs; simp only [spec_grKnots.l1, if_pos g1, if_pos g2, if_pos g3, hbl, hm, if_true, if_pos g4, if_pos g5, hrv, h.fA, h.fB, if_pos eA']
            case vu3 =>
              refine Ev.bind hasB ?_
              rw [decide_eq_false mB]
              refine Ev.step (fun k => ?_) he
              simp only [spec_grKnots.j2, Bool.not_false, if_true, if_pos g6, cz_snoc, Option.bind_some, if_pos g4, if_pos g5', hrv', if_neg eB', hw]
        · have eA' : ¬ ((kA l i : Nat) : Int) = (v : Int) := by clear hw; omega
          by_cases eB : kB l i = v
          · have eB' : ((kB l i : Nat) : Int) = (v : Int) := by rw [eB]
            by_cases mA : kA l i ∈ F
            · refine ⟨F, q, List.prefix_refl _, fun e => absurd e eA, fun _ => mA, fun r he => Ev.step (f := ?fu4) (fun k => ?eu4) ?vu4⟩
              case eu4 => conv => lhs; simp only [spec_grKnots.l1, if_pos g1, if_pos g2, if_pos g3, hbl, hm, if_true, if_pos g4, if_pos g5, hrv, h.fA, h.fB, if_neg eA']
              case vu4 =>
                refine Ev.step (f := ?f2u5) (fun k => ?e2u5) ?v2u5
                case e2u5 => conv => lhs; simp only [spec_grKnots.j2, Bool.false_eq_true, if_false, if_pos g4, if_pos g5, hrv, if_pos eB']
                case v2u5 =>
                  refine Ev.bind hasA ?_
                  rw [decide_eq_true mA]
                  simp only [if_true, hw]
                  exact he
            · have hr : Hangs l.length (kA l) (kB l) M a (kA l i) := .down hil hm (eB ▸ q.ok v hvF)
              refine ⟨F ++ [kA l i], q.snoc mA ha13 hr, List.prefix_append _ _, fun e => absurd e eA, fun _ => by simp, fun r he => Ev.step (f := ?fu6) (fun k => ?eu6) ?vu6⟩
              case eu6 => conv => lhs; simp only [spec_grKnots.l1, if_pos g1, if_pos g2, if_pos g3, hbl, hm, if_true, if_pos g4, if_pos g5, hrv, h.fA, h.fB, if_neg eA']
              case vu6 =>
                refine Ev.step (f := ?f2u7) (fun k => ?e2u7) ?v2u7
                case e2u7 => conv => lhs; simp only [spec_grKnots.j2, Bool.false_eq_true, if_false, if_pos g4, if_pos g5, hrv, if_pos eB']
                case v2u7 =>
                  refine Ev.bind hasA ?_
                  rw [decide_eq_false mA]
                  simp only [Bool.false_eq_true, if_false, if_pos g6, cz_snoc, hw]
                  exact he
          · have eB' : ¬ ((kB l i : Nat) : Int) = (v : Int) := by clear hw; omega
            refine ⟨F, q, List.prefix_refl _, fun e => absurd e eA, fun e => absurd e eB, fun r he => Ev.step (f := ?fu8) (fun k => ?eu8) ?vu8⟩
            case eu8 => conv => lhs; simp only [spec_grKnots.l1, if_pos g1, if_pos g2, if_pos g3, hbl, hm, if_true, if_pos g4, if_pos g5, hrv, h.fA, h.fB, if_neg eA']
            case vu8 =>
              refine Ev.step (fun k => ?_) he
              simp only [spec_grKnots.j2, Bool.false_eq_true, if_false, if_pos g4, if_pos g5, hrv, if_neg eB', hw]
      obtain ⟨F1, q1, pre, d1, d2, next⟩ := key
      have hk1 : kk < F1.length := Nat.lt_of_lt_of_le hk pre.length_le
      have hv1 : F1[kk] = v := by
        obtain ⟨t, rfl⟩ := pre
        rw [List.getElem_append_left hk, hv]
      obtain ⟨F', p1, p2, p3, p4⟩ := ih (i + 1) F1 (by clear hw; omega) q1 hk1 hv1
      refine ⟨F', p1, pre.trans p2, fun j h1 h2 h3 => ?_, fun r he => next r (p4 r he)⟩
      by_cases e : j = i
      · subst e; exact ⟨fun e => p2.subset (d1 e), fun e => p2.subset (d2 e)⟩
      · exact p3 j (by clear hw; omega) h2 h3
theorem knots_out : ∀ (d kk : Nat) (F : List Nat), kk + d = 13 → Inv l M a F → a ∈ F → kk ≤ F.length →
    (∀ m, m < kk → ∀ hm : m < F.length, ∀ j, j < l.length → M.testBit j = true → (kA l j = F[m] → kB l j ∈ F) ∧ (kB l j = F[m] → kA l j ∈ F)) →
    ∃ R : List Nat, Ev (fun k => spec_grKnots.l0 k l (bl l.length M) (cz F) (kk : Int)) (cz R) ∧ R.length ≤ 13 ∧ ∀ x, x ∈ R ↔ Hangs l.length (kA l) (kB l) M a x := by
  have stop : ∀ (kk : Nat) (F : List Nat), Inv l M a F → a ∈ F → kk = F.length →
      (∀ m, m < kk → ∀ hm : m < F.length, ∀ j, j < l.length → M.testBit j = true → (kA l j = F[m] → kB l j ∈ F) ∧ (kB l j = F[m] → kA l j ∈ F)) →
      ∃ R : List Nat, Ev (fun k => spec_grKnots.l0 k l (bl l.length M) (cz F) (kk : Int)) (cz R) ∧ R.length ≤ 13 ∧ ∀ x, x ∈ R ↔ Hangs l.length (kA l) (kB l) M a x := by
    intro kk F q ha hk hd
    have c : ¬ (kk : Int) < ((cz F).length : Int) := by rw [cz_length]; omega
    refine ⟨F, Ev.step (fun k => ?_) (Ev.now _), q.len, fun x => ⟨q.ok x, fun hx => ?_⟩⟩
    · simp only [spec_grKnots.l0, if_neg c]
    · induction hx with
      | here => exact ha
      | up hi hM _ ih =>
        obtain ⟨m, hm, e⟩ := List.mem_iff_getElem.1 ih
        exact (hd m (by omega) hm _ hi hM).1 e.symm
      | down hi hM _ ih =>
        obtain ⟨m, hm, e⟩ := List.mem_iff_getElem.1 ih
        exact (hd m (by omega) hm _ hi hM).2 e.symm
  intro d
  induction d with
  | zero =>
    intro kk F hk q ha hkl hd
    have := q.len
    exact stop kk F q ha (by omega) hd
  | succ d ih =>
    intro kk F hk q ha hkl hd
    by_cases hlt : kk < F.length
    · have g : (kk : Int) < ((cz F).length : Int) := by rw [cz_length]; omega
      obtain ⟨F', p1, p2, p3, p4⟩ := knots_in l h M a kk F[kk] l.length 0 F (by omega) q hlt rfl
      have hl' := p2.length_le
      obtain ⟨R, r1, r2⟩ := ih (kk + 1) F' (by omega) p1 (p2.subset ha) (by omega) (fun m hm hm' j hj hM => by
        obtain ⟨t, rfl⟩ := p2
        by_cases e : m = kk
        · subst e
          rw [List.getElem_append_left hlt]
          exact p3 j (Nat.zero_le _) hj hM
        · have hmF : m < F.length := by omega
          rw [List.getElem_append_left hmF]
          have := hd m (by omega) hmF j hj hM
          exact ⟨fun e => List.mem_append_left _ (this.1 e), fun e => List.mem_append_left _ (this.2 e)⟩)
      refine ⟨R, Ev.step (fun k => ?_) (p4 _ r1), r2⟩
      simp only [spec_grKnots.l0, if_pos g]
      rfl
    · exact stop kk F q ha (by omega) hd
theorem knots_ev (ha : a < 13) : ∃ R : List Nat, Ev (fun k => spec_grKnots.f k l (bl l.length M) (a : Int)) (cz R) ∧ R.length ≤ 13 ∧ ∀ x, x ∈ R ↔ Hangs l.length (kA l) (kB l) M a x :=
  knots_out l h M a 13 0 [a] (by omega)
    ⟨by simp, fun x hx => (show x < 13 from by rw [List.mem_singleton.1 hx]; exact ha), fun x hx => (by rw [List.mem_singleton.1 hx]; exact .here)⟩ (by simp) (by simp) (fun m hm => by omega)
end

/-! ### the same by lists of bools; what is chosen -/
theorem bl_succ (n M : Nat) : bl (n + 1) M = bl n M ++ [M.testBit n] := by simp [bl, List.range_succ]
theorem ground_l (l : List S38) (h : Ok l) (M : Nat) (R : List Nat) (hR : R.length ≤ 13) (hm : ∀ x, x ∈ R ↔ Hangs l.length (kA l) (kB l) M 0 x) : ∀ (d i : Nat), i + d = l.length →
    Ev (fun k => spec_grGround.l0 k (bl l.length M) (cz R) (bl i (gm l M)) l (l.length : Int) (i : Int)) (bl l.length (gm l M)) := by
  have hlen := h.len
  intro d
  induction d with
  | zero =>
    intro i hi
    have c : ¬ (i : Int) < (l.length : Int) := by omega
    have e : i = l.length := by omega
    subst e
    refine Ev.step (fun k => ?_) (Ev.now _)
    simp only [spec_grGround.l0, if_neg c]
  | succ d ih =>
    intro i hi
    have g1 : (i : Int) < (l.length : Int) := by omega
    have g2 : (0 : Int) ≤ (i : Int) := Int.natCast_nonneg _
    have hil : i < l.length := by omega
    have g3 : (i : Int) < ((bl l.length M).length : Int) := by rw [bl_length]; exact g1
    have g4 : (bl i (gm l M)).length < 140737488355328 := by rw [bl_length]; omega
    have hbl := bl_rd l.length M i hil
    have hw : wrap64 ((i : Int) + 1) = ((i + 1 : Nat) : Int) := wsucc i (by omega)
    have hg : (gm l M).testBit i = (M.testBit i && reachB l.length (kA l) (kB l) M 0 (kA l i)) := by
      rw [gm, mk_bit, decide_eq_true hil, Bool.true_and]
    have next := ih (i + 1) (by clear hw; omega)
    rw [bl_succ, hg] at next
    cases hM : M.testBit i with
    | false =>
      rw [hM, Bool.false_and] at next
      refine Ev.step (fun k => ?_) next
      simp only [spec_grGround.l0, if_pos g1, if_pos g2, if_pos g3, hbl, hM, Bool.false_eq_true, if_false, if_pos g4, hw]
    | true =>
      rw [hM, Bool.true_and] at next
      have hb : reachB l.length (kA l) (kB l) M 0 (kA l i) = decide (kA l i ∈ R) := by
        cases q : reachB l.length (kA l) (kB l) M 0 (kA l i) with
        | true => exact (decide_eq_true ((hm _).2 (reachB_iff.1 q))).symm
        | false =>
          refine (decide_eq_false fun z => ?_).symm
          have := reachB_iff.2 ((hm _).1 z)
          rw [q] at this
          cases this
      rw [hb] at next
      refine Ev.step (f := ?fu1) (fun k => ?eu1) ?vu1
      case eu1 => conv => lhs; simp only [spec_grGround.l0, if_pos g1, if_pos g2, if_pos g3, hbl, hM, if_true, h.fA, if_pos g4, hw]
      case vu1 => exact Ev.bind (has_ev R (kA l i) (by clear hw; omega)) next
theorem ground_ev (l : List S38) (h : Ok l) (M : Nat) : Ev (fun k => spec_grGround.f k l (bl l.length M)) (bl l.length (gm l M)) := by
  obtain ⟨R, r1, r2, r3⟩ := knots_ev l h M 0 (by decide)
  unfold spec_grGround.f
  exact Ev.bind r1 (ground_l l h M R r2 r3 l.length 0 (by omega))
/-- All twigs. -/
def am (n : Nat) : Nat := mk n fun _ => true
theorem all_l (n : Nat) (hn : n ≤ 14) : ∀ (d i : Nat), i + d = n → Ev (fun k => spec_grAll.l0 k (bl i (am n)) (n : Int) (i : Int)) (bl n (am n)) := by
  intro d
  induction d with
  | zero =>
    intro i hi
    have c : ¬ (i : Int) < (n : Int) := by omega
    have e : i = n := by omega
    subst e
    refine Ev.step (fun k => ?_) (Ev.now _)
    simp only [spec_grAll.l0, if_neg c]
  | succ d ih =>
    intro i hi
    have g1 : (i : Int) < (n : Int) := by omega
    have g4 : (bl i (am n)).length < 140737488355328 := by rw [bl_length]; omega
    have hg : (am n).testBit i = true := by rw [am, mk_bit, decide_eq_true (by omega)]; rfl
    have next := ih (i + 1) (by omega)
    rw [bl_succ, hg] at next
    have hw : wrap64 ((i : Int) + 1) = ((i + 1 : Nat) : Int) := wsucc i (by omega)
    refine Ev.step (fun k => ?_) next
    simp only [spec_grAll.l0, if_pos g1, if_pos g4, hw]
theorem specAll_ev (l : List S38) (h : Ok l) : Ev (fun k => spec_grAll.f k l) (bl l.length (am l.length)) := all_l l.length h.len l.length 0 (by omega)
theorem am_eq (n : Nat) : am n = 2 ^ n - 1 := by
  apply bits_ext
  intro j
  rw [am, mk_bit, Bool.and_true, Nat.testBit_two_pow_sub_one]
theorem implAll (l : List S38) (h : Ok l) : impl_all.f l = some ((am l.length : Nat) : Int) := by
  have hlen := h.len
  have hp : 2 ^ l.length ≤ 2 ^ 14 := Nat.pow_le_pow_right (by decide) hlen
  have h1 : 1 ≤ 2 ^ l.length := Nat.two_pow_pos _
  unfold impl_all.f
  rw [shl_one l.length (by omega), am_eq]
  congr 1
  have e : ((2 ^ l.length : Nat) : Int) - 1 = ((2 ^ l.length - 1 : Nat) : Int) := by omega
  rw [e]
  exact u64_small _ (by omega)
theorem am_lt (n : Nat) (h : n ≤ 14) : am n < 2 ^ 64 := Nat.lt_of_lt_of_le (mk_lt _ _) (Nat.pow_le_pow_right (by decide) (by omega))
theorem gm_lt (l : List S38) (h : Ok l) (M : Nat) : gm l M < 2 ^ 64 := Nat.lt_of_lt_of_le (mk_lt _ _) (Nat.pow_le_pow_right (by decide) (by have := h.len; omega))

/-! ### a twig is cut -/
theorem bl_set (n M c i : Nat) (hc : ∀ j, c.testBit j = (M.testBit j && !decide (j = i))) : (bl n M).set i false = bl n c := by
  apply List.ext_getElem?
  intro j
  rw [List.getElem?_set]
  by_cases e : i = j
  · subst e
    rw [if_pos rfl, bl_length]
    by_cases h : i < n
    · rw [if_pos h]
      simp [bl, h, hc]
    · rw [if_neg h, List.getElem?_eq_none (by rw [bl_length]; omega)]
  · rw [if_neg e]
    have : ¬ j = i := fun q => e q.symm
    by_cases hj : j < n
    · simp [bl, hc, this, hj]
    · rw [List.getElem?_eq_none (by rw [bl_length]; omega), List.getElem?_eq_none (by rw [bl_length]; omega)]
theorem minus_u (M i : Nat) (hM : M < 2 ^ 64) (hi : i < 64) : ∃ c : Nat, bits .andNot .u64 (M : Int) (shl .u64 1 (i : Int)) = (c : Int) ∧ c < 2 ^ 64 ∧ ∀ j, c.testBit j = (M.testBit j && !decide (j = i)) := by
  obtain ⟨c, h1, h2, h3⟩ := andNot_u M (2 ^ i) hM
  refine ⟨c, by rw [shl_one i hi]; exact h1, h2, fun j => ?_⟩
  rw [h3, Nat.testBit_two_pow]
  congr 2
  exact decide_eq_decide.2 ⟨fun h => h.symm, fun h => h.symm⟩

/-! ### what hangs together with a knot, by bits -/
section
variable (l : List S38) (h : Ok l) (M a : Nat) (hM : M < 2 ^ 64)
include h hM
theorem hung_in : ∀ (d i S : Nat), i + d = l.length → S < 2 ^ 13 → (∀ x, S.testBit x = true → Hangs l.length (kA l) (kB l) M a x) →
    ∃ S' : Nat, S' < 2 ^ 13 ∧ Rnd l.length (kA l) (kB l) M a i S S' ∧
      ∀ (T c r : Int), Ev (fun k => impl_hung.l0 k l (M : Int) (S' : Int) T (wrap64 (c + 1))) r → Ev (fun k => impl_hung.l1 k l (M : Int) (S : Int) T c l (l.length : Int) (i : Int)) r := by
  have hlen := h.len
  intro d
  induction d with
  | zero =>
    intro i S hi hS hr
    have c : ¬ (i : Int) < (l.length : Int) := by omega
    refine ⟨S, hS, rnd_end (by omega) hr, fun T c' r he => Ev.step (fun k => ?_) he⟩
    simp only [impl_hung.l1, if_neg c]
  | succ d ih =>
    intro i S hi hS hr
    have g1 : (i : Int) < (l.length : Int) := by omega
    have g2 : (0 : Int) ≤ (i : Int) := Int.natCast_nonneg _
    have hil : i < l.length := by omega
    have gA : (0 : Int) ≤ (kA l i : Int) := Int.natCast_nonneg _
    have gB : (0 : Int) ≤ (kB l i : Int) := Int.natCast_nonneg _
    have hA := h.A12 i
    have hB := h.B12 i
    have hS64 : S < 2 ^ 64 := Nat.lt_trans hS (by decide)
    have bM := bit1 M i hM (by omega)
    have bA := bit1 S (kA l i) hS64 (by omega)
    have bB := bit1 S (kB l i) hS64 (by omega)
    have aS := add_u S (kA l i) (kB l i) hS64 (by omega) (by omega)
    have hw : wrap64 ((i : Int) + 1) = ((i + 1 : Nat) : Int) := wsucc i (by omega)
    cases hm : M.testBit i with
    | false =>
      obtain ⟨S', p1, p3, p7⟩ := ih (i + 1) S (by clear hw; omega) hS hr
      refine ⟨S', p1, rnd_skip p3 (fun q => by rw [hm] at q; cases q), fun T c r he => Ev.step (fun k => ?_) (p7 T c r he)⟩
      simp only [impl_hung.l1, if_pos g1, if_pos g2, bM, hm, Bool.false_eq_true, if_false, hw]
    | true =>
      by_cases ht : S.testBit (kA l i) = true ∨ S.testBit (kB l i) = true
      · obtain ⟨S', p1, p3, p7⟩ := ih (i + 1) (S ||| (2 ^ kA l i ||| 2 ^ kB l i)) (by clear hw; omega) (or13 hS hA hB) (add_ok hil hm ht hr)
        refine ⟨S', p1, rnd_add hil hm ht p3, fun T c r he => Ev.step (fun k => ?_) (p7 T c r he)⟩
        cases hx : S.testBit (kA l i) with
        | true => simp only [impl_hung.l1, if_pos g1, if_pos g2, bM, hm, if_true, h.fA, h.fB, if_pos gA, if_pos gB, bA, hx, aS, hw]
        | false =>
          have hy : S.testBit (kB l i) = true := ht.resolve_left (by rw [hx]; simp)
          simp only [impl_hung.l1, if_pos g1, if_pos g2, bM, hm, if_true, h.fA, h.fB, if_pos gA, if_pos gB, bA, hx, bB, hy, Bool.false_eq_true, if_false, aS, hw]
      · obtain ⟨S', p1, p3, p7⟩ := ih (i + 1) S (by clear hw; omega) hS hr
        refine ⟨S', p1, rnd_skip p3 (fun _ => ht), fun T c r he => Ev.step (fun k => ?_) (p7 T c r he)⟩
        have hx : S.testBit (kA l i) = false := by
          cases q : S.testBit (kA l i)
          · rfl
          · exact absurd (.inl q) ht
        have hy : S.testBit (kB l i) = false := by
          cases q : S.testBit (kB l i)
          · rfl
          · exact absurd (.inr q) ht
        simp only [impl_hung.l1, if_pos g1, if_pos g2, bM, hm, if_true, h.fA, h.fB, if_pos gA, if_pos gB, bA, hx, bB, hy, Bool.false_eq_true, if_false, hw]
/-- The knots that hang together with one. -/
noncomputable def hgk (l : List S38) (M a : Nat) : Nat := mk 13 (reachB l.length (kA l) (kB l) M a)
theorem hung_out : ∀ (d c S : Nat), c + d = l.length → S < 2 ^ 13 → S.testBit a = true → (∀ x, S.testBit x = true → Hangs l.length (kA l) (kB l) M a x) →
    (Closed l.length (kA l) (kB l) M S ∨ c ≤ used l.length (kA l) (kB l) M S) →
    Ev (fun k => impl_hung.l0 k l (M : Int) (S : Int) (l.length : Int) (c : Int)) ((hgk l M a : Nat) : Int) := by
  have hlen := h.len
  intro d
  induction d with
  | zero =>
    intro c S hc hS h0 hr hcl
    have g : ¬ (c : Int) < (l.length : Int) := by omega
    have hcn : Closed l.length (kA l) (kB l) M S := hcl.elim id (fun q => used_full (by omega))
    have e : S = hgk l M a := reach_set hS hcn h0 hr
    rw [← e]
    refine Ev.step (fun k => ?_) (Ev.now _)
    simp only [impl_hung.l0, if_neg g]
  | succ d ih =>
    intro c S hc hS h0 hr hcl
    have g : (c : Int) < (l.length : Int) := by omega
    obtain ⟨S', p1, p3, p7⟩ := hung_in l h M a hM l.length 0 S (by omega) hS hr
    refine Ev.step (fun k => ?_) (p7 (l.length : Int) (c : Int) _ ?_)
    · simp only [impl_hung.l0, if_pos g]
      rfl
    · rw [wsucc c (by omega)]
      exact ih (c + 1) S' (by omega) p1 (p3.sub _ h0) p3.ok (rnd_round p3 h0 hcl)
theorem hung_ev (ha : a < 13) : Ev (fun k => impl_hung.f k l (M : Int) (a : Int)) ((hgk l M a : Nat) : Int) := by
  unfold impl_hung.f
  simp only [if_pos (Int.natCast_nonneg a), shl_one a (by omega)]
  refine hung_out l h M a hM l.length 0 (2 ^ a) (by omega) (Nat.pow_lt_pow_right (by decide) ha) (Nat.testBit_two_pow_self) (fun x hx => ?_) (.inr (Nat.zero_le _))
  have e : x = a := by
    rw [Nat.testBit_two_pow] at hx
    exact (of_decide_eq_true hx).symm
  subst e
  exact .here
end
theorem hm_lt (l : List S38) (M a : Nat) : hgk l M a < 2 ^ 64 := Nat.lt_of_lt_of_le (mk_lt _ _) (Nat.pow_le_pow_right (by decide) (by decide))
theorem hm_bit (l : List S38) (M a x : Nat) (hx : x < 13) : (hgk l M a).testBit x = reachB l.length (kA l) (kB l) M a x := by
  rw [hgk, mk_bit, decide_eq_true hx, Bool.true_and]

/-! ### bridges -/
/-- A set without one. -/
def mn (M i : Nat) : Nat := mk 64 fun j => M.testBit j && !decide (j = i)
theorem mn_bit (M i : Nat) (hM : M < 2 ^ 64) (j : Nat) : (mn M i).testBit j = (M.testBit j && !decide (j = i)) := by
  rw [mn, mk_bit]
  by_cases hj : j < 64
  · rw [decide_eq_true hj, Bool.true_and]
  · have : M.testBit j = false := Nat.testBit_lt_two_pow (Nat.lt_of_lt_of_le hM (Nat.pow_le_pow_right (by decide) (by omega)))
    rw [decide_eq_false hj, this]; rfl
theorem mn_lt (M i : Nat) : mn M i < 2 ^ 64 := mk_lt _ _
theorem minus_mn (M i : Nat) (hM : M < 2 ^ 64) (hi : i < 64) : bits .andNot .u64 (M : Int) (shl .u64 1 (i : Int)) = ((mn M i : Nat) : Int) := by
  obtain ⟨c, h1, _, h3⟩ := minus_u M i hM hi
  rw [h1]
  congr 1
  apply bits_ext
  intro j
  rw [h3, mn_bit M i hM]
/-- Is a twig of a set a bridge. -/
noncomputable def isB (l : List S38) (G i : Nat) : Bool := G.testBit i && !reachB l.length (kA l) (kB l) (mn G i) (kA l i) (kB l i)
noncomputable def bm (l : List S38) (G : Nat) : Nat := mk l.length (isB l G)
theorem bridge_ev (l : List S38) (h : Ok l) (G i : Nat) (hG : G < 2 ^ 64) (hi : i < l.length) : Ev (fun k => spec_grBridge.f k l (bl l.length G) (i : Int)) (!reachB l.length (kA l) (kB l) (mn G i) (kA l i) (kB l i)) := by
  have hlen := h.len
  have hA := h.A12 i
  have hB := h.B12 i
  obtain ⟨R, r1, r2, r3⟩ := knots_ev l h (mn G i) (kA l i) (by omega)
  have g1 : ([] : List Bool).length + (bl l.length G).length < 140737488355328 := by rw [bl_length]; simp; omega
  have g2 : (0 : Int) ≤ (i : Int) := Int.natCast_nonneg _
  have g3 : (i : Int) < (([] ++ bl l.length G : List Bool).length : Int) := by rw [List.nil_append, bl_length]; omega
  have g4 : (i : Int) < (l.length : Int) := by omega
  have hb : reachB l.length (kA l) (kB l) (mn G i) (kA l i) (kB l i) = decide (kB l i ∈ R) := by
    cases q : reachB l.length (kA l) (kB l) (mn G i) (kA l i) (kB l i) with
    | true => exact (decide_eq_true ((r3 _).2 (reachB_iff.1 q))).symm
    | false =>
      refine (decide_eq_false fun z => ?_).symm
      have := reachB_iff.2 ((r3 _).1 z)
      rw [q] at this
      cases this
  unfold spec_grBridge.f
  simp only [Option.bind_some, if_pos g1, if_pos g2, if_pos g3, if_pos g4, h.fA, h.fB]
  rw [List.nil_append, Int.toNat_natCast, bl_set l.length G (mn G i) i (mn_bit G i hG), hb]
  exact Ev.bind r1 (Ev.bind (has_ev R (kB l i) (by omega)) (Ev.now _))
theorem specBridges_l (l : List S38) (h : Ok l) (G : Nat) (hG : G < 2 ^ 64) : ∀ (d i : Nat), i + d = l.length →
    Ev (fun k => spec_grBridges.l0 k l (bl l.length G) (bl i (bm l G)) (l.length : Int) (i : Int)) (bl l.length (bm l G)) := by
  have hlen := h.len
  intro d
  induction d with
  | zero =>
    intro i hi
    have c : ¬ (i : Int) < (l.length : Int) := by omega
    have e : i = l.length := by omega
    subst e
    refine Ev.step (fun k => ?_) (Ev.now _)
    simp only [spec_grBridges.l0, if_neg c]
  | succ d ih =>
    intro i hi
    have g1 : (i : Int) < (l.length : Int) := by omega
    have g2 : (0 : Int) ≤ (i : Int) := Int.natCast_nonneg _
    have hil : i < l.length := by omega
    have g3 : (i : Int) < ((bl l.length G).length : Int) := by rw [bl_length]; exact g1
    have g4 : (bl i (bm l G)).length < 140737488355328 := by rw [bl_length]; omega
    have hbl := bl_rd l.length G i hil
    have hg : (bm l G).testBit i = isB l G i := by rw [bm, mk_bit, decide_eq_true hil, Bool.true_and]
    have next := ih (i + 1) (by omega)
    have hw : wrap64 ((i : Int) + 1) = ((i + 1 : Nat) : Int) := wsucc i (by omega)
    rw [bl_succ, hg, isB] at next
    cases hm : G.testBit i with
    | false =>
      rw [hm, Bool.false_and] at next
      refine Ev.step (fun k => ?_) next
      simp only [spec_grBridges.l0, if_pos g1, if_pos g2, if_pos g3, hbl, hm, Bool.false_eq_true, if_false, if_pos g4, hw]
    | true =>
      rw [hm, Bool.true_and] at next
      refine Ev.step (f := ?gga) (fun k => ?ggb) ?ggc
      case ggb => conv => lhs; simp only [spec_grBridges.l0, if_pos g1, if_pos g2, if_pos g3, hbl, hm, if_true, if_pos g4, hw]
      case ggc => exact Ev.bind (bridge_ev l h G i hG hil) next
theorem specBridges_ev (l : List S38) (h : Ok l) : Ev (fun k => spec_grBridges.f k l) (bl l.length (bm l (gm l (am l.length)))) := by
  unfold spec_grBridges.f
  exact Ev.bind (specAll_ev l h) (Ev.bind (ground_ev l h _) (specBridges_l l h _ (gm_lt l h _) l.length 0 (by omega)))
theorem mk_succ (n : Nat) (f : Nat → Bool) : mk (n + 1) f = mk n f ||| (if f n then 2 ^ n else 0) := rfl
theorem implBridges_l (l : List S38) (h : Ok l) (G : Nat) (hG : G < 2 ^ 64) : ∀ (d i : Nat), i + d = l.length →
    Ev (fun k => impl_bridges.l0 k l (G : Int) ((mk i (isB l G) : Nat) : Int) l (l.length : Int) (i : Int)) ((bm l G : Nat) : Int) := by
  have hlen := h.len
  intro d
  induction d with
  | zero =>
    intro i hi
    have c : ¬ (i : Int) < (l.length : Int) := by omega
    have e : i = l.length := by omega
    subst e
    refine Ev.step (fun k => ?_) (Ev.now _)
    simp only [impl_bridges.l0, if_neg c]
    rfl
  | succ d ih =>
    intro i hi
    have g1 : (i : Int) < (l.length : Int) := by omega
    have g2 : (0 : Int) ≤ (i : Int) := Int.natCast_nonneg _
    have hil : i < l.length := by omega
    have hi64 : i < 64 := by omega
    have hA := h.A12 i
    have hB := h.B12 i
    have gB : (0 : Int) ≤ (kB l i : Int) := Int.natCast_nonneg _
    have bM := bit1 G i hG hi64
    have b0 := bit0 (hgk l (mn G i) (kA l i)) (kB l i) (hm_lt l _ _) (by omega)
    rw [hm_bit l _ _ _ (by omega)] at b0
    have next := ih (i + 1) (by omega)
    have hev := hung_ev l h (mn G i) (kA l i) (mn_lt _ _) (by omega)
    have hlt : mk i (isB l G) < 2 ^ 64 := Nat.lt_of_lt_of_le (mk_lt _ _) (Nat.pow_le_pow_right (by decide) (by omega))
    have aO := add1_u (mk i (isB l G)) i hlt hi64
    have hw : wrap64 ((i : Int) + 1) = ((i + 1 : Nat) : Int) := wsucc i (by omega)
    rw [mk_succ] at next
    cases hm : G.testBit i with
    | false =>
      have hb : isB l G i = false := by rw [isB, hm]; rfl
      rw [hb, if_neg (by decide), Nat.or_zero] at next
      refine Ev.step (fun k => ?_) next
      simp only [impl_bridges.l0, if_pos g1, if_pos g2, bM, hm, Bool.false_eq_true, if_false, hw]
    | true =>
      refine Ev.step (f := ?gga) (fun k => ?ggb) ?ggc
      case ggb => conv => lhs; simp only [impl_bridges.l0, if_pos g1, if_pos g2, bM, hm, if_true, minus_mn G i hG hi64, h.fA, h.fB, if_pos gB, aO, hw]
      case ggc =>
        refine Ev.bind hev ?_
        simp only [b0]
        cases hr : reachB l.length (kA l) (kB l) (mn G i) (kA l i) (kB l i) with
        | false =>
          have hb : isB l G i = true := by rw [isB, hm, hr]; rfl
          rw [hb, if_pos rfl] at next
          simp only [if_true]
          exact next
        | true =>
          have hb : isB l G i = false := by rw [isB, hm, hr]; rfl
          rw [hb, if_neg (by decide), Nat.or_zero] at next
          simp only [Bool.true_eq_false, if_false]
          exact next
theorem implBridges_ev (l : List S38) (h : Ok l) : Ev (fun k => impl_bridges.f k l) ((bm l (gm l (am l.length)) : Nat) : Int) := by
  unfold impl_bridges.f
  simp only [implAll l h, Option.bind_some]
  exact Ev.bind (grounded_ev l h _ (am_lt _ h.len)) (implBridges_l l h _ (gm_lt l h _) l.length 0 (by omega))

/-! ### marks in a list of numbers, and marks that are held -/
theorem markIntS_l : ∀ (d i m : Nat) (xs : List Int), i + d = xs.length → m + d < 2 ^ 61 → xs.length < 2 ^ 61 →
    ∃ ys : List Int, Ev (fun k => laws_markIntS.l0 k xs (m : Int) (i : Int)) (((m + d : Nat) : Int), ys) ∧ ys.length = xs.length ∧ (∀ j, j < i → ys[j]? = xs[j]?) ∧
      Ev (fun k => laws_heldIntS.l0 k ys (m : Int) (i : Int)) ((m + d : Nat) : Int) := by
  intro d
  induction d with
  | zero =>
    intro i m xs hi hm hx
    refine ⟨xs, Ev.step (fun k => ?_) (Ev.now _), rfl, fun _ _ => rfl, Ev.step (fun k => ?_) (Ev.now _)⟩
    · simp only [laws_markIntS.l0]
      rw [if_neg (by omega)]
      rfl
    · simp only [laws_heldIntS.l0]
      rw [if_neg (by omega)]
      rfl
  | succ d ih =>
    intro i m xs hi hm hx
    obtain ⟨ys, h1, h2, h3, h4⟩ := ih (i + 1) (m + 1) (xs.set i (m : Int)) (by rw [List.length_set]; omega) (by omega) (by rw [List.length_set]; omega)
    rw [List.length_set] at h2
    have e : m + 1 + d = m + (d + 1) := by omega
    rw [e] at h1 h4
    have g1 : (i : Int) < (xs.length : Int) := by omega
    have g1' : (i : Int) < (ys.length : Int) := by omega
    have g2 : (0 : Int) ≤ (i : Int) := Int.natCast_nonneg _
    have g3 : rd ys (i : Int) = (m : Int) := by
      have := h3 i (by omega)
      rw [List.getElem?_set_self (by omega)] at this
      simp [rd, List.getD_eq_getElem?_getD, this]
    refine ⟨ys, Ev.step (fun k => ?_) h1, h2, fun j hj => ?_, Ev.step (fun k => ?_) h4⟩
    · simp only [laws_markIntS.l0, if_pos g1, if_pos g2]
      rw [wsucc i (by omega), wsucc m (by omega), Int.toNat_natCast]
    · have := h3 j (by omega)
      rwa [List.getElem?_set_ne (by omega)] at this
    · simp only [laws_heldIntS.l0, if_pos g1', if_pos g2, g3, if_true]
      rw [wsucc i (by omega), wsucc m (by omega)]
theorem markIntS_ev (xs : List Int) (m : Nat) (h : xs.length + m < 2 ^ 60) : ∃ ys : List Int, Ev (fun k => laws_markIntS.f k xs (m : Int)) (((m + xs.length : Nat) : Int), ys) ∧ ys.length = xs.length ∧
    Ev (fun k => laws_heldIntS.f k ys (m : Int)) ((m + xs.length : Nat) : Int) := by
  obtain ⟨ys, h1, h2, _, h4⟩ := markIntS_l xs.length 0 m xs (by omega) (by omega) (by omega)
  exact ⟨ys, h1, h2, h4⟩

/-! ### marks in a list of twigs -/
theorem rd_set (xs : List S38) (i : Nat) (a : S38) (h : i < xs.length) : rd_T38 (xs.set i a) (i : Int) = a := by
  simp [rd_T38, List.getD_eq_getElem?_getD, List.getElem?_set_self h]
theorem markTOnly_l : ∀ (d i m : Nat) (xs : List S38), i + d = xs.length → m + 2 * d < 2 ^ 61 → xs.length < 2 ^ 61 →
    ∃ ys : List S38, Ev (fun k => laws_markTwigS.l0 k xs (m : Int) (i : Int)) (((m + 2 * d : Nat) : Int), ys) := by
  intro d
  induction d with
  | zero =>
    intro i m xs hi hm hx
    have c : ¬ (i : Int) < (xs.length : Int) := by omega
    refine ⟨xs, Ev.step (fun k => ?_) (Ev.now _)⟩
    simp only [laws_markTwigS.l0, if_neg c, Nat.mul_zero, Nat.add_zero]
  | succ d ih =>
    intro i m xs hi hm hx
    obtain ⟨ys, h1⟩ := ih (i + 1) (m + 2) (xs.set i ⟨(m : Int), ((m + 1 : Nat) : Int)⟩) (by rw [List.length_set]; omega) (by omega) (by rw [List.length_set]; omega)
    have e : m + 2 + 2 * d = m + 2 * (d + 1) := by omega
    rw [e] at h1
    have g1 : (i : Int) < (xs.length : Int) := by omega
    have g2 : (0 : Int) ≤ (i : Int) := Int.natCast_nonneg _
    have hil : i < xs.length := by omega
    refine ⟨ys, Ev.step (fun k => ?_) h1⟩
    have w1 : wrap64 ((i : Int) + 1) = ((i + 1 : Nat) : Int) := wsucc i (by omega)
    have w2 : wrap64 ((m : Int) + 1) = ((m + 1 : Nat) : Int) := wsucc m (by clear w1; omega)
    have w3 : wrap64 (((m + 1 : Nat) : Int) + 1) = ((m + 2 : Nat) : Int) := wsucc (m + 1) (by clear w1 w2; omega)
    simp only [laws_markTwigS.l0, if_pos g1, if_pos g2, Option.bind_some, Int.toNat_natCast, rd_set xs i _ hil, List.set_set, w1, w2, w3]
theorem markTOnly (xs : List S38) (h : xs.length ≤ 1048576) : ∃ ys : List S38, Ev (fun k => laws_markTwigS.f k xs 1) (((1 + 2 * xs.length : Nat) : Int), ys) :=
  markTOnly_l xs.length 0 1 xs (by omega) (by omega) (by omega)

theorem eqIntS_ev (x : List Int) (hx : x.length ≤ 17592186044416) : Ev (fun k => laws_eqIntS.f k x x) true := ⟨x.length + 1, fun k hk => eqIntS x hx k (by omega)⟩
/-- The members of a set below i, rising. -/
def up (M i : Nat) : List Int := ((List.range i).filter M.testBit).map Int.ofNat
theorem up_succ (M i : Nat) : up M (i + 1) = up M i ++ (if M.testBit i then [(i : Int)] else []) := by
  unfold up
  rw [List.range_succ, List.filter_append, List.map_append]
  cases h : M.testBit i <;> simp [h]
theorem up_len (M i : Nat) : (up M i).length ≤ i := by
  unfold up
  rw [List.length_map]
  exact Nat.le_trans (List.length_filter_le _ _) (by simp)
theorem up_skip (M : Nat) : ∀ (d i : Nat), (∀ j, i ≤ j → j < i + d → M.testBit j = false) → up M (i + d) = up M i
  | 0, _, _ => rfl
  | d + 1, i, h => by
    have := h (i + d) (by omega) (by omega)
    rw [← Nat.add_assoc, up_succ, this, up_skip M d i (fun j h1 h2 => h j h1 (by omega))]
    simp
theorem spec_l (n M : Nat) (hn : n ≤ 14) : ∀ (d i : Nat), i + d = n → Ev (fun k => spec_BridgesOf.l0 k (up M i) (bl n M) (n : Int) (i : Int)) (up M n, true) := by
  intro d
  induction d with
  | zero =>
    intro i hi
    have c : ¬ (i : Int) < (n : Int) := by omega
    obtain rfl : i = n := by omega
    refine Ev.step (fun k => ?_) (Ev.now _)
    simp only [spec_BridgesOf.l0, if_neg c]
  | succ d ih =>
    intro i hi
    have g1 : (i : Int) < (n : Int) := by omega
    have g2 : (0 : Int) ≤ (i : Int) := Int.natCast_nonneg _
    have g3 : (i : Int) < ((bl n M).length : Int) := by rw [bl_length]; exact g1
    have g4 : (up M i).length < 17592186044416 := by have := up_len M i; omega
    have b := bl_rd n M i (by omega)
    have hw : wrap64 ((i : Int) + 1) = ((i + 1 : Nat) : Int) := wsucc i (by omega)
    have nx := ih (i + 1) (by omega)
    rw [up_succ] at nx
    refine Ev.step (fun k => ?_) nx
    cases hb : M.testBit i with
    | false => simp only [spec_BridgesOf.l0, if_pos g1, if_pos g2, if_pos g3, b, hb, Bool.false_eq_true, if_false, hw, List.append_nil]
    | true => simp only [spec_BridgesOf.l0, if_pos g1, if_pos g2, if_pos g3, b, hb, if_true, if_pos g4, hw]
/-- What stands at a number's lowest bit. -/
theorem low_bits (k q : Nat) (j : Nat) : (2 ^ k * (2 * q + 1)).testBit j = (decide (k ≤ j) && (2 * q + 1).testBit (j - k)) := by
  rw [Nat.mul_comm, Nat.testBit_mul_two_pow]
theorem drop_low (k q : Nat) (j : Nat) : (2 ^ k * (2 * q + 1) &&& (2 ^ k * (2 * q + 1) - 1)).testBit j = (decide (k < j) && (2 ^ k * (2 * q + 1)).testBit j) := by
  have hp : 0 < 2 ^ k := Nat.two_pow_pos k
  have e : 2 ^ k * (2 * q + 1) - 1 = 2 ^ k * (2 * q) + (2 ^ k - 1) := by rw [Nat.mul_add, Nat.mul_one]; omega
  rw [Nat.testBit_and, e, Nat.testBit_two_pow_mul_add _ (by omega), low_bits]
  by_cases h : j < k
  · rw [if_pos h, decide_eq_false (show ¬ k ≤ j by omega), decide_eq_false (show ¬ k < j by omega)]; rfl
  · rw [if_neg h, decide_eq_true (show k ≤ j by omega)]
    by_cases e2 : k = j
    · subst e2
      rw [Nat.sub_self, decide_eq_false (Nat.lt_irrefl k)]
      simp [Nat.testBit_zero]
    · obtain ⟨d, hd⟩ : ∃ d, j - k = d + 1 := ⟨j - k - 1, by omega⟩
      rw [hd, Nat.testBit_succ, Nat.testBit_succ, decide_eq_true (show k < j by omega), show (2 * q + 1) / 2 = q by omega, show 2 * q / 2 = q by omega]
      simp
theorem impl_l (n M : Nat) (hn : n ≤ 14) (hM : M < 2 ^ n) : ∀ (d c m : Nat), c + d = n → (∀ j, m.testBit j = (decide (c ≤ j) && M.testBit j)) →
    Ev (fun k => impl_BridgesOf.l0 k (up M c) (m : Int)) (up M n, true) := by
  intro d
  induction d using Nat.strongRecOn with
  | ind d ih =>
    intro c m hc hm
    have hMz : ∀ j, n ≤ j → M.testBit j = false := fun j hj => Nat.testBit_lt_two_pow (Nat.lt_of_lt_of_le hM (Nat.pow_le_pow_right (by decide) hj))
    have hmn : m < 2 ^ n := by
      apply Nat.lt_pow_two_of_testBit
      intro j hj
      rw [hm, hMz j hj, Bool.and_false]
    have hp : (2 : Nat) ^ n ≤ 2 ^ 14 := Nat.pow_le_pow_right (by decide) hn
    by_cases z : m = 0
    · subst z
      have : up M n = up M c := by
        rw [← hc]
        refine up_skip M d c (fun j h1 _ => ?_)
        have := hm j
        rw [Nat.zero_testBit, decide_eq_true h1, Bool.true_and] at this
        exact this.symm
      rw [this]
      refine Ev.step (fun k => ?_) (Ev.now _)
      simp only [impl_BridgesOf.l0, Int.ofNat_zero, Int.cast_ofNat_Int, if_true]
    · obtain ⟨q, hq, hk⟩ := Lib.ctzFrom_spec 64 m (by omega) (by omega)
      have ec : Lib.ctz 64 m = Lib.ctzFrom 64 m := by simp [Lib.ctz, z]
      obtain ⟨k0, hk0⟩ : ∃ k0, Lib.ctz 64 m = k0 := ⟨_, rfl⟩
      rw [← ec, hk0] at hq hk
      have hset : m.testBit k0 = true := by rw [hq, low_bits, Nat.sub_self]; simp [Nat.testBit_zero]
      have hlow : ∀ j, j < k0 → m.testBit j = false := fun j hj => by rw [hq, low_bits, decide_eq_false (by omega)]; rfl
      have h1 := hm k0
      rw [hset] at h1
      have h1' := (Bool.and_eq_true _ _).mp h1.symm
      have hck : c ≤ k0 := of_decide_eq_true h1'.1
      have hMk := h1'.2
      have hkn : k0 < n := by
        by_cases g : k0 < n
        · exact g
        · rw [hMz k0 (by omega)] at hMk; cases hMk
      have e : up M (k0 + 1) = up M c ++ [(k0 : Int)] := by
        rw [up_succ, hMk, if_pos rfl]
        congr 1
        have := up_skip M (k0 - c) c (fun j g1 g2 => by
          have := hm j
          rw [hlow j (by omega), decide_eq_true g1, Bool.true_and] at this
          exact this.symm)
        rwa [show c + (k0 - c) = k0 by omega] at this
      have nx := ih (n - (k0 + 1)) (by omega) (k0 + 1) (m &&& (m - 1)) (by omega) (fun j => by
        rw [show m &&& (m - 1) = 2 ^ k0 * (2 * q + 1) &&& (2 ^ k0 * (2 * q + 1) - 1) by rw [← hq], drop_low, ← hq, hm j]
        by_cases g : k0 < j
        · rw [decide_eq_true g, decide_eq_true (show c ≤ j by omega), decide_eq_true (show k0 + 1 ≤ j by omega)]; simp
        · rw [decide_eq_false g, decide_eq_false (show ¬ k0 + 1 ≤ j by omega)]; simp)
      rw [e] at nx
      have g1 : ¬ (m : Int) = 0 := by omega
      have g2 : (0 : Int) < (m : Int) ∧ (m : Int) < 18446744073709551616 := by omega
      have g3 : (up M c).length < 17592186044416 := by have := up_len M c; omega
      have ea : Go.bits .and .u64 (m : Int) (IntKind.u64.wrap ((m : Int) - 1)) = ((m &&& (m - 1) : Nat) : Int) := by
        have ew : IntKind.u64.wrap ((m : Int) - 1) = ((m - 1 : Nat) : Int) := by rw [IntKind.wrap_u64]; omega
        rw [ew, bits_and_u64_nat m (m - 1) (by omega) (by omega)]
      refine Ev.step (fun k => ?_) nx
      simp only [impl_BridgesOf.l0, if_neg g1, bits_TrailingZeros.f, if_pos g2, Option.bind_some, if_pos g3, ea, Int.toNat_natCast, hk0]
theorem both (l : List S38) (hl : l.length ≤ 1048576) : ∃ r : List Int × Bool, Ev (fun k => spec_BridgesOf.f k l) r ∧ Ev (fun k => impl_BridgesOf.f k l) r ∧ r.1.length ≤ 1048576 := by
  unfold spec_BridgesOf.f impl_BridgesOf.f
  have g1 := good_ev l hl
  have g2 := isGreen_ev l
  cases hg : good l with
  | false =>
    rw [hg] at g1 g2
    exact ⟨([], false), Ev.bind g1 (Ev.now _), Ev.bind g2 (Ev.now _), by simp⟩
  | true =>
    rw [hg] at g1 g2
    have h := ok_of_good hg
    have hlen := h.len
    refine ⟨(up (bm l (gm l (am l.length))) l.length, true), Ev.bind g1 ?_, Ev.bind g2 ?_, ?_⟩
    · simp only [if_true]
      refine Ev.bind (specBridges_ev l h) ?_
      rw [bl_length]
      exact spec_l l.length _ hlen l.length 0 (by omega)
    · simp only [if_true]
      refine Ev.bind (implBridges_ev l h) ?_
      exact impl_l l.length _ hlen (mk_lt _ _) l.length 0 _ (by omega) (fun j => by rw [decide_eq_true (Nat.zero_le j), Bool.true_and]; rfl)
    · have := up_len (bm l (gm l (am l.length))) l.length
      show (up _ _).length ≤ _
      omega
theorem j2_ev (ys : List Int) (m : Nat) (h : Ev (fun k => laws_heldIntS.f k ys 1) (m : Int)) : Ev (fun k => laws_FnExactBridgesOf.j2 k ys (m : Int) false) true := by
  refine Ev.step (f := ?f) (fun k => ?e) ?v
  case e => conv => lhs; simp only [laws_FnExactBridgesOf.j2, Bool.false_eq_true, if_false]
  case v =>
    refine Ev.bind h ?_
    simp only [show ¬ ((m : Int) < 0) from by omega, if_false, if_true]
    exact Ev.now _
theorem j1_ev (l : List S40) (H : List Int) (b : Bool) (hn : l.length ≤ 1048576) (hH : H.length ≤ 1048576) (hi : Ev (fun k => impl_BridgesOf.f k (l.map conv)) (H, b)) : Ev (fun k => laws_FnExactBridgesOf.j1 k l H b H false) true := by
  obtain ⟨ys, m1, m2, m3⟩ := markIntS_ev H 1 (by omega)
  refine Ev.step (f := ?f) (fun k => ?e) ?v
  case e => conv => lhs; simp only [laws_FnExactBridgesOf.j1, Bool.false_eq_true, if_false]
  case v =>
    refine Ev.bind m1 (Ev.bind m3 ?_)
    simp only [show ¬ (((1 + H.length : Nat) : Int) < 0) from by omega, if_false, if_true]
    refine Ev.bind (toTwigS_ev l hn) (Ev.bind hi (Ev.bind (eqIntS_ev H (by omega)) ?_))
    simp only [if_true, bne_self_eq_false]
    exact j2_ev ys _ m3
theorem j0_ev (l : List S40) (H : List Int) (b : Bool) (hn : l.length ≤ 1048576) (hH : H.length ≤ 1048576) (hi : Ev (fun k => impl_BridgesOf.f k (l.map conv)) (H, b)) : Ev (fun k => laws_FnExactBridgesOf.j0 k l H b (l.map conv) H b false) true := by
  have hl' : (l.map conv).length ≤ 1048576 := by rw [List.length_map]; exact hn
  obtain ⟨ys, m1⟩ := markTOnly (l.map conv) hl'
  refine Ev.step (f := ?f) (fun k => ?e) ?v
  case e => conv => lhs; simp only [laws_FnExactBridgesOf.j0, Bool.false_eq_true, if_false]
  case v =>
    refine Ev.bind (toTwigS_ev l hn) (Ev.bind (eqTwigS_ev _ hl') ?_)
    simp only [if_true]
    refine Ev.bind m1 ?_
    simp only [show ¬ (((1 + 2 * (l.map conv).length : Nat) : Int) < 0) from by omega, if_false]
    refine Ev.bind (eqIntS_ev H (by omega)) ?_
    simp only [if_true, bne_self_eq_false]
    exact j1_ev l H b hn hH hi
theorem proved : laws_FnExactBridgesOf.Pure := by
  intro l h
  refine Ev.rounds ?_
  unfold laws_FnExactBridgesOf.f
  simp only [szTwigS l h.1, Option.bind_some]
  by_cases hb : l.length > 1048576
  · simp only [if_pos hb]
    exact Ev.now _
  · have hl : l.length ≤ 1048576 := by omega
    have c : ¬ (1048576 - (l.length : Int)) < 0 := by omega
    simp only [if_neg hb, if_neg c]
    obtain ⟨⟨H, b⟩, s1, s2, s3⟩ := both (l.map conv) (by rw [List.length_map]; exact hl)
    refine Ev.bind (toTwigS_ev l hl) (Ev.bind s1 (Ev.bind (toTwigS_ev l hl) (Ev.bind s2 (Ev.bind (eqIntS_ev H (by have : H.length ≤ 1048576 := s3; omega)) ?_))))
    simp only [if_true, bne_self_eq_false]
    exact j0_ev l H b hl s3 s2

end LFnExactBridgesOf
theorem FnExactBridgesOf : laws_FnExactBridgesOf.Pure := LFnExactBridgesOf.proved
end Go.Proofs.YtgbcaicnpajekaaDoor.Pure
