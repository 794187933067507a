/- Knots that hang together by twigs: what is reached, when a set of knots is closed, and why so many rounds are enough; no program in sight. -/
import Derived.Test.YtgbcaicnpajekaaDoorBits
namespace Go.Proofs.YtgbcaicnpajekaaDoor.Green
open Go.Proofs.YtgbcaicnpajekaaDoor.Bits

section
variable (n : Nat) (A B : Nat → Nat) (M : Nat)
/-- What hangs together with a knot by the twigs of M. -/
inductive Hangs (a : Nat) : Nat → Prop
  | here : Hangs a a
  | up {i : Nat} : i < n → M.testBit i = true → Hangs a (A i) → Hangs a (B i)
  | down {i : Nat} : i < n → M.testBit i = true → Hangs a (B i) → Hangs a (A i)
def Closed (S : Nat) : Prop := ∀ i, i < n → M.testBit i = true → (S.testBit (A i) = true ∨ S.testBit (B i) = true) → S.testBit (A i) = true ∧ S.testBit (B i) = true
/-- How many twigs have both knots in the set. -/
def used (S : Nat) : Nat := (List.range n).countP fun i => M.testBit i && (S.testBit (A i) && S.testBit (B i))
end

/-- Does it hang together. -/
noncomputable def reachB (n : Nat) (A B : Nat → Nat) (M a x : Nat) : Bool := @decide (Hangs n A B M a x) (Classical.propDecidable _)

section
variable {n : Nat} {A B : Nat → Nat} {M : Nat} {a : Nat}
theorem reachB_iff {x : Nat} : reachB n A B M a x = true ↔ Hangs n A B M a x := by unfold reachB; exact @decide_eq_true_iff _ (Classical.propDecidable _)

theorem closed_reach {S : Nat} (hc : Closed n A B M S) (ha : S.testBit a = true) {x : Nat} (h : Hangs n A B M a x) : S.testBit x = true := by
  induction h with
  | here => exact ha
  | up hi hM _ ih => exact (hc _ hi hM (.inl ih)).2
  | down hi hM _ ih => exact (hc _ hi hM (.inr ih)).1

theorem countP_lt {α : Type} {p q : α → Bool} : ∀ (l : List α), (∀ x ∈ l, p x = true → q x = true) → (∃ x ∈ l, p x = false ∧ q x = true) → l.countP p < l.countP q
  | [], _, ⟨_, h, _⟩ => by cases h
  | y :: l, h1, ⟨x, hx, h2⟩ => by
    have h1' : ∀ z ∈ l, p z = true → q z = true := fun z hz => h1 z (List.mem_cons_of_mem _ hz)
    have hle : l.countP p ≤ l.countP q := List.countP_mono_left h1'
    rw [List.countP_cons, List.countP_cons]
    rcases List.mem_cons.1 hx with rfl | hx
    · rw [h2.1, h2.2]
      simp
      omega
    · have := countP_lt l h1' ⟨x, hx, h2⟩
      have hy := h1 y (List.mem_cons_self)
      cases hp : p y
      · cases hq : q y <;> simp <;> omega
      · rw [hy hp]
        simp
        omega

theorem used_le (S : Nat) : used n A B M S ≤ n := by
  have := List.countP_le_length (p := fun i => M.testBit i && (S.testBit (A i) && S.testBit (B i))) (l := List.range n)
  rwa [List.length_range] at this
theorem used_full {S : Nat} (h : n ≤ used n A B M S) : Closed n A B M S := by
  have he : (List.range n).countP (fun i => M.testBit i && (S.testBit (A i) && S.testBit (B i))) = (List.range n).length := by
    rw [List.length_range]
    exact Nat.le_antisymm (used_le S) h
  intro i hi hM _
  have := (List.countP_eq_length.1 he) i (List.mem_range.2 hi)
  simp only [Bool.and_eq_true] at this
  exact this.2

/-- A round from the twig i0 on makes S' out of S. -/
structure Rnd (n : Nat) (A B : Nat → Nat) (M a i0 S S' : Nat) : Prop where
  sub : ∀ x, S.testBit x = true → S'.testBit x = true
  ok : ∀ x, S'.testBit x = true → Hangs n A B M a x
  done : ∀ j, i0 ≤ j → j < n → M.testBit j = true → (S.testBit (A j) = true ∨ S.testBit (B j) = true) → S'.testBit (A j) = true ∧ S'.testBit (B j) = true
  more : S' = S ∨ ∃ j, j < n ∧ M.testBit j = true ∧ (S'.testBit (A j) = true ∧ S'.testBit (B j) = true) ∧ ¬ (S.testBit (A j) = true ∧ S.testBit (B j) = true)

theorem rnd_end {S : Nat} {i0 : Nat} (hi : n ≤ i0) (h : ∀ x, S.testBit x = true → Hangs n A B M a x) : Rnd n A B M a i0 S S :=
  ⟨fun _ h => h, h, fun j h1 h2 => by omega, .inl rfl⟩
theorem rnd_skip {S S' : Nat} {i : Nat} (h : Rnd n A B M a (i + 1) S S') (hs : M.testBit i = true → ¬ (S.testBit (A i) = true ∨ S.testBit (B i) = true)) : Rnd n A B M a i S S' :=
  ⟨h.sub, h.ok, fun j h1 h2 h3 h4 => by
    by_cases e : j = i
    · subst e; exact absurd h4 (hs h3)
    · exact h.done j (by omega) h2 h3 h4, h.more⟩
theorem bit_add (S a b x : Nat) : (S ||| (2 ^ a ||| 2 ^ b)).testBit x = (S.testBit x || (decide (x = a) || decide (x = b))) := by
  rw [Nat.testBit_or, pair_bit]
theorem add_ok {S : Nat} {i : Nat} (hi : i < n) (hM : M.testBit i = true) (ht : S.testBit (A i) = true ∨ S.testBit (B i) = true) (h : ∀ x, S.testBit x = true → Hangs n A B M a x) :
    ∀ x, (S ||| (2 ^ A i ||| 2 ^ B i)).testBit x = true → Hangs n A B M a x := by
  have both : Hangs n A B M a (A i) ∧ Hangs n A B M a (B i) := by
    rcases ht with ht | ht
    · exact ⟨h _ ht, .up hi hM (h _ ht)⟩
    · exact ⟨.down hi hM (h _ ht), h _ ht⟩
  intro x hx
  rw [bit_add] at hx
  simp only [Bool.or_eq_true, decide_eq_true_eq] at hx
  rcases hx with hx | rfl | rfl
  · exact h _ hx
  · exact both.1
  · exact both.2
theorem rnd_add {S S' : Nat} {i : Nat} (hi : i < n) (hM : M.testBit i = true) (ht : S.testBit (A i) = true ∨ S.testBit (B i) = true)
    (h : Rnd n A B M a (i + 1) (S ||| (2 ^ A i ||| 2 ^ B i)) S') : Rnd n A B M a i S S' := by
  have sub1 : ∀ x, S.testBit x = true → (S ||| (2 ^ A i ||| 2 ^ B i)).testBit x = true := fun x hx => by rw [bit_add, hx]; rfl
  have inA : (S ||| (2 ^ A i ||| 2 ^ B i)).testBit (A i) = true := by rw [bit_add]; simp
  have inB : (S ||| (2 ^ A i ||| 2 ^ B i)).testBit (B i) = true := by rw [bit_add]; simp
  refine ⟨fun x hx => h.sub x (sub1 x hx), h.ok, fun j h1 h2 h3 h4 => ?_, ?_⟩
  · by_cases e : j = i
    · subst e; exact ⟨h.sub _ inA, h.sub _ inB⟩
    · exact h.done j (by omega) h2 h3 (h4.imp (sub1 _) (sub1 _))
  · by_cases hb : S.testBit (A i) = true ∧ S.testBit (B i) = true
    · have e : S ||| (2 ^ A i ||| 2 ^ B i) = S := by
        apply bits_ext
        intro j
        rw [bit_add]
        by_cases h1 : j = A i
        · subst h1; rw [hb.1]; rfl
        · by_cases h2 : j = B i
          · subst h2; rw [hb.2]; rfl
          · simp [h1, h2]
      rw [e] at h
      exact h.more
    · exact .inr ⟨i, hi, hM, ⟨h.sub _ inA, h.sub _ inB⟩, hb⟩
/-- A whole round: either the set is closed, or more twigs are used. -/
theorem rnd_round {S S' : Nat} {c : Nat} (h : Rnd n A B M a 0 S S') (ha : S.testBit a = true) (hc : Closed n A B M S ∨ c ≤ used n A B M S) : Closed n A B M S' ∨ c + 1 ≤ used n A B M S' := by
  rcases h.more with e | ⟨j, hj, hM, h1, h2⟩
  · subst e
    exact .inl fun i hi hM ht => h.done i (Nat.zero_le _) hi hM ht
  · rcases hc with hc | hc
    · exact absurd ⟨closed_reach hc ha (h.ok _ h1.1), closed_reach hc ha (h.ok _ h1.2)⟩ h2
    · refine .inr (Nat.lt_of_le_of_lt hc (countP_lt _ (fun i _ hp => ?_) ⟨j, List.mem_range.2 hj, ?_, ?_⟩))
      · simp only [Bool.and_eq_true] at hp ⊢
        exact ⟨hp.1, h.sub _ hp.2.1, h.sub _ hp.2.2⟩
      · simp only [Bool.and_eq_false_iff, hM]
        by_cases ha : S.testBit (A j) = true
        · right; right
          cases hb : S.testBit (B j)
          · rfl
          · exact absurd ⟨ha, hb⟩ h2
        · right; left
          simpa using ha
      · simp only [Bool.and_eq_true]
        exact ⟨hM, h1.1, h1.2⟩
theorem reach_set {S : Nat} {m : Nat} (hS : S < 2 ^ m) (hc : Closed n A B M S) (ha : S.testBit a = true) (hok : ∀ x, S.testBit x = true → Hangs n A B M a x) : S = mk m (reachB n A B M a) := by
  apply bits_ext
  intro j
  rw [mk_bit]
  cases h : S.testBit j with
  | true =>
    have hj : j < m := by
      refine Nat.lt_of_not_le fun hle => ?_
      have := Nat.testBit_lt_two_pow (Nat.lt_of_lt_of_le hS (Nat.pow_le_pow_right (by decide) hle))
      rw [h] at this
      cases this
    rw [decide_eq_true hj, (reachB_iff (n := n) (A := A) (B := B) (M := M)).2 (hok j h)]
    rfl
  | false =>
    cases hr : reachB n A B M a j with
    | false => simp
    | true =>
      have := closed_reach hc ha (reachB_iff.1 hr)
      rw [h] at this
      cases this
/-- A twig that is touched lies whole in what is reached. -/
theorem reach_twig {i : Nat} (hi : i < n) (hM : M.testBit i = true) : Hangs n A B M a (A i) ↔ Hangs n A B M a (B i) := ⟨.up hi hM, .down hi hM⟩
end
end Go.Proofs.YtgbcaicnpajekaaDoor.Green
