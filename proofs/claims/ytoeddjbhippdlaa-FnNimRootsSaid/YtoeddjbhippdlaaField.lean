/- The field of nimbers below 65536, in plain Lean: powers, squares as a linear map, orders, smaller fields; no program in sight. -/
import Derived.Test.YtoeddjbhippdlaaNim
namespace Go.Proofs.Ytoeddjbhippdlaa.Field
open Go.Proofs.Ytoeddjbhippdlaa.Nim

/-- A power by single steps. -/
def pn (a : Nat) : Nat → Nat
  | 0 => 1
  | n + 1 => nm 4 (pn a n) a
theorem one_lt : 1 < 2 ^ 2 ^ 4 := by decide
theorem nm_lt4 (a b : Nat) : nm 4 a b < 65536 := nm_bd 4 a b
theorem pn_lt (a n : Nat) : pn a n < 65536 := by
  cases n with
  | zero => exact one_lt
  | succ n => exact nm_lt4 _ _
theorem pn_add (a m : Nat) : ∀ n, pn a (m + n) = nm 4 (pn a m) (pn a n)
  | 0 => (nm_one' 4 _ (pn_lt a m)).symm
  | n + 1 => by
    show nm 4 (pn a (m + n)) a = nm 4 (pn a m) (nm 4 (pn a n) a)
    rw [pn_add a m n, nm_assoc]
theorem pn_one_l : ∀ n, pn 1 n = 1
  | 0 => rfl
  | n + 1 => by show nm 4 (pn 1 n) 1 = 1; rw [pn_one_l n]; exact nm_one 4 1 one_lt
theorem pn_one (a : Nat) (ha : a < 65536) : pn a 1 = a := nm_one 4 a ha
theorem pn_two (a : Nat) (ha : a < 65536) : pn a 2 = nm 4 a a := by
  have := pn_add a 1 1
  rw [pn_one a ha] at this
  exact this
theorem pn_mul (a m : Nat) : ∀ n, pn a (m * n) = pn (pn a m) n
  | 0 => rfl
  | n + 1 => by
    rw [Nat.mul_succ, pn_add, pn_mul a m n]
    rfl
theorem pn_dvd {a x y : Nat} (h : pn a x = 1) (d : x ∣ y) : pn a y = 1 := by
  obtain ⟨n, rfl⟩ := d
  rw [pn_mul, h, pn_one_l]
theorem pn_mod {a y : Nat} (h : pn a y = 1) (x : Nat) : pn a x = pn a (x % y) := by
  have e : x = y * (x / y) + x % y := (Nat.div_add_mod x y).symm
  have : pn a x = pn a (y * (x / y) + x % y) := by rw [← e]
  rw [this, pn_add, pn_dvd h ⟨_, rfl⟩]
  exact nm_one 4 _ (pn_lt _ _)
theorem pn_gcd {a : Nat} (x y : Nat) : pn a x = 1 → pn a y = 1 → pn a (Nat.gcd x y) = 1 := by
  induction x, y using Nat.gcd.induction with
  | H0 n => intro _ h; rw [Nat.gcd_zero_left]; exact h
  | H1 m n hm ih =>
    intro h1 h2
    rw [Nat.gcd_rec]
    exact ih (by rw [← pn_mod h1]; exact h2) h1

/-! ### smaller fields -/
theorem nm_up (l a b : Nat) (ha : a < 2 ^ 2 ^ l) (hb : b < 2 ^ 2 ^ l) : nm (l + 1) a b = nm l a b := by
  have h1 := nm_div l a b
  have h2 := nm_mod l a b
  rw [Nat.div_eq_of_lt ha, Nat.div_eq_of_lt hb] at h1 h2
  rw [Nat.mod_eq_of_lt ha, Nat.mod_eq_of_lt hb] at h1 h2
  rw [nm_zero, nm_zero, nm_zero'] at h1
  rw [nm_zero, nm_zero, Nat.xor_zero] at h2
  have h3 : nm (l + 1) a b / 2 ^ 2 ^ l = 0 := by rw [h1]; rfl
  have := Nat.div_add_mod (nm (l + 1) a b) (2 ^ 2 ^ l)
  rw [h3, h2, Nat.mul_zero, Nat.zero_add] at this
  exact this.symm
theorem lev_le {l m : Nat} (h : l ≤ m) : 2 ^ 2 ^ l ≤ 2 ^ 2 ^ m := Nat.pow_le_pow_right (by decide) (Nat.pow_le_pow_right (by decide) h)
theorem nm_ups (l a b : Nat) (ha : a < 2 ^ 2 ^ l) (hb : b < 2 ^ 2 ^ l) : ∀ d, nm (l + d) a b = nm l a b
  | 0 => rfl
  | d + 1 => by
    have h := lev_le (show l ≤ l + d by omega)
    rw [← Nat.add_assoc, nm_up (l + d) a b (by omega) (by omega)]
    exact nm_ups l a b ha hb d
theorem nm_in (l : Nat) (hl : l ≤ 4) (a b : Nat) (ha : a < 2 ^ 2 ^ l) (hb : b < 2 ^ 2 ^ l) : nm 4 a b = nm l a b := by
  have := nm_ups l a b ha hb (4 - l)
  rwa [show l + (4 - l) = 4 by omega] at this
theorem pn_in (l : Nat) (hl : l ≤ 4) (a : Nat) (ha : a < 2 ^ 2 ^ l) : ∀ n, pn a n < 2 ^ 2 ^ l
  | 0 => Nat.one_lt_two_pow (Nat.ne_of_gt (Nat.two_pow_pos _))
  | n + 1 => by
    show nm 4 (pn a n) a < _
    rw [nm_in l hl _ _ (pn_in l hl a ha n) ha]
    exact nm_bd l _ _

/-! ### squares: a linear map -/
def sq (x : Nat) : Nat := nm 4 x x
theorem sq_xor (x y : Nat) : sq (x ^^^ y) = sq x ^^^ sq y := by
  unfold sq
  rw [nm_xor_left, nm_xor_right, nm_xor_right, nm_comm 4 y x]
  have : ∀ a b c : Nat, a ^^^ b ^^^ (b ^^^ c) = a ^^^ c := fun a b c => by
    rw [Nat.xor_assoc, ← Nat.xor_assoc b b c, Nat.xor_self, Nat.zero_xor]
  exact this _ _ _
theorem sq_zero : sq 0 = 0 := nm_zero 4 0
def fr : Nat → Nat → Nat
  | 0, x => x
  | n + 1, x => sq (fr n x)
theorem fr_xor : ∀ (n x y : Nat), fr n (x ^^^ y) = fr n x ^^^ fr n y
  | 0, _, _ => rfl
  | n + 1, x, y => by show sq _ = sq _ ^^^ sq _; rw [fr_xor n, sq_xor]
theorem fr_zero : ∀ n, fr n 0 = 0
  | 0 => rfl
  | n + 1 => by show sq _ = 0; rw [fr_zero n]; exact sq_zero
/-- What is linear and keeps the single bits keeps all. -/
theorem lin_ext (f g : Nat → Nat) (hf : ∀ x y, f (x ^^^ y) = f x ^^^ f y) (hg : ∀ x y, g (x ^^^ y) = g x ^^^ g y) (f0 : f 0 = 0) (g0 : g 0 = 0) :
    ∀ n, (∀ i, i < n → f (2 ^ i) = g (2 ^ i)) → ∀ x, x < 2 ^ n → f x = g x
  | 0, _, x, hx => by
    have : x = 0 := by simpa using hx
    subst this; rw [f0, g0]
  | n + 1, hb, x, hx => by
    have hd : x / 2 ^ n = 0 ∨ x / 2 ^ n = 1 := by
      have h2 : x / 2 ^ n < 2 := Nat.div_lt_of_lt_mul (by rw [Nat.pow_succ] at hx; exact hx)
      generalize x / 2 ^ n = c at h2 ⊢
      omega
    have hj := join_self n x
    have ih := lin_ext f g hf hg f0 g0 n (fun i hi => hb i (by omega)) (x % 2 ^ n) (Nat.mod_lt _ (Nat.two_pow_pos _))
    rw [← hj, hf, hg, ih]
    rcases hd with h | h
    · rw [h, Nat.zero_mul, f0, g0]
    · rw [h, Nat.one_mul, hb n (by omega)]
theorem fr_basis : ∀ l, l ≤ 4 → (List.range (2 ^ l)).all (fun i => fr (2 ^ l) (2 ^ i) == 2 ^ i) = true := by
  intro l hl
  rcases (by omega : l = 0 ∨ l = 1 ∨ l = 2 ∨ l = 3 ∨ l = 4) with rfl | rfl | rfl | rfl | rfl <;> decide +kernel
theorem fr_id (l : Nat) (hl : l ≤ 4) (x : Nat) (hx : x < 2 ^ 2 ^ l) : fr (2 ^ l) x = x := by
  refine lin_ext (fr (2 ^ l)) id (fr_xor _) (fun _ _ => rfl) (fr_zero _) rfl (2 ^ l) (fun i hi => ?_) x hx
  have := List.all_eq_true.1 (fr_basis l hl) i (List.mem_range.2 hi)
  exact eq_of_beq this
theorem fr_pn (x : Nat) (hx : x < 65536) : ∀ n, fr n x = pn x (2 ^ n)
  | 0 => (pn_one x hx).symm
  | n + 1 => by
    show nm 4 (fr n x) (fr n x) = _
    rw [fr_pn x hx n, ← pn_add, Nat.pow_succ, Nat.mul_two]

/-! ### what is its own square -/
theorem half_not : ∀ l, l ≤ 3 → (List.range (2 ^ 2 ^ l)).all (fun u => !(nm l u u ^^^ u == 2 ^ (2 ^ l - 1))) = true := by
  intro l hl
  rcases (by omega : l = 0 ∨ l = 1 ∨ l = 2 ∨ l = 3) with rfl | rfl | rfl | rfl <;> decide +kernel
theorem idem : ∀ l, l ≤ 4 → ∀ u, u < 2 ^ 2 ^ l → nm l u u = u → u ≤ 1
  | 0, _, u, hu, _ => by have : u < 2 := hu; omega
  | l + 1, hl, u, hu, h => by
    have h1 := nm_div l u u
    have h2 := nm_mod l u u
    rw [h] at h1 h2
    rw [nm_comm l (u % 2 ^ 2 ^ l) (u / 2 ^ 2 ^ l), Nat.xor_self, Nat.xor_zero] at h1
    have i1 := idem l (by omega) _ (div_lt hu) h1.symm
    rcases (by omega : u / 2 ^ 2 ^ l = 0 ∨ u / 2 ^ 2 ^ l = 1) with e | e
    · rw [e, nm_zero, nm_zero, Nat.xor_zero] at h2
      have i0 := idem l (by omega) _ (mod_lt l u) h2.symm
      have := Nat.div_add_mod u (2 ^ 2 ^ l)
      rw [e] at this
      omega
    · exfalso
      have q := List.all_eq_true.1 (half_not l (by omega)) (u % 2 ^ 2 ^ l) (List.mem_range.2 (mod_lt l u))
      have one : (1 : Nat) < 2 ^ 2 ^ l := Nat.one_lt_two_pow (Nat.ne_of_gt (Nat.two_pow_pos _))
      rw [e, nm_one l 1 one, nm_one l _ (half_lt l)] at h2
      have : nm l (u % 2 ^ 2 ^ l) (u % 2 ^ 2 ^ l) ^^^ u % 2 ^ 2 ^ l = 2 ^ (2 ^ l - 1) := by
        conv => lhs; rhs; rw [h2]
        rw [← Nat.xor_assoc, Nat.xor_self, Nat.zero_xor]
      rw [this] at q
      simp at q
/-- Each nimber of a field other than 0, to the power of how many of these there are, is 1. -/
theorem unit (l : Nat) (hl : l ≤ 4) (a : Nat) (ha : a < 2 ^ 2 ^ l) (h0 : a ≠ 0) : pn a (2 ^ 2 ^ l - 1) = 1 := by
  have h4 := lev_le hl
  have ha4 : a < 65536 := Nat.lt_of_lt_of_le ha h4
  have q2 : 2 ≤ 2 ^ 2 ^ l := Nat.one_lt_two_pow (Nat.ne_of_gt (Nat.two_pow_pos _))
  have hq : pn a (2 ^ 2 ^ l) = a := by rw [← fr_pn a ha4, fr_id l hl a ha]
  have hu : nm 4 (pn a (2 ^ 2 ^ l - 1)) a = a := by
    have : pn a (2 ^ 2 ^ l - 1 + 1) = a := by rw [Nat.sub_add_cancel (by omega)]; exact hq
    exact this
  have hi : nm 4 (pn a (2 ^ 2 ^ l - 1)) (pn a (2 ^ 2 ^ l - 1)) = pn a (2 ^ 2 ^ l - 1) := by
    rw [← pn_add, show 2 ^ 2 ^ l - 1 + (2 ^ 2 ^ l - 1) = 2 ^ 2 ^ l + (2 ^ 2 ^ l - 2) by omega, pn_add, hq, nm_comm]
    show pn a (2 ^ 2 ^ l - 2 + 1) = _
    rw [show 2 ^ 2 ^ l - 2 + 1 = 2 ^ 2 ^ l - 1 by omega]
  have hle := idem 4 (by decide) _ (pn_lt a _) hi
  rcases (by omega : pn a (2 ^ 2 ^ l - 1) = 0 ∨ pn a (2 ^ 2 ^ l - 1) = 1) with e | e
  · rw [e, nm_zero] at hu
    exact absurd hu.symm h0
  · exact e
theorem unit4 (a : Nat) (ha : a < 65536) (h0 : a ≠ 0) : pn a 65535 = 1 := unit 4 (by decide) a ha h0
theorem unit_inv (a : Nat) (ha : a < 65536) (h0 : a ≠ 0) : nm 4 a (pn a 65534) = 1 := by
  have h := pn_add a 65534 1
  rw [pn_one a ha] at h
  rw [nm_comm, ← h]
  exact unit4 a ha h0
theorem inv_in (l : Nat) (hl : l ≤ 4) (a : Nat) (ha : a < 65536) (h0 : a ≠ 0) : pn a 65534 < 2 ^ 2 ^ l ↔ a < 2 ^ 2 ^ l := by
  constructor
  · intro h
    have := pn_in l hl _ h 65534
    rw [← pn_mul, pn_mod (unit4 a ha h0), show 65534 * 65534 % 65535 = 1 by decide, pn_one a ha] at this
    exact this
  · intro h
    exact pn_in l hl a h _

/-! ### orders -/
def st (a e p : Nat) : Nat := if pn a (e / p) = 1 then e / p else e
def ordl (a : Nat) : Nat → List Nat → Nat
  | e, [] => e
  | e, p :: ps => ordl a (st a e p) ps
theorem ord_fact (a : Nat) (ha : a < 65536) (h0 : a ≠ 0) : pn a (ordl a 65535 [3, 5, 17, 257]) = 1 ∧ ordl a 65535 [3, 5, 17, 257] ∣ 65535 ∧
    ∀ p, p = 3 ∨ p = 5 ∨ p = 17 ∨ p = 257 → p ∣ ordl a 65535 [3, 5, 17, 257] → pn a (ordl a 65535 [3, 5, 17, 257] / p) ≠ 1 := by
  have hU := unit4 a ha h0
  simp only [ordl]
  generalize e1 : st a 65535 3 = o1
  generalize e2 : st a o1 5 = o2
  generalize e3 : st a o2 17 = o3
  generalize e4 : st a o3 257 = o4
  have s1 : (pn a 21845 = 1 ∧ o1 = 21845) ∨ (pn a 21845 ≠ 1 ∧ o1 = 65535) := by
    unfold st at e1
    rw [show 65535 / 3 = 21845 by decide] at e1
    by_cases h : pn a 21845 = 1
    · rw [if_pos h] at e1; exact .inl ⟨h, e1.symm⟩
    · rw [if_neg h] at e1; exact .inr ⟨h, e1.symm⟩
  have s2 : (pn a (o1 / 5) = 1 ∧ o2 = o1 / 5) ∨ (pn a (o1 / 5) ≠ 1 ∧ o2 = o1) := by
    unfold st at e2
    by_cases h : pn a (o1 / 5) = 1
    · rw [if_pos h] at e2; exact .inl ⟨h, e2.symm⟩
    · rw [if_neg h] at e2; exact .inr ⟨h, e2.symm⟩
  have s3 : (pn a (o2 / 17) = 1 ∧ o3 = o2 / 17) ∨ (pn a (o2 / 17) ≠ 1 ∧ o3 = o2) := by
    unfold st at e3
    by_cases h : pn a (o2 / 17) = 1
    · rw [if_pos h] at e3; exact .inl ⟨h, e3.symm⟩
    · rw [if_neg h] at e3; exact .inr ⟨h, e3.symm⟩
  have s4 : (pn a (o3 / 257) = 1 ∧ o4 = o3 / 257) ∨ (pn a (o3 / 257) ≠ 1 ∧ o4 = o3) := by
    unfold st at e4
    by_cases h : pn a (o3 / 257) = 1
    · rw [if_pos h] at e4; exact .inl ⟨h, e4.symm⟩
    · rw [if_neg h] at e4; exact .inr ⟨h, e4.symm⟩
  clear e1 e2 e3 e4
  rcases s1 with ⟨h1, rfl⟩ | ⟨h1, rfl⟩ <;> rcases s2 with ⟨h2, rfl⟩ | ⟨h2, rfl⟩ <;> rcases s3 with ⟨h3, rfl⟩ | ⟨h3, rfl⟩ <;> rcases s4 with ⟨h4, rfl⟩ | ⟨h4, rfl⟩ <;>
    refine ⟨by first | exact h4 | exact h3 | exact h2 | exact h1 | exact hU, by decide, ?_⟩ <;>
    (rintro p (rfl | rfl | rfl | rfl) hp q
     · first | exact absurd hp (by decide) | exact h1 (pn_dvd q (by decide))
     · first | exact absurd hp (by decide) | exact h2 (pn_dvd q (by decide))
     · first | exact absurd hp (by decide) | exact h3 (pn_dvd q (by decide))
     · first | exact absurd hp (by decide) | exact h4 (pn_dvd q (by decide)))
theorem prime_cop (p : Nat) (hp : p = 3 ∨ p = 5 ∨ p = 17 ∨ p = 257) (d : Nat) (h : ¬ p ∣ d) : Nat.gcd d p = 1 := by
  have h1 : Nat.gcd d p ∣ p := Nat.gcd_dvd_right d p
  have h2 : ∀ x, x < 258 → x ∣ p → x = 1 ∨ x = p := by
    rcases hp with rfl | rfl | rfl | rfl <;> decide +kernel
  have h3 : Nat.gcd d p < 258 := by
    have := Nat.le_of_dvd (by omega) h1
    omega
  rcases h2 _ h3 h1 with e | e
  · exact e
  · exact absurd (e ▸ Nat.gcd_dvd_left d p) h
theorem four (d : Nat) (hd : d ∣ 65535) (h1 : d ≠ 1) : ∃ p, (p = 3 ∨ p = 5 ∨ p = 17 ∨ p = 257) ∧ p ∣ d := by
  apply Classical.byContradiction
  intro hn
  have c := fun p hp => prime_cop p hp d (fun h => hn ⟨p, hp, h⟩)
  have c1 : Nat.Coprime d (3 * 5) := Nat.Coprime.mul_right (c 3 (.inl rfl)) (c 5 (.inr (.inl rfl)))
  have c2 : Nat.Coprime d (3 * 5 * 17) := Nat.Coprime.mul_right c1 (c 17 (.inr (.inr (.inl rfl))))
  have c3 : Nat.Coprime d (3 * 5 * 17 * 257) := Nat.Coprime.mul_right c2 (c 257 (.inr (.inr (.inr rfl))))
  have : Nat.gcd d 65535 = 1 := c3
  rw [Nat.gcd_eq_left hd] at this
  exact h1 this
/-- An order parts each number to whose power the nimber is 1. -/
theorem ord_dvd (a o : Nat) (h1 : pn a o = 1) (h2 : o ∣ 65535) (h3 : ∀ p, p = 3 ∨ p = 5 ∨ p = 17 ∨ p = 257 → p ∣ o → pn a (o / p) ≠ 1) (m : Nat) (hm : pn a m = 1) : o ∣ m := by
  have hg := pn_gcd m o hm h1
  obtain ⟨d, hd⟩ := Nat.gcd_dvd_right m o
  have ho : 0 < o := Nat.pos_of_dvd_of_pos h2 (by decide)
  by_cases e : d = 1
  · rw [e, Nat.mul_one] at hd
    rw [hd]
    exact Nat.gcd_dvd_left m o
  · obtain ⟨p, hp, c, hc⟩ := four d (Nat.dvd_trans ⟨Nat.gcd m o, by rw [Nat.mul_comm]; exact hd⟩ h2) e
    exfalso
    have pp : 0 < p := by omega
    have e1 : o = p * (Nat.gcd m o * c) := by
      conv => lhs; rw [hd, hc]
      rw [Nat.mul_left_comm]
    refine h3 p hp ⟨_, e1⟩ (pn_dvd hg ?_)
    have e2 : o / p = Nat.gcd m o * c := by
      conv => lhs; rw [e1]
      exact Nat.mul_div_cancel_left _ pp
    rw [e2]
    exact ⟨c, rfl⟩
end Go.Proofs.Ytoeddjbhippdlaa.Field
