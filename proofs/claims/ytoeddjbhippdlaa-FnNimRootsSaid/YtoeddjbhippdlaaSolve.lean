/- Solutions of x x + a x = b among the nimbers below 65536, told in closed form, in plain Lean; no program in sight. -/
import Derived.Test.YtoeddjbhippdlaaHalf
namespace Go.Proofs.Ytoeddjbhippdlaa.Solve
open Go.Proofs.Ytoeddjbhippdlaa.Nim Go.Proofs.Ytoeddjbhippdlaa.Field Go.Proofs.Ytoeddjbhippdlaa.Half

theorem flt_none (p : Nat → Bool) (s n : Nat) (h : ∀ y, s ≤ y → y < s + n → p y = false) : (List.range' s n).filter p = [] := by
  rw [List.filter_eq_nil_iff]
  intro y hy
  have := List.mem_range'_1.1 hy
  rw [h y this.1 this.2]
  decide
theorem rng_cut (s n x : Nat) (h1 : s ≤ x) (h2 : x < s + n) : List.range' s n = List.range' s (x - s) ++ x :: List.range' (x + 1) (s + n - (x + 1)) := by
  have e : n = (x - s) + ((s + n - (x + 1)) + 1) := by omega
  have h := List.range'_append_1 (s := s) (m := x - s) (n := (s + n - (x + 1)) + 1)
  rw [← e, List.range'_succ, show s + (x - s) = x by omega] at h
  exact h.symm
theorem flt_one (p : Nat → Bool) (s n x : Nat) (h1 : s ≤ x) (h2 : x < s + n) (hx : p x = true) (h : ∀ y, s ≤ y → y < s + n → p y = true → y = x) : (List.range' s n).filter p = [x] := by
  rw [rng_cut s n x h1 h2, List.filter_append, List.filter_cons_of_pos hx, flt_none p s, flt_none p (x + 1)]
  · rfl
  · intro y a b
    cases q : p y with
    | false => rfl
    | true => have := h y (by omega) (by omega) q; omega
  · intro y a b
    cases q : p y with
    | false => rfl
    | true => have := h y (by omega) (by omega) q; omega
theorem flt_two (p : Nat → Bool) (s n x z : Nat) (h1 : s ≤ x) (hxz : x < z) (h2 : z < s + n) (hx : p x = true) (hz : p z = true) (h : ∀ y, s ≤ y → y < s + n → p y = true → y = x ∨ y = z) : (List.range' s n).filter p = [x, z] := by
  rw [rng_cut s n x h1 (by omega), List.filter_append, List.filter_cons_of_pos hx, flt_none p s, flt_one p (x + 1) _ z (by omega) (by omega) hz]
  · rfl
  · intro y a b q
    rcases h y (by omega) (by omega) q with e | e
    · omega
    · exact e
  · intro y a b
    cases q : p y with
    | false => rfl
    | true => have := h y (by omega) (by omega) q; omega

def put2 (u v : Nat) : List Nat := if u < v then [u, v] else [v, u]
theorem flt_put2 (p : Nat → Bool) (N u v : Nat) (hu : u < N) (hv : v < N) (hne : u ≠ v) (pu : p u = true) (pv : p v = true) (h : ∀ y, y < N → p y = true → y = u ∨ y = v) : (List.range N).filter p = put2 u v := by
  rw [List.range_eq_range']
  unfold put2
  by_cases c : u < v
  · rw [if_pos c]
    exact flt_two p 0 N u v (by omega) c (by omega) pu pv (fun y _ b q => h y (by omega) q)
  · rw [if_neg c]
    exact flt_two p 0 N v u (by omega) (by omega) (by omega) pv pu (fun y _ b q => (h y (by omega) q).symm)

def lin (a y : Nat) : Nat := sq y ^^^ nm 4 a y
theorem sq_nm (a y : Nat) : sq (nm 4 a y) = nm 4 (sq a) (sq y) := by
  unfold sq
  rw [nm_assoc, ← nm_assoc 4 y a y, nm_comm 4 y a, nm_assoc 4 a y y, ← nm_assoc]
theorem lin_nm (a y : Nat) : lin a (nm 4 a y) = nm 4 (sq a) (S y) := by
  unfold lin S
  have e : nm 4 (nm 4 a a) y = nm 4 a (nm 4 a y) := nm_assoc 4 a a y
  rw [nm_xor_right, sq_nm, ← e]
  rfl
theorem xor_same_right {x y z : Nat} (h : x ^^^ z = y ^^^ z) : x = y := by
  have : x ^^^ z ^^^ z = y ^^^ z ^^^ z := by rw [h]
  rwa [Nat.xor_assoc, Nat.xor_self, Nat.xor_zero, Nat.xor_assoc, Nat.xor_self, Nat.xor_zero] at this
/-- c is a's inverse. -/
theorem sol_nz (a b c : Nat) (hb : b < 65536) (hac : nm 4 a c = 1) :
    (List.range 65536).filter (fun x => lin a x == b) = if (hlf (nm 4 b (nm 4 c c))).1 = 0 then put2 (nm 4 a (hlf (nm 4 b (nm 4 c c))).2) (nm 4 a ((hlf (nm 4 b (nm 4 c c))).2 ^^^ 1)) else [] := by
  have hd : nm 4 b (nm 4 c c) < 65536 := nm_lt4 _ _
  obtain ⟨f1, f2, f3, f4⟩ := hlf_fact _ hd
  have hs1 : nm 4 (sq a) (sq c) = 1 := by
    rw [← sq_nm, hac]
    exact nm_one 4 1 (by decide)
  have back : ∀ x, x < 65536 → nm 4 a (nm 4 c x) = x := fun x hx => by rw [← nm_assoc, hac, nm_one 4 x hx]
  have key : ∀ x, x < 65536 → (lin a x = b ↔ S (nm 4 c x) = nm 4 b (nm 4 c c)) := fun x hx => by
    have e : lin a x = nm 4 (sq a) (S (nm 4 c x)) := by rw [← lin_nm, back x hx]
    have hS : S (nm 4 c x) < 65536 := S_lt _ (nm_lt4 _ _)
    rw [e]
    constructor
    · intro h
      rw [← h]
      show _ = nm 4 (nm 4 (sq a) (S (nm 4 c x))) (sq c)
      rw [nm_comm 4 (sq a), nm_assoc, hs1, nm_one' 4 _ hS]
    · intro h
      rw [h]
      show nm 4 (sq a) (nm 4 b (sq c)) = b
      rw [nm_comm 4 b, ← nm_assoc, hs1, nm_one 4 b hb]
  generalize nm 4 b (nm 4 c c) = d at hd f1 f2 f3 f4 key
  generalize hlf d = w at f1 f2 f3 f4
  have one_lt : (1 : Nat) < 65536 := by decide
  have f3' : w.2 ^^^ 1 < 65536 := Nat.xor_lt_two_pow (n := 16) f3 one_lt
  by_cases q : w.1 = 0
  · rw [if_pos q]
    rw [q, Nat.xor_zero] at f1
    have inv : ∀ y, y < 65536 → nm 4 c (nm 4 a y) = y := fun y hy => by rw [← nm_assoc, nm_comm 4 c a, hac, nm_one 4 y hy]
    have S1 : S 1 = 0 := by
      unfold S sq
      rw [nm_one 4 1 (by decide)]
      rfl
    refine flt_put2 _ _ _ _ (nm_lt4 _ _) (nm_lt4 _ _) ?_ ?_ ?_ ?_
    · intro e
      have e2 : nm 4 c (nm 4 a w.2) = nm 4 c (nm 4 a (w.2 ^^^ 1)) := by rw [e]
      rw [inv _ f3, inv _ f3'] at e2
      have e3 : w.2 ^^^ 1 ^^^ w.2 = 0 := by rw [← e2, Nat.xor_self]
      rw [Nat.xor_comm w.2 1, Nat.xor_assoc, Nat.xor_self] at e3
      exact absurd e3 (by decide)
    · rw [beq_iff_eq, key _ (nm_lt4 _ _), inv _ f3]
      exact f1
    · rw [beq_iff_eq, key _ (nm_lt4 _ _), inv _ f3', S_xor, S1, Nat.xor_zero]
      exact f1
    · intro y hy h
      rw [beq_iff_eq, key y hy] at h
      have k0 : S (nm 4 c y ^^^ w.2) = 0 := by rw [S_xor, h, f1, Nat.xor_self]
      have k1 := S_ker _ (Nat.xor_lt_two_pow (n := 16) (nm_lt4 _ _) f3) k0
      rcases (by omega : nm 4 c y ^^^ w.2 = 0 ∨ nm 4 c y ^^^ w.2 = 1) with k | k
      · left
        rw [← xor_zero_eq k, back y hy]
      · right
        have : w.2 ^^^ 1 = nm 4 c y := by
          rw [← k, Nat.xor_comm, Nat.xor_assoc, Nat.xor_self, Nat.xor_zero]
        rw [this, back y hy]
  · rw [if_neg q]
    rw [List.filter_eq_nil_iff]
    intro y hy h
    have hy' := List.mem_range.1 hy
    rw [beq_iff_eq, key y hy'] at h
    exact q (f4 ⟨_, nm_lt4 _ _, h⟩)
theorem fr_sq : ∀ n x, fr n (sq x) = sq (fr n x)
  | 0, _ => rfl
  | n + 1, x => by show sq (fr n (sq x)) = _; rw [fr_sq n x]; rfl
theorem sq_inj0 (z : Nat) (hz : z < 65536) (h : sq z = 0) : z = 0 := by
  have e := fr_id 4 (by decide) z hz
  have e2 : fr 16 z = fr 15 (sq z) := (fr_sq 15 z).symm
  rw [h, fr_zero] at e2
  rw [← e]
  exact e2
theorem sq_root (b r : Nat) (hb : b < 65536) (hr : pn b 32768 = r) : sq r = b := by
  have e := fr_id 4 (by decide) b hb
  have e2 : fr 15 b = pn b (2 ^ 15) := fr_pn b hb 15
  have e3 : fr 15 b = r := e2.trans hr
  rw [← e3]
  exact e
theorem sol_z (b r : Nat) (hr : sq r = b) (hr' : r < 65536) : (List.range 65536).filter (fun x => lin 0 x == b) = [r] := by
  have l0 : ∀ x, lin 0 x = sq x := fun x => by unfold lin; rw [nm_zero, Nat.xor_zero]
  rw [List.range_eq_range']
  refine flt_one _ 0 65536 r (by omega) (by omega) ?_ ?_
  · rw [beq_iff_eq, l0]
    exact hr
  · intro y _ hy h
    rw [beq_iff_eq, l0] at h
    have k : sq (y ^^^ r) = 0 := by rw [sq_xor, h, hr, Nat.xor_self]
    exact xor_zero_eq (sq_inj0 _ (Nat.xor_lt_two_pow (n := 16) (by omega) hr') k)
end Go.Proofs.Ytoeddjbhippdlaa.Solve
