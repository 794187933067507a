/- For any three numbers, the program's Goodstein sequence is the reference's, in new memory. -/
import Derived.Test.YtgjpfhedhehmdaaQFnExactGoodsteinRunx5
namespace Go.Proofs.Ytgjpfhedhehmdaa.Pure
open Go.RowKit Go.Proofs.Ytgjpfhedhehmdaa.QFnExactGoodsteinRun Go.Proofs.YtgjpfhedhehmdaaW.PrintWords Go.Proofs.YtgjpfhedhehmdaaW.PrintLast
set_option linter.unusedVariables false
set_option linter.unusedSimpArgs false
namespace LFnExactGoodsteinRun
/-! ### small words -/
theorem wsucc (i : Nat) (h : i < 2 ^ 62) : wrap64 ((i : Int) + 1) = ((i + 1 : Nat) : Int) := by unfold wrap64; omega
theorem drop_rd {l : List Int} {i : Nat} (h : i < l.length) : l.drop i = rd l (i : Int) :: l.drop (i + 1) := by
  rw [List.drop_eq_getElem_cons h]
  simp [rd, List.getD_eq_getElem?_getD, List.getElem?_eq_getElem h]

/-! ### a list of numbers equals itself -/
theorem eqIntS_l (x : List Int) (hx : x.length ≤ 2 ^ 60) : ∀ (d k i : Nat), i + d = x.length → d < k → laws_eqIntS.l0 k x x i = some true := by
  intro d
  induction d with
  | zero =>
    intro k i hi hk
    obtain ⟨k, rfl⟩ : ∃ m, k = m + 1 := ⟨k - 1, by omega⟩
    simp only [laws_eqIntS.l0]
    rw [if_neg (by omega)]
  | succ d ih =>
    intro k i hi hk
    obtain ⟨k, rfl⟩ : ∃ m, k = m + 1 := ⟨k - 1, by omega⟩
    have h1 : (i : Int) < (x.length : Int) := by omega
    have h2 : (0 : Int) ≤ (i : Int) := Int.natCast_nonneg _
    simp only [laws_eqIntS.l0, if_pos h1, if_pos h2, if_true]
    rw [wsucc i (by omega)]
    exact ih k (i + 1) (by omega) (by omega)
theorem eqIntS (x : List Int) (hx : x.length ≤ 17592186044416) (k : Nat) (hk : x.length < k) : laws_eqIntS.f k x x = some true := by
  unfold laws_eqIntS.f
  rw [if_pos rfl]
  exact eqIntS_l x (by omega) x.length k 0 (by omega) hk

theorem eqIntS_ev (x : List Int) (hx : x.length ≤ 17592186044416) : Ev (fun k => laws_eqIntS.f k x x) true := ⟨x.length + 1, fun k hk => eqIntS x hx k (by omega)⟩

/-! ### marks in a list of numbers, and marks that are held -/
theorem markIntS_l : ∀ (d i m : Nat) (xs : List Int), i + d = xs.length → m + d < 2 ^ 61 → xs.length < 2 ^ 61 →
    ∃ ys : List Int, Ev (fun k => laws_markIntS.l0 k xs (m : Int) (i : Int)) (((m + d : Nat) : Int), ys) ∧ ys.length = xs.length ∧ (∀ j, j < i → ys[j]? = xs[j]?) ∧
      Ev (fun k => laws_heldIntS.l0 k ys (m : Int) (i : Int)) ((m + d : Nat) : Int) := by
  intro d
  induction d with
  | zero =>
    intro i m xs hi hm hx
    refine ⟨xs, Ev.step (fun k => ?_) (Ev.now _), rfl, fun _ _ => rfl, Ev.step (fun k => ?_) (Ev.now _)⟩
    · simp only [laws_markIntS.l0]
      rw [if_neg (by omega)]
      rfl
    · simp only [laws_heldIntS.l0]
      rw [if_neg (by omega)]
      rfl
  | succ d ih =>
    intro i m xs hi hm hx
    obtain ⟨ys, h1, h2, h3, h4⟩ := ih (i + 1) (m + 1) (xs.set i (m : Int)) (by rw [List.length_set]; omega) (by omega) (by rw [List.length_set]; omega)
    rw [List.length_set] at h2
    have e : m + 1 + d = m + (d + 1) := by omega
    rw [e] at h1 h4
    have g1 : (i : Int) < (xs.length : Int) := by omega
    have g1' : (i : Int) < (ys.length : Int) := by omega
    have g2 : (0 : Int) ≤ (i : Int) := Int.natCast_nonneg _
    have g3 : rd ys (i : Int) = (m : Int) := by
      have := h3 i (by omega)
      rw [List.getElem?_set_self (by omega)] at this
      simp [rd, List.getD_eq_getElem?_getD, this]
    refine ⟨ys, Ev.step (fun k => ?_) h1, h2, fun j hj => ?_, Ev.step (fun k => ?_) h4⟩
    · simp only [laws_markIntS.l0, if_pos g1, if_pos g2]
      rw [wsucc i (by omega), wsucc m (by omega), Int.toNat_natCast]
    · have := h3 j (by omega)
      rwa [List.getElem?_set_ne (by omega)] at this
    · simp only [laws_heldIntS.l0, if_pos g1', if_pos g2, g3, if_true]
      rw [wsucc i (by omega), wsucc m (by omega)]
theorem markIntS_ev (xs : List Int) (m : Nat) (h : xs.length + m < 2 ^ 60) : ∃ ys : List Int, Ev (fun k => laws_markIntS.f k xs (m : Int)) (((m + xs.length : Nat) : Int), ys) ∧ ys.length = xs.length ∧
    Ev (fun k => laws_heldIntS.f k ys (m : Int)) ((m + xs.length : Nat) : Int) := by
  obtain ⟨ys, h1, h2, _, h4⟩ := markIntS_l xs.length 0 m xs (by omega) (by omega) (by omega)
  exact ⟨ys, h1, h2, h4⟩

/-! ### the value of a form, as the reference and the program reckon it -/
def Rl (x y : Int) : Prop := (x ≤ 1000000 ∧ y = x) ∨ (1000000 < x ∧ 1000000 < y)
def Good : Nat → List S69 → Prop
  | 0, L => L = []
  | d + 1, L => L.length ≤ 64 ∧ ∀ t ∈ L, 1 ≤ t.f1 ∧ t.f1 ≤ 3000 ∧ Good d t.f0.f0
theorem rd69 (xs : List S69) (i : Nat) (h : i < xs.length) : rd_T69 xs (i : Int) = xs[i] := by
  simp [rd_T69, List.getD_eq_getElem?_getD, List.getElem?_eq_getElem h]
theorem pw_pos {B : Int} (hB : 2 ≤ B) (e : Nat) : 1 ≤ B ^ e := by
  have : 0 < B ^ e := Int.pow_pos (by omega)
  omega
theorem pw_big {B : Int} (hB : 2 ≤ B) : ∀ e : Nat, (e : Int) < B ^ e
  | 0 => by simp
  | e + 1 => by
    have h := pw_big hB e
    have h1 := pw_pos hB e
    rw [Int.pow_succ]
    have h2 : B ^ e * 2 ≤ B ^ e * B := Int.mul_le_mul_of_nonneg_left hB (by omega)
    omega
theorem mul_ge {a b : Int} (ha : 1 ≤ a) (hb : 0 ≤ b) : b ≤ a * b := by
  have := Int.mul_le_mul_of_nonneg_right ha hb
  omega
/-- A power that stops where it is too great. -/
theorem power_ev {B : Int} (hB : 2 ≤ B) (hB2 : B ≤ 3001) : ∀ (e : Nat) (x : Int), 1 ≤ x → x ≤ 1000000 * B → (e : Int) < 2 ^ 62 →
    ∃ p, Ev (fun k => spec_dePower.l0 k B (e : Int) x) p ∧ (x * B ^ e ≤ 1000000 → p = x * B ^ e) ∧ (p ≤ 1000000 → p = x * B ^ e) ∧ x ≤ p ∧ p ≤ 1000000 * B := by
  intro e
  induction e with
  | zero =>
    intro x h1 h2 _
    refine ⟨x, Ev.step (fun k => ?_) (Ev.now _), fun _ => by simp, fun _ => by simp, Int.le_refl _, h2⟩
    simp only [spec_dePower.l0]
    rw [if_neg (by simp)]
  | succ e ih =>
    intro x h1 h2 h3
    have g1 : ((e + 1 : Nat) : Int) > 0 := by omega
    have hw : wrap64 (((e + 1 : Nat) : Int) - 1) = (e : Int) := by unfold wrap64; omega
    by_cases hx : x ≤ 1000000
    · have hxB : x * B ≤ 1000000 * B := Int.mul_le_mul_of_nonneg_right hx (by omega)
      have hx1 : 1 ≤ x * B := by have := mul_ge h1 (show 0 ≤ B by omega); omega
      have hw2 : wrap64 (x * B) = x * B := by generalize x * B = z at hxB hx1; unfold wrap64; omega
      obtain ⟨p, e1, a1, a2, a3, a4⟩ := ih (x * B) hx1 hxB (by clear hw hw2; omega)
      have hp : x * B * B ^ e = x * B ^ (e + 1) := by rw [Int.pow_succ, Int.mul_assoc, Int.mul_comm B]
      rw [hp] at a1 a2
      refine ⟨p, Ev.step (fun k => ?_) e1, a1, a2, ?_, a4⟩
      · simp only [spec_dePower.l0, if_pos g1, if_pos hx, hw, hw2]
      · have := mul_ge (show 1 ≤ B by omega) (show 0 ≤ x by omega)
        rw [Int.mul_comm] at this
        exact Int.le_trans this a3
    · refine ⟨x, Ev.step (fun k => ?_) (Ev.now _), fun h => ?_, fun h => ?_, Int.le_refl _, h2⟩
      · simp only [spec_dePower.l0, if_pos g1, if_neg hx]
      · have := mul_ge (pw_pos hB (e + 1)) (show 0 ≤ x by omega)
        rw [Int.mul_comm] at this
        clear hw
        omega
      · clear hw
        omega
def part (B s p : Int) (L : List S69) (j : Nat) (k : Nat) : Option Int := if wrap64 (s + p) > 1000000 then some 1000001 else impl_valueOf.l0 k B (wrap64 (s + p)) L (L.length : Int) (wrap64 ((j : Int) + 1))
theorem part_ev {B : Int} (hB : 2 ≤ B) (hB2 : B ≤ 3001) (s : Int) (L : List S69) (j : Nat) : ∀ (e : Nat) (c : Int), 1 ≤ c → c ≤ 1000000 * B → (e : Int) < 2 ^ 62 →
    ∃ p, (∀ r, Ev (part B s p L j) r → Ev (fun k => impl_valueOf.l1 k B s (e : Int) c L (L.length : Int) (j : Int)) r) ∧ (c * B ^ e ≤ 1000000 → p = c * B ^ e) ∧ (p ≤ 1000000 → p = c * B ^ e) ∧ c ≤ p ∧ p ≤ 1000000 * B := by
  intro e
  induction e with
  | zero =>
    intro c h1 h2 _
    refine ⟨c, fun r hr => Ev.step (fun k => ?_) hr, fun _ => by simp, fun _ => by simp, Int.le_refl _, h2⟩
    simp only [impl_valueOf.l1]
    rw [if_neg (by simp)]
    rfl
  | succ e ih =>
    intro c h1 h2 h3
    have g1 : ((e + 1 : Nat) : Int) > 0 := by omega
    have hw : wrap64 (((e + 1 : Nat) : Int) - 1) = (e : Int) := by unfold wrap64; omega
    by_cases hx : c ≤ 1000000
    · have hxB : c * B ≤ 1000000 * B := Int.mul_le_mul_of_nonneg_right hx (by omega)
      have hx1 : 1 ≤ c * B := by have := mul_ge h1 (show 0 ≤ B by omega); omega
      have hw2 : wrap64 (c * B) = c * B := by generalize c * B = z at hxB hx1; unfold wrap64; omega
      obtain ⟨p, e1, a1, a2, a3, a4⟩ := ih (c * B) hx1 hxB (by clear hw hw2; omega)
      have hp : c * B * B ^ e = c * B ^ (e + 1) := by rw [Int.pow_succ, Int.mul_assoc, Int.mul_comm B]
      rw [hp] at a1 a2
      refine ⟨p, fun r hr => Ev.step (fun k => ?_) (e1 r hr), a1, a2, ?_, a4⟩
      · simp only [impl_valueOf.l1, if_pos g1, if_pos hx, hw, hw2]
      · have := mul_ge (show 1 ≤ B by omega) (show 0 ≤ c by omega)
        rw [Int.mul_comm] at this
        exact Int.le_trans this a3
    · refine ⟨c, fun r hr => Ev.step (fun k => ?_) hr, fun h => ?_, fun h => ?_, Int.le_refl _, h2⟩
      · simp only [impl_valueOf.l1, if_pos g1, if_neg hx]
        rfl
      · have := mul_ge (pw_pos hB (e + 1)) (show 0 ≤ c by omega)
        rw [Int.mul_comm] at this
        clear hw
        omega
      · clear hw
        omega
def VR (B : Int) (L : List S69) : Prop := ∃ x y, Ev (fun k => spec_deValue.f k L B) x ∧ Ev (fun k => impl_valueOf.f k L B) y ∧ 0 ≤ x ∧ x ≤ 2000000 ∧ 0 ≤ y ∧ y ≤ 2000000 ∧ Rl x y ∧ (0 < L.length → 1 ≤ x)
theorem value_l {B : Int} (hB : 2 ≤ B) (hB2 : B ≤ 3001) (L : List S69) (hl : L.length ≤ 64) (hg : ∀ t ∈ L, 1 ≤ t.f1 ∧ t.f1 ≤ 3000 ∧ VR B t.f0.f0) : ∀ (d j : Nat) (s : Int), j + d = L.length → 0 ≤ s → s ≤ 1000000 →
    ∃ x y, Ev (fun k => spec_deValue.l0 k B s L (L.length : Int) (j : Int)) x ∧ Ev (fun k => impl_valueOf.l0 k B s L (L.length : Int) (j : Int)) y ∧ 0 ≤ x ∧ x ≤ 2000000 ∧ 0 ≤ y ∧ y ≤ 2000000 ∧ Rl x y ∧ s ≤ x ∧ (0 < d → 1 ≤ x) := by
  intro d
  induction d with
  | zero =>
    intro j s hj h0 h1
    have c : ¬ (j : Int) < (L.length : Int) := by omega
    refine ⟨s, s, Ev.step (fun k => ?_) (Ev.now _), Ev.step (fun k => ?_) (Ev.now _), h0, by omega, h0, by omega, .inl ⟨h1, rfl⟩, Int.le_refl _, fun h => absurd h (Nat.lt_irrefl _)⟩
    · simp only [spec_deValue.l0, if_neg c]
    · simp only [impl_valueOf.l0, if_neg c]
  | succ d ih =>
    intro j s hj h0 h1
    have g1 : (j : Int) < (L.length : Int) := by omega
    have g2 : (0 : Int) ≤ (j : Int) := Int.natCast_nonneg _
    have hjl : j < L.length := by omega
    obtain ⟨c1, c2, xe, ye, ex, ey, x0, x1, y0, y1, hr, _⟩ := hg L[j] (List.getElem_mem hjl)
    have hwj := wsucc j (by omega)
    obtain ⟨e, rfl⟩ : ∃ e : Nat, ye = (e : Int) := ⟨ye.toNat, by clear hwj; omega⟩
    obtain ⟨p2, q1, q2, q3, q4, q5⟩ := part_ev hB hB2 s L j e (L[j]).f1 c1 (by have := mul_ge (show (1 : Int) ≤ 1000000 by decide) (show 0 ≤ B by omega); clear hwj; omega) (by clear hwj; omega)
    have hwp : wrap64 (s + p2) = s + p2 := by have := Int.mul_le_mul_of_nonneg_left hB2 (show (0 : Int) ≤ 1000000 by decide); clear hwj; unfold wrap64; omega
    have hvy : ∀ r, Ev (part B s p2 L j) r → Ev (fun k => impl_valueOf.l0 k B s L (L.length : Int) (j : Int)) r := by
      intro r h
      refine Ev.step (f := fun k => (impl_valueOf.f k (L[j]).f0.f0 B).bind fun t => impl_valueOf.l1 k B s t (L[j]).f1 L (L.length : Int) (j : Int)) (fun k => ?_) (Ev.bind ey (q1 r h))
      simp only [impl_valueOf.l0, if_pos g1, if_pos g2, rd69 L j hjl]
    have hbig : 1000000 < p2 → Ev (fun k => impl_valueOf.l0 k B s L (L.length : Int) (j : Int)) 1000001 := by
      intro hp
      refine hvy _ (Ev.congr (fun k => ?_) (Ev.now _))
      unfold part
      rw [hwp, if_pos (by clear hwp hwj; omega)]
    rcases hr with ⟨hx, he⟩ | ⟨hx, hy⟩
    · subst he
      obtain ⟨p1, w1, w2, w3, w4, w5⟩ := power_ev hB hB2 e 1 (Int.le_refl _) (by have := mul_ge (show (1 : Int) ≤ 1000000 by decide) (show 0 ≤ B by omega); clear hwp hwj; omega) (by clear hwp hwj; omega)
      rw [Int.one_mul] at w2 w3
      have hc0 : 0 ≤ (L[j]).f1 := by clear hwp hwj; omega
      have hp1 : (L[j]).f1 * p1 ≤ 3000 * (1000000 * 3001) := Int.mul_le_mul c2 (Int.le_trans w5 (Int.mul_le_mul_of_nonneg_left hB2 (by decide))) (by clear hwp hwj; omega) (by decide)
      have hge1 : p1 ≤ (L[j]).f1 * p1 := mul_ge c1 (by clear hwp hwj; omega)
      have hwm : wrap64 ((L[j]).f1 * p1) = (L[j]).f1 * p1 := by clear hwp hwj; generalize (L[j]).f1 * p1 = z at hp1 hge1; unfold wrap64; omega
      have hws : wrap64 (s + (L[j]).f1 * p1) = s + (L[j]).f1 * p1 := by clear hwp hwj hwm; generalize (L[j]).f1 * p1 = z at hp1 hge1; unfold wrap64; omega
      have hvx : ∀ r, Ev (fun k => if s + (L[j]).f1 * p1 > 1000000 then some 1000001 else spec_deValue.l0 k B (s + (L[j]).f1 * p1) L (L.length : Int) ((j + 1 : Nat) : Int)) r → Ev (fun k => spec_deValue.l0 k B s L (L.length : Int) (j : Int)) r := by
        intro r h
        refine Ev.step (f := fun k => (spec_deValue.f k (L[j]).f0.f0 B).bind fun t106 => (if t106 > 1000000 then (some t106) else ((spec_dePower.f k B t106).bind fun t107 => (if (wrap64 (s + (wrap64 ((L[j]).f1 * t107)))) > 1000000 then (some 1000001) else (spec_deValue.l0 k B (wrap64 (s + (wrap64 ((L[j]).f1 * t107)))) L (L.length : Int) ((j + 1 : Nat) : Int)))))) (fun k => ?_) (Ev.bind ex ?_)
        · simp only [spec_deValue.l0, if_pos g1, if_pos g2, rd69 L j hjl, hwj]
        · have hne : ¬ (e : Int) > 1000000 := by clear hwp hwj hwm hws; omega
          simp only [if_neg hne]
          refine Ev.bind (show Ev (fun k => spec_dePower.f k B (e : Int)) p1 from w1) ?_
          simp only [hwm, hws]
          exact h
      by_cases hV : (L[j]).f1 * B ^ e ≤ 1000000
      · have hpe := mul_ge c1 (show 0 ≤ B ^ e by have := pw_pos hB e; clear hwp hwj hwm hws; omega)
        have e1 := w2 (by clear hwp hwj hwm hws; omega)
        have e2 := q2 hV
        rw [e1] at hvx
        by_cases hs : s + (L[j]).f1 * B ^ e > 1000000
        · refine ⟨1000001, 1000001, hvx _ ?_, hvy _ (Ev.congr (fun k => ?_) (Ev.now _)), by decide, by decide, by decide, by decide, .inr ⟨by decide, by decide⟩, Int.le_trans h1 (by decide), fun _ => by decide⟩
          · simp only [if_pos hs]
            exact Ev.now _
          · unfold part
            rw [hwp, e2, if_pos hs]
        · have hs0 : 0 ≤ s + (L[j]).f1 * B ^ e := by have := pw_pos hB e; clear hwp hwj hwm hws; omega
          obtain ⟨x, y, f1, f2, f3⟩ := ih (j + 1) (s + (L[j]).f1 * B ^ e) (by clear hwp hwj hwm hws; omega) hs0 (by clear hwp hwj hwm hws; omega)
          have hB1 := pw_pos hB e
          have hcb := mul_ge c1 (show 0 ≤ B ^ e by clear hwp hwj hwm hws; omega)
          refine ⟨x, y, hvx _ ?_, hvy _ ?_, f3.1, f3.2.1, f3.2.2.1, f3.2.2.2.1, f3.2.2.2.2.1, by have := f3.2.2.2.2.2.1; clear hwp hwj hwm hws; omega, fun _ => by have := f3.2.2.2.2.2.1; clear hwp hwj hwm hws; omega⟩
          · simp only [if_neg hs]
            exact f1
          · refine Ev.congr (fun k => ?_) f2
            unfold part
            rw [hwp, e2, if_neg hs, hwj]
      · have hp2 : 1000000 < p2 := by
          rcases Int.lt_or_le 1000000 p2 with h | h
          · exact h
          · have := q3 h
            clear hwp hwj hwm hws
            omega
        have hp1b : 1000000 < (L[j]).f1 * p1 := by
          rcases Int.lt_or_le 1000000 p1 with h | h
          · clear hwp hwj hwm hws; omega
          · rw [w3 h]
            clear hwp hwj hwm hws
            omega
        refine ⟨1000001, 1000001, hvx _ ?_, hbig hp2, by decide, by decide, by decide, by decide, .inr ⟨by decide, by decide⟩, Int.le_trans h1 (by decide), fun _ => by decide⟩
        have hs : s + (L[j]).f1 * p1 > 1000000 := by clear hwp hwj hwm hws; omega
        simp only [if_pos hs]
        exact Ev.now _
    · have hp2 : 1000000 < p2 := by
        rcases Int.lt_or_le 1000000 p2 with h | h
        · exact h
        · have h1 := q3 h
          have h2 := mul_ge c1 (show 0 ≤ B ^ e by have := pw_pos hB e; clear hwp hwj; omega)
          have h3 := pw_big hB e
          clear hwp hwj
          omega
      refine ⟨xe, 1000001, ?_, hbig hp2, x0, x1, by decide, by decide, .inr ⟨hx, by decide⟩, by clear hwp hwj; omega, fun _ => by clear hwp hwj; omega⟩
      refine Ev.step (f := fun k => (spec_deValue.f k (L[j]).f0.f0 B).bind fun t106 => (if t106 > 1000000 then (some t106) else ((spec_dePower.f k B t106).bind fun t107 => (if (wrap64 (s + (wrap64 ((L[j]).f1 * t107)))) > 1000000 then (some 1000001) else (spec_deValue.l0 k B (wrap64 (s + (wrap64 ((L[j]).f1 * t107)))) L (L.length : Int) ((j + 1 : Nat) : Int)))))) (fun k => ?_) (Ev.bind ex ?_)
      · simp only [spec_deValue.l0, if_pos g1, if_pos g2, rd69 L j hjl, hwj]
      · have hgt : xe > 1000000 := hx
        simp only [if_pos hgt]
        exact Ev.now _
theorem value_ev {B : Int} (hB : 2 ≤ B) (hB2 : B ≤ 3001) : ∀ (d : Nat) (L : List S69), Good d L → VR B L := by
  have go : ∀ L : List S69, L.length ≤ 64 → (∀ t ∈ L, 1 ≤ t.f1 ∧ t.f1 ≤ 3000 ∧ VR B t.f0.f0) → VR B L := by
    intro L hl h
    obtain ⟨x, y, e1, e2, r⟩ := value_l hB hB2 L hl h L.length 0 0 (by omega) (Int.le_refl _) (by decide)
    exact ⟨x, y, Ev.step (fun k => by simp only [spec_deValue.f]; rfl) e1, Ev.step (fun k => by simp only [impl_valueOf.f]; rfl) e2, r.1, r.2.1, r.2.2.1, r.2.2.2.1, r.2.2.2.2.1, r.2.2.2.2.2.2⟩
  intro d
  induction d with
  | zero =>
    intro L h
    have h' : L = [] := h
    subst h'
    exact go [] (by simp) (fun t ht => by cases ht)
  | succ d ih =>
    intro L h
    exact go L h.1 (fun t ht => ⟨(h.2 t ht).1, (h.2 t ht).2.1, ih _ (h.2 t ht).2.2⟩)
theorem digs_lt {b : Int} (hb : 2 ≤ b) : ∀ (k : Nat) (n : Int), ∀ d ∈ he.digs k b n, d < b
  | 0, n, d, hd => by simp [he.digs] at hd
  | k + 1, n, d, hd => by
    unfold he.digs at hd
    split at hd
    · rcases List.mem_cons.1 hd with rfl | hd
      · exact Int.emod_lt_of_pos _ (by omega)
      · exact digs_lt hb k _ d hd
    · cases hd
theorem add_all (h : Int → List S69) (zs : List Int) (P : S69 → Prop) (hP : ∀ x : Fin zs.length, rb.dig zs x > 0 → P ⟨⟨h (x.1 : Int)⟩, rb.dig zs x⟩) : ∀ (pre : List (Fin zs.length)) (acc : List S69), (∀ t ∈ acc, P t) → ∀ t ∈ pre.foldl (he.add h zs) acc, P t
  | [], acc, ha, t, ht => ha t ht
  | x :: pre, acc, ha, t, ht => by
    rw [List.foldl_cons] at ht
    refine add_all h zs P hP pre _ (fun t ht => ?_) t ht
    unfold he.add at ht
    by_cases hd : rb.dig zs x > 0
    · rw [if_pos hd] at ht
      rcases List.mem_append.1 ht with ht | ht
      · exact ha t ht
      · rw [List.mem_singleton.1 ht]
        exact hP x hd
    · rw [if_neg hd] at ht
      exact ha t ht
theorem good_f {b : Int} (hb : 2 ≤ b) (hb2 : b ≤ 3000) : ∀ (N : Nat) (n : Int), Good N (he.f N b n)
  | 0, n => rfl
  | N + 1, n => by
    refine ⟨?_, fun t ht => ?_⟩
    · have h1 := he.acc_len (he.f N b) (he.digs 64 b n) (rb.come (he.digs 64 b n) 0) []
      have h2 := he.digs_k (b := b) 64 n
      rw [rb.come_len] at h1
      simp only [List.length_nil] at h1
      show ((rb.come (he.digs 64 b n) 0).foldl (he.add (he.f N b) (he.digs 64 b n)) []).length ≤ 64
      omega
    · refine add_all (he.f N b) (he.digs 64 b n) (fun t => 1 ≤ t.f1 ∧ t.f1 ≤ 3000 ∧ Good N t.f0.f0) (fun x hx => ?_) (rb.come (he.digs 64 b n) 0) [] (fun t ht => by cases ht) t ht
      have hm : rb.dig (he.digs 64 b n) x ∈ he.digs 64 b n := by
        unfold rb.dig
        rw [List.getElem?_eq_getElem x.2]
        exact List.getElem_mem x.2
      have := digs_lt hb 64 n _ hm
      exact ⟨by show 1 ≤ rb.dig _ _; omega, by show rb.dig _ _ ≤ 3000; omega, good_f hb hb2 N _⟩
theorem go_pos (h : Int → List S69) : ∀ (ds : List Int) (e : Nat) (acc : List S69), (∃ d ∈ ds, 0 < d) → 0 < (de.go h ds e acc).length
  | [], _, _, hd => by obtain ⟨d, hd, _⟩ := hd; cases hd
  | d :: ds, e, acc, hd => by
    by_cases h0 : d > 0
    · show 0 < (de.go h ds (e + 1) (if d > 0 then _ else _)).length
      rw [if_pos h0]
      refine Nat.lt_of_lt_of_le ?_ (de.go_len h ds (e + 1) _)
      simp
    · obtain ⟨d', hd', hp⟩ := hd
      rcases List.mem_cons.1 hd' with rfl | hm
      · exact absurd hp h0
      · show 0 < (de.go h ds (e + 1) _).length
        exact go_pos h ds (e + 1) _ ⟨d', hm, hp⟩
theorem digs_pos {b : Int} (hb : 2 ≤ b) : ∀ (k : Nat) (n : Int), 0 < n → n < 2 ^ k → ∃ d ∈ he.digs k b n, 0 < d
  | 0, n, h, h2 => by simp at h2; omega
  | k + 1, n, h, h2 => by
    obtain ⟨a1, a2, a3⟩ := he.step hb h h2
    have e : he.digs (k + 1) b n = n % b :: he.digs k b (n / b) := by show (if n > 0 then _ else _) = _; rw [if_pos h]
    rw [e]
    by_cases hm : 0 < n % b
    · exact ⟨_, List.mem_cons_self .., hm⟩
    · have h3 := Int.emod_nonneg n (show b ≠ 0 by omega)
      have h4 := Int.mul_ediv_add_emod n b
      have h5 : 0 < n / b := by
        rcases Int.lt_or_le 0 (n / b) with h5 | h5
        · exact h5
        · have h6 : n / b = 0 := by omega
          rw [h6] at h4
          simp at h4
          omega
      obtain ⟨d, hd, hp⟩ := digs_pos hb k (n / b) h5 a2
      exact ⟨d, List.mem_cons_of_mem _ hd, hp⟩
theorem f_pos {b : Int} (hb : 2 ≤ b) (N : Nat) (n : Int) (h : 0 < n) (h2 : n ≤ 1000000) : 0 < (he.f (N + 1) b n).length := by
  have e : he.f (N + 1) b n = de.go (he.f N b) (he.digs 64 b n) 0 [] := (de.eq _ _).symm
  rw [e]
  exact go_pos _ _ _ _ (digs_pos hb 64 n h (by omega))
theorem in_some (e a b : Int) : impl_in.f e a b = some (decide (a ≤ e ∧ e ≤ b)) := by
  unfold impl_in.f
  by_cases h : e ≥ a
  · rw [if_pos h]; congr 1; simp; omega
  · rw [if_neg h]; congr 1; simp; omega
theorem in_eq (e a b : Int) : spec_l1In.f e a b = impl_in.f e a b := rfl
/-- One step: the base raised. -/
theorem raise_ev {n b : Int} (h0 : 0 ≤ n) (h1 : n ≤ 1000000) (hb : 2 ≤ b) (hb2 : b ≤ 3000) : ∃ x y, Ev (fun k => spec_deRaise.f k n b) x ∧ Ev (fun k => (impl_hereditary.f n b).bind fun t => impl_valueOf.f k t (wrap64 (b + 1))) y ∧ 0 ≤ x ∧ x ≤ 2000000 ∧ 0 ≤ y ∧ y ≤ 2000000 ∧ Rl x y ∧ (0 < n → 1 ≤ x) := by
  have hw : wrap64 (b + 1) = b + 1 := by unfold wrap64; omega
  have hc : 0 ≤ n ∧ n ≤ 1000000 ∧ 2 ≤ b ∧ b ≤ 2000000 := by clear hw; omega
  obtain ⟨x, y, e1, e2, r⟩ := value_ev (B := b + 1) (by clear hw; omega) (by clear hw; omega) (n.toNat + 1) (he.f (n.toNat + 1) b n) (good_f hb hb2 _ n)
  have f1 : spec_deForm.f n b = some (he.f (n.toNat + 1) b n) := by unfold spec_deForm.f; rw [if_pos hc]
  have f2 : impl_hereditary.f n b = some (he.f (n.toNat + 1) b n) := by unfold impl_hereditary.f; rw [if_pos hc]
  refine ⟨x, y, ?_, ?_, r.1, r.2.1, r.2.2.1, r.2.2.2.1, r.2.2.2.2.1, fun h => r.2.2.2.2.2 (f_pos hb _ n h h1)⟩
  · unfold spec_deRaise.f
    simp only [f1, Option.bind_some, hw]
    exact Ev.bind e1 (Ev.now _)
  · simp only [f2, Option.bind_some, hw]
    exact e2

/-! ### the sequence: the reference's and the program's -/
theorem run_ev (b0 most : Int) (hb : 2 ≤ b0) (hb2 : b0 ≤ 1000) (hm0 : 0 ≤ most) (hm : most ≤ 60) : ∀ (t : Nat) (n : Int) (acc : List Int) (c : Int), c + t = most → 0 ≤ c → 0 ≤ n → n ≤ 1000000 → acc.length ≤ 1000 - t → (∃ i, acc = i ++ [n]) →
    ∃ r : List Int × Bool, Ev (fun k => spec_deRun.l0 k n (b0 + c) (t : Int) acc) r ∧ Ev (fun k => impl_GoodsteinRun.l0 k n b0 most acc c) r ∧ r.1.length ≤ 1000 ∧ (r.2 = true → ∃ i m, r.1 = i ++ [m] ∧ 0 ≤ m) := by
  intro t
  induction t with
  | zero =>
    intro n acc c hc h0 hn0 hn1 hl hi
    have g1 : ¬ ((0 : Nat) : Int) > 0 := by simp
    have g2 : ¬ c < most := by omega
    obtain ⟨i, hi⟩ := hi
    refine ⟨(acc, true), Ev.step (f := fun k => spec_deRun.j1 k n (b0 + c) ((0 : Nat) : Int) acc false) (fun k => ?_) (Ev.step (fun k => ?_) (Ev.now _)), Ev.step (f := fun k => impl_GoodsteinRun.j2 k n b0 most acc c false) (fun k => ?_) (Ev.step (fun k => ?_) (Ev.now _)), by show acc.length ≤ 1000; omega, fun _ => ⟨i, n, hi, hn0⟩⟩
    · simp only [spec_deRun.l0, if_neg g1]
    · simp only [spec_deRun.j1, Bool.false_eq_true, if_false]
    · simp only [impl_GoodsteinRun.l0, if_neg g2]
    · simp only [impl_GoodsteinRun.j2, Bool.false_eq_true, if_false]
  | succ t ih =>
    intro n acc c hc h0 hn0 hn1 hl hi
    have g1 : ((t + 1 : Nat) : Int) > 0 := by omega
    have g2 : c < most := by omega
    by_cases hn : n > 0
    · obtain ⟨x, y, e1, e2, x0, x1, y0, y1, r, hx1⟩ := raise_ev (n := n) (b := b0 + c) hn0 hn1 (by omega) (by omega)
      have hx1 := hx1 hn
      have hw0 : wrap64 (b0 + c) = b0 + c := by unfold wrap64; omega
      have hlen : acc.length < 17592186044416 := by omega
      have hsp : ∀ r, Ev (fun k => if x > 1000000 then some (([] : List Int), false) else spec_deRun.l0 k (wrap64 (x - 1)) (wrap64 (b0 + c + 1)) (wrap64 (((t + 1 : Nat) : Int) - 1)) (acc ++ [wrap64 (x - 1)])) r → Ev (fun k => spec_deRun.l0 k n (b0 + c) ((t + 1 : Nat) : Int) acc) r := by
        intro r h
        refine Ev.step (f := fun k => spec_deRun.j1 k n (b0 + c) ((t + 1 : Nat) : Int) acc true) (fun k => by simp only [spec_deRun.l0, if_pos g1, decide_eq_true hn]) ?_
        refine Ev.step (f := fun k => (spec_deRaise.f k n (b0 + c)).bind fun t117 => (if t117 > 1000000 then (some (([] : List Int), false)) else (spec_deRun.l0 k (wrap64 (t117 - 1)) (wrap64 (b0 + c + 1)) (wrap64 (((t + 1 : Nat) : Int) - 1)) (acc ++ [wrap64 (t117 - 1)])))) (fun k => by simp only [spec_deRun.j1, if_true, if_pos hlen]) (Ev.bind e1 h)
      have him : ∀ r, Ev (fun k => if y > 1000000 then some (([] : List Int), false) else impl_GoodsteinRun.l0 k (wrap64 (y - 1)) b0 most (acc ++ [wrap64 (y - 1)]) (wrap64 (c + 1))) r → Ev (fun k => impl_GoodsteinRun.l0 k n b0 most acc c) r := by
        intro r h
        refine Ev.step (f := fun k => impl_GoodsteinRun.j2 k n b0 most acc c true) (fun k => by simp only [impl_GoodsteinRun.l0, if_pos g2, decide_eq_true hn]) ?_
        refine Ev.step (f := fun k => ((impl_hereditary.f n (b0 + c)).bind fun t => impl_valueOf.f k t (wrap64 (b0 + c + 1))).bind fun t142 => (if t142 > 1000000 then (some (([] : List Int), false)) else (impl_GoodsteinRun.l0 k (wrap64 (t142 - 1)) b0 most (acc ++ [wrap64 (t142 - 1)]) (wrap64 (c + 1))))) (fun k => ?_) (Ev.bind e2 h)
        simp only [impl_GoodsteinRun.j2, if_true, if_pos hlen, hw0]
        rw [Option.bind_assoc]
      rcases r with ⟨hx, rfl⟩ | ⟨hx, hy⟩
      · have w1 : wrap64 (y - 1) = y - 1 := by clear hw0; unfold wrap64; omega
        have w2 : wrap64 (b0 + c + 1) = b0 + (c + 1) := by clear hw0 w1; unfold wrap64; omega
        have w3 : wrap64 (((t + 1 : Nat) : Int) - 1) = (t : Int) := by clear hw0 w1 w2; unfold wrap64; omega
        have w4 : wrap64 (c + 1) = c + 1 := by clear hw0 w1 w2 w3; unfold wrap64; omega
        rw [w1, w2, w3] at hsp
        rw [w1, w4] at him
        clear hw0 w1 w2 w3 w4
        obtain ⟨r, f1, f2, f3, f4⟩ := ih (y - 1) (acc ++ [y - 1]) (c + 1) (by omega) (by omega) (by omega) (by omega) (by rw [List.length_append, List.length_singleton]; omega) ⟨acc, rfl⟩
        have hng : ¬ y > 1000000 := by omega
        refine ⟨r, hsp r ?_, him r ?_, f3, f4⟩
        · simp only [if_neg hng]
          exact f1
        · simp only [if_neg hng]
          exact f2
      · have hg1 : x > 1000000 := hx
        have hg2 : y > 1000000 := hy
        refine ⟨([], false), hsp _ ?_, him _ ?_, by simp, fun h => by cases h⟩
        · simp only [if_pos hg1]
          exact Ev.now _
        · simp only [if_pos hg2]
          exact Ev.now _
    · obtain ⟨i, hi⟩ := hi
      refine ⟨(acc, true), Ev.step (f := fun k => spec_deRun.j1 k n (b0 + c) ((t + 1 : Nat) : Int) acc false) (fun k => ?_) (Ev.step (fun k => ?_) (Ev.now _)), Ev.step (f := fun k => impl_GoodsteinRun.j2 k n b0 most acc c false) (fun k => ?_) (Ev.step (fun k => ?_) (Ev.now _)), by show acc.length ≤ 1000; omega, fun _ => ⟨i, n, hi, hn0⟩⟩
      · simp only [spec_deRun.l0, if_pos g1, decide_eq_false hn]
      · simp only [spec_deRun.j1, Bool.false_eq_true, if_false]
      · simp only [impl_GoodsteinRun.l0, if_pos g2, decide_eq_false hn]
      · simp only [impl_GoodsteinRun.j2, Bool.false_eq_true, if_false]
/-- What both say: the guard, and the sequence where it lets in. -/
theorem goodstein_ev (n b m : Int) : ∃ (ok : Bool) (r : List Int × Bool), Ev (fun k => impl_GoodsteinRun.f k n b m) r ∧ r.1.length ≤ 1000 ∧ (r.2 = true → ∃ i z, r.1 = i ++ [z] ∧ 0 ≤ z) ∧ (ok = false → r = ([], false)) ∧
    (ok = true → Ev (fun k => spec_deRun.f k n b m) r) ∧ spec_deBase.f n b = some (decide (0 ≤ n ∧ n ≤ 1000000) && decide (2 ≤ b ∧ b ≤ 1000)) ∧ spec_deTurns.f m = some (decide (0 ≤ m ∧ m ≤ 60)) ∧ ok = ((decide (0 ≤ n ∧ n ≤ 1000000) && decide (2 ≤ b ∧ b ≤ 1000)) && decide (0 ≤ m ∧ m ≤ 60)) := by
  have hno : Ev (fun k => impl_GoodsteinRun.j0 k n b m true) (([] : List Int), false) := by
    refine Ev.step (fun k => ?_) (Ev.now _)
    simp only [impl_GoodsteinRun.j0, if_true]
  have hba : spec_deBase.f n b = some (decide (0 ≤ n ∧ n ≤ 1000000) && decide (2 ≤ b ∧ b ≤ 1000)) := by
    unfold spec_deBase.f
    simp only [in_eq, in_some, Option.bind_some]
    cases decide (0 ≤ n ∧ n ≤ 1000000) <;> simp
  have htu : spec_deTurns.f m = some (decide (0 ≤ m ∧ m ≤ 60)) := by
    unfold spec_deTurns.f
    simp only [in_eq, in_some, Option.bind_some]
  refine ⟨((decide (0 ≤ n ∧ n ≤ 1000000) && decide (2 ≤ b ∧ b ≤ 1000)) && decide (0 ≤ m ∧ m ≤ 60)), ?_⟩
  by_cases hn : 0 ≤ n ∧ n ≤ 1000000
  · by_cases hb : 2 ≤ b ∧ b ≤ 1000
    · by_cases hm : 0 ≤ m ∧ m ≤ 60
      · obtain ⟨t, rfl⟩ : ∃ t : Nat, m = (t : Int) := ⟨m.toNat, by omega⟩
        obtain ⟨r, f1, f2, f3, f4⟩ := run_ev b (t : Int) hb.1 hb.2 hm.1 hm.2 t n [n] 0 (by omega) (by omega) hn.1 hn.2 (by simp; omega) ⟨[], rfl⟩
        rw [Int.add_zero] at f1
        refine ⟨r, ?_, f3, f4, fun h => ?_, fun _ => f1, hba, htu, rfl⟩
        · unfold impl_GoodsteinRun.f impl_baseOk.f
          simp only [in_some, decide_eq_true hn, decide_eq_true hb, decide_eq_true hm, Option.bind_some, if_true, Bool.not_true]
          refine Ev.step (fun k => ?_) f2
          simp only [impl_GoodsteinRun.j0, Bool.false_eq_true, if_false]
        · rw [decide_eq_true hn, decide_eq_true hb, decide_eq_true hm] at h
          cases h
      · refine ⟨([], false), ?_, by simp, fun h => (by cases h), fun _ => rfl, fun h => ?_, hba, htu, rfl⟩
        · unfold impl_GoodsteinRun.f impl_baseOk.f
          simp only [in_some, decide_eq_true hn, decide_eq_true hb, decide_eq_false hm, Option.bind_some, if_true, Bool.not_false]
          exact hno
        · rw [decide_eq_false hm, Bool.and_false] at h
          cases h
    · refine ⟨([], false), ?_, by simp, fun h => (by cases h), fun _ => rfl, fun h => ?_, hba, htu, rfl⟩
      · unfold impl_GoodsteinRun.f impl_baseOk.f
        simp only [in_some, decide_eq_true hn, decide_eq_false hb, Option.bind_some, if_true, Bool.false_eq_true, if_false]
        exact hno
      · rw [decide_eq_false hb, Bool.and_false, Bool.false_and] at h
        cases h
  · refine ⟨([], false), ?_, by simp, fun h => (by cases h), fun _ => rfl, fun h => ?_, hba, htu, rfl⟩
    · unfold impl_GoodsteinRun.f
      simp only [in_some, decide_eq_false hn, Option.bind_some, Bool.false_eq_true, if_false]
      exact hno
    · rw [decide_eq_false hn, Bool.false_and, Bool.false_and] at h
      cases h

theorem proved : laws_FnExactGoodsteinRun.Pure := by
  intro n b m _ _ _
  refine Ev.rounds ?_
  unfold laws_FnExactGoodsteinRun.f
  obtain ⟨ok, r, e1, hl, _, h0, h1, hba, htu, hok⟩ := goodstein_ev n b m
  have hs : Ev (fun k => spec_GoodsteinRun.f k n b m) r := by
    unfold spec_GoodsteinRun.f
    simp only [hba, htu, Option.bind_some]
    cases ok with
    | true =>
      have h2 := hok.symm
      rw [Bool.and_eq_true] at h2
      simp only [h2.1, h2.2, if_true]
      exact Ev.bind (h1 rfl) (Ev.now _)
    | false =>
      rw [h0 rfl]
      have h2 := hok.symm
      rw [Bool.and_eq_false_iff] at h2
      by_cases h3 : (decide (0 ≤ n ∧ n ≤ 1000000) && decide (2 ≤ b ∧ b ≤ 1000)) = true
      · have h4 : decide (0 ≤ m ∧ m ≤ 60) = false := h2.resolve_left (by rw [h3]; decide)
        simp only [h3, h4, if_true, Bool.false_eq_true, if_false]
        exact Ev.now _
      · simp only [if_neg h3]
        exact Ev.now _
  obtain ⟨ys, b1, _, b3⟩ := markIntS_ev r.1 1 (by omega)
  have b1' : Ev (fun k => laws_markIntS.f k r.1 1) (((1 + r.1.length : Nat) : Int), ys) := b1
  have b3' : Ev (fun k => laws_heldIntS.f k ys 1) ((1 + r.1.length : Nat) : Int) := b3
  have hq : ¬ ((1 + r.1.length : Nat) : Int) < 0 := by omega
  refine Ev.bind hs (Ev.bind e1 (Ev.bind (eqIntS_ev r.1 (by omega)) ?_))
  simp only [if_true, bne_self_eq_false]
  refine Ev.step (f := fun k => (laws_markIntS.f k r.1 1).bind fun bt159 => ((laws_heldIntS.f k bt159.2 1).bind fun t161 => (if t161 < 0 then (some false) else (if t161 = bt159.1 then ((impl_GoodsteinRun.f k n b m).bind fun bt162 => ((laws_eqIntS.f k bt162.1 r.1).bind fun t166 => (if t166 = true then (laws_FnExactGoodsteinRun.j1 k bt159.2 bt159.1 (bt162.2 != r.2)) else (laws_FnExactGoodsteinRun.j1 k bt159.2 bt159.1 true)))) else (some false))))) (fun k => by simp only [laws_FnExactGoodsteinRun.j0, Bool.false_eq_true, if_false]) ?_
  refine Ev.bind b1' (Ev.bind b3' ?_)
  simp only [if_neg hq, if_true]
  refine Ev.bind e1 (Ev.bind (eqIntS_ev r.1 (by omega)) ?_)
  simp only [if_true, bne_self_eq_false]
  refine Ev.step (f := fun k => (laws_heldIntS.f k ys 1).bind fun t167 => (if t167 < 0 then (some false) else (if t167 = ((1 + r.1.length : Nat) : Int) then (some true) else (some false)))) (fun k => by simp only [laws_FnExactGoodsteinRun.j1, Bool.false_eq_true, if_false]) (Ev.bind b3' ?_)
  simp only [if_neg hq, if_true]
  exact Ev.now _

end LFnExactGoodsteinRun
theorem FnExactGoodsteinRun : laws_FnExactGoodsteinRun.Pure := LFnExactGoodsteinRun.proved
end Go.Proofs.Ytgjpfhedhehmdaa.Pure
