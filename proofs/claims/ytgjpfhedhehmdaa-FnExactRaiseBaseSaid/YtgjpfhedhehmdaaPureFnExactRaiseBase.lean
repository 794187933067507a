/- For any two numbers, the program raises the base of the hereditary form just as the reference does. -/
import Derived.Test.YtgjpfhedhehmdaaQFnExactRaiseBasex3
namespace Go.Proofs.Ytgjpfhedhehmdaa.Pure
open Go.RowKit Go.Proofs.Ytgjpfhedhehmdaa.QFnExactRaiseBase Go.Proofs.YtgjpfhedhehmdaaW.PrintWords Go.Proofs.YtgjpfhedhehmdaaW.PrintLast
set_option linter.unusedVariables false
set_option linter.unusedSimpArgs false
namespace LFnExactRaiseBase
/-! ### small words -/
theorem wsucc (i : Nat) (h : i < 2 ^ 62) : wrap64 ((i : Int) + 1) = ((i + 1 : Nat) : Int) := by unfold wrap64; omega
theorem drop_rd {l : List Int} {i : Nat} (h : i < l.length) : l.drop i = rd l (i : Int) :: l.drop (i + 1) := by
  rw [List.drop_eq_getElem_cons h]
  simp [rd, List.getD_eq_getElem?_getD, List.getElem?_eq_getElem h]

/-! ### the value of a form, as the reference and the program reckon it -/
def Rl (x y : Int) : Prop := (x ≤ 1000000 ∧ y = x) ∨ (1000000 < x ∧ 1000000 < y)
def Good : Nat → List S69 → Prop
  | 0, L => L = []
  | d + 1, L => L.length ≤ 64 ∧ ∀ t ∈ L, 1 ≤ t.f1 ∧ t.f1 ≤ 3000 ∧ Good d t.f0.f0
theorem rd69 (xs : List S69) (i : Nat) (h : i < xs.length) : rd_T69 xs (i : Int) = xs[i] := by
  simp [rd_T69, List.getD_eq_getElem?_getD, List.getElem?_eq_getElem h]
theorem pw_pos {B : Int} (hB : 2 ≤ B) (e : Nat) : 1 ≤ B ^ e := by
  have : 0 < B ^ e := Int.pow_pos (by omega)
  omega
theorem pw_big {B : Int} (hB : 2 ≤ B) : ∀ e : Nat, (e : Int) < B ^ e
  | 0 => by simp
  | e + 1 => by
    have h := pw_big hB e
    have h1 := pw_pos hB e
    rw [Int.pow_succ]
    have h2 : B ^ e * 2 ≤ B ^ e * B := Int.mul_le_mul_of_nonneg_left hB (by omega)
    omega
theorem mul_ge {a b : Int} (ha : 1 ≤ a) (hb : 0 ≤ b) : b ≤ a * b := by
  have := Int.mul_le_mul_of_nonneg_right ha hb
  omega
/-- A power that stops where it is too great. -/
theorem power_ev {B : Int} (hB : 2 ≤ B) (hB2 : B ≤ 3001) : ∀ (e : Nat) (x : Int), 1 ≤ x → x ≤ 1000000 * B → (e : Int) < 2 ^ 62 →
    ∃ p, Ev (fun k => spec_dePower.l0 k B (e : Int) x) p ∧ (x * B ^ e ≤ 1000000 → p = x * B ^ e) ∧ (p ≤ 1000000 → p = x * B ^ e) ∧ x ≤ p ∧ p ≤ 1000000 * B := by
  intro e
  induction e with
  | zero =>
    intro x h1 h2 _
    refine ⟨x, Ev.step (fun k => ?_) (Ev.now _), fun _ => by simp, fun _ => by simp, Int.le_refl _, h2⟩
    simp only [spec_dePower.l0]
    rw [if_neg (by simp)]
  | succ e ih =>
    intro x h1 h2 h3
    have g1 : ((e + 1 : Nat) : Int) > 0 := by omega
    have hw : wrap64 (((e + 1 : Nat) : Int) - 1) = (e : Int) := by unfold wrap64; omega
    by_cases hx : x ≤ 1000000
    · have hxB : x * B ≤ 1000000 * B := Int.mul_le_mul_of_nonneg_right hx (by omega)
      have hx1 : 1 ≤ x * B := by have := mul_ge h1 (show 0 ≤ B by omega); omega
      have hw2 : wrap64 (x * B) = x * B := by generalize x * B = z at hxB hx1; unfold wrap64; omega
      obtain ⟨p, e1, a1, a2, a3, a4⟩ := ih (x * B) hx1 hxB (by clear hw hw2; omega)
      have hp : x * B * B ^ e = x * B ^ (e + 1) := by rw [Int.pow_succ, Int.mul_assoc, Int.mul_comm B]
      rw [hp] at a1 a2
      refine ⟨p, Ev.step (fun k => ?_) e1, a1, a2, ?_, a4⟩
      · simp only [spec_dePower.l0, if_pos g1, if_pos hx, hw, hw2]
      · have := mul_ge (show 1 ≤ B by omega) (show 0 ≤ x by omega)
        rw [Int.mul_comm] at this
        exact Int.le_trans this a3
    · refine ⟨x, Ev.step (fun k => ?_) (Ev.now _), fun h => ?_, fun h => ?_, Int.le_refl _, h2⟩
      · simp only [spec_dePower.l0, if_pos g1, if_neg hx]
      · have := mul_ge (pw_pos hB (e + 1)) (show 0 ≤ x by omega)
        rw [Int.mul_comm] at this
        clear hw
        omega
      · clear hw
        omega
def part (B s p : Int) (L : List S69) (j : Nat) (k : Nat) : Option Int := if wrap64 (s + p) > 1000000 then some 1000001 else impl_valueOf.l0 k B (wrap64 (s + p)) L (L.length : Int) (wrap64 ((j : Int) + 1))
theorem part_ev {B : Int} (hB : 2 ≤ B) (hB2 : B ≤ 3001) (s : Int) (L : List S69) (j : Nat) : ∀ (e : Nat) (c : Int), 1 ≤ c → c ≤ 1000000 * B → (e : Int) < 2 ^ 62 →
    ∃ p, (∀ r, Ev (part B s p L j) r → Ev (fun k => impl_valueOf.l1 k B s (e : Int) c L (L.length : Int) (j : Int)) r) ∧ (c * B ^ e ≤ 1000000 → p = c * B ^ e) ∧ (p ≤ 1000000 → p = c * B ^ e) ∧ c ≤ p ∧ p ≤ 1000000 * B := by
  intro e
  induction e with
  | zero =>
    intro c h1 h2 _
    refine ⟨c, fun r hr => Ev.step (fun k => ?_) hr, fun _ => by simp, fun _ => by simp, Int.le_refl _, h2⟩
    simp only [impl_valueOf.l1]
    rw [if_neg (by simp)]
    rfl
  | succ e ih =>
    intro c h1 h2 h3
    have g1 : ((e + 1 : Nat) : Int) > 0 := by omega
    have hw : wrap64 (((e + 1 : Nat) : Int) - 1) = (e : Int) := by unfold wrap64; omega
    by_cases hx : c ≤ 1000000
    · have hxB : c * B ≤ 1000000 * B := Int.mul_le_mul_of_nonneg_right hx (by omega)
      have hx1 : 1 ≤ c * B := by have := mul_ge h1 (show 0 ≤ B by omega); omega
      have hw2 : wrap64 (c * B) = c * B := by generalize c * B = z at hxB hx1; unfold wrap64; omega
      obtain ⟨p, e1, a1, a2, a3, a4⟩ := ih (c * B) hx1 hxB (by clear hw hw2; omega)
      have hp : c * B * B ^ e = c * B ^ (e + 1) := by rw [Int.pow_succ, Int.mul_assoc, Int.mul_comm B]
      rw [hp] at a1 a2
      refine ⟨p, fun r hr => Ev.step (fun k => ?_) (e1 r hr), a1, a2, ?_, a4⟩
      · simp only [impl_valueOf.l1, if_pos g1, if_pos hx, hw, hw2]
      · have := mul_ge (show 1 ≤ B by omega) (show 0 ≤ c by omega)
        rw [Int.mul_comm] at this
        exact Int.le_trans this a3
    · refine ⟨c, fun r hr => Ev.step (fun k => ?_) hr, fun h => ?_, fun h => ?_, Int.le_refl _, h2⟩
      · simp only [impl_valueOf.l1, if_pos g1, if_neg hx]
        rfl
      · have := mul_ge (pw_pos hB (e + 1)) (show 0 ≤ c by omega)
        rw [Int.mul_comm] at this
        clear hw
        omega
      · clear hw
        omega
def VR (B : Int) (L : List S69) : Prop := ∃ x y, Ev (fun k => spec_deValue.f k L B) x ∧ Ev (fun k => impl_valueOf.f k L B) y ∧ 0 ≤ x ∧ x ≤ 2000000 ∧ 0 ≤ y ∧ y ≤ 2000000 ∧ Rl x y
theorem value_l {B : Int} (hB : 2 ≤ B) (hB2 : B ≤ 3001) (L : List S69) (hl : L.length ≤ 64) (hg : ∀ t ∈ L, 1 ≤ t.f1 ∧ t.f1 ≤ 3000 ∧ VR B t.f0.f0) : ∀ (d j : Nat) (s : Int), j + d = L.length → 0 ≤ s → s ≤ 1000000 →
    ∃ x y, Ev (fun k => spec_deValue.l0 k B s L (L.length : Int) (j : Int)) x ∧ Ev (fun k => impl_valueOf.l0 k B s L (L.length : Int) (j : Int)) y ∧ 0 ≤ x ∧ x ≤ 2000000 ∧ 0 ≤ y ∧ y ≤ 2000000 ∧ Rl x y := by
  intro d
  induction d with
  | zero =>
    intro j s hj h0 h1
    have c : ¬ (j : Int) < (L.length : Int) := by omega
    refine ⟨s, s, Ev.step (fun k => ?_) (Ev.now _), Ev.step (fun k => ?_) (Ev.now _), h0, by omega, h0, by omega, .inl ⟨h1, rfl⟩⟩
    · simp only [spec_deValue.l0, if_neg c]
    · simp only [impl_valueOf.l0, if_neg c]
  | succ d ih =>
    intro j s hj h0 h1
    have g1 : (j : Int) < (L.length : Int) := by omega
    have g2 : (0 : Int) ≤ (j : Int) := Int.natCast_nonneg _
    have hjl : j < L.length := by omega
    obtain ⟨c1, c2, xe, ye, ex, ey, x0, x1, y0, y1, hr⟩ := hg L[j] (List.getElem_mem hjl)
    have hwj := wsucc j (by omega)
    obtain ⟨e, rfl⟩ : ∃ e : Nat, ye = (e : Int) := ⟨ye.toNat, by clear hwj; omega⟩
    obtain ⟨p2, q1, q2, q3, q4, q5⟩ := part_ev hB hB2 s L j e (L[j]).f1 c1 (by have := mul_ge (show (1 : Int) ≤ 1000000 by decide) (show 0 ≤ B by omega); clear hwj; omega) (by clear hwj; omega)
    have hwp : wrap64 (s + p2) = s + p2 := by have := Int.mul_le_mul_of_nonneg_left hB2 (show (0 : Int) ≤ 1000000 by decide); clear hwj; unfold wrap64; omega
    have hvy : ∀ r, Ev (part B s p2 L j) r → Ev (fun k => impl_valueOf.l0 k B s L (L.length : Int) (j : Int)) r := by
      intro r h
      refine Ev.step (f := fun k => (impl_valueOf.f k (L[j]).f0.f0 B).bind fun t => impl_valueOf.l1 k B s t (L[j]).f1 L (L.length : Int) (j : Int)) (fun k => ?_) (Ev.bind ey (q1 r h))
      simp only [impl_valueOf.l0, if_pos g1, if_pos g2, rd69 L j hjl]
    have hbig : 1000000 < p2 → Ev (fun k => impl_valueOf.l0 k B s L (L.length : Int) (j : Int)) 1000001 := by
      intro hp
      refine hvy _ (Ev.congr (fun k => ?_) (Ev.now _))
      unfold part
      rw [hwp, if_pos (by clear hwp hwj; omega)]
    rcases hr with ⟨hx, he⟩ | ⟨hx, hy⟩
    · subst he
      obtain ⟨p1, w1, w2, w3, w4, w5⟩ := power_ev hB hB2 e 1 (Int.le_refl _) (by have := mul_ge (show (1 : Int) ≤ 1000000 by decide) (show 0 ≤ B by omega); clear hwp hwj; omega) (by clear hwp hwj; omega)
      rw [Int.one_mul] at w2 w3
      have hc0 : 0 ≤ (L[j]).f1 := by clear hwp hwj; omega
      have hp1 : (L[j]).f1 * p1 ≤ 3000 * (1000000 * 3001) := Int.mul_le_mul c2 (Int.le_trans w5 (Int.mul_le_mul_of_nonneg_left hB2 (by decide))) (by clear hwp hwj; omega) (by decide)
      have hge1 : p1 ≤ (L[j]).f1 * p1 := mul_ge c1 (by clear hwp hwj; omega)
      have hwm : wrap64 ((L[j]).f1 * p1) = (L[j]).f1 * p1 := by clear hwp hwj; generalize (L[j]).f1 * p1 = z at hp1 hge1; unfold wrap64; omega
      have hws : wrap64 (s + (L[j]).f1 * p1) = s + (L[j]).f1 * p1 := by clear hwp hwj hwm; generalize (L[j]).f1 * p1 = z at hp1 hge1; unfold wrap64; omega
      have hvx : ∀ r, Ev (fun k => if s + (L[j]).f1 * p1 > 1000000 then some 1000001 else spec_deValue.l0 k B (s + (L[j]).f1 * p1) L (L.length : Int) ((j + 1 : Nat) : Int)) r → Ev (fun k => spec_deValue.l0 k B s L (L.length : Int) (j : Int)) r := by
        intro r h
        refine Ev.step (f := fun k => (spec_deValue.f k (L[j]).f0.f0 B).bind fun t106 => (if t106 > 1000000 then (some t106) else ((spec_dePower.f k B t106).bind fun t107 => (if (wrap64 (s + (wrap64 ((L[j]).f1 * t107)))) > 1000000 then (some 1000001) else (spec_deValue.l0 k B (wrap64 (s + (wrap64 ((L[j]).f1 * t107)))) L (L.length : Int) ((j + 1 : Nat) : Int)))))) (fun k => ?_) (Ev.bind ex ?_)
        · simp only [spec_deValue.l0, if_pos g1, if_pos g2, rd69 L j hjl, hwj]
        · have hne : ¬ (e : Int) > 1000000 := by clear hwp hwj hwm hws; omega
          simp only [if_neg hne]
          refine Ev.bind (show Ev (fun k => spec_dePower.f k B (e : Int)) p1 from w1) ?_
          simp only [hwm, hws]
          exact h
      by_cases hV : (L[j]).f1 * B ^ e ≤ 1000000
      · have hpe := mul_ge c1 (show 0 ≤ B ^ e by have := pw_pos hB e; clear hwp hwj hwm hws; omega)
        have e1 := w2 (by clear hwp hwj hwm hws; omega)
        have e2 := q2 hV
        rw [e1] at hvx
        by_cases hs : s + (L[j]).f1 * B ^ e > 1000000
        · refine ⟨1000001, 1000001, hvx _ ?_, hvy _ (Ev.congr (fun k => ?_) (Ev.now _)), by decide, by decide, by decide, by decide, .inr ⟨by decide, by decide⟩⟩
          · simp only [if_pos hs]
            exact Ev.now _
          · unfold part
            rw [hwp, e2, if_pos hs]
        · have hs0 : 0 ≤ s + (L[j]).f1 * B ^ e := by have := pw_pos hB e; clear hwp hwj hwm hws; omega
          obtain ⟨x, y, f1, f2, f3⟩ := ih (j + 1) (s + (L[j]).f1 * B ^ e) (by clear hwp hwj hwm hws; omega) hs0 (by clear hwp hwj hwm hws; omega)
          refine ⟨x, y, hvx _ ?_, hvy _ ?_, f3⟩
          · simp only [if_neg hs]
            exact f1
          · refine Ev.congr (fun k => ?_) f2
            unfold part
            rw [hwp, e2, if_neg hs, hwj]
      · have hp2 : 1000000 < p2 := by
          rcases Int.lt_or_le 1000000 p2 with h | h
          · exact h
          · have := q3 h
            clear hwp hwj hwm hws
            omega
        have hp1b : 1000000 < (L[j]).f1 * p1 := by
          rcases Int.lt_or_le 1000000 p1 with h | h
          · clear hwp hwj hwm hws; omega
          · rw [w3 h]
            clear hwp hwj hwm hws
            omega
        refine ⟨1000001, 1000001, hvx _ ?_, hbig hp2, by decide, by decide, by decide, by decide, .inr ⟨by decide, by decide⟩⟩
        have hs : s + (L[j]).f1 * p1 > 1000000 := by clear hwp hwj hwm hws; omega
        simp only [if_pos hs]
        exact Ev.now _
    · have hp2 : 1000000 < p2 := by
        rcases Int.lt_or_le 1000000 p2 with h | h
        · exact h
        · have h1 := q3 h
          have h2 := mul_ge c1 (show 0 ≤ B ^ e by have := pw_pos hB e; clear hwp hwj; omega)
          have h3 := pw_big hB e
          clear hwp hwj
          omega
      refine ⟨xe, 1000001, ?_, hbig hp2, x0, x1, by decide, by decide, .inr ⟨hx, by decide⟩⟩
      refine Ev.step (f := fun k => (spec_deValue.f k (L[j]).f0.f0 B).bind fun t106 => (if t106 > 1000000 then (some t106) else ((spec_dePower.f k B t106).bind fun t107 => (if (wrap64 (s + (wrap64 ((L[j]).f1 * t107)))) > 1000000 then (some 1000001) else (spec_deValue.l0 k B (wrap64 (s + (wrap64 ((L[j]).f1 * t107)))) L (L.length : Int) ((j + 1 : Nat) : Int)))))) (fun k => ?_) (Ev.bind ex ?_)
      · simp only [spec_deValue.l0, if_pos g1, if_pos g2, rd69 L j hjl, hwj]
      · have hgt : xe > 1000000 := hx
        simp only [if_pos hgt]
        exact Ev.now _
theorem value_ev {B : Int} (hB : 2 ≤ B) (hB2 : B ≤ 3001) : ∀ (d : Nat) (L : List S69), Good d L → VR B L := by
  have go : ∀ L : List S69, L.length ≤ 64 → (∀ t ∈ L, 1 ≤ t.f1 ∧ t.f1 ≤ 3000 ∧ VR B t.f0.f0) → VR B L := by
    intro L hl h
    obtain ⟨x, y, e1, e2, r⟩ := value_l hB hB2 L hl h L.length 0 0 (by omega) (Int.le_refl _) (by decide)
    exact ⟨x, y, Ev.step (fun k => by simp only [spec_deValue.f]; rfl) e1, Ev.step (fun k => by simp only [impl_valueOf.f]; rfl) e2, r⟩
  intro d
  induction d with
  | zero =>
    intro L h
    have h' : L = [] := h
    subst h'
    exact go [] (by simp) (fun t ht => by cases ht)
  | succ d ih =>
    intro L h
    exact go L h.1 (fun t ht => ⟨(h.2 t ht).1, (h.2 t ht).2.1, ih _ (h.2 t ht).2.2⟩)
theorem digs_lt {b : Int} (hb : 2 ≤ b) : ∀ (k : Nat) (n : Int), ∀ d ∈ he.digs k b n, d < b
  | 0, n, d, hd => by simp [he.digs] at hd
  | k + 1, n, d, hd => by
    unfold he.digs at hd
    split at hd
    · rcases List.mem_cons.1 hd with rfl | hd
      · exact Int.emod_lt_of_pos _ (by omega)
      · exact digs_lt hb k _ d hd
    · cases hd
theorem add_all (h : Int → List S69) (zs : List Int) (P : S69 → Prop) (hP : ∀ x : Fin zs.length, rb.dig zs x > 0 → P ⟨⟨h (x.1 : Int)⟩, rb.dig zs x⟩) : ∀ (pre : List (Fin zs.length)) (acc : List S69), (∀ t ∈ acc, P t) → ∀ t ∈ pre.foldl (he.add h zs) acc, P t
  | [], acc, ha, t, ht => ha t ht
  | x :: pre, acc, ha, t, ht => by
    rw [List.foldl_cons] at ht
    refine add_all h zs P hP pre _ (fun t ht => ?_) t ht
    unfold he.add at ht
    by_cases hd : rb.dig zs x > 0
    · rw [if_pos hd] at ht
      rcases List.mem_append.1 ht with ht | ht
      · exact ha t ht
      · rw [List.mem_singleton.1 ht]
        exact hP x hd
    · rw [if_neg hd] at ht
      exact ha t ht
theorem good_f {b : Int} (hb : 2 ≤ b) (hb2 : b ≤ 3000) : ∀ (N : Nat) (n : Int), Good N (he.f N b n)
  | 0, n => rfl
  | N + 1, n => by
    refine ⟨?_, fun t ht => ?_⟩
    · have h1 := he.acc_len (he.f N b) (he.digs 64 b n) (rb.come (he.digs 64 b n) 0) []
      have h2 := he.digs_k (b := b) 64 n
      rw [rb.come_len] at h1
      simp only [List.length_nil] at h1
      show ((rb.come (he.digs 64 b n) 0).foldl (he.add (he.f N b) (he.digs 64 b n)) []).length ≤ 64
      omega
    · refine add_all (he.f N b) (he.digs 64 b n) (fun t => 1 ≤ t.f1 ∧ t.f1 ≤ 3000 ∧ Good N t.f0.f0) (fun x hx => ?_) (rb.come (he.digs 64 b n) 0) [] (fun t ht => by cases ht) t ht
      have hm : rb.dig (he.digs 64 b n) x ∈ he.digs 64 b n := by
        unfold rb.dig
        rw [List.getElem?_eq_getElem x.2]
        exact List.getElem_mem x.2
      have := digs_lt hb 64 n _ hm
      exact ⟨by show 1 ≤ rb.dig _ _; omega, by show rb.dig _ _ ≤ 3000; omega, good_f hb hb2 N _⟩
theorem in_some (e a b : Int) : impl_in.f e a b = some (decide (a ≤ e ∧ e ≤ b)) := by
  unfold impl_in.f
  by_cases h : e ≥ a
  · rw [if_pos h]; congr 1; simp; omega
  · rw [if_neg h]; congr 1; simp; omega
theorem in_eq (e a b : Int) : spec_l1In.f e a b = impl_in.f e a b := rfl
/-- One step: the base raised. -/
theorem raise_ev {n b : Int} (h0 : 0 ≤ n) (h1 : n ≤ 1000000) (hb : 2 ≤ b) (hb2 : b ≤ 3000) : ∃ x y, Ev (fun k => spec_deRaise.f k n b) x ∧ Ev (fun k => (impl_hereditary.f n b).bind fun t => impl_valueOf.f k t (wrap64 (b + 1))) y ∧ 0 ≤ x ∧ x ≤ 2000000 ∧ 0 ≤ y ∧ y ≤ 2000000 ∧ Rl x y := by
  have hw : wrap64 (b + 1) = b + 1 := by unfold wrap64; omega
  have hc : 0 ≤ n ∧ n ≤ 1000000 ∧ 2 ≤ b ∧ b ≤ 2000000 := by clear hw; omega
  obtain ⟨x, y, e1, e2, r⟩ := value_ev (B := b + 1) (by clear hw; omega) (by clear hw; omega) (n.toNat + 1) (he.f (n.toNat + 1) b n) (good_f hb hb2 _ n)
  have f1 : spec_deForm.f n b = some (he.f (n.toNat + 1) b n) := by unfold spec_deForm.f; rw [if_pos hc]
  have f2 : impl_hereditary.f n b = some (he.f (n.toNat + 1) b n) := by unfold impl_hereditary.f; rw [if_pos hc]
  refine ⟨x, y, ?_, ?_, r⟩
  · unfold spec_deRaise.f
    simp only [f1, Option.bind_some, hw]
    exact Ev.bind e1 (Ev.now _)
  · simp only [f2, Option.bind_some, hw]
    exact e2

theorem proved : laws_FnExactRaiseBase.Pure := by
  intro n b _ _
  refine Ev.rounds ?_
  unfold laws_FnExactRaiseBase.f
  have hno : Ev (fun k => impl_RaiseBase.j0 k n b true) (0, false) := by
    refine Ev.step (fun k => ?_) (Ev.now _)
    simp only [impl_RaiseBase.j0, if_true]
  by_cases hn : 0 ≤ n ∧ n ≤ 1000000
  · by_cases hb : 2 ≤ b ∧ b ≤ 1000
    · obtain ⟨x, y, e1, e2, x0, x1, y0, y1, r⟩ := raise_ev hn.1 hn.2 hb.1 (by omega)
      have hsp : ∀ r, Ev (fun k => if x > 1000000 then some ((0 : Int), false) else (spec_deRaise.f k n b).bind fun t115 => some (t115, true)) r → Ev (fun k => spec_RaiseBase.f k n b) r := by
        intro r h
        unfold spec_RaiseBase.f spec_deBase.f
        simp only [in_eq, in_some, decide_eq_true hn, decide_eq_true hb, Option.bind_some, if_true]
        exact Ev.bind e1 h
      have him : ∀ r, Ev (fun _ => if y > 1000000 then some ((0 : Int), false) else some (y, true)) r → Ev (fun k => impl_RaiseBase.f k n b) r := by
        intro r h
        unfold impl_RaiseBase.f impl_baseOk.f
        simp only [in_some, decide_eq_true hn, decide_eq_true hb, Option.bind_some, if_true, Bool.not_true]
        refine Ev.step (f := fun k => ((impl_hereditary.f n b).bind fun t => impl_valueOf.f k t (wrap64 (b + 1))).bind fun t127 => if t127 > 1000000 then some ((0 : Int), false) else some (t127, true)) (fun k => ?_) (Ev.bind e2 h)
        simp only [impl_RaiseBase.j0, Bool.false_eq_true, if_false]
        rw [Option.bind_assoc]
      rcases r with ⟨hx, rfl⟩ | ⟨hx, hy⟩
      · refine Ev.bind (hsp (y, true) ?_) (Ev.bind (him (y, true) ?_) ?_)
        · have hng : ¬ y > 1000000 := by omega
          simp only [if_neg hng]
          exact Ev.bind e1 (Ev.now _)
        · have hng : ¬ y > 1000000 := by omega
          simp only [if_neg hng]
          exact Ev.now _
        · simp only [if_true, bne_self_eq_false, Bool.false_eq_true, if_false]
          exact Ev.now _
      · refine Ev.bind (hsp (0, false) ?_) (Ev.bind (him (0, false) ?_) ?_)
        · have hgt : x > 1000000 := hx
          simp only [if_pos hgt]
          exact Ev.now _
        · have hgt : y > 1000000 := hy
          simp only [if_pos hgt]
          exact Ev.now _
        · simp only [if_true, bne_self_eq_false, Bool.false_eq_true, if_false]
          exact Ev.now _
    · refine Ev.bind (a := (0, false)) ?_ (Ev.bind (a := (0, false)) ?_ ?_)
      · unfold spec_RaiseBase.f spec_deBase.f
        simp only [in_eq, in_some, decide_eq_true hn, decide_eq_false hb, Option.bind_some, if_true, Bool.false_eq_true, if_false]
        exact Ev.now _
      · unfold impl_RaiseBase.f impl_baseOk.f
        simp only [in_some, decide_eq_true hn, decide_eq_false hb, Option.bind_some, if_true, Bool.not_false]
        exact hno
      · simp only [if_true, bne_self_eq_false, Bool.false_eq_true, if_false]
        exact Ev.now _
  · refine Ev.bind (a := (0, false)) ?_ (Ev.bind (a := (0, false)) ?_ ?_)
    · unfold spec_RaiseBase.f spec_deBase.f
      simp only [in_eq, in_some, decide_eq_false hn, Option.bind_some, Bool.false_eq_true, if_false]
      exact Ev.now _
    · unfold impl_RaiseBase.f
      simp only [in_some, decide_eq_false hn, Option.bind_some, Bool.false_eq_true, if_false]
      exact hno
    · simp only [if_true, bne_self_eq_false, Bool.false_eq_true, if_false]
      exact Ev.now _

end LFnExactRaiseBase
theorem FnExactRaiseBase : laws_FnExactRaiseBase.Pure := LFnExactRaiseBase.proved
end Go.Proofs.Ytgjpfhedhehmdaa.Pure
