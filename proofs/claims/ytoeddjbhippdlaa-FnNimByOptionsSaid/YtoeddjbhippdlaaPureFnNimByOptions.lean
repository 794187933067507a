/- Whatever pair is drawn: the product by options is the reference's, it is the product of nimbers, and it stays among the nimbers less than 16. -/
import Derived.Test.YtoeddjbhippdlaaQFnNimByOptionsx4
import Derived.OpenShut
import Derived.Test.YtoeddjbhippdlaaNim
namespace Go.Proofs.Ytoeddjbhippdlaa.Pure
open Go.RowKit Go.Proofs.Ytoeddjbhippdlaa.QFnNimByOptions Go.Proofs.YtoeddjbhippdlaaW.PrintWords Go.Proofs.YtoeddjbhippdlaaW.PrintLast
open Go.Proofs.Ytoeddjbhippdlaa.Nim Go.Proofs.YtoeddjbhippdlaaW.PrintMore
set_option linter.unusedVariables false
set_option linter.unusedSimpArgs false
namespace LFnNimByOptions
/-! ### small words -/
theorem wsucc (i : Nat) (h : i < 2 ^ 62) : wrap64 ((i : Int) + 1) = ((i + 1 : Nat) : Int) := by unfold wrap64; omega
theorem drop_rd {l : List Int} {i : Nat} (h : i < l.length) : l.drop i = rd l (i : Int) :: l.drop (i + 1) := by
  rw [List.drop_eq_getElem_cons h]
  simp [rd, List.getD_eq_getElem?_getD, List.getElem?_eq_getElem h]

/-! ### products by options: the reference's table -/
section
open impl_NimByOptions
def inv (x y u v : Nat) (L : List Int) : Prop := L.length ≤ 16 * u + v ∧ ∀ z : Int, z ∈ L ↔ ∃ u' v', (u' < u ∧ v' < y ∨ u' = u ∧ v' < v) ∧ ((tb u' y ^^^ tb x v' ^^^ tb u' v' : Nat) : Int) = z
theorem has_l (L : List Int) (a : Int) (hL : L.length ≤ 1000) : ∀ (d i : Nat), i + d = L.length → Ev (fun k => spec_l1Has.l0 k a L (L.length : Int) (i : Int)) (decide (a ∈ L.drop i)) := by
  intro d
  induction d with
  | zero =>
    intro i hi
    have c : ¬ (i : Int) < (L.length : Int) := by omega
    rw [List.drop_eq_nil_of_le (by omega)]
    refine Ev.step (fun k => ?_) (Ev.now _)
    simp only [spec_l1Has.l0, if_neg c]
    simp
  | succ d ih =>
    intro i hi
    have hil : i < L.length := by omega
    have c1 : (i : Int) < (L.length : Int) := by omega
    have c2 : (0 : Int) ≤ (i : Int) := Int.natCast_nonneg _
    have hw := wsucc i (by omega)
    have hr : rd L (i : Int) = L[i] := by simp [rd, List.getD_eq_getElem?_getD, List.getElem?_eq_getElem hil]
    rw [List.drop_eq_getElem_cons hil]
    by_cases e : L[i] = a
    · have : decide (a ∈ L[i] :: L.drop (i + 1)) = true := decide_eq_true (by rw [e]; exact List.mem_cons_self ..)
      rw [this]
      refine Ev.step (fun k => ?_) (Ev.now _)
      simp only [spec_l1Has.l0, if_pos c1, if_pos c2, hr, if_pos e]
    · have : decide (a ∈ L[i] :: L.drop (i + 1)) = decide (a ∈ L.drop (i + 1)) := by
        congr 1
        rw [List.mem_cons]
        exact propext ⟨fun h => h.resolve_left (fun q => e q.symm), Or.inr⟩
      rw [this]
      refine Ev.step (fun k => ?_) (ih (i + 1) (by clear hw; omega))
      simp only [spec_l1Has.l0, if_pos c1, if_pos c2, hr, if_neg e, hw]
theorem has_ev (L : List Int) (a : Int) (hL : L.length ≤ 1000) : Ev (fun k => spec_l1Has.f k L a) (decide (a ∈ L)) := has_l L a hL L.length 0 (by omega)
theorem mex_l (L : List Int) (t : Nat) (ht : t < 16) (hL : L.length ≤ 1000) (h0 : ¬ (t : Int) ∈ L) (h1 : ∀ j : Nat, j < t → (j : Int) ∈ L) : ∀ (d m : Nat), m + d = t → Ev (fun k => spec_grMex.l0 k L (m : Int)) (t : Int) := by
  intro d
  induction d with
  | zero =>
    intro m hm
    obtain rfl : m = t := by omega
    have q := has_ev L (m : Int) hL
    rw [decide_eq_false h0] at q
    refine Ev.step (f := ?gga1) (fun k => ?ggb1) ?ggc1
    case ggb1 => conv => lhs; simp only [spec_grMex.l0]
    case ggc1 => exact Ev.bind q (Ev.now _)
  | succ d ih =>
    intro m hm
    have q := has_ev L (m : Int) hL
    rw [decide_eq_true (h1 m (by omega))] at q
    have hw := wsucc m (by omega)
    have hn := ih (m + 1) (by clear hw; omega)
    rw [← hw] at hn
    refine Ev.step (f := ?gga2) (fun k => ?ggb2) ?ggc2
    case ggb2 => conv => lhs; simp only [spec_grMex.l0]
    case ggc2 => exact Ev.bind q hn
theorem mex_ev {x y : Nat} {L : List Int} (hx : x < 16) (hy : y < 16) (h : inv x y x 0 L) : Ev (fun k => spec_grMex.f k L) ((tb x y : Nat) : Int) := by
  refine mex_l L (tb x y) (tb_lt x y) (by have := h.1; omega) (fun q => ?_) (fun j hj => ?_) (tb x y) 0 (by omega)
  · obtain ⟨u', v', k1, k2⟩ := (h.2 _).1 q
    rcases k1 with k1 | k1
    · exact free x y u' v' hx hy k1.1 k1.2 (Int.ofNat_inj.1 k2)
    · exact absurd k1.2 (Nat.not_lt_zero _)
  · obtain ⟨u', v', k1, k2, k3⟩ := hit x y j hx hy hj
    exact (h.2 _).2 ⟨u', v', Or.inl ⟨k1, k2⟩, by rw [k3]⟩
def row (x y : Nat) : List Int := (List.range 16).map fun v => if v < y then ((tb x v : Nat) : Int) else 0
def st (x y : Nat) : List (List Int) := (List.range 16).map fun u => if u < x then row u 16 else if u = x then row x y else []
def pre (x : Nat) : List (List Int) := (List.range 16).map fun u => if u < x then row u 16 else []
theorem mapset {α : Type} (f g : Nat → α) (n i : Nat) (v : α) (hi : g i = v) (h : ∀ j, j ≠ i → g j = f j) : ((List.range n).map f).set i v = (List.range n).map g := by
  refine List.ext_getElem (by simp) (fun j h1 h2 => ?_)
  rw [List.getElem_set]
  simp only [List.getElem_map, List.getElem_range]
  split
  · rename_i e; subst e; exact hi.symm
  · rename_i e; exact (h j (fun q => e q.symm)).symm
theorem row_len (x y : Nat) : (row x y).length = 16 := by simp [row]
theorem st_len (x y : Nat) : (st x y).length = 16 := by simp [st]
theorem pre_len (x : Nat) : (pre x).length = 16 := by simp [pre]
theorem rd_row (x y v : Nat) (hv : v < 16) : rd (row x y) (v : Int) = if v < y then ((tb x v : Nat) : Int) else 0 := by
  unfold rd row
  rw [Int.toNat_natCast, List.getD_eq_getElem?_getD, List.getElem?_map, List.getElem?_range hv]
  rfl
theorem rd_st (x y u : Nat) (hu : u < 16) : rd_L2 (st x y) (u : Int) = if u < x then row u 16 else if u = x then row x y else [] := by
  unfold rd_L2 st
  rw [Int.toNat_natCast, List.getD_eq_getElem?_getD, List.getElem?_map, List.getElem?_range hu]
  rfl
theorem rd_pre (x u : Nat) (hu : u < 16) : rd_L2 (pre x) (u : Int) = if u < x then row u 16 else [] := by
  unfold rd_L2 pre
  rw [Int.toNat_natCast, List.getD_eq_getElem?_getD, List.getElem?_map, List.getElem?_range hu]
  rfl
theorem st_next (x y : Nat) : (st x y).set x ((row x y).set y ((tb x y : Nat) : Int)) = st x (y + 1) := by
  refine mapset _ _ 16 x _ ?_ (fun j hj => ?_)
  · rw [if_neg (Nat.lt_irrefl x), if_pos rfl]
    refine (mapset _ _ 16 y _ (by rw [if_pos (Nat.lt_succ_self y)]) (fun j hj => ?_)).symm
    by_cases q : j < y
    · rw [if_pos q, if_pos (by omega)]
    · rw [if_neg q, if_neg (by omega)]
  · by_cases q : j < x
    · rw [if_pos q, if_pos q]
    · rw [if_neg q, if_neg q, if_neg hj, if_neg hj]
theorem st_end (x : Nat) : st x 16 = pre (x + 1) := by
  unfold st pre
  refine List.map_congr_left (fun j _ => ?_)
  by_cases q : j < x
  · rw [if_pos q, if_pos (by omega)]
  · by_cases e : j = x
    · subst e; rw [if_neg q, if_pos rfl, if_pos (by omega)]
    · rw [if_neg q, if_neg e, if_neg (by omega)]
theorem pre_next (x : Nat) : (pre x).set x (List.replicate 16 0) = st x 0 := by
  refine mapset _ _ 16 x _ ?_ (fun j hj => ?_)
  · rw [if_neg (Nat.lt_irrefl x), if_pos rfl]
    rfl
  · by_cases q : j < x
    · rw [if_pos q, if_pos q]
    · rw [if_neg q, if_neg q, if_neg hj]
theorem xor16 (a b : Nat) (ha : a < 16) (hb : b < 16) : bits .xor .i64 (a : Int) (b : Int) = ((a ^^^ b : Nat) : Int) ∧ a ^^^ b < 16 := nopt.xor a b ha hb
theorem l3_ev {x y : Nat} (hx : x < 16) (hy : y < 16) {u : Nat} (hu : u < x) (res : List (List Int)) (hres : ∀ L, inv x y (u + 1) 0 L → Ev (fun k => spec_grOptions.l2 k (st x y) (x : Int) (y : Int) L ((u + 1 : Nat) : Int) 16 (x : Int) 16 (y : Int)) res) :
    ∀ (d v : Nat) (L : List Int), v + d = y → inv x y u v L → Ev (fun k => spec_grOptions.l3 k (st x y) (x : Int) (y : Int) L (u : Int) (v : Int) 16 (x : Int) 16 (y : Int)) res := by
  intro d
  induction d with
  | zero =>
    intro v L hv hi
    obtain rfl : v = y := by omega
    have c : ¬ (v : Int) < (v : Int) := by omega
    have hw := wsucc u (by omega)
    have hn := hres L ⟨by have := hi.1; clear hw; omega, fun z => by
      rw [hi.2 z]
      constructor
      · rintro ⟨u', v', h, e⟩
        exact ⟨u', v', Or.inl (by clear hw; omega), e⟩
      · rintro ⟨u', v', h, e⟩
        exact ⟨u', v', by clear hw; omega, e⟩⟩
    rw [← hw] at hn
    refine Ev.step (fun k => ?_) hn
    simp only [spec_grOptions.l3, if_neg c]
  | succ d ih =>
    intro v L hv hi
    have hvy : v < y := by omega
    have c1 : (v : Int) < (y : Int) := by omega
    have n0 : ∀ a : Nat, (0 : Int) ≤ (a : Int) := fun a => Int.natCast_nonneg _
    have l1 : (u : Int) < ((st x y).length : Int) := by rw [st_len]; omega
    have l2 : (x : Int) < ((st x y).length : Int) := by rw [st_len]; omega
    have eu : rd_L2 (st x y) (u : Int) = row u 16 := by rw [rd_st x y u (by omega), if_pos hu]
    have ex : rd_L2 (st x y) (x : Int) = row x y := by rw [rd_st x y x hx, if_neg (Nat.lt_irrefl x), if_pos rfl]
    have l3 : (y : Int) < ((row u 16).length : Int) := by rw [row_len]; omega
    have l4 : (v : Int) < ((row x y).length : Int) := by rw [row_len]; omega
    have l5 : (v : Int) < ((row u 16).length : Int) := by rw [row_len]; omega
    have r1 : rd (row u 16) (y : Int) = ((tb u y : Nat) : Int) := by rw [rd_row u 16 y hy, if_pos hy]
    have r2 : rd (row x y) (v : Int) = ((tb x v : Nat) : Int) := by rw [rd_row x y v (by omega), if_pos hvy]
    have r3 : rd (row u 16) (v : Int) = ((tb u v : Nat) : Int) := by rw [rd_row u 16 v (by omega), if_pos (by omega)]
    have l6 : L.length < 17592186044416 := by have := hi.1; omega
    obtain ⟨x1, x2⟩ := xor16 (tb u y) (tb x v) (tb_lt _ _) (tb_lt _ _)
    obtain ⟨x3, _⟩ := xor16 (tb u y ^^^ tb x v) (tb u v) x2 (tb_lt _ _)
    have hw := wsucc v (by omega)
    have hn := ih (v + 1) (L ++ [((tb u y ^^^ tb x v ^^^ tb u v : Nat) : Int)]) (by clear hw; omega) ⟨by rw [List.length_append]; have := hi.1; simp only [List.length_singleton]; clear hw; omega, fun z => by
      rw [List.mem_append, hi.2 z, List.mem_singleton]
      constructor
      · rintro (⟨u', v', h, e⟩ | h)
        · exact ⟨u', v', by clear hw; omega, e⟩
        · exact ⟨u, v, Or.inr ⟨rfl, Nat.lt_succ_self v⟩, h.symm⟩
      · rintro ⟨u', v', h | ⟨rfl, h⟩, e⟩
        · exact Or.inl ⟨u', v', Or.inl h, e⟩
        · by_cases q : v' = v
          · subst q; exact Or.inr e.symm
          · exact Or.inl ⟨u', v', Or.inr ⟨rfl, by clear hw; omega⟩, e⟩⟩
    rw [← hw] at hn
    refine Ev.step (fun k => ?_) hn
    simp only [spec_grOptions.l3, if_pos c1, if_pos (n0 _), if_pos l1, eu, if_pos l3, if_pos l2, ex, if_pos l4, if_pos l5, if_pos l6, r1, r2, r3, x1, x3]
theorem l2_ev {x y : Nat} (hx : x < 16) (hy : y < 16) (res : List (List Int)) (hres : Ev (fun k => spec_grOptions.l1 k (st x (y + 1)) (x : Int) 16 (x : Int) 16 ((y + 1 : Nat) : Int)) res) :
    ∀ (d u : Nat) (L : List Int), u + d = x → inv x y u 0 L → Ev (fun k => spec_grOptions.l2 k (st x y) (x : Int) (y : Int) L (u : Int) 16 (x : Int) 16 (y : Int)) res := by
  intro d
  induction d with
  | zero =>
    intro u L hu hi
    obtain rfl : u = x := by omega
    have c : ¬ (u : Int) < (u : Int) := by omega
    have n0 : ∀ a : Nat, (0 : Int) ≤ (a : Int) := fun a => Int.natCast_nonneg _
    have l2 : (u : Int) < ((st u y).length : Int) := by rw [st_len]; omega
    have ex : rd_L2 (st u y) (u : Int) = row u y := by rw [rd_st u y u hx, if_neg (Nat.lt_irrefl u), if_pos rfl]
    have l4 : (y : Int) < ((row u y).length : Int) := by rw [row_len]; omega
    have hw := wsucc y (by omega)
    rw [← hw] at hres
    refine Ev.step (f := ?gga3) (fun k => ?ggb3) ?ggc3
    case ggb3 => conv => lhs; simp only [spec_grOptions.l2, if_neg c, if_pos (n0 _), if_pos l2, ex, if_pos l4, Int.toNat_natCast]
    case ggc3 =>
      refine Ev.bind (mex_ev hx hy hi) ?_
      simp only [st_next]
      exact hres
  | succ d ih =>
    intro u L hu hi
    have c : (u : Int) < (x : Int) := by omega
    have hn := l3_ev hx hy (show u < x by omega) res (fun L' hL' => ih (u + 1) L' (by omega) hL') y 0 L (by omega) hi
    refine Ev.step (fun k => ?_) hn
    simp only [spec_grOptions.l2, if_pos c]
    rfl
theorem l1_ev {x : Nat} (hx : x < 16) (res : List (List Int)) (hres : Ev (fun k => spec_grOptions.l0 k (pre (x + 1)) 16 ((x + 1 : Nat) : Int)) res) :
    ∀ (d y : Nat), y + d = 16 → Ev (fun k => spec_grOptions.l1 k (st x y) (x : Int) 16 (x : Int) 16 (y : Int)) res := by
  intro d
  induction d with
  | zero =>
    intro y hy
    obtain rfl : y = 16 := by omega
    have c : ¬ ((16 : Nat) : Int) < 16 := by omega
    have hw := wsucc x (by omega)
    rw [← hw] at hres
    rw [st_end]
    refine Ev.step (fun k => ?_) hres
    simp only [spec_grOptions.l1, if_neg c]
  | succ d ih =>
    intro y hy
    have c : (y : Int) < 16 := by omega
    have hn := l2_ev hx (show y < 16 by omega) res (ih (y + 1) (by omega)) x 0 [] (by omega) ⟨by simp, fun z => by
      constructor
      · intro h; cases h
      · rintro ⟨u', v', h, _⟩
        omega⟩
    refine Ev.step (fun k => ?_) hn
    simp only [spec_grOptions.l1, if_pos c]
    rfl
theorem l0_ev : ∀ (d x : Nat), x + d = 16 → Ev (fun k => spec_grOptions.l0 k (pre x) 16 (x : Int)) (pre 16) := by
  intro d
  induction d with
  | zero =>
    intro x hx
    obtain rfl : x = 16 := by omega
    have c : ¬ ((16 : Nat) : Int) < 16 := by omega
    refine Ev.step (fun k => ?_) (Ev.now _)
    simp only [spec_grOptions.l0, if_neg c]
  | succ d ih =>
    intro x hx
    have c : (x : Int) < 16 := by omega
    have n0 : (0 : Int) ≤ (x : Int) := Int.natCast_nonneg _
    have l1 : (x : Int) < ((pre x).length : Int) := by rw [pre_len]; omega
    have hn := l1_ev (show x < 16 by omega) _ (ih (x + 1) (by omega)) 16 0 (by omega)
    have ex : ((rd_L2 (st x 0) (x : Int)).length : Int) = 16 := by rw [rd_st x 0 x (by omega), if_neg (Nat.lt_irrefl x), if_pos rfl, row_len]; rfl
    refine Ev.step (fun k => ?_) hn
    simp only [spec_grOptions.l0, if_pos c, show (16 : Nat) ≤ 35184372088832 from by decide, if_true, if_pos n0, if_pos l1, Option.bind_some, Int.toNat_natCast, pre_next, ex]
    rfl
theorem opts_ev : Ev (fun k => spec_grOptions.f k) (pre 16) := by
  have h := l0_ev 16 0 (by omega)
  have e : pre 0 = List.replicate 16 [] := by decide
  unfold spec_grOptions.f
  simp only [show (16 : Nat) ≤ 11728124029610 from by decide, if_true, Option.bind_some]
  rw [e] at h
  exact h
theorem spec_in (e a b : Int) : spec_l1In.f e a b = some (decide (a ≤ e ∧ e ≤ b)) := by
  unfold spec_l1In.f
  by_cases h : e ≥ a
  · rw [if_pos h]; simp [show a ≤ e from h]
  · rw [if_neg h]; simp [show ¬ a ≤ e from h]
theorem byopt (a0 a1 : Int) : ∃ r : Int × Bool, Ev (fun k => spec_NimByOptions.f k a0 a1) r ∧ impl_NimByOptions.f a0 a1 = some r := by
  unfold spec_NimByOptions.f impl_NimByOptions.f
  by_cases c0 : 0 ≤ a0 ∧ a0 ≤ 15
  · by_cases c1 : 0 ≤ a1 ∧ a1 ≤ 15
    · obtain ⟨a, rfl⟩ := Int.eq_ofNat_of_zero_le c0.1
      obtain ⟨b, rfl⟩ := Int.eq_ofNat_of_zero_le c1.1
      refine ⟨(((tb a b : Nat) : Int), true), ?_, by rw [if_pos ⟨c0, c1⟩]; rfl⟩
      have ha : a < 16 := by omega
      have hb : b < 16 := by omega
      have l1 : (a : Int) < ((pre 16).length : Int) := by rw [pre_len]; omega
      have ea : rd_L2 (pre 16) (a : Int) = row a 16 := by rw [rd_pre 16 a ha, if_pos ha]
      have l2 : (b : Int) < ((row a 16).length : Int) := by rw [row_len]; omega
      have eb : rd (row a 16) (b : Int) = ((tb a b : Nat) : Int) := by rw [rd_row a 16 b hb, if_pos hb]
      simp only [spec_in, decide_eq_true c0, decide_eq_true c1, Option.bind_some, if_true, if_pos c0.1, if_pos c1.1]
      refine Ev.bind opts_ev ?_
      simp only [if_pos l1, ea, if_pos l2, eb]
      exact Ev.now _
    · refine ⟨(0, false), ?_, by rw [if_neg (fun q => c1 q.2)]⟩
      simp only [spec_in, decide_eq_true c0, decide_eq_false c1, Option.bind_some, if_true, Bool.false_eq_true, if_false]
      exact Ev.now _
  · refine ⟨(0, false), ?_, by rw [if_neg (fun q => c0 q.1)]⟩
    simp only [spec_in, decide_eq_false c0, Option.bind_some, Bool.false_eq_true, if_false]
    exact Ev.now _
end

theorem impl_isN (a : Int) : impl_isNimber.f a = some (decide (0 ≤ a ∧ a ≤ 65535)) := by
  unfold impl_isNimber.f impl_in.f
  by_cases h : 0 ≤ a <;> simp [h]

/-! ### the products of both sides are the plain one -/
/-- Half of the digits of level l, as the program tells it. -/
def hf (l : Nat) : Int := ((2 ^ (l - 1) : Nat) : Int)
theorem hf_next : ∀ l, l ≤ 3 → mx (wrap64 (Int.tdiv (hf (l + 1)) 2)) 1 = hf l := by
  intro l hl
  rcases (by omega : l = 0 ∨ l = 1 ∨ l = 2 ∨ l = 3) with rfl | rfl | rfl | rfl <;> decide +kernel
theorem hf_mask : ∀ l, l ≤ 3 → wrap64 ((shl .i64 1 (hf (l + 1))) - 1) = 2 ^ 2 ^ l - 1 := by
  intro l hl
  rcases (by omega : l = 0 ∨ l = 1 ∨ l = 2 ∨ l = 3) with rfl | rfl | rfl | rfl <;> decide +kernel
theorem hf_top : ∀ l, l ≤ 3 → shl .i64 1 (wrap64 (hf (l + 1) - 1)) = ((2 ^ (2 ^ l - 1) : Nat) : Int) := by
  intro l hl
  rcases (by omega : l = 0 ∨ l = 1 ∨ l = 2 ∨ l = 3) with rfl | rfl | rfl | rfl <;> decide +kernel
theorem hf_pos : ∀ l, l ≤ 3 → 0 ≤ wrap64 (hf (l + 1) - 1) := by
  intro l hl
  rcases (by omega : l = 0 ∨ l = 1 ∨ l = 2 ∨ l = 3) with rfl | rfl | rfl | rfl <;> decide +kernel
theorem hf_succ (l : Nat) : hf (l + 1) = ((2 ^ l : Nat) : Int) := rfl
theorem lv_bd : ∀ l, l ≤ 4 → 2 ^ 2 ^ l ≤ 2 ^ 16 := by
  intro l hl
  exact Nat.pow_le_pow_right (by decide) (Nat.pow_le_pow_right (by decide) hl : 2 ^ l ≤ 2 ^ 4)

theorem impl_nim_eq : ∀ l, l ≤ 4 → ∀ (k a b : Nat), a < 2 ^ 2 ^ l → b < 2 ^ 2 ^ l → 2 * l + 2 ≤ k → impl_nim.f k a b (hf l) = some ((nm l a b : Nat) : Int) := by
  intro l
  induction l with
  | zero =>
    intro _ k a b ha hb hk
    have ha' : a < 2 := ha
    have hb' : b < 2 := hb
    obtain ⟨k, rfl⟩ : ∃ m, k = m + 2 := ⟨k - 2, by omega⟩
    simp only [impl_nim.f]
    rw [if_pos (by omega)]
    simp only [impl_nim.j0, if_true]
    rcases (by omega : a = 0 ∨ a = 1) with rfl | rfl <;> rcases (by omega : b = 0 ∨ b = 1) with rfl | rfl <;> decide +kernel
  | succ l ih =>
    intro hl k a b ha hb hk
    obtain ⟨k, rfl⟩ : ∃ m, k = m + 2 := ⟨k - 2, by omega⟩
    have big4 := lv_bd (l + 1) hl
    have big3 := lv_bd l (by omega)
    by_cases ha2 : a < 2
    · simp only [impl_nim.f]
      rw [if_pos (by omega)]
      simp only [impl_nim.j0, if_true]
      have : nm (l + 1) a b = a * b := by
        rcases (by omega : a = 0 ∨ a = 1) with rfl | rfl
        · rw [nm_zero, Nat.zero_mul]
        · rw [nm_one _ _ hb, Nat.one_mul]
      rw [this]
      have hab : a * b < 2 ^ 17 := by
        rcases (by omega : a = 0 ∨ a = 1) with rfl | rfl <;> omega
      have : wrap64 ((a : Int) * b) = ((a * b : Nat) : Int) := by rw [← Int.natCast_mul]; unfold wrap64; omega
      rw [this]
    · by_cases hb2 : b < 2
      · simp only [impl_nim.f]
        rw [if_neg (by omega)]
        have hd : decide ((b : Int) < 2) = true := decide_eq_true (by omega)
        simp only [impl_nim.j0, hd, if_true]
        have : nm (l + 1) a b = a * b := by
          rcases (by omega : b = 0 ∨ b = 1) with rfl | rfl
          · rw [nm_zero', Nat.mul_zero]
          · rw [nm_one' _ _ ha, Nat.mul_one]
        rw [this]
        have hab : a * b < 2 ^ 17 := by
          rcases (by omega : b = 0 ∨ b = 1) with rfl | rfl <;> omega
        have : wrap64 ((a : Int) * b) = ((a * b : Nat) : Int) := by rw [← Int.natCast_mul]; unfold wrap64; omega
        rw [this]
      · have hl3 : l ≤ 3 := by omega
        have h2l : 2 ^ l ≤ 64 := Nat.le_trans (Nat.pow_le_pow_right (by decide) hl3) (by decide)
        have h2l8 : 2 ^ l ≤ 8 := Nat.le_trans (Nat.pow_le_pow_right (by decide) hl3) (by decide)
        have a62 : a < 2 ^ 62 := by omega
        have b62 : b < 2 ^ 62 := by omega
        have da := div_lt ha
        have db := div_lt hb
        have ma := mod_lt l a
        have mb := mod_lt l b
        have xa := Nat.xor_lt_two_pow da ma
        have xb := Nat.xor_lt_two_pow db mb
        have n1 := nm_lt l _ _ da db
        have n0 := nm_lt l _ _ ma mb
        have nx := nm_lt l _ _ xa xb
        have nh := nm_lt l _ _ n1 (half_lt l)
        have nxx := Nat.xor_lt_two_pow nx n0
        simp only [impl_nim.f]
        rw [if_neg (by omega)]
        have hd : decide ((b : Int) < 2) = false := decide_eq_false (by omega)
        have h0 : (0 : Int) ≤ hf (l + 1) := Int.natCast_nonneg _
        simp only [impl_nim.j0, hd]
        rw [if_neg (by decide), if_pos h0, hf_next l hl3, hf_mask l hl3, hf_succ, shr_nat a _ h2l, shr_nat b _ h2l, mask_nat a _ a62 (by omega), mask_nat b _ b62 (by omega), ← hf_succ,
          xor_nat _ _ (by omega) (by omega), xor_nat _ _ (by omega) (by omega), ih (by omega) _ _ _ da db (by omega)]
        simp only [Option.bind_some]
        rw [ih (by omega) _ _ _ ma mb (by omega)]
        simp only [Option.bind_some]
        rw [ih (by omega) _ _ _ xa xb (by omega)]
        simp only [Option.bind_some]
        rw [if_pos (hf_pos l hl3), hf_top l hl3, ih (by omega) _ _ _ n1 (half_lt l) (by omega)]
        simp only [Option.bind_some]
        have hmul : (nm l (a / 2 ^ 2 ^ l ^^^ a % 2 ^ 2 ^ l) (b / 2 ^ 2 ^ l ^^^ b % 2 ^ 2 ^ l) ^^^ nm l (a % 2 ^ 2 ^ l) (b % 2 ^ 2 ^ l)) * 2 ^ 2 ^ l < 2 ^ 2 ^ (l + 1) := by
          rw [sq_pow]; exact Nat.mul_lt_mul_of_pos_right nxx (Nat.two_pow_pos _)
        rw [xor_nat _ _ (by omega) (by omega), hf_succ, shl_nat _ _ h2l (by omega), xor_nat _ _ (by omega) (by omega),
          xor_nat _ _ (Nat.xor_lt_two_pow (by omega) (by omega)) (by omega)]
        rfl
theorem impl_nim (k a b : Nat) (ha : a < 65536) (hb : b < 65536) (hk : 10 ≤ k) : impl_times.f k a b = some ((nm 4 a b : Nat) : Int) := by
  unfold impl_times.f
  rw [show (8 : Int) = hf 4 from rfl, impl_nim_eq 4 (by omega) k a b ha hb hk]
  rfl
theorem nm4_lt {a b : Nat} (ha : a < 65536) (hb : b < 65536) : nm 4 a b < 65536 := nm_lt 4 a b ha hb

/-! ### what is drawn -/
theorem u8_bd {x : Int} (h : (Lit.int .u8 x).wf = true) : 0 ≤ x ∧ x ≤ 255 := bounds_u8 h
theorem and255 (x : Int) : 0 ≤ bits .and .u64 x 255 ∧ bits .and .u64 x 255 ≤ 255 := by
  have e : bits .and .u64 x 255 = IntKind.u64.wrap ((BitVec.ofInt 64 x &&& BitVec.ofInt 64 255).toNat : Int) := rfl
  have h : (BitVec.ofInt 64 x &&& BitVec.ofInt 64 255).toNat ≤ 255 := by
    rw [BitVec.toNat_and]
    exact Nat.and_le_right
  rw [e, IntKind.wrap_u64]
  omega
theorem w64 (x : Int) (h0 : 0 ≤ x) (h1 : x < 2 ^ 62) : wrap64 x = x := by unfold wrap64; omega
theorem rd_bd (l : List Int) (hl : ∀ x ∈ l, (Lit.int .u8 x).wf = true) (i : Int) (h0 : 0 ≤ i) (h1 : i < (l.length : Int)) : 0 ≤ rd l i ∧ rd l i ≤ 255 := by
  obtain ⟨n, rfl⟩ := Int.eq_ofNat_of_zero_le h0
  have hn : n < l.length := by omega
  have e : rd l (n : Int) = l[n] := by
    unfold rd
    simp [hn]
  rw [e]
  exact u8_bd (hl _ (List.getElem_mem hn))
theorem next_ok (l : List Int) (hl : ∀ x ∈ l, (Lit.int .u8 x).wf = true) (p s : Int) (h0 : 0 ≤ p) (h1 : p < 1000) : ∃ b s', spec_l1Cur_next.f l p s = some (b, p + 1, s') ∧ 0 ≤ b ∧ b ≤ 255 := by
  have hp : wrap64 (p + 1) = p + 1 := w64 _ (by omega) (by omega)
  unfold spec_l1Cur_next.f
  rw [hp]
  by_cases c : p < (l.length : Int)
  · have hb := rd_bd l hl p h0 c
    rw [if_pos c, if_pos h0, if_pos (by omega), w64 (rd l p) (by omega) (by omega)]
    exact ⟨_, _, rfl, hb⟩
  · rw [if_neg c, if_neg (by omega)]
    refine ⟨_, _, rfl, ?_⟩
    have q := and255 ((IntKind.u64.wrap ((IntKind.u64.wrap ((IntKind.u64.wrap (s * 6364136223846793005)) + 0)) + 1442695040888963407)) / 1099511627776)
    rw [w64 _ q.1 (by omega)]
    exact q
theorem pick_ok (l : List Int) (hl : ∀ x ∈ l, (Lit.int .u8 x).wf = true) (p s n : Int) (h0 : 0 ≤ p) (h1 : p < 900) (hn : 1 ≤ n) : ∃ b p' s', spec_l1Cur_pick.f l p s n = some (b, p', s') ∧ 0 ≤ b ∧ b < n ∧ p ≤ p' ∧ p' ≤ p + 2 := by
  unfold spec_l1Cur_pick.f
  by_cases c : n ≤ 1
  · rw [if_pos c]
    exact ⟨_, _, _, rfl, by omega, by omega, by omega, by omega⟩
  · rw [if_neg c]
    obtain ⟨b, s1, e1, b0, b1⟩ := next_ok l hl p s h0 (by omega)
    rw [e1]
    simp only [Option.bind_some]
    have hz : ¬ n = 0 := by omega
    by_cases g : n > 200
    · obtain ⟨b', s2, e2, d0, d1⟩ := next_ok l hl (p + 1) s1 (by omega) (by omega)
      rw [if_pos g, e2]
      simp only [Option.bind_some, if_neg hz]
      have q1 : wrap64 (b * 256) = b * 256 := w64 _ (by omega) (by omega)
      have q2 : wrap64 (b * 256 + b') = b * 256 + b' := w64 _ (by omega) (by omega)
      rw [q1, q2]
      refine ⟨_, _, _, rfl, Int.tmod_nonneg _ (by omega), Int.tmod_lt_of_pos _ (by omega), by omega, by omega⟩
    · rw [if_neg g, if_neg hz]
      exact ⟨_, _, _, rfl, Int.tmod_nonneg _ (by omega), Int.tmod_lt_of_pos _ (by omega), by omega, by omega⟩

theorem chk3 : ((List.range 16).all fun x => (List.range 16).all fun y => Nat.beq (impl_NimByOptions.tb x y) (nm 4 x y) && (Nat.beq (impl_NimByOptions.tb x y) 0 == (Nat.beq x 0 || Nat.beq y 0))) = true := by kernel_rfl
theorem tb_nm {x y : Nat} (hx : x < 16) (hy : y < 16) : nm 4 x y = impl_NimByOptions.tb x y ∧ (impl_NimByOptions.tb x y = 0 ↔ x = 0 ∨ y = 0) := by
  have h := chk3
  simp only [List.all_eq_true, List.mem_range] at h
  have q := h x hx y hy
  rw [Bool.and_eq_true] at q
  refine ⟨(Nat.eq_of_beq_eq_true q.1).symm, ?_⟩
  have q2 := beq_iff_eq.1 q.2
  have e : ∀ n : Nat, (Nat.beq n 0 = true) = (n = 0) := fun n => propext ⟨Nat.eq_of_beq_eq_true, fun h => by rw [h]; rfl⟩
  rw [← e (impl_NimByOptions.tb x y), ← e x, ← e y, q2, Bool.or_eq_true]
theorem product_ev (a b : Nat) (ha : a < 16) (hb : b < 16) : Ev (fun k => impl_NimProduct.f k (a : Int) (b : Int)) (((impl_NimByOptions.tb a b : Nat) : Int), true) := by
  refine ⟨10, fun k hk => ?_⟩
  show impl_NimProduct.f k (a : Int) (b : Int) = _
  unfold impl_NimProduct.f
  rw [impl_isN, impl_isN, decide_eq_true (show (0 : Int) ≤ (a : Int) ∧ (a : Int) ≤ 65535 by omega), decide_eq_true (show (0 : Int) ≤ (b : Int) ∧ (b : Int) ≤ 65535 by omega)]
  simp only [Option.bind_some, if_true]
  rw [impl_nim k a b (by omega) (by omega) hk, (tb_nm ha hb).1]
  rfl
theorem j0_ev (a b : Int) (r : Int × Bool) (h : impl_NimByOptions.f a b = some r) : Ev (fun k => laws_FnNimByOptions.j0 k a b r.1 r.2 false) true := by
  unfold impl_NimByOptions.f at h
  by_cases c : (0 ≤ a ∧ a ≤ 15) ∧ 0 ≤ b ∧ b ≤ 15
  · rw [if_pos c] at h
    obtain rfl := Option.some.inj h
    obtain ⟨m, rfl⟩ := Int.eq_ofNat_of_zero_le c.1.1
    obtain ⟨n, rfl⟩ := Int.eq_ofNat_of_zero_le c.2.1
    simp only [Int.toNat_natCast]
    have hm : m < 16 := by omega
    have hn : n < 16 := by omega
    obtain ⟨_, hz⟩ := tb_nm hm hn
    have hlt : ((impl_NimByOptions.tb m n : Nat) : Int) < 16 := by have := impl_NimByOptions.tb_lt m n; omega
    refine Ev.step (f := ?gga7) (fun k => ?ggb7) ?ggc7
    case ggb7 => conv => lhs; simp only [laws_FnNimByOptions.j0, Bool.false_eq_true, if_false, if_true]
    case ggc7 =>
      refine Ev.bind (product_ev m n hm hn) ?_
      simp only [if_true, if_pos hlt]
      by_cases e : (m : Int) = 0
      · have : ((impl_NimByOptions.tb m n : Nat) : Int) = 0 := by rw [hz.2 (Or.inl (by omega))]; rfl
        rw [if_pos e, this]
        exact Ev.now _
      · rw [if_neg e]
        have : (((impl_NimByOptions.tb m n : Nat) : Int) == 0) = ((n : Int) == 0) := by
          rw [Bool.eq_iff_iff, beq_iff_eq, beq_iff_eq]
          constructor
          · intro q
            have := hz.1 (by omega)
            omega
          · intro q
            rw [hz.2 (Or.inr (by omega))]
            rfl
        rw [this]
        simp only [beq_self_eq_true]
        exact Ev.now _
  · rw [if_neg c] at h
    obtain rfl := Option.some.inj h
    refine Ev.step (fun k => ?_) (Ev.now _)
    simp only [laws_FnNimByOptions.j0, Bool.false_eq_true, if_false]
theorem proved : laws_FnNimByOptions.Pure := by
  intro l m hl _ hlw hm _ hmw
  refine Ev.rounds ?_
  unfold laws_FnNimByOptions.f
  have big : laws_big.f l m = some (decide ((l.length : Int) > 1048576) || decide ((m.length : Int) > wrap64 (1048576 - (l.length : Int)))) := by
    unfold laws_big.f
    by_cases h : (l.length : Int) > 1048576 <;> simp [h]
  rw [big]
  simp only [Option.bind_some]
  cases (decide ((l.length : Int) > 1048576) || decide ((m.length : Int) > wrap64 (1048576 - (l.length : Int)))) with
  | true => exact Ev.now _
  | false =>
    obtain ⟨b1, p1, s1, e1, _, _, q1, q2⟩ := pick_ok l hlw 0 0 18 (by decide) (by decide) (by decide)
    obtain ⟨b2, p2, s2, e2, _⟩ := pick_ok l hlw p1 s1 18 (by omega) (by omega) (by decide)
    have e : spec_DrawNimByOptions.f l = some (wrap64 (b1 - 1), wrap64 (b2 - 1)) := by
      unfold spec_DrawNimByOptions.f
      simp only [e1, Option.bind_some, e2]
    simp only [e, Option.bind_some, Bool.false_eq_true, if_false]
    obtain ⟨r, h1, h2⟩ := byopt (wrap64 (b1 - 1)) (wrap64 (b2 - 1))
    simp only [h2, Option.bind_some]
    refine Ev.bind h1 ?_
    simp only [bne_self_eq_false, Bool.false_eq_true, if_false]
    exact j0_ev _ _ r h2

end LFnNimByOptions
theorem FnNimByOptions : laws_FnNimByOptions.Pure := LFnNimByOptions.proved
end Go.Proofs.Ytoeddjbhippdlaa.Pure
