/- The Go functions that the law FnExactGrundyByPlay reaches, as Lean functions, and what their calls do. Written by a program of this session. -/
import Derived.Test.YtnkaipnnbdgkkaaQFnExactGrundyByPlayx0
namespace Go.Proofs.Ytnkaipnnbdgkkaa.QFnExactGrundyByPlay
open Go.RowKit Go.Proofs.YtnkaipnnbdgkkaaW.PrintWords Go.Proofs.YtnkaipnnbdgkkaaW.PrintLast Go.Proofs.YtnkaipnnbdgkkaaW.PrintMore
attribute [local go_sem] max2_int min2_int max_two min_two max_three min_three max_four min_four   -- for this text's walks alone
set_option linter.unusedVariables false
set_option linter.unusedSimpArgs false

/-! ### impl_IsGreen: function 24 -/
theorem impl_IsGreen.enters38 (args : Array Value) (w : World) : (callFunc 42 args).run Try.prog w = .ok (.enter 42 args) w := enters_ Try.func42 rfl rfl args w
/-- What is asked of a predicate that is handed over. -/
def impl_IsGreen.PredOn (g : Nat) (lb : Array Value) (p : S36 → Bool) (l : List S36) (w : World) : Prop :=
  ∀ (W : World) (x : S36), x ∈ l → Below w.heap.size w W → Calls Try.prog g (#[.agg #[.int .i64 x.f0, .int .i64 x.f1]] ++ lb) W fun e w' => e = .returned (.bool (p x)) ∧ Below w.heap.size w w'
def impl_IsGreen.IdxPost (p : S36 → Bool) (l : List S36) (w : World) (e : Ending) (w' : World) : Prop :=
  ∃ r : Int, e = .returned (.int .i64 r) ∧ Below w.heap.size w w' ∧ decide (r ≥ 0) = l.any p
theorem impl_IsGreen.idx_hit {p : S36 → Bool} {l : List S36} {w w' : World} {kk : Nat} (h : kk < l.length) (hp : p l[kk] = true) (hb : Below w.heap.size w w') : impl_IsGreen.IdxPost p l w (.returned (.int .i64 (kk : Int))) w' :=
  ⟨_, rfl, hb, by
    have : l.any p = true := List.any_eq_true.2 ⟨l[kk], List.getElem_mem h, hp⟩
    rw [this]; simp⟩
theorem impl_IsGreen.idx_miss {p : S36 → Bool} {l : List S36} {w w' : World} (h : ∀ j, ∀ hj : j < l.length, p l[j] = false) (hb : Below w.heap.size w w') : impl_IsGreen.IdxPost p l w (.returned (.int .i64 (-1))) w' :=
  ⟨_, rfl, hb, by
    have : l.any p = false := by
      rw [List.any_eq_false]
      intro x hx
      obtain ⟨j, hj, rfl⟩ := List.mem_iff_getElem.1 hx
      simp [h j hj]
    rw [this]; simp⟩
set_option maxHeartbeats 400000 in
set_option maxRecDepth 100000 in
theorem impl_IsGreen.indexFunc (g : Nat) (lb : Array Value) (eg : ∀ args w, (callFunc g args).run Try.prog w = .ok (.enter g args) w) (p : S36 → Bool) (l : List S36) (A : Option Addr) (c : Nat) (w : World)
    (hr : Kd.C k36 w A l.length l) (hp : impl_IsGreen.PredOn g lb p l w) :
    Calls Try.prog 53 #[.slice A l.length c, .func (.func g) #[] lb] w (impl_IsGreen.IdxPost p l w) := by
  have hbig : l.length ≤ 9223372036854775807 := hr.2.1
  have hu36 := Try.underlying36
  have HR := Aside0.mk hr
  have HP := Aside0.mk hp
  clear hr hp
  go_enter Try.func53, Try.ntmps53
  go_wp2
  go_loopg [5, 8] l.length (fun gg _ s8 wr => ∃ kk : Nat, kk ≤ l.length ∧ l.length - kk ≤ gg ∧ s8 = .int .i64 kk ∧ Aside0 (Below w.heap.size w wr) ∧ Aside0 (∀ j, j < kk → ∀ hj : j < l.length, p l[j] = false))
  case atStart => exact ⟨0, Nat.zero_le _, by omega, rfl, ⟨Below.refl _ w⟩, ⟨fun j hj => absurd hj (Nat.not_lt_zero _)⟩⟩
  case round =>
    obtain ⟨kk, hkk, hg, rfl, BW, AF⟩ := hrel
    by_cases hlt : kk < l.length
    · have hltz : (kk : Int) < (l.length : Int) := by omega
      obtain ⟨ad, e0, hx0, hx1⟩ := at_T36 HR.out (kk : Int) (by omega) hltz
      cases e0
      replace hx0 := (BW.out.cell (World.block_lt_of_cell? w _ hx0)).trans hx0
      replace hx1 := (BW.out.cell (World.block_lt_of_cell? w _ hx1)).trans hx1
      have hcall := HP.out wr l[kk] (List.getElem_mem hlt) BW.out
      have hrd : rd_T36 l (kk : Int) = l[kk] := by simp [rd_T36, List.getD_eq_getElem?_getD, List.getElem?_eq_getElem hlt]
      rw [hrd] at hx0 hx1
      clear hrd
      simp only [Int.toNat_natCast] at hx0 hx1
      generalize hy : l[kk] = y at hx0 hx1 hcall
      have B : Aside0 (l[kk] = y) := ⟨hy⟩
      clear hy
      cases hq : p y with
      | true =>
        rw [hq] at hcall
        go_wp2_with (go_at_fn g; refine hcall.mono ?_; rintro e w' ⟨rfl, hb'⟩)
        go_ret
        exact impl_IsGreen.idx_hit hlt (by rw [B.out]; exact hq) hb'
      | false =>
        rw [hq] at hcall
        go_wp2_with (go_at_fn g; refine hcall.mono ?_; rintro e w' ⟨rfl, hb'⟩)
        go_roundg (l.length - (kk + 1))
        case measure => omega
        case rel =>
          refine ⟨kk + 1, by omega, by omega, by go_num, ⟨hb'⟩, ⟨fun j hj hjl => ?_⟩⟩
          by_cases e : j = kk
          · subst e
            rw [B.out]; exact hq
          · exact AF.out j (by omega) hjl
    · have hltz : ¬ (kk : Int) < (l.length : Int) := by omega
      have : kk = l.length := by omega
      go_wp2
      go_ret
      exact impl_IsGreen.idx_miss (fun j hj => AF.out j (by omega) hj) BW.out
set_option maxHeartbeats 400000 in
set_option maxRecDepth 100000 in
theorem impl_IsGreen.containsFunc (g : Nat) (lb : Array Value) (eg : ∀ args w, (callFunc g args).run Try.prog w = .ok (.enter g args) w) (p : S36 → Bool) (l : List S36) (A : Option Addr) (c : Nat) (w : World)
    (hr : Kd.C k36 w A l.length l) (hp : impl_IsGreen.PredOn g lb p l w) :
    Calls Try.prog 41 #[.slice A l.length c, .func (.func g) #[] lb] w fun e w' => e = .returned (.bool (l.any p)) ∧ Below w.heap.size w w' := by
  have e62 : ∀ args w, (callFunc 53 args).run Try.prog w = .ok (.enter 53 args) w := fun args w => enters_ Try.func53 rfl rfl args w
  have HR := Aside0.mk hr
  have HP := Aside0.mk hp
  clear hr hp
  go_enter Try.func41, Try.ntmps41
  go_wp2_with (go_at_fn 53; refine (impl_IsGreen.indexFunc g lb eg p l A c _ HR.out HP.out).mono ?_; rintro e w' ⟨r, rfl, hb', hd⟩)
  go_ret
  exact ⟨rfl, hb'⟩
def impl_IsGreen.inK (x : Int) : Bool := decide (0 ≤ x ∧ x ≤ 12)
def impl_IsGreen.bad (x : S36) : Bool := !impl_IsGreen.inK x.f0 || !impl_IsGreen.inK x.f1
theorem impl_IsGreen.inN (x lo hi : Int) (w : World) : Calls Try.prog 43 #[.int .i64 x, .int .i64 lo, .int .i64 hi] w fun e w' => e = .returned (.bool (decide (lo ≤ x ∧ x ≤ hi))) ∧ w = w' := by
  by_cases h1 : lo ≤ x
  · have c1 : decide (lo ≤ x) = true := decide_eq_true h1
    have c2 : decide (lo ≤ x ∧ x ≤ hi) = decide (x ≤ hi) := by simp [h1]
    rw [c2]
    clear c2 h1
    go_enter Try.func43, Try.ntmps43
    go_wp2
    go_ret
    exact ⟨rfl, rfl⟩
  · have c1 : decide (lo ≤ x) = false := decide_eq_false h1
    have c2 : decide (lo ≤ x ∧ x ≤ hi) = false := by simp [h1]
    rw [c2]
    clear c2 h1
    go_enter Try.func43, Try.ntmps43
    go_wp2
    go_ret
    exact ⟨rfl, rfl⟩
theorem impl_IsGreen.inC (x : Int) (b : Bool) (hb : impl_IsGreen.inK x = b) (w : World) : Calls Try.prog 43 #[.int .i64 x, .int .i64 0, .int .i64 12] w fun e w' => e = .returned (.bool b) ∧ w = w' := by
  rw [← hb]
  exact impl_IsGreen.inN x 0 12 w
set_option maxHeartbeats 400000 in
set_option maxRecDepth 100000 in
theorem impl_IsGreen.isGreen1 (x y : Int) (w : World) : Calls Try.prog 42 #[.agg #[.int .i64 x, .int .i64 y]] w fun e w' => e = .returned (.bool (impl_IsGreen.bad ⟨x, y⟩)) ∧ Below w.heap.size w w' := by
  have e39 : ∀ args w, (callFunc 43 args).run Try.prog w = .ok (.enter 43 args) w := fun args w => enters_ Try.func43 rfl rfl args w
  have hu36 := Try.underlying36
  have hB : Below w.heap.size w (w.alloc (.cells #[.int .i64 x, .int .i64 y] 36)) := (Below.refl _ _).alloc (Nat.le_refl _) _
  cases hx : impl_IsGreen.inK x with
  | true =>
    cases hy : impl_IsGreen.inK y with
    | true =>
      rw [show impl_IsGreen.bad ⟨x, y⟩ = false from by simp [impl_IsGreen.bad, hx, hy]]
      have X := Aside0.mk hx
      have Y := Aside0.mk hy
      clear hx hy
      go_enter Try.func42, Try.ntmps42
      go_wp2_with (go_at_fn 43; first | ((with_reducible refine (impl_IsGreen.inC x _ X.out _).mono ?_); rintro e w' ⟨rfl, rfl⟩) | ((with_reducible refine (impl_IsGreen.inC y _ Y.out _).mono ?_); rintro e w' ⟨rfl, rfl⟩))
      go_ret
      exact ⟨rfl, hB⟩
    | false =>
      rw [show impl_IsGreen.bad ⟨x, y⟩ = true from by simp [impl_IsGreen.bad, hx, hy]]
      have X := Aside0.mk hx
      have Y := Aside0.mk hy
      clear hx hy
      go_enter Try.func42, Try.ntmps42
      go_wp2_with (go_at_fn 43; first | ((with_reducible refine (impl_IsGreen.inC x _ X.out _).mono ?_); rintro e w' ⟨rfl, rfl⟩) | ((with_reducible refine (impl_IsGreen.inC y _ Y.out _).mono ?_); rintro e w' ⟨rfl, rfl⟩))
      go_ret
      exact ⟨rfl, hB⟩
  | false =>
    rw [show impl_IsGreen.bad ⟨x, y⟩ = true from by simp [impl_IsGreen.bad, hx]]
    have X := Aside0.mk hx
    clear hx
    go_enter Try.func42, Try.ntmps42
    go_wp2_with (go_at_fn 43; first | ((with_reducible refine (impl_IsGreen.inC x _ X.out _).mono ?_); rintro e w' ⟨rfl, rfl⟩))
    go_ret
    exact ⟨rfl, hB⟩
set_option maxHeartbeats 400000 in
set_option maxRecDepth 100000 in
theorem impl_IsGreen.isGreen (A : Option Addr) (c : Nat) (l : List S36) (w : World) (hr : Kd.C k36 w A l.length l) :
    Calls Try.prog 24 #[.slice A l.length c] w fun e w' => e = .returned (.bool (decide (l.length ≤ 14) && !l.any impl_IsGreen.bad)) ∧ Below w.heap.size w w' := by
  have e37 : ∀ args w, (callFunc 41 args).run Try.prog w = .ok (.enter 41 args) w := fun args w => enters_ Try.func41 rfl rfl args w
  have HR := Aside0.mk hr
  have HP := Aside0.mk (show impl_IsGreen.PredOn 42 #[] impl_IsGreen.bad l w from fun W x _ hb => (impl_IsGreen.isGreen1 x.f0 x.f1 W).mono fun e w' ⟨h1, h2⟩ => ⟨h1, below_then hb hb.size h2⟩)
  clear hr
  by_cases h14 : l.length ≤ 14
  · have c1 : decide ((l.length : Int) ≤ 14) = true := decide_eq_true (by omega)
    rw [show decide (l.length ≤ 14) = true from decide_eq_true h14, Bool.true_and]
    go_enter Try.func24, Try.ntmps24
    go_wp2_with (go_at_fn 41; refine (impl_IsGreen.containsFunc 42 #[] impl_IsGreen.enters38 impl_IsGreen.bad l A c _ HR.out HP.out).mono ?_; rintro e w' ⟨rfl, hb'⟩)
    go_ret
    exact ⟨rfl, hb'⟩
  · have c1 : decide ((l.length : Int) ≤ 14) = false := decide_eq_false (by omega)
    rw [show decide (l.length ≤ 14) = false from decide_eq_false h14, Bool.false_and]
    go_enter Try.func24, Try.ntmps24
    go_wp2
    go_ret
    exact ⟨rfl, Below.refl _ _⟩

def impl_IsGreen.f (k : Nat) (l0 : List (S36)) : Option (Bool) := some (decide (l0.length ≤ 14) && !l0.any impl_IsGreen.bad)
theorem impl_IsGreen.mono : ∀ a0 k, LeO (impl_IsGreen.f k a0) (impl_IsGreen.f (k + 1) a0) := fun _ _ => LeO.refl _
theorem impl_IsGreen.calls (k : Nat) (A0 : Option Addr) (c0 : Nat) (l0 : List (S36)) (r : Bool) (w : World) (hr0 : Kd.C k36 w A0 l0.length l0) (hc0 : l0.length ≤ c0) (h : impl_IsGreen.f k l0 = some r) :
    Calls Try.prog 24 #[.slice A0 l0.length c0] w fun e w' => e = .returned (.bool r) ∧ Below w.heap.size w w' := by
  obtain rfl := Option.some.inj h
  exact impl_IsGreen.isGreen A0 c0 l0 w hr0

/-! ### impl_grounded: function 30 -/
mutual
def impl_grounded.l0 : Nat → List (S36) → Int → Int → Int → Int → Int → Option (Int)
  | 0, _, _, _, _, _, _ => none
  | k + 1, x0, x1, x5, x6, x11, x12 => if x12 < x11 then (impl_grounded.l1 k x0 x1 x5 x6 x11 x12 x0 (x0.length : Int) 0) else (some x6)
def impl_grounded.l1 : Nat → List (S36) → Int → Int → Int → Int → Int → List (S36) → Int → Int → Option (Int)
  | 0, _, _, _, _, _, _, _, _, _ => none
  | k + 1, x0, x1, x5, x6, x11, x12, x14, x15, x16 => if x16 < x15 then (if 0 ≤ x16 then (if x16 < (x14.length : Int) then (if (Go.bits .and .u64 (shr .u64 x1 x16) 1) = 1 then (if 0 ≤ ((rd_T36 x14 x16).f0) then (if (Go.bits .and .u64 (shr .u64 x5 ((rd_T36 x14 x16).f0)) 1) = 1 then (if 0 ≤ ((rd_T36 x14 x16).f1) then (impl_grounded.l1 k x0 x1 (Go.bits .or .u64 x5 (Go.bits .or .u64 (shl .u64 1 ((rd_T36 x14 x16).f0)) (shl .u64 1 ((rd_T36 x14 x16).f1)))) (Go.bits .or .u64 x6 (shl .u64 1 x16)) x11 x12 x14 x15 (wrap64 (x16 + 1))) else (none)) else (if 0 ≤ ((rd_T36 x14 x16).f1) then (if (Go.bits .and .u64 (shr .u64 x5 ((rd_T36 x14 x16).f1)) 1) = 1 then (impl_grounded.l1 k x0 x1 (Go.bits .or .u64 x5 (Go.bits .or .u64 (shl .u64 1 ((rd_T36 x14 x16).f0)) (shl .u64 1 ((rd_T36 x14 x16).f1)))) (Go.bits .or .u64 x6 (shl .u64 1 x16)) x11 x12 x14 x15 (wrap64 (x16 + 1))) else (impl_grounded.l1 k x0 x1 x5 x6 x11 x12 x14 x15 (wrap64 (x16 + 1)))) else (none))) else (none)) else (impl_grounded.l1 k x0 x1 x5 x6 x11 x12 x14 x15 (wrap64 (x16 + 1)))) else (none)) else (none)) else (impl_grounded.l0 k x0 x1 x5 x6 x11 (wrap64 (x12 + 1)))
end
def impl_grounded.f (k : Nat) (l0 : List (S36)) (a1 : Int) : Option (Int) := impl_grounded.l0 k l0 a1 1 0 (wrap64 ((l0.length : Int) + 1)) 0
theorem impl_grounded.mono_l : ∀ k, (∀ y0 y1 y2 y3 y4 y5, LeO (impl_grounded.l0 k y0 y1 y2 y3 y4 y5) (impl_grounded.l0 (k + 1) y0 y1 y2 y3 y4 y5)) ∧ (∀ y0 y1 y2 y3 y4 y5 y6 y7 y8, LeO (impl_grounded.l1 k y0 y1 y2 y3 y4 y5 y6 y7 y8) (impl_grounded.l1 (k + 1) y0 y1 y2 y3 y4 y5 y6 y7 y8))
  | 0 => ⟨fun _ _ _ _ _ _ r h => by simp [impl_grounded.l0] at h, fun _ _ _ _ _ _ _ _ _ r h => by simp [impl_grounded.l1] at h⟩
  | k + 1 => by
    obtain ⟨ih0, ih1⟩ := impl_grounded.mono_l k
    refine ⟨?_, ?_⟩
    · intro y0 y1 y2 y3 y4 y5
      unfold impl_grounded.l0
      repeat' first
      | (with_reducible exact ih0 _ _ _ _ _ _)
      | (with_reducible exact ih1 _ _ _ _ _ _ _ _ _)
      | (with_reducible exact LeO.refl _)
      | (with_reducible exact LeO.none _)
      | (with_reducible refine LeO.ite ?_ ?_)
      | (with_reducible refine LeO.bind ?_ (fun _ => ?_))
      | exact ih0 _ _ _ _ _ _
      | exact ih1 _ _ _ _ _ _ _ _ _
      | exact LeO.none _
      | refine LeO.ite ?_ ?_
      | refine LeO.bind ?_ (fun _ => ?_)
    · intro y0 y1 y2 y3 y4 y5 y6 y7 y8
      unfold impl_grounded.l1
      repeat' first
      | (with_reducible exact ih0 _ _ _ _ _ _)
      | (with_reducible exact ih1 _ _ _ _ _ _ _ _ _)
      | (with_reducible exact LeO.refl _)
      | (with_reducible exact LeO.none _)
      | (with_reducible refine LeO.ite ?_ ?_)
      | (with_reducible refine LeO.bind ?_ (fun _ => ?_))
      | exact ih0 _ _ _ _ _ _
      | exact ih1 _ _ _ _ _ _ _ _ _
      | exact LeO.none _
      | refine LeO.ite ?_ ?_
      | refine LeO.bind ?_ (fun _ => ?_)
theorem impl_grounded.mono : ∀ a0 a1 k, LeO (impl_grounded.f k a0 a1) (impl_grounded.f (k + 1) a0 a1) := by
  intro a0 a1 k
  obtain ⟨ih0, ih1⟩ := impl_grounded.mono_l k
  unfold impl_grounded.f
  repeat' first
      | (with_reducible exact ih0 _ _ _ _ _ _)
      | (with_reducible exact ih1 _ _ _ _ _ _ _ _ _)
      | (with_reducible exact LeO.refl _)
      | (with_reducible exact LeO.none _)
      | (with_reducible refine LeO.ite ?_ ?_)
      | (with_reducible refine LeO.bind ?_ (fun _ => ?_))
      | exact ih0 _ _ _ _ _ _
      | exact ih1 _ _ _ _ _ _ _ _ _
      | exact LeO.none _
      | refine LeO.ite ?_ ?_
      | refine LeO.bind ?_ (fun _ => ?_)
set_option maxHeartbeats 8000000 in
set_option maxRecDepth 100000 in
theorem impl_grounded.calls (k : Nat) (A0 : Option Addr) (c0 : Nat) (l0 : List (S36)) (a1 : Int) (r : Int) (w : World) (hr0 : Kd.C k36 w A0 l0.length l0) (hc0 : l0.length ≤ c0) (h : impl_grounded.f k l0 a1 = some r) :
    Calls Try.prog 30 #[.slice A0 l0.length c0, .int .u64 a1] w fun e w' => e = .returned (.int .u64 r) ∧ Below w.heap.size w w' := by
  have hu36 := Try.underlying36
  have HR0 := Aside0.mk hr0
  have HC0 := Aside0.mk hc0
  clear hr0 hc0
  have HB := Aside0.mk (Below.refl w.heap.size w)
  have H : (impl_grounded.l0 k l0 a1 1 0 (wrap64 ((l0.length : Int) + 1)) 0) = some r := h
  clear h
  have H' := Aside0.mk H
  clear H
  go_enter Try.func30, Try.ntmps30
  go_wp2
  repeat (go_quiet (fail); try go_wp2)
  go_loopg [5, 6, 12] k (fun kq v5 v6 v12 w' => ∃ (x5_1 : Int) (x6_1 : Int) (x12_1 : Int), v5 = .int .u64 x5_1 ∧ v6 = .int .u64 x6_1 ∧ v12 = .int .i64 x12_1 ∧ Aside0 (impl_grounded.l0 kq l0 a1 x5_1 x6_1 (wrap64 ((l0.length : Int) + 1)) x12_1 = some r) ∧ Aside0 (kq ≤ k) ∧ Aside0 (Below w.heap.size w w'))
  case atStart => exact ⟨(1), (0), (0), (by first | rfl | (simp; done) | (simp [*]; done)), (by first | rfl | (simp; done) | (simp [*]; done)), (by first | rfl | (simp; done) | (simp [*]; done)), H', ⟨Nat.le_refl _⟩, ⟨by repeat (first | (with_reducible first | exact HB.out | apply below_alloc | apply pw_below_drewN | apply below_drew1) | exact HB.out)⟩⟩
  case round =>
    clear H'
    try clear p2
    obtain ⟨x5_1, x6_1, x12_1, rfl, rfl, rfl, HA, HK1, HB⟩ := hrel
    cases gk with
    | zero => exact absurd HA.out (by simp [impl_grounded.l0])
    | succ k1 =>
      have H := HA.out
      clear HA
      simp only [impl_grounded.l0] at H
      by_cases c3 : x12_1 < (wrap64 ((l0.length : Int) + 1))
      · rw [if_pos c3] at H
        have c3b0 : decide (x12_1 < (wrap64 ((l0.length : Int) + 1))) = true := decide_eq_true c3
        clear c3
        have H' := Aside0.mk H
        clear H
        go_wp2
        repeat (go_quiet (fail); try go_wp2)
        go_loopg [5, 6, 16] k1 (fun kq v5 v6 v16 w' => ∃ (x5_2 : Int) (x6_2 : Int) (x16_2 : Int), v5 = .int .u64 x5_2 ∧ v6 = .int .u64 x6_2 ∧ v16 = .int .i64 x16_2 ∧ Aside0 (impl_grounded.l1 kq l0 a1 x5_2 x6_2 (wrap64 ((l0.length : Int) + 1)) x12_1 l0 (l0.length : Int) x16_2 = some r) ∧ Aside0 (kq ≤ k1) ∧ Aside0 (Below w.heap.size w w'))
        case atStart => exact ⟨(x5_1), (x6_1), (0), (by first | rfl | (simp; done) | (simp [*]; done)), (by first | rfl | (simp; done) | (simp [*]; done)), (by first | rfl | (simp; done) | (simp [*]; done)), H', ⟨Nat.le_refl _⟩, ⟨by repeat (first | (with_reducible first | exact HB.out | apply below_alloc | apply pw_below_drewN | apply below_drew1) | exact HB.out)⟩⟩
        case round =>
          clear H'
          try clear p2
          try clear c3
          try clear c3b0
          try clear p2
          obtain ⟨x5_2, x6_2, x16_2, rfl, rfl, rfl, HA, HK2, HB⟩ := hrel
          cases gk with
          | zero => exact absurd HA.out (by simp [impl_grounded.l1])
          | succ k2 =>
            have H := HA.out
            clear HA
            simp only [impl_grounded.l1] at H
            by_cases c4 : x16_2 < (l0.length : Int)
            · rw [if_pos c4] at H
              have c4b0 : decide (x16_2 < (l0.length : Int)) = true := decide_eq_true c4
              clear c4
              by_cases c5 : 0 ≤ x16_2
              · rw [if_pos c5] at H
                have c5b0 : decide (0 ≤ x16_2) = true := decide_eq_true c5
                clear c5
                by_cases c6 : x16_2 < (l0.length : Int)
                · rw [if_pos c6] at H
                  have c6b0 : decide (x16_2 < (l0.length : Int)) = true := decide_eq_true c6
                  clear c6
                  have c7b0 := eq_true (of_decide_eq_true (by first | (with_reducible assumption) | assumption) : 0 ≤ x16_2)
                  obtain ⟨ji8, hji8⟩ : ∃ j_ : Int, (shr .u64 a1 x16_2) = j_ := ⟨_, rfl⟩
                  replace H : (if (Go.bits .and .u64 (ji8) 1) = 1 then (if 0 ≤ ((rd_T36 l0 x16_2).f0) then (if (Go.bits .and .u64 (shr .u64 x5_2 ((rd_T36 l0 x16_2).f0)) 1) = 1 then (if 0 ≤ ((rd_T36 l0 x16_2).f1) then (impl_grounded.l1 k2 l0 a1 (Go.bits .or .u64 x5_2 (Go.bits .or .u64 (shl .u64 1 ((rd_T36 l0 x16_2).f0)) (shl .u64 1 ((rd_T36 l0 x16_2).f1)))) (Go.bits .or .u64 x6_2 (shl .u64 1 x16_2)) (wrap64 ((l0.length : Int) + 1)) x12_1 l0 (l0.length : Int) (wrap64 (x16_2 + 1))) else (none)) else (if 0 ≤ ((rd_T36 l0 x16_2).f1) then (if (Go.bits .and .u64 (shr .u64 x5_2 ((rd_T36 l0 x16_2).f1)) 1) = 1 then (impl_grounded.l1 k2 l0 a1 (Go.bits .or .u64 x5_2 (Go.bits .or .u64 (shl .u64 1 ((rd_T36 l0 x16_2).f0)) (shl .u64 1 ((rd_T36 l0 x16_2).f1)))) (Go.bits .or .u64 x6_2 (shl .u64 1 x16_2)) (wrap64 ((l0.length : Int) + 1)) x12_1 l0 (l0.length : Int) (wrap64 (x16_2 + 1))) else (impl_grounded.l1 k2 l0 a1 x5_2 x6_2 (wrap64 ((l0.length : Int) + 1)) x12_1 l0 (l0.length : Int) (wrap64 (x16_2 + 1)))) else (none))) else (none)) else (impl_grounded.l1 k2 l0 a1 x5_2 x6_2 (wrap64 ((l0.length : Int) + 1)) x12_1 l0 (l0.length : Int) (wrap64 (x16_2 + 1)))) = some r := by first | (rw [hji8] at H; exact H) | (simp only [hji8] at H ⊢; exact H)
                  have hji8_ : (a1 / 2 ^ min x16_2.toNat 64) = ji8 := hji8
                  have hji8z : x16_2 ≤ 64 → (a1 / 2 ^ x16_2.toNat) = ji8 := shr_small hji8
                  by_cases c9 : (Go.bits .and .u64 (ji8) 1) = 1
                  · rw [if_pos c9] at H
                    have c9b0 : ((Go.bits .and .u64 (ji8) 1) == 1) = true := beq_iff_eq.mpr c9
                    have c9b1 : ((Go.bits .and .u64 (ji8) 1) != 1) = false := bne_eq_false_iff_eq.mpr c9
                    clear c9
                    by_cases c10 : 0 ≤ ((rd_T36 l0 x16_2).f0)
                    · rw [if_pos c10] at H
                      have c10b0 := eq_true c10
                      have c10b1 : decide (0 ≤ ((rd_T36 l0 x16_2).f0)) = true := decide_eq_true c10
                      clear c10
                      obtain ⟨ji11, hji11⟩ : ∃ j_ : Int, (shr .u64 x5_2 ((rd_T36 l0 x16_2).f0)) = j_ := ⟨_, rfl⟩
                      replace H : (if (Go.bits .and .u64 (ji11) 1) = 1 then (if 0 ≤ ((rd_T36 l0 x16_2).f1) then (impl_grounded.l1 k2 l0 a1 (Go.bits .or .u64 x5_2 (Go.bits .or .u64 (shl .u64 1 ((rd_T36 l0 x16_2).f0)) (shl .u64 1 ((rd_T36 l0 x16_2).f1)))) (Go.bits .or .u64 x6_2 (shl .u64 1 x16_2)) (wrap64 ((l0.length : Int) + 1)) x12_1 l0 (l0.length : Int) (wrap64 (x16_2 + 1))) else (none)) else (if 0 ≤ ((rd_T36 l0 x16_2).f1) then (if (Go.bits .and .u64 (shr .u64 x5_2 ((rd_T36 l0 x16_2).f1)) 1) = 1 then (impl_grounded.l1 k2 l0 a1 (Go.bits .or .u64 x5_2 (Go.bits .or .u64 (shl .u64 1 ((rd_T36 l0 x16_2).f0)) (shl .u64 1 ((rd_T36 l0 x16_2).f1)))) (Go.bits .or .u64 x6_2 (shl .u64 1 x16_2)) (wrap64 ((l0.length : Int) + 1)) x12_1 l0 (l0.length : Int) (wrap64 (x16_2 + 1))) else (impl_grounded.l1 k2 l0 a1 x5_2 x6_2 (wrap64 ((l0.length : Int) + 1)) x12_1 l0 (l0.length : Int) (wrap64 (x16_2 + 1)))) else (none))) = some r := by first | (rw [hji11] at H; exact H) | (simp only [hji11] at H ⊢; exact H)
                      have hji11_ : (x5_2 / 2 ^ min ((rd_T36 l0 x16_2).f0).toNat 64) = ji11 := hji11
                      have hji11z : ((rd_T36 l0 x16_2).f0) ≤ 64 → (x5_2 / 2 ^ ((rd_T36 l0 x16_2).f0).toNat) = ji11 := shr_small hji11
                      by_cases c12 : (Go.bits .and .u64 (ji11) 1) = 1
                      · rw [if_pos c12] at H
                        have c12b0 : ((Go.bits .and .u64 (ji11) 1) == 1) = true := beq_iff_eq.mpr c12
                        have c12b1 : ((Go.bits .and .u64 (ji11) 1) != 1) = false := bne_eq_false_iff_eq.mpr c12
                        clear c12
                        have c13b0 := eq_true (of_decide_eq_true (by first | (with_reducible assumption) | assumption) : 0 ≤ ((rd_T36 l0 x16_2).f0))
                        obtain ⟨ji14, hji14⟩ : ∃ j_ : Int, (shl .u64 1 ((rd_T36 l0 x16_2).f0)) = j_ := ⟨_, rfl⟩
                        replace H : (if 0 ≤ ((rd_T36 l0 x16_2).f1) then (impl_grounded.l1 k2 l0 a1 (Go.bits .or .u64 x5_2 (Go.bits .or .u64 (ji14) (shl .u64 1 ((rd_T36 l0 x16_2).f1)))) (Go.bits .or .u64 x6_2 (shl .u64 1 x16_2)) (wrap64 ((l0.length : Int) + 1)) x12_1 l0 (l0.length : Int) (wrap64 (x16_2 + 1))) else (none)) = some r := by first | (rw [hji14] at H; exact H) | (simp only [hji14] at H ⊢; exact H)
                        have hji14_ : (IntKind.u64.wrap (1 * 2 ^ min ((rd_T36 l0 x16_2).f0).toNat 64)) = ji14 := hji14
                        have hji14z : ((rd_T36 l0 x16_2).f0) ≤ 64 → (IntKind.u64.wrap (1 * 2 ^ ((rd_T36 l0 x16_2).f0).toNat)) = ji14 := shl_small hji14
                        have hji14u : (IntKind.u64.wrap (2 ^ min ((rd_T36 l0 x16_2).f0).toNat 64)) = ji14 := by have h_ := hji14_; rw [Int.one_mul] at h_; exact h_
                        have hji14v : ((rd_T36 l0 x16_2).f0) ≤ 64 → (IntKind.u64.wrap (2 ^ ((rd_T36 l0 x16_2).f0).toNat)) = ji14 := fun hle_ => by have h_ := hji14z hle_; rw [Int.one_mul] at h_; exact h_
                        by_cases c15 : 0 ≤ ((rd_T36 l0 x16_2).f1)
                        · rw [if_pos c15] at H
                          have c15b0 := eq_true c15
                          have c15b1 : decide (0 ≤ ((rd_T36 l0 x16_2).f1)) = true := decide_eq_true c15
                          clear c15
                          obtain ⟨ji16, hji16⟩ : ∃ j_ : Int, (shl .u64 1 ((rd_T36 l0 x16_2).f1)) = j_ := ⟨_, rfl⟩
                          replace H : (impl_grounded.l1 k2 l0 a1 (Go.bits .or .u64 x5_2 (Go.bits .or .u64 (ji14) (ji16))) (Go.bits .or .u64 x6_2 (shl .u64 1 x16_2)) (wrap64 ((l0.length : Int) + 1)) x12_1 l0 (l0.length : Int) (wrap64 (x16_2 + 1))) = some r := by first | (rw [hji16] at H; exact H) | (simp only [hji16] at H ⊢; exact H)
                          have hji16_ : (IntKind.u64.wrap (1 * 2 ^ min ((rd_T36 l0 x16_2).f1).toNat 64)) = ji16 := hji16
                          have hji16z : ((rd_T36 l0 x16_2).f1) ≤ 64 → (IntKind.u64.wrap (1 * 2 ^ ((rd_T36 l0 x16_2).f1).toNat)) = ji16 := shl_small hji16
                          have hji16u : (IntKind.u64.wrap (2 ^ min ((rd_T36 l0 x16_2).f1).toNat 64)) = ji16 := by have h_ := hji16_; rw [Int.one_mul] at h_; exact h_
                          have hji16v : ((rd_T36 l0 x16_2).f1) ≤ 64 → (IntKind.u64.wrap (2 ^ ((rd_T36 l0 x16_2).f1).toNat)) = ji16 := fun hle_ => by have h_ := hji16z hle_; rw [Int.one_mul] at h_; exact h_
                          have c17b0 := eq_true (of_decide_eq_true (by first | (with_reducible assumption) | assumption) : 0 ≤ x16_2)
                          obtain ⟨ji18, hji18⟩ : ∃ j_ : Int, (shl .u64 1 x16_2) = j_ := ⟨_, rfl⟩
                          replace H : (impl_grounded.l1 k2 l0 a1 (Go.bits .or .u64 x5_2 (Go.bits .or .u64 (ji14) (ji16))) (Go.bits .or .u64 x6_2 (ji18)) (wrap64 ((l0.length : Int) + 1)) x12_1 l0 (l0.length : Int) (wrap64 (x16_2 + 1))) = some r := by first | (rw [hji18] at H; exact H) | (simp only [hji18] at H ⊢; exact H)
                          have hji18_ : (IntKind.u64.wrap (1 * 2 ^ min x16_2.toNat 64)) = ji18 := hji18
                          have hji18z : x16_2 ≤ 64 → (IntKind.u64.wrap (1 * 2 ^ x16_2.toNat)) = ji18 := shl_small hji18
                          have hji18u : (IntKind.u64.wrap (2 ^ min x16_2.toNat 64)) = ji18 := by have h_ := hji18_; rw [Int.one_mul] at h_; exact h_
                          have hji18v : x16_2 ≤ 64 → (IntKind.u64.wrap (2 ^ x16_2.toNat)) = ji18 := fun hle_ => by have h_ := hji18z hle_; rw [Int.one_mul] at h_; exact h_
                          have H' := Aside0.mk H
                          clear H
                          have p203 : 0 ≤ (x16_2 : Int) := of_decide_eq_true (by first | (with_reducible assumption) | assumption)
                          have q203 : x16_2 < (l0.length : Int) := of_decide_eq_true (by first | (with_reducible assumption) | assumption)
                          obtain ⟨ad203, e203, hx203_0, hx203_1⟩ := at_T36 HR0.out x16_2 p203 q203
                          cases e203
                          replace hx203_0 := (HB.out.cell (World.block_lt_of_cell? w _ hx203_0)).trans hx203_0
                          replace hx203_1 := (HB.out.cell (World.block_lt_of_cell? w _ hx203_1)).trans hx203_1
                          replace p203 := eq_true p203
                          replace q203 := eq_true q203
                          go_wp2_with (first | ((with_reducible refine gate_dst (N := 8) rfl ?_); refine box_event ?hg (N := 8) ?hd (cs := #[.int .i64 0, .int .i64 0]) (t := 36) ?hr ?_; (case hd => rfl); (case hg => rfl); (case hr => first | (go_simp; done) | (go_simp; rfl)); intro gb204 hg w19 hbox hb; have n0_ := Aside0.mk (below_step (by repeat (first | (with_reducible first | exact HB.out | apply below_alloc | apply pw_below_drewN | apply below_drew1) | exact HB.out)) hb); have n1_ := Aside0.mk (hbox); have n2_ := Aside0.mk ((by rw [hg]; exact (below_size (by repeat (first | (with_reducible first | exact HB.out | apply below_alloc | apply pw_below_drewN | apply below_drew1) | exact HB.out))) : w.heap.size ≤ gb204)); have n3_ := Aside0.mk ((by rw [hg]; exact (below_size (by repeat (first | (with_reducible first | exact HB.out | apply below_alloc | apply pw_below_drewN | apply below_drew1) | exact HB.out))) : w.heap.size ≤ gb204)); clear HB; have HB := n0_; have BK204 := n1_; have GW204 := n2_; have GE204 := n3_; clear n0_ n1_ n2_ n3_; clear hb hbox hg; have hcz20_0 : w19.cell? ⟨gb204, 0, none⟩ = some (.int .i64 0) := (blk_cell BK204.out 0).trans rfl; have hcz20_1 : w19.cell? ⟨gb204, 1, none⟩ = some (.int .i64 0) := (blk_cell BK204.out 1).trans rfl; have hfz20_0 := blk_frozen BK204.out 0; have hfz20_1 := blk_frozen BK204.out 1))
                          repeat (go_quiet (first | ((with_reducible refine gate_dst (N := 8) rfl ?_); refine box_event ?hg (N := 8) ?hd (cs := #[.int .i64 0, .int .i64 0]) (t := 36) ?hr ?_; (case hd => rfl); (case hg => rfl); (case hr => first | (go_simp; done) | (go_simp; rfl)); intro gb204 hg w19 hbox hb; have n0_ := Aside0.mk (below_step (by repeat (first | (with_reducible first | exact HB.out | apply below_alloc | apply pw_below_drewN | apply below_drew1) | exact HB.out)) hb); have n1_ := Aside0.mk (hbox); have n2_ := Aside0.mk ((by rw [hg]; exact (below_size (by repeat (first | (with_reducible first | exact HB.out | apply below_alloc | apply pw_below_drewN | apply below_drew1) | exact HB.out))) : w.heap.size ≤ gb204)); have n3_ := Aside0.mk ((by rw [hg]; exact (below_size (by repeat (first | (with_reducible first | exact HB.out | apply below_alloc | apply pw_below_drewN | apply below_drew1) | exact HB.out))) : w.heap.size ≤ gb204)); clear HB; have HB := n0_; have BK204 := n1_; have GW204 := n2_; have GE204 := n3_; clear n0_ n1_ n2_ n3_; clear hb hbox hg; have hcz20_0 : w19.cell? ⟨gb204, 0, none⟩ = some (.int .i64 0) := (blk_cell BK204.out 0).trans rfl; have hcz20_1 : w19.cell? ⟨gb204, 1, none⟩ = some (.int .i64 0) := (blk_cell BK204.out 1).trans rfl; have hfz20_0 := blk_frozen BK204.out 0; have hfz20_1 := blk_frozen BK204.out 1)); try go_wp2_with (first | ((with_reducible refine gate_dst (N := 8) rfl ?_); refine box_event ?hg (N := 8) ?hd (cs := #[.int .i64 0, .int .i64 0]) (t := 36) ?hr ?_; (case hd => rfl); (case hg => rfl); (case hr => first | (go_simp; done) | (go_simp; rfl)); intro gb204 hg w19 hbox hb; have n0_ := Aside0.mk (below_step (by repeat (first | (with_reducible first | exact HB.out | apply below_alloc | apply pw_below_drewN | apply below_drew1) | exact HB.out)) hb); have n1_ := Aside0.mk (hbox); have n2_ := Aside0.mk ((by rw [hg]; exact (below_size (by repeat (first | (with_reducible first | exact HB.out | apply below_alloc | apply pw_below_drewN | apply below_drew1) | exact HB.out))) : w.heap.size ≤ gb204)); have n3_ := Aside0.mk ((by rw [hg]; exact (below_size (by repeat (first | (with_reducible first | exact HB.out | apply below_alloc | apply pw_below_drewN | apply below_drew1) | exact HB.out))) : w.heap.size ≤ gb204)); clear HB; have HB := n0_; have BK204 := n1_; have GW204 := n2_; have GE204 := n3_; clear n0_ n1_ n2_ n3_; clear hb hbox hg; have hcz20_0 : w19.cell? ⟨gb204, 0, none⟩ = some (.int .i64 0) := (blk_cell BK204.out 0).trans rfl; have hcz20_1 : w19.cell? ⟨gb204, 1, none⟩ = some (.int .i64 0) := (blk_cell BK204.out 1).trans rfl; have hfz20_0 := blk_frozen BK204.out 0; have hfz20_1 := blk_frozen BK204.out 1)))
                          go_roundg k2
                          case measure => have := HK1.out; have := HK2.out; omega
                          case rel => exact ⟨(Go.bits .or .u64 x5_2 (Go.bits .or .u64 (ji14) (ji16))), (Go.bits .or .u64 x6_2 (ji18)), (wrap64 (x16_2 + 1)), (by first | rfl | (simp; done) | (simp only [← hji14, ← hji16] <;> (first | rfl | simp)) | (simp [*]; done)), (by first | rfl | (simp; done) | (simp only [← hji18] <;> (first | rfl | simp)) | (simp [*]; done)), (by first | rfl | (simp; done) | (simp [*]; done)), H', ⟨by have := HK1.out; have := HK2.out; omega⟩, ⟨by repeat (first | (with_reducible first | exact HB.out | apply below_alloc | apply pw_below_drewN | apply below_drew1 | refine below_set ?_ GE204.out) | exact HB.out)⟩⟩
                        · rw [if_neg c15] at H
                          exact absurd H (by simp)
                      · rw [if_neg c12] at H
                        have c12b0 : ((Go.bits .and .u64 (ji11) 1) == 1) = false := beq_eq_false_iff_ne.mpr c12
                        have c12b1 : ((Go.bits .and .u64 (ji11) 1) != 1) = true := bne_iff_ne.mpr c12
                        by_cases c21 : 0 ≤ ((rd_T36 l0 x16_2).f1)
                        · rw [if_pos c21] at H
                          have c21b0 := eq_true c21
                          have c21b1 : decide (0 ≤ ((rd_T36 l0 x16_2).f1)) = true := decide_eq_true c21
                          clear c21
                          obtain ⟨ji22, hji22⟩ : ∃ j_ : Int, (shr .u64 x5_2 ((rd_T36 l0 x16_2).f1)) = j_ := ⟨_, rfl⟩
                          replace H : (if (Go.bits .and .u64 (ji22) 1) = 1 then (impl_grounded.l1 k2 l0 a1 (Go.bits .or .u64 x5_2 (Go.bits .or .u64 (shl .u64 1 ((rd_T36 l0 x16_2).f0)) (shl .u64 1 ((rd_T36 l0 x16_2).f1)))) (Go.bits .or .u64 x6_2 (shl .u64 1 x16_2)) (wrap64 ((l0.length : Int) + 1)) x12_1 l0 (l0.length : Int) (wrap64 (x16_2 + 1))) else (impl_grounded.l1 k2 l0 a1 x5_2 x6_2 (wrap64 ((l0.length : Int) + 1)) x12_1 l0 (l0.length : Int) (wrap64 (x16_2 + 1)))) = some r := by first | (rw [hji22] at H; exact H) | (simp only [hji22] at H ⊢; exact H)
                          have hji22_ : (x5_2 / 2 ^ min ((rd_T36 l0 x16_2).f1).toNat 64) = ji22 := hji22
                          have hji22z : ((rd_T36 l0 x16_2).f1) ≤ 64 → (x5_2 / 2 ^ ((rd_T36 l0 x16_2).f1).toNat) = ji22 := shr_small hji22
                          by_cases c23 : (Go.bits .and .u64 (ji22) 1) = 1
                          · rw [if_pos c23] at H
                            have c23b0 : ((Go.bits .and .u64 (ji22) 1) == 1) = true := beq_iff_eq.mpr c23
                            have c23b1 : ((Go.bits .and .u64 (ji22) 1) != 1) = false := bne_eq_false_iff_eq.mpr c23
                            clear c23
                            have c24b0 := eq_true (of_decide_eq_true (by first | (with_reducible assumption) | assumption) : 0 ≤ ((rd_T36 l0 x16_2).f0))
                            obtain ⟨ji25, hji25⟩ : ∃ j_ : Int, (shl .u64 1 ((rd_T36 l0 x16_2).f0)) = j_ := ⟨_, rfl⟩
                            replace H : (impl_grounded.l1 k2 l0 a1 (Go.bits .or .u64 x5_2 (Go.bits .or .u64 (ji25) (shl .u64 1 ((rd_T36 l0 x16_2).f1)))) (Go.bits .or .u64 x6_2 (shl .u64 1 x16_2)) (wrap64 ((l0.length : Int) + 1)) x12_1 l0 (l0.length : Int) (wrap64 (x16_2 + 1))) = some r := by first | (rw [hji25] at H; exact H) | (simp only [hji25] at H ⊢; exact H)
                            have hji25_ : (IntKind.u64.wrap (1 * 2 ^ min ((rd_T36 l0 x16_2).f0).toNat 64)) = ji25 := hji25
                            have hji25z : ((rd_T36 l0 x16_2).f0) ≤ 64 → (IntKind.u64.wrap (1 * 2 ^ ((rd_T36 l0 x16_2).f0).toNat)) = ji25 := shl_small hji25
                            have hji25u : (IntKind.u64.wrap (2 ^ min ((rd_T36 l0 x16_2).f0).toNat 64)) = ji25 := by have h_ := hji25_; rw [Int.one_mul] at h_; exact h_
                            have hji25v : ((rd_T36 l0 x16_2).f0) ≤ 64 → (IntKind.u64.wrap (2 ^ ((rd_T36 l0 x16_2).f0).toNat)) = ji25 := fun hle_ => by have h_ := hji25z hle_; rw [Int.one_mul] at h_; exact h_
                            have c26b0 := eq_true (of_decide_eq_true (by first | (with_reducible assumption) | assumption) : 0 ≤ ((rd_T36 l0 x16_2).f1))
                            obtain ⟨ji27, hji27⟩ : ∃ j_ : Int, (shl .u64 1 ((rd_T36 l0 x16_2).f1)) = j_ := ⟨_, rfl⟩
                            replace H : (impl_grounded.l1 k2 l0 a1 (Go.bits .or .u64 x5_2 (Go.bits .or .u64 (ji25) (ji27))) (Go.bits .or .u64 x6_2 (shl .u64 1 x16_2)) (wrap64 ((l0.length : Int) + 1)) x12_1 l0 (l0.length : Int) (wrap64 (x16_2 + 1))) = some r := by first | (rw [hji27] at H; exact H) | (simp only [hji27] at H ⊢; exact H)
                            have hji27_ : (IntKind.u64.wrap (1 * 2 ^ min ((rd_T36 l0 x16_2).f1).toNat 64)) = ji27 := hji27
                            have hji27z : ((rd_T36 l0 x16_2).f1) ≤ 64 → (IntKind.u64.wrap (1 * 2 ^ ((rd_T36 l0 x16_2).f1).toNat)) = ji27 := shl_small hji27
                            have hji27u : (IntKind.u64.wrap (2 ^ min ((rd_T36 l0 x16_2).f1).toNat 64)) = ji27 := by have h_ := hji27_; rw [Int.one_mul] at h_; exact h_
                            have hji27v : ((rd_T36 l0 x16_2).f1) ≤ 64 → (IntKind.u64.wrap (2 ^ ((rd_T36 l0 x16_2).f1).toNat)) = ji27 := fun hle_ => by have h_ := hji27z hle_; rw [Int.one_mul] at h_; exact h_
                            have c28b0 := eq_true (of_decide_eq_true (by first | (with_reducible assumption) | assumption) : 0 ≤ x16_2)
                            obtain ⟨ji29, hji29⟩ : ∃ j_ : Int, (shl .u64 1 x16_2) = j_ := ⟨_, rfl⟩
                            replace H : (impl_grounded.l1 k2 l0 a1 (Go.bits .or .u64 x5_2 (Go.bits .or .u64 (ji25) (ji27))) (Go.bits .or .u64 x6_2 (ji29)) (wrap64 ((l0.length : Int) + 1)) x12_1 l0 (l0.length : Int) (wrap64 (x16_2 + 1))) = some r := by first | (rw [hji29] at H; exact H) | (simp only [hji29] at H ⊢; exact H)
                            have hji29_ : (IntKind.u64.wrap (1 * 2 ^ min x16_2.toNat 64)) = ji29 := hji29
                            have hji29z : x16_2 ≤ 64 → (IntKind.u64.wrap (1 * 2 ^ x16_2.toNat)) = ji29 := shl_small hji29
                            have hji29u : (IntKind.u64.wrap (2 ^ min x16_2.toNat 64)) = ji29 := by have h_ := hji29_; rw [Int.one_mul] at h_; exact h_
                            have hji29v : x16_2 ≤ 64 → (IntKind.u64.wrap (2 ^ x16_2.toNat)) = ji29 := fun hle_ => by have h_ := hji29z hle_; rw [Int.one_mul] at h_; exact h_
                            have H' := Aside0.mk H
                            clear H
                            have p203 : 0 ≤ (x16_2 : Int) := of_decide_eq_true (by first | (with_reducible assumption) | assumption)
                            have q203 : x16_2 < (l0.length : Int) := of_decide_eq_true (by first | (with_reducible assumption) | assumption)
                            obtain ⟨ad203, e203, hx203_0, hx203_1⟩ := at_T36 HR0.out x16_2 p203 q203
                            cases e203
                            replace hx203_0 := (HB.out.cell (World.block_lt_of_cell? w _ hx203_0)).trans hx203_0
                            replace hx203_1 := (HB.out.cell (World.block_lt_of_cell? w _ hx203_1)).trans hx203_1
                            replace p203 := eq_true p203
                            replace q203 := eq_true q203
                            go_wp2_with (first | ((with_reducible refine gate_dst (N := 8) rfl ?_); refine box_event ?hg (N := 8) ?hd (cs := #[.int .i64 0, .int .i64 0]) (t := 36) ?hr ?_; (case hd => rfl); (case hg => rfl); (case hr => first | (go_simp; done) | (go_simp; rfl)); intro gb204 hg w30 hbox hb; have n0_ := Aside0.mk (below_step (by repeat (first | (with_reducible first | exact HB.out | apply below_alloc | apply pw_below_drewN | apply below_drew1) | exact HB.out)) hb); have n1_ := Aside0.mk (hbox); have n2_ := Aside0.mk ((by rw [hg]; exact (below_size (by repeat (first | (with_reducible first | exact HB.out | apply below_alloc | apply pw_below_drewN | apply below_drew1) | exact HB.out))) : w.heap.size ≤ gb204)); have n3_ := Aside0.mk ((by rw [hg]; exact (below_size (by repeat (first | (with_reducible first | exact HB.out | apply below_alloc | apply pw_below_drewN | apply below_drew1) | exact HB.out))) : w.heap.size ≤ gb204)); clear HB; have HB := n0_; have BK204 := n1_; have GW204 := n2_; have GE204 := n3_; clear n0_ n1_ n2_ n3_; clear hb hbox hg; have hcz31_0 : w30.cell? ⟨gb204, 0, none⟩ = some (.int .i64 0) := (blk_cell BK204.out 0).trans rfl; have hcz31_1 : w30.cell? ⟨gb204, 1, none⟩ = some (.int .i64 0) := (blk_cell BK204.out 1).trans rfl; have hfz31_0 := blk_frozen BK204.out 0; have hfz31_1 := blk_frozen BK204.out 1))
                            repeat (go_quiet (first | ((with_reducible refine gate_dst (N := 8) rfl ?_); refine box_event ?hg (N := 8) ?hd (cs := #[.int .i64 0, .int .i64 0]) (t := 36) ?hr ?_; (case hd => rfl); (case hg => rfl); (case hr => first | (go_simp; done) | (go_simp; rfl)); intro gb204 hg w30 hbox hb; have n0_ := Aside0.mk (below_step (by repeat (first | (with_reducible first | exact HB.out | apply below_alloc | apply pw_below_drewN | apply below_drew1) | exact HB.out)) hb); have n1_ := Aside0.mk (hbox); have n2_ := Aside0.mk ((by rw [hg]; exact (below_size (by repeat (first | (with_reducible first | exact HB.out | apply below_alloc | apply pw_below_drewN | apply below_drew1) | exact HB.out))) : w.heap.size ≤ gb204)); have n3_ := Aside0.mk ((by rw [hg]; exact (below_size (by repeat (first | (with_reducible first | exact HB.out | apply below_alloc | apply pw_below_drewN | apply below_drew1) | exact HB.out))) : w.heap.size ≤ gb204)); clear HB; have HB := n0_; have BK204 := n1_; have GW204 := n2_; have GE204 := n3_; clear n0_ n1_ n2_ n3_; clear hb hbox hg; have hcz31_0 : w30.cell? ⟨gb204, 0, none⟩ = some (.int .i64 0) := (blk_cell BK204.out 0).trans rfl; have hcz31_1 : w30.cell? ⟨gb204, 1, none⟩ = some (.int .i64 0) := (blk_cell BK204.out 1).trans rfl; have hfz31_0 := blk_frozen BK204.out 0; have hfz31_1 := blk_frozen BK204.out 1)); try go_wp2_with (first | ((with_reducible refine gate_dst (N := 8) rfl ?_); refine box_event ?hg (N := 8) ?hd (cs := #[.int .i64 0, .int .i64 0]) (t := 36) ?hr ?_; (case hd => rfl); (case hg => rfl); (case hr => first | (go_simp; done) | (go_simp; rfl)); intro gb204 hg w30 hbox hb; have n0_ := Aside0.mk (below_step (by repeat (first | (with_reducible first | exact HB.out | apply below_alloc | apply pw_below_drewN | apply below_drew1) | exact HB.out)) hb); have n1_ := Aside0.mk (hbox); have n2_ := Aside0.mk ((by rw [hg]; exact (below_size (by repeat (first | (with_reducible first | exact HB.out | apply below_alloc | apply pw_below_drewN | apply below_drew1) | exact HB.out))) : w.heap.size ≤ gb204)); have n3_ := Aside0.mk ((by rw [hg]; exact (below_size (by repeat (first | (with_reducible first | exact HB.out | apply below_alloc | apply pw_below_drewN | apply below_drew1) | exact HB.out))) : w.heap.size ≤ gb204)); clear HB; have HB := n0_; have BK204 := n1_; have GW204 := n2_; have GE204 := n3_; clear n0_ n1_ n2_ n3_; clear hb hbox hg; have hcz31_0 : w30.cell? ⟨gb204, 0, none⟩ = some (.int .i64 0) := (blk_cell BK204.out 0).trans rfl; have hcz31_1 : w30.cell? ⟨gb204, 1, none⟩ = some (.int .i64 0) := (blk_cell BK204.out 1).trans rfl; have hfz31_0 := blk_frozen BK204.out 0; have hfz31_1 := blk_frozen BK204.out 1)))
                            go_roundg k2
                            case measure => have := HK1.out; have := HK2.out; omega
                            case rel => exact ⟨(Go.bits .or .u64 x5_2 (Go.bits .or .u64 (ji25) (ji27))), (Go.bits .or .u64 x6_2 (ji29)), (wrap64 (x16_2 + 1)), (by first | rfl | (simp; done) | (simp only [← hji25, ← hji27] <;> (first | rfl | simp)) | (simp [*]; done)), (by first | rfl | (simp; done) | (simp only [← hji29] <;> (first | rfl | simp)) | (simp [*]; done)), (by first | rfl | (simp; done) | (simp [*]; done)), H', ⟨by have := HK1.out; have := HK2.out; omega⟩, ⟨by repeat (first | (with_reducible first | exact HB.out | apply below_alloc | apply pw_below_drewN | apply below_drew1 | refine below_set ?_ GE204.out) | exact HB.out)⟩⟩
                          · rw [if_neg c23] at H
                            have c23b0 : ((Go.bits .and .u64 (ji22) 1) == 1) = false := beq_eq_false_iff_ne.mpr c23
                            have c23b1 : ((Go.bits .and .u64 (ji22) 1) != 1) = true := bne_iff_ne.mpr c23
                            have H' := Aside0.mk H
                            clear H
                            have p203 : 0 ≤ (x16_2 : Int) := of_decide_eq_true (by first | (with_reducible assumption) | assumption)
                            have q203 : x16_2 < (l0.length : Int) := of_decide_eq_true (by first | (with_reducible assumption) | assumption)
                            obtain ⟨ad203, e203, hx203_0, hx203_1⟩ := at_T36 HR0.out x16_2 p203 q203
                            cases e203
                            replace hx203_0 := (HB.out.cell (World.block_lt_of_cell? w _ hx203_0)).trans hx203_0
                            replace hx203_1 := (HB.out.cell (World.block_lt_of_cell? w _ hx203_1)).trans hx203_1
                            replace p203 := eq_true p203
                            replace q203 := eq_true q203
                            go_wp2_with (first | ((with_reducible refine gate_dst (N := 8) rfl ?_); refine box_event ?hg (N := 8) ?hd (cs := #[.int .i64 0, .int .i64 0]) (t := 36) ?hr ?_; (case hd => rfl); (case hg => rfl); (case hr => first | (go_simp; done) | (go_simp; rfl)); intro gb204 hg w32 hbox hb; have n0_ := Aside0.mk (below_step (by repeat (first | (with_reducible first | exact HB.out | apply below_alloc | apply pw_below_drewN | apply below_drew1) | exact HB.out)) hb); have n1_ := Aside0.mk (hbox); have n2_ := Aside0.mk ((by rw [hg]; exact (below_size (by repeat (first | (with_reducible first | exact HB.out | apply below_alloc | apply pw_below_drewN | apply below_drew1) | exact HB.out))) : w.heap.size ≤ gb204)); have n3_ := Aside0.mk ((by rw [hg]; exact (below_size (by repeat (first | (with_reducible first | exact HB.out | apply below_alloc | apply pw_below_drewN | apply below_drew1) | exact HB.out))) : w.heap.size ≤ gb204)); clear HB; have HB := n0_; have BK204 := n1_; have GW204 := n2_; have GE204 := n3_; clear n0_ n1_ n2_ n3_; clear hb hbox hg; have hcz33_0 : w32.cell? ⟨gb204, 0, none⟩ = some (.int .i64 0) := (blk_cell BK204.out 0).trans rfl; have hcz33_1 : w32.cell? ⟨gb204, 1, none⟩ = some (.int .i64 0) := (blk_cell BK204.out 1).trans rfl; have hfz33_0 := blk_frozen BK204.out 0; have hfz33_1 := blk_frozen BK204.out 1))
                            repeat (go_quiet (first | ((with_reducible refine gate_dst (N := 8) rfl ?_); refine box_event ?hg (N := 8) ?hd (cs := #[.int .i64 0, .int .i64 0]) (t := 36) ?hr ?_; (case hd => rfl); (case hg => rfl); (case hr => first | (go_simp; done) | (go_simp; rfl)); intro gb204 hg w32 hbox hb; have n0_ := Aside0.mk (below_step (by repeat (first | (with_reducible first | exact HB.out | apply below_alloc | apply pw_below_drewN | apply below_drew1) | exact HB.out)) hb); have n1_ := Aside0.mk (hbox); have n2_ := Aside0.mk ((by rw [hg]; exact (below_size (by repeat (first | (with_reducible first | exact HB.out | apply below_alloc | apply pw_below_drewN | apply below_drew1) | exact HB.out))) : w.heap.size ≤ gb204)); have n3_ := Aside0.mk ((by rw [hg]; exact (below_size (by repeat (first | (with_reducible first | exact HB.out | apply below_alloc | apply pw_below_drewN | apply below_drew1) | exact HB.out))) : w.heap.size ≤ gb204)); clear HB; have HB := n0_; have BK204 := n1_; have GW204 := n2_; have GE204 := n3_; clear n0_ n1_ n2_ n3_; clear hb hbox hg; have hcz33_0 : w32.cell? ⟨gb204, 0, none⟩ = some (.int .i64 0) := (blk_cell BK204.out 0).trans rfl; have hcz33_1 : w32.cell? ⟨gb204, 1, none⟩ = some (.int .i64 0) := (blk_cell BK204.out 1).trans rfl; have hfz33_0 := blk_frozen BK204.out 0; have hfz33_1 := blk_frozen BK204.out 1)); try go_wp2_with (first | ((with_reducible refine gate_dst (N := 8) rfl ?_); refine box_event ?hg (N := 8) ?hd (cs := #[.int .i64 0, .int .i64 0]) (t := 36) ?hr ?_; (case hd => rfl); (case hg => rfl); (case hr => first | (go_simp; done) | (go_simp; rfl)); intro gb204 hg w32 hbox hb; have n0_ := Aside0.mk (below_step (by repeat (first | (with_reducible first | exact HB.out | apply below_alloc | apply pw_below_drewN | apply below_drew1) | exact HB.out)) hb); have n1_ := Aside0.mk (hbox); have n2_ := Aside0.mk ((by rw [hg]; exact (below_size (by repeat (first | (with_reducible first | exact HB.out | apply below_alloc | apply pw_below_drewN | apply below_drew1) | exact HB.out))) : w.heap.size ≤ gb204)); have n3_ := Aside0.mk ((by rw [hg]; exact (below_size (by repeat (first | (with_reducible first | exact HB.out | apply below_alloc | apply pw_below_drewN | apply below_drew1) | exact HB.out))) : w.heap.size ≤ gb204)); clear HB; have HB := n0_; have BK204 := n1_; have GW204 := n2_; have GE204 := n3_; clear n0_ n1_ n2_ n3_; clear hb hbox hg; have hcz33_0 : w32.cell? ⟨gb204, 0, none⟩ = some (.int .i64 0) := (blk_cell BK204.out 0).trans rfl; have hcz33_1 : w32.cell? ⟨gb204, 1, none⟩ = some (.int .i64 0) := (blk_cell BK204.out 1).trans rfl; have hfz33_0 := blk_frozen BK204.out 0; have hfz33_1 := blk_frozen BK204.out 1)))
                            go_roundg k2
                            case measure => have := HK1.out; have := HK2.out; omega
                            case rel => exact ⟨(x5_2), (x6_2), (wrap64 (x16_2 + 1)), (by first | rfl | (simp; done) | (simp [*]; done)), (by first | rfl | (simp; done) | (simp [*]; done)), (by first | rfl | (simp; done) | (simp [*]; done)), H', ⟨by have := HK1.out; have := HK2.out; omega⟩, ⟨by repeat (first | (with_reducible first | exact HB.out | apply below_alloc | apply pw_below_drewN | apply below_drew1 | refine below_set ?_ GE204.out) | exact HB.out)⟩⟩
                        · rw [if_neg c21] at H
                          exact absurd H (by simp)
                    · rw [if_neg c10] at H
                      exact absurd H (by simp)
                  · rw [if_neg c9] at H
                    have c9b0 : ((Go.bits .and .u64 (ji8) 1) == 1) = false := beq_eq_false_iff_ne.mpr c9
                    have c9b1 : ((Go.bits .and .u64 (ji8) 1) != 1) = true := bne_iff_ne.mpr c9
                    have H' := Aside0.mk H
                    clear H
                    have p203 : 0 ≤ (x16_2 : Int) := of_decide_eq_true (by first | (with_reducible assumption) | assumption)
                    have q203 : x16_2 < (l0.length : Int) := of_decide_eq_true (by first | (with_reducible assumption) | assumption)
                    obtain ⟨ad203, e203, hx203_0, hx203_1⟩ := at_T36 HR0.out x16_2 p203 q203
                    cases e203
                    replace hx203_0 := (HB.out.cell (World.block_lt_of_cell? w _ hx203_0)).trans hx203_0
                    replace hx203_1 := (HB.out.cell (World.block_lt_of_cell? w _ hx203_1)).trans hx203_1
                    replace p203 := eq_true p203
                    replace q203 := eq_true q203
                    go_wp2_with (first | ((with_reducible refine gate_dst (N := 8) rfl ?_); refine box_event ?hg (N := 8) ?hd (cs := #[.int .i64 0, .int .i64 0]) (t := 36) ?hr ?_; (case hd => rfl); (case hg => rfl); (case hr => first | (go_simp; done) | (go_simp; rfl)); intro gb204 hg w34 hbox hb; have n0_ := Aside0.mk (below_step (by repeat (first | (with_reducible first | exact HB.out | apply below_alloc | apply pw_below_drewN | apply below_drew1) | exact HB.out)) hb); have n1_ := Aside0.mk (hbox); have n2_ := Aside0.mk ((by rw [hg]; exact (below_size (by repeat (first | (with_reducible first | exact HB.out | apply below_alloc | apply pw_below_drewN | apply below_drew1) | exact HB.out))) : w.heap.size ≤ gb204)); have n3_ := Aside0.mk ((by rw [hg]; exact (below_size (by repeat (first | (with_reducible first | exact HB.out | apply below_alloc | apply pw_below_drewN | apply below_drew1) | exact HB.out))) : w.heap.size ≤ gb204)); clear HB; have HB := n0_; have BK204 := n1_; have GW204 := n2_; have GE204 := n3_; clear n0_ n1_ n2_ n3_; clear hb hbox hg; have hcz35_0 : w34.cell? ⟨gb204, 0, none⟩ = some (.int .i64 0) := (blk_cell BK204.out 0).trans rfl; have hcz35_1 : w34.cell? ⟨gb204, 1, none⟩ = some (.int .i64 0) := (blk_cell BK204.out 1).trans rfl; have hfz35_0 := blk_frozen BK204.out 0; have hfz35_1 := blk_frozen BK204.out 1))
                    repeat (go_quiet (first | ((with_reducible refine gate_dst (N := 8) rfl ?_); refine box_event ?hg (N := 8) ?hd (cs := #[.int .i64 0, .int .i64 0]) (t := 36) ?hr ?_; (case hd => rfl); (case hg => rfl); (case hr => first | (go_simp; done) | (go_simp; rfl)); intro gb204 hg w34 hbox hb; have n0_ := Aside0.mk (below_step (by repeat (first | (with_reducible first | exact HB.out | apply below_alloc | apply pw_below_drewN | apply below_drew1) | exact HB.out)) hb); have n1_ := Aside0.mk (hbox); have n2_ := Aside0.mk ((by rw [hg]; exact (below_size (by repeat (first | (with_reducible first | exact HB.out | apply below_alloc | apply pw_below_drewN | apply below_drew1) | exact HB.out))) : w.heap.size ≤ gb204)); have n3_ := Aside0.mk ((by rw [hg]; exact (below_size (by repeat (first | (with_reducible first | exact HB.out | apply below_alloc | apply pw_below_drewN | apply below_drew1) | exact HB.out))) : w.heap.size ≤ gb204)); clear HB; have HB := n0_; have BK204 := n1_; have GW204 := n2_; have GE204 := n3_; clear n0_ n1_ n2_ n3_; clear hb hbox hg; have hcz35_0 : w34.cell? ⟨gb204, 0, none⟩ = some (.int .i64 0) := (blk_cell BK204.out 0).trans rfl; have hcz35_1 : w34.cell? ⟨gb204, 1, none⟩ = some (.int .i64 0) := (blk_cell BK204.out 1).trans rfl; have hfz35_0 := blk_frozen BK204.out 0; have hfz35_1 := blk_frozen BK204.out 1)); try go_wp2_with (first | ((with_reducible refine gate_dst (N := 8) rfl ?_); refine box_event ?hg (N := 8) ?hd (cs := #[.int .i64 0, .int .i64 0]) (t := 36) ?hr ?_; (case hd => rfl); (case hg => rfl); (case hr => first | (go_simp; done) | (go_simp; rfl)); intro gb204 hg w34 hbox hb; have n0_ := Aside0.mk (below_step (by repeat (first | (with_reducible first | exact HB.out | apply below_alloc | apply pw_below_drewN | apply below_drew1) | exact HB.out)) hb); have n1_ := Aside0.mk (hbox); have n2_ := Aside0.mk ((by rw [hg]; exact (below_size (by repeat (first | (with_reducible first | exact HB.out | apply below_alloc | apply pw_below_drewN | apply below_drew1) | exact HB.out))) : w.heap.size ≤ gb204)); have n3_ := Aside0.mk ((by rw [hg]; exact (below_size (by repeat (first | (with_reducible first | exact HB.out | apply below_alloc | apply pw_below_drewN | apply below_drew1) | exact HB.out))) : w.heap.size ≤ gb204)); clear HB; have HB := n0_; have BK204 := n1_; have GW204 := n2_; have GE204 := n3_; clear n0_ n1_ n2_ n3_; clear hb hbox hg; have hcz35_0 : w34.cell? ⟨gb204, 0, none⟩ = some (.int .i64 0) := (blk_cell BK204.out 0).trans rfl; have hcz35_1 : w34.cell? ⟨gb204, 1, none⟩ = some (.int .i64 0) := (blk_cell BK204.out 1).trans rfl; have hfz35_0 := blk_frozen BK204.out 0; have hfz35_1 := blk_frozen BK204.out 1)))
                    go_roundg k2
                    case measure => have := HK1.out; have := HK2.out; omega
                    case rel => exact ⟨(x5_2), (x6_2), (wrap64 (x16_2 + 1)), (by first | rfl | (simp; done) | (simp [*]; done)), (by first | rfl | (simp; done) | (simp [*]; done)), (by first | rfl | (simp; done) | (simp [*]; done)), H', ⟨by have := HK1.out; have := HK2.out; omega⟩, ⟨by repeat (first | (with_reducible first | exact HB.out | apply below_alloc | apply pw_below_drewN | apply below_drew1 | refine below_set ?_ GE204.out) | exact HB.out)⟩⟩
                · rw [if_neg c6] at H
                  exact absurd H (by simp)
              · rw [if_neg c5] at H
                exact absurd H (by simp)
            · rw [if_neg c4] at H
              have c4b0 : decide (x16_2 < (l0.length : Int)) = false := decide_eq_false c4
              clear c4
              have H' := Aside0.mk H
              clear H
              go_wp2
              repeat (go_quiet (fail); try go_wp2)
              go_roundg k2
              case measure => have := HK1.out; have := HK2.out; omega
              case rel => exact ⟨(x5_2), (x6_2), (wrap64 (x12_1 + 1)), (by first | rfl | (simp; done) | (simp [*]; done)), (by first | rfl | (simp; done) | (simp [*]; done)), (by first | rfl | (simp; done) | (simp [*]; done)), H', ⟨by have := HK1.out; have := HK2.out; omega⟩, ⟨by repeat (first | (with_reducible first | exact HB.out | apply below_alloc | apply pw_below_drewN | apply below_drew1) | exact HB.out)⟩⟩
      · rw [if_neg c3] at H
        have c3b0 : decide (x12_1 < (wrap64 ((l0.length : Int) + 1))) = false := decide_eq_false c3
        clear c3
        obtain rfl := Option.some.inj H
        go_wp2
        repeat (go_quiet (fail); try go_wp2)
        go_ret
        exact ⟨by first | rfl | (simp [errW_none, errW_some] <;> rfl) | (simp [*, errW_none, errW_some] <;> rfl), by repeat (first | (with_reducible first | exact HB.out | apply below_alloc | apply pw_below_drewN | apply below_drew1) | exact HB.out)⟩

-- NOT PRINTED: function 44 (impl_mex)

-- NOT PRINTED: function 29 (impl_grundy)

/-! ### impl_all: function 31 -/
def impl_all.f (l0 : List (S36)) : Option (Int) := some (IntKind.u64.wrap ((shl .u64 1 (l0.length : Int)) - 1))
set_option maxHeartbeats 8000000 in
set_option maxRecDepth 100000 in
theorem impl_all.calls (A0 : Option Addr) (c0 : Nat) (l0 : List (S36)) (r : Int) (w : World) (hr0 : Kd.C k36 w A0 l0.length l0) (hc0 : l0.length ≤ c0) (h : impl_all.f l0 = some r) :
    Calls Try.prog 31 #[.slice A0 l0.length c0] w fun e w' => e = .returned (.int .u64 r) ∧ Drawn0 w w' := by
  have HR0 := Aside0.mk hr0
  have HC0 := Aside0.mk hc0
  clear hr0 hc0
  have H : (some (IntKind.u64.wrap ((shl .u64 1 (l0.length : Int)) - 1))) = some r := h
  clear h
  obtain ⟨ji2, hji2⟩ : ∃ j_ : Int, (shl .u64 1 (l0.length : Int)) = j_ := ⟨_, rfl⟩
  replace H : (some (IntKind.u64.wrap ((ji2) - 1))) = some r := by first | (rw [hji2] at H; exact H) | (simp only [hji2] at H ⊢; exact H)
  have hji2_ : (IntKind.u64.wrap (1 * 2 ^ min (l0.length : Int).toNat 64)) = ji2 := hji2
  have hji2z : (l0.length : Int) ≤ 64 → (IntKind.u64.wrap (1 * 2 ^ (l0.length : Int).toNat)) = ji2 := shl_small hji2
  have hji2p : (IntKind.u64.wrap (1 * 2 ^ min l0.length 64)) = ji2 := hji2_
  have hji2q : (l0.length : Int) ≤ 64 → (IntKind.u64.wrap (1 * 2 ^ l0.length)) = ji2 := hji2z
  have hji2r : (IntKind.u64.wrap (2 ^ min l0.length 64)) = ji2 := by have h_ := hji2p; rw [Int.one_mul] at h_; exact h_
  have hji2s : (l0.length : Int) ≤ 64 → (IntKind.u64.wrap (2 ^ l0.length)) = ji2 := fun hle_ => by have h_ := hji2q hle_; rw [Int.one_mul] at h_; exact h_
  have hji2u : (IntKind.u64.wrap (2 ^ min (l0.length : Int).toNat 64)) = ji2 := by have h_ := hji2_; rw [Int.one_mul] at h_; exact h_
  have hji2v : (l0.length : Int) ≤ 64 → (IntKind.u64.wrap (2 ^ (l0.length : Int).toNat)) = ji2 := fun hle_ => by have h_ := hji2z hle_; rw [Int.one_mul] at h_; exact h_
  obtain rfl := Option.some.inj H
  go_enter Try.func31, Try.ntmps31
  go_wp2
  go_ret
  exact ⟨by first | rfl | (simp; done) | (simp only [← hji2] <;> (first | rfl | simp)) | (simp [*]; done), by repeat (first | exact Drawn0.refl _ | apply Drawn0.step)⟩

/-! ### impl_GrundyByPlay: function 15 -/
def impl_grundy.vals (R G : Int → Option Int) (set : Int) : Nat → Option (List Int)
  | 0 => some []
  | n + 1 => (impl_grundy.vals R G set n).bind fun vs => if Go.bits .and .u64 (set / 2 ^ n) 1 = 1 then (G (Go.bits .andNot .u64 set (IntKind.u64.wrap (2 ^ n)))).bind fun s => (R s).bind fun v => some (vs ++ [v]) else some vs
/-- The Grundy value of a set of twigs, without a table. -/
def impl_grundy.f : Nat → List S36 → Int → Option Int
  | 0, _, _ => none
  | k + 1, l, set => if 0 ≤ set ∧ set < 16384 then (impl_grundy.vals (impl_grundy.f k l) (impl_grounded.f k l) set l.length).bind fun vs => some ((Go.Proofs.Ytnkaipnnbdgkkaa.Mp.mex vs : Nat) : Int) else none
theorem impl_grundy.vals_mono (R R' G G' : Int → Option Int) (hR : ∀ s, LeO (R s) (R' s)) (hG : ∀ s, LeO (G s) (G' s)) (set : Int) : ∀ n, LeO (impl_grundy.vals R G set n) (impl_grundy.vals R' G' set n)
  | 0 => LeO.refl _
  | n + 1 => by
    unfold impl_grundy.vals
    refine LeO.bind (impl_grundy.vals_mono R R' G G' hR hG set n) (fun vs => ?_)
    exact LeO.ite (LeO.bind (hG _) fun s => LeO.bind (hR _) fun v => LeO.refl _) (LeO.refl _)
theorem impl_grundy.mono (l : List S36) : ∀ k s, LeO (impl_grundy.f k l s) (impl_grundy.f (k + 1) l s)
  | 0, _ => LeO.none _
  | k + 1, s => by
    unfold impl_grundy.f
    exact LeO.ite (LeO.bind (impl_grundy.vals_mono _ _ _ _ (impl_grundy.mono l k) (fun s => impl_grounded.mono _ _ _) s _) fun vs => LeO.refl _) (LeO.refl _)
theorem impl_grundy.up (l : List S36) (k s : _) : ∀ d, LeO (impl_grundy.f k l s) (impl_grundy.f (k + d) l s)
  | 0 => LeO.refl _
  | d + 1 => LeO.trans (impl_grundy.up l k s d) (impl_grundy.mono l (k + d) s)
theorem impl_grundy.det {l : List S36} {k k' : Nat} {s a b : Int} (h1 : impl_grundy.f k l s = some a) (h2 : impl_grundy.f k' l s = some b) : a = b := by
  have e1 := impl_grundy.up l k s k' a h1
  have e2 := impl_grundy.up l k' s k b h2
  rw [Nat.add_comm k' k] at e2
  exact Option.some.inj (e1.symm.trans e2)
theorem impl_grundy.pre {R G : Int → Option Int} {set : Int} : ∀ (m : Nat) {vs : List Int}, impl_grundy.vals R G set m = some vs → ∀ n, n ≤ m → ∃ us, impl_grundy.vals R G set n = some us ∧ us.length ≤ n
  | 0, vs, h, n, hn => by
    obtain rfl : n = 0 := by omega
    exact ⟨[], rfl, by simp⟩
  | m + 1, vs, h, n, hn => by
    have h0 := h
    unfold impl_grundy.vals at h
    obtain ⟨us, h1, h2⟩ := Option.bind_eq_some_iff.mp h
    by_cases e : n = m + 1
    · subst e
      refine ⟨vs, h0, ?_⟩
      obtain ⟨us', q1, q2⟩ := impl_grundy.pre m h1 m (Nat.le_refl _)
      obtain rfl := Option.some.inj (h1.symm.trans q1)
      by_cases c : Go.bits .and .u64 (set / 2 ^ m) 1 = 1
      · rw [if_pos c] at h2
        obtain ⟨s, _, h2⟩ := Option.bind_eq_some_iff.mp h2
        obtain ⟨v, _, h2⟩ := Option.bind_eq_some_iff.mp h2
        obtain rfl := Option.some.inj h2
        simp
        omega
      · rw [if_neg c] at h2
        obtain rfl := Option.some.inj h2
        omega
    · exact impl_grundy.pre m h1 n (by omega)
theorem impl_grundy.at {R G : Int → Option Int} {set : Int} {m : Nat} {vs : List Int} (h : impl_grundy.vals R G set m = some vs) (n : Nat) (hn : n < m) {us : List Int} (hu : impl_grundy.vals R G set n = some us) :
    (Go.bits .and .u64 (set / 2 ^ n) 1 = 1 ∧ ∃ s v, G (Go.bits .andNot .u64 set (IntKind.u64.wrap (2 ^ n))) = some s ∧ R s = some v ∧ impl_grundy.vals R G set (n + 1) = some (us ++ [v])) ∨
      (¬ Go.bits .and .u64 (set / 2 ^ n) 1 = 1 ∧ impl_grundy.vals R G set (n + 1) = some us) := by
  obtain ⟨us', h1, _⟩ := impl_grundy.pre m h (n + 1) hn
  have h0 := h1
  unfold impl_grundy.vals at h1
  rw [hu] at h1
  simp only [Option.bind_some] at h1
  by_cases c : Go.bits .and .u64 (set / 2 ^ n) 1 = 1
  · rw [if_pos c] at h1
    obtain ⟨s, q1, h1⟩ := Option.bind_eq_some_iff.mp h1
    obtain ⟨v, q2, h1⟩ := Option.bind_eq_some_iff.mp h1
    obtain rfl := Option.some.inj h1
    exact Or.inl ⟨c, s, v, q1, q2, h0⟩
  · rw [if_neg c] at h1
    obtain rfl := Option.some.inj h1
    exact Or.inr ⟨c, h0⟩
theorem impl_grundy.nat {k : Nat} {l : List S36} {s v : Int} (h : impl_grundy.f k l s = some v) : ∃ m : Nat, v = (m : Int) ∧ m ≤ l.length := by
  cases k with
  | zero => cases h
  | succ k =>
    unfold impl_grundy.f at h
    split at h
    · obtain ⟨vs, h1, h2⟩ := Option.bind_eq_some_iff.mp h
      obtain rfl := Option.some.inj h2
      obtain ⟨us, q1, q2⟩ := impl_grundy.pre _ h1 _ (Nat.le_refl _)
      obtain rfl := Option.some.inj (h1.symm.trans q1)
      exact ⟨_, rfl, Nat.le_trans (Go.Proofs.Ytnkaipnnbdgkkaa.Mp.mex_le _) q2⟩
    · cases h
theorem impl_grundy.keyU : Maps.Keyed Try.prog 45 := Maps.int_keyed Try.underlying45
theorem impl_grundy.keyI : Maps.Keyed Try.prog 3 := Maps.int_keyed Try.underlying3
theorem impl_grundy.zB (w : World) : (zeroValue 4).run Try.prog w = .ok (.bool false) w := by kernel_rfl
theorem impl_grundy.zI (w : World) : (zeroValue 3).run Try.prog w = .ok (.int .i64 0) w := by kernel_rfl
theorem impl_grundy.wfU (x : Int) (h : 0 ≤ x ∧ x < 16384) : (Lit.int .u64 x).wf = true := by
  simp [Lit.wf, IntKind.min, IntKind.max, IntKind.signed, IntKind.bits]
  omega
set_option maxHeartbeats 1000000 in
set_option maxRecDepth 100000 in
/-- The least number of at least 0 that is not there. -/
theorem impl_mex.calls (b n m : Nat) (S : Int → Bool) (w : World) (hm : m < 2 ^ 60) (h0 : S (m : Int) = false) (h1 : ∀ j : Nat, j < m → S (j : Int) = true) (ho : Go.Proofs.Ytnkaipnnbdgkkaa.Mp.OwnB w Try.prog 3 4 .i64 b n S) :
    Calls Try.prog 44 #[.map (some b)] w fun e w' => e = .returned (.int .i64 (m : Int)) ∧ Below w.heap.size w w' := by
  have HO := Aside0.mk ho
  have HB := Aside0.mk (Below.refl w.heap.size w)
  have H0 := Aside0.mk h0
  have H1 := Aside0.mk h1
  clear ho h0 h1
  go_enter Try.func44, Try.ntmps44
  go_wp2
  go_loopg [3] (m + 1) (fun gg v3 wr => ∃ j : Nat, j ≤ m ∧ m + 1 - j ≤ gg ∧ v3 = .int .i64 j ∧ Aside0 (Go.Proofs.Ytnkaipnnbdgkkaa.Mp.OwnB wr Try.prog 3 4 .i64 b n S) ∧ Aside0 (Below w.heap.size w wr))
  case atStart => exact ⟨0, Nat.zero_le _, by omega, rfl, ⟨by first | exact HO.out | exact HO.out.drew⟩, ⟨by first | exact HB.out | exact below_drew1 HB.out⟩⟩
  case round =>
    obtain ⟨j, hj, hg, rfl, HO, HB⟩ := hrel
    have hw := Go.Proofs.Ytnkaipnnbdgkkaa.Mp.wfN j (by omega)
    by_cases hlt : j < m
    · have e1 : S (j : Int) = true := H1.out j hlt
      go_wp2_with (first | (at_lookup; refine Go.Proofs.Ytnkaipnnbdgkkaa.Mp.step_lookB HO.out impl_grundy.keyI Try.underlying60 Try.underlying4 Try.underlying3 (impl_grundy.zB _) (.tmp 4) (.tmp 5) (j : Int) rfl rfl rfl rfl hw ?_; rw [e1]))
      go_roundg (m + 1 - (j + 1))
      case measure => omega
      case rel => exact ⟨j + 1, by omega, by omega, by go_num, ⟨by first | exact HO.out | exact HO.out.drew⟩, ⟨by first | exact HB.out | exact below_drew1 HB.out⟩⟩
    · obtain rfl : j = m := by omega
      have e1 : S (j : Int) = false := H0.out
      go_wp2_with (first | (at_lookup; refine Go.Proofs.Ytnkaipnnbdgkkaa.Mp.step_lookB HO.out impl_grundy.keyI Try.underlying60 Try.underlying4 Try.underlying3 (impl_grundy.zB _) (.tmp 4) (.tmp 5) (j : Int) rfl rfl rfl rfl hw ?_; rw [e1]))
      go_ret
      exact ⟨rfl, HB.out⟩
/-- The table holds values alone. -/
def impl_grundy.Memo (w : World) (l : List S36) (b : Nat) : Prop := ∃ f : Int → Option Int, Go.Proofs.Ytnkaipnnbdgkkaa.Mp.OwnK w Try.prog 45 3 .u64 b 16384 f ∧ ∀ x y, f x = some y → ∃ k, impl_grundy.f k l x = some y
theorem impl_grundy.Memo.kept {w w' : World} {l : List S36} {b : Nat} {row : Option Nat} (h : impl_grundy.Memo w l b) (hg : w.grownBy w' row) (hne : some b ≠ row) : impl_grundy.Memo w' l b := by
  obtain ⟨f, h1, h2⟩ := h
  exact ⟨f, h1.kept hg hne, h2⟩
theorem impl_grundy.grown {B : Nat} {w w1 : World} (h : Below w.heap.size w w1) : w.grownBy w1 none := grown_of_below h none
theorem impl_grundy.snoc (us : List Int) (v x : Int) : (if x = v then true else us.contains x) = (us ++ [v]).contains x := by
  by_cases c : x = v
  · subst c
    simp
  · simp [c]
set_option maxHeartbeats 4000000 in
set_option maxRecDepth 100000 in
theorem impl_grundy.calls (l : List S36) (A : Option Addr) (c : Nat) (w0 : World) (hr : Kd.C k36 w0 A l.length l) (hc : l.length ≤ c) (hl : l.length ≤ 14) (b : Nat) (hb : w0.heap.size ≤ b) :
    ∀ (k : Nat) (set v : Int) (w : World), Below w0.heap.size w0 w → impl_grundy.Memo w l b → impl_grundy.f k l set = some v →
      Calls Try.prog 29 #[.slice A l.length c, .int .u64 set, .map (some b)] w fun e w' => e = .returned (.int .i64 v) ∧ impl_grundy.Memo w' l b ∧ Below w0.heap.size w0 w' ∧ w.grownBy w' (some b) := by
  intro k
  induction k with
  | zero => intro set v w _ _ h; cases h
  | succ k IH =>
    intro set v w hB hM h
    have h' := h
    unfold impl_grundy.f at h
    by_cases hs : 0 ≤ set ∧ set < 16384
    · rw [if_pos hs] at h
      obtain ⟨vs, hvs, hv⟩ := Option.bind_eq_some_iff.mp h
      have hv := Option.some.inj hv
      subst hv
      clear h
      obtain ⟨f, hK, hF⟩ := hM
      have hwU := impl_grundy.wfU set hs
      cases hfs : f set with
      | some y =>
        obtain ⟨k', hk'⟩ := hF _ _ hfs
        have e0 := impl_grundy.det hk' h'
        subst e0
        have HK := Aside0.mk hK
        have HF := Aside0.mk hF
        have HB := Aside0.mk hB
        clear hK hF hB IH hvs h' hk'
        go_enter Try.func29, Try.ntmps29
        go_wp2_with (first | (at_lookup; refine Go.Proofs.Ytnkaipnnbdgkkaa.Mp.step_lookOkK HK.out impl_grundy.keyU Try.underlying48 Try.underlying3 Try.underlying45 (impl_grundy.zI _) (.tmp 12) (.tmp 13) set rfl rfl rfl rfl hwU ?_; simp only [hfs, Option.getD_some, Option.isSome_some]))
        go_ret
        exact ⟨rfl, ⟨f, HK.out, HF.out⟩, HB.out, World.grownBy.refl _ _⟩
      | none =>
        have hbw := hK.lt
        have HK := Aside0.mk hK
        have HF := Aside0.mk hF
        have HB := Aside0.mk hB
        have HI := Aside0.mk IH
        have HV := Aside0.mk hvs
        have HE := Aside0.mk h'
        have HR := Aside0.mk hr
        have HC := Aside0.mk hc
        have HBW := Aside0.mk hbw
        have hmm := @run_makeMap Try.prog
        clear hK hF hB IH hvs h' hbw hr hc
        go_enter Try.func29, Try.ntmps29
        go_wp2_with (first | (at_lookup; refine Go.Proofs.Ytnkaipnnbdgkkaa.Mp.step_lookOkK HK.out impl_grundy.keyU Try.underlying48 Try.underlying3 Try.underlying45 (impl_grundy.zI _) (.tmp 12) (.tmp 13) set rfl rfl rfl rfl hwU ?_; simp only [hfs, Option.getD_none, Option.isSome_none]))
        go_loopg [22] l.length (fun gg v22 wr => ∃ (n : Nat) (us : List Int) (f : Int → Option Int), n ≤ l.length ∧ l.length - n ≤ gg ∧ v22 = .int .i64 n ∧ Aside0 (impl_grundy.vals (impl_grundy.f k l) (impl_grounded.f k l) set n = some us) ∧ Aside0 (Go.Proofs.Ytnkaipnnbdgkkaa.Mp.OwnB wr Try.prog 3 4 .i64 w.heap.size us.length (fun x => us.contains x)) ∧ Aside0 (Go.Proofs.Ytnkaipnnbdgkkaa.Mp.OwnK wr Try.prog 45 3 .u64 b 16384 f) ∧ Aside0 (∀ x y, f x = some y → ∃ k, impl_grundy.f k l x = some y) ∧ Aside0 (Below w0.heap.size w0 wr) ∧ Aside0 (w.grownBy wr (some b)))
        case atStart =>
          refine ⟨0, [], f, Nat.zero_le _, by omega, rfl, ⟨rfl⟩, ⟨?_⟩, ⟨?_⟩, HF, ⟨?_⟩, ⟨?_⟩⟩
          · exact Go.Proofs.Ytnkaipnnbdgkkaa.Mp.OwnB.made w Try.prog 3 4 .i64
          · exact HK.out.alloc _
          · exact HB.out.alloc HB.out.size _
          · exact World.grownBy_alloc w _ _
        case round =>
          clear HF HK HB
          obtain ⟨n, us, f2, hn, hg, rfl, HU, HO, HK, HF, HB, HG⟩ := hrel
          by_cases hlt : n < l.length
          · have c1 : decide ((n : Int) < (l.length : Int)) = true := decide_eq_true (by omega)
            have c2 : decide ((0 : Int) ≤ (n : Int)) = true := decide_eq_true (by omega)
            have hn64 : n < 64 := by omega
            rcases impl_grundy.at HV.out n hlt HU.out with ⟨hbit, s, v1, g1, g2, g3⟩ | ⟨hbit, g3⟩
            · have hb1 : (Go.bits .and .u64 (set / 2 ^ n) 1 == 1) = true := beq_iff_eq.mpr hbit
              obtain ⟨m1, e1, hm1⟩ := impl_grundy.nat g2
              subst e1
              have hw1 := Go.Proofs.Ytnkaipnnbdgkkaa.Mp.wfN m1 (by omega)
              have hne : some w.heap.size ≠ some b := fun e => by have := HBW.out; injection e; omega
              have hne' : some b ≠ some w.heap.size := fun e => hne e.symm
              have hun : us.length < maxLen := by
                obtain ⟨us', q1, q2⟩ := impl_grundy.pre _ HV.out n hn
                obtain rfl := Option.some.inj (HU.out.symm.trans q1)
                unfold maxLen
                omega
              have G1 := Aside0.mk g1
              have G2 := Aside0.mk g2
              have G3 := Aside0.mk g3
              clear hbit g1 g2 g3
              go_wp2_with (first
                | (go_at_call 30; refine (impl_grounded.calls k A c l _ s _ (by repeat (first | exact Kd.C_below HR.out HB.out | (with_reducible refine Kd.C_alloc ?_ _) | (with_reducible refine Kd.C_drewN ?_ _) | (with_reducible refine Kd.C_drew ?_))) HC.out G1.out).mono ?_; rintro e w5 ⟨rfl, hb5⟩; have n0_ := Aside0.mk (HO.out.kept (grown_of_below hb5 none) (by simp)); have n1_ := Aside0.mk (HK.out.kept (grown_of_below hb5 none) (by simp)); have n2_ := Aside0.mk (below_then HB.out HB.out.size hb5); have n3_ := Aside0.mk (HG.out.trans (grown_of_below hb5 (some b))); clear HO HK HB HG; have HO := n0_; have HK := n1_; have HB := n2_; have HG := n3_; clear n0_ n1_ n2_ n3_ hb5)
                | (go_at_call 29; refine (HI.out s _ _ HB.out ⟨_, HK.out, HF.out⟩ G2.out).mono ?_; rintro e w6 ⟨rfl, ⟨f3, hK6, hF6⟩, hB6, hG6⟩; have n0_ := Aside0.mk (HO.out.kept hG6 hne); have n3_ := Aside0.mk (HG.out.trans hG6); clear HO HK HF HB HG; have HO := n0_; have HK := Aside0.mk hK6; have HF := Aside0.mk hF6; have HB := Aside0.mk hB6; have HG := n3_; clear n0_ n3_ hK6 hF6 hB6 hG6)
                | (at_mapUpdate; refine Go.Proofs.Ytnkaipnnbdgkkaa.Mp.step_putB HO.out impl_grundy.keyI Try.underlying60 Try.underlying4 Try.underlying3 hun (.tmp 30) (.tmp 39) (.const (.bool true)) (m1 : Int) true rfl rfl rfl rfl rfl hw1 ?_; intro w7 ho7 ht7; have n1_ := Aside0.mk (HK.out.kept ht7.grown hne'); have n2_ := Aside0.mk (HB.out.grown ht7.grown HB.out.size (by intro k_ hk_; injection hk_ with hk_; have := HBW.out; have := HG.out.size; omega)); have n3_ := Aside0.mk (HG.out.andThen ht7.grown (by intro j hj; injection hj with hj; exact Or.inl (by omega))); clear HO HK HB HG; have HO := Aside0.mk ho7; have HK := n1_; have HB := n2_; have HG := n3_; clear n1_ n2_ n3_ ho7 ht7))
              go_roundg (l.length - (n + 1))
              case measure => omega
              case rel =>
                refine ⟨n + 1, us ++ [(m1 : Int)], f3, by omega, by omega, by go_num, G3, ⟨?_⟩, ⟨by first | exact HK.out | exact HK.out.drew⟩, HF, ⟨by first | exact HB.out | exact below_drew1 HB.out⟩, ⟨HG.out⟩⟩
                refine (HO.out.congr (fun x => impl_grundy.snoc us _ x) ?_)
                rw [List.length_append]
                exact Nat.le_refl _
            · have hb1 : (Go.bits .and .u64 (set / 2 ^ n) 1 == 1) = false := beq_eq_false_iff_ne.mpr hbit
              have G3 := Aside0.mk g3
              clear hbit g3
              go_wp2
              go_roundg (l.length - (n + 1))
              case measure => omega
              case rel => exact ⟨n + 1, us, f2, by omega, by omega, by go_num, G3, HO, HK, HF, HB, HG⟩
          · obtain rfl : n = l.length := by omega
            have c1 : decide ((l.length : Int) < (l.length : Int)) = false := decide_eq_false (by omega)
            obtain rfl := Option.some.inj (HU.out.symm.trans HV.out)
            have hml : Go.Proofs.Ytnkaipnnbdgkkaa.Mp.mex us ≤ 14 := by
              obtain ⟨us', q1, q2⟩ := impl_grundy.pre _ HV.out _ (Nat.le_refl _)
              obtain rfl := Option.some.inj (HU.out.symm.trans q1)
              have := Go.Proofs.Ytnkaipnnbdgkkaa.Mp.mex_le us
              omega
            have hwm := Go.Proofs.Ytnkaipnnbdgkkaa.Mp.wfN (Go.Proofs.Ytnkaipnnbdgkkaa.Mp.mex us) (by omega)
            have hne : some w.heap.size ≠ some b := fun e => by have := HBW.out; injection e; omega
            go_wp2_with (first
              | (go_at_call 44; refine (impl_mex.calls w.heap.size us.length (Go.Proofs.Ytnkaipnnbdgkkaa.Mp.mex us) (fun x => us.contains x) _ (by omega) (Go.Proofs.Ytnkaipnnbdgkkaa.Mp.mex_not us) (Go.Proofs.Ytnkaipnnbdgkkaa.Mp.mex_all us) HO.out).mono ?_; rintro e w8 ⟨rfl, hb8⟩; have n1_ := Aside0.mk (HK.out.kept (grown_of_below hb8 none) (by simp)); have n2_ := Aside0.mk (below_then HB.out HB.out.size hb8); have n3_ := Aside0.mk (HG.out.trans (grown_of_below hb8 (some b))); clear HO HK HB HG; have HK := n1_; have HB := n2_; have HG := n3_; clear n1_ n2_ n3_ hb8)
              | (at_mapUpdate; refine Go.Proofs.Ytnkaipnnbdgkkaa.Mp.step_putK HK.out (by decide) impl_grundy.keyU Try.underlying48 Try.underlying3 Try.underlying45 (.tmp 41) (.tmp 42) (.tmp 44) set ((Go.Proofs.Ytnkaipnnbdgkkaa.Mp.mex us : Nat) : Int) hs rfl rfl rfl rfl rfl hwU hwm ?_; intro w9 hK9 ht9; have n2_ := Aside0.mk (HB.out.grown ht9.grown HB.out.size (by intro k_ hk_; injection hk_ with hk_; omega)); have n3_ := Aside0.mk (HG.out.trans ht9.grown); clear HK HB HG; have HK := Aside0.mk hK9; have HB := n2_; have HG := n3_; clear n2_ n3_ hK9 ht9)
              | (at_lookup; refine Go.Proofs.Ytnkaipnnbdgkkaa.Mp.step_lookK HK.out impl_grundy.keyU Try.underlying48 Try.underlying3 Try.underlying45 (impl_grundy.zI _) (.tmp 45) (.tmp 46) set rfl rfl rfl rfl hwU ?_; simp only [if_true, Option.getD_some]))
            go_ret
            refine ⟨rfl, ⟨_, HK.out, fun x y hxy => ?_⟩, HB.out, HG.out⟩
            by_cases e : x = set
            · subst e
              rw [if_pos rfl] at hxy
              obtain rfl := Option.some.inj hxy
              exact ⟨_, HE.out⟩
            · rw [if_neg e] at hxy
              exact HF.out x y hxy
    · rw [if_neg hs] at h
      cases h
theorem impl_grundy.fourteen {k : Nat} {l : List S36} (h : impl_IsGreen.f k l = some true) : l.length ≤ 14 := by
  have := Option.some.inj h
  simp only [Bool.and_eq_true, decide_eq_true_eq] at this
  exact this.1
def impl_GrundyByPlay.f (k : Nat) (l0 : List S36) : Option (Int × Bool) := (impl_IsGreen.f k l0).bind fun t => if t = true then (impl_all.f l0).bind fun a => (impl_grounded.f k l0 a).bind fun s => (impl_grundy.f k l0 s).bind fun v => some (v, true) else some (0, false)
theorem impl_GrundyByPlay.mono : ∀ a0 k, LeO (impl_GrundyByPlay.f k a0) (impl_GrundyByPlay.f (k + 1) a0) := by
  intro a0 k
  unfold impl_GrundyByPlay.f
  exact LeO.bind (impl_IsGreen.mono _ _) fun t => LeO.ite (LeO.bind (LeO.refl _) fun a => LeO.bind (impl_grounded.mono _ _ _) fun s => LeO.bind (impl_grundy.mono _ _ _) fun v => LeO.refl _) (LeO.refl _)
set_option maxHeartbeats 4000000 in
set_option maxRecDepth 100000 in
theorem impl_GrundyByPlay.calls (k : Nat) (A0 : Option Addr) (c0 : Nat) (l0 : List (S36)) (r1 : Int) (r2 : Bool) (w : World) (hr0 : Kd.C k36 w A0 l0.length l0) (hc0 : l0.length ≤ c0) (h : impl_GrundyByPlay.f k l0 = some (r1, r2)) :
    Calls Try.prog 15 #[.slice A0 l0.length c0] w fun e w' => e = .returned (.tuple #[.int .i64 r1, .bool r2]) ∧ Below w.heap.size w w' := by
  have HR := Aside0.mk hr0
  have HC := Aside0.mk hc0
  have HB := Aside0.mk (Below.refl w.heap.size w)
  have hmm := @run_makeMap Try.prog
  clear hr0 hc0
  obtain ⟨t, h1, h⟩ := Option.bind_eq_some_iff.mp h
  have T := Aside0.mk h1
  cases t with
  | false =>
    simp only [Bool.false_eq_true, if_false, Option.some.injEq, Prod.mk.injEq] at h
    obtain ⟨rfl, rfl⟩ := h
    clear h1
    go_enter Try.func15, Try.ntmps15
    go_wp2_with (first
      | (go_at_call 24; refine (impl_IsGreen.calls k A0 c0 l0 _ _ (by repeat (first | exact Kd.C_below HR.out HB.out | (with_reducible refine Kd.C_alloc ?_ _) | (with_reducible refine Kd.C_drewN ?_ _) | (with_reducible refine Kd.C_drew ?_))) HC.out T.out).mono ?_; rintro e w1 ⟨rfl, hb1⟩; have n0_ := Aside0.mk (below_then HB.out HB.out.size hb1); clear HB; have HB := n0_; clear n0_ hb1))
    go_ret2
    exact ⟨rfl, HB.out⟩
  | true =>
    have hl := impl_grundy.fourteen h1
    simp only [if_true] at h
    obtain ⟨a, h2, h⟩ := Option.bind_eq_some_iff.mp h
    obtain ⟨s, h3, h⟩ := Option.bind_eq_some_iff.mp h
    obtain ⟨v, h4, h⟩ := Option.bind_eq_some_iff.mp h
    simp only [Option.some.injEq, Prod.mk.injEq] at h
    obtain ⟨rfl, rfl⟩ := h
    have X2 := Aside0.mk h2
    have X3 := Aside0.mk h3
    have X4 := Aside0.mk h4
    clear h1 h2 h3 h4
    go_enter Try.func15, Try.ntmps15
    go_wp2_with (first
      | (go_at_call 24; refine (impl_IsGreen.calls k A0 c0 l0 _ _ (by repeat (first | exact Kd.C_below HR.out HB.out | (with_reducible refine Kd.C_alloc ?_ _) | (with_reducible refine Kd.C_drewN ?_ _) | (with_reducible refine Kd.C_drew ?_))) HC.out T.out).mono ?_; rintro e w1 ⟨rfl, hb1⟩; have n0_ := Aside0.mk (below_then HB.out HB.out.size hb1); clear HB; have HB := n0_; clear n0_ hb1)
      | (go_at_call 31; refine (impl_all.calls A0 c0 l0 _ _ (by repeat (first | exact Kd.C_below HR.out HB.out | (with_reducible refine Kd.C_alloc ?_ _) | (with_reducible refine Kd.C_drewN ?_ _) | (with_reducible refine Kd.C_drew ?_))) HC.out X2.out).mono ?_; rintro e w2 ⟨rfl, ⟨nd, rfl⟩⟩; have n0_ := Aside0.mk (pw_below_drewN HB.out nd); clear HB; have HB := n0_; clear n0_)
      | (go_at_call 30; refine (impl_grounded.calls k A0 c0 l0 _ _ _ (by repeat (first | exact Kd.C_below HR.out HB.out | (with_reducible refine Kd.C_alloc ?_ _) | (with_reducible refine Kd.C_drewN ?_ _) | (with_reducible refine Kd.C_drew ?_))) HC.out X3.out).mono ?_; rintro e w3 ⟨rfl, hb1⟩; have n0_ := Aside0.mk (below_then HB.out HB.out.size hb1); clear HB; have HB := n0_; clear n0_ hb1)
      | (go_at_call 29; refine (impl_grundy.calls l0 A0 c0 w HR.out HC.out hl _ HB.out.size k _ _ _ (HB.out.alloc HB.out.size _) ⟨fun _ => none, Go.Proofs.Ytnkaipnnbdgkkaa.Mp.OwnK.made _ _ _ _ _ _, fun x y h => by cases h⟩ X4.out).mono ?_; rintro e w4 ⟨rfl, hM, hb1, hg1⟩; have n0_ := Aside0.mk hb1; clear HB; have HB := n0_; clear n0_ hb1))
    go_ret2
    exact ⟨rfl, HB.out⟩

end Go.Proofs.Ytnkaipnnbdgkkaa.QFnExactGrundyByPlay
