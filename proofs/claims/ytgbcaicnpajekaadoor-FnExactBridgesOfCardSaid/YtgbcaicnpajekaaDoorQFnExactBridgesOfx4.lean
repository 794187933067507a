/- The Go functions that the law FnExactBridgesOf reaches, as Lean functions, and what their calls do. Written by a program of this session. -/
import Derived.Test.YtgbcaicnpajekaaDoorQFnExactBridgesOfx0
namespace Go.Proofs.YtgbcaicnpajekaaDoor.QFnExactBridgesOf
open Go.RowKit Go.Proofs.YtgbcaicnpajekaaDoorW.PrintWords Go.Proofs.YtgbcaicnpajekaaDoorW.PrintLast Go.Proofs.YtgbcaicnpajekaaDoorW.PrintMore
attribute [local go_sem] max2_int min2_int max_two min_two max_three min_three max_four min_four   -- for this text's walks alone
set_option linter.unusedVariables false
set_option linter.unusedSimpArgs false

/-! ### impl_IsGreen: function 16 -/
theorem impl_IsGreen.enters38 (args : Array Value) (w : World) : (callFunc 25 args).run Tryd.prog w = .ok (.enter 25 args) w := enters_ Tryd.func25 rfl rfl args w
/-- What is asked of a predicate that is handed over. -/
def impl_IsGreen.PredOn (g : Nat) (lb : Array Value) (p : S38 → Bool) (l : List S38) (w : World) : Prop :=
  ∀ (W : World) (x : S38), x ∈ l → Below w.heap.size w W → Calls Tryd.prog g (#[.agg #[.int .i64 x.f0, .int .i64 x.f1]] ++ lb) W fun e w' => e = .returned (.bool (p x)) ∧ Below w.heap.size w w'
def impl_IsGreen.IdxPost (p : S38 → Bool) (l : List S38) (w : World) (e : Ending) (w' : World) : Prop :=
  ∃ r : Int, e = .returned (.int .i64 r) ∧ Below w.heap.size w w' ∧ decide (r ≥ 0) = l.any p
theorem impl_IsGreen.idx_hit {p : S38 → Bool} {l : List S38} {w w' : World} {kk : Nat} (h : kk < l.length) (hp : p l[kk] = true) (hb : Below w.heap.size w w') : impl_IsGreen.IdxPost p l w (.returned (.int .i64 (kk : Int))) w' :=
  ⟨_, rfl, hb, by
    have : l.any p = true := List.any_eq_true.2 ⟨l[kk], List.getElem_mem h, hp⟩
    rw [this]; simp⟩
theorem impl_IsGreen.idx_miss {p : S38 → Bool} {l : List S38} {w w' : World} (h : ∀ j, ∀ hj : j < l.length, p l[j] = false) (hb : Below w.heap.size w w') : impl_IsGreen.IdxPost p l w (.returned (.int .i64 (-1))) w' :=
  ⟨_, rfl, hb, by
    have : l.any p = false := by
      rw [List.any_eq_false]
      intro x hx
      obtain ⟨j, hj, rfl⟩ := List.mem_iff_getElem.1 hx
      simp [h j hj]
    rw [this]; simp⟩
set_option maxHeartbeats 400000 in
set_option maxRecDepth 100000 in
theorem impl_IsGreen.indexFunc (g : Nat) (lb : Array Value) (eg : ∀ args w, (callFunc g args).run Tryd.prog w = .ok (.enter g args) w) (p : S38 → Bool) (l : List S38) (A : Option Addr) (c : Nat) (w : World)
    (hr : Kd.C k38 w A l.length l) (hp : impl_IsGreen.PredOn g lb p l w) :
    Calls Tryd.prog 35 #[.slice A l.length c, .func (.func g) #[] lb] w (impl_IsGreen.IdxPost p l w) := by
  have hbig : l.length ≤ 9223372036854775807 := hr.2.1
  have hu38 := Tryd.underlying38
  have HR := Aside0.mk hr
  have HP := Aside0.mk hp
  clear hr hp
  go_enter Tryd.func35, Tryd.ntmps35
  go_wp2
  go_loopg [5, 8] l.length (fun gg _ s8 wr => ∃ kk : Nat, kk ≤ l.length ∧ l.length - kk ≤ gg ∧ s8 = .int .i64 kk ∧ Aside0 (Below w.heap.size w wr) ∧ Aside0 (∀ j, j < kk → ∀ hj : j < l.length, p l[j] = false))
  case atStart => exact ⟨0, Nat.zero_le _, by omega, rfl, ⟨Below.refl _ w⟩, ⟨fun j hj => absurd hj (Nat.not_lt_zero _)⟩⟩
  case round =>
    obtain ⟨kk, hkk, hg, rfl, BW, AF⟩ := hrel
    by_cases hlt : kk < l.length
    · have hltz : (kk : Int) < (l.length : Int) := by omega
      obtain ⟨ad, e0, hx0, hx1⟩ := at_T38 HR.out (kk : Int) (by omega) hltz
      cases e0
      replace hx0 := (BW.out.cell (World.block_lt_of_cell? w _ hx0)).trans hx0
      replace hx1 := (BW.out.cell (World.block_lt_of_cell? w _ hx1)).trans hx1
      have hcall := HP.out wr l[kk] (List.getElem_mem hlt) BW.out
      have hrd : rd_T38 l (kk : Int) = l[kk] := by simp [rd_T38, List.getD_eq_getElem?_getD, List.getElem?_eq_getElem hlt]
      rw [hrd] at hx0 hx1
      clear hrd
      simp only [Int.toNat_natCast] at hx0 hx1
      generalize hy : l[kk] = y at hx0 hx1 hcall
      have B : Aside0 (l[kk] = y) := ⟨hy⟩
      clear hy
      cases hq : p y with
      | true =>
        rw [hq] at hcall
        go_wp2_with (go_at_fn g; refine hcall.mono ?_; rintro e w' ⟨rfl, hb'⟩)
        go_ret
        exact impl_IsGreen.idx_hit hlt (by rw [B.out]; exact hq) hb'
      | false =>
        rw [hq] at hcall
        go_wp2_with (go_at_fn g; refine hcall.mono ?_; rintro e w' ⟨rfl, hb'⟩)
        go_roundg (l.length - (kk + 1))
        case measure => omega
        case rel =>
          refine ⟨kk + 1, by omega, by omega, by go_num, ⟨hb'⟩, ⟨fun j hj hjl => ?_⟩⟩
          by_cases e : j = kk
          · subst e
            rw [B.out]; exact hq
          · exact AF.out j (by omega) hjl
    · have hltz : ¬ (kk : Int) < (l.length : Int) := by omega
      have : kk = l.length := by omega
      go_wp2
      go_ret
      exact impl_IsGreen.idx_miss (fun j hj => AF.out j (by omega) hj) BW.out
set_option maxHeartbeats 400000 in
set_option maxRecDepth 100000 in
theorem impl_IsGreen.containsFunc (g : Nat) (lb : Array Value) (eg : ∀ args w, (callFunc g args).run Tryd.prog w = .ok (.enter g args) w) (p : S38 → Bool) (l : List S38) (A : Option Addr) (c : Nat) (w : World)
    (hr : Kd.C k38 w A l.length l) (hp : impl_IsGreen.PredOn g lb p l w) :
    Calls Tryd.prog 24 #[.slice A l.length c, .func (.func g) #[] lb] w fun e w' => e = .returned (.bool (l.any p)) ∧ Below w.heap.size w w' := by
  have e62 : ∀ args w, (callFunc 35 args).run Tryd.prog w = .ok (.enter 35 args) w := fun args w => enters_ Tryd.func35 rfl rfl args w
  have HR := Aside0.mk hr
  have HP := Aside0.mk hp
  clear hr hp
  go_enter Tryd.func24, Tryd.ntmps24
  go_wp2_with (go_at_fn 35; refine (impl_IsGreen.indexFunc g lb eg p l A c _ HR.out HP.out).mono ?_; rintro e w' ⟨r, rfl, hb', hd⟩)
  go_ret
  exact ⟨rfl, hb'⟩
def impl_IsGreen.inK (x : Int) : Bool := decide (0 ≤ x ∧ x ≤ 12)
def impl_IsGreen.bad (x : S38) : Bool := !impl_IsGreen.inK x.f0 || !impl_IsGreen.inK x.f1
theorem impl_IsGreen.inN (x lo hi : Int) (w : World) : Calls Tryd.prog 26 #[.int .i64 x, .int .i64 lo, .int .i64 hi] w fun e w' => e = .returned (.bool (decide (lo ≤ x ∧ x ≤ hi))) ∧ w = w' := by
  by_cases h1 : lo ≤ x
  · have c1 : decide (lo ≤ x) = true := decide_eq_true h1
    have c2 : decide (lo ≤ x ∧ x ≤ hi) = decide (x ≤ hi) := by simp [h1]
    rw [c2]
    clear c2 h1
    go_enter Tryd.func26, Tryd.ntmps26
    go_wp2
    go_ret
    exact ⟨rfl, rfl⟩
  · have c1 : decide (lo ≤ x) = false := decide_eq_false h1
    have c2 : decide (lo ≤ x ∧ x ≤ hi) = false := by simp [h1]
    rw [c2]
    clear c2 h1
    go_enter Tryd.func26, Tryd.ntmps26
    go_wp2
    go_ret
    exact ⟨rfl, rfl⟩
theorem impl_IsGreen.inC (x : Int) (b : Bool) (hb : impl_IsGreen.inK x = b) (w : World) : Calls Tryd.prog 26 #[.int .i64 x, .int .i64 0, .int .i64 12] w fun e w' => e = .returned (.bool b) ∧ w = w' := by
  rw [← hb]
  exact impl_IsGreen.inN x 0 12 w
set_option maxHeartbeats 400000 in
set_option maxRecDepth 100000 in
theorem impl_IsGreen.isGreen1 (x y : Int) (w : World) : Calls Tryd.prog 25 #[.agg #[.int .i64 x, .int .i64 y]] w fun e w' => e = .returned (.bool (impl_IsGreen.bad ⟨x, y⟩)) ∧ Below w.heap.size w w' := by
  have e39 : ∀ args w, (callFunc 26 args).run Tryd.prog w = .ok (.enter 26 args) w := fun args w => enters_ Tryd.func26 rfl rfl args w
  have hu38 := Tryd.underlying38
  have hB : Below w.heap.size w (w.alloc (.cells #[.int .i64 x, .int .i64 y] 38)) := (Below.refl _ _).alloc (Nat.le_refl _) _
  cases hx : impl_IsGreen.inK x with
  | true =>
    cases hy : impl_IsGreen.inK y with
    | true =>
      rw [show impl_IsGreen.bad ⟨x, y⟩ = false from by simp [impl_IsGreen.bad, hx, hy]]
      have X := Aside0.mk hx
      have Y := Aside0.mk hy
      clear hx hy
      go_enter Tryd.func25, Tryd.ntmps25
      go_wp2_with (go_at_fn 26; first | ((with_reducible refine (impl_IsGreen.inC x _ X.out _).mono ?_); rintro e w' ⟨rfl, rfl⟩) | ((with_reducible refine (impl_IsGreen.inC y _ Y.out _).mono ?_); rintro e w' ⟨rfl, rfl⟩))
      go_ret
      exact ⟨rfl, hB⟩
    | false =>
      rw [show impl_IsGreen.bad ⟨x, y⟩ = true from by simp [impl_IsGreen.bad, hx, hy]]
      have X := Aside0.mk hx
      have Y := Aside0.mk hy
      clear hx hy
      go_enter Tryd.func25, Tryd.ntmps25
      go_wp2_with (go_at_fn 26; first | ((with_reducible refine (impl_IsGreen.inC x _ X.out _).mono ?_); rintro e w' ⟨rfl, rfl⟩) | ((with_reducible refine (impl_IsGreen.inC y _ Y.out _).mono ?_); rintro e w' ⟨rfl, rfl⟩))
      go_ret
      exact ⟨rfl, hB⟩
  | false =>
    rw [show impl_IsGreen.bad ⟨x, y⟩ = true from by simp [impl_IsGreen.bad, hx]]
    have X := Aside0.mk hx
    clear hx
    go_enter Tryd.func25, Tryd.ntmps25
    go_wp2_with (go_at_fn 26; first | ((with_reducible refine (impl_IsGreen.inC x _ X.out _).mono ?_); rintro e w' ⟨rfl, rfl⟩))
    go_ret
    exact ⟨rfl, hB⟩
set_option maxHeartbeats 400000 in
set_option maxRecDepth 100000 in
theorem impl_IsGreen.isGreen (A : Option Addr) (c : Nat) (l : List S38) (w : World) (hr : Kd.C k38 w A l.length l) :
    Calls Tryd.prog 16 #[.slice A l.length c] w fun e w' => e = .returned (.bool (decide (l.length ≤ 14) && !l.any impl_IsGreen.bad)) ∧ Below w.heap.size w w' := by
  have e37 : ∀ args w, (callFunc 24 args).run Tryd.prog w = .ok (.enter 24 args) w := fun args w => enters_ Tryd.func24 rfl rfl args w
  have HR := Aside0.mk hr
  have HP := Aside0.mk (show impl_IsGreen.PredOn 25 #[] impl_IsGreen.bad l w from fun W x _ hb => (impl_IsGreen.isGreen1 x.f0 x.f1 W).mono fun e w' ⟨h1, h2⟩ => ⟨h1, below_then hb hb.size h2⟩)
  clear hr
  by_cases h14 : l.length ≤ 14
  · have c1 : decide ((l.length : Int) ≤ 14) = true := decide_eq_true (by omega)
    rw [show decide (l.length ≤ 14) = true from decide_eq_true h14, Bool.true_and]
    go_enter Tryd.func16, Tryd.ntmps16
    go_wp2_with (go_at_fn 24; refine (impl_IsGreen.containsFunc 25 #[] impl_IsGreen.enters38 impl_IsGreen.bad l A c _ HR.out HP.out).mono ?_; rintro e w' ⟨rfl, hb'⟩)
    go_ret
    exact ⟨rfl, hb'⟩
  · have c1 : decide ((l.length : Int) ≤ 14) = false := decide_eq_false (by omega)
    rw [show decide (l.length ≤ 14) = false from decide_eq_false h14, Bool.false_and]
    go_enter Tryd.func16, Tryd.ntmps16
    go_wp2
    go_ret
    exact ⟨rfl, Below.refl _ _⟩

def impl_IsGreen.f (k : Nat) (l0 : List (S38)) : Option (Bool) := some (decide (l0.length ≤ 14) && !l0.any impl_IsGreen.bad)
theorem impl_IsGreen.mono : ∀ a0 k, LeO (impl_IsGreen.f k a0) (impl_IsGreen.f (k + 1) a0) := fun _ _ => LeO.refl _
theorem impl_IsGreen.calls (k : Nat) (A0 : Option Addr) (c0 : Nat) (l0 : List (S38)) (r : Bool) (w : World) (hr0 : Kd.C k38 w A0 l0.length l0) (hc0 : l0.length ≤ c0) (h : impl_IsGreen.f k l0 = some r) :
    Calls Tryd.prog 16 #[.slice A0 l0.length c0] w fun e w' => e = .returned (.bool r) ∧ Below w.heap.size w w' := by
  obtain rfl := Option.some.inj h
  exact impl_IsGreen.isGreen A0 c0 l0 w hr0

/-! ### impl_grounded: function 27 -/
mutual
def impl_grounded.l0 : Nat → List (S38) → Int → Int → Int → Int → Int → Option (Int)
  | 0, _, _, _, _, _, _ => none
  | k + 1, x0, x1, x5, x6, x11, x12 => if x12 < x11 then (impl_grounded.l1 k x0 x1 x5 x6 x11 x12 x0 (x0.length : Int) 0) else (some x6)
def impl_grounded.l1 : Nat → List (S38) → Int → Int → Int → Int → Int → List (S38) → Int → Int → Option (Int)
  | 0, _, _, _, _, _, _, _, _, _ => none
  | k + 1, x0, x1, x5, x6, x11, x12, x14, x15, x16 => if x16 < x15 then (if 0 ≤ x16 then (if x16 < (x14.length : Int) then (if (Go.bits .and .u64 (shr .u64 x1 x16) 1) = 1 then (if 0 ≤ ((rd_T38 x14 x16).f0) then (if (Go.bits .and .u64 (shr .u64 x5 ((rd_T38 x14 x16).f0)) 1) = 1 then (if 0 ≤ ((rd_T38 x14 x16).f1) then (impl_grounded.l1 k x0 x1 (Go.bits .or .u64 x5 (Go.bits .or .u64 (shl .u64 1 ((rd_T38 x14 x16).f0)) (shl .u64 1 ((rd_T38 x14 x16).f1)))) (Go.bits .or .u64 x6 (shl .u64 1 x16)) x11 x12 x14 x15 (wrap64 (x16 + 1))) else (none)) else (if 0 ≤ ((rd_T38 x14 x16).f1) then (if (Go.bits .and .u64 (shr .u64 x5 ((rd_T38 x14 x16).f1)) 1) = 1 then (impl_grounded.l1 k x0 x1 (Go.bits .or .u64 x5 (Go.bits .or .u64 (shl .u64 1 ((rd_T38 x14 x16).f0)) (shl .u64 1 ((rd_T38 x14 x16).f1)))) (Go.bits .or .u64 x6 (shl .u64 1 x16)) x11 x12 x14 x15 (wrap64 (x16 + 1))) else (impl_grounded.l1 k x0 x1 x5 x6 x11 x12 x14 x15 (wrap64 (x16 + 1)))) else (none))) else (none)) else (impl_grounded.l1 k x0 x1 x5 x6 x11 x12 x14 x15 (wrap64 (x16 + 1)))) else (none)) else (none)) else (impl_grounded.l0 k x0 x1 x5 x6 x11 (wrap64 (x12 + 1)))
end
def impl_grounded.f (k : Nat) (l0 : List (S38)) (a1 : Int) : Option (Int) := impl_grounded.l0 k l0 a1 1 0 (wrap64 ((l0.length : Int) + 1)) 0
theorem impl_grounded.mono_l : ∀ k, (∀ y0 y1 y2 y3 y4 y5, LeO (impl_grounded.l0 k y0 y1 y2 y3 y4 y5) (impl_grounded.l0 (k + 1) y0 y1 y2 y3 y4 y5)) ∧ (∀ y0 y1 y2 y3 y4 y5 y6 y7 y8, LeO (impl_grounded.l1 k y0 y1 y2 y3 y4 y5 y6 y7 y8) (impl_grounded.l1 (k + 1) y0 y1 y2 y3 y4 y5 y6 y7 y8))
  | 0 => ⟨fun _ _ _ _ _ _ r h => by simp [impl_grounded.l0] at h, fun _ _ _ _ _ _ _ _ _ r h => by simp [impl_grounded.l1] at h⟩
  | k + 1 => by
    obtain ⟨ih0, ih1⟩ := impl_grounded.mono_l k
    refine ⟨?_, ?_⟩
    · intro y0 y1 y2 y3 y4 y5
      unfold impl_grounded.l0
      repeat' first
      | (with_reducible exact ih0 _ _ _ _ _ _)
      | (with_reducible exact ih1 _ _ _ _ _ _ _ _ _)
      | (with_reducible exact LeO.refl _)
      | (with_reducible exact LeO.none _)
      | (with_reducible refine LeO.ite ?_ ?_)
      | (with_reducible refine LeO.bind ?_ (fun _ => ?_))
      | exact ih0 _ _ _ _ _ _
      | exact ih1 _ _ _ _ _ _ _ _ _
      | exact LeO.none _
      | refine LeO.ite ?_ ?_
      | refine LeO.bind ?_ (fun _ => ?_)
    · intro y0 y1 y2 y3 y4 y5 y6 y7 y8
      unfold impl_grounded.l1
      repeat' first
      | (with_reducible exact ih0 _ _ _ _ _ _)
      | (with_reducible exact ih1 _ _ _ _ _ _ _ _ _)
      | (with_reducible exact LeO.refl _)
      | (with_reducible exact LeO.none _)
      | (with_reducible refine LeO.ite ?_ ?_)
      | (with_reducible refine LeO.bind ?_ (fun _ => ?_))
      | exact ih0 _ _ _ _ _ _
      | exact ih1 _ _ _ _ _ _ _ _ _
      | exact LeO.none _
      | refine LeO.ite ?_ ?_
      | refine LeO.bind ?_ (fun _ => ?_)
theorem impl_grounded.mono : ∀ a0 a1 k, LeO (impl_grounded.f k a0 a1) (impl_grounded.f (k + 1) a0 a1) := by
  intro a0 a1 k
  obtain ⟨ih0, ih1⟩ := impl_grounded.mono_l k
  unfold impl_grounded.f
  repeat' first
      | (with_reducible exact ih0 _ _ _ _ _ _)
      | (with_reducible exact ih1 _ _ _ _ _ _ _ _ _)
      | (with_reducible exact LeO.refl _)
      | (with_reducible exact LeO.none _)
      | (with_reducible refine LeO.ite ?_ ?_)
      | (with_reducible refine LeO.bind ?_ (fun _ => ?_))
      | exact ih0 _ _ _ _ _ _
      | exact ih1 _ _ _ _ _ _ _ _ _
      | exact LeO.none _
      | refine LeO.ite ?_ ?_
      | refine LeO.bind ?_ (fun _ => ?_)
set_option maxHeartbeats 8000000 in
set_option maxRecDepth 100000 in
theorem impl_grounded.calls (k : Nat) (A0 : Option Addr) (c0 : Nat) (l0 : List (S38)) (a1 : Int) (r : Int) (w : World) (hr0 : Kd.C k38 w A0 l0.length l0) (hc0 : l0.length ≤ c0) (h : impl_grounded.f k l0 a1 = some r) :
    Calls Tryd.prog 27 #[.slice A0 l0.length c0, .int .u64 a1] w fun e w' => e = .returned (.int .u64 r) ∧ Below w.heap.size w w' := by
  have hu38 := Tryd.underlying38
  have HR0 := Aside0.mk hr0
  have HC0 := Aside0.mk hc0
  clear hr0 hc0
  have HB := Aside0.mk (Below.refl w.heap.size w)
  have H : (impl_grounded.l0 k l0 a1 1 0 (wrap64 ((l0.length : Int) + 1)) 0) = some r := h
  clear h
  have H' := Aside0.mk H
  clear H
  go_enter Tryd.func27, Tryd.ntmps27
  go_wp2
  repeat (go_quiet (fail); try go_wp2)
  go_loopg [5, 6, 12] k (fun kq v5 v6 v12 w' => ∃ (x5_1 : Int) (x6_1 : Int) (x12_1 : Int), v5 = .int .u64 x5_1 ∧ v6 = .int .u64 x6_1 ∧ v12 = .int .i64 x12_1 ∧ Aside0 (impl_grounded.l0 kq l0 a1 x5_1 x6_1 (wrap64 ((l0.length : Int) + 1)) x12_1 = some r) ∧ Aside0 (kq ≤ k) ∧ Aside0 (Below w.heap.size w w'))
  case atStart => exact ⟨(1), (0), (0), (by first | rfl | (simp; done) | (simp [*]; done)), (by first | rfl | (simp; done) | (simp [*]; done)), (by first | rfl | (simp; done) | (simp [*]; done)), H', ⟨Nat.le_refl _⟩, ⟨by repeat (first | (with_reducible first | exact HB.out | apply below_alloc | apply pw_below_drewN | apply below_drew1) | exact HB.out)⟩⟩
  case round =>
    clear H'
    try clear c2
    try clear p2
    obtain ⟨x5_1, x6_1, x12_1, rfl, rfl, rfl, HA, HK1, HB⟩ := hrel
    cases gk with
    | zero => exact absurd HA.out (by simp [impl_grounded.l0])
    | succ k1 =>
      have H := HA.out
      clear HA
      simp only [impl_grounded.l0] at H
      by_cases c3 : x12_1 < (wrap64 ((l0.length : Int) + 1))
      · rw [if_pos c3] at H
        have c3b0 : decide (x12_1 < (wrap64 ((l0.length : Int) + 1))) = true := decide_eq_true c3
        clear c3
        have H' := Aside0.mk H
        clear H
        go_wp2
        repeat (go_quiet (fail); try go_wp2)
        go_loopg [5, 6, 16] k1 (fun kq v5 v6 v16 w' => ∃ (x5_2 : Int) (x6_2 : Int) (x16_2 : Int), v5 = .int .u64 x5_2 ∧ v6 = .int .u64 x6_2 ∧ v16 = .int .i64 x16_2 ∧ Aside0 (impl_grounded.l1 kq l0 a1 x5_2 x6_2 (wrap64 ((l0.length : Int) + 1)) x12_1 l0 (l0.length : Int) x16_2 = some r) ∧ Aside0 (kq ≤ k1) ∧ Aside0 (Below w.heap.size w w'))
        case atStart => exact ⟨(x5_1), (x6_1), (0), (by first | rfl | (simp; done) | (simp [*]; done)), (by first | rfl | (simp; done) | (simp [*]; done)), (by first | rfl | (simp; done) | (simp [*]; done)), H', ⟨Nat.le_refl _⟩, ⟨by repeat (first | (with_reducible first | exact HB.out | apply below_alloc | apply pw_below_drewN | apply below_drew1) | exact HB.out)⟩⟩
        case round =>
          clear H'
          try clear c2
          try clear p2
          try clear c3
          try clear c3b0
          try clear p2
          obtain ⟨x5_2, x6_2, x16_2, rfl, rfl, rfl, HA, HK2, HB⟩ := hrel
          cases gk with
          | zero => exact absurd HA.out (by simp [impl_grounded.l1])
          | succ k2 =>
            have H := HA.out
            clear HA
            simp only [impl_grounded.l1] at H
            by_cases c4 : x16_2 < (l0.length : Int)
            · rw [if_pos c4] at H
              have c4b0 : decide (x16_2 < (l0.length : Int)) = true := decide_eq_true c4
              clear c4
              by_cases c5 : 0 ≤ x16_2
              · rw [if_pos c5] at H
                have c5b0 : decide (0 ≤ x16_2) = true := decide_eq_true c5
                clear c5
                by_cases c6 : x16_2 < (l0.length : Int)
                · rw [if_pos c6] at H
                  have c6b0 : decide (x16_2 < (l0.length : Int)) = true := decide_eq_true c6
                  clear c6
                  have c7b0 := eq_true (of_decide_eq_true (by first | (with_reducible assumption) | assumption) : 0 ≤ x16_2)
                  obtain ⟨ji8, hji8⟩ : ∃ j_ : Int, (shr .u64 a1 x16_2) = j_ := ⟨_, rfl⟩
                  replace H : (if (Go.bits .and .u64 (ji8) 1) = 1 then (if 0 ≤ ((rd_T38 l0 x16_2).f0) then (if (Go.bits .and .u64 (shr .u64 x5_2 ((rd_T38 l0 x16_2).f0)) 1) = 1 then (if 0 ≤ ((rd_T38 l0 x16_2).f1) then (impl_grounded.l1 k2 l0 a1 (Go.bits .or .u64 x5_2 (Go.bits .or .u64 (shl .u64 1 ((rd_T38 l0 x16_2).f0)) (shl .u64 1 ((rd_T38 l0 x16_2).f1)))) (Go.bits .or .u64 x6_2 (shl .u64 1 x16_2)) (wrap64 ((l0.length : Int) + 1)) x12_1 l0 (l0.length : Int) (wrap64 (x16_2 + 1))) else (none)) else (if 0 ≤ ((rd_T38 l0 x16_2).f1) then (if (Go.bits .and .u64 (shr .u64 x5_2 ((rd_T38 l0 x16_2).f1)) 1) = 1 then (impl_grounded.l1 k2 l0 a1 (Go.bits .or .u64 x5_2 (Go.bits .or .u64 (shl .u64 1 ((rd_T38 l0 x16_2).f0)) (shl .u64 1 ((rd_T38 l0 x16_2).f1)))) (Go.bits .or .u64 x6_2 (shl .u64 1 x16_2)) (wrap64 ((l0.length : Int) + 1)) x12_1 l0 (l0.length : Int) (wrap64 (x16_2 + 1))) else (impl_grounded.l1 k2 l0 a1 x5_2 x6_2 (wrap64 ((l0.length : Int) + 1)) x12_1 l0 (l0.length : Int) (wrap64 (x16_2 + 1)))) else (none))) else (none)) else (impl_grounded.l1 k2 l0 a1 x5_2 x6_2 (wrap64 ((l0.length : Int) + 1)) x12_1 l0 (l0.length : Int) (wrap64 (x16_2 + 1)))) = some r := by first | (rw [hji8] at H; exact H) | (simp only [hji8] at H ⊢; exact H)
                  have hji8_ : (a1 / 2 ^ min x16_2.toNat 64) = ji8 := hji8
                  have hji8z : x16_2 ≤ 64 → (a1 / 2 ^ x16_2.toNat) = ji8 := shr_small hji8
                  by_cases c9 : (Go.bits .and .u64 (ji8) 1) = 1
                  · rw [if_pos c9] at H
                    have c9b0 : ((Go.bits .and .u64 (ji8) 1) == 1) = true := beq_iff_eq.mpr c9
                    have c9b1 : ((Go.bits .and .u64 (ji8) 1) != 1) = false := bne_eq_false_iff_eq.mpr c9
                    clear c9
                    by_cases c10 : 0 ≤ ((rd_T38 l0 x16_2).f0)
                    · rw [if_pos c10] at H
                      have c10b0 := eq_true c10
                      have c10b1 : decide (0 ≤ ((rd_T38 l0 x16_2).f0)) = true := decide_eq_true c10
                      clear c10
                      obtain ⟨ji11, hji11⟩ : ∃ j_ : Int, (shr .u64 x5_2 ((rd_T38 l0 x16_2).f0)) = j_ := ⟨_, rfl⟩
                      replace H : (if (Go.bits .and .u64 (ji11) 1) = 1 then (if 0 ≤ ((rd_T38 l0 x16_2).f1) then (impl_grounded.l1 k2 l0 a1 (Go.bits .or .u64 x5_2 (Go.bits .or .u64 (shl .u64 1 ((rd_T38 l0 x16_2).f0)) (shl .u64 1 ((rd_T38 l0 x16_2).f1)))) (Go.bits .or .u64 x6_2 (shl .u64 1 x16_2)) (wrap64 ((l0.length : Int) + 1)) x12_1 l0 (l0.length : Int) (wrap64 (x16_2 + 1))) else (none)) else (if 0 ≤ ((rd_T38 l0 x16_2).f1) then (if (Go.bits .and .u64 (shr .u64 x5_2 ((rd_T38 l0 x16_2).f1)) 1) = 1 then (impl_grounded.l1 k2 l0 a1 (Go.bits .or .u64 x5_2 (Go.bits .or .u64 (shl .u64 1 ((rd_T38 l0 x16_2).f0)) (shl .u64 1 ((rd_T38 l0 x16_2).f1)))) (Go.bits .or .u64 x6_2 (shl .u64 1 x16_2)) (wrap64 ((l0.length : Int) + 1)) x12_1 l0 (l0.length : Int) (wrap64 (x16_2 + 1))) else (impl_grounded.l1 k2 l0 a1 x5_2 x6_2 (wrap64 ((l0.length : Int) + 1)) x12_1 l0 (l0.length : Int) (wrap64 (x16_2 + 1)))) else (none))) = some r := by first | (rw [hji11] at H; exact H) | (simp only [hji11] at H ⊢; exact H)
                      have hji11_ : (x5_2 / 2 ^ min ((rd_T38 l0 x16_2).f0).toNat 64) = ji11 := hji11
                      have hji11z : ((rd_T38 l0 x16_2).f0) ≤ 64 → (x5_2 / 2 ^ ((rd_T38 l0 x16_2).f0).toNat) = ji11 := shr_small hji11
                      by_cases c12 : (Go.bits .and .u64 (ji11) 1) = 1
                      · rw [if_pos c12] at H
                        have c12b0 : ((Go.bits .and .u64 (ji11) 1) == 1) = true := beq_iff_eq.mpr c12
                        have c12b1 : ((Go.bits .and .u64 (ji11) 1) != 1) = false := bne_eq_false_iff_eq.mpr c12
                        clear c12
                        have c13b0 := eq_true (of_decide_eq_true (by first | (with_reducible assumption) | assumption) : 0 ≤ ((rd_T38 l0 x16_2).f0))
                        obtain ⟨ji14, hji14⟩ : ∃ j_ : Int, (shl .u64 1 ((rd_T38 l0 x16_2).f0)) = j_ := ⟨_, rfl⟩
                        replace H : (if 0 ≤ ((rd_T38 l0 x16_2).f1) then (impl_grounded.l1 k2 l0 a1 (Go.bits .or .u64 x5_2 (Go.bits .or .u64 (ji14) (shl .u64 1 ((rd_T38 l0 x16_2).f1)))) (Go.bits .or .u64 x6_2 (shl .u64 1 x16_2)) (wrap64 ((l0.length : Int) + 1)) x12_1 l0 (l0.length : Int) (wrap64 (x16_2 + 1))) else (none)) = some r := by first | (rw [hji14] at H; exact H) | (simp only [hji14] at H ⊢; exact H)
                        have hji14_ : (IntKind.u64.wrap (1 * 2 ^ min ((rd_T38 l0 x16_2).f0).toNat 64)) = ji14 := hji14
                        have hji14z : ((rd_T38 l0 x16_2).f0) ≤ 64 → (IntKind.u64.wrap (1 * 2 ^ ((rd_T38 l0 x16_2).f0).toNat)) = ji14 := shl_small hji14
                        have hji14u : (IntKind.u64.wrap (2 ^ min ((rd_T38 l0 x16_2).f0).toNat 64)) = ji14 := by have h_ := hji14_; rw [Int.one_mul] at h_; exact h_
                        have hji14v : ((rd_T38 l0 x16_2).f0) ≤ 64 → (IntKind.u64.wrap (2 ^ ((rd_T38 l0 x16_2).f0).toNat)) = ji14 := fun hle_ => by have h_ := hji14z hle_; rw [Int.one_mul] at h_; exact h_
                        by_cases c15 : 0 ≤ ((rd_T38 l0 x16_2).f1)
                        · rw [if_pos c15] at H
                          have c15b0 := eq_true c15
                          have c15b1 : decide (0 ≤ ((rd_T38 l0 x16_2).f1)) = true := decide_eq_true c15
                          clear c15
                          obtain ⟨ji16, hji16⟩ : ∃ j_ : Int, (shl .u64 1 ((rd_T38 l0 x16_2).f1)) = j_ := ⟨_, rfl⟩
                          replace H : (impl_grounded.l1 k2 l0 a1 (Go.bits .or .u64 x5_2 (Go.bits .or .u64 (ji14) (ji16))) (Go.bits .or .u64 x6_2 (shl .u64 1 x16_2)) (wrap64 ((l0.length : Int) + 1)) x12_1 l0 (l0.length : Int) (wrap64 (x16_2 + 1))) = some r := by first | (rw [hji16] at H; exact H) | (simp only [hji16] at H ⊢; exact H)
                          have hji16_ : (IntKind.u64.wrap (1 * 2 ^ min ((rd_T38 l0 x16_2).f1).toNat 64)) = ji16 := hji16
                          have hji16z : ((rd_T38 l0 x16_2).f1) ≤ 64 → (IntKind.u64.wrap (1 * 2 ^ ((rd_T38 l0 x16_2).f1).toNat)) = ji16 := shl_small hji16
                          have hji16u : (IntKind.u64.wrap (2 ^ min ((rd_T38 l0 x16_2).f1).toNat 64)) = ji16 := by have h_ := hji16_; rw [Int.one_mul] at h_; exact h_
                          have hji16v : ((rd_T38 l0 x16_2).f1) ≤ 64 → (IntKind.u64.wrap (2 ^ ((rd_T38 l0 x16_2).f1).toNat)) = ji16 := fun hle_ => by have h_ := hji16z hle_; rw [Int.one_mul] at h_; exact h_
                          have c17b0 := eq_true (of_decide_eq_true (by first | (with_reducible assumption) | assumption) : 0 ≤ x16_2)
                          obtain ⟨ji18, hji18⟩ : ∃ j_ : Int, (shl .u64 1 x16_2) = j_ := ⟨_, rfl⟩
                          replace H : (impl_grounded.l1 k2 l0 a1 (Go.bits .or .u64 x5_2 (Go.bits .or .u64 (ji14) (ji16))) (Go.bits .or .u64 x6_2 (ji18)) (wrap64 ((l0.length : Int) + 1)) x12_1 l0 (l0.length : Int) (wrap64 (x16_2 + 1))) = some r := by first | (rw [hji18] at H; exact H) | (simp only [hji18] at H ⊢; exact H)
                          have hji18_ : (IntKind.u64.wrap (1 * 2 ^ min x16_2.toNat 64)) = ji18 := hji18
                          have hji18z : x16_2 ≤ 64 → (IntKind.u64.wrap (1 * 2 ^ x16_2.toNat)) = ji18 := shl_small hji18
                          have hji18u : (IntKind.u64.wrap (2 ^ min x16_2.toNat 64)) = ji18 := by have h_ := hji18_; rw [Int.one_mul] at h_; exact h_
                          have hji18v : x16_2 ≤ 64 → (IntKind.u64.wrap (2 ^ x16_2.toNat)) = ji18 := fun hle_ => by have h_ := hji18z hle_; rw [Int.one_mul] at h_; exact h_
                          have H' := Aside0.mk H
                          clear H
                          have p193 : 0 ≤ (x16_2 : Int) := of_decide_eq_true (by first | (with_reducible assumption) | assumption)
                          have q193 : x16_2 < (l0.length : Int) := of_decide_eq_true (by first | (with_reducible assumption) | assumption)
                          obtain ⟨ad193, e193, hx193_0, hx193_1⟩ := at_T38 HR0.out x16_2 p193 q193
                          cases e193
                          replace hx193_0 := (HB.out.cell (World.block_lt_of_cell? w _ hx193_0)).trans hx193_0
                          replace hx193_1 := (HB.out.cell (World.block_lt_of_cell? w _ hx193_1)).trans hx193_1
                          replace p193 := eq_true p193
                          replace q193 := eq_true q193
                          go_wp2_with (first | ((with_reducible refine gate_dst (N := 8) rfl ?_); refine box_event ?hg (N := 8) ?hd (cs := #[.int .i64 0, .int .i64 0]) (t := 38) ?hr ?_; (case hd => rfl); (case hg => rfl); (case hr => first | (go_simp; done) | (go_simp; rfl)); intro gb194 hg w19 hbox hb; have n0_ := Aside0.mk (below_step (by repeat (first | (with_reducible first | exact HB.out | apply below_alloc | apply pw_below_drewN | apply below_drew1) | exact HB.out)) hb); have n1_ := Aside0.mk (hbox); have n2_ := Aside0.mk ((by rw [hg]; exact (below_size (by repeat (first | (with_reducible first | exact HB.out | apply below_alloc | apply pw_below_drewN | apply below_drew1) | exact HB.out))) : w.heap.size ≤ gb194)); have n3_ := Aside0.mk ((by rw [hg]; exact (below_size (by repeat (first | (with_reducible first | exact HB.out | apply below_alloc | apply pw_below_drewN | apply below_drew1) | exact HB.out))) : w.heap.size ≤ gb194)); clear HB; have HB := n0_; have BK194 := n1_; have GW194 := n2_; have GE194 := n3_; clear n0_ n1_ n2_ n3_; clear hb hbox hg; have hcz20_0 : w19.cell? ⟨gb194, 0, none⟩ = some (.int .i64 0) := (blk_cell BK194.out 0).trans rfl; have hcz20_1 : w19.cell? ⟨gb194, 1, none⟩ = some (.int .i64 0) := (blk_cell BK194.out 1).trans rfl; have hfz20_0 := blk_frozen BK194.out 0; have hfz20_1 := blk_frozen BK194.out 1))
                          repeat (go_quiet (first | ((with_reducible refine gate_dst (N := 8) rfl ?_); refine box_event ?hg (N := 8) ?hd (cs := #[.int .i64 0, .int .i64 0]) (t := 38) ?hr ?_; (case hd => rfl); (case hg => rfl); (case hr => first | (go_simp; done) | (go_simp; rfl)); intro gb194 hg w19 hbox hb; have n0_ := Aside0.mk (below_step (by repeat (first | (with_reducible first | exact HB.out | apply below_alloc | apply pw_below_drewN | apply below_drew1) | exact HB.out)) hb); have n1_ := Aside0.mk (hbox); have n2_ := Aside0.mk ((by rw [hg]; exact (below_size (by repeat (first | (with_reducible first | exact HB.out | apply below_alloc | apply pw_below_drewN | apply below_drew1) | exact HB.out))) : w.heap.size ≤ gb194)); have n3_ := Aside0.mk ((by rw [hg]; exact (below_size (by repeat (first | (with_reducible first | exact HB.out | apply below_alloc | apply pw_below_drewN | apply below_drew1) | exact HB.out))) : w.heap.size ≤ gb194)); clear HB; have HB := n0_; have BK194 := n1_; have GW194 := n2_; have GE194 := n3_; clear n0_ n1_ n2_ n3_; clear hb hbox hg; have hcz20_0 : w19.cell? ⟨gb194, 0, none⟩ = some (.int .i64 0) := (blk_cell BK194.out 0).trans rfl; have hcz20_1 : w19.cell? ⟨gb194, 1, none⟩ = some (.int .i64 0) := (blk_cell BK194.out 1).trans rfl; have hfz20_0 := blk_frozen BK194.out 0; have hfz20_1 := blk_frozen BK194.out 1)); try go_wp2_with (first | ((with_reducible refine gate_dst (N := 8) rfl ?_); refine box_event ?hg (N := 8) ?hd (cs := #[.int .i64 0, .int .i64 0]) (t := 38) ?hr ?_; (case hd => rfl); (case hg => rfl); (case hr => first | (go_simp; done) | (go_simp; rfl)); intro gb194 hg w19 hbox hb; have n0_ := Aside0.mk (below_step (by repeat (first | (with_reducible first | exact HB.out | apply below_alloc | apply pw_below_drewN | apply below_drew1) | exact HB.out)) hb); have n1_ := Aside0.mk (hbox); have n2_ := Aside0.mk ((by rw [hg]; exact (below_size (by repeat (first | (with_reducible first | exact HB.out | apply below_alloc | apply pw_below_drewN | apply below_drew1) | exact HB.out))) : w.heap.size ≤ gb194)); have n3_ := Aside0.mk ((by rw [hg]; exact (below_size (by repeat (first | (with_reducible first | exact HB.out | apply below_alloc | apply pw_below_drewN | apply below_drew1) | exact HB.out))) : w.heap.size ≤ gb194)); clear HB; have HB := n0_; have BK194 := n1_; have GW194 := n2_; have GE194 := n3_; clear n0_ n1_ n2_ n3_; clear hb hbox hg; have hcz20_0 : w19.cell? ⟨gb194, 0, none⟩ = some (.int .i64 0) := (blk_cell BK194.out 0).trans rfl; have hcz20_1 : w19.cell? ⟨gb194, 1, none⟩ = some (.int .i64 0) := (blk_cell BK194.out 1).trans rfl; have hfz20_0 := blk_frozen BK194.out 0; have hfz20_1 := blk_frozen BK194.out 1)))
                          go_roundg k2
                          case measure => have := HK1.out; have := HK2.out; omega
                          case rel => exact ⟨(Go.bits .or .u64 x5_2 (Go.bits .or .u64 (ji14) (ji16))), (Go.bits .or .u64 x6_2 (ji18)), (wrap64 (x16_2 + 1)), (by first | rfl | (simp; done) | (simp only [← hji14, ← hji16] <;> (first | rfl | simp)) | (simp [*]; done)), (by first | rfl | (simp; done) | (simp only [← hji18] <;> (first | rfl | simp)) | (simp [*]; done)), (by first | rfl | (simp; done) | (simp [*]; done)), H', ⟨by have := HK1.out; have := HK2.out; omega⟩, ⟨by repeat (first | (with_reducible first | exact HB.out | apply below_alloc | apply pw_below_drewN | apply below_drew1 | refine below_set ?_ GE194.out) | exact HB.out)⟩⟩
                        · rw [if_neg c15] at H
                          exact absurd H (by simp)
                      · rw [if_neg c12] at H
                        have c12b0 : ((Go.bits .and .u64 (ji11) 1) == 1) = false := beq_eq_false_iff_ne.mpr c12
                        have c12b1 : ((Go.bits .and .u64 (ji11) 1) != 1) = true := bne_iff_ne.mpr c12
                        by_cases c21 : 0 ≤ ((rd_T38 l0 x16_2).f1)
                        · rw [if_pos c21] at H
                          have c21b0 := eq_true c21
                          have c21b1 : decide (0 ≤ ((rd_T38 l0 x16_2).f1)) = true := decide_eq_true c21
                          clear c21
                          obtain ⟨ji22, hji22⟩ : ∃ j_ : Int, (shr .u64 x5_2 ((rd_T38 l0 x16_2).f1)) = j_ := ⟨_, rfl⟩
                          replace H : (if (Go.bits .and .u64 (ji22) 1) = 1 then (impl_grounded.l1 k2 l0 a1 (Go.bits .or .u64 x5_2 (Go.bits .or .u64 (shl .u64 1 ((rd_T38 l0 x16_2).f0)) (shl .u64 1 ((rd_T38 l0 x16_2).f1)))) (Go.bits .or .u64 x6_2 (shl .u64 1 x16_2)) (wrap64 ((l0.length : Int) + 1)) x12_1 l0 (l0.length : Int) (wrap64 (x16_2 + 1))) else (impl_grounded.l1 k2 l0 a1 x5_2 x6_2 (wrap64 ((l0.length : Int) + 1)) x12_1 l0 (l0.length : Int) (wrap64 (x16_2 + 1)))) = some r := by first | (rw [hji22] at H; exact H) | (simp only [hji22] at H ⊢; exact H)
                          have hji22_ : (x5_2 / 2 ^ min ((rd_T38 l0 x16_2).f1).toNat 64) = ji22 := hji22
                          have hji22z : ((rd_T38 l0 x16_2).f1) ≤ 64 → (x5_2 / 2 ^ ((rd_T38 l0 x16_2).f1).toNat) = ji22 := shr_small hji22
                          by_cases c23 : (Go.bits .and .u64 (ji22) 1) = 1
                          · rw [if_pos c23] at H
                            have c23b0 : ((Go.bits .and .u64 (ji22) 1) == 1) = true := beq_iff_eq.mpr c23
                            have c23b1 : ((Go.bits .and .u64 (ji22) 1) != 1) = false := bne_eq_false_iff_eq.mpr c23
                            clear c23
                            have c24b0 := eq_true (of_decide_eq_true (by first | (with_reducible assumption) | assumption) : 0 ≤ ((rd_T38 l0 x16_2).f0))
                            obtain ⟨ji25, hji25⟩ : ∃ j_ : Int, (shl .u64 1 ((rd_T38 l0 x16_2).f0)) = j_ := ⟨_, rfl⟩
                            replace H : (impl_grounded.l1 k2 l0 a1 (Go.bits .or .u64 x5_2 (Go.bits .or .u64 (ji25) (shl .u64 1 ((rd_T38 l0 x16_2).f1)))) (Go.bits .or .u64 x6_2 (shl .u64 1 x16_2)) (wrap64 ((l0.length : Int) + 1)) x12_1 l0 (l0.length : Int) (wrap64 (x16_2 + 1))) = some r := by first | (rw [hji25] at H; exact H) | (simp only [hji25] at H ⊢; exact H)
                            have hji25_ : (IntKind.u64.wrap (1 * 2 ^ min ((rd_T38 l0 x16_2).f0).toNat 64)) = ji25 := hji25
                            have hji25z : ((rd_T38 l0 x16_2).f0) ≤ 64 → (IntKind.u64.wrap (1 * 2 ^ ((rd_T38 l0 x16_2).f0).toNat)) = ji25 := shl_small hji25
                            have hji25u : (IntKind.u64.wrap (2 ^ min ((rd_T38 l0 x16_2).f0).toNat 64)) = ji25 := by have h_ := hji25_; rw [Int.one_mul] at h_; exact h_
                            have hji25v : ((rd_T38 l0 x16_2).f0) ≤ 64 → (IntKind.u64.wrap (2 ^ ((rd_T38 l0 x16_2).f0).toNat)) = ji25 := fun hle_ => by have h_ := hji25z hle_; rw [Int.one_mul] at h_; exact h_
                            have c26b0 := eq_true (of_decide_eq_true (by first | (with_reducible assumption) | assumption) : 0 ≤ ((rd_T38 l0 x16_2).f1))
                            obtain ⟨ji27, hji27⟩ : ∃ j_ : Int, (shl .u64 1 ((rd_T38 l0 x16_2).f1)) = j_ := ⟨_, rfl⟩
                            replace H : (impl_grounded.l1 k2 l0 a1 (Go.bits .or .u64 x5_2 (Go.bits .or .u64 (ji25) (ji27))) (Go.bits .or .u64 x6_2 (shl .u64 1 x16_2)) (wrap64 ((l0.length : Int) + 1)) x12_1 l0 (l0.length : Int) (wrap64 (x16_2 + 1))) = some r := by first | (rw [hji27] at H; exact H) | (simp only [hji27] at H ⊢; exact H)
                            have hji27_ : (IntKind.u64.wrap (1 * 2 ^ min ((rd_T38 l0 x16_2).f1).toNat 64)) = ji27 := hji27
                            have hji27z : ((rd_T38 l0 x16_2).f1) ≤ 64 → (IntKind.u64.wrap (1 * 2 ^ ((rd_T38 l0 x16_2).f1).toNat)) = ji27 := shl_small hji27
                            have hji27u : (IntKind.u64.wrap (2 ^ min ((rd_T38 l0 x16_2).f1).toNat 64)) = ji27 := by have h_ := hji27_; rw [Int.one_mul] at h_; exact h_
                            have hji27v : ((rd_T38 l0 x16_2).f1) ≤ 64 → (IntKind.u64.wrap (2 ^ ((rd_T38 l0 x16_2).f1).toNat)) = ji27 := fun hle_ => by have h_ := hji27z hle_; rw [Int.one_mul] at h_; exact h_
                            have c28b0 := eq_true (of_decide_eq_true (by first | (with_reducible assumption) | assumption) : 0 ≤ x16_2)
                            obtain ⟨ji29, hji29⟩ : ∃ j_ : Int, (shl .u64 1 x16_2) = j_ := ⟨_, rfl⟩
                            replace H : (impl_grounded.l1 k2 l0 a1 (Go.bits .or .u64 x5_2 (Go.bits .or .u64 (ji25) (ji27))) (Go.bits .or .u64 x6_2 (ji29)) (wrap64 ((l0.length : Int) + 1)) x12_1 l0 (l0.length : Int) (wrap64 (x16_2 + 1))) = some r := by first | (rw [hji29] at H; exact H) | (simp only [hji29] at H ⊢; exact H)
                            have hji29_ : (IntKind.u64.wrap (1 * 2 ^ min x16_2.toNat 64)) = ji29 := hji29
                            have hji29z : x16_2 ≤ 64 → (IntKind.u64.wrap (1 * 2 ^ x16_2.toNat)) = ji29 := shl_small hji29
                            have hji29u : (IntKind.u64.wrap (2 ^ min x16_2.toNat 64)) = ji29 := by have h_ := hji29_; rw [Int.one_mul] at h_; exact h_
                            have hji29v : x16_2 ≤ 64 → (IntKind.u64.wrap (2 ^ x16_2.toNat)) = ji29 := fun hle_ => by have h_ := hji29z hle_; rw [Int.one_mul] at h_; exact h_
                            have H' := Aside0.mk H
                            clear H
                            have p193 : 0 ≤ (x16_2 : Int) := of_decide_eq_true (by first | (with_reducible assumption) | assumption)
                            have q193 : x16_2 < (l0.length : Int) := of_decide_eq_true (by first | (with_reducible assumption) | assumption)
                            obtain ⟨ad193, e193, hx193_0, hx193_1⟩ := at_T38 HR0.out x16_2 p193 q193
                            cases e193
                            replace hx193_0 := (HB.out.cell (World.block_lt_of_cell? w _ hx193_0)).trans hx193_0
                            replace hx193_1 := (HB.out.cell (World.block_lt_of_cell? w _ hx193_1)).trans hx193_1
                            replace p193 := eq_true p193
                            replace q193 := eq_true q193
                            go_wp2_with (first | ((with_reducible refine gate_dst (N := 8) rfl ?_); refine box_event ?hg (N := 8) ?hd (cs := #[.int .i64 0, .int .i64 0]) (t := 38) ?hr ?_; (case hd => rfl); (case hg => rfl); (case hr => first | (go_simp; done) | (go_simp; rfl)); intro gb194 hg w30 hbox hb; have n0_ := Aside0.mk (below_step (by repeat (first | (with_reducible first | exact HB.out | apply below_alloc | apply pw_below_drewN | apply below_drew1) | exact HB.out)) hb); have n1_ := Aside0.mk (hbox); have n2_ := Aside0.mk ((by rw [hg]; exact (below_size (by repeat (first | (with_reducible first | exact HB.out | apply below_alloc | apply pw_below_drewN | apply below_drew1) | exact HB.out))) : w.heap.size ≤ gb194)); have n3_ := Aside0.mk ((by rw [hg]; exact (below_size (by repeat (first | (with_reducible first | exact HB.out | apply below_alloc | apply pw_below_drewN | apply below_drew1) | exact HB.out))) : w.heap.size ≤ gb194)); clear HB; have HB := n0_; have BK194 := n1_; have GW194 := n2_; have GE194 := n3_; clear n0_ n1_ n2_ n3_; clear hb hbox hg; have hcz31_0 : w30.cell? ⟨gb194, 0, none⟩ = some (.int .i64 0) := (blk_cell BK194.out 0).trans rfl; have hcz31_1 : w30.cell? ⟨gb194, 1, none⟩ = some (.int .i64 0) := (blk_cell BK194.out 1).trans rfl; have hfz31_0 := blk_frozen BK194.out 0; have hfz31_1 := blk_frozen BK194.out 1))
                            repeat (go_quiet (first | ((with_reducible refine gate_dst (N := 8) rfl ?_); refine box_event ?hg (N := 8) ?hd (cs := #[.int .i64 0, .int .i64 0]) (t := 38) ?hr ?_; (case hd => rfl); (case hg => rfl); (case hr => first | (go_simp; done) | (go_simp; rfl)); intro gb194 hg w30 hbox hb; have n0_ := Aside0.mk (below_step (by repeat (first | (with_reducible first | exact HB.out | apply below_alloc | apply pw_below_drewN | apply below_drew1) | exact HB.out)) hb); have n1_ := Aside0.mk (hbox); have n2_ := Aside0.mk ((by rw [hg]; exact (below_size (by repeat (first | (with_reducible first | exact HB.out | apply below_alloc | apply pw_below_drewN | apply below_drew1) | exact HB.out))) : w.heap.size ≤ gb194)); have n3_ := Aside0.mk ((by rw [hg]; exact (below_size (by repeat (first | (with_reducible first | exact HB.out | apply below_alloc | apply pw_below_drewN | apply below_drew1) | exact HB.out))) : w.heap.size ≤ gb194)); clear HB; have HB := n0_; have BK194 := n1_; have GW194 := n2_; have GE194 := n3_; clear n0_ n1_ n2_ n3_; clear hb hbox hg; have hcz31_0 : w30.cell? ⟨gb194, 0, none⟩ = some (.int .i64 0) := (blk_cell BK194.out 0).trans rfl; have hcz31_1 : w30.cell? ⟨gb194, 1, none⟩ = some (.int .i64 0) := (blk_cell BK194.out 1).trans rfl; have hfz31_0 := blk_frozen BK194.out 0; have hfz31_1 := blk_frozen BK194.out 1)); try go_wp2_with (first | ((with_reducible refine gate_dst (N := 8) rfl ?_); refine box_event ?hg (N := 8) ?hd (cs := #[.int .i64 0, .int .i64 0]) (t := 38) ?hr ?_; (case hd => rfl); (case hg => rfl); (case hr => first | (go_simp; done) | (go_simp; rfl)); intro gb194 hg w30 hbox hb; have n0_ := Aside0.mk (below_step (by repeat (first | (with_reducible first | exact HB.out | apply below_alloc | apply pw_below_drewN | apply below_drew1) | exact HB.out)) hb); have n1_ := Aside0.mk (hbox); have n2_ := Aside0.mk ((by rw [hg]; exact (below_size (by repeat (first | (with_reducible first | exact HB.out | apply below_alloc | apply pw_below_drewN | apply below_drew1) | exact HB.out))) : w.heap.size ≤ gb194)); have n3_ := Aside0.mk ((by rw [hg]; exact (below_size (by repeat (first | (with_reducible first | exact HB.out | apply below_alloc | apply pw_below_drewN | apply below_drew1) | exact HB.out))) : w.heap.size ≤ gb194)); clear HB; have HB := n0_; have BK194 := n1_; have GW194 := n2_; have GE194 := n3_; clear n0_ n1_ n2_ n3_; clear hb hbox hg; have hcz31_0 : w30.cell? ⟨gb194, 0, none⟩ = some (.int .i64 0) := (blk_cell BK194.out 0).trans rfl; have hcz31_1 : w30.cell? ⟨gb194, 1, none⟩ = some (.int .i64 0) := (blk_cell BK194.out 1).trans rfl; have hfz31_0 := blk_frozen BK194.out 0; have hfz31_1 := blk_frozen BK194.out 1)))
                            go_roundg k2
                            case measure => have := HK1.out; have := HK2.out; omega
                            case rel => exact ⟨(Go.bits .or .u64 x5_2 (Go.bits .or .u64 (ji25) (ji27))), (Go.bits .or .u64 x6_2 (ji29)), (wrap64 (x16_2 + 1)), (by first | rfl | (simp; done) | (simp only [← hji25, ← hji27] <;> (first | rfl | simp)) | (simp [*]; done)), (by first | rfl | (simp; done) | (simp only [← hji29] <;> (first | rfl | simp)) | (simp [*]; done)), (by first | rfl | (simp; done) | (simp [*]; done)), H', ⟨by have := HK1.out; have := HK2.out; omega⟩, ⟨by repeat (first | (with_reducible first | exact HB.out | apply below_alloc | apply pw_below_drewN | apply below_drew1 | refine below_set ?_ GE194.out) | exact HB.out)⟩⟩
                          · rw [if_neg c23] at H
                            have c23b0 : ((Go.bits .and .u64 (ji22) 1) == 1) = false := beq_eq_false_iff_ne.mpr c23
                            have c23b1 : ((Go.bits .and .u64 (ji22) 1) != 1) = true := bne_iff_ne.mpr c23
                            have H' := Aside0.mk H
                            clear H
                            have p193 : 0 ≤ (x16_2 : Int) := of_decide_eq_true (by first | (with_reducible assumption) | assumption)
                            have q193 : x16_2 < (l0.length : Int) := of_decide_eq_true (by first | (with_reducible assumption) | assumption)
                            obtain ⟨ad193, e193, hx193_0, hx193_1⟩ := at_T38 HR0.out x16_2 p193 q193
                            cases e193
                            replace hx193_0 := (HB.out.cell (World.block_lt_of_cell? w _ hx193_0)).trans hx193_0
                            replace hx193_1 := (HB.out.cell (World.block_lt_of_cell? w _ hx193_1)).trans hx193_1
                            replace p193 := eq_true p193
                            replace q193 := eq_true q193
                            go_wp2_with (first | ((with_reducible refine gate_dst (N := 8) rfl ?_); refine box_event ?hg (N := 8) ?hd (cs := #[.int .i64 0, .int .i64 0]) (t := 38) ?hr ?_; (case hd => rfl); (case hg => rfl); (case hr => first | (go_simp; done) | (go_simp; rfl)); intro gb194 hg w32 hbox hb; have n0_ := Aside0.mk (below_step (by repeat (first | (with_reducible first | exact HB.out | apply below_alloc | apply pw_below_drewN | apply below_drew1) | exact HB.out)) hb); have n1_ := Aside0.mk (hbox); have n2_ := Aside0.mk ((by rw [hg]; exact (below_size (by repeat (first | (with_reducible first | exact HB.out | apply below_alloc | apply pw_below_drewN | apply below_drew1) | exact HB.out))) : w.heap.size ≤ gb194)); have n3_ := Aside0.mk ((by rw [hg]; exact (below_size (by repeat (first | (with_reducible first | exact HB.out | apply below_alloc | apply pw_below_drewN | apply below_drew1) | exact HB.out))) : w.heap.size ≤ gb194)); clear HB; have HB := n0_; have BK194 := n1_; have GW194 := n2_; have GE194 := n3_; clear n0_ n1_ n2_ n3_; clear hb hbox hg; have hcz33_0 : w32.cell? ⟨gb194, 0, none⟩ = some (.int .i64 0) := (blk_cell BK194.out 0).trans rfl; have hcz33_1 : w32.cell? ⟨gb194, 1, none⟩ = some (.int .i64 0) := (blk_cell BK194.out 1).trans rfl; have hfz33_0 := blk_frozen BK194.out 0; have hfz33_1 := blk_frozen BK194.out 1))
                            repeat (go_quiet (first | ((with_reducible refine gate_dst (N := 8) rfl ?_); refine box_event ?hg (N := 8) ?hd (cs := #[.int .i64 0, .int .i64 0]) (t := 38) ?hr ?_; (case hd => rfl); (case hg => rfl); (case hr => first | (go_simp; done) | (go_simp; rfl)); intro gb194 hg w32 hbox hb; have n0_ := Aside0.mk (below_step (by repeat (first | (with_reducible first | exact HB.out | apply below_alloc | apply pw_below_drewN | apply below_drew1) | exact HB.out)) hb); have n1_ := Aside0.mk (hbox); have n2_ := Aside0.mk ((by rw [hg]; exact (below_size (by repeat (first | (with_reducible first | exact HB.out | apply below_alloc | apply pw_below_drewN | apply below_drew1) | exact HB.out))) : w.heap.size ≤ gb194)); have n3_ := Aside0.mk ((by rw [hg]; exact (below_size (by repeat (first | (with_reducible first | exact HB.out | apply below_alloc | apply pw_below_drewN | apply below_drew1) | exact HB.out))) : w.heap.size ≤ gb194)); clear HB; have HB := n0_; have BK194 := n1_; have GW194 := n2_; have GE194 := n3_; clear n0_ n1_ n2_ n3_; clear hb hbox hg; have hcz33_0 : w32.cell? ⟨gb194, 0, none⟩ = some (.int .i64 0) := (blk_cell BK194.out 0).trans rfl; have hcz33_1 : w32.cell? ⟨gb194, 1, none⟩ = some (.int .i64 0) := (blk_cell BK194.out 1).trans rfl; have hfz33_0 := blk_frozen BK194.out 0; have hfz33_1 := blk_frozen BK194.out 1)); try go_wp2_with (first | ((with_reducible refine gate_dst (N := 8) rfl ?_); refine box_event ?hg (N := 8) ?hd (cs := #[.int .i64 0, .int .i64 0]) (t := 38) ?hr ?_; (case hd => rfl); (case hg => rfl); (case hr => first | (go_simp; done) | (go_simp; rfl)); intro gb194 hg w32 hbox hb; have n0_ := Aside0.mk (below_step (by repeat (first | (with_reducible first | exact HB.out | apply below_alloc | apply pw_below_drewN | apply below_drew1) | exact HB.out)) hb); have n1_ := Aside0.mk (hbox); have n2_ := Aside0.mk ((by rw [hg]; exact (below_size (by repeat (first | (with_reducible first | exact HB.out | apply below_alloc | apply pw_below_drewN | apply below_drew1) | exact HB.out))) : w.heap.size ≤ gb194)); have n3_ := Aside0.mk ((by rw [hg]; exact (below_size (by repeat (first | (with_reducible first | exact HB.out | apply below_alloc | apply pw_below_drewN | apply below_drew1) | exact HB.out))) : w.heap.size ≤ gb194)); clear HB; have HB := n0_; have BK194 := n1_; have GW194 := n2_; have GE194 := n3_; clear n0_ n1_ n2_ n3_; clear hb hbox hg; have hcz33_0 : w32.cell? ⟨gb194, 0, none⟩ = some (.int .i64 0) := (blk_cell BK194.out 0).trans rfl; have hcz33_1 : w32.cell? ⟨gb194, 1, none⟩ = some (.int .i64 0) := (blk_cell BK194.out 1).trans rfl; have hfz33_0 := blk_frozen BK194.out 0; have hfz33_1 := blk_frozen BK194.out 1)))
                            go_roundg k2
                            case measure => have := HK1.out; have := HK2.out; omega
                            case rel => exact ⟨(x5_2), (x6_2), (wrap64 (x16_2 + 1)), (by first | rfl | (simp; done) | (simp [*]; done)), (by first | rfl | (simp; done) | (simp [*]; done)), (by first | rfl | (simp; done) | (simp [*]; done)), H', ⟨by have := HK1.out; have := HK2.out; omega⟩, ⟨by repeat (first | (with_reducible first | exact HB.out | apply below_alloc | apply pw_below_drewN | apply below_drew1 | refine below_set ?_ GE194.out) | exact HB.out)⟩⟩
                        · rw [if_neg c21] at H
                          exact absurd H (by simp)
                    · rw [if_neg c10] at H
                      exact absurd H (by simp)
                  · rw [if_neg c9] at H
                    have c9b0 : ((Go.bits .and .u64 (ji8) 1) == 1) = false := beq_eq_false_iff_ne.mpr c9
                    have c9b1 : ((Go.bits .and .u64 (ji8) 1) != 1) = true := bne_iff_ne.mpr c9
                    have H' := Aside0.mk H
                    clear H
                    have p193 : 0 ≤ (x16_2 : Int) := of_decide_eq_true (by first | (with_reducible assumption) | assumption)
                    have q193 : x16_2 < (l0.length : Int) := of_decide_eq_true (by first | (with_reducible assumption) | assumption)
                    obtain ⟨ad193, e193, hx193_0, hx193_1⟩ := at_T38 HR0.out x16_2 p193 q193
                    cases e193
                    replace hx193_0 := (HB.out.cell (World.block_lt_of_cell? w _ hx193_0)).trans hx193_0
                    replace hx193_1 := (HB.out.cell (World.block_lt_of_cell? w _ hx193_1)).trans hx193_1
                    replace p193 := eq_true p193
                    replace q193 := eq_true q193
                    go_wp2_with (first | ((with_reducible refine gate_dst (N := 8) rfl ?_); refine box_event ?hg (N := 8) ?hd (cs := #[.int .i64 0, .int .i64 0]) (t := 38) ?hr ?_; (case hd => rfl); (case hg => rfl); (case hr => first | (go_simp; done) | (go_simp; rfl)); intro gb194 hg w34 hbox hb; have n0_ := Aside0.mk (below_step (by repeat (first | (with_reducible first | exact HB.out | apply below_alloc | apply pw_below_drewN | apply below_drew1) | exact HB.out)) hb); have n1_ := Aside0.mk (hbox); have n2_ := Aside0.mk ((by rw [hg]; exact (below_size (by repeat (first | (with_reducible first | exact HB.out | apply below_alloc | apply pw_below_drewN | apply below_drew1) | exact HB.out))) : w.heap.size ≤ gb194)); have n3_ := Aside0.mk ((by rw [hg]; exact (below_size (by repeat (first | (with_reducible first | exact HB.out | apply below_alloc | apply pw_below_drewN | apply below_drew1) | exact HB.out))) : w.heap.size ≤ gb194)); clear HB; have HB := n0_; have BK194 := n1_; have GW194 := n2_; have GE194 := n3_; clear n0_ n1_ n2_ n3_; clear hb hbox hg; have hcz35_0 : w34.cell? ⟨gb194, 0, none⟩ = some (.int .i64 0) := (blk_cell BK194.out 0).trans rfl; have hcz35_1 : w34.cell? ⟨gb194, 1, none⟩ = some (.int .i64 0) := (blk_cell BK194.out 1).trans rfl; have hfz35_0 := blk_frozen BK194.out 0; have hfz35_1 := blk_frozen BK194.out 1))
                    repeat (go_quiet (first | ((with_reducible refine gate_dst (N := 8) rfl ?_); refine box_event ?hg (N := 8) ?hd (cs := #[.int .i64 0, .int .i64 0]) (t := 38) ?hr ?_; (case hd => rfl); (case hg => rfl); (case hr => first | (go_simp; done) | (go_simp; rfl)); intro gb194 hg w34 hbox hb; have n0_ := Aside0.mk (below_step (by repeat (first | (with_reducible first | exact HB.out | apply below_alloc | apply pw_below_drewN | apply below_drew1) | exact HB.out)) hb); have n1_ := Aside0.mk (hbox); have n2_ := Aside0.mk ((by rw [hg]; exact (below_size (by repeat (first | (with_reducible first | exact HB.out | apply below_alloc | apply pw_below_drewN | apply below_drew1) | exact HB.out))) : w.heap.size ≤ gb194)); have n3_ := Aside0.mk ((by rw [hg]; exact (below_size (by repeat (first | (with_reducible first | exact HB.out | apply below_alloc | apply pw_below_drewN | apply below_drew1) | exact HB.out))) : w.heap.size ≤ gb194)); clear HB; have HB := n0_; have BK194 := n1_; have GW194 := n2_; have GE194 := n3_; clear n0_ n1_ n2_ n3_; clear hb hbox hg; have hcz35_0 : w34.cell? ⟨gb194, 0, none⟩ = some (.int .i64 0) := (blk_cell BK194.out 0).trans rfl; have hcz35_1 : w34.cell? ⟨gb194, 1, none⟩ = some (.int .i64 0) := (blk_cell BK194.out 1).trans rfl; have hfz35_0 := blk_frozen BK194.out 0; have hfz35_1 := blk_frozen BK194.out 1)); try go_wp2_with (first | ((with_reducible refine gate_dst (N := 8) rfl ?_); refine box_event ?hg (N := 8) ?hd (cs := #[.int .i64 0, .int .i64 0]) (t := 38) ?hr ?_; (case hd => rfl); (case hg => rfl); (case hr => first | (go_simp; done) | (go_simp; rfl)); intro gb194 hg w34 hbox hb; have n0_ := Aside0.mk (below_step (by repeat (first | (with_reducible first | exact HB.out | apply below_alloc | apply pw_below_drewN | apply below_drew1) | exact HB.out)) hb); have n1_ := Aside0.mk (hbox); have n2_ := Aside0.mk ((by rw [hg]; exact (below_size (by repeat (first | (with_reducible first | exact HB.out | apply below_alloc | apply pw_below_drewN | apply below_drew1) | exact HB.out))) : w.heap.size ≤ gb194)); have n3_ := Aside0.mk ((by rw [hg]; exact (below_size (by repeat (first | (with_reducible first | exact HB.out | apply below_alloc | apply pw_below_drewN | apply below_drew1) | exact HB.out))) : w.heap.size ≤ gb194)); clear HB; have HB := n0_; have BK194 := n1_; have GW194 := n2_; have GE194 := n3_; clear n0_ n1_ n2_ n3_; clear hb hbox hg; have hcz35_0 : w34.cell? ⟨gb194, 0, none⟩ = some (.int .i64 0) := (blk_cell BK194.out 0).trans rfl; have hcz35_1 : w34.cell? ⟨gb194, 1, none⟩ = some (.int .i64 0) := (blk_cell BK194.out 1).trans rfl; have hfz35_0 := blk_frozen BK194.out 0; have hfz35_1 := blk_frozen BK194.out 1)))
                    go_roundg k2
                    case measure => have := HK1.out; have := HK2.out; omega
                    case rel => exact ⟨(x5_2), (x6_2), (wrap64 (x16_2 + 1)), (by first | rfl | (simp; done) | (simp [*]; done)), (by first | rfl | (simp; done) | (simp [*]; done)), (by first | rfl | (simp; done) | (simp [*]; done)), H', ⟨by have := HK1.out; have := HK2.out; omega⟩, ⟨by repeat (first | (with_reducible first | exact HB.out | apply below_alloc | apply pw_below_drewN | apply below_drew1 | refine below_set ?_ GE194.out) | exact HB.out)⟩⟩
                · rw [if_neg c6] at H
                  exact absurd H (by simp)
              · rw [if_neg c5] at H
                exact absurd H (by simp)
            · rw [if_neg c4] at H
              have c4b0 : decide (x16_2 < (l0.length : Int)) = false := decide_eq_false c4
              clear c4
              have H' := Aside0.mk H
              clear H
              go_wp2
              repeat (go_quiet (fail); try go_wp2)
              go_roundg k2
              case measure => have := HK1.out; have := HK2.out; omega
              case rel => exact ⟨(x5_2), (x6_2), (wrap64 (x12_1 + 1)), (by first | rfl | (simp; done) | (simp [*]; done)), (by first | rfl | (simp; done) | (simp [*]; done)), (by first | rfl | (simp; done) | (simp [*]; done)), H', ⟨by have := HK1.out; have := HK2.out; omega⟩, ⟨by repeat (first | (with_reducible first | exact HB.out | apply below_alloc | apply pw_below_drewN | apply below_drew1) | exact HB.out)⟩⟩
      · rw [if_neg c3] at H
        have c3b0 : decide (x12_1 < (wrap64 ((l0.length : Int) + 1))) = false := decide_eq_false c3
        clear c3
        obtain rfl := Option.some.inj H
        go_wp2
        repeat (go_quiet (fail); try go_wp2)
        go_ret
        exact ⟨by first | rfl | (simp [errW_none, errW_some] <;> rfl) | (simp [*, errW_none, errW_some] <;> rfl), by repeat (first | (with_reducible first | exact HB.out | apply below_alloc | apply pw_below_drewN | apply below_drew1) | exact HB.out)⟩

/-! ### impl_all: function 28 -/
def impl_all.f (l0 : List (S38)) : Option (Int) := some (IntKind.u64.wrap ((shl .u64 1 (l0.length : Int)) - 1))
set_option maxHeartbeats 8000000 in
set_option maxRecDepth 100000 in
theorem impl_all.calls (A0 : Option Addr) (c0 : Nat) (l0 : List (S38)) (r : Int) (w : World) (hr0 : Kd.C k38 w A0 l0.length l0) (hc0 : l0.length ≤ c0) (h : impl_all.f l0 = some r) :
    Calls Tryd.prog 28 #[.slice A0 l0.length c0] w fun e w' => e = .returned (.int .u64 r) ∧ Drawn0 w w' := by
  have HR0 := Aside0.mk hr0
  have HC0 := Aside0.mk hc0
  clear hr0 hc0
  have H : (some (IntKind.u64.wrap ((shl .u64 1 (l0.length : Int)) - 1))) = some r := h
  clear h
  obtain ⟨ji2, hji2⟩ : ∃ j_ : Int, (shl .u64 1 (l0.length : Int)) = j_ := ⟨_, rfl⟩
  replace H : (some (IntKind.u64.wrap ((ji2) - 1))) = some r := by first | (rw [hji2] at H; exact H) | (simp only [hji2] at H ⊢; exact H)
  have hji2_ : (IntKind.u64.wrap (1 * 2 ^ min (l0.length : Int).toNat 64)) = ji2 := hji2
  have hji2z : (l0.length : Int) ≤ 64 → (IntKind.u64.wrap (1 * 2 ^ (l0.length : Int).toNat)) = ji2 := shl_small hji2
  have hji2p : (IntKind.u64.wrap (1 * 2 ^ min l0.length 64)) = ji2 := hji2_
  have hji2q : (l0.length : Int) ≤ 64 → (IntKind.u64.wrap (1 * 2 ^ l0.length)) = ji2 := hji2z
  have hji2r : (IntKind.u64.wrap (2 ^ min l0.length 64)) = ji2 := by have h_ := hji2p; rw [Int.one_mul] at h_; exact h_
  have hji2s : (l0.length : Int) ≤ 64 → (IntKind.u64.wrap (2 ^ l0.length)) = ji2 := fun hle_ => by have h_ := hji2q hle_; rw [Int.one_mul] at h_; exact h_
  have hji2u : (IntKind.u64.wrap (2 ^ min (l0.length : Int).toNat 64)) = ji2 := by have h_ := hji2_; rw [Int.one_mul] at h_; exact h_
  have hji2v : (l0.length : Int) ≤ 64 → (IntKind.u64.wrap (2 ^ (l0.length : Int).toNat)) = ji2 := fun hle_ => by have h_ := hji2z hle_; rw [Int.one_mul] at h_; exact h_
  obtain rfl := Option.some.inj H
  go_enter Tryd.func28, Tryd.ntmps28
  go_wp2
  go_ret
  exact ⟨by first | rfl | (simp; done) | (simp only [← hji2] <;> (first | rfl | simp)) | (simp [*]; done), by repeat (first | exact Drawn0.refl _ | apply Drawn0.step)⟩

/-! ### impl_hung: function 29 -/
mutual
def impl_hung.l0 : Nat → List (S38) → Int → Int → Int → Int → Option (Int)
  | 0, _, _, _, _, _ => none
  | k + 1, x0, x1, x7, x13, x14 => if x14 < x13 then (impl_hung.l1 k x0 x1 x7 x13 x14 x0 (x0.length : Int) 0) else (some x7)
def impl_hung.l1 : Nat → List (S38) → Int → Int → Int → Int → List (S38) → Int → Int → Option (Int)
  | 0, _, _, _, _, _, _, _, _ => none
  | k + 1, x0, x1, x7, x13, x14, x16, x17, x18 => if x18 < x17 then (if 0 ≤ x18 then (if x18 < (x16.length : Int) then (if (Go.bits .and .u64 (shr .u64 x1 x18) 1) = 1 then (if 0 ≤ ((rd_T38 x16 x18).f0) then (if (Go.bits .and .u64 (shr .u64 x7 ((rd_T38 x16 x18).f0)) 1) = 1 then (if 0 ≤ ((rd_T38 x16 x18).f1) then (impl_hung.l1 k x0 x1 (Go.bits .or .u64 x7 (Go.bits .or .u64 (shl .u64 1 ((rd_T38 x16 x18).f0)) (shl .u64 1 ((rd_T38 x16 x18).f1)))) x13 x14 x16 x17 (wrap64 (x18 + 1))) else (none)) else (if 0 ≤ ((rd_T38 x16 x18).f1) then (if (Go.bits .and .u64 (shr .u64 x7 ((rd_T38 x16 x18).f1)) 1) = 1 then (impl_hung.l1 k x0 x1 (Go.bits .or .u64 x7 (Go.bits .or .u64 (shl .u64 1 ((rd_T38 x16 x18).f0)) (shl .u64 1 ((rd_T38 x16 x18).f1)))) x13 x14 x16 x17 (wrap64 (x18 + 1))) else (impl_hung.l1 k x0 x1 x7 x13 x14 x16 x17 (wrap64 (x18 + 1)))) else (none))) else (none)) else (impl_hung.l1 k x0 x1 x7 x13 x14 x16 x17 (wrap64 (x18 + 1)))) else (none)) else (none)) else (impl_hung.l0 k x0 x1 x7 x13 (wrap64 (x14 + 1)))
end
def impl_hung.f (k : Nat) (l0 : List (S38)) (a1 : Int) (a2 : Int) : Option (Int) := if 0 ≤ a2 then (impl_hung.l0 k l0 a1 (shl .u64 1 a2) (l0.length : Int) 0) else (none)
theorem impl_hung.mono_l : ∀ k, (∀ y0 y1 y2 y3 y4, LeO (impl_hung.l0 k y0 y1 y2 y3 y4) (impl_hung.l0 (k + 1) y0 y1 y2 y3 y4)) ∧ (∀ y0 y1 y2 y3 y4 y5 y6 y7, LeO (impl_hung.l1 k y0 y1 y2 y3 y4 y5 y6 y7) (impl_hung.l1 (k + 1) y0 y1 y2 y3 y4 y5 y6 y7))
  | 0 => ⟨fun _ _ _ _ _ r h => by simp [impl_hung.l0] at h, fun _ _ _ _ _ _ _ _ r h => by simp [impl_hung.l1] at h⟩
  | k + 1 => by
    obtain ⟨ih0, ih1⟩ := impl_hung.mono_l k
    refine ⟨?_, ?_⟩
    · intro y0 y1 y2 y3 y4
      unfold impl_hung.l0
      repeat' first
      | (with_reducible exact ih0 _ _ _ _ _)
      | (with_reducible exact ih1 _ _ _ _ _ _ _ _)
      | (with_reducible exact LeO.refl _)
      | (with_reducible exact LeO.none _)
      | (with_reducible refine LeO.ite ?_ ?_)
      | (with_reducible refine LeO.bind ?_ (fun _ => ?_))
      | exact ih0 _ _ _ _ _
      | exact ih1 _ _ _ _ _ _ _ _
      | exact LeO.none _
      | refine LeO.ite ?_ ?_
      | refine LeO.bind ?_ (fun _ => ?_)
    · intro y0 y1 y2 y3 y4 y5 y6 y7
      unfold impl_hung.l1
      repeat' first
      | (with_reducible exact ih0 _ _ _ _ _)
      | (with_reducible exact ih1 _ _ _ _ _ _ _ _)
      | (with_reducible exact LeO.refl _)
      | (with_reducible exact LeO.none _)
      | (with_reducible refine LeO.ite ?_ ?_)
      | (with_reducible refine LeO.bind ?_ (fun _ => ?_))
      | exact ih0 _ _ _ _ _
      | exact ih1 _ _ _ _ _ _ _ _
      | exact LeO.none _
      | refine LeO.ite ?_ ?_
      | refine LeO.bind ?_ (fun _ => ?_)
theorem impl_hung.mono : ∀ a0 a1 a2 k, LeO (impl_hung.f k a0 a1 a2) (impl_hung.f (k + 1) a0 a1 a2) := by
  intro a0 a1 a2 k
  obtain ⟨ih0, ih1⟩ := impl_hung.mono_l k
  unfold impl_hung.f
  repeat' first
      | (with_reducible exact ih0 _ _ _ _ _)
      | (with_reducible exact ih1 _ _ _ _ _ _ _ _)
      | (with_reducible exact LeO.refl _)
      | (with_reducible exact LeO.none _)
      | (with_reducible refine LeO.ite ?_ ?_)
      | (with_reducible refine LeO.bind ?_ (fun _ => ?_))
      | exact ih0 _ _ _ _ _
      | exact ih1 _ _ _ _ _ _ _ _
      | exact LeO.none _
      | refine LeO.ite ?_ ?_
      | refine LeO.bind ?_ (fun _ => ?_)
set_option maxHeartbeats 8000000 in
set_option maxRecDepth 100000 in
theorem impl_hung.calls (k : Nat) (A0 : Option Addr) (c0 : Nat) (l0 : List (S38)) (a1 : Int) (a2 : Int) (r : Int) (w : World) (hr0 : Kd.C k38 w A0 l0.length l0) (hc0 : l0.length ≤ c0) (h : impl_hung.f k l0 a1 a2 = some r) :
    Calls Tryd.prog 29 #[.slice A0 l0.length c0, .int .u64 a1, .int .i64 a2] w fun e w' => e = .returned (.int .u64 r) ∧ Below w.heap.size w w' := by
  have hu38 := Tryd.underlying38
  have HR0 := Aside0.mk hr0
  have HC0 := Aside0.mk hc0
  clear hr0 hc0
  have HB := Aside0.mk (Below.refl w.heap.size w)
  have H : (if 0 ≤ a2 then (impl_hung.l0 k l0 a1 (shl .u64 1 a2) (l0.length : Int) 0) else (none)) = some r := h
  clear h
  by_cases c4 : 0 ≤ a2
  · rw [if_pos c4] at H
    have c4b0 := eq_true c4
    have c4b1 : decide (0 ≤ a2) = true := decide_eq_true c4
    clear c4
    obtain ⟨ji5, hji5⟩ : ∃ j_ : Int, (shl .u64 1 a2) = j_ := ⟨_, rfl⟩
    replace H : (impl_hung.l0 k l0 a1 ji5 (l0.length : Int) 0) = some r := by first | (rw [hji5] at H; exact H) | (simp only [hji5] at H ⊢; exact H)
    have hji5_ : (IntKind.u64.wrap (1 * 2 ^ min a2.toNat 64)) = ji5 := hji5
    have hji5z : a2 ≤ 64 → (IntKind.u64.wrap (1 * 2 ^ a2.toNat)) = ji5 := shl_small hji5
    have hji5u : (IntKind.u64.wrap (2 ^ min a2.toNat 64)) = ji5 := by have h_ := hji5_; rw [Int.one_mul] at h_; exact h_
    have hji5v : a2 ≤ 64 → (IntKind.u64.wrap (2 ^ a2.toNat)) = ji5 := fun hle_ => by have h_ := hji5z hle_; rw [Int.one_mul] at h_; exact h_
    have H' := Aside0.mk H
    clear H
    go_enter Tryd.func29, Tryd.ntmps29
    go_wp2
    repeat (go_quiet (fail); try go_wp2)
    go_loopg [7, 14] k (fun kq v7 v14 w' => ∃ (x7_1 : Int) (x14_1 : Int), v7 = .int .u64 x7_1 ∧ v14 = .int .i64 x14_1 ∧ Aside0 (impl_hung.l0 kq l0 a1 x7_1 (l0.length : Int) x14_1 = some r) ∧ Aside0 (kq ≤ k) ∧ Aside0 (Below w.heap.size w w'))
    case atStart => exact ⟨(ji5), (0), (by first | rfl | (simp; done) | (simp only [← hji5] <;> (first | rfl | simp)) | (simp [*]; done)), (by first | rfl | (simp; done) | (simp [*]; done)), H', ⟨Nat.le_refl _⟩, ⟨by repeat (first | (with_reducible first | exact HB.out | apply below_alloc | apply pw_below_drewN | apply below_drew1) | exact HB.out)⟩⟩
    case round =>
      clear H'
      try clear c2
      try clear p2
      try clear c4
      try clear c4b0
      try clear c4b1
      obtain ⟨x7_1, x14_1, rfl, rfl, HA, HK1, HB⟩ := hrel
      cases gk with
      | zero => exact absurd HA.out (by simp [impl_hung.l0])
      | succ k1 =>
        have H := HA.out
        clear HA
        simp only [impl_hung.l0] at H
        by_cases c6 : x14_1 < (l0.length : Int)
        · rw [if_pos c6] at H
          have c6b0 : decide (x14_1 < (l0.length : Int)) = true := decide_eq_true c6
          clear c6
          have H' := Aside0.mk H
          clear H
          go_wp2
          repeat (go_quiet (fail); try go_wp2)
          go_loopg [7, 18] k1 (fun kq v7 v18 w' => ∃ (x7_2 : Int) (x18_2 : Int), v7 = .int .u64 x7_2 ∧ v18 = .int .i64 x18_2 ∧ Aside0 (impl_hung.l1 kq l0 a1 x7_2 (l0.length : Int) x14_1 l0 (l0.length : Int) x18_2 = some r) ∧ Aside0 (kq ≤ k1) ∧ Aside0 (Below w.heap.size w w'))
          case atStart => exact ⟨(x7_1), (0), (by first | rfl | (simp; done) | (simp [*]; done)), (by first | rfl | (simp; done) | (simp [*]; done)), H', ⟨Nat.le_refl _⟩, ⟨by repeat (first | (with_reducible first | exact HB.out | apply below_alloc | apply pw_below_drewN | apply below_drew1) | exact HB.out)⟩⟩
          case round =>
            clear H'
            try clear c2
            try clear p2
            try clear c4
            try clear c4b0
            try clear c4b1
            try clear c6
            try clear c6b0
            try clear p2
            obtain ⟨x7_2, x18_2, rfl, rfl, HA, HK2, HB⟩ := hrel
            cases gk with
            | zero => exact absurd HA.out (by simp [impl_hung.l1])
            | succ k2 =>
              have H := HA.out
              clear HA
              simp only [impl_hung.l1] at H
              by_cases c7 : x18_2 < (l0.length : Int)
              · rw [if_pos c7] at H
                have c7b0 : decide (x18_2 < (l0.length : Int)) = true := decide_eq_true c7
                clear c7
                by_cases c8 : 0 ≤ x18_2
                · rw [if_pos c8] at H
                  have c8b0 : decide (0 ≤ x18_2) = true := decide_eq_true c8
                  clear c8
                  by_cases c9 : x18_2 < (l0.length : Int)
                  · rw [if_pos c9] at H
                    have c9b0 : decide (x18_2 < (l0.length : Int)) = true := decide_eq_true c9
                    clear c9
                    have c10b0 := eq_true (of_decide_eq_true (by first | (with_reducible assumption) | assumption) : 0 ≤ x18_2)
                    obtain ⟨ji11, hji11⟩ : ∃ j_ : Int, (shr .u64 a1 x18_2) = j_ := ⟨_, rfl⟩
                    replace H : (if (Go.bits .and .u64 (ji11) 1) = 1 then (if 0 ≤ ((rd_T38 l0 x18_2).f0) then (if (Go.bits .and .u64 (shr .u64 x7_2 ((rd_T38 l0 x18_2).f0)) 1) = 1 then (if 0 ≤ ((rd_T38 l0 x18_2).f1) then (impl_hung.l1 k2 l0 a1 (Go.bits .or .u64 x7_2 (Go.bits .or .u64 (shl .u64 1 ((rd_T38 l0 x18_2).f0)) (shl .u64 1 ((rd_T38 l0 x18_2).f1)))) (l0.length : Int) x14_1 l0 (l0.length : Int) (wrap64 (x18_2 + 1))) else (none)) else (if 0 ≤ ((rd_T38 l0 x18_2).f1) then (if (Go.bits .and .u64 (shr .u64 x7_2 ((rd_T38 l0 x18_2).f1)) 1) = 1 then (impl_hung.l1 k2 l0 a1 (Go.bits .or .u64 x7_2 (Go.bits .or .u64 (shl .u64 1 ((rd_T38 l0 x18_2).f0)) (shl .u64 1 ((rd_T38 l0 x18_2).f1)))) (l0.length : Int) x14_1 l0 (l0.length : Int) (wrap64 (x18_2 + 1))) else (impl_hung.l1 k2 l0 a1 x7_2 (l0.length : Int) x14_1 l0 (l0.length : Int) (wrap64 (x18_2 + 1)))) else (none))) else (none)) else (impl_hung.l1 k2 l0 a1 x7_2 (l0.length : Int) x14_1 l0 (l0.length : Int) (wrap64 (x18_2 + 1)))) = some r := by first | (rw [hji11] at H; exact H) | (simp only [hji11] at H ⊢; exact H)
                    have hji11_ : (a1 / 2 ^ min x18_2.toNat 64) = ji11 := hji11
                    have hji11z : x18_2 ≤ 64 → (a1 / 2 ^ x18_2.toNat) = ji11 := shr_small hji11
                    by_cases c12 : (Go.bits .and .u64 (ji11) 1) = 1
                    · rw [if_pos c12] at H
                      have c12b0 : ((Go.bits .and .u64 (ji11) 1) == 1) = true := beq_iff_eq.mpr c12
                      have c12b1 : ((Go.bits .and .u64 (ji11) 1) != 1) = false := bne_eq_false_iff_eq.mpr c12
                      clear c12
                      by_cases c13 : 0 ≤ ((rd_T38 l0 x18_2).f0)
                      · rw [if_pos c13] at H
                        have c13b0 := eq_true c13
                        have c13b1 : decide (0 ≤ ((rd_T38 l0 x18_2).f0)) = true := decide_eq_true c13
                        clear c13
                        obtain ⟨ji14, hji14⟩ : ∃ j_ : Int, (shr .u64 x7_2 ((rd_T38 l0 x18_2).f0)) = j_ := ⟨_, rfl⟩
                        replace H : (if (Go.bits .and .u64 (ji14) 1) = 1 then (if 0 ≤ ((rd_T38 l0 x18_2).f1) then (impl_hung.l1 k2 l0 a1 (Go.bits .or .u64 x7_2 (Go.bits .or .u64 (shl .u64 1 ((rd_T38 l0 x18_2).f0)) (shl .u64 1 ((rd_T38 l0 x18_2).f1)))) (l0.length : Int) x14_1 l0 (l0.length : Int) (wrap64 (x18_2 + 1))) else (none)) else (if 0 ≤ ((rd_T38 l0 x18_2).f1) then (if (Go.bits .and .u64 (shr .u64 x7_2 ((rd_T38 l0 x18_2).f1)) 1) = 1 then (impl_hung.l1 k2 l0 a1 (Go.bits .or .u64 x7_2 (Go.bits .or .u64 (shl .u64 1 ((rd_T38 l0 x18_2).f0)) (shl .u64 1 ((rd_T38 l0 x18_2).f1)))) (l0.length : Int) x14_1 l0 (l0.length : Int) (wrap64 (x18_2 + 1))) else (impl_hung.l1 k2 l0 a1 x7_2 (l0.length : Int) x14_1 l0 (l0.length : Int) (wrap64 (x18_2 + 1)))) else (none))) = some r := by first | (rw [hji14] at H; exact H) | (simp only [hji14] at H ⊢; exact H)
                        have hji14_ : (x7_2 / 2 ^ min ((rd_T38 l0 x18_2).f0).toNat 64) = ji14 := hji14
                        have hji14z : ((rd_T38 l0 x18_2).f0) ≤ 64 → (x7_2 / 2 ^ ((rd_T38 l0 x18_2).f0).toNat) = ji14 := shr_small hji14
                        by_cases c15 : (Go.bits .and .u64 (ji14) 1) = 1
                        · rw [if_pos c15] at H
                          have c15b0 : ((Go.bits .and .u64 (ji14) 1) == 1) = true := beq_iff_eq.mpr c15
                          have c15b1 : ((Go.bits .and .u64 (ji14) 1) != 1) = false := bne_eq_false_iff_eq.mpr c15
                          clear c15
                          have c16b0 := eq_true (of_decide_eq_true (by first | (with_reducible assumption) | assumption) : 0 ≤ ((rd_T38 l0 x18_2).f0))
                          obtain ⟨ji17, hji17⟩ : ∃ j_ : Int, (shl .u64 1 ((rd_T38 l0 x18_2).f0)) = j_ := ⟨_, rfl⟩
                          replace H : (if 0 ≤ ((rd_T38 l0 x18_2).f1) then (impl_hung.l1 k2 l0 a1 (Go.bits .or .u64 x7_2 (Go.bits .or .u64 (ji17) (shl .u64 1 ((rd_T38 l0 x18_2).f1)))) (l0.length : Int) x14_1 l0 (l0.length : Int) (wrap64 (x18_2 + 1))) else (none)) = some r := by first | (rw [hji17] at H; exact H) | (simp only [hji17] at H ⊢; exact H)
                          have hji17_ : (IntKind.u64.wrap (1 * 2 ^ min ((rd_T38 l0 x18_2).f0).toNat 64)) = ji17 := hji17
                          have hji17z : ((rd_T38 l0 x18_2).f0) ≤ 64 → (IntKind.u64.wrap (1 * 2 ^ ((rd_T38 l0 x18_2).f0).toNat)) = ji17 := shl_small hji17
                          have hji17u : (IntKind.u64.wrap (2 ^ min ((rd_T38 l0 x18_2).f0).toNat 64)) = ji17 := by have h_ := hji17_; rw [Int.one_mul] at h_; exact h_
                          have hji17v : ((rd_T38 l0 x18_2).f0) ≤ 64 → (IntKind.u64.wrap (2 ^ ((rd_T38 l0 x18_2).f0).toNat)) = ji17 := fun hle_ => by have h_ := hji17z hle_; rw [Int.one_mul] at h_; exact h_
                          by_cases c18 : 0 ≤ ((rd_T38 l0 x18_2).f1)
                          · rw [if_pos c18] at H
                            have c18b0 := eq_true c18
                            have c18b1 : decide (0 ≤ ((rd_T38 l0 x18_2).f1)) = true := decide_eq_true c18
                            clear c18
                            obtain ⟨ji19, hji19⟩ : ∃ j_ : Int, (shl .u64 1 ((rd_T38 l0 x18_2).f1)) = j_ := ⟨_, rfl⟩
                            replace H : (impl_hung.l1 k2 l0 a1 (Go.bits .or .u64 x7_2 (Go.bits .or .u64 (ji17) (ji19))) (l0.length : Int) x14_1 l0 (l0.length : Int) (wrap64 (x18_2 + 1))) = some r := by first | (rw [hji19] at H; exact H) | (simp only [hji19] at H ⊢; exact H)
                            have hji19_ : (IntKind.u64.wrap (1 * 2 ^ min ((rd_T38 l0 x18_2).f1).toNat 64)) = ji19 := hji19
                            have hji19z : ((rd_T38 l0 x18_2).f1) ≤ 64 → (IntKind.u64.wrap (1 * 2 ^ ((rd_T38 l0 x18_2).f1).toNat)) = ji19 := shl_small hji19
                            have hji19u : (IntKind.u64.wrap (2 ^ min ((rd_T38 l0 x18_2).f1).toNat 64)) = ji19 := by have h_ := hji19_; rw [Int.one_mul] at h_; exact h_
                            have hji19v : ((rd_T38 l0 x18_2).f1) ≤ 64 → (IntKind.u64.wrap (2 ^ ((rd_T38 l0 x18_2).f1).toNat)) = ji19 := fun hle_ => by have h_ := hji19z hle_; rw [Int.one_mul] at h_; exact h_
                            have H' := Aside0.mk H
                            clear H
                            have p195 : 0 ≤ (x18_2 : Int) := of_decide_eq_true (by first | (with_reducible assumption) | assumption)
                            have q195 : x18_2 < (l0.length : Int) := of_decide_eq_true (by first | (with_reducible assumption) | assumption)
                            obtain ⟨ad195, e195, hx195_0, hx195_1⟩ := at_T38 HR0.out x18_2 p195 q195
                            cases e195
                            replace hx195_0 := (HB.out.cell (World.block_lt_of_cell? w _ hx195_0)).trans hx195_0
                            replace hx195_1 := (HB.out.cell (World.block_lt_of_cell? w _ hx195_1)).trans hx195_1
                            replace p195 := eq_true p195
                            replace q195 := eq_true q195
                            go_wp2_with (first | ((with_reducible refine gate_dst (N := 9) rfl ?_); refine box_event ?hg (N := 9) ?hd (cs := #[.int .i64 0, .int .i64 0]) (t := 38) ?hr ?_; (case hd => rfl); (case hg => rfl); (case hr => first | (go_simp; done) | (go_simp; rfl)); intro gb196 hg w20 hbox hb; have n0_ := Aside0.mk (below_step (by repeat (first | (with_reducible first | exact HB.out | apply below_alloc | apply pw_below_drewN | apply below_drew1) | exact HB.out)) hb); have n1_ := Aside0.mk (hbox); have n2_ := Aside0.mk ((by rw [hg]; exact (below_size (by repeat (first | (with_reducible first | exact HB.out | apply below_alloc | apply pw_below_drewN | apply below_drew1) | exact HB.out))) : w.heap.size ≤ gb196)); have n3_ := Aside0.mk ((by rw [hg]; exact (below_size (by repeat (first | (with_reducible first | exact HB.out | apply below_alloc | apply pw_below_drewN | apply below_drew1) | exact HB.out))) : w.heap.size ≤ gb196)); clear HB; have HB := n0_; have BK196 := n1_; have GW196 := n2_; have GE196 := n3_; clear n0_ n1_ n2_ n3_; clear hb hbox hg; have hcz21_0 : w20.cell? ⟨gb196, 0, none⟩ = some (.int .i64 0) := (blk_cell BK196.out 0).trans rfl; have hcz21_1 : w20.cell? ⟨gb196, 1, none⟩ = some (.int .i64 0) := (blk_cell BK196.out 1).trans rfl; have hfz21_0 := blk_frozen BK196.out 0; have hfz21_1 := blk_frozen BK196.out 1))
                            repeat (go_quiet (first | ((with_reducible refine gate_dst (N := 9) rfl ?_); refine box_event ?hg (N := 9) ?hd (cs := #[.int .i64 0, .int .i64 0]) (t := 38) ?hr ?_; (case hd => rfl); (case hg => rfl); (case hr => first | (go_simp; done) | (go_simp; rfl)); intro gb196 hg w20 hbox hb; have n0_ := Aside0.mk (below_step (by repeat (first | (with_reducible first | exact HB.out | apply below_alloc | apply pw_below_drewN | apply below_drew1) | exact HB.out)) hb); have n1_ := Aside0.mk (hbox); have n2_ := Aside0.mk ((by rw [hg]; exact (below_size (by repeat (first | (with_reducible first | exact HB.out | apply below_alloc | apply pw_below_drewN | apply below_drew1) | exact HB.out))) : w.heap.size ≤ gb196)); have n3_ := Aside0.mk ((by rw [hg]; exact (below_size (by repeat (first | (with_reducible first | exact HB.out | apply below_alloc | apply pw_below_drewN | apply below_drew1) | exact HB.out))) : w.heap.size ≤ gb196)); clear HB; have HB := n0_; have BK196 := n1_; have GW196 := n2_; have GE196 := n3_; clear n0_ n1_ n2_ n3_; clear hb hbox hg; have hcz21_0 : w20.cell? ⟨gb196, 0, none⟩ = some (.int .i64 0) := (blk_cell BK196.out 0).trans rfl; have hcz21_1 : w20.cell? ⟨gb196, 1, none⟩ = some (.int .i64 0) := (blk_cell BK196.out 1).trans rfl; have hfz21_0 := blk_frozen BK196.out 0; have hfz21_1 := blk_frozen BK196.out 1)); try go_wp2_with (first | ((with_reducible refine gate_dst (N := 9) rfl ?_); refine box_event ?hg (N := 9) ?hd (cs := #[.int .i64 0, .int .i64 0]) (t := 38) ?hr ?_; (case hd => rfl); (case hg => rfl); (case hr => first | (go_simp; done) | (go_simp; rfl)); intro gb196 hg w20 hbox hb; have n0_ := Aside0.mk (below_step (by repeat (first | (with_reducible first | exact HB.out | apply below_alloc | apply pw_below_drewN | apply below_drew1) | exact HB.out)) hb); have n1_ := Aside0.mk (hbox); have n2_ := Aside0.mk ((by rw [hg]; exact (below_size (by repeat (first | (with_reducible first | exact HB.out | apply below_alloc | apply pw_below_drewN | apply below_drew1) | exact HB.out))) : w.heap.size ≤ gb196)); have n3_ := Aside0.mk ((by rw [hg]; exact (below_size (by repeat (first | (with_reducible first | exact HB.out | apply below_alloc | apply pw_below_drewN | apply below_drew1) | exact HB.out))) : w.heap.size ≤ gb196)); clear HB; have HB := n0_; have BK196 := n1_; have GW196 := n2_; have GE196 := n3_; clear n0_ n1_ n2_ n3_; clear hb hbox hg; have hcz21_0 : w20.cell? ⟨gb196, 0, none⟩ = some (.int .i64 0) := (blk_cell BK196.out 0).trans rfl; have hcz21_1 : w20.cell? ⟨gb196, 1, none⟩ = some (.int .i64 0) := (blk_cell BK196.out 1).trans rfl; have hfz21_0 := blk_frozen BK196.out 0; have hfz21_1 := blk_frozen BK196.out 1)))
                            go_roundg k2
                            case measure => have := HK1.out; have := HK2.out; omega
                            case rel => exact ⟨(Go.bits .or .u64 x7_2 (Go.bits .or .u64 (ji17) (ji19))), (wrap64 (x18_2 + 1)), (by first | rfl | (simp; done) | (simp only [← hji17, ← hji19] <;> (first | rfl | simp)) | (simp [*]; done)), (by first | rfl | (simp; done) | (simp [*]; done)), H', ⟨by have := HK1.out; have := HK2.out; omega⟩, ⟨by repeat (first | (with_reducible first | exact HB.out | apply below_alloc | apply pw_below_drewN | apply below_drew1 | refine below_set ?_ GE196.out) | exact HB.out)⟩⟩
                          · rw [if_neg c18] at H
                            exact absurd H (by simp)
                        · rw [if_neg c15] at H
                          have c15b0 : ((Go.bits .and .u64 (ji14) 1) == 1) = false := beq_eq_false_iff_ne.mpr c15
                          have c15b1 : ((Go.bits .and .u64 (ji14) 1) != 1) = true := bne_iff_ne.mpr c15
                          by_cases c22 : 0 ≤ ((rd_T38 l0 x18_2).f1)
                          · rw [if_pos c22] at H
                            have c22b0 := eq_true c22
                            have c22b1 : decide (0 ≤ ((rd_T38 l0 x18_2).f1)) = true := decide_eq_true c22
                            clear c22
                            obtain ⟨ji23, hji23⟩ : ∃ j_ : Int, (shr .u64 x7_2 ((rd_T38 l0 x18_2).f1)) = j_ := ⟨_, rfl⟩
                            replace H : (if (Go.bits .and .u64 (ji23) 1) = 1 then (impl_hung.l1 k2 l0 a1 (Go.bits .or .u64 x7_2 (Go.bits .or .u64 (shl .u64 1 ((rd_T38 l0 x18_2).f0)) (shl .u64 1 ((rd_T38 l0 x18_2).f1)))) (l0.length : Int) x14_1 l0 (l0.length : Int) (wrap64 (x18_2 + 1))) else (impl_hung.l1 k2 l0 a1 x7_2 (l0.length : Int) x14_1 l0 (l0.length : Int) (wrap64 (x18_2 + 1)))) = some r := by first | (rw [hji23] at H; exact H) | (simp only [hji23] at H ⊢; exact H)
                            have hji23_ : (x7_2 / 2 ^ min ((rd_T38 l0 x18_2).f1).toNat 64) = ji23 := hji23
                            have hji23z : ((rd_T38 l0 x18_2).f1) ≤ 64 → (x7_2 / 2 ^ ((rd_T38 l0 x18_2).f1).toNat) = ji23 := shr_small hji23
                            by_cases c24 : (Go.bits .and .u64 (ji23) 1) = 1
                            · rw [if_pos c24] at H
                              have c24b0 : ((Go.bits .and .u64 (ji23) 1) == 1) = true := beq_iff_eq.mpr c24
                              have c24b1 : ((Go.bits .and .u64 (ji23) 1) != 1) = false := bne_eq_false_iff_eq.mpr c24
                              clear c24
                              have c25b0 := eq_true (of_decide_eq_true (by first | (with_reducible assumption) | assumption) : 0 ≤ ((rd_T38 l0 x18_2).f0))
                              obtain ⟨ji26, hji26⟩ : ∃ j_ : Int, (shl .u64 1 ((rd_T38 l0 x18_2).f0)) = j_ := ⟨_, rfl⟩
                              replace H : (impl_hung.l1 k2 l0 a1 (Go.bits .or .u64 x7_2 (Go.bits .or .u64 (ji26) (shl .u64 1 ((rd_T38 l0 x18_2).f1)))) (l0.length : Int) x14_1 l0 (l0.length : Int) (wrap64 (x18_2 + 1))) = some r := by first | (rw [hji26] at H; exact H) | (simp only [hji26] at H ⊢; exact H)
                              have hji26_ : (IntKind.u64.wrap (1 * 2 ^ min ((rd_T38 l0 x18_2).f0).toNat 64)) = ji26 := hji26
                              have hji26z : ((rd_T38 l0 x18_2).f0) ≤ 64 → (IntKind.u64.wrap (1 * 2 ^ ((rd_T38 l0 x18_2).f0).toNat)) = ji26 := shl_small hji26
                              have hji26u : (IntKind.u64.wrap (2 ^ min ((rd_T38 l0 x18_2).f0).toNat 64)) = ji26 := by have h_ := hji26_; rw [Int.one_mul] at h_; exact h_
                              have hji26v : ((rd_T38 l0 x18_2).f0) ≤ 64 → (IntKind.u64.wrap (2 ^ ((rd_T38 l0 x18_2).f0).toNat)) = ji26 := fun hle_ => by have h_ := hji26z hle_; rw [Int.one_mul] at h_; exact h_
                              have c27b0 := eq_true (of_decide_eq_true (by first | (with_reducible assumption) | assumption) : 0 ≤ ((rd_T38 l0 x18_2).f1))
                              obtain ⟨ji28, hji28⟩ : ∃ j_ : Int, (shl .u64 1 ((rd_T38 l0 x18_2).f1)) = j_ := ⟨_, rfl⟩
                              replace H : (impl_hung.l1 k2 l0 a1 (Go.bits .or .u64 x7_2 (Go.bits .or .u64 (ji26) (ji28))) (l0.length : Int) x14_1 l0 (l0.length : Int) (wrap64 (x18_2 + 1))) = some r := by first | (rw [hji28] at H; exact H) | (simp only [hji28] at H ⊢; exact H)
                              have hji28_ : (IntKind.u64.wrap (1 * 2 ^ min ((rd_T38 l0 x18_2).f1).toNat 64)) = ji28 := hji28
                              have hji28z : ((rd_T38 l0 x18_2).f1) ≤ 64 → (IntKind.u64.wrap (1 * 2 ^ ((rd_T38 l0 x18_2).f1).toNat)) = ji28 := shl_small hji28
                              have hji28u : (IntKind.u64.wrap (2 ^ min ((rd_T38 l0 x18_2).f1).toNat 64)) = ji28 := by have h_ := hji28_; rw [Int.one_mul] at h_; exact h_
                              have hji28v : ((rd_T38 l0 x18_2).f1) ≤ 64 → (IntKind.u64.wrap (2 ^ ((rd_T38 l0 x18_2).f1).toNat)) = ji28 := fun hle_ => by have h_ := hji28z hle_; rw [Int.one_mul] at h_; exact h_
                              have H' := Aside0.mk H
                              clear H
                              have p195 : 0 ≤ (x18_2 : Int) := of_decide_eq_true (by first | (with_reducible assumption) | assumption)
                              have q195 : x18_2 < (l0.length : Int) := of_decide_eq_true (by first | (with_reducible assumption) | assumption)
                              obtain ⟨ad195, e195, hx195_0, hx195_1⟩ := at_T38 HR0.out x18_2 p195 q195
                              cases e195
                              replace hx195_0 := (HB.out.cell (World.block_lt_of_cell? w _ hx195_0)).trans hx195_0
                              replace hx195_1 := (HB.out.cell (World.block_lt_of_cell? w _ hx195_1)).trans hx195_1
                              replace p195 := eq_true p195
                              replace q195 := eq_true q195
                              go_wp2_with (first | ((with_reducible refine gate_dst (N := 9) rfl ?_); refine box_event ?hg (N := 9) ?hd (cs := #[.int .i64 0, .int .i64 0]) (t := 38) ?hr ?_; (case hd => rfl); (case hg => rfl); (case hr => first | (go_simp; done) | (go_simp; rfl)); intro gb196 hg w29 hbox hb; have n0_ := Aside0.mk (below_step (by repeat (first | (with_reducible first | exact HB.out | apply below_alloc | apply pw_below_drewN | apply below_drew1) | exact HB.out)) hb); have n1_ := Aside0.mk (hbox); have n2_ := Aside0.mk ((by rw [hg]; exact (below_size (by repeat (first | (with_reducible first | exact HB.out | apply below_alloc | apply pw_below_drewN | apply below_drew1) | exact HB.out))) : w.heap.size ≤ gb196)); have n3_ := Aside0.mk ((by rw [hg]; exact (below_size (by repeat (first | (with_reducible first | exact HB.out | apply below_alloc | apply pw_below_drewN | apply below_drew1) | exact HB.out))) : w.heap.size ≤ gb196)); clear HB; have HB := n0_; have BK196 := n1_; have GW196 := n2_; have GE196 := n3_; clear n0_ n1_ n2_ n3_; clear hb hbox hg; have hcz30_0 : w29.cell? ⟨gb196, 0, none⟩ = some (.int .i64 0) := (blk_cell BK196.out 0).trans rfl; have hcz30_1 : w29.cell? ⟨gb196, 1, none⟩ = some (.int .i64 0) := (blk_cell BK196.out 1).trans rfl; have hfz30_0 := blk_frozen BK196.out 0; have hfz30_1 := blk_frozen BK196.out 1))
                              repeat (go_quiet (first | ((with_reducible refine gate_dst (N := 9) rfl ?_); refine box_event ?hg (N := 9) ?hd (cs := #[.int .i64 0, .int .i64 0]) (t := 38) ?hr ?_; (case hd => rfl); (case hg => rfl); (case hr => first | (go_simp; done) | (go_simp; rfl)); intro gb196 hg w29 hbox hb; have n0_ := Aside0.mk (below_step (by repeat (first | (with_reducible first | exact HB.out | apply below_alloc | apply pw_below_drewN | apply below_drew1) | exact HB.out)) hb); have n1_ := Aside0.mk (hbox); have n2_ := Aside0.mk ((by rw [hg]; exact (below_size (by repeat (first | (with_reducible first | exact HB.out | apply below_alloc | apply pw_below_drewN | apply below_drew1) | exact HB.out))) : w.heap.size ≤ gb196)); have n3_ := Aside0.mk ((by rw [hg]; exact (below_size (by repeat (first | (with_reducible first | exact HB.out | apply below_alloc | apply pw_below_drewN | apply below_drew1) | exact HB.out))) : w.heap.size ≤ gb196)); clear HB; have HB := n0_; have BK196 := n1_; have GW196 := n2_; have GE196 := n3_; clear n0_ n1_ n2_ n3_; clear hb hbox hg; have hcz30_0 : w29.cell? ⟨gb196, 0, none⟩ = some (.int .i64 0) := (blk_cell BK196.out 0).trans rfl; have hcz30_1 : w29.cell? ⟨gb196, 1, none⟩ = some (.int .i64 0) := (blk_cell BK196.out 1).trans rfl; have hfz30_0 := blk_frozen BK196.out 0; have hfz30_1 := blk_frozen BK196.out 1)); try go_wp2_with (first | ((with_reducible refine gate_dst (N := 9) rfl ?_); refine box_event ?hg (N := 9) ?hd (cs := #[.int .i64 0, .int .i64 0]) (t := 38) ?hr ?_; (case hd => rfl); (case hg => rfl); (case hr => first | (go_simp; done) | (go_simp; rfl)); intro gb196 hg w29 hbox hb; have n0_ := Aside0.mk (below_step (by repeat (first | (with_reducible first | exact HB.out | apply below_alloc | apply pw_below_drewN | apply below_drew1) | exact HB.out)) hb); have n1_ := Aside0.mk (hbox); have n2_ := Aside0.mk ((by rw [hg]; exact (below_size (by repeat (first | (with_reducible first | exact HB.out | apply below_alloc | apply pw_below_drewN | apply below_drew1) | exact HB.out))) : w.heap.size ≤ gb196)); have n3_ := Aside0.mk ((by rw [hg]; exact (below_size (by repeat (first | (with_reducible first | exact HB.out | apply below_alloc | apply pw_below_drewN | apply below_drew1) | exact HB.out))) : w.heap.size ≤ gb196)); clear HB; have HB := n0_; have BK196 := n1_; have GW196 := n2_; have GE196 := n3_; clear n0_ n1_ n2_ n3_; clear hb hbox hg; have hcz30_0 : w29.cell? ⟨gb196, 0, none⟩ = some (.int .i64 0) := (blk_cell BK196.out 0).trans rfl; have hcz30_1 : w29.cell? ⟨gb196, 1, none⟩ = some (.int .i64 0) := (blk_cell BK196.out 1).trans rfl; have hfz30_0 := blk_frozen BK196.out 0; have hfz30_1 := blk_frozen BK196.out 1)))
                              go_roundg k2
                              case measure => have := HK1.out; have := HK2.out; omega
                              case rel => exact ⟨(Go.bits .or .u64 x7_2 (Go.bits .or .u64 (ji26) (ji28))), (wrap64 (x18_2 + 1)), (by first | rfl | (simp; done) | (simp only [← hji26, ← hji28] <;> (first | rfl | simp)) | (simp [*]; done)), (by first | rfl | (simp; done) | (simp [*]; done)), H', ⟨by have := HK1.out; have := HK2.out; omega⟩, ⟨by repeat (first | (with_reducible first | exact HB.out | apply below_alloc | apply pw_below_drewN | apply below_drew1 | refine below_set ?_ GE196.out) | exact HB.out)⟩⟩
                            · rw [if_neg c24] at H
                              have c24b0 : ((Go.bits .and .u64 (ji23) 1) == 1) = false := beq_eq_false_iff_ne.mpr c24
                              have c24b1 : ((Go.bits .and .u64 (ji23) 1) != 1) = true := bne_iff_ne.mpr c24
                              have H' := Aside0.mk H
                              clear H
                              have p195 : 0 ≤ (x18_2 : Int) := of_decide_eq_true (by first | (with_reducible assumption) | assumption)
                              have q195 : x18_2 < (l0.length : Int) := of_decide_eq_true (by first | (with_reducible assumption) | assumption)
                              obtain ⟨ad195, e195, hx195_0, hx195_1⟩ := at_T38 HR0.out x18_2 p195 q195
                              cases e195
                              replace hx195_0 := (HB.out.cell (World.block_lt_of_cell? w _ hx195_0)).trans hx195_0
                              replace hx195_1 := (HB.out.cell (World.block_lt_of_cell? w _ hx195_1)).trans hx195_1
                              replace p195 := eq_true p195
                              replace q195 := eq_true q195
                              go_wp2_with (first | ((with_reducible refine gate_dst (N := 9) rfl ?_); refine box_event ?hg (N := 9) ?hd (cs := #[.int .i64 0, .int .i64 0]) (t := 38) ?hr ?_; (case hd => rfl); (case hg => rfl); (case hr => first | (go_simp; done) | (go_simp; rfl)); intro gb196 hg w31 hbox hb; have n0_ := Aside0.mk (below_step (by repeat (first | (with_reducible first | exact HB.out | apply below_alloc | apply pw_below_drewN | apply below_drew1) | exact HB.out)) hb); have n1_ := Aside0.mk (hbox); have n2_ := Aside0.mk ((by rw [hg]; exact (below_size (by repeat (first | (with_reducible first | exact HB.out | apply below_alloc | apply pw_below_drewN | apply below_drew1) | exact HB.out))) : w.heap.size ≤ gb196)); have n3_ := Aside0.mk ((by rw [hg]; exact (below_size (by repeat (first | (with_reducible first | exact HB.out | apply below_alloc | apply pw_below_drewN | apply below_drew1) | exact HB.out))) : w.heap.size ≤ gb196)); clear HB; have HB := n0_; have BK196 := n1_; have GW196 := n2_; have GE196 := n3_; clear n0_ n1_ n2_ n3_; clear hb hbox hg; have hcz32_0 : w31.cell? ⟨gb196, 0, none⟩ = some (.int .i64 0) := (blk_cell BK196.out 0).trans rfl; have hcz32_1 : w31.cell? ⟨gb196, 1, none⟩ = some (.int .i64 0) := (blk_cell BK196.out 1).trans rfl; have hfz32_0 := blk_frozen BK196.out 0; have hfz32_1 := blk_frozen BK196.out 1))
                              repeat (go_quiet (first | ((with_reducible refine gate_dst (N := 9) rfl ?_); refine box_event ?hg (N := 9) ?hd (cs := #[.int .i64 0, .int .i64 0]) (t := 38) ?hr ?_; (case hd => rfl); (case hg => rfl); (case hr => first | (go_simp; done) | (go_simp; rfl)); intro gb196 hg w31 hbox hb; have n0_ := Aside0.mk (below_step (by repeat (first | (with_reducible first | exact HB.out | apply below_alloc | apply pw_below_drewN | apply below_drew1) | exact HB.out)) hb); have n1_ := Aside0.mk (hbox); have n2_ := Aside0.mk ((by rw [hg]; exact (below_size (by repeat (first | (with_reducible first | exact HB.out | apply below_alloc | apply pw_below_drewN | apply below_drew1) | exact HB.out))) : w.heap.size ≤ gb196)); have n3_ := Aside0.mk ((by rw [hg]; exact (below_size (by repeat (first | (with_reducible first | exact HB.out | apply below_alloc | apply pw_below_drewN | apply below_drew1) | exact HB.out))) : w.heap.size ≤ gb196)); clear HB; have HB := n0_; have BK196 := n1_; have GW196 := n2_; have GE196 := n3_; clear n0_ n1_ n2_ n3_; clear hb hbox hg; have hcz32_0 : w31.cell? ⟨gb196, 0, none⟩ = some (.int .i64 0) := (blk_cell BK196.out 0).trans rfl; have hcz32_1 : w31.cell? ⟨gb196, 1, none⟩ = some (.int .i64 0) := (blk_cell BK196.out 1).trans rfl; have hfz32_0 := blk_frozen BK196.out 0; have hfz32_1 := blk_frozen BK196.out 1)); try go_wp2_with (first | ((with_reducible refine gate_dst (N := 9) rfl ?_); refine box_event ?hg (N := 9) ?hd (cs := #[.int .i64 0, .int .i64 0]) (t := 38) ?hr ?_; (case hd => rfl); (case hg => rfl); (case hr => first | (go_simp; done) | (go_simp; rfl)); intro gb196 hg w31 hbox hb; have n0_ := Aside0.mk (below_step (by repeat (first | (with_reducible first | exact HB.out | apply below_alloc | apply pw_below_drewN | apply below_drew1) | exact HB.out)) hb); have n1_ := Aside0.mk (hbox); have n2_ := Aside0.mk ((by rw [hg]; exact (below_size (by repeat (first | (with_reducible first | exact HB.out | apply below_alloc | apply pw_below_drewN | apply below_drew1) | exact HB.out))) : w.heap.size ≤ gb196)); have n3_ := Aside0.mk ((by rw [hg]; exact (below_size (by repeat (first | (with_reducible first | exact HB.out | apply below_alloc | apply pw_below_drewN | apply below_drew1) | exact HB.out))) : w.heap.size ≤ gb196)); clear HB; have HB := n0_; have BK196 := n1_; have GW196 := n2_; have GE196 := n3_; clear n0_ n1_ n2_ n3_; clear hb hbox hg; have hcz32_0 : w31.cell? ⟨gb196, 0, none⟩ = some (.int .i64 0) := (blk_cell BK196.out 0).trans rfl; have hcz32_1 : w31.cell? ⟨gb196, 1, none⟩ = some (.int .i64 0) := (blk_cell BK196.out 1).trans rfl; have hfz32_0 := blk_frozen BK196.out 0; have hfz32_1 := blk_frozen BK196.out 1)))
                              go_roundg k2
                              case measure => have := HK1.out; have := HK2.out; omega
                              case rel => exact ⟨(x7_2), (wrap64 (x18_2 + 1)), (by first | rfl | (simp; done) | (simp [*]; done)), (by first | rfl | (simp; done) | (simp [*]; done)), H', ⟨by have := HK1.out; have := HK2.out; omega⟩, ⟨by repeat (first | (with_reducible first | exact HB.out | apply below_alloc | apply pw_below_drewN | apply below_drew1 | refine below_set ?_ GE196.out) | exact HB.out)⟩⟩
                          · rw [if_neg c22] at H
                            exact absurd H (by simp)
                      · rw [if_neg c13] at H
                        exact absurd H (by simp)
                    · rw [if_neg c12] at H
                      have c12b0 : ((Go.bits .and .u64 (ji11) 1) == 1) = false := beq_eq_false_iff_ne.mpr c12
                      have c12b1 : ((Go.bits .and .u64 (ji11) 1) != 1) = true := bne_iff_ne.mpr c12
                      have H' := Aside0.mk H
                      clear H
                      have p195 : 0 ≤ (x18_2 : Int) := of_decide_eq_true (by first | (with_reducible assumption) | assumption)
                      have q195 : x18_2 < (l0.length : Int) := of_decide_eq_true (by first | (with_reducible assumption) | assumption)
                      obtain ⟨ad195, e195, hx195_0, hx195_1⟩ := at_T38 HR0.out x18_2 p195 q195
                      cases e195
                      replace hx195_0 := (HB.out.cell (World.block_lt_of_cell? w _ hx195_0)).trans hx195_0
                      replace hx195_1 := (HB.out.cell (World.block_lt_of_cell? w _ hx195_1)).trans hx195_1
                      replace p195 := eq_true p195
                      replace q195 := eq_true q195
                      go_wp2_with (first | ((with_reducible refine gate_dst (N := 9) rfl ?_); refine box_event ?hg (N := 9) ?hd (cs := #[.int .i64 0, .int .i64 0]) (t := 38) ?hr ?_; (case hd => rfl); (case hg => rfl); (case hr => first | (go_simp; done) | (go_simp; rfl)); intro gb196 hg w33 hbox hb; have n0_ := Aside0.mk (below_step (by repeat (first | (with_reducible first | exact HB.out | apply below_alloc | apply pw_below_drewN | apply below_drew1) | exact HB.out)) hb); have n1_ := Aside0.mk (hbox); have n2_ := Aside0.mk ((by rw [hg]; exact (below_size (by repeat (first | (with_reducible first | exact HB.out | apply below_alloc | apply pw_below_drewN | apply below_drew1) | exact HB.out))) : w.heap.size ≤ gb196)); have n3_ := Aside0.mk ((by rw [hg]; exact (below_size (by repeat (first | (with_reducible first | exact HB.out | apply below_alloc | apply pw_below_drewN | apply below_drew1) | exact HB.out))) : w.heap.size ≤ gb196)); clear HB; have HB := n0_; have BK196 := n1_; have GW196 := n2_; have GE196 := n3_; clear n0_ n1_ n2_ n3_; clear hb hbox hg; have hcz34_0 : w33.cell? ⟨gb196, 0, none⟩ = some (.int .i64 0) := (blk_cell BK196.out 0).trans rfl; have hcz34_1 : w33.cell? ⟨gb196, 1, none⟩ = some (.int .i64 0) := (blk_cell BK196.out 1).trans rfl; have hfz34_0 := blk_frozen BK196.out 0; have hfz34_1 := blk_frozen BK196.out 1))
                      repeat (go_quiet (first | ((with_reducible refine gate_dst (N := 9) rfl ?_); refine box_event ?hg (N := 9) ?hd (cs := #[.int .i64 0, .int .i64 0]) (t := 38) ?hr ?_; (case hd => rfl); (case hg => rfl); (case hr => first | (go_simp; done) | (go_simp; rfl)); intro gb196 hg w33 hbox hb; have n0_ := Aside0.mk (below_step (by repeat (first | (with_reducible first | exact HB.out | apply below_alloc | apply pw_below_drewN | apply below_drew1) | exact HB.out)) hb); have n1_ := Aside0.mk (hbox); have n2_ := Aside0.mk ((by rw [hg]; exact (below_size (by repeat (first | (with_reducible first | exact HB.out | apply below_alloc | apply pw_below_drewN | apply below_drew1) | exact HB.out))) : w.heap.size ≤ gb196)); have n3_ := Aside0.mk ((by rw [hg]; exact (below_size (by repeat (first | (with_reducible first | exact HB.out | apply below_alloc | apply pw_below_drewN | apply below_drew1) | exact HB.out))) : w.heap.size ≤ gb196)); clear HB; have HB := n0_; have BK196 := n1_; have GW196 := n2_; have GE196 := n3_; clear n0_ n1_ n2_ n3_; clear hb hbox hg; have hcz34_0 : w33.cell? ⟨gb196, 0, none⟩ = some (.int .i64 0) := (blk_cell BK196.out 0).trans rfl; have hcz34_1 : w33.cell? ⟨gb196, 1, none⟩ = some (.int .i64 0) := (blk_cell BK196.out 1).trans rfl; have hfz34_0 := blk_frozen BK196.out 0; have hfz34_1 := blk_frozen BK196.out 1)); try go_wp2_with (first | ((with_reducible refine gate_dst (N := 9) rfl ?_); refine box_event ?hg (N := 9) ?hd (cs := #[.int .i64 0, .int .i64 0]) (t := 38) ?hr ?_; (case hd => rfl); (case hg => rfl); (case hr => first | (go_simp; done) | (go_simp; rfl)); intro gb196 hg w33 hbox hb; have n0_ := Aside0.mk (below_step (by repeat (first | (with_reducible first | exact HB.out | apply below_alloc | apply pw_below_drewN | apply below_drew1) | exact HB.out)) hb); have n1_ := Aside0.mk (hbox); have n2_ := Aside0.mk ((by rw [hg]; exact (below_size (by repeat (first | (with_reducible first | exact HB.out | apply below_alloc | apply pw_below_drewN | apply below_drew1) | exact HB.out))) : w.heap.size ≤ gb196)); have n3_ := Aside0.mk ((by rw [hg]; exact (below_size (by repeat (first | (with_reducible first | exact HB.out | apply below_alloc | apply pw_below_drewN | apply below_drew1) | exact HB.out))) : w.heap.size ≤ gb196)); clear HB; have HB := n0_; have BK196 := n1_; have GW196 := n2_; have GE196 := n3_; clear n0_ n1_ n2_ n3_; clear hb hbox hg; have hcz34_0 : w33.cell? ⟨gb196, 0, none⟩ = some (.int .i64 0) := (blk_cell BK196.out 0).trans rfl; have hcz34_1 : w33.cell? ⟨gb196, 1, none⟩ = some (.int .i64 0) := (blk_cell BK196.out 1).trans rfl; have hfz34_0 := blk_frozen BK196.out 0; have hfz34_1 := blk_frozen BK196.out 1)))
                      go_roundg k2
                      case measure => have := HK1.out; have := HK2.out; omega
                      case rel => exact ⟨(x7_2), (wrap64 (x18_2 + 1)), (by first | rfl | (simp; done) | (simp [*]; done)), (by first | rfl | (simp; done) | (simp [*]; done)), H', ⟨by have := HK1.out; have := HK2.out; omega⟩, ⟨by repeat (first | (with_reducible first | exact HB.out | apply below_alloc | apply pw_below_drewN | apply below_drew1 | refine below_set ?_ GE196.out) | exact HB.out)⟩⟩
                  · rw [if_neg c9] at H
                    exact absurd H (by simp)
                · rw [if_neg c8] at H
                  exact absurd H (by simp)
              · rw [if_neg c7] at H
                have c7b0 : decide (x18_2 < (l0.length : Int)) = false := decide_eq_false c7
                clear c7
                have H' := Aside0.mk H
                clear H
                go_wp2
                repeat (go_quiet (fail); try go_wp2)
                go_roundg k2
                case measure => have := HK1.out; have := HK2.out; omega
                case rel => exact ⟨(x7_2), (wrap64 (x14_1 + 1)), (by first | rfl | (simp; done) | (simp [*]; done)), (by first | rfl | (simp; done) | (simp [*]; done)), H', ⟨by have := HK1.out; have := HK2.out; omega⟩, ⟨by repeat (first | (with_reducible first | exact HB.out | apply below_alloc | apply pw_below_drewN | apply below_drew1) | exact HB.out)⟩⟩
        · rw [if_neg c6] at H
          have c6b0 : decide (x14_1 < (l0.length : Int)) = false := decide_eq_false c6
          clear c6
          obtain rfl := Option.some.inj H
          go_wp2
          repeat (go_quiet (fail); try go_wp2)
          go_ret
          exact ⟨by first | rfl | (simp [errW_none, errW_some] <;> rfl) | (simp only [← hji5]; first | rfl | (simp [errW_none, errW_some] <;> rfl)) | (simp [*, errW_none, errW_some] <;> rfl), by repeat (first | (with_reducible first | exact HB.out | apply below_alloc | apply pw_below_drewN | apply below_drew1) | exact HB.out)⟩
  · rw [if_neg c4] at H
    exact absurd H (by simp)

end Go.Proofs.YtgbcaicnpajekaaDoor.QFnExactBridgesOf
