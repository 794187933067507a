/- The Go functions that the law FnExactGrundyByFusion reaches, as Lean functions, and what their calls do. Written by a program of this session. -/
import Derived.Test.YtoiobcdaomfepaaQFnExactGrundyByFusionx0
import Derived.Test.YtoiobcdaomfepaaQFnExactGrundyByFusionx2
namespace Go.Proofs.Ytoiobcdaomfepaa.QFnExactGrundyByFusion
open Go.RowKit Go.Proofs.YtoiobcdaomfepaaW.PrintWords Go.Proofs.YtoiobcdaomfepaaW.PrintLast Go.Proofs.YtoiobcdaomfepaaW.PrintMore
attribute [local go_sem] max2_int min2_int max_two min_two max_three min_three max_four min_four   -- for this text's walks alone
set_option linter.unusedVariables false
set_option linter.unusedSimpArgs false

/-! ### spec_grFused: function 58 -/
mutual
def spec_grFused.l0 : Nat → List (S41) → List Bool → List Bool → Int → Int → List Bool → Int → Int → Option (Int)
  | 0, _, _, _, _, _, _, _, _ => none
  | k + 1, x0, x1, x2, x3, x4, x11, x18, x19 => if x19 < x18 then (if 0 ≤ x19 then (if x19 < (x1.length : Int) then (if rdOf false x1 x19 = true then (if x19 < (x2.length : Int) then (if x11.length < 140737488355328 then (spec_grFused.l0 k x0 x1 x2 x3 x4 (x11 ++ [!(rdOf false x2 x19)]) x18 (wrap64 (x19 + 1))) else (none)) else (none)) else (if x11.length < 140737488355328 then (spec_grFused.l0 k x0 x1 x2 x3 x4 (x11 ++ [false]) x18 (wrap64 (x19 + 1))) else (none))) else (none)) else (none)) else ((spec_grKnots.f k x0 x11 x3).bind fun t168 => (spec_grFused.l1 k x0 x1 x2 x4 t168 0 x0 (x0.length : Int) 0))
def spec_grFused.l1 : Nat → List (S41) → List Bool → List Bool → Int → List Int → Int → List (S41) → Int → Int → Option (Int)
  | 0, _, _, _, _, _, _, _, _, _ => none
  | k + 1, x0, x1, x2, x4, x13, x14, x41, x42, x43 => if x43 < x42 then (if 0 ≤ x43 then (if x43 < (x41.length : Int) then (if x43 < (x1.length : Int) then (if rdOf false x1 x43 = true then (spec_grFused.j2 k x0 x1 x2 x4 x13 x14 x43 x41 x42 x43 (x43 == x4) ((rd_T41 x41 x43).f0) ((rd_T41 x41 x43).f1)) else (spec_grFused.j2 k x0 x1 x2 x4 x13 x14 x43 x41 x42 x43 true ((rd_T41 x41 x43).f0) ((rd_T41 x41 x43).f1))) else (none)) else (none)) else (none)) else (some x14)
def spec_grFused.j2 : Nat → List (S41) → List Bool → List Bool → Int → List Int → Int → Int → List (S41) → Int → Int → Bool → Int → Int → Option (Int)
  | 0, _, _, _, _, _, _, _, _, _, _, _, _, _ => none
  | k + 1, x0, x1, x2, x4, x13, x14, x15, x41, x42, x43, x48, x173000, x173001 => if x48 = true then (spec_grFused.l1 k x0 x1 x2 x4 x13 x14 x41 x42 (wrap64 (x43 + 1))) else (if 0 ≤ x15 then (if x15 < (x2.length : Int) then (if rdOf false x2 x15 = true then (spec_grFused.j3 k x0 x1 x2 x4 x13 x14 x15 x41 x42 x43 false x173000 x173001) else ((spec_l1Has.f k x13 x173000).bind fun t175 => (spec_grFused.j3 k x0 x1 x2 x4 x13 x14 x15 x41 x42 x43 t175 x173000 x173001))) else (none)) else (none))
def spec_grFused.j3 : Nat → List (S41) → List Bool → List Bool → Int → List Int → Int → Int → List (S41) → Int → Int → Bool → Int → Int → Option (Int)
  | 0, _, _, _, _, _, _, _, _, _, _, _, _, _ => none
  | k + 1, x0, x1, x2, x4, x13, x14, x15, x41, x42, x43, x59, x173000, x173001 => if x59 = true then (spec_grFused.l1 k x0 x1 x2 x4 x13 (Go.bits .xor .i64 x14 1) x41 x42 (wrap64 (x43 + 1))) else (if 0 ≤ x15 then (if x15 < (x2.length : Int) then (if rdOf false x2 x15 = true then ((spec_l1Has.f k x13 x173000).bind fun t177 => (spec_grFused.j4 k x0 x1 x2 x4 x13 x14 x15 x41 x42 x43 t177 x173000 x173001)) else (spec_grFused.j4 k x0 x1 x2 x4 x13 x14 x15 x41 x42 x43 false x173000 x173001)) else (none)) else (none))
def spec_grFused.j4 : Nat → List (S41) → List Bool → List Bool → Int → List Int → Int → Int → List (S41) → Int → Int → Bool → Int → Int → Option (Int)
  | 0, _, _, _, _, _, _, _, _, _, _, _, _, _ => none
  | k + 1, x0, x1, x2, x4, x13, x14, x15, x41, x42, x43, x73, x173000, x173001 => if x73 = true then ((spec_grFused.f k x0 x1 x2 x173001 x15).bind fun t178 => (spec_grFused.l1 k x0 x1 x2 x4 x13 (Go.bits .xor .i64 x14 (wrap64 (t178 + 1))) x41 x42 (wrap64 (x43 + 1)))) else (if 0 ≤ x15 then (if x15 < (x2.length : Int) then (if rdOf false x2 x15 = true then ((spec_l1Has.f k x13 x173001).bind fun t180 => (if t180 = true then ((spec_grFused.f k x0 x1 x2 x173000 x15).bind fun t181 => (spec_grFused.l1 k x0 x1 x2 x4 x13 (Go.bits .xor .i64 x14 (wrap64 (t181 + 1))) x41 x42 (wrap64 (x43 + 1)))) else (spec_grFused.l1 k x0 x1 x2 x4 x13 x14 x41 x42 (wrap64 (x43 + 1))))) else (spec_grFused.l1 k x0 x1 x2 x4 x13 x14 x41 x42 (wrap64 (x43 + 1)))) else (none)) else (none))
def spec_grFused.f : Nat → List (S41) → List Bool → List Bool → Int → Int → Option (Int)
  | 0, _, _, _, _, _ => none
  | k + 1, l0, l1, l2, a3, a4 => spec_grFused.l0 k l0 l1 l2 a3 a4 ([] : List Bool) (l0.length : Int) 0
end
theorem spec_grFused.mono_l : ∀ k, (∀ y0 y1 y2 y3 y4, LeO (spec_grFused.f k y0 y1 y2 y3 y4) (spec_grFused.f (k + 1) y0 y1 y2 y3 y4)) ∧ (∀ y0 y1 y2 y3 y4 y5 y6 y7, LeO (spec_grFused.l0 k y0 y1 y2 y3 y4 y5 y6 y7) (spec_grFused.l0 (k + 1) y0 y1 y2 y3 y4 y5 y6 y7)) ∧ (∀ y0 y1 y2 y3 y4 y5 y6 y7 y8, LeO (spec_grFused.l1 k y0 y1 y2 y3 y4 y5 y6 y7 y8) (spec_grFused.l1 (k + 1) y0 y1 y2 y3 y4 y5 y6 y7 y8)) ∧ (∀ y0 y1 y2 y3 y4 y5 y6 y7 y8 y9 y10 y11 y12, LeO (spec_grFused.j2 k y0 y1 y2 y3 y4 y5 y6 y7 y8 y9 y10 y11 y12) (spec_grFused.j2 (k + 1) y0 y1 y2 y3 y4 y5 y6 y7 y8 y9 y10 y11 y12)) ∧ (∀ y0 y1 y2 y3 y4 y5 y6 y7 y8 y9 y10 y11 y12, LeO (spec_grFused.j3 k y0 y1 y2 y3 y4 y5 y6 y7 y8 y9 y10 y11 y12) (spec_grFused.j3 (k + 1) y0 y1 y2 y3 y4 y5 y6 y7 y8 y9 y10 y11 y12)) ∧ (∀ y0 y1 y2 y3 y4 y5 y6 y7 y8 y9 y10 y11 y12, LeO (spec_grFused.j4 k y0 y1 y2 y3 y4 y5 y6 y7 y8 y9 y10 y11 y12) (spec_grFused.j4 (k + 1) y0 y1 y2 y3 y4 y5 y6 y7 y8 y9 y10 y11 y12))
  | 0 => ⟨fun _ _ _ _ _ r h => by simp [spec_grFused.f] at h, fun _ _ _ _ _ _ _ _ r h => by simp [spec_grFused.l0] at h, fun _ _ _ _ _ _ _ _ _ r h => by simp [spec_grFused.l1] at h, fun _ _ _ _ _ _ _ _ _ _ _ _ _ r h => by simp [spec_grFused.j2] at h, fun _ _ _ _ _ _ _ _ _ _ _ _ _ r h => by simp [spec_grFused.j3] at h, fun _ _ _ _ _ _ _ _ _ _ _ _ _ r h => by simp [spec_grFused.j4] at h⟩
  | k + 1 => by
    obtain ⟨ih0, ih1, ih2, ih3, ih4, ih5⟩ := spec_grFused.mono_l k
    refine ⟨?_, ?_, ?_, ?_, ?_, ?_⟩
    · intro y0 y1 y2 y3 y4
      unfold spec_grFused.f
      repeat' first
      | (with_reducible exact ih0 _ _ _ _ _)
      | (with_reducible exact ih1 _ _ _ _ _ _ _ _)
      | (with_reducible exact ih2 _ _ _ _ _ _ _ _ _)
      | (with_reducible exact ih3 _ _ _ _ _ _ _ _ _ _ _ _ _)
      | (with_reducible exact ih4 _ _ _ _ _ _ _ _ _ _ _ _ _)
      | (with_reducible exact ih5 _ _ _ _ _ _ _ _ _ _ _ _ _)
      | (with_reducible exact spec_grKnots.mono _ _ _ _)
      | (with_reducible exact spec_l1Has.mono _ _ _)
      | (with_reducible exact LeO.refl _)
      | (with_reducible exact LeO.none _)
      | (with_reducible refine LeO.ite ?_ ?_)
      | (with_reducible refine LeO.bind ?_ (fun _ => ?_))
      | exact ih0 _ _ _ _ _
      | exact ih1 _ _ _ _ _ _ _ _
      | exact ih2 _ _ _ _ _ _ _ _ _
      | exact ih3 _ _ _ _ _ _ _ _ _ _ _ _ _
      | exact ih4 _ _ _ _ _ _ _ _ _ _ _ _ _
      | exact ih5 _ _ _ _ _ _ _ _ _ _ _ _ _
      | exact spec_grKnots.mono _ _ _ _
      | exact spec_l1Has.mono _ _ _
      | exact LeO.none _
      | refine LeO.ite ?_ ?_
      | refine LeO.bind ?_ (fun _ => ?_)
    · intro y0 y1 y2 y3 y4 y5 y6 y7
      unfold spec_grFused.l0
      repeat' first
      | (with_reducible exact ih0 _ _ _ _ _)
      | (with_reducible exact ih1 _ _ _ _ _ _ _ _)
      | (with_reducible exact ih2 _ _ _ _ _ _ _ _ _)
      | (with_reducible exact ih3 _ _ _ _ _ _ _ _ _ _ _ _ _)
      | (with_reducible exact ih4 _ _ _ _ _ _ _ _ _ _ _ _ _)
      | (with_reducible exact ih5 _ _ _ _ _ _ _ _ _ _ _ _ _)
      | (with_reducible exact spec_grKnots.mono _ _ _ _)
      | (with_reducible exact spec_l1Has.mono _ _ _)
      | (with_reducible exact LeO.refl _)
      | (with_reducible exact LeO.none _)
      | (with_reducible refine LeO.ite ?_ ?_)
      | (with_reducible refine LeO.bind ?_ (fun _ => ?_))
      | exact ih0 _ _ _ _ _
      | exact ih1 _ _ _ _ _ _ _ _
      | exact ih2 _ _ _ _ _ _ _ _ _
      | exact ih3 _ _ _ _ _ _ _ _ _ _ _ _ _
      | exact ih4 _ _ _ _ _ _ _ _ _ _ _ _ _
      | exact ih5 _ _ _ _ _ _ _ _ _ _ _ _ _
      | exact spec_grKnots.mono _ _ _ _
      | exact spec_l1Has.mono _ _ _
      | exact LeO.none _
      | refine LeO.ite ?_ ?_
      | refine LeO.bind ?_ (fun _ => ?_)
    · intro y0 y1 y2 y3 y4 y5 y6 y7 y8
      unfold spec_grFused.l1
      repeat' first
      | (with_reducible exact ih0 _ _ _ _ _)
      | (with_reducible exact ih1 _ _ _ _ _ _ _ _)
      | (with_reducible exact ih2 _ _ _ _ _ _ _ _ _)
      | (with_reducible exact ih3 _ _ _ _ _ _ _ _ _ _ _ _ _)
      | (with_reducible exact ih4 _ _ _ _ _ _ _ _ _ _ _ _ _)
      | (with_reducible exact ih5 _ _ _ _ _ _ _ _ _ _ _ _ _)
      | (with_reducible exact spec_grKnots.mono _ _ _ _)
      | (with_reducible exact spec_l1Has.mono _ _ _)
      | (with_reducible exact LeO.refl _)
      | (with_reducible exact LeO.none _)
      | (with_reducible refine LeO.ite ?_ ?_)
      | (with_reducible refine LeO.bind ?_ (fun _ => ?_))
      | exact ih0 _ _ _ _ _
      | exact ih1 _ _ _ _ _ _ _ _
      | exact ih2 _ _ _ _ _ _ _ _ _
      | exact ih3 _ _ _ _ _ _ _ _ _ _ _ _ _
      | exact ih4 _ _ _ _ _ _ _ _ _ _ _ _ _
      | exact ih5 _ _ _ _ _ _ _ _ _ _ _ _ _
      | exact spec_grKnots.mono _ _ _ _
      | exact spec_l1Has.mono _ _ _
      | exact LeO.none _
      | refine LeO.ite ?_ ?_
      | refine LeO.bind ?_ (fun _ => ?_)
    · intro y0 y1 y2 y3 y4 y5 y6 y7 y8 y9 y10 y11 y12
      unfold spec_grFused.j2
      repeat' first
      | (with_reducible exact ih0 _ _ _ _ _)
      | (with_reducible exact ih1 _ _ _ _ _ _ _ _)
      | (with_reducible exact ih2 _ _ _ _ _ _ _ _ _)
      | (with_reducible exact ih3 _ _ _ _ _ _ _ _ _ _ _ _ _)
      | (with_reducible exact ih4 _ _ _ _ _ _ _ _ _ _ _ _ _)
      | (with_reducible exact ih5 _ _ _ _ _ _ _ _ _ _ _ _ _)
      | (with_reducible exact spec_grKnots.mono _ _ _ _)
      | (with_reducible exact spec_l1Has.mono _ _ _)
      | (with_reducible exact LeO.refl _)
      | (with_reducible exact LeO.none _)
      | (with_reducible refine LeO.ite ?_ ?_)
      | (with_reducible refine LeO.bind ?_ (fun _ => ?_))
      | exact ih0 _ _ _ _ _
      | exact ih1 _ _ _ _ _ _ _ _
      | exact ih2 _ _ _ _ _ _ _ _ _
      | exact ih3 _ _ _ _ _ _ _ _ _ _ _ _ _
      | exact ih4 _ _ _ _ _ _ _ _ _ _ _ _ _
      | exact ih5 _ _ _ _ _ _ _ _ _ _ _ _ _
      | exact spec_grKnots.mono _ _ _ _
      | exact spec_l1Has.mono _ _ _
      | exact LeO.none _
      | refine LeO.ite ?_ ?_
      | refine LeO.bind ?_ (fun _ => ?_)
    · intro y0 y1 y2 y3 y4 y5 y6 y7 y8 y9 y10 y11 y12
      unfold spec_grFused.j3
      repeat' first
      | (with_reducible exact ih0 _ _ _ _ _)
      | (with_reducible exact ih1 _ _ _ _ _ _ _ _)
      | (with_reducible exact ih2 _ _ _ _ _ _ _ _ _)
      | (with_reducible exact ih3 _ _ _ _ _ _ _ _ _ _ _ _ _)
      | (with_reducible exact ih4 _ _ _ _ _ _ _ _ _ _ _ _ _)
      | (with_reducible exact ih5 _ _ _ _ _ _ _ _ _ _ _ _ _)
      | (with_reducible exact spec_grKnots.mono _ _ _ _)
      | (with_reducible exact spec_l1Has.mono _ _ _)
      | (with_reducible exact LeO.refl _)
      | (with_reducible exact LeO.none _)
      | (with_reducible refine LeO.ite ?_ ?_)
      | (with_reducible refine LeO.bind ?_ (fun _ => ?_))
      | exact ih0 _ _ _ _ _
      | exact ih1 _ _ _ _ _ _ _ _
      | exact ih2 _ _ _ _ _ _ _ _ _
      | exact ih3 _ _ _ _ _ _ _ _ _ _ _ _ _
      | exact ih4 _ _ _ _ _ _ _ _ _ _ _ _ _
      | exact ih5 _ _ _ _ _ _ _ _ _ _ _ _ _
      | exact spec_grKnots.mono _ _ _ _
      | exact spec_l1Has.mono _ _ _
      | exact LeO.none _
      | refine LeO.ite ?_ ?_
      | refine LeO.bind ?_ (fun _ => ?_)
    · intro y0 y1 y2 y3 y4 y5 y6 y7 y8 y9 y10 y11 y12
      unfold spec_grFused.j4
      repeat' first
      | (with_reducible exact ih0 _ _ _ _ _)
      | (with_reducible exact ih1 _ _ _ _ _ _ _ _)
      | (with_reducible exact ih2 _ _ _ _ _ _ _ _ _)
      | (with_reducible exact ih3 _ _ _ _ _ _ _ _ _ _ _ _ _)
      | (with_reducible exact ih4 _ _ _ _ _ _ _ _ _ _ _ _ _)
      | (with_reducible exact ih5 _ _ _ _ _ _ _ _ _ _ _ _ _)
      | (with_reducible exact spec_grKnots.mono _ _ _ _)
      | (with_reducible exact spec_l1Has.mono _ _ _)
      | (with_reducible exact LeO.refl _)
      | (with_reducible exact LeO.none _)
      | (with_reducible refine LeO.ite ?_ ?_)
      | (with_reducible refine LeO.bind ?_ (fun _ => ?_))
      | exact ih0 _ _ _ _ _
      | exact ih1 _ _ _ _ _ _ _ _
      | exact ih2 _ _ _ _ _ _ _ _ _
      | exact ih3 _ _ _ _ _ _ _ _ _ _ _ _ _
      | exact ih4 _ _ _ _ _ _ _ _ _ _ _ _ _
      | exact ih5 _ _ _ _ _ _ _ _ _ _ _ _ _
      | exact spec_grKnots.mono _ _ _ _
      | exact spec_l1Has.mono _ _ _
      | exact LeO.none _
      | refine LeO.ite ?_ ?_
      | refine LeO.bind ?_ (fun _ => ?_)
theorem spec_grFused.mono : ∀ a0 a1 a2 a3 a4 k, LeO (spec_grFused.f k a0 a1 a2 a3 a4) (spec_grFused.f (k + 1) a0 a1 a2 a3 a4) := by
  intro a0 a1 a2 a3 a4 k
  obtain ⟨ih0, ih1, ih2, ih3, ih4, ih5⟩ := spec_grFused.mono_l k
  exact ih0 a0 a1 a2 a3 a4
set_option maxHeartbeats 8000000 in
set_option maxRecDepth 100000 in
theorem spec_grFused.calls (k : Nat) : ∀ (A0 : Option Addr) (c0 : Nat) (l0 : List (S41)) (A1 : Option Addr) (c1 : Nat) (l1 : List Bool) (A2 : Option Addr) (c2 : Nat) (l2 : List Bool) (a3 : Int) (a4 : Int) (r : Int) (w : World) (hr0 : Kd.C k41 w A0 l0.length l0) (hc0 : l0.length ≤ c0) (hr1 : Kd.C Kd.bool w A1 l1.length l1) (hc1 : l1.length ≤ c1) (hr2 : Kd.C Kd.bool w A2 l2.length l2) (hc2 : l2.length ≤ c2) (h : spec_grFused.f k l0 l1 l2 a3 a4 = some r),
    Calls Try.prog 58 #[.slice A0 l0.length c0, .slice A1 l1.length c1, .slice A2 l2.length c2, .int .i64 a3, .int .i64 a4] w fun e w' => e = .returned (.int .i64 r) ∧ Below w.heap.size w w' := by
  induction k using Nat.strongRecOn with
  | _ k ih =>
  intro A0 c0 l0 A1 c1 l1 A2 c2 l2 a3 a4 r w hr0 hc0 hr1 hc1 hr2 hc2 h
  cases k with
  | zero => exact absurd h (by simp [spec_grFused.f])
  | succ k =>
  simp only [spec_grFused.f] at h
  have hu41 := Try.underlying41
  have HR0 := Aside0.mk hr0
  have HC0 := Aside0.mk hc0
  clear hr0 hc0
  have HR1 := Aside0.mk hr1
  have HC1 := Aside0.mk hc1
  clear hr1 hc1
  have HR2 := Aside0.mk hr2
  have HC2 := Aside0.mk hc2
  clear hr2 hc2
  have HB := Aside0.mk (Below.refl w.heap.size w)
  have H : (spec_grFused.l0 k l0 l1 l2 a3 a4 ([] : List Bool) (l0.length : Int) 0) = some r := h
  clear h
  have H' := Aside0.mk H
  clear H
  go_enter Try.func58, Try.ntmps58
  go_wp2
  go_loopg [11, 19] k (fun kq v11 v19 w' => ∃ (x11_1 : List Bool) (x19_1 : Int), v19 = .int .i64 x19_1 ∧ Aside0 (spec_grFused.l0 kq l0 l1 l2 a3 a4 x11_1 (l0.length : Int) x19_1 = some r) ∧ Aside0 (kq ≤ k) ∧ Aside0 (Kd.R Kd.bool 4 w' w.heap.size (fun _ => True) v11 x11_1) ∧ Aside0 (Below w.heap.size w w'))
  case atStart => exact ⟨(([] : List Bool)), (0), (by first | rfl | (simp; done) | (simp [*]; done)), H', ⟨Nat.le_refl _⟩, ⟨by first | exact Kd.R_nil _ _ _ _ _ | exact Kd.N_nil _ _ _ _ _ | exact Kd.V_nil _ _ _ _ _ | exact Kd.Q_nil _ _ _ _ _ | exact Kd.S_nil _ _ _ _ _⟩, ⟨by repeat (first | (with_reducible first | exact HB.out | apply below_alloc | apply pw_below_drewN | apply below_drew1) | exact HB.out)⟩⟩
  case round =>
    clear H'
    try clear c1
    try clear c2
    try clear p2
    try clear c5
    obtain ⟨x11_1, x19_1, rfl, HA, HK1, HO_11, HB⟩ := hrel
    cases gk with
    | zero => exact absurd HA.out (by simp [spec_grFused.l0])
    | succ k1 =>
      have H := HA.out
      clear HA
      simp only [spec_grFused.l0] at H
      by_cases c6 : x19_1 < (l0.length : Int)
      · rw [if_pos c6] at H
        have c6b0 : decide (x19_1 < (l0.length : Int)) = true := decide_eq_true c6
        clear c6
        by_cases c7 : 0 ≤ x19_1
        · rw [if_pos c7] at H
          have c7b0 : decide (0 ≤ x19_1) = true := decide_eq_true c7
          clear c7
          by_cases c8 : x19_1 < (l1.length : Int)
          · rw [if_pos c8] at H
            have c8b0 : decide (x19_1 < (l1.length : Int)) = true := decide_eq_true c8
            clear c8
            obtain ⟨bq9, hbq9⟩ : ∃ b_ : Bool, b_ = (rdOf false l1 x19_1) := ⟨_, rfl⟩
            replace H : (if bq9 = true then (if x19_1 < (l2.length : Int) then (if x11_1.length < 140737488355328 then (spec_grFused.l0 k1 l0 l1 l2 a3 a4 (x11_1 ++ [!(rdOf false l2 x19_1)]) (l0.length : Int) (wrap64 (x19_1 + 1))) else (none)) else (none)) else (if x11_1.length < 140737488355328 then (spec_grFused.l0 k1 l0 l1 l2 a3 a4 (x11_1 ++ [false]) (l0.length : Int) (wrap64 (x19_1 + 1))) else (none))) = some r := by rw [← hbq9] at H; exact H
            have Nbq9 := Aside0.mk hbq9
            clear hbq9
            by_cases c10 : bq9 = true
            · subst c10
              have H1 : (if x19_1 < (l2.length : Int) then (if x11_1.length < 140737488355328 then (spec_grFused.l0 k1 l0 l1 l2 a3 a4 (x11_1 ++ [!(rdOf false l2 x19_1)]) (l0.length : Int) (wrap64 (x19_1 + 1))) else (none)) else (none)) = some r := by rw [if_pos rfl] at H; exact H
              clear H
              have H := H1
              clear H1
              by_cases c11 : x19_1 < (l2.length : Int)
              · rw [if_pos c11] at H
                have c11b0 : decide (x19_1 < (l2.length : Int)) = true := decide_eq_true c11
                clear c11
                by_cases c12 : x11_1.length < 140737488355328
                · rw [if_pos c12] at H
                  have LMc12 := Aside0.mk c12
                  clear c12
                  obtain ⟨y162, hy162⟩ : ∃ y_ : List Bool, y_ = (x11_1 ++ [!(rdOf false l2 x19_1)]) := ⟨_, rfl⟩
                  replace H : (spec_grFused.l0 k1 l0 l1 l2 a3 a4 y162 (l0.length : Int) (wrap64 (x19_1 + 1))) = some r := by first | (rw [hy162]; with_reducible exact H) | (have H2_ := (Option.bind_some _ _).symm.trans H; rw [hy162]; with_reducible exact H2_) | (have H2_ := (Option.bind_some _ _).symm.trans H; with_reducible exact H2_) | with_reducible exact H | (rw [hy162]; exact H) | exact H
                  have Ny162 := Aside0.mk hy162
                  clear hy162
                  have H' := Aside0.mk H
                  clear H
                  have p160 : 0 ≤ (x19_1 : Int) := of_decide_eq_true (by first | (with_reducible assumption) | assumption)
                  have q160 : x19_1 < (l1.length : Int) := of_decide_eq_true (by first | (with_reducible assumption) | assumption)
                  obtain ⟨ad160, e160, hx160_0⟩ := Kd.at_bool HR1.out x19_1 p160 q160
                  (try rw [← Nbq9.out] at hx160_0)
                  cases e160
                  replace hx160_0 := (HB.out.cell (World.block_lt_of_cell? w _ hx160_0)).trans hx160_0
                  replace p160 := eq_true p160
                  replace q160 := eq_true q160
                  have p161 : 0 ≤ (x19_1 : Int) := of_decide_eq_true (by first | (with_reducible assumption) | assumption)
                  have q161 : x19_1 < (l2.length : Int) := of_decide_eq_true (by first | (with_reducible assumption) | assumption)
                  obtain ⟨ad161, e161, hx161_0⟩ := Kd.at_bool HR2.out x19_1 p161 q161
                  (try rw [← Nbq9.out] at hx161_0)
                  cases e161
                  replace hx161_0 := (HB.out.cell (World.block_lt_of_cell? w _ hx161_0)).trans hx161_0
                  replace p161 := eq_true p161
                  replace q161 := eq_true q161
                  go_wp2_with (first | ((with_reducible refine gate_builtin (b := .append) (xs := #[.tmp 22, .tmp 34]) rfl ?_); at_builtin; refine Kd.R_append Kd.bool (w0 := w) w.heap.size rfl (.tmp 22) (.tmp 34) 49 4 (.bool false) 1 rfl Try.underlying49 info4 rfl (by decide) (by omega) u11 x11_1 (!(rdOf false l2 x19_1)) [.bool (!(rdOf false l2 x19_1))] (fun _ => True) (fun _ => False) rfl rfl ?aP (fun _ hk => hk.elim) ?aF ?aO ?aB ?aS ?aL ?_; (case aP => exact rfl); (case aB => exact (by repeat (first | (with_reducible first | exact HB.out | apply below_alloc | apply pw_below_drewN | apply below_drew1) | exact HB.out))); (case aF => exact (fun _ _ => trivial)); (case aO => exact (by (with_reducible repeat (first | apply Kd.R_alloc | apply Kd.R_drewN | apply Kd.R_drew)); exact HO_11.out)); (case aS => exact (below_size (by repeat (first | (with_reducible first | exact HB.out | apply below_alloc | apply pw_below_drewN | apply below_drew1) | exact HB.out)))); (case aL => have := LMc12.out; omega); intro v163 w13 ho hb hg hat; rw [← Ny162.out] at ho; have n0_ := Aside0.mk (hb); have n1_ := Aside0.mk (ho); clear HB; clear HO_11; have HB := n0_; have HO164 := n1_; clear n0_ n1_; clear ho hb hg hat))
                  go_roundg k1
                  case measure => have := HK1.out; omega
                  case rel => exact ⟨(y162), (wrap64 (x19_1 + 1)), (by first | rfl | (simp; done) | (simp [*]; done)), H', ⟨by have := HK1.out; omega⟩, ⟨by (with_reducible repeat (first | apply Kd.R_alloc | apply Kd.R_drewN | apply Kd.R_drew)); exact HO164.out⟩, ⟨by repeat (first | (with_reducible first | exact HB.out | apply below_alloc | apply pw_below_drewN | apply below_drew1) | exact HB.out)⟩⟩
                · rw [if_neg c12] at H
                  exact absurd H (by simp)
              · rw [if_neg c11] at H
                exact absurd H (by simp)
            · replace c10 := Bool.eq_false_iff.mpr c10
              subst c10
              have H1 : (if x11_1.length < 140737488355328 then (spec_grFused.l0 k1 l0 l1 l2 a3 a4 (x11_1 ++ [false]) (l0.length : Int) (wrap64 (x19_1 + 1))) else (none)) = some r := by rw [if_neg (show ¬ (false = true) by decide)] at H; exact H
              clear H
              have H := H1
              clear H1
              by_cases c14 : x11_1.length < 140737488355328
              · rw [if_pos c14] at H
                have LMc14 := Aside0.mk c14
                clear c14
                obtain ⟨y165, hy165⟩ : ∃ y_ : List Bool, y_ = (x11_1 ++ [false]) := ⟨_, rfl⟩
                replace H : (spec_grFused.l0 k1 l0 l1 l2 a3 a4 y165 (l0.length : Int) (wrap64 (x19_1 + 1))) = some r := by first | (rw [hy165]; with_reducible exact H) | (have H2_ := (Option.bind_some _ _).symm.trans H; rw [hy165]; with_reducible exact H2_) | (have H2_ := (Option.bind_some _ _).symm.trans H; with_reducible exact H2_) | with_reducible exact H | (rw [hy165]; exact H) | exact H
                have Ny165 := Aside0.mk hy165
                clear hy165
                have H' := Aside0.mk H
                clear H
                have p160 : 0 ≤ (x19_1 : Int) := of_decide_eq_true (by first | (with_reducible assumption) | assumption)
                have q160 : x19_1 < (l1.length : Int) := of_decide_eq_true (by first | (with_reducible assumption) | assumption)
                obtain ⟨ad160, e160, hx160_0⟩ := Kd.at_bool HR1.out x19_1 p160 q160
                (try rw [← Nbq9.out] at hx160_0)
                cases e160
                replace hx160_0 := (HB.out.cell (World.block_lt_of_cell? w _ hx160_0)).trans hx160_0
                replace p160 := eq_true p160
                replace q160 := eq_true q160
                go_wp2_with (first | ((with_reducible refine gate_builtin (b := .append) (xs := #[.tmp 22, .tmp 34]) rfl ?_); at_builtin; refine Kd.R_append Kd.bool (w0 := w) w.heap.size rfl (.tmp 22) (.tmp 34) 49 4 (.bool false) 1 rfl Try.underlying49 info4 rfl (by decide) (by omega) u11 x11_1 false [.bool false] (fun _ => True) (fun _ => False) rfl rfl ?aP (fun _ hk => hk.elim) ?aF ?aO ?aB ?aS ?aL ?_; (case aP => exact rfl); (case aB => exact (by repeat (first | (with_reducible first | exact HB.out | apply below_alloc | apply pw_below_drewN | apply below_drew1) | exact HB.out))); (case aF => exact (fun _ _ => trivial)); (case aO => exact (by (with_reducible repeat (first | apply Kd.R_alloc | apply Kd.R_drewN | apply Kd.R_drew)); exact HO_11.out)); (case aS => exact (below_size (by repeat (first | (with_reducible first | exact HB.out | apply below_alloc | apply pw_below_drewN | apply below_drew1) | exact HB.out)))); (case aL => have := LMc14.out; omega); intro v166 w15 ho hb hg hat; rw [← Ny165.out] at ho; have n0_ := Aside0.mk (hb); have n1_ := Aside0.mk (ho); clear HB; clear HO_11; have HB := n0_; have HO167 := n1_; clear n0_ n1_; clear ho hb hg hat))
                go_roundg k1
                case measure => have := HK1.out; omega
                case rel => exact ⟨(y165), (wrap64 (x19_1 + 1)), (by first | rfl | (simp; done) | (simp [*]; done)), H', ⟨by have := HK1.out; omega⟩, ⟨by (with_reducible repeat (first | apply Kd.R_alloc | apply Kd.R_drewN | apply Kd.R_drew)); exact HO167.out⟩, ⟨by repeat (first | (with_reducible first | exact HB.out | apply below_alloc | apply pw_below_drewN | apply below_drew1) | exact HB.out)⟩⟩
              · rw [if_neg c14] at H
                exact absurd H (by simp)
          · rw [if_neg c8] at H
            exact absurd H (by simp)
        · rw [if_neg c7] at H
          exact absurd H (by simp)
      · rw [if_neg c6] at H
        have c6b0 : decide (x19_1 < (l0.length : Int)) = false := decide_eq_false c6
        clear c6
        replace H := Option.bind_eq_some_iff.mp H
        obtain ⟨t168, A160, H⟩ := H
        replace H : (spec_grFused.l1 k1 l0 l1 l2 a4 t168 0 l0 (l0.length : Int) 0) = some r := H
        have A16 := Aside0.mk A160
        clear A160
        have H' := Aside0.mk H
        clear H
        obtain ⟨Ao17, co17, eo17⟩ := Kd.R_slice HO_11.out
        subst eo17
        go_wp2_with (first | ((with_reducible refine gate_callee (f := 63) rfl ?_); refine goesL_ (some 40) rfl rfl Try.func63 (by kernel_rfl) rfl #[.slice A0 l0.length c0, .slice Ao17 x11_1.length co17, .int .i64 a3] rfl (by (try simp only [List.map_toArray, List.map_cons, List.map_nil]); first | done | rfl | (simp only [List.length_drop, List.length_take]; rfl)) ?_; (with_reducible refine (spec_grKnots.calls k1 _ _ l0 _ _ x11_1 a3 t168 _ ?side1 ?side2 ?side3 ?side4 A16.out).mono ?_); (case side1 => repeat (first | exact (Kd.C_below HR0.out HB.out) | (with_reducible refine Kd.C_alloc ?_ _) | (with_reducible refine Kd.C_drewN ?_ _) | (with_reducible refine Kd.C_drew ?_))); (case side2 => exact HC0.out); (case side3 => repeat (first | exact (Kd.R_reads' HO_11.out).2.2 | (with_reducible refine Kd.C_alloc ?_ _) | (with_reducible refine Kd.C_drewN ?_ _) | (with_reducible refine Kd.C_drew ?_))); (case side4 => exact (Kd.R_reads' HO_11.out).2.1); rintro e w18 ⟨v169, rfl, ho0, hb⟩; refine ⟨_, rfl, ?_⟩; have n0_ := Aside0.mk (Kd.R_below (by (with_reducible repeat (first | apply Kd.R_alloc | apply Kd.R_drewN | apply Kd.R_drew)); exact HO_11.out) hb); have n1_ := Aside0.mk (Kd.R_lower ho0 (below_size (by repeat (first | (with_reducible first | exact HB.out | apply below_alloc | apply pw_below_drewN | apply below_drew1) | exact HB.out)))); have n2_ := Aside0.mk (below_step (by repeat (first | (with_reducible first | exact HB.out | apply below_alloc | apply pw_below_drewN | apply below_drew1) | exact HB.out)) hb); clear HO_11; clear HB; have HO_11 := n0_; have HO170 := n1_; have HB := n2_; clear n0_ n1_ n2_; (try clear hb); (try clear hb2); (try clear hk); (try clear hi); (try clear ho0)))
        go_loopg [14, 43] k1 (fun kq v14 v43 w' => ∃ (x14_2 : Int) (x43_2 : Int), v14 = .int .i64 x14_2 ∧ v43 = .int .i64 x43_2 ∧ Aside0 (spec_grFused.l1 kq l0 l1 l2 a4 t168 x14_2 l0 (l0.length : Int) x43_2 = some r) ∧ Aside0 (kq ≤ k1) ∧ Aside0 (Kd.R (Kd.int .i64) 3 w' w.heap.size (fun _ => True) v169 t168) ∧ Aside0 (Below w.heap.size w w'))
        case atStart => exact ⟨(0), (0), (by first | rfl | (simp; done) | (simp [*]; done)), (by first | rfl | (simp; done) | (simp [*]; done)), H', ⟨Nat.le_refl _⟩, ⟨by (with_reducible repeat (first | apply Kd.R_alloc | apply Kd.R_drewN | apply Kd.R_drew)); exact HO170.out⟩, ⟨by repeat (first | (with_reducible first | exact HB.out | apply below_alloc | apply pw_below_drewN | apply below_drew1) | exact HB.out)⟩⟩
        case round =>
          clear H'
          try clear c1
          try clear p1
          try clear q1
          try clear hx1
          try clear c2
          try clear p2
          try clear c5
          try clear c6
          try clear c6b0
          try clear p6
          try clear c7
          try clear c7b0
          try clear c8
          try clear c8b0
          try clear q9
          try clear c10
          try clear c11
          try clear c11b0
          try clear c12
          try clear c14
          try clear p16
          try clear q16
          try clear hx16
          try clear hx160_0
          try clear hx161_0
          try clear p160
          try clear p161
          try clear p2
          try clear q160
          try clear q161
          obtain ⟨x14_2, x43_2, rfl, rfl, HA, HK2, HO_13, HB⟩ := hrel
          cases gk with
          | zero => exact absurd HA.out (by simp [spec_grFused.l1])
          | succ k2 =>
            have H := HA.out
            clear HA
            simp only [spec_grFused.l1] at H
            by_cases c19 : x43_2 < (l0.length : Int)
            · rw [if_pos c19] at H
              have c19b0 : decide (x43_2 < (l0.length : Int)) = true := decide_eq_true c19
              clear c19
              by_cases c20 : 0 ≤ x43_2
              · rw [if_pos c20] at H
                have c20b0 : decide (0 ≤ x43_2) = true := decide_eq_true c20
                clear c20
                by_cases c21 : x43_2 < (l0.length : Int)
                · rw [if_pos c21] at H
                  have c21b0 : decide (x43_2 < (l0.length : Int)) = true := decide_eq_true c21
                  clear c21
                  have HC22 := Aside0.mk H
                  clear H
                  have p171 : 0 ≤ (x43_2 : Int) := of_decide_eq_true (by first | (with_reducible assumption) | assumption)
                  have q171 : x43_2 < (l0.length : Int) := of_decide_eq_true (by first | (with_reducible assumption) | assumption)
                  obtain ⟨ad171, e171, hx171_0, hx171_1⟩ := at_T41 HR0.out x43_2 p171 q171
                  cases e171
                  replace hx171_0 := (HB.out.cell (World.block_lt_of_cell? w _ hx171_0)).trans hx171_0
                  replace hx171_1 := (HB.out.cell (World.block_lt_of_cell? w _ hx171_1)).trans hx171_1
                  replace p171 := eq_true p171
                  replace q171 := eq_true q171
                  go_upto_region 12 with (first | ((with_reducible refine gate_dst (N := 16) rfl ?_); refine box_event ?hg (N := 16) ?hd (cs := #[.int .i64 0, .int .i64 0]) (t := 41) ?hr ?_; (case hd => rfl); (case hg => rfl); (case hr => first | (go_simp; done) | (go_simp; rfl)); intro gb172 hg w23 hbox hb; have n0_ := Aside0.mk (Kd.R_below (by (with_reducible repeat (first | apply Kd.R_alloc | apply Kd.R_drewN | apply Kd.R_drew)); exact HO_13.out) hb); have n1_ := Aside0.mk (below_step (by repeat (first | (with_reducible first | exact HB.out | apply below_alloc | apply pw_below_drewN | apply below_drew1) | exact HB.out)) hb); have n2_ := Aside0.mk (hbox); have n3_ := Aside0.mk ((by rw [hg]; exact (below_size (by repeat (first | (with_reducible first | exact HB.out | apply below_alloc | apply pw_below_drewN | apply below_drew1) | exact HB.out))) : w.heap.size ≤ gb172)); have n4_ := Aside0.mk ((by rw [hg]; exact (below_size (by repeat (first | (with_reducible first | exact HB.out | apply below_alloc | apply pw_below_drewN | apply below_drew1) | exact HB.out))) : w.heap.size ≤ gb172)); clear HO_13; clear HB; have HO_13 := n0_; have HB := n1_; have BK172 := n2_; have GW172 := n3_; have GE172 := n4_; clear n0_ n1_ n2_ n3_ n4_; clear hb hbox hg; have hcz24_0 : w23.cell? ⟨gb172, 0, none⟩ = some (.int .i64 0) := (blk_cell BK172.out 0).trans rfl; have hcz24_1 : w23.cell? ⟨gb172, 1, none⟩ = some (.int .i64 0) := (blk_cell BK172.out 1).trans rfl; have hfz24_0 := blk_frozen BK172.out 0; have hfz24_1 := blk_frozen BK172.out 1))
                  (try simp only [Act.put, List.setIfInBounds_toArray, List.set_cons_zero, List.set_cons_succ])
                  go_cut [48] (fun v48 wc => ∃ (kq : Nat) (x48_21 : Bool), v48 = .bool x48_21 ∧ Aside0 (spec_grFused.j2 kq l0 l1 l2 a4 t168 x14_2 x43_2 l0 (l0.length : Int) x43_2 x48_21 ((rd_T41 l0 x43_2).f0) ((rd_T41 l0 x43_2).f1) = some r) ∧ Aside0 (kq ≤ k2) ∧ Aside0 (Kd.R (Kd.int .i64) 3 wc w.heap.size (fun _ => True) v169 t168) ∧ Aside0 (wc.heap[gb172]? = some (.cells #[.int .i64 ((rd_T41 l0 x43_2).f0), .int .i64 ((rd_T41 l0 x43_2).f1)] 41 (0, 0))) ∧ Aside0 (Below w.heap.size w wc))
                  case first =>
                    have H := HC22.out
                    clear HC22
                    by_cases c25 : x43_2 < (l1.length : Int)
                    · rw [if_pos c25] at H
                      have c25b0 : decide (x43_2 < (l1.length : Int)) = true := decide_eq_true c25
                      clear c25
                      (first | rw [c25b0] | (simp only [i64_w, i32_w]; rw [c25b0]) | skip)
                      obtain ⟨bq26, hbq26⟩ : ∃ b_ : Bool, b_ = (rdOf false l1 x43_2) := ⟨_, rfl⟩
                      replace H : (if bq26 = true then (spec_grFused.j2 k2 l0 l1 l2 a4 t168 x14_2 x43_2 l0 (l0.length : Int) x43_2 (x43_2 == a4) ((rd_T41 l0 x43_2).f0) ((rd_T41 l0 x43_2).f1)) else (spec_grFused.j2 k2 l0 l1 l2 a4 t168 x14_2 x43_2 l0 (l0.length : Int) x43_2 true ((rd_T41 l0 x43_2).f0) ((rd_T41 l0 x43_2).f1))) = some r := by rw [← hbq26] at H; exact H
                      have Nbq26 := Aside0.mk hbq26
                      clear hbq26
                      by_cases c27 : bq26 = true
                      · subst c27
                        have H1 : (spec_grFused.j2 k2 l0 l1 l2 a4 t168 x14_2 x43_2 l0 (l0.length : Int) x43_2 (x43_2 == a4) ((rd_T41 l0 x43_2).f0) ((rd_T41 l0 x43_2).f1)) = some r := by rw [if_pos rfl] at H; exact H
                        clear H
                        have H := H1
                        clear H1
                        have H' := Aside0.mk H
                        clear H
                        have p173 : 0 ≤ (x43_2 : Int) := of_decide_eq_true (by first | (with_reducible assumption) | assumption)
                        have q173 : x43_2 < (l1.length : Int) := of_decide_eq_true (by first | (with_reducible assumption) | assumption)
                        obtain ⟨ad173, e173, hx173_0⟩ := Kd.at_bool HR1.out x43_2 p173 q173
                        (try rw [← Nbq26.out] at hx173_0)
                        cases e173
                        have hn173_0 : ad173.block ≠ gb172 := Nat.ne_of_lt (Nat.lt_of_lt_of_le (by have := World.block_lt_of_cell? _ _ hx173_0; first | rwa [add_block] at this | exact this) GW172.out)
                        have hn173_1 : ad173.block ≠ gb172 := Nat.ne_of_lt (Nat.lt_of_lt_of_le (by have := World.block_lt_of_cell? _ _ hx173_0; first | rwa [add_block] at this | exact this) GW172.out)
                        replace hx173_0 := (HB.out.cell (World.block_lt_of_cell? w _ hx173_0)).trans hx173_0
                        replace hx173_0 := (cell_far (p := ⟨gb172, 0, none⟩) (by first | (rw [add_block]; exact hn173_0) | (show (Addr.add _ _).block ≠ _; rw [add_block]; exact hn173_0) | exact hn173_0) (.int .i64 ((rd_T41 l0 x43_2).f0))).trans hx173_0
                        replace hx173_0 := (cell_far (p := ⟨gb172, 1, none⟩) (by first | (rw [add_block]; exact hn173_1) | (show (Addr.add _ _).block ≠ _; rw [add_block]; exact hn173_1) | exact hn173_1) (.int .i64 ((rd_T41 l0 x43_2).f1))).trans hx173_0
                        clear hn173_0
                        clear hn173_1
                        replace p173 := eq_true p173
                        replace q173 := eq_true q173
                        go_wp2
                        go_meet
                        case rel => exact ⟨_, ((x43_2 == a4)), (by first | rfl | (simp; done) | (simp [*]; done)), H', ⟨by have := HK1.out; have := HK2.out; first | omega | exact Nat.le_refl _⟩, ⟨by (with_reducible repeat (first | apply Kd.R_alloc | apply Kd.R_drewN | apply Kd.R_drew)); exact Kd.R_mono (Kd.R_far (p := ⟨gb172, 1, none⟩) (Kd.R_far (p := ⟨gb172, 0, none⟩) (Kd.R_types HO_13.out BK172.out (by decide)) (fun _ hk => hk.2) (.int .i64 ((rd_T41 l0 x43_2).f0))) (fun _ hk => hk.2) (.int .i64 ((rd_T41 l0 x43_2).f1))) (fun _ hk => trivial)⟩, ⟨by (with_reducible repeat (first | refine blk_drewN ?_ _ | refine blk_drew ?_ | refine blk_alloc ?_ _)); refine blk_put (cs := #[.int .i64 ((rd_T41 l0 x43_2).f0), .int .i64 0]) ?_ 1 _ rfl; (with_reducible repeat (first | refine blk_drewN ?_ _ | refine blk_drew ?_ | refine blk_alloc ?_ _)); refine blk_put (cs := #[.int .i64 0, .int .i64 0]) ?_ 0 _ rfl; (with_reducible repeat (first | refine blk_drewN ?_ _ | refine blk_drew ?_ | refine blk_alloc ?_ _)); exact BK172.out⟩, ⟨by repeat (first | (with_reducible first | exact HB.out | apply below_alloc | apply pw_below_drewN | apply below_drew1 | refine below_set ?_ GE172.out) | exact HB.out)⟩⟩
                      · replace c27 := Bool.eq_false_iff.mpr c27
                        subst c27
                        have H1 : (spec_grFused.j2 k2 l0 l1 l2 a4 t168 x14_2 x43_2 l0 (l0.length : Int) x43_2 true ((rd_T41 l0 x43_2).f0) ((rd_T41 l0 x43_2).f1)) = some r := by rw [if_neg (show ¬ (false = true) by decide)] at H; exact H
                        clear H
                        have H := H1
                        clear H1
                        have H' := Aside0.mk H
                        clear H
                        have p173 : 0 ≤ (x43_2 : Int) := of_decide_eq_true (by first | (with_reducible assumption) | assumption)
                        have q173 : x43_2 < (l1.length : Int) := of_decide_eq_true (by first | (with_reducible assumption) | assumption)
                        obtain ⟨ad173, e173, hx173_0⟩ := Kd.at_bool HR1.out x43_2 p173 q173
                        (try rw [← Nbq26.out] at hx173_0)
                        cases e173
                        have hn173_0 : ad173.block ≠ gb172 := Nat.ne_of_lt (Nat.lt_of_lt_of_le (by have := World.block_lt_of_cell? _ _ hx173_0; first | rwa [add_block] at this | exact this) GW172.out)
                        have hn173_1 : ad173.block ≠ gb172 := Nat.ne_of_lt (Nat.lt_of_lt_of_le (by have := World.block_lt_of_cell? _ _ hx173_0; first | rwa [add_block] at this | exact this) GW172.out)
                        replace hx173_0 := (HB.out.cell (World.block_lt_of_cell? w _ hx173_0)).trans hx173_0
                        replace hx173_0 := (cell_far (p := ⟨gb172, 0, none⟩) (by first | (rw [add_block]; exact hn173_0) | (show (Addr.add _ _).block ≠ _; rw [add_block]; exact hn173_0) | exact hn173_0) (.int .i64 ((rd_T41 l0 x43_2).f0))).trans hx173_0
                        replace hx173_0 := (cell_far (p := ⟨gb172, 1, none⟩) (by first | (rw [add_block]; exact hn173_1) | (show (Addr.add _ _).block ≠ _; rw [add_block]; exact hn173_1) | exact hn173_1) (.int .i64 ((rd_T41 l0 x43_2).f1))).trans hx173_0
                        clear hn173_0
                        clear hn173_1
                        replace p173 := eq_true p173
                        replace q173 := eq_true q173
                        go_wp2
                        go_meet
                        case rel => exact ⟨_, (true), (by first | rfl | (simp; done) | (simp [*]; done)), H', ⟨by have := HK1.out; have := HK2.out; first | omega | exact Nat.le_refl _⟩, ⟨by (with_reducible repeat (first | apply Kd.R_alloc | apply Kd.R_drewN | apply Kd.R_drew)); exact Kd.R_mono (Kd.R_far (p := ⟨gb172, 1, none⟩) (Kd.R_far (p := ⟨gb172, 0, none⟩) (Kd.R_types HO_13.out BK172.out (by decide)) (fun _ hk => hk.2) (.int .i64 ((rd_T41 l0 x43_2).f0))) (fun _ hk => hk.2) (.int .i64 ((rd_T41 l0 x43_2).f1))) (fun _ hk => trivial)⟩, ⟨by (with_reducible repeat (first | refine blk_drewN ?_ _ | refine blk_drew ?_ | refine blk_alloc ?_ _)); refine blk_put (cs := #[.int .i64 ((rd_T41 l0 x43_2).f0), .int .i64 0]) ?_ 1 _ rfl; (with_reducible repeat (first | refine blk_drewN ?_ _ | refine blk_drew ?_ | refine blk_alloc ?_ _)); refine blk_put (cs := #[.int .i64 0, .int .i64 0]) ?_ 0 _ rfl; (with_reducible repeat (first | refine blk_drewN ?_ _ | refine blk_drew ?_ | refine blk_alloc ?_ _)); exact BK172.out⟩, ⟨by repeat (first | (with_reducible first | exact HB.out | apply below_alloc | apply pw_below_drewN | apply below_drew1 | refine below_set ?_ GE172.out) | exact HB.out)⟩⟩
                    · rw [if_neg c25] at H
                      exact absurd H (by simp)
                  case rest =>
                    clear HC22
                    try clear c1
                    try clear p1
                    try clear q1
                    try clear hx1
                    try clear c2
                    try clear p2
                    try clear q2
                    try clear c5
                    try clear c6
                    try clear c6b0
                    try clear p6
                    try clear c7
                    try clear c7b0
                    try clear c8
                    try clear c8b0
                    try clear q9
                    try clear c10
                    try clear c11
                    try clear c11b0
                    try clear c12
                    try clear c14
                    try clear p16
                    try clear q16
                    try clear hx16
                    try clear p17
                    try clear q17
                    try clear hx17
                    try clear c19
                    try clear c19b0
                    try clear c20
                    try clear c20b0
                    try clear c21
                    try clear c21b0
                    try clear c25
                    try clear c25b0
                    try clear q26
                    try clear c27
                    try clear hcz24_0
                    try clear hcz24_1
                    try clear hfz24_0
                    try clear hfz24_1
                    try clear hx160_0
                    try clear hx161_0
                    try clear hx171_0
                    try clear hx171_1
                    try clear hx173_0
                    try clear p1
                    try clear p16
                    try clear p160
                    try clear p161
                    try clear p171
                    try clear p173
                    try clear p2
                    try clear p6
                    try clear q1
                    try clear q16
                    try clear q160
                    try clear q161
                    try clear q171
                    try clear q173
                    try clear q9
                    obtain ⟨kq, x48_21, rfl, HA, HJ21, HO_13, BK172, HB⟩ := hcut
                    cases kq with
                    | zero => exact absurd HA.out (by simp [spec_grFused.j2])
                    | succ kj21 =>
                      have H := HA.out
                      clear HA
                      simp only [spec_grFused.j2] at H
                      by_cases c28 : x48_21 = true
                      · subst c28
                        have H1 : (spec_grFused.l1 kj21 l0 l1 l2 a4 t168 x14_2 l0 (l0.length : Int) (wrap64 (x43_2 + 1))) = some r := by rw [if_pos rfl] at H; exact H
                        clear H
                        have H := H1
                        clear H1
                        have H' := Aside0.mk H
                        clear H
                        go_wp2
                        go_roundg kj21
                        case measure => have := HK1.out; have := HK2.out; have := HJ21.out; omega
                        case rel => exact ⟨(x14_2), (wrap64 (x43_2 + 1)), (by first | rfl | (simp; done) | (simp [*]; done)), (by first | rfl | (simp; done) | (simp [*]; done)), H', ⟨by have := HK1.out; have := HK2.out; have := HJ21.out; omega⟩, ⟨by (with_reducible repeat (first | apply Kd.R_alloc | apply Kd.R_drewN | apply Kd.R_drew)); exact HO_13.out⟩, ⟨by repeat (first | (with_reducible first | exact HB.out | apply below_alloc | apply pw_below_drewN | apply below_drew1 | refine below_set ?_ GE172.out) | exact HB.out)⟩⟩
                      · replace c28 := Bool.eq_false_iff.mpr c28
                        subst c28
                        have H1 : (if 0 ≤ x43_2 then (if x43_2 < (l2.length : Int) then (if rdOf false l2 x43_2 = true then (spec_grFused.j3 kj21 l0 l1 l2 a4 t168 x14_2 x43_2 l0 (l0.length : Int) x43_2 false ((rd_T41 l0 x43_2).f0) ((rd_T41 l0 x43_2).f1)) else ((spec_l1Has.f kj21 t168 ((rd_T41 l0 x43_2).f0)).bind fun t175 => (spec_grFused.j3 kj21 l0 l1 l2 a4 t168 x14_2 x43_2 l0 (l0.length : Int) x43_2 t175 ((rd_T41 l0 x43_2).f0) ((rd_T41 l0 x43_2).f1)))) else (none)) else (none)) = some r := by rw [if_neg (show ¬ (false = true) by decide)] at H; exact H
                        clear H
                        have H := H1
                        clear H1
                        have HC29 := Aside0.mk H
                        clear H
                        go_upto_region 13 with (fail)
                        go_cut [59] (fun v59 wc => ∃ (kq : Nat) (x59_28 : Bool), v59 = .bool x59_28 ∧ Aside0 (spec_grFused.j3 kq l0 l1 l2 a4 t168 x14_2 x43_2 l0 (l0.length : Int) x43_2 x59_28 ((rd_T41 l0 x43_2).f0) ((rd_T41 l0 x43_2).f1) = some r) ∧ Aside0 (kq ≤ kj21) ∧ Aside0 (Kd.R (Kd.int .i64) 3 wc w.heap.size (fun _ => True) v169 t168) ∧ Aside0 (wc.heap[gb172]? = some (.cells #[.int .i64 ((rd_T41 l0 x43_2).f0), .int .i64 ((rd_T41 l0 x43_2).f1)] 41 (0, 0))) ∧ Aside0 (Below w.heap.size w wc))
                        case first =>
                          have H := HC29.out
                          clear HC29
                          by_cases c30 : 0 ≤ x43_2
                          · rw [if_pos c30] at H
                            have c30b0 : decide (0 ≤ x43_2) = true := decide_eq_true c30
                            clear c30
                            (first | rw [c30b0] | (simp only [i64_w, i32_w]; rw [c30b0]) | skip)
                            by_cases c31 : x43_2 < (l2.length : Int)
                            · rw [if_pos c31] at H
                              have c31b0 : decide (x43_2 < (l2.length : Int)) = true := decide_eq_true c31
                              clear c31
                              obtain ⟨bq32, hbq32⟩ : ∃ b_ : Bool, b_ = (rdOf false l2 x43_2) := ⟨_, rfl⟩
                              replace H : (if bq32 = true then (spec_grFused.j3 kj21 l0 l1 l2 a4 t168 x14_2 x43_2 l0 (l0.length : Int) x43_2 false ((rd_T41 l0 x43_2).f0) ((rd_T41 l0 x43_2).f1)) else ((spec_l1Has.f kj21 t168 ((rd_T41 l0 x43_2).f0)).bind fun t175 => (spec_grFused.j3 kj21 l0 l1 l2 a4 t168 x14_2 x43_2 l0 (l0.length : Int) x43_2 t175 ((rd_T41 l0 x43_2).f0) ((rd_T41 l0 x43_2).f1)))) = some r := by rw [← hbq32] at H; exact H
                              have Nbq32 := Aside0.mk hbq32
                              clear hbq32
                              by_cases c33 : bq32 = true
                              · subst c33
                                have H1 : (spec_grFused.j3 kj21 l0 l1 l2 a4 t168 x14_2 x43_2 l0 (l0.length : Int) x43_2 false ((rd_T41 l0 x43_2).f0) ((rd_T41 l0 x43_2).f1)) = some r := by rw [if_pos rfl] at H; exact H
                                clear H
                                have H := H1
                                clear H1
                                have H' := Aside0.mk H
                                clear H
                                have p174 : 0 ≤ (x43_2 : Int) := of_decide_eq_true (by first | (with_reducible assumption) | assumption)
                                have q174 : x43_2 < (l2.length : Int) := of_decide_eq_true (by first | (with_reducible assumption) | assumption)
                                obtain ⟨ad174, e174, hx174_0⟩ := Kd.at_bool HR2.out x43_2 p174 q174
                                (try rw [← Nbq32.out] at hx174_0)
                                cases e174
                                replace hx174_0 := (HB.out.cell (World.block_lt_of_cell? w _ hx174_0)).trans hx174_0
                                replace p174 := eq_true p174
                                replace q174 := eq_true q174
                                go_wp2
                                go_meet
                                case rel => exact ⟨_, (false), (by first | rfl | (simp; done) | (simp [*]; done)), H', ⟨by have := HK1.out; have := HK2.out; have := HJ21.out; first | omega | exact Nat.le_refl _⟩, ⟨by (with_reducible repeat (first | apply Kd.R_alloc | apply Kd.R_drewN | apply Kd.R_drew)); exact HO_13.out⟩, ⟨by (with_reducible repeat (first | refine blk_drewN ?_ _ | refine blk_drew ?_ | refine blk_alloc ?_ _)); exact BK172.out⟩, ⟨by repeat (first | (with_reducible first | exact HB.out | apply below_alloc | apply pw_below_drewN | apply below_drew1 | refine below_set ?_ GE172.out) | exact HB.out)⟩⟩
                              · replace c33 := Bool.eq_false_iff.mpr c33
                                subst c33
                                have H1 : ((spec_l1Has.f kj21 t168 ((rd_T41 l0 x43_2).f0)).bind fun t175 => (spec_grFused.j3 kj21 l0 l1 l2 a4 t168 x14_2 x43_2 l0 (l0.length : Int) x43_2 t175 ((rd_T41 l0 x43_2).f0) ((rd_T41 l0 x43_2).f1))) = some r := by rw [if_neg (show ¬ (false = true) by decide)] at H; exact H
                                clear H
                                have H := H1
                                clear H1
                                replace H := Option.bind_eq_some_iff.mp H
                                obtain ⟨t175, A340, H⟩ := H
                                replace H : (spec_grFused.j3 kj21 l0 l1 l2 a4 t168 x14_2 x43_2 l0 (l0.length : Int) x43_2 t175 ((rd_T41 l0 x43_2).f0) ((rd_T41 l0 x43_2).f1)) = some r := H
                                have A34 := Aside0.mk A340
                                clear A340
                                have H' := Aside0.mk H
                                clear H
                                have p174 : 0 ≤ (x43_2 : Int) := of_decide_eq_true (by first | (with_reducible assumption) | assumption)
                                have q174 : x43_2 < (l2.length : Int) := of_decide_eq_true (by first | (with_reducible assumption) | assumption)
                                obtain ⟨ad174, e174, hx174_0⟩ := Kd.at_bool HR2.out x43_2 p174 q174
                                (try rw [← Nbq32.out] at hx174_0)
                                cases e174
                                replace hx174_0 := (HB.out.cell (World.block_lt_of_cell? w _ hx174_0)).trans hx174_0
                                replace p174 := eq_true p174
                                replace q174 := eq_true q174
                                have hcz35_0 : wc.cell? ⟨gb172, 0, none⟩ = some (.int .i64 ((rd_T41 l0 x43_2).f0)) := (blk_cell BK172.out 0).trans rfl
                                have hcz35_1 : wc.cell? ⟨gb172, 1, none⟩ = some (.int .i64 ((rd_T41 l0 x43_2).f1)) := (blk_cell BK172.out 1).trans rfl
                                have hfz35_0 := blk_frozen BK172.out 0
                                have hfz35_1 := blk_frozen BK172.out 1
                                obtain ⟨Ao36, co36, eo36⟩ := Kd.R_slice HO_13.out
                                subst eo36
                                go_wp2_with (first | (go_at_call 64; (with_reducible refine (spec_l1Has.calls kj21 _ _ t168 ((rd_T41 l0 x43_2).f0) t175 _ ?side1 ?side2 A34.out).mono ?_); (case side1 => repeat (first | exact (Kd.R_reads' HO_13.out).2.2 | (with_reducible refine Kd.C_alloc ?_ _) | (with_reducible refine Kd.C_drewN ?_ _) | (with_reducible refine Kd.C_drew ?_))); (case side2 => exact (Kd.R_reads' HO_13.out).2.1); rintro e w' ⟨rfl, ⟨nd, rfl⟩⟩))
                                go_meet
                                case rel => exact ⟨_, (t175), (by first | rfl | (simp; done) | (simp [*]; done)), H', ⟨by have := HK1.out; have := HK2.out; have := HJ21.out; first | omega | exact Nat.le_refl _⟩, ⟨by (with_reducible repeat (first | apply Kd.R_alloc | apply Kd.R_drewN | apply Kd.R_drew)); exact HO_13.out⟩, ⟨by (with_reducible repeat (first | refine blk_drewN ?_ _ | refine blk_drew ?_ | refine blk_alloc ?_ _)); exact BK172.out⟩, ⟨by repeat (first | (with_reducible first | exact HB.out | apply below_alloc | apply pw_below_drewN | apply below_drew1 | refine below_set ?_ GE172.out) | exact HB.out)⟩⟩
                            · rw [if_neg c31] at H
                              exact absurd H (by simp)
                          · rw [if_neg c30] at H
                            exact absurd H (by simp)
                        case rest =>
                          clear HC29
                          try clear c1
                          try clear p1
                          try clear q1
                          try clear hx1
                          try clear c2
                          try clear p2
                          try clear q2
                          try clear c3
                          try clear q3
                          try clear c5
                          try clear c6
                          try clear c6b0
                          try clear p6
                          try clear c7
                          try clear c7b0
                          try clear c8
                          try clear c8b0
                          try clear q9
                          try clear c10
                          try clear c11
                          try clear c11b0
                          try clear c12
                          try clear c14
                          try clear p16
                          try clear q16
                          try clear hx16
                          try clear p17
                          try clear q17
                          try clear hx17
                          try clear c19
                          try clear c19b0
                          try clear c20
                          try clear c20b0
                          try clear c21
                          try clear c21b0
                          try clear c25
                          try clear c25b0
                          try clear q26
                          try clear c27
                          try clear c28
                          try clear c30
                          try clear c30b0
                          try clear c31
                          try clear c31b0
                          try clear q32
                          try clear c33
                          try clear hcz24_0
                          try clear hcz24_1
                          try clear hcz35_0
                          try clear hcz35_1
                          try clear hfz24_0
                          try clear hfz24_1
                          try clear hfz35_0
                          try clear hfz35_1
                          try clear hx160_0
                          try clear hx161_0
                          try clear hx171_0
                          try clear hx171_1
                          try clear hx173_0
                          try clear hx174_0
                          try clear p1
                          try clear p16
                          try clear p160
                          try clear p161
                          try clear p17
                          try clear p171
                          try clear p173
                          try clear p174
                          try clear p2
                          try clear p6
                          try clear q1
                          try clear q16
                          try clear q160
                          try clear q161
                          try clear q17
                          try clear q171
                          try clear q173
                          try clear q174
                          try clear q2
                          try clear q26
                          try clear q9
                          obtain ⟨kq, x59_28, rfl, HA, HJ28, HO_13, BK172, HB⟩ := hcut
                          cases kq with
                          | zero => exact absurd HA.out (by simp [spec_grFused.j3])
                          | succ kj28 =>
                            have H := HA.out
                            clear HA
                            simp only [spec_grFused.j3] at H
                            by_cases c37 : x59_28 = true
                            · subst c37
                              have H1 : (spec_grFused.l1 kj28 l0 l1 l2 a4 t168 (Go.bits .xor .i64 x14_2 1) l0 (l0.length : Int) (wrap64 (x43_2 + 1))) = some r := by rw [if_pos rfl] at H; exact H
                              clear H
                              have H := H1
                              clear H1
                              have H' := Aside0.mk H
                              clear H
                              go_wp2
                              go_roundg kj28
                              case measure => have := HK1.out; have := HK2.out; have := HJ21.out; have := HJ28.out; omega
                              case rel => exact ⟨(Go.bits .xor .i64 x14_2 1), (wrap64 (x43_2 + 1)), (by first | rfl | (simp; done) | (simp [*]; done)), (by first | rfl | (simp; done) | (simp [*]; done)), H', ⟨by have := HK1.out; have := HK2.out; have := HJ21.out; have := HJ28.out; omega⟩, ⟨by (with_reducible repeat (first | apply Kd.R_alloc | apply Kd.R_drewN | apply Kd.R_drew)); exact HO_13.out⟩, ⟨by repeat (first | (with_reducible first | exact HB.out | apply below_alloc | apply pw_below_drewN | apply below_drew1 | refine below_set ?_ GE172.out) | exact HB.out)⟩⟩
                            · replace c37 := Bool.eq_false_iff.mpr c37
                              subst c37
                              have H1 : (if 0 ≤ x43_2 then (if x43_2 < (l2.length : Int) then (if rdOf false l2 x43_2 = true then ((spec_l1Has.f kj28 t168 ((rd_T41 l0 x43_2).f0)).bind fun t177 => (spec_grFused.j4 kj28 l0 l1 l2 a4 t168 x14_2 x43_2 l0 (l0.length : Int) x43_2 t177 ((rd_T41 l0 x43_2).f0) ((rd_T41 l0 x43_2).f1))) else (spec_grFused.j4 kj28 l0 l1 l2 a4 t168 x14_2 x43_2 l0 (l0.length : Int) x43_2 false ((rd_T41 l0 x43_2).f0) ((rd_T41 l0 x43_2).f1))) else (none)) else (none)) = some r := by rw [if_neg (show ¬ (false = true) by decide)] at H; exact H
                              clear H
                              have H := H1
                              clear H1
                              have HC38 := Aside0.mk H
                              clear H
                              go_upto_region 15 with (fail)
                              go_cut [73] (fun v73 wc => ∃ (kq : Nat) (x73_37 : Bool), v73 = .bool x73_37 ∧ Aside0 (spec_grFused.j4 kq l0 l1 l2 a4 t168 x14_2 x43_2 l0 (l0.length : Int) x43_2 x73_37 ((rd_T41 l0 x43_2).f0) ((rd_T41 l0 x43_2).f1) = some r) ∧ Aside0 (kq ≤ kj28) ∧ Aside0 (Kd.R (Kd.int .i64) 3 wc w.heap.size (fun _ => True) v169 t168) ∧ Aside0 (wc.heap[gb172]? = some (.cells #[.int .i64 ((rd_T41 l0 x43_2).f0), .int .i64 ((rd_T41 l0 x43_2).f1)] 41 (0, 0))) ∧ Aside0 (Below w.heap.size w wc))
                              case first =>
                                have H := HC38.out
                                clear HC38
                                by_cases c39 : 0 ≤ x43_2
                                · rw [if_pos c39] at H
                                  have c39b0 : decide (0 ≤ x43_2) = true := decide_eq_true c39
                                  clear c39
                                  (first | rw [c39b0] | (simp only [i64_w, i32_w]; rw [c39b0]) | skip)
                                  by_cases c40 : x43_2 < (l2.length : Int)
                                  · rw [if_pos c40] at H
                                    have c40b0 : decide (x43_2 < (l2.length : Int)) = true := decide_eq_true c40
                                    clear c40
                                    obtain ⟨bq41, hbq41⟩ : ∃ b_ : Bool, b_ = (rdOf false l2 x43_2) := ⟨_, rfl⟩
                                    replace H : (if bq41 = true then ((spec_l1Has.f kj28 t168 ((rd_T41 l0 x43_2).f0)).bind fun t177 => (spec_grFused.j4 kj28 l0 l1 l2 a4 t168 x14_2 x43_2 l0 (l0.length : Int) x43_2 t177 ((rd_T41 l0 x43_2).f0) ((rd_T41 l0 x43_2).f1))) else (spec_grFused.j4 kj28 l0 l1 l2 a4 t168 x14_2 x43_2 l0 (l0.length : Int) x43_2 false ((rd_T41 l0 x43_2).f0) ((rd_T41 l0 x43_2).f1))) = some r := by rw [← hbq41] at H; exact H
                                    have Nbq41 := Aside0.mk hbq41
                                    clear hbq41
                                    by_cases c42 : bq41 = true
                                    · subst c42
                                      have H1 : ((spec_l1Has.f kj28 t168 ((rd_T41 l0 x43_2).f0)).bind fun t177 => (spec_grFused.j4 kj28 l0 l1 l2 a4 t168 x14_2 x43_2 l0 (l0.length : Int) x43_2 t177 ((rd_T41 l0 x43_2).f0) ((rd_T41 l0 x43_2).f1))) = some r := by rw [if_pos rfl] at H; exact H
                                      clear H
                                      have H := H1
                                      clear H1
                                      replace H := Option.bind_eq_some_iff.mp H
                                      obtain ⟨t177, A430, H⟩ := H
                                      replace H : (spec_grFused.j4 kj28 l0 l1 l2 a4 t168 x14_2 x43_2 l0 (l0.length : Int) x43_2 t177 ((rd_T41 l0 x43_2).f0) ((rd_T41 l0 x43_2).f1)) = some r := H
                                      have A43 := Aside0.mk A430
                                      clear A430
                                      have H' := Aside0.mk H
                                      clear H
                                      have p176 : 0 ≤ (x43_2 : Int) := of_decide_eq_true (by first | (with_reducible assumption) | assumption)
                                      have q176 : x43_2 < (l2.length : Int) := of_decide_eq_true (by first | (with_reducible assumption) | assumption)
                                      obtain ⟨ad176, e176, hx176_0⟩ := Kd.at_bool HR2.out x43_2 p176 q176
                                      (try rw [← Nbq41.out] at hx176_0)
                                      cases e176
                                      replace hx176_0 := (HB.out.cell (World.block_lt_of_cell? w _ hx176_0)).trans hx176_0
                                      replace p176 := eq_true p176
                                      replace q176 := eq_true q176
                                      have hcz44_0 : wc.cell? ⟨gb172, 0, none⟩ = some (.int .i64 ((rd_T41 l0 x43_2).f0)) := (blk_cell BK172.out 0).trans rfl
                                      have hcz44_1 : wc.cell? ⟨gb172, 1, none⟩ = some (.int .i64 ((rd_T41 l0 x43_2).f1)) := (blk_cell BK172.out 1).trans rfl
                                      have hfz44_0 := blk_frozen BK172.out 0
                                      have hfz44_1 := blk_frozen BK172.out 1
                                      obtain ⟨Ao45, co45, eo45⟩ := Kd.R_slice HO_13.out
                                      subst eo45
                                      go_wp2_with (first | (go_at_call 64; (with_reducible refine (spec_l1Has.calls kj28 _ _ t168 ((rd_T41 l0 x43_2).f0) t177 _ ?side1 ?side2 A43.out).mono ?_); (case side1 => repeat (first | exact (Kd.R_reads' HO_13.out).2.2 | (with_reducible refine Kd.C_alloc ?_ _) | (with_reducible refine Kd.C_drewN ?_ _) | (with_reducible refine Kd.C_drew ?_))); (case side2 => exact (Kd.R_reads' HO_13.out).2.1); rintro e w' ⟨rfl, ⟨nd, rfl⟩⟩))
                                      go_meet
                                      case rel => exact ⟨_, (t177), (by first | rfl | (simp; done) | (simp [*]; done)), H', ⟨by have := HK1.out; have := HK2.out; have := HJ21.out; have := HJ28.out; first | omega | exact Nat.le_refl _⟩, ⟨by (with_reducible repeat (first | apply Kd.R_alloc | apply Kd.R_drewN | apply Kd.R_drew)); exact HO_13.out⟩, ⟨by (with_reducible repeat (first | refine blk_drewN ?_ _ | refine blk_drew ?_ | refine blk_alloc ?_ _)); exact BK172.out⟩, ⟨by repeat (first | (with_reducible first | exact HB.out | apply below_alloc | apply pw_below_drewN | apply below_drew1 | refine below_set ?_ GE172.out) | exact HB.out)⟩⟩
                                    · replace c42 := Bool.eq_false_iff.mpr c42
                                      subst c42
                                      have H1 : (spec_grFused.j4 kj28 l0 l1 l2 a4 t168 x14_2 x43_2 l0 (l0.length : Int) x43_2 false ((rd_T41 l0 x43_2).f0) ((rd_T41 l0 x43_2).f1)) = some r := by rw [if_neg (show ¬ (false = true) by decide)] at H; exact H
                                      clear H
                                      have H := H1
                                      clear H1
                                      have H' := Aside0.mk H
                                      clear H
                                      have p176 : 0 ≤ (x43_2 : Int) := of_decide_eq_true (by first | (with_reducible assumption) | assumption)
                                      have q176 : x43_2 < (l2.length : Int) := of_decide_eq_true (by first | (with_reducible assumption) | assumption)
                                      obtain ⟨ad176, e176, hx176_0⟩ := Kd.at_bool HR2.out x43_2 p176 q176
                                      (try rw [← Nbq41.out] at hx176_0)
                                      cases e176
                                      replace hx176_0 := (HB.out.cell (World.block_lt_of_cell? w _ hx176_0)).trans hx176_0
                                      replace p176 := eq_true p176
                                      replace q176 := eq_true q176
                                      go_wp2
                                      go_meet
                                      case rel => exact ⟨_, (false), (by first | rfl | (simp; done) | (simp [*]; done)), H', ⟨by have := HK1.out; have := HK2.out; have := HJ21.out; have := HJ28.out; first | omega | exact Nat.le_refl _⟩, ⟨by (with_reducible repeat (first | apply Kd.R_alloc | apply Kd.R_drewN | apply Kd.R_drew)); exact HO_13.out⟩, ⟨by (with_reducible repeat (first | refine blk_drewN ?_ _ | refine blk_drew ?_ | refine blk_alloc ?_ _)); exact BK172.out⟩, ⟨by repeat (first | (with_reducible first | exact HB.out | apply below_alloc | apply pw_below_drewN | apply below_drew1 | refine below_set ?_ GE172.out) | exact HB.out)⟩⟩
                                  · rw [if_neg c40] at H
                                    exact absurd H (by simp)
                                · rw [if_neg c39] at H
                                  exact absurd H (by simp)
                              case rest =>
                                clear HC38
                                try clear c1
                                try clear p1
                                try clear q1
                                try clear hx1
                                try clear c2
                                try clear p2
                                try clear q2
                                try clear c3
                                try clear q3
                                try clear c4
                                try clear q4
                                try clear c5
                                try clear c6
                                try clear c6b0
                                try clear p6
                                try clear c7
                                try clear c7b0
                                try clear c8
                                try clear c8b0
                                try clear q9
                                try clear c10
                                try clear c11
                                try clear c11b0
                                try clear c12
                                try clear c14
                                try clear p16
                                try clear q16
                                try clear hx16
                                try clear p17
                                try clear q17
                                try clear hx17
                                try clear c19
                                try clear c19b0
                                try clear c20
                                try clear c20b0
                                try clear c21
                                try clear c21b0
                                try clear c25
                                try clear c25b0
                                try clear q26
                                try clear c27
                                try clear c28
                                try clear c30
                                try clear c30b0
                                try clear c31
                                try clear c31b0
                                try clear q32
                                try clear c33
                                try clear c37
                                try clear c39
                                try clear c39b0
                                try clear c40
                                try clear c40b0
                                try clear q41
                                try clear c42
                                try clear hcz24_0
                                try clear hcz24_1
                                try clear hcz35_0
                                try clear hcz35_1
                                try clear hcz44_0
                                try clear hcz44_1
                                try clear hfz24_0
                                try clear hfz24_1
                                try clear hfz35_0
                                try clear hfz35_1
                                try clear hfz44_0
                                try clear hfz44_1
                                try clear hx160_0
                                try clear hx161_0
                                try clear hx171_0
                                try clear hx171_1
                                try clear hx173_0
                                try clear hx174_0
                                try clear hx176_0
                                try clear p1
                                try clear p16
                                try clear p160
                                try clear p161
                                try clear p17
                                try clear p171
                                try clear p173
                                try clear p174
                                try clear p176
                                try clear p2
                                try clear p6
                                try clear q1
                                try clear q16
                                try clear q160
                                try clear q161
                                try clear q17
                                try clear q171
                                try clear q173
                                try clear q174
                                try clear q176
                                try clear q2
                                try clear q26
                                try clear q3
                                try clear q32
                                try clear q9
                                obtain ⟨kq, x73_37, rfl, HA, HJ37, HO_13, BK172, HB⟩ := hcut
                                cases kq with
                                | zero => exact absurd HA.out (by simp [spec_grFused.j4])
                                | succ kj37 =>
                                  have H := HA.out
                                  clear HA
                                  simp only [spec_grFused.j4] at H
                                  by_cases c46 : x73_37 = true
                                  · subst c46
                                    have H1 : ((spec_grFused.f kj37 l0 l1 l2 ((rd_T41 l0 x43_2).f1) x43_2).bind fun t178 => (spec_grFused.l1 kj37 l0 l1 l2 a4 t168 (Go.bits .xor .i64 x14_2 (wrap64 (t178 + 1))) l0 (l0.length : Int) (wrap64 (x43_2 + 1)))) = some r := by rw [if_pos rfl] at H; exact H
                                    clear H
                                    have H := H1
                                    clear H1
                                    replace H := Option.bind_eq_some_iff.mp H
                                    obtain ⟨t178, A470, H⟩ := H
                                    replace H : (spec_grFused.l1 kj37 l0 l1 l2 a4 t168 (Go.bits .xor .i64 x14_2 (wrap64 (t178 + 1))) l0 (l0.length : Int) (wrap64 (x43_2 + 1))) = some r := H
                                    have A47 := Aside0.mk A470
                                    clear A470
                                    have H' := Aside0.mk H
                                    clear H
                                    have hcz48_0 : wc.cell? ⟨gb172, 0, none⟩ = some (.int .i64 ((rd_T41 l0 x43_2).f0)) := (blk_cell BK172.out 0).trans rfl
                                    have hcz48_1 : wc.cell? ⟨gb172, 1, none⟩ = some (.int .i64 ((rd_T41 l0 x43_2).f1)) := (blk_cell BK172.out 1).trans rfl
                                    have hfz48_0 := blk_frozen BK172.out 0
                                    have hfz48_1 := blk_frozen BK172.out 1
                                    go_wp2_with (first | ((with_reducible refine gate_callee (f := 58) rfl ?_); refine goesL_ (some 91) rfl rfl Try.func58 (by kernel_rfl) rfl #[.slice (some ad171) l0.length c0, .slice A1 l1.length c1, .slice A2 l2.length c2, .int .i64 ((rd_T41 l0 x43_2).f1), .int .i64 x43_2] rfl (by (try simp only [List.map_toArray, List.map_cons, List.map_nil]); first | done | rfl | (simp only [List.length_drop, List.length_take]; rfl)) ?_; (with_reducible refine (ih kj37 (by have := HK1.out; have := HK2.out; have := HJ21.out; have := HJ28.out; have := HJ37.out; omega) _ _ l0 _ _ l1 _ _ l2 ((rd_T41 l0 x43_2).f1) x43_2 t178 _ ?side1 ?side2 ?side3 ?side4 ?side5 ?side6 A47.out).mono ?_); (case side1 => repeat (first | exact (Kd.C_below HR0.out HB.out) | (with_reducible refine Kd.C_alloc ?_ _) | (with_reducible refine Kd.C_drewN ?_ _) | (with_reducible refine Kd.C_drew ?_))); (case side2 => exact HC0.out); (case side3 => repeat (first | exact (Kd.C_below HR1.out HB.out) | (with_reducible refine Kd.C_alloc ?_ _) | (with_reducible refine Kd.C_drewN ?_ _) | (with_reducible refine Kd.C_drew ?_))); (case side4 => exact HC1.out); (case side5 => repeat (first | exact (Kd.C_below HR2.out HB.out) | (with_reducible refine Kd.C_alloc ?_ _) | (with_reducible refine Kd.C_drewN ?_ _) | (with_reducible refine Kd.C_drew ?_))); (case side6 => exact HC2.out); rintro e w49 ⟨rfl, hb⟩; refine ⟨_, rfl, ?_⟩; have n0_ := Aside0.mk (Kd.R_below (by (with_reducible repeat (first | apply Kd.R_alloc | apply Kd.R_drewN | apply Kd.R_drew)); exact HO_13.out) hb); have n1_ := Aside0.mk (blk_below (g := gb172) (o := .cells #[.int .i64 ((rd_T41 l0 x43_2).f0), .int .i64 ((rd_T41 l0 x43_2).f1)] 41 (0, 0)) (by (with_reducible repeat (first | refine blk_drewN ?_ _ | refine blk_drew ?_ | refine blk_alloc ?_ _)); exact BK172.out) hb); have n2_ := Aside0.mk (below_step (by repeat (first | (with_reducible first | exact HB.out | apply below_alloc | apply pw_below_drewN | apply below_drew1 | refine below_set ?_ GE172.out) | exact HB.out)) hb); clear HO_13; clear BK172; clear HB; have HO_13 := n0_; have BK172 := n1_; have HB := n2_; clear n0_ n1_ n2_; (try clear hb); (try clear hb2); (try clear hk); (try clear hi)))
                                    go_roundg kj37
                                    case measure => have := HK1.out; have := HK2.out; have := HJ21.out; have := HJ28.out; have := HJ37.out; omega
                                    case rel => exact ⟨(Go.bits .xor .i64 x14_2 (wrap64 (t178 + 1))), (wrap64 (x43_2 + 1)), (by first | rfl | (simp; done) | (simp [*]; done)), (by first | rfl | (simp; done) | (simp [*]; done)), H', ⟨by have := HK1.out; have := HK2.out; have := HJ21.out; have := HJ28.out; have := HJ37.out; omega⟩, ⟨by (with_reducible repeat (first | apply Kd.R_alloc | apply Kd.R_drewN | apply Kd.R_drew)); exact HO_13.out⟩, ⟨by repeat (first | (with_reducible first | exact HB.out | apply below_alloc | apply pw_below_drewN | apply below_drew1 | refine below_set ?_ GE172.out) | exact HB.out)⟩⟩
                                  · replace c46 := Bool.eq_false_iff.mpr c46
                                    subst c46
                                    have H1 : (if 0 ≤ x43_2 then (if x43_2 < (l2.length : Int) then (if rdOf false l2 x43_2 = true then ((spec_l1Has.f kj37 t168 ((rd_T41 l0 x43_2).f1)).bind fun t180 => (if t180 = true then ((spec_grFused.f kj37 l0 l1 l2 ((rd_T41 l0 x43_2).f0) x43_2).bind fun t181 => (spec_grFused.l1 kj37 l0 l1 l2 a4 t168 (Go.bits .xor .i64 x14_2 (wrap64 (t181 + 1))) l0 (l0.length : Int) (wrap64 (x43_2 + 1)))) else (spec_grFused.l1 kj37 l0 l1 l2 a4 t168 x14_2 l0 (l0.length : Int) (wrap64 (x43_2 + 1))))) else (spec_grFused.l1 kj37 l0 l1 l2 a4 t168 x14_2 l0 (l0.length : Int) (wrap64 (x43_2 + 1)))) else (none)) else (none)) = some r := by rw [if_neg (show ¬ (false = true) by decide)] at H; exact H
                                    clear H
                                    have H := H1
                                    clear H1
                                    by_cases c50 : 0 ≤ x43_2
                                    · rw [if_pos c50] at H
                                      have c50b0 : decide (0 ≤ x43_2) = true := decide_eq_true c50
                                      clear c50
                                      by_cases c51 : x43_2 < (l2.length : Int)
                                      · rw [if_pos c51] at H
                                        have c51b0 : decide (x43_2 < (l2.length : Int)) = true := decide_eq_true c51
                                        clear c51
                                        obtain ⟨bq52, hbq52⟩ : ∃ b_ : Bool, b_ = (rdOf false l2 x43_2) := ⟨_, rfl⟩
                                        replace H : (if bq52 = true then ((spec_l1Has.f kj37 t168 ((rd_T41 l0 x43_2).f1)).bind fun t180 => (if t180 = true then ((spec_grFused.f kj37 l0 l1 l2 ((rd_T41 l0 x43_2).f0) x43_2).bind fun t181 => (spec_grFused.l1 kj37 l0 l1 l2 a4 t168 (Go.bits .xor .i64 x14_2 (wrap64 (t181 + 1))) l0 (l0.length : Int) (wrap64 (x43_2 + 1)))) else (spec_grFused.l1 kj37 l0 l1 l2 a4 t168 x14_2 l0 (l0.length : Int) (wrap64 (x43_2 + 1))))) else (spec_grFused.l1 kj37 l0 l1 l2 a4 t168 x14_2 l0 (l0.length : Int) (wrap64 (x43_2 + 1)))) = some r := by rw [← hbq52] at H; exact H
                                        have Nbq52 := Aside0.mk hbq52
                                        clear hbq52
                                        by_cases c53 : bq52 = true
                                        · subst c53
                                          have H1 : ((spec_l1Has.f kj37 t168 ((rd_T41 l0 x43_2).f1)).bind fun t180 => (if t180 = true then ((spec_grFused.f kj37 l0 l1 l2 ((rd_T41 l0 x43_2).f0) x43_2).bind fun t181 => (spec_grFused.l1 kj37 l0 l1 l2 a4 t168 (Go.bits .xor .i64 x14_2 (wrap64 (t181 + 1))) l0 (l0.length : Int) (wrap64 (x43_2 + 1)))) else (spec_grFused.l1 kj37 l0 l1 l2 a4 t168 x14_2 l0 (l0.length : Int) (wrap64 (x43_2 + 1))))) = some r := by rw [if_pos rfl] at H; exact H
                                          clear H
                                          have H := H1
                                          clear H1
                                          replace H := Option.bind_eq_some_iff.mp H
                                          obtain ⟨t180, A540, H⟩ := H
                                          replace H : (if t180 = true then ((spec_grFused.f kj37 l0 l1 l2 ((rd_T41 l0 x43_2).f0) x43_2).bind fun t181 => (spec_grFused.l1 kj37 l0 l1 l2 a4 t168 (Go.bits .xor .i64 x14_2 (wrap64 (t181 + 1))) l0 (l0.length : Int) (wrap64 (x43_2 + 1)))) else (spec_grFused.l1 kj37 l0 l1 l2 a4 t168 x14_2 l0 (l0.length : Int) (wrap64 (x43_2 + 1)))) = some r := H
                                          have A54 := Aside0.mk A540
                                          clear A540
                                          by_cases c55 : t180 = true
                                          · subst c55
                                            have H1 : ((spec_grFused.f kj37 l0 l1 l2 ((rd_T41 l0 x43_2).f0) x43_2).bind fun t181 => (spec_grFused.l1 kj37 l0 l1 l2 a4 t168 (Go.bits .xor .i64 x14_2 (wrap64 (t181 + 1))) l0 (l0.length : Int) (wrap64 (x43_2 + 1)))) = some r := by rw [if_pos rfl] at H; exact H
                                            clear H
                                            have H := H1
                                            clear H1
                                            replace H := Option.bind_eq_some_iff.mp H
                                            obtain ⟨t181, A560, H⟩ := H
                                            replace H : (spec_grFused.l1 kj37 l0 l1 l2 a4 t168 (Go.bits .xor .i64 x14_2 (wrap64 (t181 + 1))) l0 (l0.length : Int) (wrap64 (x43_2 + 1))) = some r := H
                                            have A56 := Aside0.mk A560
                                            clear A560
                                            have H' := Aside0.mk H
                                            clear H
                                            have p179 : 0 ≤ (x43_2 : Int) := of_decide_eq_true (by first | (with_reducible assumption) | assumption)
                                            have q179 : x43_2 < (l2.length : Int) := of_decide_eq_true (by first | (with_reducible assumption) | assumption)
                                            obtain ⟨ad179, e179, hx179_0⟩ := Kd.at_bool HR2.out x43_2 p179 q179
                                            (try rw [← Nbq52.out] at hx179_0)
                                            cases e179
                                            replace hx179_0 := (HB.out.cell (World.block_lt_of_cell? w _ hx179_0)).trans hx179_0
                                            replace p179 := eq_true p179
                                            replace q179 := eq_true q179
                                            have hcz57_0 : wc.cell? ⟨gb172, 0, none⟩ = some (.int .i64 ((rd_T41 l0 x43_2).f0)) := (blk_cell BK172.out 0).trans rfl
                                            have hcz57_1 : wc.cell? ⟨gb172, 1, none⟩ = some (.int .i64 ((rd_T41 l0 x43_2).f1)) := (blk_cell BK172.out 1).trans rfl
                                            have hfz57_0 := blk_frozen BK172.out 0
                                            have hfz57_1 := blk_frozen BK172.out 1
                                            obtain ⟨Ao58, co58, eo58⟩ := Kd.R_slice HO_13.out
                                            subst eo58
                                            go_wp2_with (first | (go_at_call 64; (with_reducible refine (spec_l1Has.calls kj37 _ _ t168 ((rd_T41 l0 x43_2).f1) true _ ?side1 ?side2 A54.out).mono ?_); (case side1 => repeat (first | exact (Kd.R_reads' HO_13.out).2.2 | (with_reducible refine Kd.C_alloc ?_ _) | (with_reducible refine Kd.C_drewN ?_ _) | (with_reducible refine Kd.C_drew ?_))); (case side2 => exact (Kd.R_reads' HO_13.out).2.1); rintro e w' ⟨rfl, ⟨nd, rfl⟩⟩) | ((with_reducible refine gate_callee (f := 58) rfl ?_); refine goesL_ (some 112) rfl rfl Try.func58 (by kernel_rfl) rfl #[.slice (some ad171) l0.length c0, .slice A1 l1.length c1, .slice (some ad179) l2.length c2, .int .i64 ((rd_T41 l0 x43_2).f0), .int .i64 x43_2] rfl (by (try simp only [List.map_toArray, List.map_cons, List.map_nil]); first | done | rfl | (simp only [List.length_drop, List.length_take]; rfl)) ?_; (with_reducible refine (ih kj37 (by have := HK1.out; have := HK2.out; have := HJ21.out; have := HJ28.out; have := HJ37.out; omega) _ _ l0 _ _ l1 _ _ l2 ((rd_T41 l0 x43_2).f0) x43_2 t181 _ ?side1 ?side2 ?side3 ?side4 ?side5 ?side6 A56.out).mono ?_); (case side1 => repeat (first | exact (Kd.C_below HR0.out (by repeat (first | (with_reducible first | exact HB.out | apply below_alloc | apply pw_below_drewN | apply below_drew1 | refine below_set ?_ GE172.out) | exact HB.out))) | (with_reducible refine Kd.C_alloc ?_ _) | (with_reducible refine Kd.C_drewN ?_ _) | (with_reducible refine Kd.C_drew ?_))); (case side2 => exact HC0.out); (case side3 => repeat (first | exact (Kd.C_below HR1.out (by repeat (first | (with_reducible first | exact HB.out | apply below_alloc | apply pw_below_drewN | apply below_drew1 | refine below_set ?_ GE172.out) | exact HB.out))) | (with_reducible refine Kd.C_alloc ?_ _) | (with_reducible refine Kd.C_drewN ?_ _) | (with_reducible refine Kd.C_drew ?_))); (case side4 => exact HC1.out); (case side5 => repeat (first | exact (Kd.C_below HR2.out (by repeat (first | (with_reducible first | exact HB.out | apply below_alloc | apply pw_below_drewN | apply below_drew1 | refine below_set ?_ GE172.out) | exact HB.out))) | (with_reducible refine Kd.C_alloc ?_ _) | (with_reducible refine Kd.C_drewN ?_ _) | (with_reducible refine Kd.C_drew ?_))); (case side6 => exact HC2.out); rintro e w59 ⟨rfl, hb⟩; refine ⟨_, rfl, ?_⟩; have n0_ := Aside0.mk (Kd.R_below (by (with_reducible repeat (first | apply Kd.R_alloc | apply Kd.R_drewN | apply Kd.R_drew)); exact HO_13.out) hb); have n1_ := Aside0.mk (blk_below (g := gb172) (o := .cells #[.int .i64 ((rd_T41 l0 x43_2).f0), .int .i64 ((rd_T41 l0 x43_2).f1)] 41 (0, 0)) (by (with_reducible repeat (first | refine blk_drewN ?_ _ | refine blk_drew ?_ | refine blk_alloc ?_ _)); exact BK172.out) hb); have n2_ := Aside0.mk (below_step (by repeat (first | (with_reducible first | exact HB.out | apply below_alloc | apply pw_below_drewN | apply below_drew1 | refine below_set ?_ GE172.out) | exact HB.out)) hb); clear HO_13; clear BK172; clear HB; have HO_13 := n0_; have BK172 := n1_; have HB := n2_; clear n0_ n1_ n2_; (try clear hb); (try clear hb2); (try clear hk); (try clear hi)))
                                            go_roundg kj37
                                            case measure => have := HK1.out; have := HK2.out; have := HJ21.out; have := HJ28.out; have := HJ37.out; omega
                                            case rel => exact ⟨(Go.bits .xor .i64 x14_2 (wrap64 (t181 + 1))), (wrap64 (x43_2 + 1)), (by first | rfl | (simp; done) | (simp [*]; done)), (by first | rfl | (simp; done) | (simp [*]; done)), H', ⟨by have := HK1.out; have := HK2.out; have := HJ21.out; have := HJ28.out; have := HJ37.out; omega⟩, ⟨by (with_reducible repeat (first | apply Kd.R_alloc | apply Kd.R_drewN | apply Kd.R_drew)); exact HO_13.out⟩, ⟨by repeat (first | (with_reducible first | exact HB.out | apply below_alloc | apply pw_below_drewN | apply below_drew1 | refine below_set ?_ GE172.out) | exact HB.out)⟩⟩
                                          · replace c55 := Bool.eq_false_iff.mpr c55
                                            subst c55
                                            have H1 : (spec_grFused.l1 kj37 l0 l1 l2 a4 t168 x14_2 l0 (l0.length : Int) (wrap64 (x43_2 + 1))) = some r := by rw [if_neg (show ¬ (false = true) by decide)] at H; exact H
                                            clear H
                                            have H := H1
                                            clear H1
                                            have H' := Aside0.mk H
                                            clear H
                                            have p179 : 0 ≤ (x43_2 : Int) := of_decide_eq_true (by first | (with_reducible assumption) | assumption)
                                            have q179 : x43_2 < (l2.length : Int) := of_decide_eq_true (by first | (with_reducible assumption) | assumption)
                                            obtain ⟨ad179, e179, hx179_0⟩ := Kd.at_bool HR2.out x43_2 p179 q179
                                            (try rw [← Nbq52.out] at hx179_0)
                                            cases e179
                                            replace hx179_0 := (HB.out.cell (World.block_lt_of_cell? w _ hx179_0)).trans hx179_0
                                            replace p179 := eq_true p179
                                            replace q179 := eq_true q179
                                            have hcz60_0 : wc.cell? ⟨gb172, 0, none⟩ = some (.int .i64 ((rd_T41 l0 x43_2).f0)) := (blk_cell BK172.out 0).trans rfl
                                            have hcz60_1 : wc.cell? ⟨gb172, 1, none⟩ = some (.int .i64 ((rd_T41 l0 x43_2).f1)) := (blk_cell BK172.out 1).trans rfl
                                            have hfz60_0 := blk_frozen BK172.out 0
                                            have hfz60_1 := blk_frozen BK172.out 1
                                            obtain ⟨Ao61, co61, eo61⟩ := Kd.R_slice HO_13.out
                                            subst eo61
                                            go_wp2_with (first | (go_at_call 64; (with_reducible refine (spec_l1Has.calls kj37 _ _ t168 ((rd_T41 l0 x43_2).f1) false _ ?side1 ?side2 A54.out).mono ?_); (case side1 => repeat (first | exact (Kd.R_reads' HO_13.out).2.2 | (with_reducible refine Kd.C_alloc ?_ _) | (with_reducible refine Kd.C_drewN ?_ _) | (with_reducible refine Kd.C_drew ?_))); (case side2 => exact (Kd.R_reads' HO_13.out).2.1); rintro e w' ⟨rfl, ⟨nd, rfl⟩⟩))
                                            go_roundg kj37
                                            case measure => have := HK1.out; have := HK2.out; have := HJ21.out; have := HJ28.out; have := HJ37.out; omega
                                            case rel => exact ⟨(x14_2), (wrap64 (x43_2 + 1)), (by first | rfl | (simp; done) | (simp [*]; done)), (by first | rfl | (simp; done) | (simp [*]; done)), H', ⟨by have := HK1.out; have := HK2.out; have := HJ21.out; have := HJ28.out; have := HJ37.out; omega⟩, ⟨by (with_reducible repeat (first | apply Kd.R_alloc | apply Kd.R_drewN | apply Kd.R_drew)); exact HO_13.out⟩, ⟨by repeat (first | (with_reducible first | exact HB.out | apply below_alloc | apply pw_below_drewN | apply below_drew1 | refine below_set ?_ GE172.out) | exact HB.out)⟩⟩
                                        · replace c53 := Bool.eq_false_iff.mpr c53
                                          subst c53
                                          have H1 : (spec_grFused.l1 kj37 l0 l1 l2 a4 t168 x14_2 l0 (l0.length : Int) (wrap64 (x43_2 + 1))) = some r := by rw [if_neg (show ¬ (false = true) by decide)] at H; exact H
                                          clear H
                                          have H := H1
                                          clear H1
                                          have H' := Aside0.mk H
                                          clear H
                                          have p179 : 0 ≤ (x43_2 : Int) := of_decide_eq_true (by first | (with_reducible assumption) | assumption)
                                          have q179 : x43_2 < (l2.length : Int) := of_decide_eq_true (by first | (with_reducible assumption) | assumption)
                                          obtain ⟨ad179, e179, hx179_0⟩ := Kd.at_bool HR2.out x43_2 p179 q179
                                          (try rw [← Nbq52.out] at hx179_0)
                                          cases e179
                                          replace hx179_0 := (HB.out.cell (World.block_lt_of_cell? w _ hx179_0)).trans hx179_0
                                          replace p179 := eq_true p179
                                          replace q179 := eq_true q179
                                          go_wp2
                                          go_roundg kj37
                                          case measure => have := HK1.out; have := HK2.out; have := HJ21.out; have := HJ28.out; have := HJ37.out; omega
                                          case rel => exact ⟨(x14_2), (wrap64 (x43_2 + 1)), (by first | rfl | (simp; done) | (simp [*]; done)), (by first | rfl | (simp; done) | (simp [*]; done)), H', ⟨by have := HK1.out; have := HK2.out; have := HJ21.out; have := HJ28.out; have := HJ37.out; omega⟩, ⟨by (with_reducible repeat (first | apply Kd.R_alloc | apply Kd.R_drewN | apply Kd.R_drew)); exact HO_13.out⟩, ⟨by repeat (first | (with_reducible first | exact HB.out | apply below_alloc | apply pw_below_drewN | apply below_drew1 | refine below_set ?_ GE172.out) | exact HB.out)⟩⟩
                                      · rw [if_neg c51] at H
                                        exact absurd H (by simp)
                                    · rw [if_neg c50] at H
                                      exact absurd H (by simp)
                · rw [if_neg c21] at H
                  exact absurd H (by simp)
              · rw [if_neg c20] at H
                exact absurd H (by simp)
            · rw [if_neg c19] at H
              have c19b0 : decide (x43_2 < (l0.length : Int)) = false := decide_eq_false c19
              clear c19
              obtain rfl := Option.some.inj H
              go_wp2
              go_ret
              exact ⟨by first | rfl | (simp [errW_none, errW_some] <;> rfl) | (simp [*, errW_none, errW_some] <;> rfl), by repeat (first | (with_reducible first | exact HB.out | apply below_alloc | apply pw_below_drewN | apply below_drew1) | exact HB.out)⟩

end Go.Proofs.Ytoiobcdaomfepaa.QFnExactGrundyByFusion
