/- The Go functions that the law FnExactReversibleOf reaches, as Lean functions, and what their calls do. Written by a program of this session. -/
import Derived.Test.YtpiafobcmhfclaaQFnExactReversibleOfx0
import Derived.Test.YtpiafobcmhfclaaQFnExactReversibleOfx2
namespace Go.Proofs.Ytpiafobcmhfclaa.QFnExactReversibleOf
open Go.RowKit Go.Proofs.YtpiafobcmhfclaaW.PrintWords Go.Proofs.YtpiafobcmhfclaaW.PrintLast Go.Proofs.YtpiafobcmhfclaaW.PrintMore
attribute [local go_sem] max2_int min2_int max_two min_two max_three min_three max_four min_four   -- for this text's walks alone
set_option linter.unusedVariables false
set_option linter.unusedSimpArgs false

/-! ### spec_gaHas: function 46 -/
def spec_gaHas.f (k : Nat) (l0 : List (S57)) (a1 : Int) : Option (Bool) := (spec_gaGood.f k l0).bind fun t151 => (if t151 = true then ((spec_l1In.f a1 0 (wrap64 ((l0.length : Int) - 1))).bind fun t152 => (some t152)) else (some false))
theorem spec_gaHas.mono : ∀ a0 a1 k, LeO (spec_gaHas.f k a0 a1) (spec_gaHas.f (k + 1) a0 a1) := by
  intro a0 a1 k
  unfold spec_gaHas.f
  repeat' first
      | (with_reducible exact spec_gaGood.mono _ _)
      | (with_reducible exact LeO.refl _)
      | (with_reducible exact LeO.none _)
      | (with_reducible refine LeO.ite ?_ ?_)
      | (with_reducible refine LeO.bind ?_ (fun _ => ?_))
      | exact spec_gaGood.mono _ _
      | exact LeO.none _
      | refine LeO.ite ?_ ?_
      | refine LeO.bind ?_ (fun _ => ?_)
set_option maxHeartbeats 8000000 in
set_option maxRecDepth 100000 in
theorem spec_gaHas.calls (k : Nat) (A0 : Option Addr) (c0 : Nat) (l0 : List (S57)) (a1 : Int) (r : Bool) (w : World) (hr0 : Kd.C k57 w A0 l0.length l0) (hc0 : l0.length ≤ c0) (h : spec_gaHas.f k l0 a1 = some r) :
    Calls Try.prog 46 #[.slice A0 l0.length c0, .int .i64 a1] w fun e w' => e = .returned (.bool r) ∧ Below w.heap.size w w' := by
  have HR0 := Aside0.mk hr0
  have HC0 := Aside0.mk hc0
  clear hr0 hc0
  have HB := Aside0.mk (Below.refl w.heap.size w)
  have H : ((spec_gaGood.f k l0).bind fun t151 => (if t151 = true then ((spec_l1In.f a1 0 (wrap64 ((l0.length : Int) - 1))).bind fun t152 => (some t152)) else (some false))) = some r := h
  clear h
  replace H := Option.bind_eq_some_iff.mp H
  obtain ⟨t151, A30, H⟩ := H
  replace H : (if t151 = true then ((spec_l1In.f a1 0 (wrap64 ((l0.length : Int) - 1))).bind fun t152 => (some t152)) else (some false)) = some r := H
  have A3 := Aside0.mk A30
  clear A30
  by_cases c4 : t151 = true
  · subst c4
    have H1 : ((spec_l1In.f a1 0 (wrap64 ((l0.length : Int) - 1))).bind fun t152 => (some t152)) = some r := by first | (rw [if_pos rfl] at H; exact H) | (rw [if_pos trivial] at H; exact H)
    clear H
    have H := H1
    clear H1
    replace H := Option.bind_eq_some_iff.mp H
    obtain ⟨t152, A50, H⟩ := H
    replace H : (some t152) = some r := H
    have A5 := Aside0.mk A50
    clear A50
    obtain rfl := Option.some.inj H
    go_enter Try.func46, Try.ntmps46
    go_wp2_with (first | ((with_reducible refine gate_callee (f := 51) rfl ?_); refine goesL_ (some 6) rfl rfl Try.func51 (by kernel_rfl) rfl #[.slice A0 l0.length c0] rfl (by (try simp only [List.map_toArray, List.map_cons, List.map_nil]); first | done | rfl | (simp only [List.length_drop, List.length_take]; rfl)) ?_; (with_reducible refine (spec_gaGood.calls k _ _ l0 true _ ?side1 ?side2 A3.out).mono ?_); (case side1 => repeat (first | exact HR0.out | (with_reducible refine Kd.C_alloc ?_ _) | (with_reducible refine Kd.C_drewN ?_ _) | (with_reducible refine Kd.C_drew ?_))); (case side2 => exact HC0.out); rintro e w6 ⟨rfl, hb⟩; refine ⟨_, rfl, ?_⟩; have n0_ := Aside0.mk (below_step (by repeat (first | (with_reducible first | exact HB.out | apply below_alloc | apply pw_below_drewN | apply below_drew1) | exact HB.out)) hb); clear HB; have HB := n0_; clear n0_; (try clear hb); (try clear hb2); (try clear hk); (try clear hi)) | (go_at_call 40; (with_reducible refine (spec_l1In.calls a1 0 (wrap64 ((l0.length : Int) - 1)) t152 _ A5.out).mono ?_); rintro e w' ⟨rfl, ⟨nd, rfl⟩⟩))
    go_ret
    exact ⟨by first | rfl | (simp [errW_none, errW_some] <;> rfl) | (simp [*, errW_none, errW_some] <;> rfl), by repeat (first | (with_reducible first | exact HB.out | apply below_alloc | apply pw_below_drewN | apply below_drew1) | exact HB.out)⟩
  · replace c4 := Bool.eq_false_iff.mpr c4
    subst c4
    have H1 : (some false) = some r := by first | (rw [if_neg (show ¬ (false = true) by decide)] at H; exact H) | (rw [if_neg not_false] at H; exact H)
    clear H
    have H := H1
    clear H1
    obtain rfl := Option.some.inj H
    go_enter Try.func46, Try.ntmps46
    go_wp2_with (first | ((with_reducible refine gate_callee (f := 51) rfl ?_); refine goesL_ (some 6) rfl rfl Try.func51 (by kernel_rfl) rfl #[.slice A0 l0.length c0] rfl (by (try simp only [List.map_toArray, List.map_cons, List.map_nil]); first | done | rfl | (simp only [List.length_drop, List.length_take]; rfl)) ?_; (with_reducible refine (spec_gaGood.calls k _ _ l0 false _ ?side1 ?side2 A3.out).mono ?_); (case side1 => repeat (first | exact HR0.out | (with_reducible refine Kd.C_alloc ?_ _) | (with_reducible refine Kd.C_drewN ?_ _) | (with_reducible refine Kd.C_drew ?_))); (case side2 => exact HC0.out); rintro e w7 ⟨rfl, hb⟩; refine ⟨_, rfl, ?_⟩; have n0_ := Aside0.mk (below_step (by repeat (first | (with_reducible first | exact HB.out | apply below_alloc | apply pw_below_drewN | apply below_drew1) | exact HB.out)) hb); clear HB; have HB := n0_; clear n0_; (try clear hb); (try clear hb2); (try clear hk); (try clear hi)))
    go_ret
    exact ⟨by first | rfl | (simp [errW_none, errW_some] <;> rfl) | (simp [*, errW_none, errW_some] <;> rfl), by repeat (first | (with_reducible first | exact HB.out | apply below_alloc | apply pw_below_drewN | apply below_drew1) | exact HB.out)⟩

/-! ### spec_gaShown: function 80 -/
mutual
def spec_gaShown.l0 : Nat → List (S57) → List (List Bool) → Int → Int → List Int → Int → Int → Option (Bool)
  | 0, _, _, _, _, _, _, _ => none
  | k + 1, x0, x1, x2, x3, x17, x18, x19 => if x19 < x18 then (if 0 ≤ x19 then (if x19 < (x17.length : Int) then (if 0 ≤ x3 then (if x3 < (x1.length : Int) then (if 0 ≤ (rd x17 x19) then (if (rd x17 x19) < ((rd_L5 x1 x3).length : Int) then (if rdOf false (rd_L5 x1 x3) (rd x17 x19) = true then (some false) else (spec_gaShown.l0 k x0 x1 x2 x3 x17 x18 (wrap64 (x19 + 1)))) else (none)) else (none)) else (none)) else (none)) else (none)) else (none)) else (if 0 ≤ x3 then (if x3 < (x0.length : Int) then (spec_gaShown.l1 k x1 x2 ((rd_T57 x0 x3).f1) (((rd_T57 x0 x3).f1).length : Int) 0) else (none)) else (none))
def spec_gaShown.l1 : Nat → List (List Bool) → Int → List Int → Int → Int → Option (Bool)
  | 0, _, _, _, _, _ => none
  | k + 1, x1, x2, x35, x36, x37 => if x37 < x36 then (if 0 ≤ x37 then (if x37 < (x35.length : Int) then (if 0 ≤ (rd x35 x37) then (if (rd x35 x37) < (x1.length : Int) then (if 0 ≤ x2 then (if x2 < ((rd_L5 x1 (rd x35 x37)).length : Int) then (if rdOf false (rd_L5 x1 (rd x35 x37)) x2 = true then (some false) else (spec_gaShown.l1 k x1 x2 x35 x36 (wrap64 (x37 + 1)))) else (none)) else (none)) else (none)) else (none)) else (none)) else (none)) else (some true)
end
def spec_gaShown.f (k : Nat) (l0 : List (S57)) (l1 : List (List Bool)) (a2 : Int) (a3 : Int) : Option (Bool) := if 0 ≤ a2 then (if a2 < (l0.length : Int) then (spec_gaShown.l0 k l0 l1 a2 a3 ((rd_T57 l0 a2).f0) (((rd_T57 l0 a2).f0).length : Int) 0) else (none)) else (none)
theorem spec_gaShown.mono_l : ∀ k, (∀ y0 y1 y2 y3 y4 y5 y6, LeO (spec_gaShown.l0 k y0 y1 y2 y3 y4 y5 y6) (spec_gaShown.l0 (k + 1) y0 y1 y2 y3 y4 y5 y6)) ∧ (∀ y0 y1 y2 y3 y4, LeO (spec_gaShown.l1 k y0 y1 y2 y3 y4) (spec_gaShown.l1 (k + 1) y0 y1 y2 y3 y4))
  | 0 => ⟨fun _ _ _ _ _ _ _ r h => by simp [spec_gaShown.l0] at h, fun _ _ _ _ _ r h => by simp [spec_gaShown.l1] at h⟩
  | k + 1 => by
    obtain ⟨ih0, ih1⟩ := spec_gaShown.mono_l k
    refine ⟨?_, ?_⟩
    · intro y0 y1 y2 y3 y4 y5 y6
      unfold spec_gaShown.l0
      repeat' first
      | (with_reducible exact ih0 _ _ _ _ _ _ _)
      | (with_reducible exact ih1 _ _ _ _ _)
      | (with_reducible exact LeO.refl _)
      | (with_reducible exact LeO.none _)
      | (with_reducible refine LeO.ite ?_ ?_)
      | (with_reducible refine LeO.bind ?_ (fun _ => ?_))
      | exact ih0 _ _ _ _ _ _ _
      | exact ih1 _ _ _ _ _
      | exact LeO.none _
      | refine LeO.ite ?_ ?_
      | refine LeO.bind ?_ (fun _ => ?_)
    · intro y0 y1 y2 y3 y4
      unfold spec_gaShown.l1
      repeat' first
      | (with_reducible exact ih0 _ _ _ _ _ _ _)
      | (with_reducible exact ih1 _ _ _ _ _)
      | (with_reducible exact LeO.refl _)
      | (with_reducible exact LeO.none _)
      | (with_reducible refine LeO.ite ?_ ?_)
      | (with_reducible refine LeO.bind ?_ (fun _ => ?_))
      | exact ih0 _ _ _ _ _ _ _
      | exact ih1 _ _ _ _ _
      | exact LeO.none _
      | refine LeO.ite ?_ ?_
      | refine LeO.bind ?_ (fun _ => ?_)
theorem spec_gaShown.mono : ∀ a0 a1 a2 a3 k, LeO (spec_gaShown.f k a0 a1 a2 a3) (spec_gaShown.f (k + 1) a0 a1 a2 a3) := by
  intro a0 a1 a2 a3 k
  obtain ⟨ih0, ih1⟩ := spec_gaShown.mono_l k
  unfold spec_gaShown.f
  repeat' first
      | (with_reducible exact ih0 _ _ _ _ _ _ _)
      | (with_reducible exact ih1 _ _ _ _ _)
      | (with_reducible exact LeO.refl _)
      | (with_reducible exact LeO.none _)
      | (with_reducible refine LeO.ite ?_ ?_)
      | (with_reducible refine LeO.bind ?_ (fun _ => ?_))
      | exact ih0 _ _ _ _ _ _ _
      | exact ih1 _ _ _ _ _
      | exact LeO.none _
      | refine LeO.ite ?_ ?_
      | refine LeO.bind ?_ (fun _ => ?_)
set_option maxHeartbeats 8000000 in
set_option maxRecDepth 100000 in
theorem spec_gaShown.calls (k : Nat) (A0 : Option Addr) (c0 : Nat) (l0 : List (S57)) (A1 : Option Addr) (c1 : Nat) (l1 : List (List Bool)) (a2 : Int) (a3 : Int) (r : Bool) (w : World) (hr0 : Kd.C k57 w A0 l0.length l0) (hc0 : l0.length ≤ c0) (hr1 : Kd.C (Kd.slice 4 Kd.bool) w A1 l1.length l1) (hc1 : l1.length ≤ c1) (h : spec_gaShown.f k l0 l1 a2 a3 = some r) :
    Calls Try.prog 80 #[.slice A0 l0.length c0, .slice A1 l1.length c1, .int .i64 a2, .int .i64 a3] w fun e w' => e = .returned (.bool r) ∧ Drawn0 w w' := by
  have HR0 := Aside0.mk hr0
  have HC0 := Aside0.mk hc0
  clear hr0 hc0
  have HR1 := Aside0.mk hr1
  have HC1 := Aside0.mk hc1
  clear hr1 hc1
  have H : (if 0 ≤ a2 then (if a2 < (l0.length : Int) then (spec_gaShown.l0 k l0 l1 a2 a3 ((rd_T57 l0 a2).f0) (((rd_T57 l0 a2).f0).length : Int) 0) else (none)) else (none)) = some r := h
  clear h
  by_cases c5 : 0 ≤ a2
  · rw [if_pos c5] at H
    have c5b0 : decide (0 ≤ a2) = true := decide_eq_true c5
    clear c5
    by_cases c6 : a2 < (l0.length : Int)
    · rw [if_pos c6] at H
      have c6b0 : decide (a2 < (l0.length : Int)) = true := decide_eq_true c6
      clear c6
      have H' := Aside0.mk H
      clear H
      have p153 : 0 ≤ (a2 : Int) := of_decide_eq_true (by first | (with_reducible assumption) | assumption)
      have q153 : a2 < (l0.length : Int) := of_decide_eq_true (by first | (with_reducible assumption) | assumption)
      obtain ⟨ad153, A153_0, c153_0, A153_1, c153_1, e153, hx153_0, hx153_1, hl153_0, hi153_0, hl153_1, hi153_1⟩ := at_T57 HR0.out a2 p153 q153
      cases e153
      have HR153_0 := Aside0.mk hi153_0
      have HC153_0 := Aside0.mk hl153_0
      clear hi153_0 hl153_0
      have HR153_1 := Aside0.mk hi153_1
      have HC153_1 := Aside0.mk hl153_1
      clear hi153_1 hl153_1
      replace p153 := eq_true p153
      replace q153 := eq_true q153
      go_enter Try.func80, Try.ntmps80
      go_wp2
      go_loopg [19] k (fun kq v19 w' => ∃ (x19_1 : Int), v19 = .int .i64 x19_1 ∧ Aside0 (spec_gaShown.l0 kq l0 l1 a2 a3 ((rd_T57 l0 a2).f0) (((rd_T57 l0 a2).f0).length : Int) x19_1 = some r) ∧ Aside0 (kq ≤ k) ∧ Drawn0 w w')
      case atStart => exact ⟨(0), (by first | rfl | (simp; done) | (simp [*]; done)), H', ⟨Nat.le_refl _⟩, by repeat (first | exact Drawn0.refl _ | apply Drawn0.step)⟩
      case round =>
        clear H'
        try clear c1
        try clear p1
        try clear q1
        try clear hx1
        try clear p2
        try clear c5
        try clear c5b0
        try clear c6
        try clear c6b0
        try clear hx153_0
        try clear hx153_1
        try clear p153
        try clear q153
        obtain ⟨x19_1, rfl, HA, HK1, ⟨m1, rfl⟩⟩ := hrel
        cases gk with
        | zero => exact absurd HA.out (by simp [spec_gaShown.l0])
        | succ k1 =>
          have H := HA.out
          clear HA
          simp only [spec_gaShown.l0] at H
          by_cases c7 : x19_1 < (((rd_T57 l0 a2).f0).length : Int)
          · rw [if_pos c7] at H
            have c7b0 : decide (x19_1 < (((rd_T57 l0 a2).f0).length : Int)) = true := decide_eq_true c7
            clear c7
            by_cases c8 : 0 ≤ x19_1
            · rw [if_pos c8] at H
              have c8b0 : decide (0 ≤ x19_1) = true := decide_eq_true c8
              clear c8
              by_cases c9 : x19_1 < (((rd_T57 l0 a2).f0).length : Int)
              · rw [if_pos c9] at H
                have c9b0 : decide (x19_1 < (((rd_T57 l0 a2).f0).length : Int)) = true := decide_eq_true c9
                clear c9
                by_cases c10 : 0 ≤ a3
                · rw [if_pos c10] at H
                  have c10b0 : decide (0 ≤ a3) = true := decide_eq_true c10
                  clear c10
                  by_cases c11 : a3 < (l1.length : Int)
                  · rw [if_pos c11] at H
                    have c11b0 : decide (a3 < (l1.length : Int)) = true := decide_eq_true c11
                    clear c11
                    by_cases c12 : 0 ≤ (rd ((rd_T57 l0 a2).f0) x19_1)
                    · rw [if_pos c12] at H
                      have c12b0 : decide (0 ≤ (rd ((rd_T57 l0 a2).f0) x19_1)) = true := decide_eq_true c12
                      clear c12
                      by_cases c13 : (rd ((rd_T57 l0 a2).f0) x19_1) < ((rd_L5 l1 a3).length : Int)
                      · rw [if_pos c13] at H
                        have c13b0 : decide ((rd ((rd_T57 l0 a2).f0) x19_1) < ((rd_L5 l1 a3).length : Int)) = true := decide_eq_true c13
                        clear c13
                        obtain ⟨bq14, hbq14⟩ : ∃ b_ : Bool, b_ = (rdOf false (rd_L5 l1 a3) (rd ((rd_T57 l0 a2).f0) x19_1)) := ⟨_, rfl⟩
                        replace H : (if bq14 = true then (some false) else (spec_gaShown.l0 k1 l0 l1 a2 a3 ((rd_T57 l0 a2).f0) (((rd_T57 l0 a2).f0).length : Int) (wrap64 (x19_1 + 1)))) = some r := by rw [← hbq14] at H; exact H
                        have Nbq14 := Aside0.mk hbq14
                        clear hbq14
                        by_cases c15 : bq14 = true
                        · subst c15
                          have H1 : (some false) = some r := by first | (rw [if_pos rfl] at H; exact H) | (rw [if_pos trivial] at H; exact H)
                          clear H
                          have H := H1
                          clear H1
                          obtain rfl := Option.some.inj H
                          have p154 : 0 ≤ (x19_1 : Int) := of_decide_eq_true (by first | (with_reducible assumption) | assumption)
                          have q154 : x19_1 < (((rd_T57 l0 a2).f0).length : Int) := of_decide_eq_true (by first | (with_reducible assumption) | assumption)
                          obtain ⟨ad154, e154, hx154_0⟩ := Kd.at_int HR153_0.out x19_1 p154 q154
                          cases e154
                          replace p154 := eq_true p154
                          replace q154 := eq_true q154
                          have p155 : 0 ≤ (a3 : Int) := of_decide_eq_true (by first | (with_reducible assumption) | assumption)
                          have q155 : a3 < (l1.length : Int) := of_decide_eq_true (by first | (with_reducible assumption) | assumption)
                          obtain ⟨ad155, A155_0, c155_0, e155, hx155_0, hl155_0, hi155_0⟩ := at_L5 HR1.out a3 p155 q155
                          cases e155
                          have HR155_0 := Aside0.mk hi155_0
                          have HC155_0 := Aside0.mk hl155_0
                          clear hi155_0 hl155_0
                          replace p155 := eq_true p155
                          replace q155 := eq_true q155
                          have p156 : 0 ≤ ((rd ((rd_T57 l0 a2).f0) x19_1) : Int) := of_decide_eq_true (by first | (with_reducible assumption) | assumption)
                          have q156 : (rd ((rd_T57 l0 a2).f0) x19_1) < ((rd_L5 l1 a3).length : Int) := of_decide_eq_true (by first | (with_reducible assumption) | assumption)
                          obtain ⟨ad156, e156, hx156_0⟩ := Kd.at_bool HR155_0.out (rd ((rd_T57 l0 a2).f0) x19_1) p156 q156
                          (try rw [← Nbq14.out] at hx156_0)
                          cases e156
                          replace p156 := eq_true p156
                          replace q156 := eq_true q156
                          go_wp2
                          go_ret
                          exact ⟨by first | rfl | (simp; done) | (simp [*]; done), by repeat (first | exact Drawn0.refl _ | apply Drawn0.step)⟩
                        · replace c15 := Bool.eq_false_iff.mpr c15
                          subst c15
                          have H1 : (spec_gaShown.l0 k1 l0 l1 a2 a3 ((rd_T57 l0 a2).f0) (((rd_T57 l0 a2).f0).length : Int) (wrap64 (x19_1 + 1))) = some r := by first | (rw [if_neg (show ¬ (false = true) by decide)] at H; exact H) | (rw [if_neg not_false] at H; exact H)
                          clear H
                          have H := H1
                          clear H1
                          have H' := Aside0.mk H
                          clear H
                          have p154 : 0 ≤ (x19_1 : Int) := of_decide_eq_true (by first | (with_reducible assumption) | assumption)
                          have q154 : x19_1 < (((rd_T57 l0 a2).f0).length : Int) := of_decide_eq_true (by first | (with_reducible assumption) | assumption)
                          obtain ⟨ad154, e154, hx154_0⟩ := Kd.at_int HR153_0.out x19_1 p154 q154
                          cases e154
                          replace p154 := eq_true p154
                          replace q154 := eq_true q154
                          have p155 : 0 ≤ (a3 : Int) := of_decide_eq_true (by first | (with_reducible assumption) | assumption)
                          have q155 : a3 < (l1.length : Int) := of_decide_eq_true (by first | (with_reducible assumption) | assumption)
                          obtain ⟨ad155, A155_0, c155_0, e155, hx155_0, hl155_0, hi155_0⟩ := at_L5 HR1.out a3 p155 q155
                          cases e155
                          have HR155_0 := Aside0.mk hi155_0
                          have HC155_0 := Aside0.mk hl155_0
                          clear hi155_0 hl155_0
                          replace p155 := eq_true p155
                          replace q155 := eq_true q155
                          have p156 : 0 ≤ ((rd ((rd_T57 l0 a2).f0) x19_1) : Int) := of_decide_eq_true (by first | (with_reducible assumption) | assumption)
                          have q156 : (rd ((rd_T57 l0 a2).f0) x19_1) < ((rd_L5 l1 a3).length : Int) := of_decide_eq_true (by first | (with_reducible assumption) | assumption)
                          obtain ⟨ad156, e156, hx156_0⟩ := Kd.at_bool HR155_0.out (rd ((rd_T57 l0 a2).f0) x19_1) p156 q156
                          (try rw [← Nbq14.out] at hx156_0)
                          cases e156
                          replace p156 := eq_true p156
                          replace q156 := eq_true q156
                          go_wp2
                          go_roundg k1
                          case measure => have := HK1.out; omega
                          case rel => exact ⟨(wrap64 (x19_1 + 1)), (by first | rfl | (simp; done) | (simp [*]; done)), H', ⟨by have := HK1.out; omega⟩, by repeat (first | exact Drawn0.refl _ | apply Drawn0.step)⟩
                      · rw [if_neg c13] at H
                        exact absurd H (by simp)
                    · rw [if_neg c12] at H
                      exact absurd H (by simp)
                  · rw [if_neg c11] at H
                    exact absurd H (by simp)
                · rw [if_neg c10] at H
                  exact absurd H (by simp)
              · rw [if_neg c9] at H
                exact absurd H (by simp)
            · rw [if_neg c8] at H
              exact absurd H (by simp)
          · rw [if_neg c7] at H
            have c7b0 : decide (x19_1 < (((rd_T57 l0 a2).f0).length : Int)) = false := decide_eq_false c7
            clear c7
            by_cases c16 : 0 ≤ a3
            · rw [if_pos c16] at H
              have c16b0 : decide (0 ≤ a3) = true := decide_eq_true c16
              clear c16
              by_cases c17 : a3 < (l0.length : Int)
              · rw [if_pos c17] at H
                have c17b0 : decide (a3 < (l0.length : Int)) = true := decide_eq_true c17
                clear c17
                have H' := Aside0.mk H
                clear H
                have p157 : 0 ≤ (a3 : Int) := of_decide_eq_true (by first | (with_reducible assumption) | assumption)
                have q157 : a3 < (l0.length : Int) := of_decide_eq_true (by first | (with_reducible assumption) | assumption)
                obtain ⟨ad157, A157_0, c157_0, A157_1, c157_1, e157, hx157_0, hx157_1, hl157_0, hi157_0, hl157_1, hi157_1⟩ := at_T57 HR0.out a3 p157 q157
                obtain rfl : ad153 = ad157 := (by injection e157)
                have HR157_0 := Aside0.mk hi157_0
                have HC157_0 := Aside0.mk hl157_0
                clear hi157_0 hl157_0
                have HR157_1 := Aside0.mk hi157_1
                have HC157_1 := Aside0.mk hl157_1
                clear hi157_1 hl157_1
                replace p157 := eq_true p157
                replace q157 := eq_true q157
                go_wp2
                go_loopg [37] k1 (fun kq v37 w' => ∃ (x37_2 : Int), v37 = .int .i64 x37_2 ∧ Aside0 (spec_gaShown.l1 kq l1 a2 ((rd_T57 l0 a3).f1) (((rd_T57 l0 a3).f1).length : Int) x37_2 = some r) ∧ Aside0 (kq ≤ k1) ∧ Drawn0 w w')
                case atStart => exact ⟨(0), (by first | rfl | (simp; done) | (simp [*]; done)), H', ⟨Nat.le_refl _⟩, by repeat (first | exact Drawn0.refl _ | apply Drawn0.step)⟩
                case round =>
                  clear H'
                  try clear c1
                  try clear p1
                  try clear q1
                  try clear hx1
                  try clear p2
                  try clear c5
                  try clear c5b0
                  try clear c6
                  try clear c6b0
                  try clear p6
                  try clear c7
                  try clear c7b0
                  try clear c8
                  try clear c8b0
                  try clear c9
                  try clear c9b0
                  try clear c10
                  try clear c10b0
                  try clear c11
                  try clear c11b0
                  try clear c12
                  try clear c12b0
                  try clear c13
                  try clear c13b0
                  try clear q14
                  try clear c15
                  try clear p15
                  try clear q15
                  try clear hx15
                  try clear c16
                  try clear c16b0
                  try clear c17
                  try clear c17b0
                  try clear hx153_0
                  try clear hx153_1
                  try clear hx154_0
                  try clear hx155_0
                  try clear hx156_0
                  try clear hx157_0
                  try clear hx157_1
                  try clear p1
                  try clear p153
                  try clear p154
                  try clear p155
                  try clear p156
                  try clear p157
                  try clear p2
                  try clear q1
                  try clear q153
                  try clear q154
                  try clear q155
                  try clear q156
                  try clear q157
                  obtain ⟨x37_2, rfl, HA, HK2, ⟨m2, rfl⟩⟩ := hrel
                  cases gk with
                  | zero => exact absurd HA.out (by simp [spec_gaShown.l1])
                  | succ k2 =>
                    have H := HA.out
                    clear HA
                    simp only [spec_gaShown.l1] at H
                    by_cases c18 : x37_2 < (((rd_T57 l0 a3).f1).length : Int)
                    · rw [if_pos c18] at H
                      have c18b0 : decide (x37_2 < (((rd_T57 l0 a3).f1).length : Int)) = true := decide_eq_true c18
                      clear c18
                      by_cases c19 : 0 ≤ x37_2
                      · rw [if_pos c19] at H
                        have c19b0 : decide (0 ≤ x37_2) = true := decide_eq_true c19
                        clear c19
                        by_cases c20 : x37_2 < (((rd_T57 l0 a3).f1).length : Int)
                        · rw [if_pos c20] at H
                          have c20b0 : decide (x37_2 < (((rd_T57 l0 a3).f1).length : Int)) = true := decide_eq_true c20
                          clear c20
                          by_cases c21 : 0 ≤ (rd ((rd_T57 l0 a3).f1) x37_2)
                          · rw [if_pos c21] at H
                            have c21b0 : decide (0 ≤ (rd ((rd_T57 l0 a3).f1) x37_2)) = true := decide_eq_true c21
                            clear c21
                            by_cases c22 : (rd ((rd_T57 l0 a3).f1) x37_2) < (l1.length : Int)
                            · rw [if_pos c22] at H
                              have c22b0 : decide ((rd ((rd_T57 l0 a3).f1) x37_2) < (l1.length : Int)) = true := decide_eq_true c22
                              clear c22
                              by_cases c23 : 0 ≤ a2
                              · rw [if_pos c23] at H
                                have c23b0 : decide (0 ≤ a2) = true := decide_eq_true c23
                                clear c23
                                by_cases c24 : a2 < ((rd_L5 l1 (rd ((rd_T57 l0 a3).f1) x37_2)).length : Int)
                                · rw [if_pos c24] at H
                                  have c24b0 : decide (a2 < ((rd_L5 l1 (rd ((rd_T57 l0 a3).f1) x37_2)).length : Int)) = true := decide_eq_true c24
                                  clear c24
                                  obtain ⟨bq25, hbq25⟩ : ∃ b_ : Bool, b_ = (rdOf false (rd_L5 l1 (rd ((rd_T57 l0 a3).f1) x37_2)) a2) := ⟨_, rfl⟩
                                  replace H : (if bq25 = true then (some false) else (spec_gaShown.l1 k2 l1 a2 ((rd_T57 l0 a3).f1) (((rd_T57 l0 a3).f1).length : Int) (wrap64 (x37_2 + 1)))) = some r := by rw [← hbq25] at H; exact H
                                  have Nbq25 := Aside0.mk hbq25
                                  clear hbq25
                                  by_cases c26 : bq25 = true
                                  · subst c26
                                    have H1 : (some false) = some r := by first | (rw [if_pos rfl] at H; exact H) | (rw [if_pos trivial] at H; exact H)
                                    clear H
                                    have H := H1
                                    clear H1
                                    obtain rfl := Option.some.inj H
                                    have p158 : 0 ≤ (x37_2 : Int) := of_decide_eq_true (by first | (with_reducible assumption) | assumption)
                                    have q158 : x37_2 < (((rd_T57 l0 a3).f1).length : Int) := of_decide_eq_true (by first | (with_reducible assumption) | assumption)
                                    obtain ⟨ad158, e158, hx158_0⟩ := Kd.at_int HR157_1.out x37_2 p158 q158
                                    cases e158
                                    replace p158 := eq_true p158
                                    replace q158 := eq_true q158
                                    have p159 : 0 ≤ ((rd ((rd_T57 l0 a3).f1) x37_2) : Int) := of_decide_eq_true (by first | (with_reducible assumption) | assumption)
                                    have q159 : (rd ((rd_T57 l0 a3).f1) x37_2) < (l1.length : Int) := of_decide_eq_true (by first | (with_reducible assumption) | assumption)
                                    obtain ⟨ad159, A159_0, c159_0, e159, hx159_0, hl159_0, hi159_0⟩ := at_L5 HR1.out (rd ((rd_T57 l0 a3).f1) x37_2) p159 q159
                                    cases e159
                                    have HR159_0 := Aside0.mk hi159_0
                                    have HC159_0 := Aside0.mk hl159_0
                                    clear hi159_0 hl159_0
                                    replace p159 := eq_true p159
                                    replace q159 := eq_true q159
                                    have p160 : 0 ≤ (a2 : Int) := of_decide_eq_true (by first | (with_reducible assumption) | assumption)
                                    have q160 : a2 < ((rd_L5 l1 (rd ((rd_T57 l0 a3).f1) x37_2)).length : Int) := of_decide_eq_true (by first | (with_reducible assumption) | assumption)
                                    obtain ⟨ad160, e160, hx160_0⟩ := Kd.at_bool HR159_0.out a2 p160 q160
                                    (try rw [← Nbq25.out] at hx160_0)
                                    cases e160
                                    replace p160 := eq_true p160
                                    replace q160 := eq_true q160
                                    go_wp2
                                    go_ret
                                    exact ⟨by first | rfl | (simp; done) | (simp [*]; done), by repeat (first | exact Drawn0.refl _ | apply Drawn0.step)⟩
                                  · replace c26 := Bool.eq_false_iff.mpr c26
                                    subst c26
                                    have H1 : (spec_gaShown.l1 k2 l1 a2 ((rd_T57 l0 a3).f1) (((rd_T57 l0 a3).f1).length : Int) (wrap64 (x37_2 + 1))) = some r := by first | (rw [if_neg (show ¬ (false = true) by decide)] at H; exact H) | (rw [if_neg not_false] at H; exact H)
                                    clear H
                                    have H := H1
                                    clear H1
                                    have H' := Aside0.mk H
                                    clear H
                                    have p158 : 0 ≤ (x37_2 : Int) := of_decide_eq_true (by first | (with_reducible assumption) | assumption)
                                    have q158 : x37_2 < (((rd_T57 l0 a3).f1).length : Int) := of_decide_eq_true (by first | (with_reducible assumption) | assumption)
                                    obtain ⟨ad158, e158, hx158_0⟩ := Kd.at_int HR157_1.out x37_2 p158 q158
                                    cases e158
                                    replace p158 := eq_true p158
                                    replace q158 := eq_true q158
                                    have p159 : 0 ≤ ((rd ((rd_T57 l0 a3).f1) x37_2) : Int) := of_decide_eq_true (by first | (with_reducible assumption) | assumption)
                                    have q159 : (rd ((rd_T57 l0 a3).f1) x37_2) < (l1.length : Int) := of_decide_eq_true (by first | (with_reducible assumption) | assumption)
                                    obtain ⟨ad159, A159_0, c159_0, e159, hx159_0, hl159_0, hi159_0⟩ := at_L5 HR1.out (rd ((rd_T57 l0 a3).f1) x37_2) p159 q159
                                    cases e159
                                    have HR159_0 := Aside0.mk hi159_0
                                    have HC159_0 := Aside0.mk hl159_0
                                    clear hi159_0 hl159_0
                                    replace p159 := eq_true p159
                                    replace q159 := eq_true q159
                                    have p160 : 0 ≤ (a2 : Int) := of_decide_eq_true (by first | (with_reducible assumption) | assumption)
                                    have q160 : a2 < ((rd_L5 l1 (rd ((rd_T57 l0 a3).f1) x37_2)).length : Int) := of_decide_eq_true (by first | (with_reducible assumption) | assumption)
                                    obtain ⟨ad160, e160, hx160_0⟩ := Kd.at_bool HR159_0.out a2 p160 q160
                                    (try rw [← Nbq25.out] at hx160_0)
                                    cases e160
                                    replace p160 := eq_true p160
                                    replace q160 := eq_true q160
                                    go_wp2
                                    go_roundg k2
                                    case measure => have := HK1.out; have := HK2.out; omega
                                    case rel => exact ⟨(wrap64 (x37_2 + 1)), (by first | rfl | (simp; done) | (simp [*]; done)), H', ⟨by have := HK1.out; have := HK2.out; omega⟩, by repeat (first | exact Drawn0.refl _ | apply Drawn0.step)⟩
                                · rw [if_neg c24] at H
                                  exact absurd H (by simp)
                              · rw [if_neg c23] at H
                                exact absurd H (by simp)
                            · rw [if_neg c22] at H
                              exact absurd H (by simp)
                          · rw [if_neg c21] at H
                            exact absurd H (by simp)
                        · rw [if_neg c20] at H
                          exact absurd H (by simp)
                      · rw [if_neg c19] at H
                        exact absurd H (by simp)
                    · rw [if_neg c18] at H
                      have c18b0 : decide (x37_2 < (((rd_T57 l0 a3).f1).length : Int)) = false := decide_eq_false c18
                      clear c18
                      obtain rfl := Option.some.inj H
                      go_wp2
                      go_ret
                      exact ⟨by first | rfl | (simp; done) | (simp [*]; done), by repeat (first | exact Drawn0.refl _ | apply Drawn0.step)⟩
              · rw [if_neg c17] at H
                exact absurd H (by simp)
            · rw [if_neg c16] at H
              exact absurd H (by simp)
    · rw [if_neg c6] at H
      exact absurd H (by simp)
  · rw [if_neg c5] at H
    exact absurd H (by simp)

end Go.Proofs.Ytpiafobcmhfclaa.QFnExactReversibleOf
