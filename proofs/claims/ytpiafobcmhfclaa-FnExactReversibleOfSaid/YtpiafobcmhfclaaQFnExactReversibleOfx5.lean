/- The Go functions that the law FnExactReversibleOf reaches, as Lean functions, and what their calls do. Written by a program of this session. -/
import Derived.Test.YtpiafobcmhfclaaQFnExactReversibleOfx0
namespace Go.Proofs.Ytpiafobcmhfclaa.QFnExactReversibleOf
open Go.RowKit Go.Proofs.YtpiafobcmhfclaaW.PrintWords Go.Proofs.YtpiafobcmhfclaaW.PrintLast Go.Proofs.YtpiafobcmhfclaaW.PrintMore
attribute [local go_sem] max2_int min2_int max_two min_two max_three min_three max_four min_four   -- for this text's walks alone
set_option linter.unusedVariables false
set_option linter.unusedSimpArgs false

/-! ### spec_gaReverse: function 81 -/
def spec_gaReverse.l0 : Nat → List (List Bool) → Int → Bool → List Int → Int → Int → Option (Int)
  | 0, _, _, _, _, _, _ => none
  | k + 1, x1, x2, x4, x26, x27, x28 => if x28 < x27 then (if 0 ≤ x28 then (if x28 < (x26.length : Int) then (if x4 = true then (if 0 ≤ (rd x26 x28) then (if (rd x26 x28) < (x1.length : Int) then (if 0 ≤ x2 then (if x2 < ((rd_L5 x1 (rd x26 x28)).length : Int) then (if rdOf false (rd_L5 x1 (rd x26 x28)) x2 = true then (some (rd x26 x28)) else (spec_gaReverse.l0 k x1 x2 x4 x26 x27 (wrap64 (x28 + 1)))) else (none)) else (none)) else (none)) else (none)) else (if 0 ≤ x2 then (if x2 < (x1.length : Int) then (if 0 ≤ (rd x26 x28) then (if (rd x26 x28) < ((rd_L5 x1 x2).length : Int) then (if rdOf false (rd_L5 x1 x2) (rd x26 x28) = true then (some (rd x26 x28)) else (spec_gaReverse.l0 k x1 x2 x4 x26 x27 (wrap64 (x28 + 1)))) else (none)) else (none)) else (none)) else (none))) else (none)) else (none)) else (some (-1))
def spec_gaReverse.f (k : Nat) (l0 : List (S57)) (l1 : List (List Bool)) (a2 : Int) (a3 : Int) (a4 : Bool) : Option (Int) := if a4 = true then (if 0 ≤ a3 then (if a3 < (l0.length : Int) then (spec_gaReverse.l0 k l1 a2 a4 ((rd_T57 l0 a3).f1) (((rd_T57 l0 a3).f1).length : Int) 0) else (none)) else (none)) else (if 0 ≤ a3 then (if a3 < (l0.length : Int) then (spec_gaReverse.l0 k l1 a2 a4 ((rd_T57 l0 a3).f0) (((rd_T57 l0 a3).f0).length : Int) 0) else (none)) else (none))
theorem spec_gaReverse.mono_l : ∀ k, (∀ y0 y1 y2 y3 y4 y5, LeO (spec_gaReverse.l0 k y0 y1 y2 y3 y4 y5) (spec_gaReverse.l0 (k + 1) y0 y1 y2 y3 y4 y5))
  | 0 => fun _ _ _ _ _ _ r h => by simp [spec_gaReverse.l0] at h
  | k + 1 => by
    have ih0 := spec_gaReverse.mono_l k
    · intro y0 y1 y2 y3 y4 y5
      unfold spec_gaReverse.l0
      repeat' first
      | (with_reducible exact ih0 _ _ _ _ _ _)
      | (with_reducible exact LeO.refl _)
      | (with_reducible exact LeO.none _)
      | (with_reducible refine LeO.ite ?_ ?_)
      | (with_reducible refine LeO.bind ?_ (fun _ => ?_))
      | exact ih0 _ _ _ _ _ _
      | exact LeO.none _
      | refine LeO.ite ?_ ?_
      | refine LeO.bind ?_ (fun _ => ?_)
theorem spec_gaReverse.mono : ∀ a0 a1 a2 a3 a4 k, LeO (spec_gaReverse.f k a0 a1 a2 a3 a4) (spec_gaReverse.f (k + 1) a0 a1 a2 a3 a4) := by
  intro a0 a1 a2 a3 a4 k
  have ih0 := spec_gaReverse.mono_l k
  unfold spec_gaReverse.f
  repeat' first
      | (with_reducible exact ih0 _ _ _ _ _ _)
      | (with_reducible exact LeO.refl _)
      | (with_reducible exact LeO.none _)
      | (with_reducible refine LeO.ite ?_ ?_)
      | (with_reducible refine LeO.bind ?_ (fun _ => ?_))
      | exact ih0 _ _ _ _ _ _
      | exact LeO.none _
      | refine LeO.ite ?_ ?_
      | refine LeO.bind ?_ (fun _ => ?_)
set_option maxHeartbeats 8000000 in
set_option maxRecDepth 100000 in
theorem spec_gaReverse.calls (k : Nat) (A0 : Option Addr) (c0 : Nat) (l0 : List (S57)) (A1 : Option Addr) (c1 : Nat) (l1 : List (List Bool)) (a2 : Int) (a3 : Int) (a4 : Bool) (r : Int) (w : World) (hr0 : Kd.C k57 w A0 l0.length l0) (hc0 : l0.length ≤ c0) (hr1 : Kd.C (Kd.slice 4 Kd.bool) w A1 l1.length l1) (hc1 : l1.length ≤ c1) (h : spec_gaReverse.f k l0 l1 a2 a3 a4 = some r) :
    Calls Try.prog 81 #[.slice A0 l0.length c0, .slice A1 l1.length c1, .int .i64 a2, .int .i64 a3, .bool a4] w fun e w' => e = .returned (.int .i64 r) ∧ Drawn0 w w' := by
  cases a4 with
  | true =>
    have HR0 := Aside0.mk hr0
    have HC0 := Aside0.mk hc0
    clear hr0 hc0
    have HR1 := Aside0.mk hr1
    have HC1 := Aside0.mk hc1
    clear hr1 hc1
    have H : (if 0 ≤ a3 then (if a3 < (l0.length : Int) then (spec_gaReverse.l0 k l1 a2 true ((rd_T57 l0 a3).f1) (((rd_T57 l0 a3).f1).length : Int) 0) else (none)) else (none)) = some r := by unfold spec_gaReverse.f at h; rw [if_pos rfl] at h; exact h
    clear h
    by_cases c6 : 0 ≤ a3
    · rw [if_pos c6] at H
      have c6b0 : decide (0 ≤ a3) = true := decide_eq_true c6
      clear c6
      by_cases c7 : a3 < (l0.length : Int)
      · rw [if_pos c7] at H
        have c7b0 : decide (a3 < (l0.length : Int)) = true := decide_eq_true c7
        clear c7
        have H' := Aside0.mk H
        clear H
        have p178 : 0 ≤ (a3 : Int) := of_decide_eq_true (by first | (with_reducible assumption) | assumption)
        have q178 : a3 < (l0.length : Int) := of_decide_eq_true (by first | (with_reducible assumption) | assumption)
        obtain ⟨ad178, A178_0, c178_0, A178_1, c178_1, e178, hx178_0, hx178_1, hl178_0, hi178_0, hl178_1, hi178_1⟩ := at_T57 HR0.out a3 p178 q178
        cases e178
        have HR178_0 := Aside0.mk hi178_0
        have HC178_0 := Aside0.mk hl178_0
        clear hi178_0 hl178_0
        have HR178_1 := Aside0.mk hi178_1
        have HC178_1 := Aside0.mk hl178_1
        clear hi178_1 hl178_1
        replace p178 := eq_true p178
        replace q178 := eq_true q178
        go_enter Try.func81, Try.ntmps81
        go_wp2
        go_loopg [28] k (fun kq v28 w' => ∃ (x28_1 : Int), v28 = .int .i64 x28_1 ∧ Aside0 (spec_gaReverse.l0 kq l1 a2 true ((rd_T57 l0 a3).f1) (((rd_T57 l0 a3).f1).length : Int) x28_1 = some r) ∧ Aside0 (kq ≤ k) ∧ Drawn0 w w')
        case atStart => exact ⟨(0), (by first | rfl | (simp; done) | (simp [*]; done)), H', ⟨Nat.le_refl _⟩, by repeat (first | exact Drawn0.refl _ | apply Drawn0.step)⟩
        case round =>
          clear H'
          try clear c1
          try clear p1
          try clear q1
          try clear hx1
          try clear p2
          try clear c6
          try clear c6b0
          try clear c7
          try clear c7b0
          try clear hx178_0
          try clear hx178_1
          try clear p178
          try clear q178
          obtain ⟨x28_1, rfl, HA, HK1, ⟨m1, rfl⟩⟩ := hrel
          cases gk with
          | zero => exact absurd HA.out (by simp [spec_gaReverse.l0])
          | succ k1 =>
            have H := HA.out
            clear HA
            simp only [spec_gaReverse.l0] at H
            by_cases c8 : x28_1 < (((rd_T57 l0 a3).f1).length : Int)
            · rw [if_pos c8] at H
              have c8b0 : decide (x28_1 < (((rd_T57 l0 a3).f1).length : Int)) = true := decide_eq_true c8
              clear c8
              by_cases c9 : 0 ≤ x28_1
              · rw [if_pos c9] at H
                have c9b0 : decide (0 ≤ x28_1) = true := decide_eq_true c9
                clear c9
                by_cases c10 : x28_1 < (((rd_T57 l0 a3).f1).length : Int)
                · rw [if_pos c10] at H
                  have c10b0 : decide (x28_1 < (((rd_T57 l0 a3).f1).length : Int)) = true := decide_eq_true c10
                  clear c10
                  · skip
                    have H1 : (if 0 ≤ (rd ((rd_T57 l0 a3).f1) x28_1) then (if (rd ((rd_T57 l0 a3).f1) x28_1) < (l1.length : Int) then (if 0 ≤ a2 then (if a2 < ((rd_L5 l1 (rd ((rd_T57 l0 a3).f1) x28_1)).length : Int) then (if rdOf false (rd_L5 l1 (rd ((rd_T57 l0 a3).f1) x28_1)) a2 = true then (some (rd ((rd_T57 l0 a3).f1) x28_1)) else (spec_gaReverse.l0 k1 l1 a2 true ((rd_T57 l0 a3).f1) (((rd_T57 l0 a3).f1).length : Int) (wrap64 (x28_1 + 1)))) else (none)) else (none)) else (none)) else (none)) = some r := by first | (rw [if_pos rfl] at H; exact H) | (rw [if_pos trivial] at H; exact H)
                    clear H
                    have H := H1
                    clear H1
                    by_cases c12 : 0 ≤ (rd ((rd_T57 l0 a3).f1) x28_1)
                    · rw [if_pos c12] at H
                      have c12b0 : decide (0 ≤ (rd ((rd_T57 l0 a3).f1) x28_1)) = true := decide_eq_true c12
                      clear c12
                      by_cases c13 : (rd ((rd_T57 l0 a3).f1) x28_1) < (l1.length : Int)
                      · rw [if_pos c13] at H
                        have c13b0 : decide ((rd ((rd_T57 l0 a3).f1) x28_1) < (l1.length : Int)) = true := decide_eq_true c13
                        clear c13
                        by_cases c14 : 0 ≤ a2
                        · rw [if_pos c14] at H
                          have c14b0 : decide (0 ≤ a2) = true := decide_eq_true c14
                          clear c14
                          by_cases c15 : a2 < ((rd_L5 l1 (rd ((rd_T57 l0 a3).f1) x28_1)).length : Int)
                          · rw [if_pos c15] at H
                            have c15b0 : decide (a2 < ((rd_L5 l1 (rd ((rd_T57 l0 a3).f1) x28_1)).length : Int)) = true := decide_eq_true c15
                            clear c15
                            obtain ⟨bq16, hbq16⟩ : ∃ b_ : Bool, b_ = (rdOf false (rd_L5 l1 (rd ((rd_T57 l0 a3).f1) x28_1)) a2) := ⟨_, rfl⟩
                            replace H : (if bq16 = true then (some (rd ((rd_T57 l0 a3).f1) x28_1)) else (spec_gaReverse.l0 k1 l1 a2 true ((rd_T57 l0 a3).f1) (((rd_T57 l0 a3).f1).length : Int) (wrap64 (x28_1 + 1)))) = some r := by rw [← hbq16] at H; exact H
                            have Nbq16 := Aside0.mk hbq16
                            clear hbq16
                            by_cases c17 : bq16 = true
                            · subst c17
                              have H1 : (some (rd ((rd_T57 l0 a3).f1) x28_1)) = some r := by first | (rw [if_pos rfl] at H; exact H) | (rw [if_pos trivial] at H; exact H)
                              clear H
                              have H := H1
                              clear H1
                              obtain rfl := Option.some.inj H
                              have p179 : 0 ≤ (x28_1 : Int) := of_decide_eq_true (by first | (with_reducible assumption) | assumption)
                              have q179 : x28_1 < (((rd_T57 l0 a3).f1).length : Int) := of_decide_eq_true (by first | (with_reducible assumption) | assumption)
                              obtain ⟨ad179, e179, hx179_0⟩ := Kd.at_int HR178_1.out x28_1 p179 q179
                              cases e179
                              replace p179 := eq_true p179
                              replace q179 := eq_true q179
                              have p180 : 0 ≤ ((rd ((rd_T57 l0 a3).f1) x28_1) : Int) := of_decide_eq_true (by first | (with_reducible assumption) | assumption)
                              have q180 : (rd ((rd_T57 l0 a3).f1) x28_1) < (l1.length : Int) := of_decide_eq_true (by first | (with_reducible assumption) | assumption)
                              obtain ⟨ad180, A180_0, c180_0, e180, hx180_0, hl180_0, hi180_0⟩ := at_L5 HR1.out (rd ((rd_T57 l0 a3).f1) x28_1) p180 q180
                              cases e180
                              have HR180_0 := Aside0.mk hi180_0
                              have HC180_0 := Aside0.mk hl180_0
                              clear hi180_0 hl180_0
                              replace p180 := eq_true p180
                              replace q180 := eq_true q180
                              have p181 : 0 ≤ (a2 : Int) := of_decide_eq_true (by first | (with_reducible assumption) | assumption)
                              have q181 : a2 < ((rd_L5 l1 (rd ((rd_T57 l0 a3).f1) x28_1)).length : Int) := of_decide_eq_true (by first | (with_reducible assumption) | assumption)
                              obtain ⟨ad181, e181, hx181_0⟩ := Kd.at_bool HR180_0.out a2 p181 q181
                              (try rw [← Nbq16.out] at hx181_0)
                              cases e181
                              replace p181 := eq_true p181
                              replace q181 := eq_true q181
                              go_wp2
                              go_ret
                              exact ⟨by first | rfl | (simp; done) | (simp [*]; done), by repeat (first | exact Drawn0.refl _ | apply Drawn0.step)⟩
                            · replace c17 := Bool.eq_false_iff.mpr c17
                              subst c17
                              have H1 : (spec_gaReverse.l0 k1 l1 a2 true ((rd_T57 l0 a3).f1) (((rd_T57 l0 a3).f1).length : Int) (wrap64 (x28_1 + 1))) = some r := by first | (rw [if_neg (show ¬ (false = true) by decide)] at H; exact H) | (rw [if_neg not_false] at H; exact H)
                              clear H
                              have H := H1
                              clear H1
                              have H' := Aside0.mk H
                              clear H
                              have p179 : 0 ≤ (x28_1 : Int) := of_decide_eq_true (by first | (with_reducible assumption) | assumption)
                              have q179 : x28_1 < (((rd_T57 l0 a3).f1).length : Int) := of_decide_eq_true (by first | (with_reducible assumption) | assumption)
                              obtain ⟨ad179, e179, hx179_0⟩ := Kd.at_int HR178_1.out x28_1 p179 q179
                              cases e179
                              replace p179 := eq_true p179
                              replace q179 := eq_true q179
                              have p180 : 0 ≤ ((rd ((rd_T57 l0 a3).f1) x28_1) : Int) := of_decide_eq_true (by first | (with_reducible assumption) | assumption)
                              have q180 : (rd ((rd_T57 l0 a3).f1) x28_1) < (l1.length : Int) := of_decide_eq_true (by first | (with_reducible assumption) | assumption)
                              obtain ⟨ad180, A180_0, c180_0, e180, hx180_0, hl180_0, hi180_0⟩ := at_L5 HR1.out (rd ((rd_T57 l0 a3).f1) x28_1) p180 q180
                              cases e180
                              have HR180_0 := Aside0.mk hi180_0
                              have HC180_0 := Aside0.mk hl180_0
                              clear hi180_0 hl180_0
                              replace p180 := eq_true p180
                              replace q180 := eq_true q180
                              have p181 : 0 ≤ (a2 : Int) := of_decide_eq_true (by first | (with_reducible assumption) | assumption)
                              have q181 : a2 < ((rd_L5 l1 (rd ((rd_T57 l0 a3).f1) x28_1)).length : Int) := of_decide_eq_true (by first | (with_reducible assumption) | assumption)
                              obtain ⟨ad181, e181, hx181_0⟩ := Kd.at_bool HR180_0.out a2 p181 q181
                              (try rw [← Nbq16.out] at hx181_0)
                              cases e181
                              replace p181 := eq_true p181
                              replace q181 := eq_true q181
                              go_wp2
                              go_roundg k1
                              case measure => have := HK1.out; omega
                              case rel => exact ⟨(wrap64 (x28_1 + 1)), (by first | rfl | (simp; done) | (simp [*]; done)), H', ⟨by have := HK1.out; omega⟩, by repeat (first | exact Drawn0.refl _ | apply Drawn0.step)⟩
                          · rw [if_neg c15] at H
                            exact absurd H (by simp)
                        · rw [if_neg c14] at H
                          exact absurd H (by simp)
                      · rw [if_neg c13] at H
                        exact absurd H (by simp)
                    · rw [if_neg c12] at H
                      exact absurd H (by simp)
                · rw [if_neg c10] at H
                  exact absurd H (by simp)
              · rw [if_neg c9] at H
                exact absurd H (by simp)
            · rw [if_neg c8] at H
              have c8b0 : decide (x28_1 < (((rd_T57 l0 a3).f1).length : Int)) = false := decide_eq_false c8
              clear c8
              obtain rfl := Option.some.inj H
              go_wp2
              go_ret
              exact ⟨by first | rfl | (simp; done) | (simp [*]; done), by repeat (first | exact Drawn0.refl _ | apply Drawn0.step)⟩
      · rw [if_neg c7] at H
        exact absurd H (by simp)
    · rw [if_neg c6] at H
      exact absurd H (by simp)

  | false =>
    have HR0 := Aside0.mk hr0
    have HC0 := Aside0.mk hc0
    clear hr0 hc0
    have HR1 := Aside0.mk hr1
    have HC1 := Aside0.mk hc1
    clear hr1 hc1
    have H : (if 0 ≤ a3 then (if a3 < (l0.length : Int) then (spec_gaReverse.l0 k l1 a2 false ((rd_T57 l0 a3).f0) (((rd_T57 l0 a3).f0).length : Int) 0) else (none)) else (none)) = some r := by unfold spec_gaReverse.f at h; rw [if_neg (by decide)] at h; exact h
    clear h
    by_cases c6 : 0 ≤ a3
    · rw [if_pos c6] at H
      have c6b0 : decide (0 ≤ a3) = true := decide_eq_true c6
      clear c6
      by_cases c7 : a3 < (l0.length : Int)
      · rw [if_pos c7] at H
        have c7b0 : decide (a3 < (l0.length : Int)) = true := decide_eq_true c7
        clear c7
        have H' := Aside0.mk H
        clear H
        have p178 : 0 ≤ (a3 : Int) := of_decide_eq_true (by first | (with_reducible assumption) | assumption)
        have q178 : a3 < (l0.length : Int) := of_decide_eq_true (by first | (with_reducible assumption) | assumption)
        obtain ⟨ad178, A178_0, c178_0, A178_1, c178_1, e178, hx178_0, hx178_1, hl178_0, hi178_0, hl178_1, hi178_1⟩ := at_T57 HR0.out a3 p178 q178
        cases e178
        have HR178_0 := Aside0.mk hi178_0
        have HC178_0 := Aside0.mk hl178_0
        clear hi178_0 hl178_0
        have HR178_1 := Aside0.mk hi178_1
        have HC178_1 := Aside0.mk hl178_1
        clear hi178_1 hl178_1
        replace p178 := eq_true p178
        replace q178 := eq_true q178
        go_enter Try.func81, Try.ntmps81
        go_wp2
        go_loopg [28] k (fun kq v28 w' => ∃ (x28_1 : Int), v28 = .int .i64 x28_1 ∧ Aside0 (spec_gaReverse.l0 kq l1 a2 false ((rd_T57 l0 a3).f0) (((rd_T57 l0 a3).f0).length : Int) x28_1 = some r) ∧ Aside0 (kq ≤ k) ∧ Drawn0 w w')
        case atStart => exact ⟨(0), (by first | rfl | (simp; done) | (simp [*]; done)), H', ⟨Nat.le_refl _⟩, by repeat (first | exact Drawn0.refl _ | apply Drawn0.step)⟩
        case round =>
          clear H'
          try clear c1
          try clear p1
          try clear q1
          try clear hx1
          try clear p2
          try clear c6
          try clear c6b0
          try clear c7
          try clear c7b0
          try clear hx178_0
          try clear hx178_0
          try clear p178
          try clear q178
          obtain ⟨x28_1, rfl, HA, HK1, ⟨m1, rfl⟩⟩ := hrel
          cases gk with
          | zero => exact absurd HA.out (by simp [spec_gaReverse.l0])
          | succ k1 =>
            have H := HA.out
            clear HA
            simp only [spec_gaReverse.l0] at H
            by_cases c8 : x28_1 < (((rd_T57 l0 a3).f0).length : Int)
            · rw [if_pos c8] at H
              have c8b0 : decide (x28_1 < (((rd_T57 l0 a3).f0).length : Int)) = true := decide_eq_true c8
              clear c8
              by_cases c9 : 0 ≤ x28_1
              · rw [if_pos c9] at H
                have c9b0 : decide (0 ≤ x28_1) = true := decide_eq_true c9
                clear c9
                by_cases c10 : x28_1 < (((rd_T57 l0 a3).f0).length : Int)
                · rw [if_pos c10] at H
                  have c10b0 : decide (x28_1 < (((rd_T57 l0 a3).f0).length : Int)) = true := decide_eq_true c10
                  clear c10
                  · skip
                    skip
                    have H1 : (if 0 ≤ a2 then (if a2 < (l1.length : Int) then (if 0 ≤ (rd ((rd_T57 l0 a3).f0) x28_1) then (if (rd ((rd_T57 l0 a3).f0) x28_1) < ((rd_L5 l1 a2).length : Int) then (if rdOf false (rd_L5 l1 a2) (rd ((rd_T57 l0 a3).f0) x28_1) = true then (some (rd ((rd_T57 l0 a3).f0) x28_1)) else (spec_gaReverse.l0 k1 l1 a2 false ((rd_T57 l0 a3).f0) (((rd_T57 l0 a3).f0).length : Int) (wrap64 (x28_1 + 1)))) else (none)) else (none)) else (none)) else (none)) = some r := by first | (rw [if_neg (show ¬ (false = true) by decide)] at H; exact H) | (rw [if_neg not_false] at H; exact H)
                    clear H
                    have H := H1
                    clear H1
                    by_cases c18 : 0 ≤ a2
                    · rw [if_pos c18] at H
                      have c18b0 : decide (0 ≤ a2) = true := decide_eq_true c18
                      clear c18
                      by_cases c19 : a2 < (l1.length : Int)
                      · rw [if_pos c19] at H
                        have c19b0 : decide (a2 < (l1.length : Int)) = true := decide_eq_true c19
                        clear c19
                        by_cases c20 : 0 ≤ (rd ((rd_T57 l0 a3).f0) x28_1)
                        · rw [if_pos c20] at H
                          have c20b0 : decide (0 ≤ (rd ((rd_T57 l0 a3).f0) x28_1)) = true := decide_eq_true c20
                          clear c20
                          by_cases c21 : (rd ((rd_T57 l0 a3).f0) x28_1) < ((rd_L5 l1 a2).length : Int)
                          · rw [if_pos c21] at H
                            have c21b0 : decide ((rd ((rd_T57 l0 a3).f0) x28_1) < ((rd_L5 l1 a2).length : Int)) = true := decide_eq_true c21
                            clear c21
                            obtain ⟨bq22, hbq22⟩ : ∃ b_ : Bool, b_ = (rdOf false (rd_L5 l1 a2) (rd ((rd_T57 l0 a3).f0) x28_1)) := ⟨_, rfl⟩
                            replace H : (if bq22 = true then (some (rd ((rd_T57 l0 a3).f0) x28_1)) else (spec_gaReverse.l0 k1 l1 a2 false ((rd_T57 l0 a3).f0) (((rd_T57 l0 a3).f0).length : Int) (wrap64 (x28_1 + 1)))) = some r := by rw [← hbq22] at H; exact H
                            have Nbq22 := Aside0.mk hbq22
                            clear hbq22
                            by_cases c23 : bq22 = true
                            · subst c23
                              have H1 : (some (rd ((rd_T57 l0 a3).f0) x28_1)) = some r := by first | (rw [if_pos rfl] at H; exact H) | (rw [if_pos trivial] at H; exact H)
                              clear H
                              have H := H1
                              clear H1
                              obtain rfl := Option.some.inj H
                              have p179 : 0 ≤ (x28_1 : Int) := of_decide_eq_true (by first | (with_reducible assumption) | assumption)
                              have q179 : x28_1 < (((rd_T57 l0 a3).f0).length : Int) := of_decide_eq_true (by first | (with_reducible assumption) | assumption)
                              obtain ⟨ad179, e179, hx179_0⟩ := Kd.at_int HR178_0.out x28_1 p179 q179
                              cases e179
                              replace p179 := eq_true p179
                              replace q179 := eq_true q179
                              have p182 : 0 ≤ (a2 : Int) := of_decide_eq_true (by first | (with_reducible assumption) | assumption)
                              have q182 : a2 < (l1.length : Int) := of_decide_eq_true (by first | (with_reducible assumption) | assumption)
                              obtain ⟨ad182, A182_0, c182_0, e182, hx182_0, hl182_0, hi182_0⟩ := at_L5 HR1.out a2 p182 q182
                              cases e182
                              have HR182_0 := Aside0.mk hi182_0
                              have HC182_0 := Aside0.mk hl182_0
                              clear hi182_0 hl182_0
                              replace p182 := eq_true p182
                              replace q182 := eq_true q182
                              have p183 : 0 ≤ ((rd ((rd_T57 l0 a3).f0) x28_1) : Int) := of_decide_eq_true (by first | (with_reducible assumption) | assumption)
                              have q183 : (rd ((rd_T57 l0 a3).f0) x28_1) < ((rd_L5 l1 a2).length : Int) := of_decide_eq_true (by first | (with_reducible assumption) | assumption)
                              obtain ⟨ad183, e183, hx183_0⟩ := Kd.at_bool HR182_0.out (rd ((rd_T57 l0 a3).f0) x28_1) p183 q183
                              (try rw [← Nbq22.out] at hx183_0)
                              cases e183
                              replace p183 := eq_true p183
                              replace q183 := eq_true q183
                              go_wp2
                              go_ret
                              exact ⟨by first | rfl | (simp; done) | (simp [*]; done), by repeat (first | exact Drawn0.refl _ | apply Drawn0.step)⟩
                            · replace c23 := Bool.eq_false_iff.mpr c23
                              subst c23
                              have H1 : (spec_gaReverse.l0 k1 l1 a2 false ((rd_T57 l0 a3).f0) (((rd_T57 l0 a3).f0).length : Int) (wrap64 (x28_1 + 1))) = some r := by first | (rw [if_neg (show ¬ (false = true) by decide)] at H; exact H) | (rw [if_neg not_false] at H; exact H)
                              clear H
                              have H := H1
                              clear H1
                              have H' := Aside0.mk H
                              clear H
                              have p179 : 0 ≤ (x28_1 : Int) := of_decide_eq_true (by first | (with_reducible assumption) | assumption)
                              have q179 : x28_1 < (((rd_T57 l0 a3).f0).length : Int) := of_decide_eq_true (by first | (with_reducible assumption) | assumption)
                              obtain ⟨ad179, e179, hx179_0⟩ := Kd.at_int HR178_0.out x28_1 p179 q179
                              cases e179
                              replace p179 := eq_true p179
                              replace q179 := eq_true q179
                              have p182 : 0 ≤ (a2 : Int) := of_decide_eq_true (by first | (with_reducible assumption) | assumption)
                              have q182 : a2 < (l1.length : Int) := of_decide_eq_true (by first | (with_reducible assumption) | assumption)
                              obtain ⟨ad182, A182_0, c182_0, e182, hx182_0, hl182_0, hi182_0⟩ := at_L5 HR1.out a2 p182 q182
                              cases e182
                              have HR182_0 := Aside0.mk hi182_0
                              have HC182_0 := Aside0.mk hl182_0
                              clear hi182_0 hl182_0
                              replace p182 := eq_true p182
                              replace q182 := eq_true q182
                              have p183 : 0 ≤ ((rd ((rd_T57 l0 a3).f0) x28_1) : Int) := of_decide_eq_true (by first | (with_reducible assumption) | assumption)
                              have q183 : (rd ((rd_T57 l0 a3).f0) x28_1) < ((rd_L5 l1 a2).length : Int) := of_decide_eq_true (by first | (with_reducible assumption) | assumption)
                              obtain ⟨ad183, e183, hx183_0⟩ := Kd.at_bool HR182_0.out (rd ((rd_T57 l0 a3).f0) x28_1) p183 q183
                              (try rw [← Nbq22.out] at hx183_0)
                              cases e183
                              replace p183 := eq_true p183
                              replace q183 := eq_true q183
                              go_wp2
                              go_roundg k1
                              case measure => have := HK1.out; omega
                              case rel => exact ⟨(wrap64 (x28_1 + 1)), (by first | rfl | (simp; done) | (simp [*]; done)), H', ⟨by have := HK1.out; omega⟩, by repeat (first | exact Drawn0.refl _ | apply Drawn0.step)⟩
                          · rw [if_neg c21] at H
                            exact absurd H (by simp)
                        · rw [if_neg c20] at H
                          exact absurd H (by simp)
                      · rw [if_neg c19] at H
                        exact absurd H (by simp)
                    · rw [if_neg c18] at H
                      exact absurd H (by simp)
                · rw [if_neg c10] at H
                  exact absurd H (by simp)
              · rw [if_neg c9] at H
                exact absurd H (by simp)
            · rw [if_neg c8] at H
              have c8b0 : decide (x28_1 < (((rd_T57 l0 a3).f0).length : Int)) = false := decide_eq_false c8
              clear c8
              obtain rfl := Option.some.inj H
              go_wp2
              go_ret
              exact ⟨by first | rfl | (simp; done) | (simp [*]; done), by repeat (first | exact Drawn0.refl _ | apply Drawn0.step)⟩
      · rw [if_neg c7] at H
        exact absurd H (by simp)
    · rw [if_neg c6] at H
      exact absurd H (by simp)

/-! ### spec_gaBack: function 58 -/
def spec_gaBack.l0 : Nat → List (S57) → List (List Bool) → Int → Bool → List Int → List Int → Int → Int → Option (List Int)
  | 0, _, _, _, _, _, _, _, _ => none
  | k + 1, x0, x1, x2, x4, x11, x14, x15, x16 => if x16 < x15 then (if 0 ≤ x16 then (if x16 < (x14.length : Int) then ((spec_gaReverse.f k x0 x1 x2 (rd x14 x16) x4).bind fun t185 => (if t185 ≥ 0 then (if x11.length < 17592186044416 then (spec_gaBack.l0 k x0 x1 x2 x4 (x11 ++ [rd x14 x16]) x14 x15 (wrap64 (x16 + 1))) else (none)) else (spec_gaBack.l0 k x0 x1 x2 x4 x11 x14 x15 (wrap64 (x16 + 1))))) else (none)) else (none)) else (some x11)
def spec_gaBack.f (k : Nat) (l0 : List (S57)) (l1 : List (List Bool)) (a2 : Int) (l3 : List Int) (a4 : Bool) : Option (List Int) := spec_gaBack.l0 k l0 l1 a2 a4 ([] : List Int) l3 (l3.length : Int) 0
theorem spec_gaBack.mono_l : ∀ k, (∀ y0 y1 y2 y3 y4 y5 y6 y7, LeO (spec_gaBack.l0 k y0 y1 y2 y3 y4 y5 y6 y7) (spec_gaBack.l0 (k + 1) y0 y1 y2 y3 y4 y5 y6 y7))
  | 0 => fun _ _ _ _ _ _ _ _ r h => by simp [spec_gaBack.l0] at h
  | k + 1 => by
    have ih0 := spec_gaBack.mono_l k
    · intro y0 y1 y2 y3 y4 y5 y6 y7
      unfold spec_gaBack.l0
      repeat' first
      | (with_reducible exact ih0 _ _ _ _ _ _ _ _)
      | (with_reducible exact spec_gaReverse.mono _ _ _ _ _ _)
      | (with_reducible exact LeO.refl _)
      | (with_reducible exact LeO.none _)
      | (with_reducible refine LeO.ite ?_ ?_)
      | (with_reducible refine LeO.bind ?_ (fun _ => ?_))
      | exact ih0 _ _ _ _ _ _ _ _
      | exact spec_gaReverse.mono _ _ _ _ _ _
      | exact LeO.none _
      | refine LeO.ite ?_ ?_
      | refine LeO.bind ?_ (fun _ => ?_)
theorem spec_gaBack.mono : ∀ a0 a1 a2 a3 a4 k, LeO (spec_gaBack.f k a0 a1 a2 a3 a4) (spec_gaBack.f (k + 1) a0 a1 a2 a3 a4) := by
  intro a0 a1 a2 a3 a4 k
  have ih0 := spec_gaBack.mono_l k
  unfold spec_gaBack.f
  repeat' first
      | (with_reducible exact ih0 _ _ _ _ _ _ _ _)
      | (with_reducible exact spec_gaReverse.mono _ _ _ _ _ _)
      | (with_reducible exact LeO.refl _)
      | (with_reducible exact LeO.none _)
      | (with_reducible refine LeO.ite ?_ ?_)
      | (with_reducible refine LeO.bind ?_ (fun _ => ?_))
      | exact ih0 _ _ _ _ _ _ _ _
      | exact spec_gaReverse.mono _ _ _ _ _ _
      | exact LeO.none _
      | refine LeO.ite ?_ ?_
      | refine LeO.bind ?_ (fun _ => ?_)
set_option maxHeartbeats 8000000 in
set_option maxRecDepth 100000 in
theorem spec_gaBack.calls (k : Nat) (A0 : Option Addr) (c0 : Nat) (l0 : List (S57)) (A1 : Option Addr) (c1 : Nat) (l1 : List (List Bool)) (a2 : Int) (A3 : Option Addr) (c3 : Nat) (l3 : List Int) (a4 : Bool) (r : List Int) (w : World) (hr0 : Kd.C k57 w A0 l0.length l0) (hc0 : l0.length ≤ c0) (hr1 : Kd.C (Kd.slice 4 Kd.bool) w A1 l1.length l1) (hc1 : l1.length ≤ c1) (hr3 : Kd.C (Kd.int .i64) w A3 l3.length l3) (hc3 : l3.length ≤ c3) (h : spec_gaBack.f k l0 l1 a2 l3 a4 = some r) :
    Calls Try.prog 58 #[.slice A0 l0.length c0, .slice A1 l1.length c1, .int .i64 a2, .slice A3 l3.length c3, .bool a4] w fun e w' => ∃ v0_ : Value, e = .returned (v0_) ∧ Kd.R (Kd.int .i64) 3 w' w.heap.size (fun _ => True) v0_ r ∧ Below w.heap.size w w' := by
  have HR0 := Aside0.mk hr0
  have HC0 := Aside0.mk hc0
  clear hr0 hc0
  have HR1 := Aside0.mk hr1
  have HC1 := Aside0.mk hc1
  clear hr1 hc1
  have HR3 := Aside0.mk hr3
  have HC3 := Aside0.mk hc3
  clear hr3 hc3
  have HB := Aside0.mk (Below.refl w.heap.size w)
  have H : (spec_gaBack.l0 k l0 l1 a2 a4 ([] : List Int) l3 (l3.length : Int) 0) = some r := h
  clear h
  have H' := Aside0.mk H
  clear H
  go_enter Try.func58, Try.ntmps58
  go_wp2
  go_loopg [11, 16] k (fun kq v11 v16 w' => ∃ (x11_1 : List Int) (x16_1 : Int), v16 = .int .i64 x16_1 ∧ Aside0 (spec_gaBack.l0 kq l0 l1 a2 a4 x11_1 l3 (l3.length : Int) x16_1 = some r) ∧ Aside0 (kq ≤ k) ∧ Aside0 (Kd.R (Kd.int .i64) 3 w' w.heap.size (fun _ => True) v11 x11_1) ∧ Aside0 (Below w.heap.size w w'))
  case atStart => exact ⟨(([] : List Int)), (0), (by first | rfl | (simp; done) | (simp [*]; done)), H', ⟨Nat.le_refl _⟩, ⟨by first | exact Kd.R_nil _ _ _ _ _ | exact Kd.N_nil _ _ _ _ _ | exact Kd.V_nil _ _ _ _ _ | exact Kd.Q_nil _ _ _ _ _ | exact Kd.S_nil _ _ _ _ _⟩, ⟨by repeat (first | (with_reducible first | exact HB.out | apply below_alloc | apply pw_below_drewN | apply below_drew1) | exact HB.out)⟩⟩
  case round =>
    clear H'
    try clear c1
    try clear p2
    try clear c3
    try clear c5
    obtain ⟨x11_1, x16_1, rfl, HA, HK1, HO_11, HB⟩ := hrel
    cases gk with
    | zero => exact absurd HA.out (by simp [spec_gaBack.l0])
    | succ k1 =>
      have H := HA.out
      clear HA
      simp only [spec_gaBack.l0] at H
      by_cases c6 : x16_1 < (l3.length : Int)
      · rw [if_pos c6] at H
        have c6b0 : decide (x16_1 < (l3.length : Int)) = true := decide_eq_true c6
        clear c6
        by_cases c7 : 0 ≤ x16_1
        · rw [if_pos c7] at H
          have c7b0 : decide (0 ≤ x16_1) = true := decide_eq_true c7
          clear c7
          by_cases c8 : x16_1 < (l3.length : Int)
          · rw [if_pos c8] at H
            have c8b0 : decide (x16_1 < (l3.length : Int)) = true := decide_eq_true c8
            clear c8
            replace H := Option.bind_eq_some_iff.mp H
            obtain ⟨t185, A90, H⟩ := H
            replace H : (if t185 ≥ 0 then (if x11_1.length < 17592186044416 then (spec_gaBack.l0 k1 l0 l1 a2 a4 (x11_1 ++ [rd l3 x16_1]) l3 (l3.length : Int) (wrap64 (x16_1 + 1))) else (none)) else (spec_gaBack.l0 k1 l0 l1 a2 a4 x11_1 l3 (l3.length : Int) (wrap64 (x16_1 + 1)))) = some r := H
            have A9 := Aside0.mk A90
            clear A90
            by_cases c10 : t185 ≥ 0
            · rw [if_pos c10] at H
              have c10b0 : decide (0 ≤ t185) = true := decide_eq_true c10
              clear c10
              by_cases c11 : x11_1.length < 17592186044416
              · rw [if_pos c11] at H
                have LMc11 := Aside0.mk c11
                clear c11
                obtain ⟨y186, hy186⟩ : ∃ y_ : List Int, y_ = (x11_1 ++ [rd l3 x16_1]) := ⟨_, rfl⟩
                replace H : (spec_gaBack.l0 k1 l0 l1 a2 a4 y186 l3 (l3.length : Int) (wrap64 (x16_1 + 1))) = some r := by first | (rw [hy186]; with_reducible exact H) | (have H2_ := (Option.bind_some _ _).symm.trans H; rw [hy186]; with_reducible exact H2_) | (have H2_ := (Option.bind_some _ _).symm.trans H; with_reducible exact H2_) | with_reducible exact H | (rw [hy186]; exact H) | exact H
                have Ny186 := Aside0.mk hy186
                clear hy186
                have H' := Aside0.mk H
                clear H
                have p184 : 0 ≤ (x16_1 : Int) := of_decide_eq_true (by first | (with_reducible assumption) | assumption)
                have q184 : x16_1 < (l3.length : Int) := of_decide_eq_true (by first | (with_reducible assumption) | assumption)
                obtain ⟨ad184, e184, hx184_0⟩ := Kd.at_int HR3.out x16_1 p184 q184
                cases e184
                replace hx184_0 := (HB.out.cell (World.block_lt_of_cell? w _ hx184_0)).trans hx184_0
                replace p184 := eq_true p184
                replace q184 := eq_true q184
                go_wp2_with (first | ((with_reducible refine gate_callee (f := 81) rfl ?_); refine goesL_ (some 25) rfl rfl Try.func81 (by kernel_rfl) rfl #[.slice A0 l0.length c0, .slice A1 l1.length c1, .int .i64 a2, .int .i64 (rd l3 x16_1), .bool a4] rfl (by (try simp only [List.map_toArray, List.map_cons, List.map_nil]); first | done | rfl | (simp only [List.length_drop, List.length_take]; rfl)) ?_; (with_reducible refine (spec_gaReverse.calls k1 _ _ l0 _ _ l1 a2 (rd l3 x16_1) a4 t185 _ ?side1 ?side2 ?side3 ?side4 A9.out).mono ?_); (case side1 => repeat (first | exact (Kd.C_below HR0.out HB.out) | (with_reducible refine Kd.C_alloc ?_ _) | (with_reducible refine Kd.C_drewN ?_ _) | (with_reducible refine Kd.C_drew ?_))); (case side2 => exact HC0.out); (case side3 => repeat (first | exact (Kd.C_below HR1.out HB.out) | (with_reducible refine Kd.C_alloc ?_ _) | (with_reducible refine Kd.C_drewN ?_ _) | (with_reducible refine Kd.C_drew ?_))); (case side4 => exact HC1.out); rintro e w' ⟨rfl, ⟨nd, rfl⟩⟩; refine ⟨_, rfl, ?_⟩) | ((with_reducible refine gate_builtin (b := .append) (xs := #[.tmp 27, .tmp 29]) rfl ?_); at_builtin; refine Kd.R_append (Kd.int .i64) (w0 := w) w.heap.size rfl (.tmp 27) (.tmp 29) 36 3 (.int .i64 0) 8 rfl Try.underlying36 info3 rfl (by decide) (by omega) u11 x11_1 (rd l3 x16_1) [.int .i64 (rd l3 x16_1)] (fun _ => True) (fun _ => False) rfl rfl ?aP (fun _ hk => hk.elim) ?aF ?aO ?aB ?aS ?aL ?_; (case aP => exact rfl); (case aB => exact (by repeat (first | (with_reducible first | exact HB.out | apply below_alloc | apply pw_below_drewN | apply below_drew1) | exact HB.out))); (case aF => exact (fun _ _ => trivial)); (case aO => exact (by (with_reducible repeat (first | apply Kd.R_alloc | apply Kd.R_drewN | apply Kd.R_drew)); exact HO_11.out)); (case aS => exact (below_size (by repeat (first | (with_reducible first | exact HB.out | apply below_alloc | apply pw_below_drewN | apply below_drew1) | exact HB.out)))); (case aL => have := LMc11.out; omega); intro v187 w12 ho hb hg hat; rw [← Ny186.out] at ho; have n0_ := Aside0.mk (hb); have n1_ := Aside0.mk (ho); clear HB; clear HO_11; have HB := n0_; have HO188 := n1_; clear n0_ n1_; clear ho hb hg hat))
                go_roundg k1
                case measure => have := HK1.out; omega
                case rel => exact ⟨(y186), (wrap64 (x16_1 + 1)), (by first | rfl | (simp; done) | (simp [*]; done)), H', ⟨by have := HK1.out; omega⟩, ⟨by (with_reducible repeat (first | apply Kd.R_alloc | apply Kd.R_drewN | apply Kd.R_drew)); exact HO188.out⟩, ⟨by repeat (first | (with_reducible first | exact HB.out | apply below_alloc | apply pw_below_drewN | apply below_drew1) | exact HB.out)⟩⟩
              · rw [if_neg c11] at H
                exact absurd H (by simp)
            · rw [if_neg c10] at H
              have c10b0 : decide (0 ≤ t185) = false := decide_eq_false c10
              clear c10
              have H' := Aside0.mk H
              clear H
              have p184 : 0 ≤ (x16_1 : Int) := of_decide_eq_true (by first | (with_reducible assumption) | assumption)
              have q184 : x16_1 < (l3.length : Int) := of_decide_eq_true (by first | (with_reducible assumption) | assumption)
              obtain ⟨ad184, e184, hx184_0⟩ := Kd.at_int HR3.out x16_1 p184 q184
              cases e184
              replace hx184_0 := (HB.out.cell (World.block_lt_of_cell? w _ hx184_0)).trans hx184_0
              replace p184 := eq_true p184
              replace q184 := eq_true q184
              go_wp2_with (first | ((with_reducible refine gate_callee (f := 81) rfl ?_); refine goesL_ (some 25) rfl rfl Try.func81 (by kernel_rfl) rfl #[.slice A0 l0.length c0, .slice A1 l1.length c1, .int .i64 a2, .int .i64 (rd l3 x16_1), .bool a4] rfl (by (try simp only [List.map_toArray, List.map_cons, List.map_nil]); first | done | rfl | (simp only [List.length_drop, List.length_take]; rfl)) ?_; (with_reducible refine (spec_gaReverse.calls k1 _ _ l0 _ _ l1 a2 (rd l3 x16_1) a4 t185 _ ?side1 ?side2 ?side3 ?side4 A9.out).mono ?_); (case side1 => repeat (first | exact (Kd.C_below HR0.out HB.out) | (with_reducible refine Kd.C_alloc ?_ _) | (with_reducible refine Kd.C_drewN ?_ _) | (with_reducible refine Kd.C_drew ?_))); (case side2 => exact HC0.out); (case side3 => repeat (first | exact (Kd.C_below HR1.out HB.out) | (with_reducible refine Kd.C_alloc ?_ _) | (with_reducible refine Kd.C_drewN ?_ _) | (with_reducible refine Kd.C_drew ?_))); (case side4 => exact HC1.out); rintro e w' ⟨rfl, ⟨nd, rfl⟩⟩; refine ⟨_, rfl, ?_⟩))
              go_roundg k1
              case measure => have := HK1.out; omega
              case rel => exact ⟨(x11_1), (wrap64 (x16_1 + 1)), (by first | rfl | (simp; done) | (simp [*]; done)), H', ⟨by have := HK1.out; omega⟩, ⟨by (with_reducible repeat (first | apply Kd.R_alloc | apply Kd.R_drewN | apply Kd.R_drew)); exact HO_11.out⟩, ⟨by repeat (first | (with_reducible first | exact HB.out | apply below_alloc | apply pw_below_drewN | apply below_drew1) | exact HB.out)⟩⟩
          · rw [if_neg c8] at H
            exact absurd H (by simp)
        · rw [if_neg c7] at H
          exact absurd H (by simp)
      · rw [if_neg c6] at H
        have c6b0 : decide (x16_1 < (l3.length : Int)) = false := decide_eq_false c6
        clear c6
        obtain rfl := Option.some.inj H
        go_wp2
        go_ret
        exact ⟨_, by first | rfl | (simp [errW_none, errW_some] <;> rfl) | (simp [*, errW_none, errW_some] <;> rfl), by (with_reducible repeat (first | apply Kd.R_alloc | apply Kd.R_drewN | apply Kd.R_drew)); exact HO_11.out, by repeat (first | (with_reducible first | exact HB.out | apply below_alloc | apply pw_below_drewN | apply below_drew1) | exact HB.out)⟩

end Go.Proofs.Ytpiafobcmhfclaa.QFnExactReversibleOf
