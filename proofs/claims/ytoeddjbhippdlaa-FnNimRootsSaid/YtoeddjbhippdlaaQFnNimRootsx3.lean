/- The Go functions that the law FnNimRoots reaches, as Lean functions, and what their calls do. Written by a program of this session. -/
import Derived.Test.YtoeddjbhippdlaaQFnNimRootsx0
import Derived.Test.YtoeddjbhippdlaaQFnNimRootsx2
namespace Go.Proofs.Ytoeddjbhippdlaa.QFnNimRoots
open Go.RowKit Go.Proofs.YtoeddjbhippdlaaW.PrintWords Go.Proofs.YtoeddjbhippdlaaW.PrintLast Go.Proofs.YtoeddjbhippdlaaW.PrintMore
attribute [local go_sem] max2_int min2_int max_two min_two max_three min_three max_four min_four   -- for this text's walks alone
set_option linter.unusedVariables false
set_option linter.unusedSimpArgs false

/-! ### impl_nim: function 40 -/
mutual
def impl_nim.j0 : Nat → Int → Int → Int → Bool → Option (Int)
  | 0, _, _, _, _ => none
  | k + 1, x0, x1, x2, x21 => if x21 = true then (some (wrap64 (x0 * x1))) else (if 0 ≤ x2 then ((impl_nim.f k (shr .i64 x0 x2) (shr .i64 x1 x2) (mx (wrap64 (Int.tdiv x2 2)) 1)).bind fun t186 => ((impl_nim.f k (Go.bits .and .i64 x0 (wrap64 ((shl .i64 1 x2) - 1))) (Go.bits .and .i64 x1 (wrap64 ((shl .i64 1 x2) - 1))) (mx (wrap64 (Int.tdiv x2 2)) 1)).bind fun t187 => ((impl_nim.f k (Go.bits .xor .i64 (shr .i64 x0 x2) (Go.bits .and .i64 x0 (wrap64 ((shl .i64 1 x2) - 1)))) (Go.bits .xor .i64 (shr .i64 x1 x2) (Go.bits .and .i64 x1 (wrap64 ((shl .i64 1 x2) - 1)))) (mx (wrap64 (Int.tdiv x2 2)) 1)).bind fun t188 => (if 0 ≤ (wrap64 (x2 - 1)) then ((impl_nim.f k t186 (shl .i64 1 (wrap64 (x2 - 1))) (mx (wrap64 (Int.tdiv x2 2)) 1)).bind fun t189 => (some (Go.bits .xor .i64 (Go.bits .xor .i64 (shl .i64 (Go.bits .xor .i64 t188 t187) x2) t187) t189))) else (none))))) else (none))
def impl_nim.f : Nat → Int → Int → Int → Option (Int)
  | 0, _, _, _ => none
  | k + 1, a0, a1, a2 => if a0 < 2 then (impl_nim.j0 k a0 a1 a2 true) else (impl_nim.j0 k a0 a1 a2 (decide (a1 < 2)))
end
theorem impl_nim.mono_l : ∀ k, (∀ y0 y1 y2, LeO (impl_nim.f k y0 y1 y2) (impl_nim.f (k + 1) y0 y1 y2)) ∧ (∀ y0 y1 y2 y3, LeO (impl_nim.j0 k y0 y1 y2 y3) (impl_nim.j0 (k + 1) y0 y1 y2 y3))
  | 0 => ⟨fun _ _ _ r h => by simp [impl_nim.f] at h, fun _ _ _ _ r h => by simp [impl_nim.j0] at h⟩
  | k + 1 => by
    obtain ⟨ih0, ih1⟩ := impl_nim.mono_l k
    refine ⟨?_, ?_⟩
    · intro y0 y1 y2
      unfold impl_nim.f
      repeat' first
      | (with_reducible exact ih0 _ _ _)
      | (with_reducible exact ih1 _ _ _ _)
      | (with_reducible exact LeO.refl _)
      | (with_reducible exact LeO.none _)
      | (with_reducible refine LeO.ite ?_ ?_)
      | (with_reducible refine LeO.bind ?_ (fun _ => ?_))
      | exact ih0 _ _ _
      | exact ih1 _ _ _ _
      | exact LeO.none _
      | refine LeO.ite ?_ ?_
      | refine LeO.bind ?_ (fun _ => ?_)
    · intro y0 y1 y2 y3
      unfold impl_nim.j0
      repeat' first
      | (with_reducible exact ih0 _ _ _)
      | (with_reducible exact ih1 _ _ _ _)
      | (with_reducible exact LeO.refl _)
      | (with_reducible exact LeO.none _)
      | (with_reducible refine LeO.ite ?_ ?_)
      | (with_reducible refine LeO.bind ?_ (fun _ => ?_))
      | exact ih0 _ _ _
      | exact ih1 _ _ _ _
      | exact LeO.none _
      | refine LeO.ite ?_ ?_
      | refine LeO.bind ?_ (fun _ => ?_)
theorem impl_nim.mono : ∀ a0 a1 a2 k, LeO (impl_nim.f k a0 a1 a2) (impl_nim.f (k + 1) a0 a1 a2) := by
  intro a0 a1 a2 k
  obtain ⟨ih0, ih1⟩ := impl_nim.mono_l k
  exact ih0 a0 a1 a2
def impl_nim.T4 : Bool × List (List Nat × List Nat) := (true, [([], []), ([], []), ([0, 1], [0, 1]), ([], []), ([], []), ([3, 4], [3, 4]), ([], []), ([], []), ([6, 7], [6, 7]), ([], []), ([], []), ([9, 10], [9, 10]), ([2, 0, 1, 2], [2]), ([5, 12, 0, 1, 2, 3, 4, 5, 12], [5]), ([8, 13, 0, 1, 2, 3, 4, 5, 6, 7, 8, 12, 13], [8]), ([11, 14, 0, 1, 2, 3, 4, 5, 6, 7, 8, 9, 10, 11, 12, 13, 14], [11])])
def impl_nim.B4 : List Nat := [0, 0, 3, 0, 0, 24, 0, 0, 192, 0, 0, 1536, 7, 4159, 12799, 32767]
theorem impl_nim.tab4 : rtab .any (opsOf Try.f40 4) = impl_nim.T4 := by kernel_rfl
theorem impl_nim.bits4 : waitsOk impl_nim.T4.2 impl_nim.B4 = true := by kernel_rfl
def impl_nim.T8 : Bool × List (List Nat × List Nat) := (true, [([], []), ([], []), ([0, 1], [0, 1]), ([], []), ([2, 3], [2, 3]), ([], []), ([4, 5], [4, 5]), ([], []), ([], []), ([8], [8]), ([9], [9]), ([], []), ([7, 10, 11], [7, 10, 11]), ([6, 12], [6, 12]), ([13, 12, 0, 1, 2, 3, 4, 5, 6, 7, 8, 9, 10, 11, 12, 13], [13])])
def impl_nim.B8 : List Nat := [0, 0, 3, 0, 15, 0, 63, 0, 0, 256, 768, 0, 3968, 8191, 16383]
theorem impl_nim.tab8 : rtab .any (opsOf Try.f40 8) = impl_nim.T8 := by kernel_rfl
theorem impl_nim.bits8 : waitsOk impl_nim.T8.2 impl_nim.B8 = true := by kernel_rfl
set_option maxHeartbeats 8000000 in
set_option maxRecDepth 100000 in
theorem impl_nim.calls (k : Nat) : ∀ (a0 : Int) (a1 : Int) (a2 : Int) (r : Int) (w : World) (h : impl_nim.f k a0 a1 a2 = some r),
    Calls Try.prog 40 #[.int .i64 a0, .int .i64 a1, .int .i64 a2] w fun e w' => e = .returned (.int .i64 r) ∧ Below w.heap.size w w' := by
  induction k using Nat.strongRecOn with
  | _ k ih =>
  intro a0 a1 a2 r w h
  cases k with
  | zero => exact absurd h (by simp [impl_nim.f])
  | succ k =>
  simp only [impl_nim.f] at h
  have HB := Aside0.mk (Below.refl w.heap.size w)
  have H : (if a0 < 2 then (impl_nim.j0 k a0 a1 a2 true) else (impl_nim.j0 k a0 a1 a2 (decide (a1 < 2)))) = some r := h
  clear h
  have HC4 := Aside0.mk H
  clear H
  go_enter Try.func40, Try.ntmps40
  go_upto_region 1 with (fail)
  go_cut [21] (fun v21 wc => ∃ (kq : Nat) (x21_3 : Bool), v21 = .bool x21_3 ∧ Aside0 (impl_nim.j0 kq a0 a1 a2 x21_3 = some r) ∧ Aside0 (kq ≤ k) ∧ Aside0 (Below w.heap.size w wc))
  case first =>
    have H := HC4.out
    clear HC4
    by_cases c5 : a0 < 2
    · rw [if_pos c5] at H
      have c5b0 : decide (a0 < 2) = true := decide_eq_true c5
      clear c5
      (first | rw [c5b0] | (simp only [i64_w, i32_w]; rw [c5b0]) | skip)
      as_aux_lemma =>
        have H' := Aside0.mk H
        clear H
        go_wp2
        go_meet
        case rel => exact ⟨_, (true), (by first | rfl | (simp; done) | (simp [*]; done)), H', ⟨by first | omega | exact Nat.le_refl _⟩, ⟨by repeat (first | (with_reducible first | exact HB.out | apply below_alloc | apply pw_below_drewN | apply below_drew1) | exact HB.out)⟩⟩
    · rw [if_neg c5] at H
      have c5b0 : decide (a0 < 2) = false := decide_eq_false c5
      clear c5
      (first | rw [c5b0] | (simp only [i64_w, i32_w]; rw [c5b0]) | skip)
      as_aux_lemma =>
        have H' := Aside0.mk H
        clear H
        go_wp2
        go_meet
        case rel => exact ⟨_, (decide (a1 < 2)), (by first | rfl | (simp; done) | (simp [*]; done)), H', ⟨by first | omega | exact Nat.le_refl _⟩, ⟨by repeat (first | (with_reducible first | exact HB.out | apply below_alloc | apply pw_below_drewN | apply below_drew1) | exact HB.out)⟩⟩
  case rest =>
    clear HC4
    try clear p2
    try clear c4
    try clear c5
    try clear c5b0
    obtain ⟨kq, x21_3, rfl, HA, HJ3, HB⟩ := hcut
    cases kq with
    | zero => exact absurd HA.out (by simp [impl_nim.j0])
    | succ kj3 =>
      have H := HA.out
      clear HA
      simp only [impl_nim.j0] at H
      by_cases c6 : x21_3 = true
      · subst c6
        have H1 : (some (wrap64 (a0 * a1))) = some r := by rw [if_pos rfl] at H; exact H
        clear H
        have H := H1
        clear H1
        as_aux_lemma =>
          obtain rfl := Option.some.inj H
          go_wp2
          go_ret
          exact ⟨by first | rfl | (simp [errW_none, errW_some] <;> rfl) | (simp [*, errW_none, errW_some] <;> rfl), by repeat (first | (with_reducible first | exact HB.out | apply below_alloc | apply pw_below_drewN | apply below_drew1) | exact HB.out)⟩
      · replace c6 := Bool.eq_false_iff.mpr c6
        subst c6
        have H1 : (if 0 ≤ a2 then ((impl_nim.f kj3 (shr .i64 a0 a2) (shr .i64 a1 a2) (mx (wrap64 (Int.tdiv a2 2)) 1)).bind fun t186 => ((impl_nim.f kj3 (Go.bits .and .i64 a0 (wrap64 ((shl .i64 1 a2) - 1))) (Go.bits .and .i64 a1 (wrap64 ((shl .i64 1 a2) - 1))) (mx (wrap64 (Int.tdiv a2 2)) 1)).bind fun t187 => ((impl_nim.f kj3 (Go.bits .xor .i64 (shr .i64 a0 a2) (Go.bits .and .i64 a0 (wrap64 ((shl .i64 1 a2) - 1)))) (Go.bits .xor .i64 (shr .i64 a1 a2) (Go.bits .and .i64 a1 (wrap64 ((shl .i64 1 a2) - 1)))) (mx (wrap64 (Int.tdiv a2 2)) 1)).bind fun t188 => (if 0 ≤ (wrap64 (a2 - 1)) then ((impl_nim.f kj3 t186 (shl .i64 1 (wrap64 (a2 - 1))) (mx (wrap64 (Int.tdiv a2 2)) 1)).bind fun t189 => (some (Go.bits .xor .i64 (Go.bits .xor .i64 (shl .i64 (Go.bits .xor .i64 t188 t187) a2) t187) t189))) else (none))))) else (none)) = some r := by rw [if_neg (show ¬ (false = true) by decide)] at H; exact H
        clear H
        have H := H1
        clear H1
        by_cases c7 : 0 ≤ a2
        · rw [if_pos c7] at H
          have c7b0 := eq_true c7
          have c7b1 : decide (0 ≤ a2) = true := decide_eq_true c7
          clear c7
          obtain ⟨ji8, hji8⟩ : ∃ j_ : Int, (shl .i64 1 a2) = j_ := ⟨_, rfl⟩
          replace H : ((impl_nim.f kj3 (shr .i64 a0 a2) (shr .i64 a1 a2) (mx (wrap64 (Int.tdiv a2 2)) 1)).bind fun t186 => ((impl_nim.f kj3 (Go.bits .and .i64 a0 (wrap64 ((ji8) - 1))) (Go.bits .and .i64 a1 (wrap64 ((ji8) - 1))) (mx (wrap64 (Int.tdiv a2 2)) 1)).bind fun t187 => ((impl_nim.f kj3 (Go.bits .xor .i64 (shr .i64 a0 a2) (Go.bits .and .i64 a0 (wrap64 ((ji8) - 1)))) (Go.bits .xor .i64 (shr .i64 a1 a2) (Go.bits .and .i64 a1 (wrap64 ((ji8) - 1)))) (mx (wrap64 (Int.tdiv a2 2)) 1)).bind fun t188 => (if 0 ≤ (wrap64 (a2 - 1)) then ((impl_nim.f kj3 t186 (shl .i64 1 (wrap64 (a2 - 1))) (mx (wrap64 (Int.tdiv a2 2)) 1)).bind fun t189 => (some (Go.bits .xor .i64 (Go.bits .xor .i64 (shl .i64 (Go.bits .xor .i64 t188 t187) a2) t187) t189))) else (none))))) = some r := by first | (rw [hji8] at H; exact H) | (simp only [hji8] at H ⊢; exact H)
          have hji8_ : (IntKind.i64.wrap (1 * 2 ^ min a2.toNat 64)) = ji8 := hji8
          have hji8z : a2 ≤ 64 → (IntKind.i64.wrap (1 * 2 ^ a2.toNat)) = ji8 := shl_small hji8
          have hji8u : (IntKind.i64.wrap (2 ^ min a2.toNat 64)) = ji8 := by have h_ := hji8_; rw [Int.one_mul] at h_; exact h_
          have hji8v : a2 ≤ 64 → (IntKind.i64.wrap (2 ^ a2.toNat)) = ji8 := fun hle_ => by have h_ := hji8z hle_; rw [Int.one_mul] at h_; exact h_
          have hji8y : (wrap64 (1 * 2 ^ min a2.toNat 64)) = ji8 := (i64_w _).symm.trans hji8_
          have hji8x : a2 ≤ 64 → (wrap64 (1 * 2 ^ a2.toNat)) = ji8 := fun h_ => (i64_w _).symm.trans (hji8z h_)
          have c9b0 := eq_true (of_decide_eq_true (by first | (with_reducible assumption) | assumption) : 0 ≤ a2)
          obtain ⟨ji10, hji10⟩ : ∃ j_ : Int, (shr .i64 a0 a2) = j_ := ⟨_, rfl⟩
          replace H : ((impl_nim.f kj3 (ji10) (shr .i64 a1 a2) (mx (wrap64 (Int.tdiv a2 2)) 1)).bind fun t186 => ((impl_nim.f kj3 (Go.bits .and .i64 a0 (wrap64 ((ji8) - 1))) (Go.bits .and .i64 a1 (wrap64 ((ji8) - 1))) (mx (wrap64 (Int.tdiv a2 2)) 1)).bind fun t187 => ((impl_nim.f kj3 (Go.bits .xor .i64 (ji10) (Go.bits .and .i64 a0 (wrap64 ((ji8) - 1)))) (Go.bits .xor .i64 (shr .i64 a1 a2) (Go.bits .and .i64 a1 (wrap64 ((ji8) - 1)))) (mx (wrap64 (Int.tdiv a2 2)) 1)).bind fun t188 => (if 0 ≤ (wrap64 (a2 - 1)) then ((impl_nim.f kj3 t186 (shl .i64 1 (wrap64 (a2 - 1))) (mx (wrap64 (Int.tdiv a2 2)) 1)).bind fun t189 => (some (Go.bits .xor .i64 (Go.bits .xor .i64 (shl .i64 (Go.bits .xor .i64 t188 t187) a2) t187) t189))) else (none))))) = some r := by first | (rw [hji10] at H; exact H) | (simp only [hji10] at H ⊢; exact H)
          have hji10_ : (a0 / 2 ^ min a2.toNat 64) = ji10 := hji10
          have hji10z : a2 ≤ 64 → (a0 / 2 ^ a2.toNat) = ji10 := shr_small hji10
          have c11b0 := eq_true (of_decide_eq_true (by first | (with_reducible assumption) | assumption) : 0 ≤ a2)
          obtain ⟨ji12, hji12⟩ : ∃ j_ : Int, (shr .i64 a1 a2) = j_ := ⟨_, rfl⟩
          replace H : ((impl_nim.f kj3 (ji10) (ji12) (mx (wrap64 (Int.tdiv a2 2)) 1)).bind fun t186 => ((impl_nim.f kj3 (Go.bits .and .i64 a0 (wrap64 ((ji8) - 1))) (Go.bits .and .i64 a1 (wrap64 ((ji8) - 1))) (mx (wrap64 (Int.tdiv a2 2)) 1)).bind fun t187 => ((impl_nim.f kj3 (Go.bits .xor .i64 (ji10) (Go.bits .and .i64 a0 (wrap64 ((ji8) - 1)))) (Go.bits .xor .i64 (ji12) (Go.bits .and .i64 a1 (wrap64 ((ji8) - 1)))) (mx (wrap64 (Int.tdiv a2 2)) 1)).bind fun t188 => (if 0 ≤ (wrap64 (a2 - 1)) then ((impl_nim.f kj3 t186 (shl .i64 1 (wrap64 (a2 - 1))) (mx (wrap64 (Int.tdiv a2 2)) 1)).bind fun t189 => (some (Go.bits .xor .i64 (Go.bits .xor .i64 (shl .i64 (Go.bits .xor .i64 t188 t187) a2) t187) t189))) else (none))))) = some r := by first | (rw [hji12] at H; exact H) | (simp only [hji12] at H ⊢; exact H)
          have hji12_ : (a1 / 2 ^ min a2.toNat 64) = ji12 := hji12
          have hji12z : a2 ≤ 64 → (a1 / 2 ^ a2.toNat) = ji12 := shr_small hji12
          obtain ⟨ji13, hji13⟩ : ∃ j_ : Int, (mx (wrap64 (Int.tdiv a2 2)) 1) = j_ := ⟨_, rfl⟩
          replace H : ((impl_nim.f kj3 (ji10) (ji12) (ji13)).bind fun t186 => ((impl_nim.f kj3 (Go.bits .and .i64 a0 (wrap64 ((ji8) - 1))) (Go.bits .and .i64 a1 (wrap64 ((ji8) - 1))) (ji13)).bind fun t187 => ((impl_nim.f kj3 (Go.bits .xor .i64 (ji10) (Go.bits .and .i64 a0 (wrap64 ((ji8) - 1)))) (Go.bits .xor .i64 (ji12) (Go.bits .and .i64 a1 (wrap64 ((ji8) - 1)))) (ji13)).bind fun t188 => (if 0 ≤ (wrap64 (a2 - 1)) then ((impl_nim.f kj3 t186 (shl .i64 1 (wrap64 (a2 - 1))) (ji13)).bind fun t189 => (some (Go.bits .xor .i64 (Go.bits .xor .i64 (shl .i64 (Go.bits .xor .i64 t188 t187) a2) t187) t189))) else (none))))) = some r := by first | (rw [hji13] at H; exact H) | (simp only [hji13] at H ⊢; exact H)
          have hji13_ : (if (wrap64 (Int.tdiv a2 2)) < 1 then 1 else (wrap64 (Int.tdiv a2 2))) = ji13 := hji13
          replace H := Option.bind_eq_some_iff.mp H
          obtain ⟨t186, A140, H⟩ := H
          replace H : ((impl_nim.f kj3 (Go.bits .and .i64 a0 (wrap64 ((ji8) - 1))) (Go.bits .and .i64 a1 (wrap64 ((ji8) - 1))) (ji13)).bind fun t187 => ((impl_nim.f kj3 (Go.bits .xor .i64 (ji10) (Go.bits .and .i64 a0 (wrap64 ((ji8) - 1)))) (Go.bits .xor .i64 (ji12) (Go.bits .and .i64 a1 (wrap64 ((ji8) - 1)))) (ji13)).bind fun t188 => (if 0 ≤ (wrap64 (a2 - 1)) then ((impl_nim.f kj3 t186 (shl .i64 1 (wrap64 (a2 - 1))) (ji13)).bind fun t189 => (some (Go.bits .xor .i64 (Go.bits .xor .i64 (shl .i64 (Go.bits .xor .i64 t188 t187) a2) t187) t189))) else (none)))) = some r := H
          have A14 := Aside0.mk A140
          clear A140
          replace H := Option.bind_eq_some_iff.mp H
          obtain ⟨t187, A150, H⟩ := H
          replace H : ((impl_nim.f kj3 (Go.bits .xor .i64 (ji10) (Go.bits .and .i64 a0 (wrap64 ((ji8) - 1)))) (Go.bits .xor .i64 (ji12) (Go.bits .and .i64 a1 (wrap64 ((ji8) - 1)))) (ji13)).bind fun t188 => (if 0 ≤ (wrap64 (a2 - 1)) then ((impl_nim.f kj3 t186 (shl .i64 1 (wrap64 (a2 - 1))) (ji13)).bind fun t189 => (some (Go.bits .xor .i64 (Go.bits .xor .i64 (shl .i64 (Go.bits .xor .i64 t188 t187) a2) t187) t189))) else (none))) = some r := H
          have A15 := Aside0.mk A150
          clear A150
          replace H := Option.bind_eq_some_iff.mp H
          obtain ⟨t188, A160, H⟩ := H
          replace H : (if 0 ≤ (wrap64 (a2 - 1)) then ((impl_nim.f kj3 t186 (shl .i64 1 (wrap64 (a2 - 1))) (ji13)).bind fun t189 => (some (Go.bits .xor .i64 (Go.bits .xor .i64 (shl .i64 (Go.bits .xor .i64 t188 t187) a2) t187) t189))) else (none)) = some r := H
          have A16 := Aside0.mk A160
          clear A160
          have c17b0 := eq_true (of_decide_eq_true (by first | (with_reducible assumption) | assumption) : 0 ≤ a2)
          obtain ⟨ji18, hji18⟩ : ∃ j_ : Int, (shl .i64 (Go.bits .xor .i64 t188 t187) a2) = j_ := ⟨_, rfl⟩
          replace H : (if 0 ≤ (wrap64 (a2 - 1)) then ((impl_nim.f kj3 t186 (shl .i64 1 (wrap64 (a2 - 1))) (ji13)).bind fun t189 => (some (Go.bits .xor .i64 (Go.bits .xor .i64 (ji18) t187) t189))) else (none)) = some r := by first | (rw [hji18] at H; exact H) | (simp only [hji18] at H ⊢; exact H)
          (try rw [hji18] at A14)
          (try rw [hji18] at A15)
          (try rw [hji18] at A16)
          have hji18_ : (IntKind.i64.wrap ((Go.bits .xor .i64 t188 t187) * 2 ^ min a2.toNat 64)) = ji18 := hji18
          have hji18z : a2 ≤ 64 → (IntKind.i64.wrap ((Go.bits .xor .i64 t188 t187) * 2 ^ a2.toNat)) = ji18 := shl_small hji18
          have hji18y : (wrap64 ((Go.bits .xor .i64 t188 t187) * 2 ^ min a2.toNat 64)) = ji18 := (i64_w _).symm.trans hji18_
          have hji18x : a2 ≤ 64 → (wrap64 ((Go.bits .xor .i64 t188 t187) * 2 ^ a2.toNat)) = ji18 := fun h_ => (i64_w _).symm.trans (hji18z h_)
          obtain ⟨ji19, hji19⟩ : ∃ j_ : Int, (wrap64 (a2 - 1)) = j_ := ⟨_, rfl⟩
          replace H : (if 0 ≤ (ji19) then ((impl_nim.f kj3 t186 (shl .i64 1 (ji19)) (ji13)).bind fun t189 => (some (Go.bits .xor .i64 (Go.bits .xor .i64 (ji18) t187) t189))) else (none)) = some r := by first | (rw [hji19] at H; exact H) | (simp only [hji19] at H ⊢; exact H)
          (try rw [hji19] at A14)
          (try rw [hji19] at A15)
          (try rw [hji19] at A16)
          have hji19w : (IntKind.i64.wrap (a2 - 1)) = ji19 := (i64_w _).trans hji19
          by_cases c20 : 0 ≤ (ji19)
          · rw [if_pos c20] at H
            have c20b0 := eq_true c20
            have c20b1 : decide (0 ≤ (ji19)) = true := decide_eq_true c20
            clear c20
            obtain ⟨ji21, hji21⟩ : ∃ j_ : Int, (shl .i64 1 (ji19)) = j_ := ⟨_, rfl⟩
            replace H : ((impl_nim.f kj3 t186 (ji21) (ji13)).bind fun t189 => (some (Go.bits .xor .i64 (Go.bits .xor .i64 (ji18) t187) t189))) = some r := by first | (rw [hji21] at H; exact H) | (simp only [hji21] at H ⊢; exact H)
            (try rw [hji21] at A14)
            (try rw [hji21] at A15)
            (try rw [hji21] at A16)
            have hji21_ : (IntKind.i64.wrap (1 * 2 ^ min (ji19).toNat 64)) = ji21 := hji21
            have hji21z : (ji19) ≤ 64 → (IntKind.i64.wrap (1 * 2 ^ (ji19).toNat)) = ji21 := shl_small hji21
            have hji21u : (IntKind.i64.wrap (2 ^ min (ji19).toNat 64)) = ji21 := by have h_ := hji21_; rw [Int.one_mul] at h_; exact h_
            have hji21v : (ji19) ≤ 64 → (IntKind.i64.wrap (2 ^ (ji19).toNat)) = ji21 := fun hle_ => by have h_ := hji21z hle_; rw [Int.one_mul] at h_; exact h_
            have hji21y : (wrap64 (1 * 2 ^ min (ji19).toNat 64)) = ji21 := (i64_w _).symm.trans hji21_
            have hji21x : (ji19) ≤ 64 → (wrap64 (1 * 2 ^ (ji19).toNat)) = ji21 := fun h_ => (i64_w _).symm.trans (hji21z h_)
            replace H := Option.bind_eq_some_iff.mp H
            obtain ⟨t189, A220, H⟩ := H
            replace H : (some (Go.bits .xor .i64 (Go.bits .xor .i64 (ji18) t187) t189)) = some r := H
            have A22 := Aside0.mk A220
            clear A220
            as_aux_lemma =>
              obtain rfl := Option.some.inj H
              try go_wp2
              have n0_ := Aside0.mk (below_drew1 HB.out)
              clear HB
              have HB := n0_
              clear n0_
              refine start_ (n := 16) (S := fun w' => True) (ds := []) #[false, false, false, false, false, false, false, false, false, false, false, false, false, false, false, false] (by kernel_rfl) rfl rfl trivial (fun hHeld => ?_); refine with_tabW impl_nim.tab4 impl_nim.bits4 (fun HT_ HW_ => ?_)
              generalize wc.drew = w23 at HB hHeld ⊢
              refine pure_ (i := 0) (N := some 28) (v := ?_) (a' := ?_) #[true, false, false, false, false, false, false, false, false, false, false, false, false, false, false, false] rfl rfl (any_of HT_.out (by kernel_rfl)) (fun _ _ _ h => h) (Or.inl ⟨by rfl, ?_⟩) ?_ ?_
              rotate_left
              · intro w'
                go_simp
                with_reducible rfl
              rotate_left
              · simp only [Act.put, List.setIfInBounds_toArray, List.set_cons_zero, List.set_cons_succ, i64_w, i32_w]
                rfl
              refine pure_ (i := 1) (N := some 29) (v := ?_) (a' := ?_) #[true, true, false, false, false, false, false, false, false, false, false, false, false, false, false, false] rfl rfl (any_of HT_.out (by kernel_rfl)) (fun _ _ _ h => h) (Or.inl ⟨by rfl, ?_⟩) ?_ ?_
              rotate_left
              · intro w'
                go_simp
                with_reducible rfl
              rotate_left
              · simp only [Act.put, List.setIfInBounds_toArray, List.set_cons_zero, List.set_cons_succ, i64_w, i32_w]
                rfl
              refine pure_ (i := 2) (N := some 30) (v := ?_) (a' := ?_) #[true, true, true, false, false, false, false, false, false, false, false, false, false, false, false, false] rfl rfl (any_of HT_.out (by kernel_rfl)) (fun _ _ _ h => h) (Or.inl ⟨by rfl, ?_⟩) ?_ ?_
              rotate_left
              · intro w'
                go_simp
                with_reducible rfl
              rotate_left
              · simp only [Act.put, List.setIfInBounds_toArray, List.set_cons_zero, List.set_cons_succ, i64_w, i32_w]
                rfl
              refine pure_ (i := 3) (N := some 31) (v := ?_) (a' := ?_) #[true, true, true, true, false, false, false, false, false, false, false, false, false, false, false, false] rfl rfl (any_of HT_.out (by kernel_rfl)) (fun _ _ _ h => h) (Or.inl ⟨by rfl, ?_⟩) ?_ ?_
              rotate_left
              · intro w'
                go_simp
                with_reducible rfl
              rotate_left
              · simp only [Act.put, List.setIfInBounds_toArray, List.set_cons_zero, List.set_cons_succ, i64_w, i32_w]
                rfl
              refine pure_ (i := 4) (N := some 32) (v := ?_) (a' := ?_) #[true, true, true, true, true, false, false, false, false, false, false, false, false, false, false, false] rfl rfl (any_of HT_.out (by kernel_rfl)) (fun _ _ _ h => h) (Or.inl ⟨by rfl, ?_⟩) ?_ ?_
              rotate_left
              · intro w'
                go_simp
                with_reducible rfl
              rotate_left
              · simp only [Act.put, List.setIfInBounds_toArray, List.set_cons_zero, List.set_cons_succ, i64_w, i32_w]
                rfl
              refine pure_ (i := 5) (N := some 33) (v := ?_) (a' := ?_) #[true, true, true, true, true, true, false, false, false, false, false, false, false, false, false, false] rfl rfl (any_of HT_.out (by kernel_rfl)) (fun _ _ _ h => h) (Or.inl ⟨by rfl, ?_⟩) ?_ ?_
              rotate_left
              · intro w'
                go_simp
                with_reducible rfl
              rotate_left
              · simp only [Act.put, List.setIfInBounds_toArray, List.set_cons_zero, List.set_cons_succ, i64_w, i32_w]
                rfl
              refine pure_ (i := 6) (N := some 34) (v := ?_) (a' := ?_) #[true, true, true, true, true, true, true, false, false, false, false, false, false, false, false, false] rfl rfl (any_of HT_.out (by kernel_rfl)) (fun _ _ _ h => h) (Or.inl ⟨by rfl, ?_⟩) ?_ ?_
              rotate_left
              · intro w'
                go_simp
                with_reducible rfl
              rotate_left
              · simp only [Act.put, List.setIfInBounds_toArray, List.set_cons_zero, List.set_cons_succ, i64_w, i32_w]
                rfl
              refine pure_ (i := 7) (N := some 35) (v := ?_) (a' := ?_) #[true, true, true, true, true, true, true, true, false, false, false, false, false, false, false, false] rfl rfl (any_of HT_.out (by kernel_rfl)) (fun _ _ _ h => h) (Or.inl ⟨by rfl, ?_⟩) ?_ ?_
              rotate_left
              · intro w'
                go_simp
                with_reducible rfl
              rotate_left
              · simp only [Act.put, List.setIfInBounds_toArray, List.set_cons_zero, List.set_cons_succ, i64_w, i32_w]
                rfl
              refine pure_ (i := 8) (N := some 36) (v := ?_) (a' := ?_) #[true, true, true, true, true, true, true, true, true, false, false, false, false, false, false, false] rfl rfl (any_of HT_.out (by kernel_rfl)) (fun _ _ _ h => h) (Or.inl ⟨by rfl, ?_⟩) ?_ ?_
              rotate_left
              · intro w'
                go_simp
                with_reducible rfl
              rotate_left
              · simp only [Act.put, List.setIfInBounds_toArray, List.set_cons_zero, List.set_cons_succ, i64_w, i32_w]
                rfl
              refine pure_ (i := 9) (N := some 37) (v := ?_) (a' := ?_) #[true, true, true, true, true, true, true, true, true, true, false, false, false, false, false, false] rfl rfl (any_of HT_.out (by kernel_rfl)) (fun _ _ _ h => h) (Or.inl ⟨by rfl, ?_⟩) ?_ ?_
              rotate_left
              · intro w'
                go_simp
                with_reducible rfl
              rotate_left
              · simp only [Act.put, List.setIfInBounds_toArray, List.set_cons_zero, List.set_cons_succ, i64_w, i32_w]
                rfl
              refine pure_ (i := 10) (N := some 38) (v := ?_) (a' := ?_) #[true, true, true, true, true, true, true, true, true, true, true, false, false, false, false, false] rfl rfl (any_of HT_.out (by kernel_rfl)) (fun _ _ _ h => h) (Or.inl ⟨by rfl, ?_⟩) ?_ ?_
              rotate_left
              · intro w'
                go_simp
                with_reducible rfl
              rotate_left
              · simp only [Act.put, List.setIfInBounds_toArray, List.set_cons_zero, List.set_cons_succ, i64_w, i32_w]
                rfl
              refine pure_ (i := 11) (N := some 39) (v := ?_) (a' := ?_) #[true, true, true, true, true, true, true, true, true, true, true, true, false, false, false, false] rfl rfl (any_of HT_.out (by kernel_rfl)) (fun _ _ _ h => h) (Or.inl ⟨by rfl, ?_⟩) ?_ ?_
              rotate_left
              · intro w'
                go_simp
                with_reducible rfl
              rotate_left
              · simp only [Act.put, List.setIfInBounds_toArray, List.set_cons_zero, List.set_cons_succ, i64_w, i32_w]
                rfl
              refine pure_ (i := 12) (N := some 8) (v := ?_) (a' := ?_) #[true, true, true, true, true, true, true, true, true, true, true, true, true, false, false, false] rfl rfl (any_of HT_.out (by kernel_rfl)) (fun _ _ _ h => h) (Or.inl ⟨by rfl, ?_⟩) ?_ ?_
              rotate_left
              · intro w'
                go_simp
                with_reducible rfl
              rotate_left
              · simp only [Act.put, List.setIfInBounds_toArray, List.set_cons_zero, List.set_cons_succ, i64_w, i32_w]
                rfl
              refine pure_ (i := 13) (N := some 9) (v := ?_) (a' := ?_) #[true, true, true, true, true, true, true, true, true, true, true, true, true, true, false, false] rfl rfl (any_of HT_.out (by kernel_rfl)) (fun _ _ _ h => h) (Or.inl ⟨by rfl, ?_⟩) ?_ ?_
              rotate_left
              · intro w'
                go_simp
                with_reducible rfl
              rotate_left
              · simp only [Act.put, List.setIfInBounds_toArray, List.set_cons_zero, List.set_cons_succ, i64_w, i32_w]
                rfl
              refine pure_ (i := 14) (N := some 10) (v := ?_) (a' := ?_) #[true, true, true, true, true, true, true, true, true, true, true, true, true, true, true, false] rfl rfl (any_of HT_.out (by kernel_rfl)) (fun _ _ _ h => h) (Or.inl ⟨by rfl, ?_⟩) ?_ ?_
              rotate_left
              · intro w'
                go_simp
                with_reducible rfl
              rotate_left
              · simp only [Act.put, List.setIfInBounds_toArray, List.set_cons_zero, List.set_cons_succ, i64_w, i32_w]
                rfl
              refine pure_ (i := 15) (N := some 11) (v := ?_) (a' := ?_) #[true, true, true, true, true, true, true, true, true, true, true, true, true, true, true, true] rfl rfl (any_of HT_.out (by kernel_rfl)) (fun _ _ _ h => h) (Or.inl ⟨by rfl, ?_⟩) ?_ ?_
              rotate_left
              · intro w'
                go_simp
                with_reducible rfl
              rotate_left
              · simp only [Act.put, List.setIfInBounds_toArray, List.set_cons_zero, List.set_cons_succ, i64_w, i32_w]
                rfl
              refine done_ (done_of HT_.out (by kernel_rfl)) ?_
              try go_wp2_with (first | ((with_reducible refine gate_callee (f := 40) rfl ?_); refine goesL_ (some 46) rfl rfl Try.func40 (by kernel_rfl) rfl #[.int .i64 ji10, .int .i64 ji12, .int .i64 ji13] rfl (by (try simp only [List.map_toArray, List.map_cons, List.map_nil]); first | done | (simp only [hji10, hji12, hji13]; rfl) | rfl | (simp only [List.length_drop, List.length_take]; rfl)) ?_; (with_reducible refine (ih kj3 (by have := HJ3.out; omega) ji10 ji12 ji13 t186 _ A14.out).mono ?_); rintro e w24 ⟨rfl, hb⟩; refine ⟨_, rfl, ?_⟩; have n0_ := Aside0.mk (below_step (by repeat (first | (with_reducible first | exact HB.out | apply below_alloc | apply pw_below_drewN | apply below_drew1) | exact HB.out)) hb); clear HB; have HB := n0_; clear n0_; (try clear hb); (try clear hb2); (try clear hk); (try clear hi)) | ((with_reducible refine gate_callee (f := 40) rfl ?_); refine goesL_ (some 50) rfl rfl Try.func40 (by kernel_rfl) rfl #[.int .i64 (Go.bits .and .i64 a0 (wrap64 ((ji8) - 1))), .int .i64 (Go.bits .and .i64 a1 (wrap64 ((ji8) - 1))), .int .i64 ji13] rfl (by (try simp only [List.map_toArray, List.map_cons, List.map_nil]); first | done | (simp only [hji13, hji8]; rfl) | rfl | (simp only [List.length_drop, List.length_take]; rfl)) ?_; (with_reducible refine (ih kj3 (by have := HJ3.out; omega) (Go.bits .and .i64 a0 (wrap64 ((ji8) - 1))) (Go.bits .and .i64 a1 (wrap64 ((ji8) - 1))) ji13 t187 _ A15.out).mono ?_); rintro e w25 ⟨rfl, hb⟩; refine ⟨_, rfl, ?_⟩; have n0_ := Aside0.mk (below_step (by repeat (first | (with_reducible first | exact HB.out | apply below_alloc | apply pw_below_drewN | apply below_drew1) | exact HB.out)) hb); clear HB; have HB := n0_; clear n0_; (try clear hb); (try clear hb2); (try clear hk); (try clear hi)) | ((with_reducible refine gate_callee (f := 40) rfl ?_); refine goesL_ (some 58) rfl rfl Try.func40 (by kernel_rfl) rfl #[.int .i64 (Go.bits .xor .i64 (ji10) (Go.bits .and .i64 a0 (wrap64 ((ji8) - 1)))), .int .i64 (Go.bits .xor .i64 (ji12) (Go.bits .and .i64 a1 (wrap64 ((ji8) - 1)))), .int .i64 ji13] rfl (by (try simp only [List.map_toArray, List.map_cons, List.map_nil]); first | done | (simp only [hji10, hji12, hji13, hji8]; rfl) | rfl | (simp only [List.length_drop, List.length_take]; rfl)) ?_; (with_reducible refine (ih kj3 (by have := HJ3.out; omega) (Go.bits .xor .i64 (ji10) (Go.bits .and .i64 a0 (wrap64 ((ji8) - 1)))) (Go.bits .xor .i64 (ji12) (Go.bits .and .i64 a1 (wrap64 ((ji8) - 1)))) ji13 t188 _ A16.out).mono ?_); rintro e w26 ⟨rfl, hb⟩; refine ⟨_, rfl, ?_⟩; have n0_ := Aside0.mk (below_step (by repeat (first | (with_reducible first | exact HB.out | apply below_alloc | apply pw_below_drewN | apply below_drew1) | exact HB.out)) hb); clear HB; have HB := n0_; clear n0_; (try clear hb); (try clear hb2); (try clear hk); (try clear hi)))
              have n0_ := Aside0.mk (below_drew1 HB.out)
              clear HB
              have HB := n0_
              clear n0_
              refine start_ (n := 15) (S := fun w' => True) (ds := []) #[false, false, false, false, false, false, false, false, false, false, false, false, false, false, false] (by kernel_rfl) rfl rfl trivial (fun hHeld => ?_); refine with_tabW impl_nim.tab8 impl_nim.bits8 (fun HT_ HW_ => ?_)
              generalize w26.drew = w27 at HB hHeld ⊢
              refine pure_ (i := 0) (N := some 59) (v := ?_) (a' := ?_) #[true, false, false, false, false, false, false, false, false, false, false, false, false, false, false] rfl rfl (any_of HT_.out (by kernel_rfl)) (fun _ _ _ h => h) (Or.inl ⟨by rfl, ?_⟩) ?_ ?_
              rotate_left
              · intro w'
                go_simp
                with_reducible rfl
              rotate_left
              · simp only [Act.put, List.setIfInBounds_toArray, List.set_cons_zero, List.set_cons_succ, i64_w, i32_w]
                rfl
              refine pure_ (i := 1) (N := some 60) (v := ?_) (a' := ?_) #[true, true, false, false, false, false, false, false, false, false, false, false, false, false, false] rfl rfl (any_of HT_.out (by kernel_rfl)) (fun _ _ _ h => h) (Or.inl ⟨by rfl, ?_⟩) ?_ ?_
              rotate_left
              · intro w'
                go_simp
                with_reducible rfl
              rotate_left
              · simp only [Act.put, List.setIfInBounds_toArray, List.set_cons_zero, List.set_cons_succ, i64_w, i32_w]
                rfl
              refine pure_ (i := 2) (N := some 61) (v := ?_) (a' := ?_) #[true, true, true, false, false, false, false, false, false, false, false, false, false, false, false] rfl rfl (any_of HT_.out (by kernel_rfl)) (fun _ _ _ h => h) (Or.inl ⟨by rfl, ?_⟩) ?_ ?_
              rotate_left
              · intro w'
                go_simp
                with_reducible rfl
              rotate_left
              · simp only [Act.put, List.setIfInBounds_toArray, List.set_cons_zero, List.set_cons_succ, i64_w, i32_w]
                rfl
              refine pure_ (i := 3) (N := some 62) (v := ?_) (a' := ?_) #[true, true, true, true, false, false, false, false, false, false, false, false, false, false, false] rfl rfl (any_of HT_.out (by kernel_rfl)) (fun _ _ _ h => h) (Or.inl ⟨by rfl, ?_⟩) ?_ ?_
              rotate_left
              · intro w'
                go_simp
                with_reducible rfl
              rotate_left
              · simp only [Act.put, List.setIfInBounds_toArray, List.set_cons_zero, List.set_cons_succ, i64_w, i32_w]
                rfl
              refine pure_ (i := 4) (N := some 63) (v := ?_) (a' := ?_) #[true, true, true, true, true, false, false, false, false, false, false, false, false, false, false] rfl rfl (any_of HT_.out (by kernel_rfl)) (fun _ _ _ h => h) (Or.inl ⟨by rfl, ?_⟩) ?_ ?_
              rotate_left
              · intro w'
                go_simp
                with_reducible rfl
              rotate_left
              · simp only [Act.put, List.setIfInBounds_toArray, List.set_cons_zero, List.set_cons_succ, i64_w, i32_w]
                rfl
              refine pure_ (i := 5) (N := some 64) (v := ?_) (a' := ?_) #[true, true, true, true, true, true, false, false, false, false, false, false, false, false, false] rfl rfl (any_of HT_.out (by kernel_rfl)) (fun _ _ _ h => h) (Or.inl ⟨by rfl, ?_⟩) ?_ ?_
              rotate_left
              · intro w'
                go_simp
                with_reducible rfl
              rotate_left
              · simp only [Act.put, List.setIfInBounds_toArray, List.set_cons_zero, List.set_cons_succ, i64_w, i32_w]
                rfl
              refine pure_ (i := 6) (N := some 65) (v := ?_) (a' := ?_) #[true, true, true, true, true, true, true, false, false, false, false, false, false, false, false] rfl rfl (any_of HT_.out (by kernel_rfl)) (fun _ _ _ h => h) (Or.inl ⟨by rfl, ?_⟩) ?_ ?_
              rotate_left
              · intro w'
                go_simp
                with_reducible rfl
              rotate_left
              · simp only [Act.put, List.setIfInBounds_toArray, List.set_cons_zero, List.set_cons_succ, i64_w, i32_w]
                rfl
              refine pure_ (i := 7) (N := some 66) (v := ?_) (a' := ?_) #[true, true, true, true, true, true, true, true, false, false, false, false, false, false, false] rfl rfl (any_of HT_.out (by kernel_rfl)) (fun _ _ _ h => h) (Or.inl ⟨by rfl, ?_⟩) ?_ ?_
              rotate_left
              · intro w'
                go_simp
                with_reducible rfl
              rotate_left
              · simp only [Act.put, List.setIfInBounds_toArray, List.set_cons_zero, List.set_cons_succ, i64_w, i32_w]
                rfl
              refine pure_ (i := 8) (N := some 67) (v := ?_) (a' := ?_) #[true, true, true, true, true, true, true, true, true, false, false, false, false, false, false] rfl rfl (any_of HT_.out (by kernel_rfl)) (fun _ _ _ h => h) (Or.inl ⟨by rfl, ?_⟩) ?_ ?_
              rotate_left
              · intro w'
                go_simp
                with_reducible rfl
              rotate_left
              · simp only [Act.put, List.setIfInBounds_toArray, List.set_cons_zero, List.set_cons_succ, i64_w, i32_w]
                rfl
              refine pure_ (i := 9) (N := some 68) (v := ?_) (a' := ?_) #[true, true, true, true, true, true, true, true, true, true, false, false, false, false, false] rfl rfl (any_of HT_.out (by kernel_rfl)) (fun _ _ _ h => h) (Or.inl ⟨by rfl, ?_⟩) ?_ ?_
              rotate_left
              · intro w'
                go_simp
                with_reducible rfl
              rotate_left
              · simp only [Act.put, List.setIfInBounds_toArray, List.set_cons_zero, List.set_cons_succ, i64_w, i32_w]
                rfl
              refine pure_ (i := 10) (N := some 69) (v := ?_) (a' := ?_) #[true, true, true, true, true, true, true, true, true, true, true, false, false, false, false] rfl rfl (any_of HT_.out (by kernel_rfl)) (fun _ _ _ h => h) (Or.inl ⟨by rfl, ?_⟩) ?_ ?_
              rotate_left
              · intro w'
                go_simp
                with_reducible rfl
              rotate_left
              · simp only [Act.put, List.setIfInBounds_toArray, List.set_cons_zero, List.set_cons_succ, i64_w, i32_w]
                rfl
              refine pure_ (i := 11) (N := some 70) (v := ?_) (a' := ?_) #[true, true, true, true, true, true, true, true, true, true, true, true, false, false, false] rfl rfl (any_of HT_.out (by kernel_rfl)) (fun _ _ _ h => h) (Or.inl ⟨by rfl, ?_⟩) ?_ ?_
              rotate_left
              · intro w'
                go_simp
                with_reducible rfl
              rotate_left
              · simp only [Act.put, List.setIfInBounds_toArray, List.set_cons_zero, List.set_cons_succ, i64_w, i32_w]
                rfl
              refine one_ (i := 12) (N := some 71) #[true, true, true, true, true, true, true, true, true, true, true, true, true, false, false] rfl rfl (one_of HT_.out (by kernel_rfl)) (by decide) (fun K hK => ?_)
              refine goes_ Try.func40 (by kernel_rfl) rfl #[.int .i64 t186, .int .i64 ji21, .int .i64 ji13] (by rfl) rfl rfl (by (try simp only [List.map_toArray, List.map_cons, List.map_nil]); first | done | (simp only [hji13, hji21]; rfl) | rfl | (simp only [List.length_drop, List.length_take]; rfl)) ?_
              with_reducible refine (ih kj3 (by have := HJ3.out; omega) t186 ji21 ji13 t189 _ A22.out).mono ?_
              rintro e w28 ⟨rfl, hb⟩
              refine ⟨_, rfl, ?_⟩
              have n0_ := Aside0.mk (below_step (by repeat (first | (with_reducible first | exact HB.out | apply below_alloc | apply pw_below_drewN | apply below_drew1) | exact HB.out)) hb)
              clear HB
              have HB := n0_
              clear n0_
              (try clear hb)
              (try clear hb2)
              (try clear hk)
              (try clear hi)
              refine hK.out _ _ trivial (fun hHeld => ?_)
              clear hK K
              refine norm_ (a' := ?_) ?_ ?_
              rotate_left
              · show Act.put _ (some 71) _ = _
                simp only [Act.put, List.setIfInBounds_toArray, List.set_cons_zero, List.set_cons_succ, i64_w, i32_w]
                rfl
              refine pure_ (i := 13) (N := some 72) (v := ?_) (a' := ?_) #[true, true, true, true, true, true, true, true, true, true, true, true, true, true, false] rfl rfl (any_of HT_.out (by kernel_rfl)) (fun _ _ _ h => h) (Or.inl ⟨by rfl, ?_⟩) ?_ ?_
              rotate_left
              · intro w'
                go_simp
                with_reducible rfl
              rotate_left
              · simp only [Act.put, List.setIfInBounds_toArray, List.set_cons_zero, List.set_cons_succ, i64_w, i32_w]
                rfl
              refine pure_ (i := 14) (N := some 6) (v := ?_) (a' := ?_) #[true, true, true, true, true, true, true, true, true, true, true, true, true, true, true] rfl rfl (any_of HT_.out (by kernel_rfl)) (fun _ _ _ h => h) (Or.inl ⟨by rfl, ?_⟩) ?_ ?_
              rotate_left
              · intro w'
                go_simp
                with_reducible rfl
              rotate_left
              · simp only [Act.put, List.setIfInBounds_toArray, List.set_cons_zero, List.set_cons_succ, i64_w, i32_w]
                rfl
              refine done_ (done_of HT_.out (by kernel_rfl)) ?_
              try go_wp2
              go_ret
              exact ⟨by first | rfl | (simp [errW_none, errW_some] <;> rfl) | (simp only [← hji8, ← hji10, ← hji12, ← hji13, ← hji18, ← hji19, ← hji21]; first | rfl | (simp [errW_none, errW_some] <;> rfl)) | (simp [*, errW_none, errW_some] <;> rfl), by repeat (first | (with_reducible first | exact HB.out | apply below_alloc | apply pw_below_drewN | apply below_drew1) | exact HB.out)⟩
          · rw [if_neg c20] at H
            exact absurd H (by simp)
        · rw [if_neg c7] at H
          exact absurd H (by simp)

/-! ### impl_times: function 27 -/
def impl_times.f (k : Nat) (a0 : Int) (a1 : Int) : Option (Int) := (impl_nim.f k a0 a1 8).bind fun t190 => (some t190)
theorem impl_times.mono : ∀ a0 a1 k, LeO (impl_times.f k a0 a1) (impl_times.f (k + 1) a0 a1) := by
  intro a0 a1 k
  unfold impl_times.f
  repeat' first
      | (with_reducible exact impl_nim.mono _ _ _ _)
      | (with_reducible exact LeO.refl _)
      | (with_reducible exact LeO.none _)
      | (with_reducible refine LeO.ite ?_ ?_)
      | (with_reducible refine LeO.bind ?_ (fun _ => ?_))
      | exact impl_nim.mono _ _ _ _
      | exact LeO.none _
      | refine LeO.ite ?_ ?_
      | refine LeO.bind ?_ (fun _ => ?_)
set_option maxHeartbeats 8000000 in
set_option maxRecDepth 100000 in
theorem impl_times.calls (k : Nat) (a0 : Int) (a1 : Int) (r : Int) (w : World) (h : impl_times.f k a0 a1 = some r) :
    Calls Try.prog 27 #[.int .i64 a0, .int .i64 a1] w fun e w' => e = .returned (.int .i64 r) ∧ Below w.heap.size w w' := by
  have HB := Aside0.mk (Below.refl w.heap.size w)
  have H : ((impl_nim.f k a0 a1 8).bind fun t190 => (some t190)) = some r := h
  clear h
  replace H := Option.bind_eq_some_iff.mp H
  obtain ⟨t190, A30, H⟩ := H
  replace H : (some t190) = some r := H
  have A3 := Aside0.mk A30
  clear A30
  as_aux_lemma =>
    obtain rfl := Option.some.inj H
    go_enter Try.func27, Try.ntmps27
    go_wp2_with (first | ((with_reducible refine gate_callee (f := 40) rfl ?_); refine goesL_ (some 7) rfl rfl Try.func40 (by kernel_rfl) rfl #[.int .i64 a0, .int .i64 a1, .int .i64 8] rfl (by (try simp only [List.map_toArray, List.map_cons, List.map_nil]); first | done | rfl | (simp only [List.length_drop, List.length_take]; rfl)) ?_; (with_reducible refine (impl_nim.calls k a0 a1 8 t190 _ A3.out).mono ?_); rintro e w4 ⟨rfl, hb⟩; refine ⟨_, rfl, ?_⟩; have n0_ := Aside0.mk (below_step (by repeat (first | (with_reducible first | exact HB.out | apply below_alloc | apply pw_below_drewN | apply below_drew1) | exact HB.out)) hb); clear HB; have HB := n0_; clear n0_; (try clear hb); (try clear hb2); (try clear hk); (try clear hi)))
    go_ret
    exact ⟨by first | rfl | (simp [errW_none, errW_some] <;> rfl) | (simp [*, errW_none, errW_some] <;> rfl), by repeat (first | (with_reducible first | exact HB.out | apply below_alloc | apply pw_below_drewN | apply below_drew1) | exact HB.out)⟩

/-! ### impl_solutions: function 25 -/
/-- What the sixteen single bits give. -/
def impl_solutions.parts (T : Int → Int → Option Int) (a : Int) : Nat → Option (List Int)
  | 0 => some []
  | n + 1 => (impl_solutions.parts T a n).bind fun l => (T (wrap64 ((2 : Int) ^ n)) (wrap64 ((2 : Int) ^ n))).bind fun t => (T a (wrap64 ((2 : Int) ^ n))).bind fun u => some (l ++ [Go.bits .xor .i64 t u])
/-- What a number gives, bit for bit. -/
def impl_solutions.val (ps : List Int) (b : Int) (x : Nat) : Nat → Int
  | 0 => b
  | n + 1 => if Go.bits .and .i64 ((x : Int) / 2 ^ n) 1 = 1 then Go.bits .xor .i64 (impl_solutions.val ps b x n) (ps.getD n 0) else impl_solutions.val ps b x n
def impl_solutions.list (ps : List Int) (b : Int) : Nat → List Int
  | 0 => []
  | n + 1 => if impl_solutions.val ps b n 16 = 0 then impl_solutions.list ps b n ++ [(n : Int)] else impl_solutions.list ps b n
@[irreducible] def impl_solutions.top : Nat := 65536
theorem impl_solutions.top_eq : impl_solutions.top = 65536 := by rw [impl_solutions.top]
def impl_solutions.f (a b : Int) : Option (List Int) := (impl_solutions.parts (impl_times.f 40) a 16).bind fun ps => some (impl_solutions.list ps b impl_solutions.top)
theorem impl_solutions.parts_take (T : Int → Int → Option Int) (a : Int) (ps : List Int) : ∀ m, impl_solutions.parts T a m = some ps → ps.length = m ∧ ∀ n, n ≤ m → impl_solutions.parts T a n = some (ps.take n)
  | 0, h => by
    obtain rfl := Option.some.inj h
    refine ⟨rfl, fun n hn => ?_⟩
    obtain rfl : n = 0 := by omega
    rfl
  | m + 1, h => by
    have h0 := h
    simp only [impl_solutions.parts] at h
    obtain ⟨l, hl, h⟩ := Option.bind_eq_some_iff.mp h
    obtain ⟨t, ht, h⟩ := Option.bind_eq_some_iff.mp h
    obtain ⟨u, hu, h⟩ := Option.bind_eq_some_iff.mp h
    obtain rfl := Option.some.inj h
    obtain ⟨q1, q2⟩ := impl_solutions.parts_take T a l m hl
    refine ⟨by simp [q1], fun n hn => ?_⟩
    by_cases e : n = m + 1
    · subst e
      rw [h0, List.take_of_length_le (by simp [q1])]
    · rw [q2 n (by omega), List.take_append_of_le_length (by omega)]
theorem impl_solutions.parts_at {T : Int → Int → Option Int} {a : Int} {ps : List Int} (h : impl_solutions.parts T a 16 = some ps) (n : Nat) (hn : n < 16) :
    ∃ t u, T (wrap64 ((2 : Int) ^ n)) (wrap64 ((2 : Int) ^ n)) = some t ∧ T a (wrap64 ((2 : Int) ^ n)) = some u ∧ ps.take (n + 1) = ps.take n ++ [Go.bits .xor .i64 t u] := by
  obtain ⟨q1, q2⟩ := impl_solutions.parts_take T a ps 16 h
  have h1 := q2 (n + 1) (by omega)
  simp only [impl_solutions.parts, q2 n (by omega), Option.bind_some] at h1
  obtain ⟨t, ht, h1⟩ := Option.bind_eq_some_iff.mp h1
  obtain ⟨u, hu, h1⟩ := Option.bind_eq_some_iff.mp h1
  exact ⟨t, u, ht, hu, (Option.some.inj h1).symm⟩
/-- The sixteen cells after n rounds. -/
def impl_solutions.cells (ps : List Int) (n : Nat) : Array Value := ((ps.take n).map (Value.int .i64) ++ List.replicate (16 - n) (Value.int .i64 0)).toArray
theorem impl_solutions.cells_at (ps : List Int) (hl : ps.length = 16) (n : Nat) (hn : n < 16) : (impl_solutions.cells ps n)[n]? = some (.int .i64 0) := by
  unfold impl_solutions.cells
  rw [List.getElem?_toArray, List.getElem?_append_right (by simp [hl]; omega)]
  simp [hl, Nat.min_eq_left (Nat.le_of_lt hn)]
  rw [show 16 - n = (15 - n) + 1 by omega]
  rfl
theorem impl_solutions.cells_set (ps : List Int) (hl : ps.length = 16) (n : Nat) (hn : n < 16) (v : Int) (h : ps.take (n + 1) = ps.take n ++ [v]) : (impl_solutions.cells ps n).setIfInBounds n (.int .i64 v) = impl_solutions.cells ps (n + 1) := by
  unfold impl_solutions.cells
  rw [h, List.setIfInBounds_toArray]
  congr 1
  have e : 16 - n = (16 - (n + 1)) + 1 := by omega
  rw [e, List.replicate_succ, List.set_append_right _ _ (by simp; omega)]
  simp [hl, Nat.min_eq_left (Nat.le_of_lt hn)]
theorem impl_solutions.val_one {ps : List Int} {b X z q : Int} {x m : Nat} (hX : (x : Int) = X) (hz : impl_solutions.val ps b x m = z) (hq : ps.getD m 0 = q) (h : Go.bits .and .i64 (X / 2 ^ m) 1 = 1) : Value.int .i64 (Go.bits .xor .i64 z q) = .int .i64 (impl_solutions.val ps b x (m + 1)) := by
  rw [impl_solutions.val, hX, if_pos h, hz, hq]
theorem impl_solutions.val_zero {ps : List Int} {b X z q : Int} {x m : Nat} (hX : (x : Int) = X) (hz : impl_solutions.val ps b x m = z) (hq : ps.getD m 0 = q) (h : ¬ Go.bits .and .i64 (X / 2 ^ m) 1 = 1) : Value.int .i64 z = .int .i64 (impl_solutions.val ps b x (m + 1)) := by
  rw [impl_solutions.val, hX, if_neg h, hz]
theorem impl_solutions.list_in {ps : List Int} {b z : Int} {x : Nat} (hz : impl_solutions.val ps b x 16 = z) (h : z = 0) : impl_solutions.list ps b (x + 1) = impl_solutions.list ps b x ++ [(x : Int)] := by
  rw [impl_solutions.list, hz, if_pos h]
theorem impl_solutions.list_out {ps : List Int} {b z : Int} {x : Nat} (hz : impl_solutions.val ps b x 16 = z) (h : ¬ z = 0) : impl_solutions.list ps b (x + 1) = impl_solutions.list ps b x := by
  rw [impl_solutions.list, hz, if_neg h]
theorem impl_solutions.list_len (ps : List Int) (b : Int) : ∀ x, (impl_solutions.list ps b x).length ≤ x
  | 0 => Nat.le_refl 0
  | x + 1 => by
    have ih := impl_solutions.list_len ps b x
    unfold impl_solutions.list
    split
    · rw [List.length_append]; exact Nat.succ_le_succ ih
    · exact Nat.le_succ_of_le ih
theorem impl_solutions.wx (x : Nat) (h : x < 65536) : Value.int .i64 (wrap64 ((x : Int) + 1)) = .int .i64 ((x + 1 : Nat) : Int) := by
  congr 1
  unfold wrap64
  omega
theorem impl_solutions.sixteen : ∀ l : List Int, l.length = 16 → ∃ p0 p1 p2 p3 p4 p5 p6 p7 p8 p9 p10 p11 p12 p13 p14 p15, l = [p0, p1, p2, p3, p4, p5, p6, p7, p8, p9, p10, p11, p12, p13, p14, p15]
  | [p0, p1, p2, p3, p4, p5, p6, p7, p8, p9, p10, p11, p12, p13, p14, p15], _ => ⟨_, _, _, _, _, _, _, _, _, _, _, _, _, _, _, _, rfl⟩
theorem impl_solutions.get16 (p0 p1 p2 p3 p4 p5 p6 p7 p8 p9 p10 p11 p12 p13 p14 p15 : Int) (m : Nat) (h : m < 16) : (#[.int .i64 p0, .int .i64 p1, .int .i64 p2, .int .i64 p3, .int .i64 p4, .int .i64 p5, .int .i64 p6, .int .i64 p7, .int .i64 p8, .int .i64 p9, .int .i64 p10, .int .i64 p11, .int .i64 p12, .int .i64 p13, .int .i64 p14, .int .i64 p15] : Array Value)[m]? = some (.int .i64 (([p0, p1, p2, p3, p4, p5, p6, p7, p8, p9, p10, p11, p12, p13, p14, p15] : List Int).getD m 0)) := by
  rcases (by omega : m = 0 ∨ m = 1 ∨ m = 2 ∨ m = 3 ∨ m = 4 ∨ m = 5 ∨ m = 6 ∨ m = 7 ∨ m = 8 ∨ m = 9 ∨ m = 10 ∨ m = 11 ∨ m = 12 ∨ m = 13 ∨ m = 14 ∨ m = 15) with rfl | rfl | rfl | rfl | rfl | rfl | rfl | rfl | rfl | rfl | rfl | rfl | rfl | rfl | rfl | rfl <;> rfl
set_option maxRecDepth 100000 in
theorem impl_solutions.index_run (p0 p1 p2 p3 p4 p5 p6 p7 p8 p9 p10 p11 p12 p13 p14 p15 : Int) (m : Nat) (h : m < 16) (W : World) : (Instr.index 46 (.agg #[.int .i64 p0, .int .i64 p1, .int .i64 p2, .int .i64 p3, .int .i64 p4, .int .i64 p5, .int .i64 p6, .int .i64 p7, .int .i64 p8, .int .i64 p9, .int .i64 p10, .int .i64 p11, .int .i64 p12, .int .i64 p13, .int .i64 p14, .int .i64 p15]) (.int .i64 (m : Int))).run Try.prog W = .ok (.int .i64 (([p0, p1, p2, p3, p4, p5, p6, p7, p8, p9, p10, p11, p12, p13, p14, p15] : List Int).getD m 0)) W := by
  have hu78 := Try.underlying46
  have hu3 := Try.underlying3
  rcases (by omega : m = 0 ∨ m = 1 ∨ m = 2 ∨ m = 3 ∨ m = 4 ∨ m = 5 ∨ m = 6 ∨ m = 7 ∨ m = 8 ∨ m = 9 ∨ m = 10 ∨ m = 11 ∨ m = 12 ∨ m = 13 ∨ m = 14 ∨ m = 15) with rfl | rfl | rfl | rfl | rfl | rfl | rfl | rfl | rfl | rfl | rfl | rfl | rfl | rfl | rfl | rfl <;> first | (go_simp; done) | (go_simp; rfl) | rfl
theorem impl_solutions.index_op (p0 p1 p2 p3 p4 p5 p6 p7 p8 p9 p10 p11 p12 p13 p14 p15 : Int) (m : Nat) (h : m < 16) (a_ : Act) (W_ : World) (e1 : a_.eval (.tmp 34) = .agg #[.int .i64 p0, .int .i64 p1, .int .i64 p2, .int .i64 p3, .int .i64 p4, .int .i64 p5, .int .i64 p6, .int .i64 p7, .int .i64 p8, .int .i64 p9, .int .i64 p10, .int .i64 p11, .int .i64 p12, .int .i64 p13, .int .i64 p14, .int .i64 p15]) (e2 : a_.eval (.tmp 35) = .int .i64 (m : Int)) :
    (execOp a_.eval { dst := some 38, op := Op.index 46 (Operand.tmp 34) (Operand.tmp 35), type := 3, pos := "l8_green.go:348", after := #[], guard := none }).run Try.prog W_ = .ok (.value (.int .i64 (([p0, p1, p2, p3, p4, p5, p6, p7, p8, p9, p10, p11, p12, p13, p14, p15] : List Int).getD m 0))) W_ := by
  have := impl_solutions.index_run p0 p1 p2 p3 p4 p5 p6 p7 p8 p9 p10 p11 p12 p13 p14 p15 m h W_
  rw [← e1, ← e2] at this
  simp only [execOp, Sem.run_bind, this]
  rfl
set_option maxHeartbeats 1600000 in
set_option maxRecDepth 100000 in
theorem impl_solutions.calls (a0 : Int) (a1 : Int) (r : List Int) (w : World) (h : impl_solutions.f a0 a1 = some r) :
    Calls Try.prog 25 #[.int .i64 a0, .int .i64 a1] w fun e w' => ∃ v0_ : Value, e = .returned (v0_) ∧ Kd.R (Kd.int .i64) 3 w' w.heap.size (fun _ => True) v0_ r ∧ Below w.heap.size w w' := by
  obtain ⟨ps, hp, h⟩ := Option.bind_eq_some_iff.mp h
  obtain rfl := Option.some.inj h
  have HP := Aside0.mk hp
  clear hp
  have hu78 := Try.underlying46
  have hu3 := Try.underlying3
  have HB := Aside0.mk (Below.refl w.heap.size w)
  go_enter Try.func25, Try.ntmps25
  have hps := (impl_solutions.parts_take _ a0 ps 16 HP.out).1
  go_wp2
  go_loopg [14] 16 (fun gg v14 wr => ∃ n : Nat, n ≤ 16 ∧ 16 - n ≤ gg ∧ v14 = .int .i64 n ∧ Aside0 (wr.heap[w.heap.size]? = some (.cells (impl_solutions.cells ps n) 46 (0, 0))) ∧ Aside0 (Below w.heap.size w wr))
  case atStart =>
    refine ⟨0, by decide, by decide, rfl, ⟨?_⟩, ⟨?_⟩⟩
    · first | exact heap_alloc_new w _ | simpa using heap_alloc_new w _
    · exact below_alloc HB.out _
  case round =>
    obtain ⟨n, hn, hg, rfl, BK, HB⟩ := hrel
    by_cases hlt : n < 16
    · obtain ⟨t, u, ht, hu, hpn⟩ := impl_solutions.parts_at HP.out n hlt
      have HT := Aside0.mk ht
      have HU := Aside0.mk hu
      have HN := Aside0.mk hpn
      clear ht hu hpn
      have c1 : decide ((n : Int) < 16) = true := decide_eq_true (by omega)
      have c2 : decide ((0 : Int) ≤ (n : Int)) = true := decide_eq_true (by omega)
      go_wp2_with (first | (go_at_call 27; (with_reducible refine (impl_times.calls 40 _ _ t _ HT.out).mono ?_); rintro e w5 ⟨rfl, hb⟩; have n0_ := Aside0.mk (below_step HB.out hb); have n1_ := Aside0.mk (blk_below (g := w.heap.size) (o := .cells (impl_solutions.cells ps n) 46 (0, 0)) BK.out hb); clear HB BK; have HB := n0_; have BK := n1_; clear n0_ n1_ hb) | (go_at_call 27; (with_reducible refine (impl_times.calls 40 _ _ u _ HU.out).mono ?_); rintro e w5 ⟨rfl, hb⟩; have n0_ := Aside0.mk (below_step HB.out hb); have n1_ := Aside0.mk (blk_below (g := w.heap.size) (o := .cells (impl_solutions.cells ps n) 46 (0, 0)) BK.out hb); clear HB BK; have HB := n0_; have BK := n1_; clear n0_ n1_ hb; have hcz := (blk_cell BK.out n).trans (impl_solutions.cells_at ps hps n hlt); have hfz := blk_frozen BK.out n))
      go_roundg (16 - (n + 1))
      case measure => omega
      case rel =>
        refine ⟨n + 1, by omega, by omega, by go_num, ⟨?_⟩, ⟨?_⟩⟩
        · (with_reducible repeat (first | refine blk_drewN ?_ _ | refine blk_drew ?_ | refine blk_alloc ?_ _)); refine blk_put (cs := impl_solutions.cells ps n) ?_ n _ (impl_solutions.cells_set ps hps n hlt _ HN.out); (with_reducible repeat (first | refine blk_drewN ?_ _ | refine blk_drew ?_ | refine blk_alloc ?_ _)); exact BK.out
        · repeat (first | (with_reducible first | exact HB.out | apply below_alloc | apply pw_below_drewN | apply below_drew1 | refine below_set ?_ (Nat.le_refl _)) | exact HB.out)
    · obtain rfl : n = 16 := by omega
      have c1 : decide (((16 : Nat) : Int) < 16) = false := by decide
      go_wp2_with (first | ((with_reducible refine gate_dst (N := 29) rfl ?_); refine Kd.R_lit (Kd.int .i64) _ 3 ?hg (N := 29) ?hd (xs := ([] : List Int)) (inner := []) (ok := fun k_ => k_ ≠ w.heap.size) (okp := fun k_ => k_ ≠ w.heap.size) ?hr ?hp (fun _ hk => hk) ?ho (Below.refl _ _) (Nat.le_refl _) (by simp) ?_; (case hd => rfl); (case hg => rfl); (case hr => first | (go_simp; done) | (go_simp; rfl)); (case hp => exact (Reps.none _ _)); (case ho => exact Nat.ne_of_gt (blk_lt BK.out)); intro v108 w3 ho4 hb hg_ hnew_; clear hg_ hnew_; have n0_ := Aside0.mk (Kd.R_lower ho4 (below_size (by repeat (first | (with_reducible first | exact HB.out | apply below_alloc | apply pw_below_drewN | apply below_drew1) | exact HB.out)))); have n1_ := Aside0.mk (below_step (by repeat (first | (with_reducible first | exact HB.out | apply below_alloc | apply pw_below_drewN | apply below_drew1) | exact HB.out)) hb); have n2_ := Aside0.mk (blk_below (g := w.heap.size) (o := .cells (impl_solutions.cells ps 16) 46 (0, 0)) (by (with_reducible repeat (first | refine blk_drewN ?_ _ | refine blk_drew ?_ | refine blk_alloc ?_ _)); exact BK.out) hb); clear HB BK; have HO := n0_; have HB := n1_; have BK := n2_; clear n0_ n1_ n2_; clear hb ho4))
      go_loopg [8, 30] impl_solutions.top (fun gg v8 v30 wr => ∃ x : Nat, x ≤ impl_solutions.top ∧ impl_solutions.top - x ≤ gg ∧ v30 = .int .i64 x ∧ Aside0 (wr.heap[w.heap.size]? = some (.cells (impl_solutions.cells ps 16) 46 (0, 0))) ∧ Aside0 (Kd.R (Kd.int .i64) 3 wr w.heap.size (fun k_ => k_ ≠ w.heap.size) v8 (impl_solutions.list ps a1 x)) ∧ Aside0 (Below w.heap.size w wr))
      case atStart => exact ⟨0, Nat.zero_le _, Nat.le_refl _, rfl, ⟨by (with_reducible repeat (first | refine blk_drewN ?_ _ | refine blk_drew ?_ | refine blk_alloc ?_ _)); exact BK.out⟩, ⟨by (with_reducible repeat (first | apply Kd.R_alloc | apply Kd.R_drewN | apply Kd.R_drew)); exact HO.out⟩, ⟨by repeat (first | (with_reducible first | exact HB.out | apply below_alloc | apply pw_below_drewN | apply below_drew1) | exact HB.out)⟩⟩
      case round =>
        obtain ⟨x, hx, hg2, rfl, BK, HO, HB⟩ := hrel
        by_cases hxl : x < impl_solutions.top
        · have d1 : decide ((x : Int) < 65536) = true := decide_eq_true (by have := impl_solutions.top_eq; omega)
          obtain ⟨p0, p1, p2, p3, p4, p5, p6, p7, p8, p9, p10, p11, p12, p13, p14, p15, hp16⟩ := impl_solutions.sixteen ps hps
          have hc0 : wr.cell? ⟨w.heap.size, 0, none⟩ = some (.int .i64 p0) := (blk_cell BK.out 0).trans (by rw [hp16]; rfl)
          have hc1 : wr.cell? ⟨w.heap.size, 1, none⟩ = some (.int .i64 p1) := (blk_cell BK.out 1).trans (by rw [hp16]; rfl)
          have hc2 : wr.cell? ⟨w.heap.size, 2, none⟩ = some (.int .i64 p2) := (blk_cell BK.out 2).trans (by rw [hp16]; rfl)
          have hc3 : wr.cell? ⟨w.heap.size, 3, none⟩ = some (.int .i64 p3) := (blk_cell BK.out 3).trans (by rw [hp16]; rfl)
          have hc4 : wr.cell? ⟨w.heap.size, 4, none⟩ = some (.int .i64 p4) := (blk_cell BK.out 4).trans (by rw [hp16]; rfl)
          have hc5 : wr.cell? ⟨w.heap.size, 5, none⟩ = some (.int .i64 p5) := (blk_cell BK.out 5).trans (by rw [hp16]; rfl)
          have hc6 : wr.cell? ⟨w.heap.size, 6, none⟩ = some (.int .i64 p6) := (blk_cell BK.out 6).trans (by rw [hp16]; rfl)
          have hc7 : wr.cell? ⟨w.heap.size, 7, none⟩ = some (.int .i64 p7) := (blk_cell BK.out 7).trans (by rw [hp16]; rfl)
          have hc8 : wr.cell? ⟨w.heap.size, 8, none⟩ = some (.int .i64 p8) := (blk_cell BK.out 8).trans (by rw [hp16]; rfl)
          have hc9 : wr.cell? ⟨w.heap.size, 9, none⟩ = some (.int .i64 p9) := (blk_cell BK.out 9).trans (by rw [hp16]; rfl)
          have hc10 : wr.cell? ⟨w.heap.size, 10, none⟩ = some (.int .i64 p10) := (blk_cell BK.out 10).trans (by rw [hp16]; rfl)
          have hc11 : wr.cell? ⟨w.heap.size, 11, none⟩ = some (.int .i64 p11) := (blk_cell BK.out 11).trans (by rw [hp16]; rfl)
          have hc12 : wr.cell? ⟨w.heap.size, 12, none⟩ = some (.int .i64 p12) := (blk_cell BK.out 12).trans (by rw [hp16]; rfl)
          have hc13 : wr.cell? ⟨w.heap.size, 13, none⟩ = some (.int .i64 p13) := (blk_cell BK.out 13).trans (by rw [hp16]; rfl)
          have hc14 : wr.cell? ⟨w.heap.size, 14, none⟩ = some (.int .i64 p14) := (blk_cell BK.out 14).trans (by rw [hp16]; rfl)
          have hc15 : wr.cell? ⟨w.heap.size, 15, none⟩ = some (.int .i64 p15) := (blk_cell BK.out 15).trans (by rw [hp16]; rfl)
          go_wp2
          clear hc0 hc1 hc2 hc3 hc4 hc5 hc6 hc7 hc8 hc9 hc10 hc11 hc12 hc13 hc14 hc15
          go_loopg [10, 35] 16 (fun gg v10 v35 w2 => ∃ m : Nat, m ≤ 16 ∧ 16 - m ≤ gg ∧ v35 = .int .i64 m ∧ v10 = .int .i64 (impl_solutions.val ps a1 x m) ∧ Aside0 (w2.heap[w.heap.size]? = some (.cells (impl_solutions.cells ps 16) 46 (0, 0))) ∧ Aside0 (Kd.R (Kd.int .i64) 3 w2 w.heap.size (fun k_ => k_ ≠ w.heap.size) u8 (impl_solutions.list ps a1 x)) ∧ Aside0 (Below w.heap.size w w2))
          case atStart => exact ⟨0, Nat.zero_le _, Nat.le_refl _, rfl, rfl, ⟨by (with_reducible repeat (first | refine blk_drewN ?_ _ | refine blk_drew ?_ | refine blk_alloc ?_ _)); exact BK.out⟩, ⟨by (with_reducible repeat (first | apply Kd.R_alloc | apply Kd.R_drewN | apply Kd.R_drew)); exact HO.out⟩, ⟨by repeat (first | (with_reducible first | exact HB.out | apply below_alloc | apply pw_below_drewN | apply below_drew1) | exact HB.out)⟩⟩
          case round =>
            clear BK HO HB
            obtain ⟨m, hm, hg3, rfl, rfl, BK, HO, HB⟩ := hrel
            by_cases hml : m < 16
            · have d2 : decide ((m : Int) < 16) = true := decide_eq_true (by omega)
              have d3 : decide ((0 : Int) ≤ (m : Int)) = true := decide_eq_true (by omega)
              have hget : (#[.int .i64 p0, .int .i64 p1, .int .i64 p2, .int .i64 p3, .int .i64 p4, .int .i64 p5, .int .i64 p6, .int .i64 p7, .int .i64 p8, .int .i64 p9, .int .i64 p10, .int .i64 p11, .int .i64 p12, .int .i64 p13, .int .i64 p14, .int .i64 p15] : Array Value)[m]? = some (.int .i64 (ps.getD m 0)) := by rw [hp16]; exact impl_solutions.get16 _ _ _ _ _ _ _ _ _ _ _ _ _ _ _ _ m hml
              generalize hz : impl_solutions.val ps a1 x m = z
              generalize hq : ps.getD m 0 = q
              have hix : ∀ W_ : World, (Instr.index 46 (.agg #[.int .i64 p0, .int .i64 p1, .int .i64 p2, .int .i64 p3, .int .i64 p4, .int .i64 p5, .int .i64 p6, .int .i64 p7, .int .i64 p8, .int .i64 p9, .int .i64 p10, .int .i64 p11, .int .i64 p12, .int .i64 p13, .int .i64 p14, .int .i64 p15]) (.int .i64 (m : Int))).run Try.prog W_ = .ok (.int .i64 q) W_ := by
                intro W_
                rw [← hq, hp16]
                exact impl_solutions.index_run _ _ _ _ _ _ _ _ _ _ _ _ _ _ _ _ m hml W_
              clear hget
              go_upto_region 16 with (simp only [hix])
              have HXL := Aside0.mk hxl
              have HX := Aside0.mk hx
              have HG2 := Aside0.mk hg2
              have HZ := Aside0.mk hz
              have HQ := Aside0.mk hq
              have HG3 := Aside0.mk hg3
              clear hix d1 hxl hx hg2 hz hq hp16 hps hg3
              generalize hX : (x : Int) = X
              have HXX := Aside0.mk hX
              clear hX
              by_cases hbit : bits .and .i64 (X / 2 ^ m) 1 = 1
              · have hb1 : (bits .and .i64 (X / 2 ^ m) 1 == 1) = true := beq_iff_eq.mpr hbit
                have HBIT := Aside0.mk hbit
                clear hbit
                go_wp2
                have hX := HXX.out
                subst hX
                go_roundg (16 - (m + 1))
                case measure => have := HG3.out; omega
                case rel => exact ⟨m + 1, by omega, by have := HG3.out; omega, by go_num, impl_solutions.val_one HXX.out HZ.out HQ.out HBIT.out, ⟨by (with_reducible repeat (first | refine blk_drewN ?_ _ | refine blk_drew ?_ | refine blk_alloc ?_ _)); exact BK.out⟩, ⟨by (with_reducible repeat (first | apply Kd.R_alloc | apply Kd.R_drewN | apply Kd.R_drew)); exact HO.out⟩, ⟨by repeat (first | (with_reducible first | exact HB.out | apply below_alloc | apply pw_below_drewN | apply below_drew1) | exact HB.out)⟩⟩
              · have hb1 : (bits .and .i64 (X / 2 ^ m) 1 == 1) = false := beq_eq_false_iff_ne.mpr hbit
                have HBIT := Aside0.mk hbit
                clear hbit
                go_wp2
                have hX := HXX.out
                subst hX
                go_roundg (16 - (m + 1))
                case measure => have := HG3.out; omega
                case rel => exact ⟨m + 1, by omega, by have := HG3.out; omega, by go_num, impl_solutions.val_zero HXX.out HZ.out HQ.out HBIT.out, ⟨by (with_reducible repeat (first | refine blk_drewN ?_ _ | refine blk_drew ?_ | refine blk_alloc ?_ _)); exact BK.out⟩, ⟨by (with_reducible repeat (first | apply Kd.R_alloc | apply Kd.R_drewN | apply Kd.R_drew)); exact HO.out⟩, ⟨by repeat (first | (with_reducible first | exact HB.out | apply below_alloc | apply pw_below_drewN | apply below_drew1) | exact HB.out)⟩⟩
            · obtain rfl : m = 16 := by omega
              have d2 : decide (((16 : Nat) : Int) < 16) = false := by decide
              have HXL := Aside0.mk hxl
              have HX := Aside0.mk hx
              have HG2 := Aside0.mk hg2
              clear d1 hxl hx hg2 hp16 hps hg3
              generalize hX : (x : Int) = X
              have HXX := Aside0.mk hX
              clear hX
              generalize hz : impl_solutions.val ps a1 x 16 = z
              have HZ := Aside0.mk hz
              clear hz
              by_cases hv : z = 0
              · have hv1 : (z == 0) = true := beq_iff_eq.mpr hv
                have HV := Aside0.mk hv
                clear hv
                go_wp2_with (first | ((with_reducible refine gate_builtin (b := .append) (xs := #[.tmp 50, .tmp 52]) rfl ?_); at_builtin; refine Kd.R_append (Kd.int .i64) (w0 := w) w.heap.size rfl (.tmp 50) (.tmp 52) 22 3 (.int .i64 0) 8 rfl Try.underlying22 info3 rfl (by decide) (by omega) u8 (impl_solutions.list ps a1 x) X [.int .i64 X] (fun k_ => k_ ≠ w.heap.size) (fun _ => False) rfl rfl ?aP (fun _ hk => hk.elim) ?aF ?aO ?aB ?aS ?aL ?_; (case aP => exact rfl); (case aB => exact (by repeat (first | (with_reducible first | exact HB.out | apply below_alloc | apply pw_below_drewN | apply below_drew1) | exact HB.out))); (case aF => exact (fun k_ hk => Nat.ne_of_gt (Nat.lt_of_lt_of_le (blk_lt (by (with_reducible repeat (first | refine blk_drewN ?_ _ | refine blk_drew ?_ | refine blk_alloc ?_ _)); exact BK.out)) hk))); (case aO => exact (by (with_reducible repeat (first | apply Kd.R_alloc | apply Kd.R_drewN | apply Kd.R_drew)); exact HO.out)); (case aS => exact (below_size (by repeat (first | (with_reducible first | exact HB.out | apply below_alloc | apply pw_below_drewN | apply below_drew1) | exact HB.out)))); (case aL => have := impl_solutions.list_len ps a1 x; have := HXL.out; have := impl_solutions.top_eq; omega); intro v125 w16 ho hb hg hat; have n0_ := Aside0.mk (blk_grown (g := w.heap.size) (o := .cells (impl_solutions.cells ps 16) 46 (0, 0)) (by (with_reducible repeat (first | refine blk_drewN ?_ _ | refine blk_drew ?_ | refine blk_alloc ?_ _)); exact BK.out) hg (fun e_ => HO.out.1 _ e_.symm rfl)); have n1_ := Aside0.mk (hb); have n2_ := Aside0.mk (ho); clear BK; clear HB; clear HO; have BK := n0_; have HB := n1_; have HO := n2_; clear n0_ n1_ n2_; clear ho hb hg hat))
                have hX := HXX.out
                subst hX
                go_roundg (impl_solutions.top - (x + 1))
                case measure => have := HXL.out; have := HG2.out; omega
                case rel => exact ⟨x + 1, HXL.out, Nat.le_refl _, impl_solutions.wx x (by have := HXL.out; have := impl_solutions.top_eq; omega), ⟨by (with_reducible repeat (first | refine blk_drewN ?_ _ | refine blk_drew ?_ | refine blk_alloc ?_ _)); exact BK.out⟩, ⟨by rw [impl_solutions.list_in HZ.out HV.out]; (with_reducible repeat (first | apply Kd.R_alloc | apply Kd.R_drewN | apply Kd.R_drew)); exact HO.out⟩, ⟨by repeat (first | (with_reducible first | exact HB.out | apply below_alloc | apply pw_below_drewN | apply below_drew1) | exact HB.out)⟩⟩
              · have hv1 : (z == 0) = false := beq_eq_false_iff_ne.mpr hv
                have HV := Aside0.mk hv
                clear hv
                go_wp2
                have hX := HXX.out
                subst hX
                go_roundg (impl_solutions.top - (x + 1))
                case measure => have := HXL.out; have := HG2.out; omega
                case rel => exact ⟨x + 1, HXL.out, Nat.le_refl _, impl_solutions.wx x (by have := HXL.out; have := impl_solutions.top_eq; omega), ⟨by (with_reducible repeat (first | refine blk_drewN ?_ _ | refine blk_drew ?_ | refine blk_alloc ?_ _)); exact BK.out⟩, ⟨by rw [impl_solutions.list_out HZ.out HV.out]; (with_reducible repeat (first | apply Kd.R_alloc | apply Kd.R_drewN | apply Kd.R_drew)); exact HO.out⟩, ⟨by repeat (first | (with_reducible first | exact HB.out | apply below_alloc | apply pw_below_drewN | apply below_drew1) | exact HB.out)⟩⟩
        · obtain rfl : x = impl_solutions.top := by omega
          have d1 : decide (((impl_solutions.top : Nat) : Int) < 65536) = false := decide_eq_false (by have := impl_solutions.top_eq; omega)
          generalize hX : ((impl_solutions.top : Nat) : Int) = X at d1 ⊢
          go_wp2
          go_ret
          exact ⟨_, rfl, by (with_reducible repeat (first | apply Kd.R_alloc | apply Kd.R_drewN | apply Kd.R_drew)); exact Kd.R_mono HO.out (fun _ _ => trivial), by repeat (first | (with_reducible first | exact HB.out | apply below_alloc | apply pw_below_drewN | apply below_drew1) | exact HB.out)⟩

/-! ### impl_NimSolve: function 8 -/
def impl_NimSolve.f (a0 : Int) (a1 : Int) : Option (List Int × Bool) := (impl_isNimber.f a0).bind fun t194 => (if t194 = true then ((impl_isNimber.f a1).bind fun t195 => (if t195 = true then ((impl_solutions.f a0 a1).bind fun t196 => (some (t196, true))) else (some (([] : List Int), false)))) else (some (([] : List Int), false)))
set_option maxHeartbeats 8000000 in
set_option maxRecDepth 100000 in
theorem impl_NimSolve.calls (a0 : Int) (a1 : Int) (r1 : List Int) (r2 : Bool) (w : World) (h : impl_NimSolve.f a0 a1 = some (r1, r2)) :
    Calls Try.prog 8 #[.int .i64 a0, .int .i64 a1] w fun e w' => ∃ v0_ : Value, e = .returned (.tuple #[v0_, .bool r2]) ∧ Kd.R (Kd.int .i64) 3 w' w.heap.size (fun _ => True) v0_ r1 ∧ Below w.heap.size w w' := by
  have HB := Aside0.mk (Below.refl w.heap.size w)
  have H : ((impl_isNimber.f a0).bind fun t194 => (if t194 = true then ((impl_isNimber.f a1).bind fun t195 => (if t195 = true then ((impl_solutions.f a0 a1).bind fun t196 => (some (t196, true))) else (some (([] : List Int), false)))) else (some (([] : List Int), false)))) = some (r1, r2) := h
  clear h
  replace H := Option.bind_eq_some_iff.mp H
  obtain ⟨t194, A30, H⟩ := H
  replace H : (if t194 = true then ((impl_isNimber.f a1).bind fun t195 => (if t195 = true then ((impl_solutions.f a0 a1).bind fun t196 => (some (t196, true))) else (some (([] : List Int), false)))) else (some (([] : List Int), false))) = some (r1, r2) := H
  have A3 := Aside0.mk A30
  clear A30
  by_cases c4 : t194 = true
  · subst c4
    have H1 : ((impl_isNimber.f a1).bind fun t195 => (if t195 = true then ((impl_solutions.f a0 a1).bind fun t196 => (some (t196, true))) else (some (([] : List Int), false)))) = some (r1, r2) := by rw [if_pos rfl] at H; exact H
    clear H
    have H := H1
    clear H1
    replace H := Option.bind_eq_some_iff.mp H
    obtain ⟨t195, A50, H⟩ := H
    replace H : (if t195 = true then ((impl_solutions.f a0 a1).bind fun t196 => (some (t196, true))) else (some (([] : List Int), false))) = some (r1, r2) := H
    have A5 := Aside0.mk A50
    clear A50
    by_cases c6 : t195 = true
    · subst c6
      have H1 : ((impl_solutions.f a0 a1).bind fun t196 => (some (t196, true))) = some (r1, r2) := by rw [if_pos rfl] at H; exact H
      clear H
      have H := H1
      clear H1
      replace H := Option.bind_eq_some_iff.mp H
      obtain ⟨t196, A70, H⟩ := H
      replace H : (some (t196, true)) = some (r1, r2) := H
      have A7 := Aside0.mk A70
      clear A70
      as_aux_lemma =>
        simp only [Option.some.injEq, Prod.mk.injEq] at H
        obtain ⟨rfl, rfl⟩ := H
        go_enter Try.func8, Try.ntmps8
        go_wp2_with (first | ((with_reducible refine gate_callee (f := 24) rfl ?_); refine goesL_ (some 7) rfl rfl Try.func24 (by kernel_rfl) rfl #[.int .i64 a0] rfl (by (try simp only [List.map_toArray, List.map_cons, List.map_nil]); first | done | rfl | (simp only [List.length_drop, List.length_take]; rfl)) ?_; (with_reducible refine (impl_isNimber.calls a0 true _ A3.out).mono ?_); rintro e w' ⟨rfl, ⟨nd, rfl⟩⟩; refine ⟨_, rfl, ?_⟩) | (go_at_call 24; (with_reducible refine (impl_isNimber.calls a1 true _ A5.out).mono ?_); rintro e w' ⟨rfl, ⟨nd, rfl⟩⟩) | ((with_reducible refine gate_callee (f := 25) rfl ?_); refine goesL_ (some 16) rfl rfl Try.func25 (by kernel_rfl) rfl #[.int .i64 a0, .int .i64 a1] rfl (by (try simp only [List.map_toArray, List.map_cons, List.map_nil]); first | done | rfl | (simp only [List.length_drop, List.length_take]; rfl)) ?_; (with_reducible refine (impl_solutions.calls a0 a1 t196 _ A7.out).mono ?_); rintro e w8 ⟨v197, rfl, ho0, hb⟩; refine ⟨_, rfl, ?_⟩; have n0_ := Aside0.mk (Kd.R_lower ho0 (below_size (by repeat (first | (with_reducible first | exact HB.out | apply below_alloc | apply pw_below_drewN | apply below_drew1) | exact HB.out)))); have n1_ := Aside0.mk (below_step (by repeat (first | (with_reducible first | exact HB.out | apply below_alloc | apply pw_below_drewN | apply below_drew1) | exact HB.out)) hb); clear HB; have HO198 := n0_; have HB := n1_; clear n0_ n1_; (try clear hb); (try clear hb2); (try clear hk); (try clear hi); (try clear ho0)))
        go_ret2
        exact ⟨_, by first | rfl | (simp [errW_none, errW_some] <;> rfl) | (simp [*, errW_none, errW_some] <;> rfl), by (with_reducible repeat (first | apply Kd.R_alloc | apply Kd.R_drewN | apply Kd.R_drew)); exact HO198.out, by repeat (first | (with_reducible first | exact HB.out | apply below_alloc | apply pw_below_drewN | apply below_drew1) | exact HB.out)⟩
    · replace c6 := Bool.eq_false_iff.mpr c6
      subst c6
      have H1 : (some (([] : List Int), false)) = some (r1, r2) := by rw [if_neg (show ¬ (false = true) by decide)] at H; exact H
      clear H
      have H := H1
      clear H1
      as_aux_lemma =>
        simp only [Option.some.injEq, Prod.mk.injEq] at H
        obtain ⟨rfl, rfl⟩ := H
        go_enter Try.func8, Try.ntmps8
        go_wp2_with (first | ((with_reducible refine gate_callee (f := 24) rfl ?_); refine goesL_ (some 7) rfl rfl Try.func24 (by kernel_rfl) rfl #[.int .i64 a0] rfl (by (try simp only [List.map_toArray, List.map_cons, List.map_nil]); first | done | rfl | (simp only [List.length_drop, List.length_take]; rfl)) ?_; (with_reducible refine (impl_isNimber.calls a0 true _ A3.out).mono ?_); rintro e w' ⟨rfl, ⟨nd, rfl⟩⟩; refine ⟨_, rfl, ?_⟩) | (go_at_call 24; (with_reducible refine (impl_isNimber.calls a1 false _ A5.out).mono ?_); rintro e w' ⟨rfl, ⟨nd, rfl⟩⟩))
        go_ret2
        exact ⟨_, by first | rfl | (simp [errW_none, errW_some] <;> rfl) | (simp [*, errW_none, errW_some] <;> rfl), by first | exact Kd.R_nil _ _ _ _ _ | exact Kd.N_nil _ _ _ _ _ | exact Kd.V_nil _ _ _ _ _ | exact Kd.Q_nil _ _ _ _ _ | exact Kd.S_nil _ _ _ _ _, by repeat (first | (with_reducible first | exact HB.out | apply below_alloc | apply pw_below_drewN | apply below_drew1) | exact HB.out)⟩
  · replace c4 := Bool.eq_false_iff.mpr c4
    subst c4
    have H1 : (some (([] : List Int), false)) = some (r1, r2) := by rw [if_neg (show ¬ (false = true) by decide)] at H; exact H
    clear H
    have H := H1
    clear H1
    as_aux_lemma =>
      simp only [Option.some.injEq, Prod.mk.injEq] at H
      obtain ⟨rfl, rfl⟩ := H
      go_enter Try.func8, Try.ntmps8
      go_wp2_with (first | ((with_reducible refine gate_callee (f := 24) rfl ?_); refine goesL_ (some 7) rfl rfl Try.func24 (by kernel_rfl) rfl #[.int .i64 a0] rfl (by (try simp only [List.map_toArray, List.map_cons, List.map_nil]); first | done | rfl | (simp only [List.length_drop, List.length_take]; rfl)) ?_; (with_reducible refine (impl_isNimber.calls a0 false _ A3.out).mono ?_); rintro e w' ⟨rfl, ⟨nd, rfl⟩⟩; refine ⟨_, rfl, ?_⟩))
      go_ret2
      exact ⟨_, by first | rfl | (simp [errW_none, errW_some] <;> rfl) | (simp [*, errW_none, errW_some] <;> rfl), by first | exact Kd.R_nil _ _ _ _ _ | exact Kd.N_nil _ _ _ _ _ | exact Kd.V_nil _ _ _ _ _ | exact Kd.Q_nil _ _ _ _ _ | exact Kd.S_nil _ _ _ _ _, by repeat (first | (with_reducible first | exact HB.out | apply below_alloc | apply pw_below_drewN | apply below_drew1) | exact HB.out)⟩

/-! ### laws_big: function 12 -/
def laws_big.f (l0 : List Int) (l1 : List Int) : Option (Bool) := if (l0.length : Int) > 1048576 then (some true) else (some (decide ((l1.length : Int) > (wrap64 (1048576 - (l0.length : Int))))))
set_option maxHeartbeats 8000000 in
set_option maxRecDepth 100000 in
theorem laws_big.calls (A0 : Option Addr) (c0 : Nat) (l0 : List Int) (A1 : Option Addr) (c1 : Nat) (l1 : List Int) (r : Bool) (w : World) (hr0 : Kd.C (Kd.int .u8) w A0 l0.length l0) (hc0 : l0.length ≤ c0) (hr1 : Kd.C (Kd.int .u8) w A1 l1.length l1) (hc1 : l1.length ≤ c1) (h : laws_big.f l0 l1 = some r) :
    Calls Try.prog 12 #[.slice A0 l0.length c0, .slice A1 l1.length c1] w fun e w' => e = .returned (.bool r) ∧ Drawn0 w w' := by
  have HR0 := Aside0.mk hr0
  have HC0 := Aside0.mk hc0
  clear hr0 hc0
  have HR1 := Aside0.mk hr1
  have HC1 := Aside0.mk hc1
  clear hr1 hc1
  have H : (if (l0.length : Int) > 1048576 then (some true) else (some (decide ((l1.length : Int) > (wrap64 (1048576 - (l0.length : Int))))))) = some r := h
  clear h
  by_cases c3 : (l0.length : Int) > 1048576
  · rw [if_pos c3] at H
    have c3b0 : decide (1048576 < (l0.length : Int)) = true := decide_eq_true c3
    have c3b1 : decide (1048576 < l0.length) = true := decide_eq_true (by omega)
    clear c3
    as_aux_lemma =>
      obtain rfl := Option.some.inj H
      go_enter Try.func12, Try.ntmps12
      go_wp2
      go_ret
      exact ⟨by first | rfl | (simp; done) | (simp [*]; done), by repeat (first | exact Drawn0.refl _ | apply Drawn0.step)⟩
  · rw [if_neg c3] at H
    have c3b0 : decide (1048576 < (l0.length : Int)) = false := decide_eq_false c3
    have c3b1 : decide (1048576 < l0.length) = false := decide_eq_false (by omega)
    clear c3
    as_aux_lemma =>
      obtain rfl := Option.some.inj H
      go_enter Try.func12, Try.ntmps12
      go_wp2
      go_ret
      exact ⟨by first | rfl | (simp; done) | (simp [*]; done), by repeat (first | exact Drawn0.refl _ | apply Drawn0.step)⟩

end Go.Proofs.Ytoeddjbhippdlaa.QFnNimRoots
