/- The Go functions that the law FnNimInverses reaches, as Lean functions, and what their calls do. Written by a program of this session. -/
import Derived.Test.YtkbbipnocefmiaaQFnNimInversesx0
import Derived.Test.YtkbbipnocefmiaaQFnNimInversesx1
import Derived.Test.YtkbbipnocefmiaaQFnNimInversesx2
import Derived.Test.YtkbbipnocefmiaaQFnNimInversesx4
namespace Go.Proofs.Ytkbbipnocefmiaa.QFnNimInverses
open Go.RowKit Go.Proofs.YtkbbipnocefmiaaW.PrintWords Go.Proofs.YtkbbipnocefmiaaW.PrintLast Go.Proofs.YtkbbipnocefmiaaW.PrintMore
attribute [local go_sem] max2_int min2_int max_two min_two max_three min_three max_four min_four   -- for this text's walks alone
set_option linter.unusedVariables false
set_option linter.unusedSimpArgs false

/-! ### laws_FnNimInverses: function 4 -/
mutual
def laws_FnNimInverses.j0 : Nat → Int → Int → Bool → Bool → Option (Bool)
  | 0, _, _, _, _ => none
  | k + 1, x5, x6, x9, x48 => if x48 = true then (some false) else (if x9 = true then ((impl_NimInverse.f k x5).bind fun bt173 => ((impl_NimProduct.f k x5 bt173.1).bind fun bt175 => ((impl_NimFieldOf.f k x5).bind fun bt177 => ((impl_NimFieldOf.f k bt173.1).bind fun bt179 => ((impl_NimPower.f k x5 x6).bind fun bt181 => (if bt173.2 = true then (if bt175.2 = true then (if bt177.2 = true then (if bt179.2 = true then (if bt181.2 = true then (if bt175.1 = 1 then (if bt179.1 = bt177.1 then (if bt181.1 = 1 then (if x6 = 0 then (none) else (laws_FnNimInverses.j1 k x5 x6 bt173.1 ((Int.tmod (wrap64 (bt177.1 - 1)) x6) != 0))) else (laws_FnNimInverses.j1 k x5 x6 bt173.1 true)) else (laws_FnNimInverses.j1 k x5 x6 bt173.1 true)) else (laws_FnNimInverses.j1 k x5 x6 bt173.1 true)) else (laws_FnNimInverses.j1 k x5 x6 bt173.1 true)) else (laws_FnNimInverses.j1 k x5 x6 bt173.1 true)) else (laws_FnNimInverses.j1 k x5 x6 bt173.1 true)) else (laws_FnNimInverses.j1 k x5 x6 bt173.1 true)) else (laws_FnNimInverses.j1 k x5 x6 bt173.1 true))))))) else (some true))
def laws_FnNimInverses.j1 : Nat → Int → Int → Int → Bool → Option (Bool)
  | 0, _, _, _, _ => none
  | k + 1, x5, x6, x10, x115 => if x115 = true then (some false) else ((some (([3, 5, 17, 257] : List Int) : List Int)).bind fun y183 => (laws_FnNimInverses.l0 k x5 x6 x10 y183 (y183.length : Int) 0))
def laws_FnNimInverses.l0 : Nat → Int → Int → Int → List Int → Int → Int → Option (Bool)
  | 0, _, _, _, _, _, _ => none
  | k + 1, x5, x6, x10, x116, x117, x118 => if x118 < x117 then (if 0 ≤ x118 then (if x118 < (x116.length : Int) then (if (rd x116 x118) = 0 then (none) else ((impl_NimPower.f k x5 (wrap64 (Int.tdiv x6 (rd x116 x118)))).bind fun bt187 => (if bt187.2 = true then (if (Int.tmod x6 (rd x116 x118)) = 0 then (if bt187.1 = 1 then (some false) else (laws_FnNimInverses.l0 k x5 x6 x10 x116 x117 (wrap64 (x118 + 1)))) else (laws_FnNimInverses.l0 k x5 x6 x10 x116 x117 (wrap64 (x118 + 1)))) else (some false)))) else (none)) else (none)) else ((impl_NimPower.f k x5 (wrap64 (x6 - 1))).bind fun bt189 => (if bt189.2 = true then (some (bt189.1 == x10)) else (some false)))
end
def laws_FnNimInverses.f (k : Nat) (l0 : List Int) (l1 : List Int) : Option (Bool) := (laws_big.f l0 l1).bind fun t167 => (if t167 = true then (some true) else ((spec_DrawNimOrder.f l0).bind fun t168 => ((impl_NimOrder.f k t168).bind fun bt169 => ((spec_NimOrder.f k t168).bind fun bt171 => (if (bt169.2 != bt171.2) = true then (laws_FnNimInverses.j0 k t168 bt169.1 bt171.2 true) else (laws_FnNimInverses.j0 k t168 bt169.1 bt171.2 (bt169.1 != bt171.1)))))))
theorem laws_FnNimInverses.mono_l : ∀ k, (∀ y0 y1 y2 y3, LeO (laws_FnNimInverses.j0 k y0 y1 y2 y3) (laws_FnNimInverses.j0 (k + 1) y0 y1 y2 y3)) ∧ (∀ y0 y1 y2 y3, LeO (laws_FnNimInverses.j1 k y0 y1 y2 y3) (laws_FnNimInverses.j1 (k + 1) y0 y1 y2 y3)) ∧ (∀ y0 y1 y2 y3 y4 y5, LeO (laws_FnNimInverses.l0 k y0 y1 y2 y3 y4 y5) (laws_FnNimInverses.l0 (k + 1) y0 y1 y2 y3 y4 y5))
  | 0 => ⟨fun _ _ _ _ r h => by simp [laws_FnNimInverses.j0] at h, fun _ _ _ _ r h => by simp [laws_FnNimInverses.j1] at h, fun _ _ _ _ _ _ r h => by simp [laws_FnNimInverses.l0] at h⟩
  | k + 1 => by
    obtain ⟨ih0, ih1, ih2⟩ := laws_FnNimInverses.mono_l k
    refine ⟨?_, ?_, ?_⟩
    · intro y0 y1 y2 y3
      unfold laws_FnNimInverses.j0
      repeat' first
      | (with_reducible exact ih0 _ _ _ _)
      | (with_reducible exact ih1 _ _ _ _)
      | (with_reducible exact ih2 _ _ _ _ _ _)
      | (with_reducible exact impl_NimFieldOf.mono _ _)
      | (with_reducible exact impl_NimInverse.mono _ _)
      | (with_reducible exact impl_NimOrder.mono _ _)
      | (with_reducible exact impl_NimPower.mono _ _ _)
      | (with_reducible exact impl_NimProduct.mono _ _ _)
      | (with_reducible exact spec_NimOrder.mono _ _)
      | (with_reducible exact LeO.refl _)
      | (with_reducible exact LeO.none _)
      | (with_reducible refine LeO.ite ?_ ?_)
      | (with_reducible refine LeO.bind ?_ (fun _ => ?_))
      | exact ih0 _ _ _ _
      | exact ih1 _ _ _ _
      | exact ih2 _ _ _ _ _ _
      | exact impl_NimFieldOf.mono _ _
      | exact impl_NimInverse.mono _ _
      | exact impl_NimOrder.mono _ _
      | exact impl_NimPower.mono _ _ _
      | exact impl_NimProduct.mono _ _ _
      | exact spec_NimOrder.mono _ _
      | exact LeO.none _
      | refine LeO.ite ?_ ?_
      | refine LeO.bind ?_ (fun _ => ?_)
    · intro y0 y1 y2 y3
      unfold laws_FnNimInverses.j1
      repeat' first
      | (with_reducible exact ih0 _ _ _ _)
      | (with_reducible exact ih1 _ _ _ _)
      | (with_reducible exact ih2 _ _ _ _ _ _)
      | (with_reducible exact impl_NimFieldOf.mono _ _)
      | (with_reducible exact impl_NimInverse.mono _ _)
      | (with_reducible exact impl_NimOrder.mono _ _)
      | (with_reducible exact impl_NimPower.mono _ _ _)
      | (with_reducible exact impl_NimProduct.mono _ _ _)
      | (with_reducible exact spec_NimOrder.mono _ _)
      | (with_reducible exact LeO.refl _)
      | (with_reducible exact LeO.none _)
      | (with_reducible refine LeO.ite ?_ ?_)
      | (with_reducible refine LeO.bind ?_ (fun _ => ?_))
      | exact ih0 _ _ _ _
      | exact ih1 _ _ _ _
      | exact ih2 _ _ _ _ _ _
      | exact impl_NimFieldOf.mono _ _
      | exact impl_NimInverse.mono _ _
      | exact impl_NimOrder.mono _ _
      | exact impl_NimPower.mono _ _ _
      | exact impl_NimProduct.mono _ _ _
      | exact spec_NimOrder.mono _ _
      | exact LeO.none _
      | refine LeO.ite ?_ ?_
      | refine LeO.bind ?_ (fun _ => ?_)
    · intro y0 y1 y2 y3 y4 y5
      unfold laws_FnNimInverses.l0
      repeat' first
      | (with_reducible exact ih0 _ _ _ _)
      | (with_reducible exact ih1 _ _ _ _)
      | (with_reducible exact ih2 _ _ _ _ _ _)
      | (with_reducible exact impl_NimFieldOf.mono _ _)
      | (with_reducible exact impl_NimInverse.mono _ _)
      | (with_reducible exact impl_NimOrder.mono _ _)
      | (with_reducible exact impl_NimPower.mono _ _ _)
      | (with_reducible exact impl_NimProduct.mono _ _ _)
      | (with_reducible exact spec_NimOrder.mono _ _)
      | (with_reducible exact LeO.refl _)
      | (with_reducible exact LeO.none _)
      | (with_reducible refine LeO.ite ?_ ?_)
      | (with_reducible refine LeO.bind ?_ (fun _ => ?_))
      | exact ih0 _ _ _ _
      | exact ih1 _ _ _ _
      | exact ih2 _ _ _ _ _ _
      | exact impl_NimFieldOf.mono _ _
      | exact impl_NimInverse.mono _ _
      | exact impl_NimOrder.mono _ _
      | exact impl_NimPower.mono _ _ _
      | exact impl_NimProduct.mono _ _ _
      | exact spec_NimOrder.mono _ _
      | exact LeO.none _
      | refine LeO.ite ?_ ?_
      | refine LeO.bind ?_ (fun _ => ?_)
theorem laws_FnNimInverses.mono : ∀ a0 a1 k, LeO (laws_FnNimInverses.f k a0 a1) (laws_FnNimInverses.f (k + 1) a0 a1) := by
  intro a0 a1 k
  obtain ⟨ih0, ih1, ih2⟩ := laws_FnNimInverses.mono_l k
  unfold laws_FnNimInverses.f
  repeat' first
      | (with_reducible exact ih0 _ _ _ _)
      | (with_reducible exact ih1 _ _ _ _)
      | (with_reducible exact ih2 _ _ _ _ _ _)
      | (with_reducible exact impl_NimFieldOf.mono _ _)
      | (with_reducible exact impl_NimInverse.mono _ _)
      | (with_reducible exact impl_NimOrder.mono _ _)
      | (with_reducible exact impl_NimPower.mono _ _ _)
      | (with_reducible exact impl_NimProduct.mono _ _ _)
      | (with_reducible exact spec_NimOrder.mono _ _)
      | (with_reducible exact LeO.refl _)
      | (with_reducible exact LeO.none _)
      | (with_reducible refine LeO.ite ?_ ?_)
      | (with_reducible refine LeO.bind ?_ (fun _ => ?_))
      | exact ih0 _ _ _ _
      | exact ih1 _ _ _ _
      | exact ih2 _ _ _ _ _ _
      | exact impl_NimFieldOf.mono _ _
      | exact impl_NimInverse.mono _ _
      | exact impl_NimOrder.mono _ _
      | exact impl_NimPower.mono _ _ _
      | exact impl_NimProduct.mono _ _ _
      | exact spec_NimOrder.mono _ _
      | exact LeO.none _
      | refine LeO.ite ?_ ?_
      | refine LeO.bind ?_ (fun _ => ?_)
set_option maxHeartbeats 8000000 in
set_option maxRecDepth 100000 in
theorem laws_FnNimInverses.calls (k : Nat) (A0 : Option Addr) (c0 : Nat) (l0 : List Int) (A1 : Option Addr) (c1 : Nat) (l1 : List Int) (r : Bool) (w : World) (hr0 : Kd.C (Kd.int .u8) w A0 l0.length l0) (hc0 : l0.length ≤ c0) (hr1 : Kd.C (Kd.int .u8) w A1 l1.length l1) (hc1 : l1.length ≤ c1) (h : laws_FnNimInverses.f k l0 l1 = some r) :
    Calls Try.prog 4 #[.slice A0 l0.length c0, .slice A1 l1.length c1] w fun e w' => e = .returned (.bool r) ∧ Below w.heap.size w w' := by
  have HR0 := Aside0.mk hr0
  have HC0 := Aside0.mk hc0
  clear hr0 hc0
  have HR1 := Aside0.mk hr1
  have HC1 := Aside0.mk hc1
  clear hr1 hc1
  have HB := Aside0.mk (Below.refl w.heap.size w)
  have H : ((laws_big.f l0 l1).bind fun t167 => (if t167 = true then (some true) else ((spec_DrawNimOrder.f l0).bind fun t168 => ((impl_NimOrder.f k t168).bind fun bt169 => ((spec_NimOrder.f k t168).bind fun bt171 => (if (bt169.2 != bt171.2) = true then (laws_FnNimInverses.j0 k t168 bt169.1 bt171.2 true) else (laws_FnNimInverses.j0 k t168 bt169.1 bt171.2 (bt169.1 != bt171.1)))))))) = some r := h
  clear h
  replace H := Option.bind_eq_some_iff.mp H
  obtain ⟨t167, A30, H⟩ := H
  replace H : (if t167 = true then (some true) else ((spec_DrawNimOrder.f l0).bind fun t168 => ((impl_NimOrder.f k t168).bind fun bt169 => ((spec_NimOrder.f k t168).bind fun bt171 => (if (bt169.2 != bt171.2) = true then (laws_FnNimInverses.j0 k t168 bt169.1 bt171.2 true) else (laws_FnNimInverses.j0 k t168 bt169.1 bt171.2 (bt169.1 != bt171.1))))))) = some r := H
  have A3 := Aside0.mk A30
  clear A30
  by_cases c4 : t167 = true
  · subst c4
    have H1 : (some true) = some r := by rw [if_pos rfl] at H; exact H
    clear H
    have H := H1
    clear H1
    obtain rfl := Option.some.inj H
    go_enter Try.func4, Try.ntmps4
    go_wp2_with (first | ((with_reducible refine gate_callee (f := 15) rfl ?_); refine goesL_ (some 28) rfl rfl Try.func15 (by kernel_rfl) rfl #[.slice A0 l0.length c0, .slice A1 l1.length c1] rfl (by (try simp only [List.map_toArray, List.map_cons, List.map_nil]); first | done | rfl | (simp only [List.length_drop, List.length_take]; rfl)) ?_; (with_reducible refine (laws_big.calls _ _ l0 _ _ l1 true _ ?side1 ?side2 ?side3 ?side4 A3.out).mono ?_); (case side1 => repeat (first | exact HR0.out | (with_reducible refine Kd.C_alloc ?_ _) | (with_reducible refine Kd.C_drewN ?_ _) | (with_reducible refine Kd.C_drew ?_))); (case side2 => exact HC0.out); (case side3 => repeat (first | exact HR1.out | (with_reducible refine Kd.C_alloc ?_ _) | (with_reducible refine Kd.C_drewN ?_ _) | (with_reducible refine Kd.C_drew ?_))); (case side4 => exact HC1.out); rintro e w' ⟨rfl, ⟨nd, rfl⟩⟩; refine ⟨_, rfl, ?_⟩))
    go_ret
    exact ⟨by first | rfl | (simp [errW_none, errW_some] <;> rfl) | (simp [*, errW_none, errW_some] <;> rfl), by repeat (first | (with_reducible first | exact HB.out | apply below_alloc | apply pw_below_drewN | apply below_drew1) | exact HB.out)⟩
  · replace c4 := Bool.eq_false_iff.mpr c4
    subst c4
    have H1 : ((spec_DrawNimOrder.f l0).bind fun t168 => ((impl_NimOrder.f k t168).bind fun bt169 => ((spec_NimOrder.f k t168).bind fun bt171 => (if (bt169.2 != bt171.2) = true then (laws_FnNimInverses.j0 k t168 bt169.1 bt171.2 true) else (laws_FnNimInverses.j0 k t168 bt169.1 bt171.2 (bt169.1 != bt171.1)))))) = some r := by rw [if_neg (show ¬ (false = true) by decide)] at H; exact H
    clear H
    have H := H1
    clear H1
    replace H := Option.bind_eq_some_iff.mp H
    obtain ⟨t168, A50, H⟩ := H
    replace H : ((impl_NimOrder.f k t168).bind fun bt169 => ((spec_NimOrder.f k t168).bind fun bt171 => (if (bt169.2 != bt171.2) = true then (laws_FnNimInverses.j0 k t168 bt169.1 bt171.2 true) else (laws_FnNimInverses.j0 k t168 bt169.1 bt171.2 (bt169.1 != bt171.1))))) = some r := H
    have A5 := Aside0.mk A50
    clear A50
    replace H := Option.bind_eq_some_iff.mp H
    obtain ⟨⟨t169, t170⟩, A60, H⟩ := H
    replace H : ((spec_NimOrder.f k t168).bind fun bt171 => (if (t170 != bt171.2) = true then (laws_FnNimInverses.j0 k t168 t169 bt171.2 true) else (laws_FnNimInverses.j0 k t168 t169 bt171.2 (t169 != bt171.1)))) = some r := H
    have A6 := Aside0.mk A60
    clear A60
    replace H := Option.bind_eq_some_iff.mp H
    obtain ⟨⟨t171, t172⟩, A70, H⟩ := H
    replace H : (if (t170 != t172) = true then (laws_FnNimInverses.j0 k t168 t169 t172 true) else (laws_FnNimInverses.j0 k t168 t169 t172 (t169 != t171))) = some r := H
    have A7 := Aside0.mk A70
    clear A70
    have HC8 := Aside0.mk H
    clear H
    go_enter Try.func4, Try.ntmps4
    go_upto_region 6 with (first | ((with_reducible refine gate_callee (f := 15) rfl ?_); refine goesL_ (some 28) rfl rfl Try.func15 (by kernel_rfl) rfl #[.slice A0 l0.length c0, .slice A1 l1.length c1] rfl (by (try simp only [List.map_toArray, List.map_cons, List.map_nil]); first | done | rfl | (simp only [List.length_drop, List.length_take]; rfl)) ?_; (with_reducible refine (laws_big.calls _ _ l0 _ _ l1 false _ ?side1 ?side2 ?side3 ?side4 A3.out).mono ?_); (case side1 => repeat (first | exact HR0.out | (with_reducible refine Kd.C_alloc ?_ _) | (with_reducible refine Kd.C_drewN ?_ _) | (with_reducible refine Kd.C_drew ?_))); (case side2 => exact HC0.out); (case side3 => repeat (first | exact HR1.out | (with_reducible refine Kd.C_alloc ?_ _) | (with_reducible refine Kd.C_drewN ?_ _) | (with_reducible refine Kd.C_drew ?_))); (case side4 => exact HC1.out); rintro e w' ⟨rfl, ⟨nd, rfl⟩⟩; refine ⟨_, rfl, ?_⟩) | ((with_reducible refine gate_callee (f := 20) rfl ?_); refine goesL_ (some 30) rfl rfl Try.func20 (by kernel_rfl) rfl #[.slice A0 l0.length c0] rfl (by (try simp only [List.map_toArray, List.map_cons, List.map_nil]); first | done | rfl | (simp only [List.length_drop, List.length_take]; rfl)) ?_; (with_reducible refine (spec_DrawNimOrder.calls _ _ l0 t168 _ ?side1 ?side2 A5.out).mono ?_); (case side1 => repeat (first | exact HR0.out | (with_reducible refine Kd.C_alloc ?_ _) | (with_reducible refine Kd.C_drewN ?_ _) | (with_reducible refine Kd.C_drew ?_))); (case side2 => exact HC0.out); rintro e w9 ⟨rfl, hb⟩; refine ⟨_, rfl, ?_⟩; have n0_ := Aside0.mk (below_step (by repeat (first | (with_reducible first | exact HB.out | apply below_alloc | apply pw_below_drewN | apply below_drew1) | exact HB.out)) hb); clear HB; have HB := n0_; clear n0_; (try clear hb); (try clear hb2); (try clear hk); (try clear hi)) | ((with_reducible refine gate_callee (f := 21) rfl ?_); refine goesL_ (some 33) rfl rfl Try.func21 (by kernel_rfl) rfl #[.int .i64 t168] rfl (by (try simp only [List.map_toArray, List.map_cons, List.map_nil]); first | done | rfl | (simp only [List.length_drop, List.length_take]; rfl)) ?_; (with_reducible refine (impl_NimOrder.calls k t168 t169 t170 _ A6.out).mono ?_); rintro e w10 ⟨rfl, hb⟩; refine ⟨_, rfl, ?_⟩; have n0_ := Aside0.mk (below_step (by repeat (first | (with_reducible first | exact HB.out | apply below_alloc | apply pw_below_drewN | apply below_drew1) | exact HB.out)) hb); clear HB; have HB := n0_; clear n0_; (try clear hb); (try clear hb2); (try clear hk); (try clear hi)) | ((with_reducible refine gate_callee (f := 22) rfl ?_); refine goesL_ (some 38) rfl rfl Try.func22 (by kernel_rfl) rfl #[.int .i64 t168] rfl (by (try simp only [List.map_toArray, List.map_cons, List.map_nil]); first | done | rfl | (simp only [List.length_drop, List.length_take]; rfl)) ?_; (with_reducible refine (spec_NimOrder.calls k t168 t171 t172 _ A7.out).mono ?_); rintro e w11 ⟨rfl, hb⟩; refine ⟨_, rfl, ?_⟩; have n0_ := Aside0.mk (below_step (by repeat (first | (with_reducible first | exact HB.out | apply below_alloc | apply pw_below_drewN | apply below_drew1) | exact HB.out)) hb); clear HB; have HB := n0_; clear n0_; (try clear hb); (try clear hb2); (try clear hk); (try clear hi)))
    (try simp only [Act.put, List.setIfInBounds_toArray, List.set_cons_zero, List.set_cons_succ])
    go_cut [48] (fun v48 wc => ∃ (kq : Nat) (x48_7 : Bool), v48 = .bool x48_7 ∧ Aside0 (laws_FnNimInverses.j0 kq t168 t169 t172 x48_7 = some r) ∧ Aside0 (kq ≤ k) ∧ Aside0 (Below w.heap.size w wc))
    case first =>
      have H := HC8.out
      clear HC8
      by_cases c12 : (t170 != t172) = true
      · rw [if_pos c12] at H
        have c12b0 : (t170 != t172) = true := c12
        (try (have c12b1 : decide (t170 = t172) = false := by simpa using c12))
        (try (have c12b2 : (t170 == t172) = false := by simpa using c12))
        (try (have c12b3 : ¬ (t170 = t172) := by simpa using c12))
        clear c12
        (first | rw [c12b0] | (simp only [i64_w, i32_w]; rw [c12b0]) | skip)
        have H' := Aside0.mk H
        clear H
        go_wp2
        go_meet
        case rel => exact ⟨_, (true), (by first | rfl | (simp; done) | (simp [*]; done)), H', ⟨by first | omega | exact Nat.le_refl _⟩, ⟨by repeat (first | (with_reducible first | exact HB.out | apply below_alloc | apply pw_below_drewN | apply below_drew1) | exact HB.out)⟩⟩
      · rw [if_neg c12] at H
        have c12b0 : (t170 != t172) = false := by simpa using c12
        (try (have c12b1 : decide (t170 = t172) = true := by simpa using c12))
        (try (have c12b2 : (t170 == t172) = true := by simpa using c12))
        clear c12
        (first | rw [c12b0] | (simp only [i64_w, i32_w]; rw [c12b0]) | skip)
        have H' := Aside0.mk H
        clear H
        go_wp2
        go_meet
        case rel => exact ⟨_, ((t169 != t171)), (by first | rfl | (simp; done) | (simp [*]; done)), H', ⟨by first | omega | exact Nat.le_refl _⟩, ⟨by repeat (first | (with_reducible first | exact HB.out | apply below_alloc | apply pw_below_drewN | apply below_drew1) | exact HB.out)⟩⟩
    case rest =>
      clear HC8
      try clear c1
      try clear c2
      try clear p2
      try clear c4
      try clear c12
      try clear c12b0
      try clear c12b1
      try clear c12b2
      obtain ⟨kq, x48_7, rfl, HA, HJ7, HB⟩ := hcut
      cases kq with
      | zero => exact absurd HA.out (by simp [laws_FnNimInverses.j0])
      | succ kj7 =>
        have H := HA.out
        clear HA
        simp only [laws_FnNimInverses.j0] at H
        by_cases c13 : x48_7 = true
        · subst c13
          have H1 : (some false) = some r := by rw [if_pos rfl] at H; exact H
          clear H
          have H := H1
          clear H1
          obtain rfl := Option.some.inj H
          go_wp2
          go_ret
          exact ⟨by first | rfl | (simp [errW_none, errW_some] <;> rfl) | (simp [*, errW_none, errW_some] <;> rfl), by repeat (first | (with_reducible first | exact HB.out | apply below_alloc | apply pw_below_drewN | apply below_drew1) | exact HB.out)⟩
        · replace c13 := Bool.eq_false_iff.mpr c13
          subst c13
          have H1 : (if t172 = true then ((impl_NimInverse.f kj7 t168).bind fun bt173 => ((impl_NimProduct.f kj7 t168 bt173.1).bind fun bt175 => ((impl_NimFieldOf.f kj7 t168).bind fun bt177 => ((impl_NimFieldOf.f kj7 bt173.1).bind fun bt179 => ((impl_NimPower.f kj7 t168 t169).bind fun bt181 => (if bt173.2 = true then (if bt175.2 = true then (if bt177.2 = true then (if bt179.2 = true then (if bt181.2 = true then (if bt175.1 = 1 then (if bt179.1 = bt177.1 then (if bt181.1 = 1 then (if t169 = 0 then (none) else (laws_FnNimInverses.j1 kj7 t168 t169 bt173.1 ((Int.tmod (wrap64 (bt177.1 - 1)) t169) != 0))) else (laws_FnNimInverses.j1 kj7 t168 t169 bt173.1 true)) else (laws_FnNimInverses.j1 kj7 t168 t169 bt173.1 true)) else (laws_FnNimInverses.j1 kj7 t168 t169 bt173.1 true)) else (laws_FnNimInverses.j1 kj7 t168 t169 bt173.1 true)) else (laws_FnNimInverses.j1 kj7 t168 t169 bt173.1 true)) else (laws_FnNimInverses.j1 kj7 t168 t169 bt173.1 true)) else (laws_FnNimInverses.j1 kj7 t168 t169 bt173.1 true)) else (laws_FnNimInverses.j1 kj7 t168 t169 bt173.1 true))))))) else (some true)) = some r := by rw [if_neg (show ¬ (false = true) by decide)] at H; exact H
          clear H
          have H := H1
          clear H1
          by_cases c14 : t172 = true
          · subst c14
            have H1 : ((impl_NimInverse.f kj7 t168).bind fun bt173 => ((impl_NimProduct.f kj7 t168 bt173.1).bind fun bt175 => ((impl_NimFieldOf.f kj7 t168).bind fun bt177 => ((impl_NimFieldOf.f kj7 bt173.1).bind fun bt179 => ((impl_NimPower.f kj7 t168 t169).bind fun bt181 => (if bt173.2 = true then (if bt175.2 = true then (if bt177.2 = true then (if bt179.2 = true then (if bt181.2 = true then (if bt175.1 = 1 then (if bt179.1 = bt177.1 then (if bt181.1 = 1 then (if t169 = 0 then (none) else (laws_FnNimInverses.j1 kj7 t168 t169 bt173.1 ((Int.tmod (wrap64 (bt177.1 - 1)) t169) != 0))) else (laws_FnNimInverses.j1 kj7 t168 t169 bt173.1 true)) else (laws_FnNimInverses.j1 kj7 t168 t169 bt173.1 true)) else (laws_FnNimInverses.j1 kj7 t168 t169 bt173.1 true)) else (laws_FnNimInverses.j1 kj7 t168 t169 bt173.1 true)) else (laws_FnNimInverses.j1 kj7 t168 t169 bt173.1 true)) else (laws_FnNimInverses.j1 kj7 t168 t169 bt173.1 true)) else (laws_FnNimInverses.j1 kj7 t168 t169 bt173.1 true)) else (laws_FnNimInverses.j1 kj7 t168 t169 bt173.1 true))))))) = some r := by rw [if_pos rfl] at H; exact H
            clear H
            have H := H1
            clear H1
            replace H := Option.bind_eq_some_iff.mp H
            obtain ⟨⟨t173, t174⟩, A150, H⟩ := H
            replace H : ((impl_NimProduct.f kj7 t168 t173).bind fun bt175 => ((impl_NimFieldOf.f kj7 t168).bind fun bt177 => ((impl_NimFieldOf.f kj7 t173).bind fun bt179 => ((impl_NimPower.f kj7 t168 t169).bind fun bt181 => (if t174 = true then (if bt175.2 = true then (if bt177.2 = true then (if bt179.2 = true then (if bt181.2 = true then (if bt175.1 = 1 then (if bt179.1 = bt177.1 then (if bt181.1 = 1 then (if t169 = 0 then (none) else (laws_FnNimInverses.j1 kj7 t168 t169 t173 ((Int.tmod (wrap64 (bt177.1 - 1)) t169) != 0))) else (laws_FnNimInverses.j1 kj7 t168 t169 t173 true)) else (laws_FnNimInverses.j1 kj7 t168 t169 t173 true)) else (laws_FnNimInverses.j1 kj7 t168 t169 t173 true)) else (laws_FnNimInverses.j1 kj7 t168 t169 t173 true)) else (laws_FnNimInverses.j1 kj7 t168 t169 t173 true)) else (laws_FnNimInverses.j1 kj7 t168 t169 t173 true)) else (laws_FnNimInverses.j1 kj7 t168 t169 t173 true)) else (laws_FnNimInverses.j1 kj7 t168 t169 t173 true)))))) = some r := H
            have A15 := Aside0.mk A150
            clear A150
            replace H := Option.bind_eq_some_iff.mp H
            obtain ⟨⟨t175, t176⟩, A160, H⟩ := H
            replace H : ((impl_NimFieldOf.f kj7 t168).bind fun bt177 => ((impl_NimFieldOf.f kj7 t173).bind fun bt179 => ((impl_NimPower.f kj7 t168 t169).bind fun bt181 => (if t174 = true then (if t176 = true then (if bt177.2 = true then (if bt179.2 = true then (if bt181.2 = true then (if t175 = 1 then (if bt179.1 = bt177.1 then (if bt181.1 = 1 then (if t169 = 0 then (none) else (laws_FnNimInverses.j1 kj7 t168 t169 t173 ((Int.tmod (wrap64 (bt177.1 - 1)) t169) != 0))) else (laws_FnNimInverses.j1 kj7 t168 t169 t173 true)) else (laws_FnNimInverses.j1 kj7 t168 t169 t173 true)) else (laws_FnNimInverses.j1 kj7 t168 t169 t173 true)) else (laws_FnNimInverses.j1 kj7 t168 t169 t173 true)) else (laws_FnNimInverses.j1 kj7 t168 t169 t173 true)) else (laws_FnNimInverses.j1 kj7 t168 t169 t173 true)) else (laws_FnNimInverses.j1 kj7 t168 t169 t173 true)) else (laws_FnNimInverses.j1 kj7 t168 t169 t173 true))))) = some r := H
            have A16 := Aside0.mk A160
            clear A160
            replace H := Option.bind_eq_some_iff.mp H
            obtain ⟨⟨t177, t178⟩, A170, H⟩ := H
            replace H : ((impl_NimFieldOf.f kj7 t173).bind fun bt179 => ((impl_NimPower.f kj7 t168 t169).bind fun bt181 => (if t174 = true then (if t176 = true then (if t178 = true then (if bt179.2 = true then (if bt181.2 = true then (if t175 = 1 then (if bt179.1 = t177 then (if bt181.1 = 1 then (if t169 = 0 then (none) else (laws_FnNimInverses.j1 kj7 t168 t169 t173 ((Int.tmod (wrap64 (t177 - 1)) t169) != 0))) else (laws_FnNimInverses.j1 kj7 t168 t169 t173 true)) else (laws_FnNimInverses.j1 kj7 t168 t169 t173 true)) else (laws_FnNimInverses.j1 kj7 t168 t169 t173 true)) else (laws_FnNimInverses.j1 kj7 t168 t169 t173 true)) else (laws_FnNimInverses.j1 kj7 t168 t169 t173 true)) else (laws_FnNimInverses.j1 kj7 t168 t169 t173 true)) else (laws_FnNimInverses.j1 kj7 t168 t169 t173 true)) else (laws_FnNimInverses.j1 kj7 t168 t169 t173 true)))) = some r := H
            have A17 := Aside0.mk A170
            clear A170
            replace H := Option.bind_eq_some_iff.mp H
            obtain ⟨⟨t179, t180⟩, A180, H⟩ := H
            replace H : ((impl_NimPower.f kj7 t168 t169).bind fun bt181 => (if t174 = true then (if t176 = true then (if t178 = true then (if t180 = true then (if bt181.2 = true then (if t175 = 1 then (if t179 = t177 then (if bt181.1 = 1 then (if t169 = 0 then (none) else (laws_FnNimInverses.j1 kj7 t168 t169 t173 ((Int.tmod (wrap64 (t177 - 1)) t169) != 0))) else (laws_FnNimInverses.j1 kj7 t168 t169 t173 true)) else (laws_FnNimInverses.j1 kj7 t168 t169 t173 true)) else (laws_FnNimInverses.j1 kj7 t168 t169 t173 true)) else (laws_FnNimInverses.j1 kj7 t168 t169 t173 true)) else (laws_FnNimInverses.j1 kj7 t168 t169 t173 true)) else (laws_FnNimInverses.j1 kj7 t168 t169 t173 true)) else (laws_FnNimInverses.j1 kj7 t168 t169 t173 true)) else (laws_FnNimInverses.j1 kj7 t168 t169 t173 true))) = some r := H
            have A18 := Aside0.mk A180
            clear A180
            replace H := Option.bind_eq_some_iff.mp H
            obtain ⟨⟨t181, t182⟩, A190, H⟩ := H
            replace H : (if t174 = true then (if t176 = true then (if t178 = true then (if t180 = true then (if t182 = true then (if t175 = 1 then (if t179 = t177 then (if t181 = 1 then (if t169 = 0 then (none) else (laws_FnNimInverses.j1 kj7 t168 t169 t173 ((Int.tmod (wrap64 (t177 - 1)) t169) != 0))) else (laws_FnNimInverses.j1 kj7 t168 t169 t173 true)) else (laws_FnNimInverses.j1 kj7 t168 t169 t173 true)) else (laws_FnNimInverses.j1 kj7 t168 t169 t173 true)) else (laws_FnNimInverses.j1 kj7 t168 t169 t173 true)) else (laws_FnNimInverses.j1 kj7 t168 t169 t173 true)) else (laws_FnNimInverses.j1 kj7 t168 t169 t173 true)) else (laws_FnNimInverses.j1 kj7 t168 t169 t173 true)) else (laws_FnNimInverses.j1 kj7 t168 t169 t173 true)) = some r := H
            have A19 := Aside0.mk A190
            clear A190
            have HC20 := Aside0.mk H
            clear H
            go_upto_region 15 with (first | ((with_reducible refine gate_callee (f := 23) rfl ?_); refine goesL_ (some 53) rfl rfl Try.func23 (by kernel_rfl) rfl #[.int .i64 t168] rfl (by (try simp only [List.map_toArray, List.map_cons, List.map_nil]); first | done | rfl | (simp only [List.length_drop, List.length_take]; rfl)) ?_; (with_reducible refine (impl_NimInverse.calls kj7 t168 t173 t174 _ A15.out).mono ?_); rintro e w21 ⟨rfl, hb⟩; refine ⟨_, rfl, ?_⟩; have n0_ := Aside0.mk (below_step (by repeat (first | (with_reducible first | exact HB.out | apply below_alloc | apply pw_below_drewN | apply below_drew1) | exact HB.out)) hb); clear HB; have HB := n0_; clear n0_; (try clear hb); (try clear hb2); (try clear hk); (try clear hi)) | ((with_reducible refine gate_callee (f := 17) rfl ?_); refine goesL_ (some 59) rfl rfl Try.func17 (by kernel_rfl) rfl #[.int .i64 t168, .int .i64 t173] rfl (by (try simp only [List.map_toArray, List.map_cons, List.map_nil]); first | done | rfl | (simp only [List.length_drop, List.length_take]; rfl)) ?_; (with_reducible refine (impl_NimProduct.calls kj7 t168 t173 t175 t176 _ A16.out).mono ?_); rintro e w22 ⟨rfl, hb⟩; refine ⟨_, rfl, ?_⟩; have n0_ := Aside0.mk (below_step (by repeat (first | (with_reducible first | exact HB.out | apply below_alloc | apply pw_below_drewN | apply below_drew1) | exact HB.out)) hb); clear HB; have HB := n0_; clear n0_; (try clear hb); (try clear hb2); (try clear hk); (try clear hi)) | ((with_reducible refine gate_callee (f := 24) rfl ?_); refine goesL_ (some 64) rfl rfl Try.func24 (by kernel_rfl) rfl #[.int .i64 t168] rfl (by (try simp only [List.map_toArray, List.map_cons, List.map_nil]); first | done | rfl | (simp only [List.length_drop, List.length_take]; rfl)) ?_; (with_reducible refine (impl_NimFieldOf.calls kj7 t168 t177 t178 _ A17.out).mono ?_); rintro e w' ⟨rfl, ⟨nd, rfl⟩⟩; refine ⟨_, rfl, ?_⟩) | ((with_reducible refine gate_callee (f := 24) rfl ?_); refine goesL_ (some 69) rfl rfl Try.func24 (by kernel_rfl) rfl #[.int .i64 t173] rfl (by (try simp only [List.map_toArray, List.map_cons, List.map_nil]); first | done | rfl | (simp only [List.length_drop, List.length_take]; rfl)) ?_; (with_reducible refine (impl_NimFieldOf.calls kj7 t173 t179 t180 _ A18.out).mono ?_); rintro e w' ⟨rfl, ⟨nd, rfl⟩⟩; refine ⟨_, rfl, ?_⟩) | ((with_reducible refine gate_callee (f := 25) rfl ?_); refine goesL_ (some 75) rfl rfl Try.func25 (by kernel_rfl) rfl #[.int .i64 t168, .int .i64 t169] rfl (by (try simp only [List.map_toArray, List.map_cons, List.map_nil]); first | done | rfl | (simp only [List.length_drop, List.length_take]; rfl)) ?_; (with_reducible refine (impl_NimPower.calls kj7 t168 t169 t181 t182 _ A19.out).mono ?_); rintro e w23 ⟨rfl, hb⟩; refine ⟨_, rfl, ?_⟩; have n0_ := Aside0.mk (below_step (by repeat (first | (with_reducible first | exact HB.out | apply below_alloc | apply pw_below_drewN | apply below_drew1) | exact HB.out)) hb); clear HB; have HB := n0_; clear n0_; (try clear hb); (try clear hb2); (try clear hk); (try clear hi)))
            (try simp only [Act.put, List.setIfInBounds_toArray, List.set_cons_zero, List.set_cons_succ])
            go_cut [115] (fun v115 wc => ∃ (kq : Nat) (x115_19 : Bool), v115 = .bool x115_19 ∧ Aside0 (laws_FnNimInverses.j1 kq t168 t169 t173 x115_19 = some r) ∧ Aside0 (kq ≤ kj7) ∧ Aside0 (Below w.heap.size w wc))
            case first =>
              have H := HC20.out
              clear HC20
              by_cases c24 : t174 = true
              · subst c24
                have H1 : (if t176 = true then (if t178 = true then (if t180 = true then (if t182 = true then (if t175 = 1 then (if t179 = t177 then (if t181 = 1 then (if t169 = 0 then (none) else (laws_FnNimInverses.j1 kj7 t168 t169 t173 ((Int.tmod (wrap64 (t177 - 1)) t169) != 0))) else (laws_FnNimInverses.j1 kj7 t168 t169 t173 true)) else (laws_FnNimInverses.j1 kj7 t168 t169 t173 true)) else (laws_FnNimInverses.j1 kj7 t168 t169 t173 true)) else (laws_FnNimInverses.j1 kj7 t168 t169 t173 true)) else (laws_FnNimInverses.j1 kj7 t168 t169 t173 true)) else (laws_FnNimInverses.j1 kj7 t168 t169 t173 true)) else (laws_FnNimInverses.j1 kj7 t168 t169 t173 true)) = some r := by rw [if_pos rfl] at H; exact H
                clear H
                have H := H1
                clear H1
                by_cases c25 : t176 = true
                · subst c25
                  have H1 : (if t178 = true then (if t180 = true then (if t182 = true then (if t175 = 1 then (if t179 = t177 then (if t181 = 1 then (if t169 = 0 then (none) else (laws_FnNimInverses.j1 kj7 t168 t169 t173 ((Int.tmod (wrap64 (t177 - 1)) t169) != 0))) else (laws_FnNimInverses.j1 kj7 t168 t169 t173 true)) else (laws_FnNimInverses.j1 kj7 t168 t169 t173 true)) else (laws_FnNimInverses.j1 kj7 t168 t169 t173 true)) else (laws_FnNimInverses.j1 kj7 t168 t169 t173 true)) else (laws_FnNimInverses.j1 kj7 t168 t169 t173 true)) else (laws_FnNimInverses.j1 kj7 t168 t169 t173 true)) = some r := by rw [if_pos rfl] at H; exact H
                  clear H
                  have H := H1
                  clear H1
                  by_cases c26 : t178 = true
                  · subst c26
                    have H1 : (if t180 = true then (if t182 = true then (if t175 = 1 then (if t179 = t177 then (if t181 = 1 then (if t169 = 0 then (none) else (laws_FnNimInverses.j1 kj7 t168 t169 t173 ((Int.tmod (wrap64 (t177 - 1)) t169) != 0))) else (laws_FnNimInverses.j1 kj7 t168 t169 t173 true)) else (laws_FnNimInverses.j1 kj7 t168 t169 t173 true)) else (laws_FnNimInverses.j1 kj7 t168 t169 t173 true)) else (laws_FnNimInverses.j1 kj7 t168 t169 t173 true)) else (laws_FnNimInverses.j1 kj7 t168 t169 t173 true)) = some r := by rw [if_pos rfl] at H; exact H
                    clear H
                    have H := H1
                    clear H1
                    by_cases c27 : t180 = true
                    · subst c27
                      have H1 : (if t182 = true then (if t175 = 1 then (if t179 = t177 then (if t181 = 1 then (if t169 = 0 then (none) else (laws_FnNimInverses.j1 kj7 t168 t169 t173 ((Int.tmod (wrap64 (t177 - 1)) t169) != 0))) else (laws_FnNimInverses.j1 kj7 t168 t169 t173 true)) else (laws_FnNimInverses.j1 kj7 t168 t169 t173 true)) else (laws_FnNimInverses.j1 kj7 t168 t169 t173 true)) else (laws_FnNimInverses.j1 kj7 t168 t169 t173 true)) = some r := by rw [if_pos rfl] at H; exact H
                      clear H
                      have H := H1
                      clear H1
                      by_cases c28 : t182 = true
                      · subst c28
                        have H1 : (if t175 = 1 then (if t179 = t177 then (if t181 = 1 then (if t169 = 0 then (none) else (laws_FnNimInverses.j1 kj7 t168 t169 t173 ((Int.tmod (wrap64 (t177 - 1)) t169) != 0))) else (laws_FnNimInverses.j1 kj7 t168 t169 t173 true)) else (laws_FnNimInverses.j1 kj7 t168 t169 t173 true)) else (laws_FnNimInverses.j1 kj7 t168 t169 t173 true)) = some r := by rw [if_pos rfl] at H; exact H
                        clear H
                        have H := H1
                        clear H1
                        by_cases c29 : t175 = 1
                        · rw [if_pos c29] at H
                          have c29b0 : (t175 == 1) = true := beq_iff_eq.mpr c29
                          have c29b1 : (t175 != 1) = false := bne_eq_false_iff_eq.mpr c29
                          clear c29
                          (first | rw [c29b0] | (simp only [i64_w, i32_w]; rw [c29b0]) | skip)
                          by_cases c30 : t179 = t177
                          · rw [if_pos c30] at H
                            have c30b0 : (t179 == t177) = true := beq_iff_eq.mpr c30
                            have c30b1 : (t179 != t177) = false := bne_eq_false_iff_eq.mpr c30
                            clear c30
                            by_cases c31 : t181 = 1
                            · rw [if_pos c31] at H
                              have c31b0 : (t181 == 1) = true := beq_iff_eq.mpr c31
                              have c31b1 : (t181 != 1) = false := bne_eq_false_iff_eq.mpr c31
                              clear c31
                              by_cases c32 : t169 = 0
                              · rw [if_pos c32] at H
                                exact absurd H (by simp)
                              · rw [if_neg c32] at H
                                have c32b0 : (t169 == 0) = false := beq_eq_false_iff_ne.mpr c32
                                have c32b1 : (t169 != 0) = true := bne_iff_ne.mpr c32
                                have H' := Aside0.mk H
                                clear H
                                go_wp2
                                go_meet
                                case rel => exact ⟨_, (((Int.tmod (wrap64 (t177 - 1)) t169) != 0)), (by first | rfl | (simp; done) | (simp [*]; done)), H', ⟨by have := HJ7.out; first | omega | exact Nat.le_refl _⟩, ⟨by repeat (first | (with_reducible first | exact HB.out | apply below_alloc | apply pw_below_drewN | apply below_drew1) | exact HB.out)⟩⟩
                            · rw [if_neg c31] at H
                              have c31b0 : (t181 == 1) = false := beq_eq_false_iff_ne.mpr c31
                              have c31b1 : (t181 != 1) = true := bne_iff_ne.mpr c31
                              have H' := Aside0.mk H
                              clear H
                              go_wp2
                              go_meet
                              case rel => exact ⟨_, (true), (by first | rfl | (simp; done) | (simp [*]; done)), H', ⟨by have := HJ7.out; first | omega | exact Nat.le_refl _⟩, ⟨by repeat (first | (with_reducible first | exact HB.out | apply below_alloc | apply pw_below_drewN | apply below_drew1) | exact HB.out)⟩⟩
                          · rw [if_neg c30] at H
                            have c30b0 : (t179 == t177) = false := beq_eq_false_iff_ne.mpr c30
                            have c30b1 : (t179 != t177) = true := bne_iff_ne.mpr c30
                            have H' := Aside0.mk H
                            clear H
                            go_wp2
                            go_meet
                            case rel => exact ⟨_, (true), (by first | rfl | (simp; done) | (simp [*]; done)), H', ⟨by have := HJ7.out; first | omega | exact Nat.le_refl _⟩, ⟨by repeat (first | (with_reducible first | exact HB.out | apply below_alloc | apply pw_below_drewN | apply below_drew1) | exact HB.out)⟩⟩
                        · rw [if_neg c29] at H
                          have c29b0 : (t175 == 1) = false := beq_eq_false_iff_ne.mpr c29
                          have c29b1 : (t175 != 1) = true := bne_iff_ne.mpr c29
                          (first | rw [c29b0] | (simp only [i64_w, i32_w]; rw [c29b0]) | skip)
                          have H' := Aside0.mk H
                          clear H
                          go_wp2
                          go_meet
                          case rel => exact ⟨_, (true), (by first | rfl | (simp; done) | (simp [*]; done)), H', ⟨by have := HJ7.out; first | omega | exact Nat.le_refl _⟩, ⟨by repeat (first | (with_reducible first | exact HB.out | apply below_alloc | apply pw_below_drewN | apply below_drew1) | exact HB.out)⟩⟩
                      · replace c28 := Bool.eq_false_iff.mpr c28
                        subst c28
                        have H1 : (laws_FnNimInverses.j1 kj7 t168 t169 t173 true) = some r := by rw [if_neg (show ¬ (false = true) by decide)] at H; exact H
                        clear H
                        have H := H1
                        clear H1
                        have H' := Aside0.mk H
                        clear H
                        go_wp2
                        go_meet
                        case rel => exact ⟨_, (true), (by first | rfl | (simp; done) | (simp [*]; done)), H', ⟨by have := HJ7.out; first | omega | exact Nat.le_refl _⟩, ⟨by repeat (first | (with_reducible first | exact HB.out | apply below_alloc | apply pw_below_drewN | apply below_drew1) | exact HB.out)⟩⟩
                    · replace c27 := Bool.eq_false_iff.mpr c27
                      subst c27
                      have H1 : (laws_FnNimInverses.j1 kj7 t168 t169 t173 true) = some r := by rw [if_neg (show ¬ (false = true) by decide)] at H; exact H
                      clear H
                      have H := H1
                      clear H1
                      have H' := Aside0.mk H
                      clear H
                      go_wp2
                      go_meet
                      case rel => exact ⟨_, (true), (by first | rfl | (simp; done) | (simp [*]; done)), H', ⟨by have := HJ7.out; first | omega | exact Nat.le_refl _⟩, ⟨by repeat (first | (with_reducible first | exact HB.out | apply below_alloc | apply pw_below_drewN | apply below_drew1) | exact HB.out)⟩⟩
                  · replace c26 := Bool.eq_false_iff.mpr c26
                    subst c26
                    have H1 : (laws_FnNimInverses.j1 kj7 t168 t169 t173 true) = some r := by rw [if_neg (show ¬ (false = true) by decide)] at H; exact H
                    clear H
                    have H := H1
                    clear H1
                    have H' := Aside0.mk H
                    clear H
                    go_wp2
                    go_meet
                    case rel => exact ⟨_, (true), (by first | rfl | (simp; done) | (simp [*]; done)), H', ⟨by have := HJ7.out; first | omega | exact Nat.le_refl _⟩, ⟨by repeat (first | (with_reducible first | exact HB.out | apply below_alloc | apply pw_below_drewN | apply below_drew1) | exact HB.out)⟩⟩
                · replace c25 := Bool.eq_false_iff.mpr c25
                  subst c25
                  have H1 : (laws_FnNimInverses.j1 kj7 t168 t169 t173 true) = some r := by rw [if_neg (show ¬ (false = true) by decide)] at H; exact H
                  clear H
                  have H := H1
                  clear H1
                  have H' := Aside0.mk H
                  clear H
                  go_wp2
                  go_meet
                  case rel => exact ⟨_, (true), (by first | rfl | (simp; done) | (simp [*]; done)), H', ⟨by have := HJ7.out; first | omega | exact Nat.le_refl _⟩, ⟨by repeat (first | (with_reducible first | exact HB.out | apply below_alloc | apply pw_below_drewN | apply below_drew1) | exact HB.out)⟩⟩
              · replace c24 := Bool.eq_false_iff.mpr c24
                subst c24
                have H1 : (laws_FnNimInverses.j1 kj7 t168 t169 t173 true) = some r := by rw [if_neg (show ¬ (false = true) by decide)] at H; exact H
                clear H
                have H := H1
                clear H1
                have H' := Aside0.mk H
                clear H
                go_wp2
                go_meet
                case rel => exact ⟨_, (true), (by first | rfl | (simp; done) | (simp [*]; done)), H', ⟨by have := HJ7.out; first | omega | exact Nat.le_refl _⟩, ⟨by repeat (first | (with_reducible first | exact HB.out | apply below_alloc | apply pw_below_drewN | apply below_drew1) | exact HB.out)⟩⟩
            case rest =>
              clear HC20
              try clear c1
              try clear c2
              try clear p2
              try clear c3
              try clear c4
              try clear p6
              try clear c12
              try clear c12b0
              try clear c12b1
              try clear c12b2
              try clear c13
              try clear c14
              try clear c15
              try clear c17
              try clear c20
              try clear c21
              try clear c22
              try clear c23
              try clear c24
              try clear c25
              try clear c26
              try clear c27
              try clear c28
              try clear c29
              try clear c29b0
              try clear c29b1
              try clear c30
              try clear c30b0
              try clear c30b1
              try clear c31
              try clear c31b0
              try clear c31b1
              try clear c32
              try clear c32b0
              try clear c32b1
              try clear p2
              obtain ⟨kq, x115_19, rfl, HA, HJ19, HB⟩ := hcut
              cases kq with
              | zero => exact absurd HA.out (by simp [laws_FnNimInverses.j1])
              | succ kj19 =>
                have H := HA.out
                clear HA
                simp only [laws_FnNimInverses.j1] at H
                by_cases c33 : x115_19 = true
                · subst c33
                  have H1 : (some false) = some r := by rw [if_pos rfl] at H; exact H
                  clear H
                  have H := H1
                  clear H1
                  obtain rfl := Option.some.inj H
                  go_wp2
                  go_ret
                  exact ⟨by first | rfl | (simp [errW_none, errW_some] <;> rfl) | (simp [*, errW_none, errW_some] <;> rfl), by repeat (first | (with_reducible first | exact HB.out | apply below_alloc | apply pw_below_drewN | apply below_drew1) | exact HB.out)⟩
                · replace c33 := Bool.eq_false_iff.mpr c33
                  subst c33
                  have H1 : ((some (([3, 5, 17, 257] : List Int) : List Int)).bind fun y183 => (laws_FnNimInverses.l0 kj19 t168 t169 t173 y183 (y183.length : Int) 0)) = some r := by rw [if_neg (show ¬ (false = true) by decide)] at H; exact H
                  clear H
                  have H := H1
                  clear H1
                  obtain ⟨y183, hy183⟩ : ∃ y_ : List Int, y_ = (([3, 5, 17, 257] : List Int)) := ⟨_, rfl⟩
                  replace H : (laws_FnNimInverses.l0 kj19 t168 t169 t173 y183 (y183.length : Int) 0) = some r := by first | (rw [hy183]; with_reducible exact H) | (have H2_ := (Option.bind_some _ _).symm.trans H; rw [hy183]; with_reducible exact H2_) | (have H2_ := (Option.bind_some _ _).symm.trans H; with_reducible exact H2_) | with_reducible exact H | (rw [hy183]; exact H) | exact H
                  have Ny183 := Aside0.mk hy183
                  clear hy183
                  have H' := Aside0.mk H
                  clear H
                  go_wp2_with (first | ((with_reducible refine gate_dst (N := 116) rfl ?_); refine Kd.R_lit (Kd.int .i64) _ 3 ?hg (N := 116) ?hd (xs := ([3, 5, 17, 257] : List Int)) (inner := [.int .i64 3, .int .i64 5, .int .i64 17, .int .i64 257]) (ok := fun _ => True) (okp := fun _ => True) ?hr ?hp (fun _ hk => hk) trivial (Below.refl _ _) (Nat.le_refl _) (by simp) ?_; (case hd => rfl); (case hg => rfl); (case hr => first | (go_simp; done) | (go_simp; rfl)); (case hp => exact (Reps.one (show Kd.M (Kd.int .i64) _ _ _ 3 [.int .i64 3] from rfl) (Reps.one (show Kd.M (Kd.int .i64) _ _ _ 5 [.int .i64 5] from rfl) (Reps.one (show Kd.M (Kd.int .i64) _ _ _ 17 [.int .i64 17] from rfl) (Reps.one (show Kd.M (Kd.int .i64) _ _ _ 257 [.int .i64 257] from rfl) (Reps.none _ _)))))); intro v184 w34 ho35 hb hg_ hnew_; clear hg_ hnew_; (first | rw [← Ny183.out] at ho35 | (simp only [Int.reduceToNat] at ho35; rw [← Ny183.out] at ho35)); have n0_ := Aside0.mk (Kd.R_lower ho35 (below_size (by repeat (first | (with_reducible first | exact HB.out | apply below_alloc | apply pw_below_drewN | apply below_drew1) | exact HB.out)))); have n1_ := Aside0.mk (below_step (by repeat (first | (with_reducible first | exact HB.out | apply below_alloc | apply pw_below_drewN | apply below_drew1) | exact HB.out)) hb); clear HB; have HO185 := n0_; have HB := n1_; clear n0_ n1_; clear hb ho35; obtain ⟨Ao36, co36, eo36⟩ := Kd.R_slice HO185.out; subst eo36))
                  go_loopg [118] kj19 (fun kq v118 w' => ∃ (x118_3 : Int), v118 = .int .i64 x118_3 ∧ Aside0 (laws_FnNimInverses.l0 kq t168 t169 t173 y183 (y183.length : Int) x118_3 = some r) ∧ Aside0 (kq ≤ kj19) ∧ Aside0 (Kd.R (Kd.int .i64) 3 w' w.heap.size (fun _ => True) (.slice Ao36 y183.length co36) y183) ∧ Aside0 (Below w.heap.size w w'))
                  case atStart => exact ⟨(0), (by first | rfl | (simp; done) | (simp [*]; done)), H', ⟨Nat.le_refl _⟩, ⟨by (with_reducible repeat (first | apply Kd.R_alloc | apply Kd.R_drewN | apply Kd.R_drew)); exact HO185.out⟩, ⟨by repeat (first | (with_reducible first | exact HB.out | apply below_alloc | apply pw_below_drewN | apply below_drew1) | exact HB.out)⟩⟩
                  case round =>
                    clear H'
                    try clear c1
                    try clear c2
                    try clear p2
                    try clear c3
                    try clear c4
                    try clear p6
                    try clear c12
                    try clear c12b0
                    try clear c12b1
                    try clear c12b2
                    try clear c13
                    try clear c14
                    try clear c15
                    try clear c17
                    try clear c20
                    try clear c21
                    try clear c22
                    try clear c23
                    try clear c24
                    try clear c25
                    try clear c26
                    try clear c27
                    try clear c28
                    try clear c29
                    try clear c29b0
                    try clear c29b1
                    try clear c30
                    try clear c30b0
                    try clear c30b1
                    try clear c31
                    try clear c31b0
                    try clear c31b1
                    try clear c32
                    try clear c32b0
                    try clear c32b1
                    try clear c33
                    try clear p2
                    try clear p6
                    obtain ⟨x118_3, rfl, HA, HK3, HO_116, HB⟩ := hrel
                    cases gk with
                    | zero => exact absurd HA.out (by simp [laws_FnNimInverses.l0])
                    | succ k3 =>
                      have H := HA.out
                      clear HA
                      simp only [laws_FnNimInverses.l0] at H
                      by_cases c37 : x118_3 < (y183.length : Int)
                      · rw [if_pos c37] at H
                        have c37b0 : decide (x118_3 < (y183.length : Int)) = true := decide_eq_true c37
                        clear c37
                        by_cases c38 : 0 ≤ x118_3
                        · rw [if_pos c38] at H
                          have c38b0 : decide (0 ≤ x118_3) = true := decide_eq_true c38
                          clear c38
                          by_cases c39 : x118_3 < (y183.length : Int)
                          · rw [if_pos c39] at H
                            have c39b0 : decide (x118_3 < (y183.length : Int)) = true := decide_eq_true c39
                            clear c39
                            by_cases c40 : (rd y183 x118_3) = 0
                            · rw [if_pos c40] at H
                              exact absurd H (by simp)
                            · rw [if_neg c40] at H
                              have c40b0 : ((rd y183 x118_3) == 0) = false := beq_eq_false_iff_ne.mpr c40
                              have c40b1 : ((rd y183 x118_3) != 0) = true := bne_iff_ne.mpr c40
                              replace H := Option.bind_eq_some_iff.mp H
                              obtain ⟨⟨t187, t188⟩, A410, H⟩ := H
                              replace H : (if t188 = true then (if (Int.tmod t169 (rd y183 x118_3)) = 0 then (if t187 = 1 then (some false) else (laws_FnNimInverses.l0 k3 t168 t169 t173 y183 (y183.length : Int) (wrap64 (x118_3 + 1)))) else (laws_FnNimInverses.l0 k3 t168 t169 t173 y183 (y183.length : Int) (wrap64 (x118_3 + 1)))) else (some false)) = some r := H
                              have A41 := Aside0.mk A410
                              clear A410
                              by_cases c42 : t188 = true
                              · subst c42
                                have H1 : (if (Int.tmod t169 (rd y183 x118_3)) = 0 then (if t187 = 1 then (some false) else (laws_FnNimInverses.l0 k3 t168 t169 t173 y183 (y183.length : Int) (wrap64 (x118_3 + 1)))) else (laws_FnNimInverses.l0 k3 t168 t169 t173 y183 (y183.length : Int) (wrap64 (x118_3 + 1)))) = some r := by rw [if_pos rfl] at H; exact H
                                clear H
                                have H := H1
                                clear H1
                                by_cases c43 : (Int.tmod t169 (rd y183 x118_3)) = 0
                                · rw [if_pos c43] at H
                                  have c43b0 : ((Int.tmod t169 (rd y183 x118_3)) == 0) = true := beq_iff_eq.mpr c43
                                  have c43b1 : ((Int.tmod t169 (rd y183 x118_3)) != 0) = false := bne_eq_false_iff_eq.mpr c43
                                  clear c43
                                  by_cases c44 : t187 = 1
                                  · rw [if_pos c44] at H
                                    have c44b0 : (t187 == 1) = true := beq_iff_eq.mpr c44
                                    have c44b1 : (t187 != 1) = false := bne_eq_false_iff_eq.mpr c44
                                    clear c44
                                    obtain rfl := Option.some.inj H
                                    have p186 : 0 ≤ (x118_3 : Int) := of_decide_eq_true (by first | (with_reducible assumption) | assumption)
                                    have q186 : x118_3 < (y183.length : Int) := of_decide_eq_true (by first | (with_reducible assumption) | assumption)
                                    obtain ⟨ad186, e186, hx186_0⟩ := Kd.at_int (Kd.R_reads' HO_116.out).2.2 x118_3 p186 q186
                                    cases e186
                                    replace p186 := eq_true p186
                                    replace q186 := eq_true q186
                                    go_wp2_with (first | ((with_reducible refine gate_callee (f := 25) rfl ?_); refine goesL_ (some 127) rfl rfl Try.func25 (by kernel_rfl) rfl #[.int .i64 t168, .int .i64 (wrap64 (Int.tdiv t169 (rd y183 x118_3)))] rfl (by (try simp only [List.map_toArray, List.map_cons, List.map_nil]); first | done | rfl | (simp only [List.length_drop, List.length_take]; rfl)) ?_; (with_reducible refine (impl_NimPower.calls k3 t168 (wrap64 (Int.tdiv t169 (rd y183 x118_3))) t187 true _ A41.out).mono ?_); rintro e w45 ⟨rfl, hb⟩; refine ⟨_, rfl, ?_⟩; have n0_ := Aside0.mk (Kd.R_below (by (with_reducible repeat (first | apply Kd.R_alloc | apply Kd.R_drewN | apply Kd.R_drew)); exact HO_116.out) hb); have n1_ := Aside0.mk (below_step (by repeat (first | (with_reducible first | exact HB.out | apply below_alloc | apply pw_below_drewN | apply below_drew1) | exact HB.out)) hb); clear HO_116; clear HB; have HO_116 := n0_; have HB := n1_; clear n0_ n1_; (try clear hb); (try clear hb2); (try clear hk); (try clear hi)))
                                    go_ret
                                    exact ⟨by first | rfl | (simp [errW_none, errW_some] <;> rfl) | (simp [*, errW_none, errW_some] <;> rfl), by repeat (first | (with_reducible first | exact HB.out | apply below_alloc | apply pw_below_drewN | apply below_drew1) | exact HB.out)⟩
                                  · rw [if_neg c44] at H
                                    have c44b0 : (t187 == 1) = false := beq_eq_false_iff_ne.mpr c44
                                    have c44b1 : (t187 != 1) = true := bne_iff_ne.mpr c44
                                    have H' := Aside0.mk H
                                    clear H
                                    have p186 : 0 ≤ (x118_3 : Int) := of_decide_eq_true (by first | (with_reducible assumption) | assumption)
                                    have q186 : x118_3 < (y183.length : Int) := of_decide_eq_true (by first | (with_reducible assumption) | assumption)
                                    obtain ⟨ad186, e186, hx186_0⟩ := Kd.at_int (Kd.R_reads' HO_116.out).2.2 x118_3 p186 q186
                                    cases e186
                                    replace p186 := eq_true p186
                                    replace q186 := eq_true q186
                                    go_wp2_with (first | ((with_reducible refine gate_callee (f := 25) rfl ?_); refine goesL_ (some 127) rfl rfl Try.func25 (by kernel_rfl) rfl #[.int .i64 t168, .int .i64 (wrap64 (Int.tdiv t169 (rd y183 x118_3)))] rfl (by (try simp only [List.map_toArray, List.map_cons, List.map_nil]); first | done | rfl | (simp only [List.length_drop, List.length_take]; rfl)) ?_; (with_reducible refine (impl_NimPower.calls k3 t168 (wrap64 (Int.tdiv t169 (rd y183 x118_3))) t187 true _ A41.out).mono ?_); rintro e w46 ⟨rfl, hb⟩; refine ⟨_, rfl, ?_⟩; have n0_ := Aside0.mk (Kd.R_below (by (with_reducible repeat (first | apply Kd.R_alloc | apply Kd.R_drewN | apply Kd.R_drew)); exact HO_116.out) hb); have n1_ := Aside0.mk (below_step (by repeat (first | (with_reducible first | exact HB.out | apply below_alloc | apply pw_below_drewN | apply below_drew1) | exact HB.out)) hb); clear HO_116; clear HB; have HO_116 := n0_; have HB := n1_; clear n0_ n1_; (try clear hb); (try clear hb2); (try clear hk); (try clear hi)))
                                    go_roundg k3
                                    case measure => have := HJ7.out; have := HJ19.out; have := HK3.out; omega
                                    case rel => exact ⟨(wrap64 (x118_3 + 1)), (by first | rfl | (simp; done) | (simp [*]; done)), H', ⟨by have := HJ7.out; have := HJ19.out; have := HK3.out; omega⟩, ⟨by (with_reducible repeat (first | apply Kd.R_alloc | apply Kd.R_drewN | apply Kd.R_drew)); exact HO_116.out⟩, ⟨by repeat (first | (with_reducible first | exact HB.out | apply below_alloc | apply pw_below_drewN | apply below_drew1) | exact HB.out)⟩⟩
                                · rw [if_neg c43] at H
                                  have c43b0 : ((Int.tmod t169 (rd y183 x118_3)) == 0) = false := beq_eq_false_iff_ne.mpr c43
                                  have c43b1 : ((Int.tmod t169 (rd y183 x118_3)) != 0) = true := bne_iff_ne.mpr c43
                                  have H' := Aside0.mk H
                                  clear H
                                  have p186 : 0 ≤ (x118_3 : Int) := of_decide_eq_true (by first | (with_reducible assumption) | assumption)
                                  have q186 : x118_3 < (y183.length : Int) := of_decide_eq_true (by first | (with_reducible assumption) | assumption)
                                  obtain ⟨ad186, e186, hx186_0⟩ := Kd.at_int (Kd.R_reads' HO_116.out).2.2 x118_3 p186 q186
                                  cases e186
                                  replace p186 := eq_true p186
                                  replace q186 := eq_true q186
                                  go_wp2_with (first | ((with_reducible refine gate_callee (f := 25) rfl ?_); refine goesL_ (some 127) rfl rfl Try.func25 (by kernel_rfl) rfl #[.int .i64 t168, .int .i64 (wrap64 (Int.tdiv t169 (rd y183 x118_3)))] rfl (by (try simp only [List.map_toArray, List.map_cons, List.map_nil]); first | done | rfl | (simp only [List.length_drop, List.length_take]; rfl)) ?_; (with_reducible refine (impl_NimPower.calls k3 t168 (wrap64 (Int.tdiv t169 (rd y183 x118_3))) t187 true _ A41.out).mono ?_); rintro e w47 ⟨rfl, hb⟩; refine ⟨_, rfl, ?_⟩; have n0_ := Aside0.mk (Kd.R_below (by (with_reducible repeat (first | apply Kd.R_alloc | apply Kd.R_drewN | apply Kd.R_drew)); exact HO_116.out) hb); have n1_ := Aside0.mk (below_step (by repeat (first | (with_reducible first | exact HB.out | apply below_alloc | apply pw_below_drewN | apply below_drew1) | exact HB.out)) hb); clear HO_116; clear HB; have HO_116 := n0_; have HB := n1_; clear n0_ n1_; (try clear hb); (try clear hb2); (try clear hk); (try clear hi)))
                                  go_roundg k3
                                  case measure => have := HJ7.out; have := HJ19.out; have := HK3.out; omega
                                  case rel => exact ⟨(wrap64 (x118_3 + 1)), (by first | rfl | (simp; done) | (simp [*]; done)), H', ⟨by have := HJ7.out; have := HJ19.out; have := HK3.out; omega⟩, ⟨by (with_reducible repeat (first | apply Kd.R_alloc | apply Kd.R_drewN | apply Kd.R_drew)); exact HO_116.out⟩, ⟨by repeat (first | (with_reducible first | exact HB.out | apply below_alloc | apply pw_below_drewN | apply below_drew1) | exact HB.out)⟩⟩
                              · replace c42 := Bool.eq_false_iff.mpr c42
                                subst c42
                                have H1 : (some false) = some r := by rw [if_neg (show ¬ (false = true) by decide)] at H; exact H
                                clear H
                                have H := H1
                                clear H1
                                obtain rfl := Option.some.inj H
                                have p186 : 0 ≤ (x118_3 : Int) := of_decide_eq_true (by first | (with_reducible assumption) | assumption)
                                have q186 : x118_3 < (y183.length : Int) := of_decide_eq_true (by first | (with_reducible assumption) | assumption)
                                obtain ⟨ad186, e186, hx186_0⟩ := Kd.at_int (Kd.R_reads' HO_116.out).2.2 x118_3 p186 q186
                                cases e186
                                replace p186 := eq_true p186
                                replace q186 := eq_true q186
                                go_wp2_with (first | ((with_reducible refine gate_callee (f := 25) rfl ?_); refine goesL_ (some 127) rfl rfl Try.func25 (by kernel_rfl) rfl #[.int .i64 t168, .int .i64 (wrap64 (Int.tdiv t169 (rd y183 x118_3)))] rfl (by (try simp only [List.map_toArray, List.map_cons, List.map_nil]); first | done | rfl | (simp only [List.length_drop, List.length_take]; rfl)) ?_; (with_reducible refine (impl_NimPower.calls k3 t168 (wrap64 (Int.tdiv t169 (rd y183 x118_3))) t187 false _ A41.out).mono ?_); rintro e w48 ⟨rfl, hb⟩; refine ⟨_, rfl, ?_⟩; have n0_ := Aside0.mk (Kd.R_below (by (with_reducible repeat (first | apply Kd.R_alloc | apply Kd.R_drewN | apply Kd.R_drew)); exact HO_116.out) hb); have n1_ := Aside0.mk (below_step (by repeat (first | (with_reducible first | exact HB.out | apply below_alloc | apply pw_below_drewN | apply below_drew1) | exact HB.out)) hb); clear HO_116; clear HB; have HO_116 := n0_; have HB := n1_; clear n0_ n1_; (try clear hb); (try clear hb2); (try clear hk); (try clear hi)))
                                go_ret
                                exact ⟨by first | rfl | (simp [errW_none, errW_some] <;> rfl) | (simp [*, errW_none, errW_some] <;> rfl), by repeat (first | (with_reducible first | exact HB.out | apply below_alloc | apply pw_below_drewN | apply below_drew1) | exact HB.out)⟩
                          · rw [if_neg c39] at H
                            exact absurd H (by simp)
                        · rw [if_neg c38] at H
                          exact absurd H (by simp)
                      · rw [if_neg c37] at H
                        have c37b0 : decide (x118_3 < (y183.length : Int)) = false := decide_eq_false c37
                        clear c37
                        replace H := Option.bind_eq_some_iff.mp H
                        obtain ⟨⟨t189, t190⟩, A490, H⟩ := H
                        replace H : (if t190 = true then (some (t189 == t173)) else (some false)) = some r := H
                        have A49 := Aside0.mk A490
                        clear A490
                        by_cases c50 : t190 = true
                        · subst c50
                          have H1 : (some (t189 == t173)) = some r := by rw [if_pos rfl] at H; exact H
                          clear H
                          have H := H1
                          clear H1
                          obtain rfl := Option.some.inj H
                          go_wp2_with (first | ((with_reducible refine gate_callee (f := 25) rfl ?_); refine goesL_ (some 147) rfl rfl Try.func25 (by kernel_rfl) rfl #[.int .i64 t168, .int .i64 (wrap64 (t169 - 1))] rfl (by (try simp only [List.map_toArray, List.map_cons, List.map_nil]); first | done | rfl | (simp only [List.length_drop, List.length_take]; rfl)) ?_; (with_reducible refine (impl_NimPower.calls k3 t168 (wrap64 (t169 - 1)) t189 true _ A49.out).mono ?_); rintro e w51 ⟨rfl, hb⟩; refine ⟨_, rfl, ?_⟩; have n0_ := Aside0.mk (Kd.R_below (by (with_reducible repeat (first | apply Kd.R_alloc | apply Kd.R_drewN | apply Kd.R_drew)); exact HO_116.out) hb); have n1_ := Aside0.mk (below_step (by repeat (first | (with_reducible first | exact HB.out | apply below_alloc | apply pw_below_drewN | apply below_drew1) | exact HB.out)) hb); clear HO_116; clear HB; have HO_116 := n0_; have HB := n1_; clear n0_ n1_; (try clear hb); (try clear hb2); (try clear hk); (try clear hi)))
                          go_ret
                          exact ⟨by first | rfl | (simp [errW_none, errW_some] <;> rfl) | (simp [*, errW_none, errW_some] <;> rfl), by repeat (first | (with_reducible first | exact HB.out | apply below_alloc | apply pw_below_drewN | apply below_drew1) | exact HB.out)⟩
                        · replace c50 := Bool.eq_false_iff.mpr c50
                          subst c50
                          have H1 : (some false) = some r := by rw [if_neg (show ¬ (false = true) by decide)] at H; exact H
                          clear H
                          have H := H1
                          clear H1
                          obtain rfl := Option.some.inj H
                          go_wp2_with (first | ((with_reducible refine gate_callee (f := 25) rfl ?_); refine goesL_ (some 147) rfl rfl Try.func25 (by kernel_rfl) rfl #[.int .i64 t168, .int .i64 (wrap64 (t169 - 1))] rfl (by (try simp only [List.map_toArray, List.map_cons, List.map_nil]); first | done | rfl | (simp only [List.length_drop, List.length_take]; rfl)) ?_; (with_reducible refine (impl_NimPower.calls k3 t168 (wrap64 (t169 - 1)) t189 false _ A49.out).mono ?_); rintro e w52 ⟨rfl, hb⟩; refine ⟨_, rfl, ?_⟩; have n0_ := Aside0.mk (Kd.R_below (by (with_reducible repeat (first | apply Kd.R_alloc | apply Kd.R_drewN | apply Kd.R_drew)); exact HO_116.out) hb); have n1_ := Aside0.mk (below_step (by repeat (first | (with_reducible first | exact HB.out | apply below_alloc | apply pw_below_drewN | apply below_drew1) | exact HB.out)) hb); clear HO_116; clear HB; have HO_116 := n0_; have HB := n1_; clear n0_ n1_; (try clear hb); (try clear hb2); (try clear hk); (try clear hi)))
                          go_ret
                          exact ⟨by first | rfl | (simp [errW_none, errW_some] <;> rfl) | (simp [*, errW_none, errW_some] <;> rfl), by repeat (first | (with_reducible first | exact HB.out | apply below_alloc | apply pw_below_drewN | apply below_drew1) | exact HB.out)⟩
          · replace c14 := Bool.eq_false_iff.mpr c14
            subst c14
            have H1 : (some true) = some r := by rw [if_neg (show ¬ (false = true) by decide)] at H; exact H
            clear H
            have H := H1
            clear H1
            obtain rfl := Option.some.inj H
            go_wp2
            go_ret
            exact ⟨by first | rfl | (simp [errW_none, errW_some] <;> rfl) | (simp [*, errW_none, errW_some] <;> rfl), by repeat (first | (with_reducible first | exact HB.out | apply below_alloc | apply pw_below_drewN | apply below_drew1) | exact HB.out)⟩

/-- THE ONE PURE STATEMENT of laws_FnNimInverses: yours. -/
def laws_FnNimInverses.Pure : Prop := ∀ (l0 : List Int) (l1 : List Int), l0.length ≤ maxLen → l0.length * 1 ≤ 140737488351232 → (∀ x ∈ l0, (Lit.int .u8 x).wf = true) → l1.length ≤ maxLen → l1.length * 1 ≤ 140737488351232 → (∀ x ∈ l1, (Lit.int .u8 x).wf = true) → ∃ k, laws_FnNimInverses.f k l0 l1 = some true
theorem laws_FnNimInverses.walk (P : laws_FnNimInverses.Pure) (a0 : Option Addr) (len0 cap0 : Nat) (z0 : List Int) (a1 : Option Addr) (len1 cap1 : Nat) (z1 : List Int) (w : World) (w0 : (a0 = none ∧ len0 = 0 ∧ cap0 = 0 ∧ z0 = []) ∨ ∃ x, a0 = some x ∧ len0 ≤ cap0 ∧ cap0 ≤ maxLen ∧ z0.length = cap0 ∧ (∀ i, i < z0.length → w.cell? (x.add i) = some (.int .u8 (z0.getD i 0))) ∧ ∀ n ∈ z0, (Lit.int .u8 n).wf = true) (y0 : len0 * 1 ≤ 140737488351232) (w1 : (a1 = none ∧ len1 = 0 ∧ cap1 = 0 ∧ z1 = []) ∨ ∃ x, a1 = some x ∧ len1 ≤ cap1 ∧ cap1 ≤ maxLen ∧ z1.length = cap1 ∧ (∀ i, i < z1.length → w.cell? (x.add i) = some (.int .u8 (z1.getD i 0))) ∧ ∀ n ∈ z1, (Lit.int .u8 n).wf = true) (y1 : len1 * 1 ≤ 140737488351232) :
    Calls Try.prog 4 #[.slice a0 len0 cap0, .slice a1 len1 cap1] w fun e w' => e = .returned (.bool true) ∧ Below w.heap.size w w' := by
  obtain ⟨l0, rfl, hr0, hm0, hw0, hc0⟩ := ReadsInt.ofRowC w0
  obtain ⟨l1, rfl, hr1, hm1, hw1, hc1⟩ := ReadsInt.ofRowC w1
  obtain ⟨k, h⟩ := P l0 l1 hm0 y0 hw0 hm1 y1 hw1
  refine (laws_FnNimInverses.calls k _ _ l0 _ _ l1 true w (Kd.C_of_reads (d := (0 : Int)) (h1 := fun _ => rfl) hr0) hc0 (Kd.C_of_reads (d := (0 : Int)) (h1 := fun _ => rfl) hr1) hc1 h).mono ?_
  rintro e w' ⟨rfl, hd⟩
  exact ⟨rfl, hd⟩

end Go.Proofs.Ytkbbipnocefmiaa.QFnNimInverses
