/- The Go functions that the law FnExactChopHead reaches, as Lean functions, and what their calls do. Written by a program of this session. -/
import Derived.Test.YtgjpfhedhehmdaaQFnExactChopHeadx0
import Derived.Test.YtgjpfhedhehmdaaQFnExactChopHeadx1
import Derived.Test.YtgjpfhedhehmdaaQFnExactChopHeadx2
import Derived.Test.YtgjpfhedhehmdaaQFnExactChopHeadx3
import Derived.Test.YtgjpfhedhehmdaaQFnExactChopHeadx5
namespace Go.Proofs.Ytgjpfhedhehmdaa.QFnExactChopHead
open Go.RowKit Go.Proofs.YtgjpfhedhehmdaaW.PrintWords Go.Proofs.YtgjpfhedhehmdaaW.PrintLast Go.Proofs.YtgjpfhedhehmdaaW.PrintMore
attribute [local go_sem] max2_int min2_int max_two min_two max_three min_three max_four min_four   -- for this text's walks alone
set_option linter.unusedVariables false
set_option linter.unusedSimpArgs false

/-! ### laws_FnExactChopHead: function 7 -/
mutual
def laws_FnExactChopHead.j0 : Nat → Int → Int → Bool → Bool → Bool → List Int → List Int → List Int → List Int → Option (Bool)
  | 0, _, _, _, _, _, _, _, _, _ => none
  | k + 1, x1, x2, x9, x12, x48, x243000, x252000, x256000, x261000 => if x48 = true then (some false) else ((laws_toHydra.f k x243000).bind fun t262 => ((laws_eqHydra.f k x256000 t262).bind fun t265 => (if t265 = true then ((laws_markHydra.f k x256000 1).bind fun bt266 => (if bt266.1 < 0 then (laws_FnExactChopHead.j1 k x1 x2 x9 true x243000 x252000 x261000) else ((laws_eqHydra.f k x261000 x252000).bind fun t268 => (if t268 = true then (laws_FnExactChopHead.j1 k x1 x2 x9 (x12 != x9) x243000 x252000 x261000) else (laws_FnExactChopHead.j1 k x1 x2 x9 true x243000 x252000 x261000))))) else (some false))))
def laws_FnExactChopHead.j1 : Nat → Int → Int → Bool → Bool → List Int → List Int → List Int → Option (Bool)
  | 0, _, _, _, _, _, _, _ => none
  | k + 1, x1, x2, x9, x69, x243000, x252000, x261000 => if x69 = true then (some false) else ((laws_markHydra.f k x261000 1).bind fun bt269 => ((laws_heldHydra.f k bt269.2 1).bind fun t271 => (if t271 < 0 then (some false) else (if t271 = bt269.1 then ((laws_toHydra.f k x243000).bind fun t272 => ((impl_ChopHead.f k t272 x1 x2).bind fun bt275 => ((laws_eqHydra.f k bt275.1 x252000).bind fun t280 => (if t280 = true then (laws_FnExactChopHead.j2 k bt269.1 (bt275.2 != x9) bt269.2) else (laws_FnExactChopHead.j2 k bt269.1 true bt269.2))))) else (some false)))))
def laws_FnExactChopHead.j2 : Nat → Int → Bool → List Int → Option (Bool)
  | 0, _, _, _ => none
  | k + 1, x14, x97, x261000 => if x97 = true then (some false) else ((laws_heldHydra.f k x261000 1).bind fun t281 => (if t281 < 0 then (some false) else (if t281 = x14 then (some true) else (some false))))
end
def laws_FnExactChopHead.f (k : Nat) (l0_0 : List Int) (a1 : Int) (a2 : Int) : Option (Bool) := (laws_szHydra.f l0_0 1048576).bind fun t243 => (if t243 < 0 then (some true) else ((laws_toHydra.f k l0_0).bind fun t244 => ((spec_ChopHead.f k t244 a1 a2).bind fun bt247 => ((laws_toHydra.f k l0_0).bind fun t252 => ((impl_ChopHead.f k t252 a1 a2).bind fun bt256 => ((laws_eqHydra.f k bt256.1 bt247.1).bind fun t261 => (if t261 = true then (laws_FnExactChopHead.j0 k a1 a2 bt247.2 bt256.2 (bt256.2 != bt247.2) l0_0 bt247.1 t252 bt256.1) else (laws_FnExactChopHead.j0 k a1 a2 bt247.2 bt256.2 true l0_0 bt247.1 t252 bt256.1))))))))
theorem laws_FnExactChopHead.mono_l : ∀ k, (∀ y0 y1 y2 y3 y4 y5 y6 y7 y8, LeO (laws_FnExactChopHead.j0 k y0 y1 y2 y3 y4 y5 y6 y7 y8) (laws_FnExactChopHead.j0 (k + 1) y0 y1 y2 y3 y4 y5 y6 y7 y8)) ∧ (∀ y0 y1 y2 y3 y4 y5 y6, LeO (laws_FnExactChopHead.j1 k y0 y1 y2 y3 y4 y5 y6) (laws_FnExactChopHead.j1 (k + 1) y0 y1 y2 y3 y4 y5 y6)) ∧ (∀ y0 y1 y2, LeO (laws_FnExactChopHead.j2 k y0 y1 y2) (laws_FnExactChopHead.j2 (k + 1) y0 y1 y2))
  | 0 => ⟨fun _ _ _ _ _ _ _ _ _ r h => by simp [laws_FnExactChopHead.j0] at h, fun _ _ _ _ _ _ _ r h => by simp [laws_FnExactChopHead.j1] at h, fun _ _ _ r h => by simp [laws_FnExactChopHead.j2] at h⟩
  | k + 1 => by
    obtain ⟨ih0, ih1, ih2⟩ := laws_FnExactChopHead.mono_l k
    refine ⟨?_, ?_, ?_⟩
    · intro y0 y1 y2 y3 y4 y5 y6 y7 y8
      unfold laws_FnExactChopHead.j0
      repeat' first
      | (with_reducible exact ih0 _ _ _ _ _ _ _ _ _)
      | (with_reducible exact ih1 _ _ _ _ _ _ _)
      | (with_reducible exact ih2 _ _ _)
      | (with_reducible exact impl_ChopHead.mono _ _ _ _)
      | (with_reducible exact laws_eqHydra.mono _ _ _)
      | (with_reducible exact laws_heldHydra.mono _ _ _)
      | (with_reducible exact laws_markHydra.mono _ _ _)
      | (with_reducible exact laws_toHydra.mono _ _)
      | (with_reducible exact spec_ChopHead.mono _ _ _ _)
      | (with_reducible exact LeO.refl _)
      | (with_reducible exact LeO.none _)
      | (with_reducible refine LeO.ite ?_ ?_)
      | (with_reducible refine LeO.bind ?_ (fun _ => ?_))
      | exact ih0 _ _ _ _ _ _ _ _ _
      | exact ih1 _ _ _ _ _ _ _
      | exact ih2 _ _ _
      | exact impl_ChopHead.mono _ _ _ _
      | exact laws_eqHydra.mono _ _ _
      | exact laws_heldHydra.mono _ _ _
      | exact laws_markHydra.mono _ _ _
      | exact laws_toHydra.mono _ _
      | exact spec_ChopHead.mono _ _ _ _
      | exact LeO.none _
      | refine LeO.ite ?_ ?_
      | refine LeO.bind ?_ (fun _ => ?_)
    · intro y0 y1 y2 y3 y4 y5 y6
      unfold laws_FnExactChopHead.j1
      repeat' first
      | (with_reducible exact ih0 _ _ _ _ _ _ _ _ _)
      | (with_reducible exact ih1 _ _ _ _ _ _ _)
      | (with_reducible exact ih2 _ _ _)
      | (with_reducible exact impl_ChopHead.mono _ _ _ _)
      | (with_reducible exact laws_eqHydra.mono _ _ _)
      | (with_reducible exact laws_heldHydra.mono _ _ _)
      | (with_reducible exact laws_markHydra.mono _ _ _)
      | (with_reducible exact laws_toHydra.mono _ _)
      | (with_reducible exact spec_ChopHead.mono _ _ _ _)
      | (with_reducible exact LeO.refl _)
      | (with_reducible exact LeO.none _)
      | (with_reducible refine LeO.ite ?_ ?_)
      | (with_reducible refine LeO.bind ?_ (fun _ => ?_))
      | exact ih0 _ _ _ _ _ _ _ _ _
      | exact ih1 _ _ _ _ _ _ _
      | exact ih2 _ _ _
      | exact impl_ChopHead.mono _ _ _ _
      | exact laws_eqHydra.mono _ _ _
      | exact laws_heldHydra.mono _ _ _
      | exact laws_markHydra.mono _ _ _
      | exact laws_toHydra.mono _ _
      | exact spec_ChopHead.mono _ _ _ _
      | exact LeO.none _
      | refine LeO.ite ?_ ?_
      | refine LeO.bind ?_ (fun _ => ?_)
    · intro y0 y1 y2
      unfold laws_FnExactChopHead.j2
      repeat' first
      | (with_reducible exact ih0 _ _ _ _ _ _ _ _ _)
      | (with_reducible exact ih1 _ _ _ _ _ _ _)
      | (with_reducible exact ih2 _ _ _)
      | (with_reducible exact impl_ChopHead.mono _ _ _ _)
      | (with_reducible exact laws_eqHydra.mono _ _ _)
      | (with_reducible exact laws_heldHydra.mono _ _ _)
      | (with_reducible exact laws_markHydra.mono _ _ _)
      | (with_reducible exact laws_toHydra.mono _ _)
      | (with_reducible exact spec_ChopHead.mono _ _ _ _)
      | (with_reducible exact LeO.refl _)
      | (with_reducible exact LeO.none _)
      | (with_reducible refine LeO.ite ?_ ?_)
      | (with_reducible refine LeO.bind ?_ (fun _ => ?_))
      | exact ih0 _ _ _ _ _ _ _ _ _
      | exact ih1 _ _ _ _ _ _ _
      | exact ih2 _ _ _
      | exact impl_ChopHead.mono _ _ _ _
      | exact laws_eqHydra.mono _ _ _
      | exact laws_heldHydra.mono _ _ _
      | exact laws_markHydra.mono _ _ _
      | exact laws_toHydra.mono _ _
      | exact spec_ChopHead.mono _ _ _ _
      | exact LeO.none _
      | refine LeO.ite ?_ ?_
      | refine LeO.bind ?_ (fun _ => ?_)
theorem laws_FnExactChopHead.mono : ∀ a0 a1 a2 k, LeO (laws_FnExactChopHead.f k a0 a1 a2) (laws_FnExactChopHead.f (k + 1) a0 a1 a2) := by
  intro a0 a1 a2 k
  obtain ⟨ih0, ih1, ih2⟩ := laws_FnExactChopHead.mono_l k
  unfold laws_FnExactChopHead.f
  repeat' first
      | (with_reducible exact ih0 _ _ _ _ _ _ _ _ _)
      | (with_reducible exact ih1 _ _ _ _ _ _ _)
      | (with_reducible exact ih2 _ _ _)
      | (with_reducible exact impl_ChopHead.mono _ _ _ _)
      | (with_reducible exact laws_eqHydra.mono _ _ _)
      | (with_reducible exact laws_heldHydra.mono _ _ _)
      | (with_reducible exact laws_markHydra.mono _ _ _)
      | (with_reducible exact laws_toHydra.mono _ _)
      | (with_reducible exact spec_ChopHead.mono _ _ _ _)
      | (with_reducible exact LeO.refl _)
      | (with_reducible exact LeO.none _)
      | (with_reducible refine LeO.ite ?_ ?_)
      | (with_reducible refine LeO.bind ?_ (fun _ => ?_))
      | exact ih0 _ _ _ _ _ _ _ _ _
      | exact ih1 _ _ _ _ _ _ _
      | exact ih2 _ _ _
      | exact impl_ChopHead.mono _ _ _ _
      | exact laws_eqHydra.mono _ _ _
      | exact laws_heldHydra.mono _ _ _
      | exact laws_markHydra.mono _ _ _
      | exact laws_toHydra.mono _ _
      | exact spec_ChopHead.mono _ _ _ _
      | exact LeO.none _
      | refine LeO.ite ?_ ?_
      | refine LeO.bind ?_ (fun _ => ?_)
set_option maxHeartbeats 8000000 in
set_option maxRecDepth 100000 in
theorem laws_FnExactChopHead.calls (k : Nat) (A0_0 : Option Addr) (c0_0 : Nat) (l0_0 : List Int) (a1 : Int) (a2 : Int) (r : Bool) (w : World) (hr0_0 : Kd.C (Kd.int .i64) w A0_0 l0_0.length l0_0) (hc0_0 : l0_0.length ≤ c0_0) (h : laws_FnExactChopHead.f k l0_0 a1 a2 = some r) :
    Calls Try.prog 7 #[.agg #[.slice A0_0 l0_0.length c0_0], .int .i64 a1, .int .i64 a2] w fun e w' => e = .returned (.bool r) ∧ Below w.heap.size w w' := by
  have hu41 := Try.underlying41
  have hu43 := Try.underlying43
  have HR0_0 := Aside0.mk hr0_0
  have HC0_0 := Aside0.mk hc0_0
  clear hr0_0 hc0_0
  have HB := Aside0.mk (Below.refl w.heap.size w)
  have H : ((laws_szHydra.f l0_0 1048576).bind fun t243 => (if t243 < 0 then (some true) else ((laws_toHydra.f k l0_0).bind fun t244 => ((spec_ChopHead.f k t244 a1 a2).bind fun bt247 => ((laws_toHydra.f k l0_0).bind fun t252 => ((impl_ChopHead.f k t252 a1 a2).bind fun bt256 => ((laws_eqHydra.f k bt256.1 bt247.1).bind fun t261 => (if t261 = true then (laws_FnExactChopHead.j0 k a1 a2 bt247.2 bt256.2 (bt256.2 != bt247.2) l0_0 bt247.1 t252 bt256.1) else (laws_FnExactChopHead.j0 k a1 a2 bt247.2 bt256.2 true l0_0 bt247.1 t252 bt256.1))))))))) = some r := h
  clear h
  replace H := Option.bind_eq_some_iff.mp H
  obtain ⟨t243, A40, H⟩ := H
  replace H : (if t243 < 0 then (some true) else ((laws_toHydra.f k l0_0).bind fun t244 => ((spec_ChopHead.f k t244 a1 a2).bind fun bt247 => ((laws_toHydra.f k l0_0).bind fun t252 => ((impl_ChopHead.f k t252 a1 a2).bind fun bt256 => ((laws_eqHydra.f k bt256.1 bt247.1).bind fun t261 => (if t261 = true then (laws_FnExactChopHead.j0 k a1 a2 bt247.2 bt256.2 (bt256.2 != bt247.2) l0_0 bt247.1 t252 bt256.1) else (laws_FnExactChopHead.j0 k a1 a2 bt247.2 bt256.2 true l0_0 bt247.1 t252 bt256.1)))))))) = some r := H
  have A4 := Aside0.mk A40
  clear A40
  by_cases c5 : t243 < 0
  · rw [if_pos c5] at H
    have c5b0 : decide (t243 < 0) = true := decide_eq_true c5
    clear c5
    obtain rfl := Option.some.inj H
    go_enter Try.func7, Try.ntmps7
    go_wp2_with (first | ((with_reducible refine gate_dst (N := 3) rfl ?_); refine box_event ?hg (N := 3) ?hd (cs := #[.slice A0_0 l0_0.length c0_0]) (t := 41) ?hr ?_; (case hd => rfl); (case hg => rfl); (case hr => first | (go_simp; done) | (go_simp; rfl)); intro gb242 hg w6 hbox hb; have n0_ := Aside0.mk (below_step (by repeat (first | (with_reducible first | exact HB.out | apply below_alloc | apply pw_below_drewN | apply below_drew1) | exact HB.out)) hb); have n1_ := Aside0.mk (hbox); have n2_ := Aside0.mk ((by rw [hg]; exact (below_size (by repeat (first | (with_reducible first | exact HB.out | apply below_alloc | apply pw_below_drewN | apply below_drew1) | exact HB.out))) : w.heap.size ≤ gb242)); have n3_ := Aside0.mk ((by rw [hg]; exact (below_size (by repeat (first | (with_reducible first | exact HB.out | apply below_alloc | apply pw_below_drewN | apply below_drew1) | exact HB.out))) : w.heap.size ≤ gb242)); clear HB; have HB := n0_; have BK242 := n1_; have GW242 := n2_; have GE242 := n3_; clear n0_ n1_ n2_ n3_; clear hb hbox hg; have hcz7_0 : w6.cell? ⟨gb242, 0, none⟩ = some (.slice A0_0 l0_0.length c0_0) := (blk_cell BK242.out 0).trans rfl; have hfz7_0 := blk_frozen BK242.out 0) | ((with_reducible refine gate_callee (f := 23) rfl ?_); refine goesL_ (some 20) rfl rfl Try.func23 (by kernel_rfl) rfl #[.agg #[.slice A0_0 l0_0.length c0_0], .int .i64 1048576] rfl (by (try simp only [List.map_toArray, List.map_cons, List.map_nil]); first | done | rfl | (simp only [List.length_drop, List.length_take]; rfl)) ?_; (with_reducible refine (laws_szHydra.calls _ _ l0_0 1048576 t243 _ ?side1 ?side2 A4.out).mono ?_); (case side1 => repeat (first | exact (Kd.C_below HR0_0.out HB.out) | (with_reducible refine Kd.C_alloc ?_ _) | (with_reducible refine Kd.C_drewN ?_ _) | (with_reducible refine Kd.C_drew ?_))); (case side2 => exact HC0_0.out); rintro e w8 ⟨rfl, hb⟩; refine ⟨_, rfl, ?_⟩; have n0_ := Aside0.mk (blk_below (g := gb242) (o := .cells #[.slice A0_0 l0_0.length c0_0] 41 (0, 0)) (by (with_reducible repeat (first | refine blk_drewN ?_ _ | refine blk_drew ?_ | refine blk_alloc ?_ _)); exact BK242.out) hb); have n1_ := Aside0.mk (below_step (by repeat (first | (with_reducible first | exact HB.out | apply below_alloc | apply pw_below_drewN | apply below_drew1 | refine below_set ?_ GE242.out) | exact HB.out)) hb); clear BK242; clear HB; have BK242 := n0_; have HB := n1_; clear n0_ n1_; (try clear hb); (try clear hb2); (try clear hk); (try clear hi)))
    go_ret
    exact ⟨by first | rfl | (simp [errW_none, errW_some] <;> rfl) | (simp [*, errW_none, errW_some] <;> rfl), by repeat (first | (with_reducible first | exact HB.out | apply below_alloc | apply pw_below_drewN | apply below_drew1 | refine below_set ?_ GE242.out) | exact HB.out)⟩
  · rw [if_neg c5] at H
    have c5b0 : decide (t243 < 0) = false := decide_eq_false c5
    clear c5
    replace H := Option.bind_eq_some_iff.mp H
    obtain ⟨t244, A90, H⟩ := H
    replace H : ((spec_ChopHead.f k t244 a1 a2).bind fun bt247 => ((laws_toHydra.f k l0_0).bind fun t252 => ((impl_ChopHead.f k t252 a1 a2).bind fun bt256 => ((laws_eqHydra.f k bt256.1 bt247.1).bind fun t261 => (if t261 = true then (laws_FnExactChopHead.j0 k a1 a2 bt247.2 bt256.2 (bt256.2 != bt247.2) l0_0 bt247.1 t252 bt256.1) else (laws_FnExactChopHead.j0 k a1 a2 bt247.2 bt256.2 true l0_0 bt247.1 t252 bt256.1)))))) = some r := H
    have A9 := Aside0.mk A90
    clear A90
    replace H := Option.bind_eq_some_iff.mp H
    obtain ⟨⟨t247, t250⟩, A100, H⟩ := H
    replace H : ((laws_toHydra.f k l0_0).bind fun t252 => ((impl_ChopHead.f k t252 a1 a2).bind fun bt256 => ((laws_eqHydra.f k bt256.1 t247).bind fun t261 => (if t261 = true then (laws_FnExactChopHead.j0 k a1 a2 t250 bt256.2 (bt256.2 != t250) l0_0 t247 t252 bt256.1) else (laws_FnExactChopHead.j0 k a1 a2 t250 bt256.2 true l0_0 t247 t252 bt256.1))))) = some r := H
    have A10 := Aside0.mk A100
    clear A100
    replace H := Option.bind_eq_some_iff.mp H
    obtain ⟨t252, A110, H⟩ := H
    replace H : ((impl_ChopHead.f k t252 a1 a2).bind fun bt256 => ((laws_eqHydra.f k bt256.1 t247).bind fun t261 => (if t261 = true then (laws_FnExactChopHead.j0 k a1 a2 t250 bt256.2 (bt256.2 != t250) l0_0 t247 t252 bt256.1) else (laws_FnExactChopHead.j0 k a1 a2 t250 bt256.2 true l0_0 t247 t252 bt256.1)))) = some r := H
    have A11 := Aside0.mk A110
    clear A110
    replace H := Option.bind_eq_some_iff.mp H
    obtain ⟨⟨t256, t259⟩, A120, H⟩ := H
    replace H : ((laws_eqHydra.f k t256 t247).bind fun t261 => (if t261 = true then (laws_FnExactChopHead.j0 k a1 a2 t250 t259 (t259 != t250) l0_0 t247 t252 t256) else (laws_FnExactChopHead.j0 k a1 a2 t250 t259 true l0_0 t247 t252 t256))) = some r := H
    have A12 := Aside0.mk A120
    clear A120
    have HC13 := Aside0.mk H
    clear H
    go_enter Try.func7, Try.ntmps7
    go_upto_region 8 with (first | ((with_reducible refine gate_dst (N := 3) rfl ?_); refine box_event ?hg (N := 3) ?hd (cs := #[.slice A0_0 l0_0.length c0_0]) (t := 41) ?hr ?_; (case hd => rfl); (case hg => rfl); (case hr => first | (go_simp; done) | (go_simp; rfl)); intro gb242 hg w14 hbox hb; have n0_ := Aside0.mk (below_step (by repeat (first | (with_reducible first | exact HB.out | apply below_alloc | apply pw_below_drewN | apply below_drew1) | exact HB.out)) hb); have n1_ := Aside0.mk (hbox); have n2_ := Aside0.mk ((by rw [hg]; exact (below_size (by repeat (first | (with_reducible first | exact HB.out | apply below_alloc | apply pw_below_drewN | apply below_drew1) | exact HB.out))) : w.heap.size ≤ gb242)); have n3_ := Aside0.mk ((by rw [hg]; exact (below_size (by repeat (first | (with_reducible first | exact HB.out | apply below_alloc | apply pw_below_drewN | apply below_drew1) | exact HB.out))) : w.heap.size ≤ gb242)); clear HB; have HB := n0_; have BK242 := n1_; have GW242 := n2_; have GE242 := n3_; clear n0_ n1_ n2_ n3_; clear hb hbox hg; have hcz15_0 : w14.cell? ⟨gb242, 0, none⟩ = some (.slice A0_0 l0_0.length c0_0) := (blk_cell BK242.out 0).trans rfl; have hfz15_0 := blk_frozen BK242.out 0) | ((with_reducible refine gate_callee (f := 23) rfl ?_); refine goesL_ (some 20) rfl rfl Try.func23 (by kernel_rfl) rfl #[.agg #[.slice A0_0 l0_0.length c0_0], .int .i64 1048576] rfl (by (try simp only [List.map_toArray, List.map_cons, List.map_nil]); first | done | rfl | (simp only [List.length_drop, List.length_take]; rfl)) ?_; (with_reducible refine (laws_szHydra.calls _ _ l0_0 1048576 t243 _ ?side1 ?side2 A4.out).mono ?_); (case side1 => repeat (first | exact (Kd.C_below HR0_0.out HB.out) | (with_reducible refine Kd.C_alloc ?_ _) | (with_reducible refine Kd.C_drewN ?_ _) | (with_reducible refine Kd.C_drew ?_))); (case side2 => exact HC0_0.out); rintro e w16 ⟨rfl, hb⟩; refine ⟨_, rfl, ?_⟩; have n0_ := Aside0.mk (blk_below (g := gb242) (o := .cells #[.slice A0_0 l0_0.length c0_0] 41 (0, 0)) (by (with_reducible repeat (first | refine blk_drewN ?_ _ | refine blk_drew ?_ | refine blk_alloc ?_ _)); exact BK242.out) hb); have n1_ := Aside0.mk (below_step (by repeat (first | (with_reducible first | exact HB.out | apply below_alloc | apply pw_below_drewN | apply below_drew1 | refine below_set ?_ GE242.out) | exact HB.out)) hb); clear BK242; clear HB; have BK242 := n0_; have HB := n1_; clear n0_ n1_; (try clear hb); (try clear hb2); (try clear hk); (try clear hi); have hcz17_0 : w16.cell? ⟨gb242, 0, none⟩ = some (.slice A0_0 l0_0.length c0_0) := (blk_cell BK242.out 0).trans rfl; have hfz17_0 := blk_frozen BK242.out 0) | ((with_reducible refine gate_callee (f := 25) rfl ?_); refine goesL_ (some 25) rfl rfl Try.func25 (by kernel_rfl) rfl #[.agg #[.slice A0_0 l0_0.length c0_0]] rfl (by (try simp only [List.map_toArray, List.map_cons, List.map_nil]); first | done | rfl | (simp only [List.length_drop, List.length_take]; rfl)) ?_; (with_reducible refine (laws_toHydra.calls k _ _ l0_0 t244 _ ?side1 ?side2 A9.out).mono ?_); (case side1 => repeat (first | exact (Kd.C_below HR0_0.out HB.out) | (with_reducible refine Kd.C_alloc ?_ _) | (with_reducible refine Kd.C_drewN ?_ _) | (with_reducible refine Kd.C_drew ?_))); (case side2 => exact HC0_0.out); rintro e w18 ⟨v245, rfl, ho0, hb⟩; refine ⟨_, rfl, ?_⟩; have n0_ := Aside0.mk (Kd.R_lower ho0 (below_size (by repeat (first | (with_reducible first | exact HB.out | apply below_alloc | apply pw_below_drewN | apply below_drew1 | refine below_set ?_ GE242.out) | exact HB.out)))); have n1_ := Aside0.mk (blk_below (g := gb242) (o := .cells #[.slice A0_0 l0_0.length c0_0] 41 (0, 0)) (by (with_reducible repeat (first | refine blk_drewN ?_ _ | refine blk_drew ?_ | refine blk_alloc ?_ _)); exact BK242.out) hb); have n2_ := Aside0.mk (below_step (by repeat (first | (with_reducible first | exact HB.out | apply below_alloc | apply pw_below_drewN | apply below_drew1 | refine below_set ?_ GE242.out) | exact HB.out)) hb); clear BK242; clear HB; have HO246 := n0_; have BK242 := n1_; have HB := n2_; clear n0_ n1_ n2_; (try clear hb); (try clear hb2); (try clear hk); (try clear hi); (try clear ho0); obtain ⟨Ao19, co19, eo19⟩ := Kd.R_slice HO246.out; subst eo19) | ((with_reducible refine gate_callee (f := 24) rfl ?_); refine goesL_ (some 28) rfl rfl Try.func24 (by kernel_rfl) rfl #[.agg #[.slice Ao19 t244.length co19], .int .i64 a1, .int .i64 a2] rfl (by (try simp only [List.map_toArray, List.map_cons, List.map_nil]); first | done | rfl | (simp only [List.length_drop, List.length_take]; rfl)) ?_; (with_reducible refine (spec_ChopHead.calls k _ _ t244 a1 a2 t247 t250 _ ?side1 ?side2 A10.out).mono ?_); (case side1 => repeat (first | exact (Kd.R_reads' HO246.out).2.2 | (with_reducible refine Kd.C_alloc ?_ _) | (with_reducible refine Kd.C_drewN ?_ _) | (with_reducible refine Kd.C_drew ?_))); (case side2 => exact (Kd.R_reads' HO246.out).2.1); rintro e w20 ⟨v248, rfl, ho0, hb⟩; refine ⟨_, rfl, ?_⟩; have n0_ := Aside0.mk (Kd.R_elder' (by (with_reducible repeat (first | apply Kd.R_alloc | apply Kd.R_drewN | apply Kd.R_drew)); exact HO246.out) (Kd.R_base ho0) hb); have n1_ := Aside0.mk (Kd.R_lower (Kd.R_new' ho0 (Kd.R_lt (by (with_reducible repeat (first | apply Kd.R_alloc | apply Kd.R_drewN | apply Kd.R_drew)); exact HO246.out))) (below_size (by repeat (first | (with_reducible first | exact HB.out | apply below_alloc | apply pw_below_drewN | apply below_drew1 | refine below_set ?_ GE242.out) | exact HB.out)))); have n2_ := Aside0.mk (blk_below (g := gb242) (o := .cells #[.slice A0_0 l0_0.length c0_0] 41 (0, 0)) (by (with_reducible repeat (first | refine blk_drewN ?_ _ | refine blk_drew ?_ | refine blk_alloc ?_ _)); exact BK242.out) hb); have n3_ := Aside0.mk (below_step (by repeat (first | (with_reducible first | exact HB.out | apply below_alloc | apply pw_below_drewN | apply below_drew1 | refine below_set ?_ GE242.out) | exact HB.out)) hb); clear HO246; clear BK242; clear HB; have HO246 := n0_; have HO249 := n1_; have BK242 := n2_; have HB := n3_; clear n0_ n1_ n2_ n3_; (try clear hb); (try clear hb2); (try clear hk); (try clear hi); (try clear ho0)) | ((with_reducible refine gate_dst (N := 8) rfl ?_); refine box_event ?hg (N := 8) ?hd (cs := #[.slice none 0 0]) (t := 43) ?hr ?_; (case hd => rfl); (case hg => rfl); (case hr => first | (go_simp; done) | (go_simp; rfl)); intro gb251 hg w21 hbox hb; have n0_ := Aside0.mk (Kd.R_below (by (with_reducible repeat (first | apply Kd.R_alloc | apply Kd.R_drewN | apply Kd.R_drew)); exact HO246.out) hb); have n1_ := Aside0.mk (Kd.R_below (by (with_reducible repeat (first | apply Kd.R_alloc | apply Kd.R_drewN | apply Kd.R_drew)); exact HO249.out) hb); have n2_ := Aside0.mk (blk_below (g := gb242) (o := .cells #[.slice A0_0 l0_0.length c0_0] 41 (0, 0)) (by (with_reducible repeat (first | refine blk_drewN ?_ _ | refine blk_drew ?_ | refine blk_alloc ?_ _)); exact BK242.out) hb); have n3_ := Aside0.mk (below_step (by repeat (first | (with_reducible first | exact HB.out | apply below_alloc | apply pw_below_drewN | apply below_drew1 | refine below_set ?_ GE242.out) | exact HB.out)) hb); have n4_ := Aside0.mk (hbox); have n5_ := Aside0.mk ((by rw [hg]; exact (below_size (by repeat (first | (with_reducible first | exact HB.out | apply below_alloc | apply pw_below_drewN | apply below_drew1 | refine below_set ?_ GE242.out) | exact HB.out))) : w.heap.size ≤ gb251)); have n6_ := Aside0.mk ((by rw [hg]; exact (below_size (by repeat (first | (with_reducible first | exact HB.out | apply below_alloc | apply pw_below_drewN | apply below_drew1 | refine below_set ?_ GE242.out) | exact HB.out))) : w.heap.size ≤ gb251)); have n7_ := Aside0.mk ((by rw [hg]; exact Nat.ne_of_lt (blk_lt (g := gb242) (o := .cells #[.slice A0_0 l0_0.length c0_0] 41 (0, 0)) (by (with_reducible repeat (first | refine blk_drewN ?_ _ | refine blk_drew ?_ | refine blk_alloc ?_ _)); exact BK242.out)) : gb242 ≠ gb251)); have n8_ := Aside0.mk ((by rw [hg]; exact Nat.ne_of_gt (blk_lt (g := gb242) (o := .cells #[.slice A0_0 l0_0.length c0_0] 41 (0, 0)) (by (with_reducible repeat (first | refine blk_drewN ?_ _ | refine blk_drew ?_ | refine blk_alloc ?_ _)); exact BK242.out)) : gb251 ≠ gb242)); clear HO246; clear HO249; clear BK242; clear HB; have HO246 := n0_; have HO249 := n1_; have BK242 := n2_; have HB := n3_; have BK251 := n4_; have GW251 := n5_; have GE251 := n6_; have NB242_251 := n7_; have NB251_242 := n8_; clear n0_ n1_ n2_ n3_ n4_ n5_ n6_ n7_ n8_; clear hb hbox hg; obtain ⟨Ao22, co22, eo22⟩ := Kd.R_slice HO249.out; subst eo22; have hnb23 := NB251_242.out; have hnc23 := NB242_251.out; have hcz24_0 : w21.cell? ⟨gb251, 0, none⟩ = some (.slice none 0 0) := (blk_cell BK251.out 0).trans rfl; have hfz24_0 := blk_frozen BK251.out 0; have hcz25_0 : w21.cell? ⟨gb242, 0, none⟩ = some (.slice A0_0 l0_0.length c0_0) := (blk_cell BK242.out 0).trans rfl; have hfz25_0 := blk_frozen BK242.out 0) | ((with_reducible refine gate_callee (f := 25) rfl ?_); refine goesL_ (some 32) rfl rfl Try.func25 (by kernel_rfl) rfl #[.agg #[.slice A0_0 l0_0.length c0_0]] rfl (by (try simp only [List.map_toArray, List.map_cons, List.map_nil]); first | done | rfl | (simp only [List.length_drop, List.length_take]; rfl)) ?_; (with_reducible refine (laws_toHydra.calls k _ _ l0_0 t252 _ ?side1 ?side2 A11.out).mono ?_); (case side1 => exact Kd.C_below HR0_0.out (by repeat (first | (with_reducible first | exact HB.out | apply below_alloc | apply pw_below_drewN | apply below_drew1 | refine below_set ?_ GE242.out | refine below_set ?_ GE251.out) | exact HB.out))); (case side2 => exact HC0_0.out); rintro e w26 ⟨v253, rfl, ho0, hb⟩; refine ⟨_, rfl, ?_⟩; have n0_ := Aside0.mk (Kd.R_elder' (by (with_reducible repeat (first | apply Kd.R_alloc | apply Kd.R_drewN | apply Kd.R_drew)); exact (Kd.R_mono (Kd.R_far (p := ⟨gb251, 0, none⟩) (Kd.R_types HO246.out BK251.out (by decide)) (fun _ hk => hk.2) (.slice Ao22 t247.length co22)) (fun _ h_ => h_.1))) (Kd.R_base ho0) hb); have n1_ := Aside0.mk (Kd.R_elder' (by (with_reducible repeat (first | apply Kd.R_alloc | apply Kd.R_drewN | apply Kd.R_drew)); exact (Kd.R_mono (Kd.R_far (p := ⟨gb251, 0, none⟩) (Kd.R_types HO249.out BK251.out (by decide)) (fun _ hk => hk.2) (.slice Ao22 t247.length co22)) (fun _ h_ => h_.1))) (Kd.R_base ho0) hb); have n2_ := Aside0.mk (Kd.R_lower (Kd.R_new' (Kd.R_new' ho0 (Kd.R_lt (by (with_reducible repeat (first | apply Kd.R_alloc | apply Kd.R_drewN | apply Kd.R_drew)); exact (Kd.R_mono (Kd.R_far (p := ⟨gb251, 0, none⟩) (Kd.R_types HO246.out BK251.out (by decide)) (fun _ hk => hk.2) (.slice Ao22 t247.length co22)) (fun _ h_ => h_.1))))) (Kd.R_lt (by (with_reducible repeat (first | apply Kd.R_alloc | apply Kd.R_drewN | apply Kd.R_drew)); exact (Kd.R_mono (Kd.R_far (p := ⟨gb251, 0, none⟩) (Kd.R_types HO249.out BK251.out (by decide)) (fun _ hk => hk.2) (.slice Ao22 t247.length co22)) (fun _ h_ => h_.1))))) (below_size (by repeat (first | (with_reducible first | exact HB.out | apply below_alloc | apply pw_below_drewN | apply below_drew1 | refine below_set ?_ GE242.out | refine below_set ?_ GE251.out) | exact HB.out)))); have n3_ := Aside0.mk (blk_below (g := gb242) (o := .cells #[.slice A0_0 l0_0.length c0_0] 41 (0, 0)) (by (with_reducible repeat (first | refine blk_drewN ?_ _ | refine blk_drew ?_ | refine blk_alloc ?_ _)); refine blk_far ?_ NB242_251.out _; (with_reducible repeat (first | refine blk_drewN ?_ _ | refine blk_drew ?_ | refine blk_alloc ?_ _)); exact BK242.out) hb); have n4_ := Aside0.mk (blk_below (g := gb251) (o := .cells #[.slice Ao22 t247.length co22] 43 (0, 0)) (by (with_reducible repeat (first | refine blk_drewN ?_ _ | refine blk_drew ?_ | refine blk_alloc ?_ _)); refine blk_put (cs := #[.slice none 0 0]) ?_ 0 _ rfl; (with_reducible repeat (first | refine blk_drewN ?_ _ | refine blk_drew ?_ | refine blk_alloc ?_ _)); exact BK251.out) hb); have n5_ := Aside0.mk (below_step (by repeat (first | (with_reducible first | exact HB.out | apply below_alloc | apply pw_below_drewN | apply below_drew1 | refine below_set ?_ GE242.out | refine below_set ?_ GE251.out) | exact HB.out)) hb); clear HO246; clear HO249; clear BK242; clear BK251; clear HB; have HO246 := n0_; have HO249 := n1_; have HO254 := n2_; have BK242 := n3_; have BK251 := n4_; have HB := n5_; clear n0_ n1_ n2_ n3_ n4_ n5_; (try clear hb); (try clear hb2); (try clear hk); (try clear hi); (try clear ho0)) | ((with_reducible refine gate_dst (N := 10) rfl ?_); refine box_event ?hg (N := 10) ?hd (cs := #[.slice none 0 0]) (t := 43) ?hr ?_; (case hd => rfl); (case hg => rfl); (case hr => first | (go_simp; done) | (go_simp; rfl)); intro gb255 hg w27 hbox hb; have n0_ := Aside0.mk (Kd.R_below (by (with_reducible repeat (first | apply Kd.R_alloc | apply Kd.R_drewN | apply Kd.R_drew)); exact HO246.out) hb); have n1_ := Aside0.mk (Kd.R_below (by (with_reducible repeat (first | apply Kd.R_alloc | apply Kd.R_drewN | apply Kd.R_drew)); exact HO249.out) hb); have n2_ := Aside0.mk (Kd.R_below (by (with_reducible repeat (first | apply Kd.R_alloc | apply Kd.R_drewN | apply Kd.R_drew)); exact HO254.out) hb); have n3_ := Aside0.mk (blk_below (g := gb242) (o := .cells #[.slice A0_0 l0_0.length c0_0] 41 (0, 0)) (by (with_reducible repeat (first | refine blk_drewN ?_ _ | refine blk_drew ?_ | refine blk_alloc ?_ _)); exact BK242.out) hb); have n4_ := Aside0.mk (blk_below (g := gb251) (o := .cells #[.slice Ao22 t247.length co22] 43 (0, 0)) (by (with_reducible repeat (first | refine blk_drewN ?_ _ | refine blk_drew ?_ | refine blk_alloc ?_ _)); exact BK251.out) hb); have n5_ := Aside0.mk (below_step (by repeat (first | (with_reducible first | exact HB.out | apply below_alloc | apply pw_below_drewN | apply below_drew1 | refine below_set ?_ GE242.out | refine below_set ?_ GE251.out) | exact HB.out)) hb); have n6_ := Aside0.mk (hbox); have n7_ := Aside0.mk ((by rw [hg]; exact (below_size (by repeat (first | (with_reducible first | exact HB.out | apply below_alloc | apply pw_below_drewN | apply below_drew1 | refine below_set ?_ GE242.out | refine below_set ?_ GE251.out) | exact HB.out))) : w.heap.size ≤ gb255)); have n8_ := Aside0.mk ((by rw [hg]; exact (below_size (by repeat (first | (with_reducible first | exact HB.out | apply below_alloc | apply pw_below_drewN | apply below_drew1 | refine below_set ?_ GE242.out | refine below_set ?_ GE251.out) | exact HB.out))) : w.heap.size ≤ gb255)); have n9_ := Aside0.mk ((by rw [hg]; exact Nat.ne_of_lt (blk_lt (g := gb242) (o := .cells #[.slice A0_0 l0_0.length c0_0] 41 (0, 0)) (by (with_reducible repeat (first | refine blk_drewN ?_ _ | refine blk_drew ?_ | refine blk_alloc ?_ _)); exact BK242.out)) : gb242 ≠ gb255)); have n10_ := Aside0.mk ((by rw [hg]; exact Nat.ne_of_gt (blk_lt (g := gb242) (o := .cells #[.slice A0_0 l0_0.length c0_0] 41 (0, 0)) (by (with_reducible repeat (first | refine blk_drewN ?_ _ | refine blk_drew ?_ | refine blk_alloc ?_ _)); exact BK242.out)) : gb255 ≠ gb242)); have n11_ := Aside0.mk ((by rw [hg]; exact Nat.ne_of_lt (blk_lt (g := gb251) (o := .cells #[.slice Ao22 t247.length co22] 43 (0, 0)) (by (with_reducible repeat (first | refine blk_drewN ?_ _ | refine blk_drew ?_ | refine blk_alloc ?_ _)); exact BK251.out)) : gb251 ≠ gb255)); have n12_ := Aside0.mk ((by rw [hg]; exact Nat.ne_of_gt (blk_lt (g := gb251) (o := .cells #[.slice Ao22 t247.length co22] 43 (0, 0)) (by (with_reducible repeat (first | refine blk_drewN ?_ _ | refine blk_drew ?_ | refine blk_alloc ?_ _)); exact BK251.out)) : gb255 ≠ gb251)); clear HO246; clear HO249; clear HO254; clear BK242; clear BK251; clear HB; have HO246 := n0_; have HO249 := n1_; have HO254 := n2_; have BK242 := n3_; have BK251 := n4_; have HB := n5_; have BK255 := n6_; have GW255 := n7_; have GE255 := n8_; have NB242_255 := n9_; have NB255_242 := n10_; have NB251_255 := n11_; have NB255_251 := n12_; clear n0_ n1_ n2_ n3_ n4_ n5_ n6_ n7_ n8_ n9_ n10_ n11_ n12_; clear hb hbox hg; obtain ⟨Ao28, co28, eo28⟩ := Kd.R_slice HO254.out; subst eo28; have hnb29 := NB255_242.out; have hnc29 := NB242_255.out; have hnb30 := NB255_251.out; have hnc30 := NB251_255.out; have hcz31_0 : w27.cell? ⟨gb255, 0, none⟩ = some (.slice none 0 0) := (blk_cell BK255.out 0).trans rfl; have hfz31_0 := blk_frozen BK255.out 0) | ((with_reducible refine gate_callee (f := 26) rfl ?_); refine goesL_ (some 37) rfl rfl Try.func26 (by kernel_rfl) rfl #[.agg #[.slice Ao28 t252.length co28], .int .i64 a1, .int .i64 a2] rfl (by (try simp only [List.map_toArray, List.map_cons, List.map_nil]); first | done | rfl | (simp only [List.length_drop, List.length_take]; rfl)) ?_; (with_reducible refine (impl_ChopHead.calls k _ _ t252 a1 a2 t256 t259 _ ?side1 ?side2 A12.out).mono ?_); (case side1 => refine (Kd.R_reads' (e := 3) (base := w.heap.size) (ok := fun k_ => ((True ∧ some k_ ≠ (.slice Ao19 t244.length co19 : Value).ownBlock) ∧ some k_ ≠ (.slice Ao22 t247.length co22 : Value).ownBlock)) (n := t252.length) (c := co28) ?_).2.2; exact (by (with_reducible repeat (first | apply Kd.R_alloc | apply Kd.R_drewN | apply Kd.R_drew)); exact (Kd.R_mono (Kd.R_far (p := ⟨gb255, 0, none⟩) (Kd.R_types HO254.out BK255.out (by decide)) (fun _ hk => hk.2) (.slice Ao28 t252.length co28)) (fun _ h_ => h_.1)))); (case side2 => exact (Kd.R_reads' HO254.out).2.1); rintro e w32 ⟨v257, rfl, ho0, hb⟩; refine ⟨_, rfl, ?_⟩; have n0_ := Aside0.mk (Kd.R_elder' (by (with_reducible repeat (first | apply Kd.R_alloc | apply Kd.R_drewN | apply Kd.R_drew)); exact (Kd.R_mono (Kd.R_far (p := ⟨gb255, 0, none⟩) (Kd.R_types HO246.out BK255.out (by decide)) (fun _ hk => hk.2) (.slice Ao28 t252.length co28)) (fun _ h_ => h_.1))) (Kd.R_base ho0) hb); have n1_ := Aside0.mk (Kd.R_elder' (by (with_reducible repeat (first | apply Kd.R_alloc | apply Kd.R_drewN | apply Kd.R_drew)); exact (Kd.R_mono (Kd.R_far (p := ⟨gb255, 0, none⟩) (Kd.R_types HO249.out BK255.out (by decide)) (fun _ hk => hk.2) (.slice Ao28 t252.length co28)) (fun _ h_ => h_.1))) (Kd.R_base ho0) hb); have n2_ := Aside0.mk (Kd.R_elder' (by (with_reducible repeat (first | apply Kd.R_alloc | apply Kd.R_drewN | apply Kd.R_drew)); exact (Kd.R_mono (Kd.R_far (p := ⟨gb255, 0, none⟩) (Kd.R_types HO254.out BK255.out (by decide)) (fun _ hk => hk.2) (.slice Ao28 t252.length co28)) (fun _ h_ => h_.1))) (Kd.R_base ho0) hb); have n3_ := Aside0.mk (Kd.R_lower (Kd.R_new' (Kd.R_new' (Kd.R_new' ho0 (Kd.R_lt (by (with_reducible repeat (first | apply Kd.R_alloc | apply Kd.R_drewN | apply Kd.R_drew)); exact (Kd.R_mono (Kd.R_far (p := ⟨gb255, 0, none⟩) (Kd.R_types HO246.out BK255.out (by decide)) (fun _ hk => hk.2) (.slice Ao28 t252.length co28)) (fun _ h_ => h_.1))))) (Kd.R_lt (by (with_reducible repeat (first | apply Kd.R_alloc | apply Kd.R_drewN | apply Kd.R_drew)); exact (Kd.R_mono (Kd.R_far (p := ⟨gb255, 0, none⟩) (Kd.R_types HO249.out BK255.out (by decide)) (fun _ hk => hk.2) (.slice Ao28 t252.length co28)) (fun _ h_ => h_.1))))) (Kd.R_lt (by (with_reducible repeat (first | apply Kd.R_alloc | apply Kd.R_drewN | apply Kd.R_drew)); exact (Kd.R_mono (Kd.R_far (p := ⟨gb255, 0, none⟩) (Kd.R_types HO254.out BK255.out (by decide)) (fun _ hk => hk.2) (.slice Ao28 t252.length co28)) (fun _ h_ => h_.1))))) (below_size (by repeat (first | (with_reducible first | exact HB.out | apply below_alloc | apply pw_below_drewN | apply below_drew1 | refine below_set ?_ GE242.out | refine below_set ?_ GE251.out | refine below_set ?_ GE255.out) | exact HB.out)))); have n4_ := Aside0.mk (blk_below (g := gb242) (o := .cells #[.slice A0_0 l0_0.length c0_0] 41 (0, 0)) (by (with_reducible repeat (first | refine blk_drewN ?_ _ | refine blk_drew ?_ | refine blk_alloc ?_ _)); refine blk_far ?_ NB242_255.out _; (with_reducible repeat (first | refine blk_drewN ?_ _ | refine blk_drew ?_ | refine blk_alloc ?_ _)); exact BK242.out) hb); have n5_ := Aside0.mk (blk_below (g := gb251) (o := .cells #[.slice Ao22 t247.length co22] 43 (0, 0)) (by (with_reducible repeat (first | refine blk_drewN ?_ _ | refine blk_drew ?_ | refine blk_alloc ?_ _)); refine blk_far ?_ NB251_255.out _; (with_reducible repeat (first | refine blk_drewN ?_ _ | refine blk_drew ?_ | refine blk_alloc ?_ _)); exact BK251.out) hb); have n6_ := Aside0.mk (blk_below (g := gb255) (o := .cells #[.slice Ao28 t252.length co28] 43 (0, 0)) (by (with_reducible repeat (first | refine blk_drewN ?_ _ | refine blk_drew ?_ | refine blk_alloc ?_ _)); refine blk_put (cs := #[.slice none 0 0]) ?_ 0 _ rfl; (with_reducible repeat (first | refine blk_drewN ?_ _ | refine blk_drew ?_ | refine blk_alloc ?_ _)); exact BK255.out) hb); have n7_ := Aside0.mk (below_step (by repeat (first | (with_reducible first | exact HB.out | apply below_alloc | apply pw_below_drewN | apply below_drew1 | refine below_set ?_ GE242.out | refine below_set ?_ GE251.out | refine below_set ?_ GE255.out) | exact HB.out)) hb); clear HO246; clear HO249; clear HO254; clear BK242; clear BK251; clear BK255; clear HB; have HO246 := n0_; have HO249 := n1_; have HO254 := n2_; have HO258 := n3_; have BK242 := n4_; have BK251 := n5_; have BK255 := n6_; have HB := n7_; clear n0_ n1_ n2_ n3_ n4_ n5_ n6_ n7_; (try clear hb); (try clear hb2); (try clear hk); (try clear hi); (try clear ho0)) | ((with_reducible refine gate_dst (N := 11) rfl ?_); refine box_event ?hg (N := 11) ?hd (cs := #[.slice none 0 0]) (t := 43) ?hr ?_; (case hd => rfl); (case hg => rfl); (case hr => first | (go_simp; done) | (go_simp; rfl)); intro gb260 hg w33 hbox hb; have n0_ := Aside0.mk (Kd.R_below (by (with_reducible repeat (first | apply Kd.R_alloc | apply Kd.R_drewN | apply Kd.R_drew)); exact HO246.out) hb); have n1_ := Aside0.mk (Kd.R_below (by (with_reducible repeat (first | apply Kd.R_alloc | apply Kd.R_drewN | apply Kd.R_drew)); exact HO249.out) hb); have n2_ := Aside0.mk (Kd.R_below (by (with_reducible repeat (first | apply Kd.R_alloc | apply Kd.R_drewN | apply Kd.R_drew)); exact HO254.out) hb); have n3_ := Aside0.mk (Kd.R_below (by (with_reducible repeat (first | apply Kd.R_alloc | apply Kd.R_drewN | apply Kd.R_drew)); exact HO258.out) hb); have n4_ := Aside0.mk (blk_below (g := gb242) (o := .cells #[.slice A0_0 l0_0.length c0_0] 41 (0, 0)) (by (with_reducible repeat (first | refine blk_drewN ?_ _ | refine blk_drew ?_ | refine blk_alloc ?_ _)); exact BK242.out) hb); have n5_ := Aside0.mk (blk_below (g := gb251) (o := .cells #[.slice Ao22 t247.length co22] 43 (0, 0)) (by (with_reducible repeat (first | refine blk_drewN ?_ _ | refine blk_drew ?_ | refine blk_alloc ?_ _)); exact BK251.out) hb); have n6_ := Aside0.mk (blk_below (g := gb255) (o := .cells #[.slice Ao28 t252.length co28] 43 (0, 0)) (by (with_reducible repeat (first | refine blk_drewN ?_ _ | refine blk_drew ?_ | refine blk_alloc ?_ _)); exact BK255.out) hb); have n7_ := Aside0.mk (below_step (by repeat (first | (with_reducible first | exact HB.out | apply below_alloc | apply pw_below_drewN | apply below_drew1 | refine below_set ?_ GE242.out | refine below_set ?_ GE251.out | refine below_set ?_ GE255.out) | exact HB.out)) hb); have n8_ := Aside0.mk (hbox); have n9_ := Aside0.mk ((by rw [hg]; exact (below_size (by repeat (first | (with_reducible first | exact HB.out | apply below_alloc | apply pw_below_drewN | apply below_drew1 | refine below_set ?_ GE242.out | refine below_set ?_ GE251.out | refine below_set ?_ GE255.out) | exact HB.out))) : w.heap.size ≤ gb260)); have n10_ := Aside0.mk ((by rw [hg]; exact (below_size (by repeat (first | (with_reducible first | exact HB.out | apply below_alloc | apply pw_below_drewN | apply below_drew1 | refine below_set ?_ GE242.out | refine below_set ?_ GE251.out | refine below_set ?_ GE255.out) | exact HB.out))) : w.heap.size ≤ gb260)); have n11_ := Aside0.mk ((by rw [hg]; exact Nat.ne_of_lt (blk_lt (g := gb242) (o := .cells #[.slice A0_0 l0_0.length c0_0] 41 (0, 0)) (by (with_reducible repeat (first | refine blk_drewN ?_ _ | refine blk_drew ?_ | refine blk_alloc ?_ _)); exact BK242.out)) : gb242 ≠ gb260)); have n12_ := Aside0.mk ((by rw [hg]; exact Nat.ne_of_gt (blk_lt (g := gb242) (o := .cells #[.slice A0_0 l0_0.length c0_0] 41 (0, 0)) (by (with_reducible repeat (first | refine blk_drewN ?_ _ | refine blk_drew ?_ | refine blk_alloc ?_ _)); exact BK242.out)) : gb260 ≠ gb242)); have n13_ := Aside0.mk ((by rw [hg]; exact Nat.ne_of_lt (blk_lt (g := gb251) (o := .cells #[.slice Ao22 t247.length co22] 43 (0, 0)) (by (with_reducible repeat (first | refine blk_drewN ?_ _ | refine blk_drew ?_ | refine blk_alloc ?_ _)); exact BK251.out)) : gb251 ≠ gb260)); have n14_ := Aside0.mk ((by rw [hg]; exact Nat.ne_of_gt (blk_lt (g := gb251) (o := .cells #[.slice Ao22 t247.length co22] 43 (0, 0)) (by (with_reducible repeat (first | refine blk_drewN ?_ _ | refine blk_drew ?_ | refine blk_alloc ?_ _)); exact BK251.out)) : gb260 ≠ gb251)); have n15_ := Aside0.mk ((by rw [hg]; exact Nat.ne_of_lt (blk_lt (g := gb255) (o := .cells #[.slice Ao28 t252.length co28] 43 (0, 0)) (by (with_reducible repeat (first | refine blk_drewN ?_ _ | refine blk_drew ?_ | refine blk_alloc ?_ _)); exact BK255.out)) : gb255 ≠ gb260)); have n16_ := Aside0.mk ((by rw [hg]; exact Nat.ne_of_gt (blk_lt (g := gb255) (o := .cells #[.slice Ao28 t252.length co28] 43 (0, 0)) (by (with_reducible repeat (first | refine blk_drewN ?_ _ | refine blk_drew ?_ | refine blk_alloc ?_ _)); exact BK255.out)) : gb260 ≠ gb255)); clear HO246; clear HO249; clear HO254; clear HO258; clear BK242; clear BK251; clear BK255; clear HB; have HO246 := n0_; have HO249 := n1_; have HO254 := n2_; have HO258 := n3_; have BK242 := n4_; have BK251 := n5_; have BK255 := n6_; have HB := n7_; have BK260 := n8_; have GW260 := n9_; have GE260 := n10_; have NB242_260 := n11_; have NB260_242 := n12_; have NB251_260 := n13_; have NB260_251 := n14_; have NB255_260 := n15_; have NB260_255 := n16_; clear n0_ n1_ n2_ n3_ n4_ n5_ n6_ n7_ n8_ n9_ n10_ n11_ n12_ n13_ n14_ n15_ n16_; clear hb hbox hg; obtain ⟨Ao34, co34, eo34⟩ := Kd.R_slice HO258.out; subst eo34; have hnb35 := NB260_242.out; have hnc35 := NB242_260.out; have hnb36 := NB260_251.out; have hnc36 := NB251_260.out; have hnb37 := NB260_255.out; have hnc37 := NB255_260.out; have hcz38_0 : w33.cell? ⟨gb260, 0, none⟩ = some (.slice none 0 0) := (blk_cell BK260.out 0).trans rfl; have hfz38_0 := blk_frozen BK260.out 0))
    (try simp only [Act.put, List.setIfInBounds_toArray, List.set_cons_zero, List.set_cons_succ])
    go_cut [48] (fun v48 wc => ∃ (kq : Nat) (x48_12 : Bool), v48 = .bool x48_12 ∧ Aside0 (laws_FnExactChopHead.j0 kq a1 a2 t250 t259 x48_12 l0_0 t247 t252 t256 = some r) ∧ Aside0 (kq ≤ k) ∧ Aside0 (Kd.R (Kd.int .i64) 3 wc w.heap.size (fun k_ => some k_ ≠ ((.slice Ao28 t252.length co28) : Value).ownBlock ∧ some k_ ≠ ((.slice Ao34 t256.length co34) : Value).ownBlock) (.slice Ao22 t247.length co22) t247) ∧ Aside0 (Kd.R (Kd.int .i64) 3 wc w.heap.size (fun k_ => some k_ ≠ ((.slice Ao22 t247.length co22) : Value).ownBlock ∧ some k_ ≠ ((.slice Ao34 t256.length co34) : Value).ownBlock) (.slice Ao28 t252.length co28) t252) ∧ Aside0 (Kd.R (Kd.int .i64) 3 wc w.heap.size (fun k_ => some k_ ≠ ((.slice Ao22 t247.length co22) : Value).ownBlock ∧ some k_ ≠ ((.slice Ao28 t252.length co28) : Value).ownBlock) (.slice Ao34 t256.length co34) t256) ∧ Aside0 (wc.heap[gb242]? = some (.cells #[(.slice A0_0 l0_0.length c0_0)] 41 (0, 0))) ∧ Aside0 (wc.heap[gb251]? = some (.cells #[(.slice Ao22 t247.length co22)] 43 (0, 0))) ∧ Aside0 (wc.heap[gb255]? = some (.cells #[(.slice Ao28 t252.length co28)] 43 (0, 0))) ∧ Aside0 (wc.heap[gb260]? = some (.cells #[(.slice Ao34 t256.length co34)] 43 (0, 0))) ∧ Aside0 (Below w.heap.size w wc))
    case first =>
      have H := HC13.out
      clear HC13
      replace H := Option.bind_eq_some_iff.mp H
      obtain ⟨t261, A390, H⟩ := H
      replace H : (if t261 = true then (laws_FnExactChopHead.j0 k a1 a2 t250 t259 (t259 != t250) l0_0 t247 t252 t256) else (laws_FnExactChopHead.j0 k a1 a2 t250 t259 true l0_0 t247 t252 t256)) = some r := H
      have A39 := Aside0.mk A390
      clear A390
      by_cases c40 : t261 = true
      · subst c40
        have H1 : (laws_FnExactChopHead.j0 k a1 a2 t250 t259 (t259 != t250) l0_0 t247 t252 t256) = some r := by rw [if_pos rfl] at H; exact H
        clear H
        have H := H1
        clear H1
        have H' := Aside0.mk H
        clear H
        have hnb41 := NB260_242.out
        have hnc41 := NB242_260.out
        have hnb42 := NB260_251.out
        have hnc42 := NB251_260.out
        have hnb43 := NB260_255.out
        have hnc43 := NB255_260.out
        have hcz44_0 : w33.cell? ⟨gb260, 0, none⟩ = some (.slice none 0 0) := (blk_cell BK260.out 0).trans rfl
        have hfz44_0 := blk_frozen BK260.out 0
        have hnb45 := NB251_242.out
        have hnc45 := NB242_251.out
        have hnb46 := NB251_255.out
        have hnc46 := NB255_251.out
        have hcz47_0 : w33.cell? ⟨gb251, 0, none⟩ = some (.slice Ao22 t247.length co22) := (blk_cell BK251.out 0).trans rfl
        have hfz47_0 := blk_frozen BK251.out 0
        go_wp2_with (first | ((with_reducible refine gate_callee (f := 27) rfl ?_); refine goesL_ (some 42) rfl rfl Try.func27 (by kernel_rfl) rfl #[.agg #[.slice Ao34 t256.length co34], .agg #[.slice Ao22 t247.length co22]] rfl (by (try simp only [List.map_toArray, List.map_cons, List.map_nil]); first | done | rfl | (simp only [List.length_drop, List.length_take]; rfl)) ?_; (with_reducible refine (laws_eqHydra.calls k _ _ t256 _ _ t247 true _ ?side1 ?side2 ?side3 ?side4 A39.out).mono ?_); (case side1 => refine (Kd.R_reads' (e := 3) (base := w.heap.size) (ok := fun k_ => (((True ∧ some k_ ≠ (.slice Ao19 t244.length co19 : Value).ownBlock) ∧ some k_ ≠ (.slice Ao22 t247.length co22 : Value).ownBlock) ∧ some k_ ≠ (.slice Ao28 t252.length co28 : Value).ownBlock)) (n := t256.length) (c := co34) ?_).2.2; exact (by (with_reducible repeat (first | apply Kd.R_alloc | apply Kd.R_drewN | apply Kd.R_drew)); exact (Kd.R_mono (Kd.R_far (p := ⟨gb260, 0, none⟩) (Kd.R_types HO258.out BK260.out (by decide)) (fun _ hk => hk.2) (.slice Ao34 t256.length co34)) (fun _ h_ => h_.1)))); (case side2 => exact (Kd.R_reads' HO258.out).2.1); (case side3 => refine (Kd.R_reads' (e := 3) (base := w.heap.size) (ok := fun k_ => (((True ∧ some k_ ≠ (.slice Ao19 t244.length co19 : Value).ownBlock) ∧ some k_ ≠ (.slice Ao28 t252.length co28 : Value).ownBlock) ∧ some k_ ≠ (.slice Ao34 t256.length co34 : Value).ownBlock)) (n := t247.length) (c := co22) ?_).2.2; exact (by (with_reducible repeat (first | apply Kd.R_alloc | apply Kd.R_drewN | apply Kd.R_drew)); exact (Kd.R_mono (Kd.R_far (p := ⟨gb260, 0, none⟩) (Kd.R_types HO249.out BK260.out (by decide)) (fun _ hk => hk.2) (.slice Ao34 t256.length co34)) (fun _ h_ => h_.1)))); (case side4 => exact (Kd.R_reads' HO249.out).2.1); rintro e w48 ⟨rfl, hb⟩; refine ⟨_, rfl, ?_⟩; have n0_ := Aside0.mk (Kd.R_below (by (with_reducible repeat (first | apply Kd.R_alloc | apply Kd.R_drewN | apply Kd.R_drew)); exact (Kd.R_mono (Kd.R_far (p := ⟨gb260, 0, none⟩) (Kd.R_types HO246.out BK260.out (by decide)) (fun _ hk => hk.2) (.slice Ao34 t256.length co34)) (fun _ h_ => h_.1))) hb); have n1_ := Aside0.mk (Kd.R_below (by (with_reducible repeat (first | apply Kd.R_alloc | apply Kd.R_drewN | apply Kd.R_drew)); exact (Kd.R_mono (Kd.R_far (p := ⟨gb260, 0, none⟩) (Kd.R_types HO249.out BK260.out (by decide)) (fun _ hk => hk.2) (.slice Ao34 t256.length co34)) (fun _ h_ => h_.1))) hb); have n2_ := Aside0.mk (Kd.R_below (by (with_reducible repeat (first | apply Kd.R_alloc | apply Kd.R_drewN | apply Kd.R_drew)); exact (Kd.R_mono (Kd.R_far (p := ⟨gb260, 0, none⟩) (Kd.R_types HO254.out BK260.out (by decide)) (fun _ hk => hk.2) (.slice Ao34 t256.length co34)) (fun _ h_ => h_.1))) hb); have n3_ := Aside0.mk (Kd.R_below (by (with_reducible repeat (first | apply Kd.R_alloc | apply Kd.R_drewN | apply Kd.R_drew)); exact (Kd.R_mono (Kd.R_far (p := ⟨gb260, 0, none⟩) (Kd.R_types HO258.out BK260.out (by decide)) (fun _ hk => hk.2) (.slice Ao34 t256.length co34)) (fun _ h_ => h_.1))) hb); have n4_ := Aside0.mk (blk_below (g := gb242) (o := .cells #[.slice A0_0 l0_0.length c0_0] 41 (0, 0)) (by (with_reducible repeat (first | refine blk_drewN ?_ _ | refine blk_drew ?_ | refine blk_alloc ?_ _)); refine blk_far ?_ NB242_260.out _; (with_reducible repeat (first | refine blk_drewN ?_ _ | refine blk_drew ?_ | refine blk_alloc ?_ _)); exact BK242.out) hb); have n5_ := Aside0.mk (blk_below (g := gb251) (o := .cells #[.slice Ao22 t247.length co22] 43 (0, 0)) (by (with_reducible repeat (first | refine blk_drewN ?_ _ | refine blk_drew ?_ | refine blk_alloc ?_ _)); refine blk_far ?_ NB251_260.out _; (with_reducible repeat (first | refine blk_drewN ?_ _ | refine blk_drew ?_ | refine blk_alloc ?_ _)); exact BK251.out) hb); have n6_ := Aside0.mk (blk_below (g := gb255) (o := .cells #[.slice Ao28 t252.length co28] 43 (0, 0)) (by (with_reducible repeat (first | refine blk_drewN ?_ _ | refine blk_drew ?_ | refine blk_alloc ?_ _)); refine blk_far ?_ NB255_260.out _; (with_reducible repeat (first | refine blk_drewN ?_ _ | refine blk_drew ?_ | refine blk_alloc ?_ _)); exact BK255.out) hb); have n7_ := Aside0.mk (blk_below (g := gb260) (o := .cells #[.slice Ao34 t256.length co34] 43 (0, 0)) (by (with_reducible repeat (first | refine blk_drewN ?_ _ | refine blk_drew ?_ | refine blk_alloc ?_ _)); refine blk_put (cs := #[.slice none 0 0]) ?_ 0 _ rfl; (with_reducible repeat (first | refine blk_drewN ?_ _ | refine blk_drew ?_ | refine blk_alloc ?_ _)); exact BK260.out) hb); have n8_ := Aside0.mk (below_step (by repeat (first | (with_reducible first | exact HB.out | apply below_alloc | apply pw_below_drewN | apply below_drew1 | refine below_set ?_ GE242.out | refine below_set ?_ GE251.out | refine below_set ?_ GE255.out | refine below_set ?_ GE260.out) | exact HB.out)) hb); clear HO246; clear HO249; clear HO254; clear HO258; clear BK242; clear BK251; clear BK255; clear BK260; clear HB; have HO246 := n0_; have HO249 := n1_; have HO254 := n2_; have HO258 := n3_; have BK242 := n4_; have BK251 := n5_; have BK255 := n6_; have BK260 := n7_; have HB := n8_; clear n0_ n1_ n2_ n3_ n4_ n5_ n6_ n7_ n8_; (try clear hb); (try clear hb2); (try clear hk); (try clear hi)))
        go_meet
        case rel => exact ⟨_, ((t259 != t250)), (by first | rfl | (simp; done) | (simp [*]; done)), H', ⟨by first | omega | exact Nat.le_refl _⟩, ⟨by (with_reducible repeat (first | apply Kd.R_alloc | apply Kd.R_drewN | apply Kd.R_drew)); exact Kd.R_mono HO249.out (fun _ hk => ⟨hk.1.2, hk.2⟩)⟩, ⟨by (with_reducible repeat (first | apply Kd.R_alloc | apply Kd.R_drewN | apply Kd.R_drew)); exact Kd.R_mono HO254.out (fun _ hk => ⟨hk.1.2, hk.2⟩)⟩, ⟨by (with_reducible repeat (first | apply Kd.R_alloc | apply Kd.R_drewN | apply Kd.R_drew)); exact Kd.R_mono HO258.out (fun _ hk => ⟨hk.1.2, hk.2⟩)⟩, ⟨by (with_reducible repeat (first | refine blk_drewN ?_ _ | refine blk_drew ?_ | refine blk_alloc ?_ _)); exact BK242.out⟩, ⟨by (with_reducible repeat (first | refine blk_drewN ?_ _ | refine blk_drew ?_ | refine blk_alloc ?_ _)); exact BK251.out⟩, ⟨by (with_reducible repeat (first | refine blk_drewN ?_ _ | refine blk_drew ?_ | refine blk_alloc ?_ _)); exact BK255.out⟩, ⟨by (with_reducible repeat (first | refine blk_drewN ?_ _ | refine blk_drew ?_ | refine blk_alloc ?_ _)); exact BK260.out⟩, ⟨by repeat (first | (with_reducible first | exact HB.out | apply below_alloc | apply pw_below_drewN | apply below_drew1 | refine below_set ?_ GE242.out | refine below_set ?_ GE251.out | refine below_set ?_ GE255.out | refine below_set ?_ GE260.out) | exact HB.out)⟩⟩
      · replace c40 := Bool.eq_false_iff.mpr c40
        subst c40
        have H1 : (laws_FnExactChopHead.j0 k a1 a2 t250 t259 true l0_0 t247 t252 t256) = some r := by rw [if_neg (show ¬ (false = true) by decide)] at H; exact H
        clear H
        have H := H1
        clear H1
        have H' := Aside0.mk H
        clear H
        have hnb49 := NB260_242.out
        have hnc49 := NB242_260.out
        have hnb50 := NB260_251.out
        have hnc50 := NB251_260.out
        have hnb51 := NB260_255.out
        have hnc51 := NB255_260.out
        have hcz52_0 : w33.cell? ⟨gb260, 0, none⟩ = some (.slice none 0 0) := (blk_cell BK260.out 0).trans rfl
        have hfz52_0 := blk_frozen BK260.out 0
        have hnb53 := NB251_242.out
        have hnc53 := NB242_251.out
        have hnb54 := NB251_255.out
        have hnc54 := NB255_251.out
        have hcz55_0 : w33.cell? ⟨gb251, 0, none⟩ = some (.slice Ao22 t247.length co22) := (blk_cell BK251.out 0).trans rfl
        have hfz55_0 := blk_frozen BK251.out 0
        go_wp2_with (first | ((with_reducible refine gate_callee (f := 27) rfl ?_); refine goesL_ (some 42) rfl rfl Try.func27 (by kernel_rfl) rfl #[.agg #[.slice Ao34 t256.length co34], .agg #[.slice Ao22 t247.length co22]] rfl (by (try simp only [List.map_toArray, List.map_cons, List.map_nil]); first | done | rfl | (simp only [List.length_drop, List.length_take]; rfl)) ?_; (with_reducible refine (laws_eqHydra.calls k _ _ t256 _ _ t247 false _ ?side1 ?side2 ?side3 ?side4 A39.out).mono ?_); (case side1 => refine (Kd.R_reads' (e := 3) (base := w.heap.size) (ok := fun k_ => (((True ∧ some k_ ≠ (.slice Ao19 t244.length co19 : Value).ownBlock) ∧ some k_ ≠ (.slice Ao22 t247.length co22 : Value).ownBlock) ∧ some k_ ≠ (.slice Ao28 t252.length co28 : Value).ownBlock)) (n := t256.length) (c := co34) ?_).2.2; exact (by (with_reducible repeat (first | apply Kd.R_alloc | apply Kd.R_drewN | apply Kd.R_drew)); exact (Kd.R_mono (Kd.R_far (p := ⟨gb260, 0, none⟩) (Kd.R_types HO258.out BK260.out (by decide)) (fun _ hk => hk.2) (.slice Ao34 t256.length co34)) (fun _ h_ => h_.1)))); (case side2 => exact (Kd.R_reads' HO258.out).2.1); (case side3 => refine (Kd.R_reads' (e := 3) (base := w.heap.size) (ok := fun k_ => (((True ∧ some k_ ≠ (.slice Ao19 t244.length co19 : Value).ownBlock) ∧ some k_ ≠ (.slice Ao28 t252.length co28 : Value).ownBlock) ∧ some k_ ≠ (.slice Ao34 t256.length co34 : Value).ownBlock)) (n := t247.length) (c := co22) ?_).2.2; exact (by (with_reducible repeat (first | apply Kd.R_alloc | apply Kd.R_drewN | apply Kd.R_drew)); exact (Kd.R_mono (Kd.R_far (p := ⟨gb260, 0, none⟩) (Kd.R_types HO249.out BK260.out (by decide)) (fun _ hk => hk.2) (.slice Ao34 t256.length co34)) (fun _ h_ => h_.1)))); (case side4 => exact (Kd.R_reads' HO249.out).2.1); rintro e w56 ⟨rfl, hb⟩; refine ⟨_, rfl, ?_⟩; have n0_ := Aside0.mk (Kd.R_below (by (with_reducible repeat (first | apply Kd.R_alloc | apply Kd.R_drewN | apply Kd.R_drew)); exact (Kd.R_mono (Kd.R_far (p := ⟨gb260, 0, none⟩) (Kd.R_types HO246.out BK260.out (by decide)) (fun _ hk => hk.2) (.slice Ao34 t256.length co34)) (fun _ h_ => h_.1))) hb); have n1_ := Aside0.mk (Kd.R_below (by (with_reducible repeat (first | apply Kd.R_alloc | apply Kd.R_drewN | apply Kd.R_drew)); exact (Kd.R_mono (Kd.R_far (p := ⟨gb260, 0, none⟩) (Kd.R_types HO249.out BK260.out (by decide)) (fun _ hk => hk.2) (.slice Ao34 t256.length co34)) (fun _ h_ => h_.1))) hb); have n2_ := Aside0.mk (Kd.R_below (by (with_reducible repeat (first | apply Kd.R_alloc | apply Kd.R_drewN | apply Kd.R_drew)); exact (Kd.R_mono (Kd.R_far (p := ⟨gb260, 0, none⟩) (Kd.R_types HO254.out BK260.out (by decide)) (fun _ hk => hk.2) (.slice Ao34 t256.length co34)) (fun _ h_ => h_.1))) hb); have n3_ := Aside0.mk (Kd.R_below (by (with_reducible repeat (first | apply Kd.R_alloc | apply Kd.R_drewN | apply Kd.R_drew)); exact (Kd.R_mono (Kd.R_far (p := ⟨gb260, 0, none⟩) (Kd.R_types HO258.out BK260.out (by decide)) (fun _ hk => hk.2) (.slice Ao34 t256.length co34)) (fun _ h_ => h_.1))) hb); have n4_ := Aside0.mk (blk_below (g := gb242) (o := .cells #[.slice A0_0 l0_0.length c0_0] 41 (0, 0)) (by (with_reducible repeat (first | refine blk_drewN ?_ _ | refine blk_drew ?_ | refine blk_alloc ?_ _)); refine blk_far ?_ NB242_260.out _; (with_reducible repeat (first | refine blk_drewN ?_ _ | refine blk_drew ?_ | refine blk_alloc ?_ _)); exact BK242.out) hb); have n5_ := Aside0.mk (blk_below (g := gb251) (o := .cells #[.slice Ao22 t247.length co22] 43 (0, 0)) (by (with_reducible repeat (first | refine blk_drewN ?_ _ | refine blk_drew ?_ | refine blk_alloc ?_ _)); refine blk_far ?_ NB251_260.out _; (with_reducible repeat (first | refine blk_drewN ?_ _ | refine blk_drew ?_ | refine blk_alloc ?_ _)); exact BK251.out) hb); have n6_ := Aside0.mk (blk_below (g := gb255) (o := .cells #[.slice Ao28 t252.length co28] 43 (0, 0)) (by (with_reducible repeat (first | refine blk_drewN ?_ _ | refine blk_drew ?_ | refine blk_alloc ?_ _)); refine blk_far ?_ NB255_260.out _; (with_reducible repeat (first | refine blk_drewN ?_ _ | refine blk_drew ?_ | refine blk_alloc ?_ _)); exact BK255.out) hb); have n7_ := Aside0.mk (blk_below (g := gb260) (o := .cells #[.slice Ao34 t256.length co34] 43 (0, 0)) (by (with_reducible repeat (first | refine blk_drewN ?_ _ | refine blk_drew ?_ | refine blk_alloc ?_ _)); refine blk_put (cs := #[.slice none 0 0]) ?_ 0 _ rfl; (with_reducible repeat (first | refine blk_drewN ?_ _ | refine blk_drew ?_ | refine blk_alloc ?_ _)); exact BK260.out) hb); have n8_ := Aside0.mk (below_step (by repeat (first | (with_reducible first | exact HB.out | apply below_alloc | apply pw_below_drewN | apply below_drew1 | refine below_set ?_ GE242.out | refine below_set ?_ GE251.out | refine below_set ?_ GE255.out | refine below_set ?_ GE260.out) | exact HB.out)) hb); clear HO246; clear HO249; clear HO254; clear HO258; clear BK242; clear BK251; clear BK255; clear BK260; clear HB; have HO246 := n0_; have HO249 := n1_; have HO254 := n2_; have HO258 := n3_; have BK242 := n4_; have BK251 := n5_; have BK255 := n6_; have BK260 := n7_; have HB := n8_; clear n0_ n1_ n2_ n3_ n4_ n5_ n6_ n7_ n8_; (try clear hb); (try clear hb2); (try clear hk); (try clear hi)))
        go_meet
        case rel => exact ⟨_, (true), (by first | rfl | (simp; done) | (simp [*]; done)), H', ⟨by first | omega | exact Nat.le_refl _⟩, ⟨by (with_reducible repeat (first | apply Kd.R_alloc | apply Kd.R_drewN | apply Kd.R_drew)); exact Kd.R_mono HO249.out (fun _ hk => ⟨hk.1.2, hk.2⟩)⟩, ⟨by (with_reducible repeat (first | apply Kd.R_alloc | apply Kd.R_drewN | apply Kd.R_drew)); exact Kd.R_mono HO254.out (fun _ hk => ⟨hk.1.2, hk.2⟩)⟩, ⟨by (with_reducible repeat (first | apply Kd.R_alloc | apply Kd.R_drewN | apply Kd.R_drew)); exact Kd.R_mono HO258.out (fun _ hk => ⟨hk.1.2, hk.2⟩)⟩, ⟨by (with_reducible repeat (first | refine blk_drewN ?_ _ | refine blk_drew ?_ | refine blk_alloc ?_ _)); exact BK242.out⟩, ⟨by (with_reducible repeat (first | refine blk_drewN ?_ _ | refine blk_drew ?_ | refine blk_alloc ?_ _)); exact BK251.out⟩, ⟨by (with_reducible repeat (first | refine blk_drewN ?_ _ | refine blk_drew ?_ | refine blk_alloc ?_ _)); exact BK255.out⟩, ⟨by (with_reducible repeat (first | refine blk_drewN ?_ _ | refine blk_drew ?_ | refine blk_alloc ?_ _)); exact BK260.out⟩, ⟨by repeat (first | (with_reducible first | exact HB.out | apply below_alloc | apply pw_below_drewN | apply below_drew1 | refine below_set ?_ GE242.out | refine below_set ?_ GE251.out | refine below_set ?_ GE255.out | refine below_set ?_ GE260.out) | exact HB.out)⟩⟩
    case rest =>
      clear HC13
      try clear c2
      try clear p2
      try clear c3
      try clear c4
      try clear c5
      try clear c5b0
      try clear c7
      try clear c23
      try clear c24
      try clear c25
      try clear c26
      try clear c27
      try clear c29
      try clear c30
      try clear c35
      try clear c36
      try clear c37
      try clear c40
      try clear c41
      try clear c42
      try clear c43
      try clear c45
      try clear c46
      try clear c49
      try clear c50
      try clear c51
      try clear c53
      try clear c54
      try clear hcz15_0
      try clear hcz17_0
      try clear hcz24_0
      try clear hcz25_0
      try clear hcz31_0
      try clear hcz38_0
      try clear hcz44_0
      try clear hcz47_0
      try clear hcz52_0
      try clear hcz55_0
      try clear hcz7_0
      try clear hfz15_0
      try clear hfz17_0
      try clear hfz24_0
      try clear hfz25_0
      try clear hfz31_0
      try clear hfz38_0
      try clear hfz44_0
      try clear hfz47_0
      try clear hfz52_0
      try clear hfz55_0
      try clear hfz7_0
      obtain ⟨kq, x48_12, rfl, HA, HJ12, HO_252000, HO_256000, HO_261000, BK242, BK251, BK255, BK260, HB⟩ := hcut
      cases kq with
      | zero => exact absurd HA.out (by simp [laws_FnExactChopHead.j0])
      | succ kj12 =>
        have H := HA.out
        clear HA
        simp only [laws_FnExactChopHead.j0] at H
        by_cases c57 : x48_12 = true
        · subst c57
          have H1 : (some false) = some r := by rw [if_pos rfl] at H; exact H
          clear H
          have H := H1
          clear H1
          obtain rfl := Option.some.inj H
          go_wp2
          go_ret
          exact ⟨by first | rfl | (simp [errW_none, errW_some] <;> rfl) | (simp [*, errW_none, errW_some] <;> rfl), by repeat (first | (with_reducible first | exact HB.out | apply below_alloc | apply pw_below_drewN | apply below_drew1 | refine below_set ?_ GE242.out | refine below_set ?_ GE251.out | refine below_set ?_ GE255.out | refine below_set ?_ GE260.out) | exact HB.out)⟩
        · replace c57 := Bool.eq_false_iff.mpr c57
          subst c57
          have H1 : ((laws_toHydra.f kj12 l0_0).bind fun t262 => ((laws_eqHydra.f kj12 t252 t262).bind fun t265 => (if t265 = true then ((laws_markHydra.f kj12 t252 1).bind fun bt266 => (if bt266.1 < 0 then (laws_FnExactChopHead.j1 kj12 a1 a2 t250 true l0_0 t247 t256) else ((laws_eqHydra.f kj12 t256 t247).bind fun t268 => (if t268 = true then (laws_FnExactChopHead.j1 kj12 a1 a2 t250 (t259 != t250) l0_0 t247 t256) else (laws_FnExactChopHead.j1 kj12 a1 a2 t250 true l0_0 t247 t256))))) else (some false)))) = some r := by rw [if_neg (show ¬ (false = true) by decide)] at H; exact H
          clear H
          have H := H1
          clear H1
          replace H := Option.bind_eq_some_iff.mp H
          obtain ⟨t262, A580, H⟩ := H
          replace H : ((laws_eqHydra.f kj12 t252 t262).bind fun t265 => (if t265 = true then ((laws_markHydra.f kj12 t252 1).bind fun bt266 => (if bt266.1 < 0 then (laws_FnExactChopHead.j1 kj12 a1 a2 t250 true l0_0 t247 t256) else ((laws_eqHydra.f kj12 t256 t247).bind fun t268 => (if t268 = true then (laws_FnExactChopHead.j1 kj12 a1 a2 t250 (t259 != t250) l0_0 t247 t256) else (laws_FnExactChopHead.j1 kj12 a1 a2 t250 true l0_0 t247 t256))))) else (some false))) = some r := H
          have A58 := Aside0.mk A580
          clear A580
          replace H := Option.bind_eq_some_iff.mp H
          obtain ⟨t265, A590, H⟩ := H
          replace H : (if t265 = true then ((laws_markHydra.f kj12 t252 1).bind fun bt266 => (if bt266.1 < 0 then (laws_FnExactChopHead.j1 kj12 a1 a2 t250 true l0_0 t247 t256) else ((laws_eqHydra.f kj12 t256 t247).bind fun t268 => (if t268 = true then (laws_FnExactChopHead.j1 kj12 a1 a2 t250 (t259 != t250) l0_0 t247 t256) else (laws_FnExactChopHead.j1 kj12 a1 a2 t250 true l0_0 t247 t256))))) else (some false)) = some r := H
          have A59 := Aside0.mk A590
          clear A590
          by_cases c60 : t265 = true
          · subst c60
            have H1 : ((laws_markHydra.f kj12 t252 1).bind fun bt266 => (if bt266.1 < 0 then (laws_FnExactChopHead.j1 kj12 a1 a2 t250 true l0_0 t247 t256) else ((laws_eqHydra.f kj12 t256 t247).bind fun t268 => (if t268 = true then (laws_FnExactChopHead.j1 kj12 a1 a2 t250 (t259 != t250) l0_0 t247 t256) else (laws_FnExactChopHead.j1 kj12 a1 a2 t250 true l0_0 t247 t256))))) = some r := by rw [if_pos rfl] at H; exact H
            clear H
            have H := H1
            clear H1
            replace H := Option.bind_eq_some_iff.mp H
            obtain ⟨⟨t266, t267⟩, A610, H⟩ := H
            replace H : (if t266 < 0 then (laws_FnExactChopHead.j1 kj12 a1 a2 t250 true l0_0 t247 t256) else ((laws_eqHydra.f kj12 t256 t247).bind fun t268 => (if t268 = true then (laws_FnExactChopHead.j1 kj12 a1 a2 t250 (t259 != t250) l0_0 t247 t256) else (laws_FnExactChopHead.j1 kj12 a1 a2 t250 true l0_0 t247 t256)))) = some r := H
            have A61 := Aside0.mk A610
            clear A610
            have HC62 := Aside0.mk H
            clear H
            try go_wp2
            have n0_ := Aside0.mk (Kd.R_drew HO_252000.out)
            have n1_ := Aside0.mk (Kd.R_drew HO_256000.out)
            have n2_ := Aside0.mk (Kd.R_drew HO_261000.out)
            have n3_ := Aside0.mk (blk_drew BK242.out)
            have n4_ := Aside0.mk (blk_drew BK251.out)
            have n5_ := Aside0.mk (blk_drew BK255.out)
            have n6_ := Aside0.mk (blk_drew BK260.out)
            have n7_ := Aside0.mk (below_drew1 HB.out)
            clear HO_252000
            clear HO_256000
            clear HO_261000
            clear BK242
            clear BK251
            clear BK255
            clear BK260
            clear HB
            have HO_252000 := n0_
            have HO_256000 := n1_
            have HO_261000 := n2_
            have BK242 := n3_
            have BK251 := n4_
            have BK255 := n5_
            have BK260 := n6_
            have HB := n7_
            clear n0_ n1_ n2_ n3_ n4_ n5_ n6_ n7_
            refine start_ (n := 5) (S := fun w' => w'.cell? ⟨gb255, 0, none⟩ = some (.slice Ao28 t252.length co28) ∧ w'.cell? ⟨gb242, 0, none⟩ = some (.slice A0_0 l0_0.length c0_0)) (ds := []) #[false, false, false, false, false] (by kernel_rfl) rfl rfl ⟨(blk_cell BK255.out 0).trans rfl, (blk_cell BK242.out 0).trans rfl⟩ (fun hHeld => ?_)
            generalize wc.drew = w63 at HO_252000 HO_256000 HO_261000 BK242 BK251 BK255 BK260 HB hHeld ⊢
            refine take_ (i := 0) (N := some 49) (v := ?_) (a' := ?_) #[true, false, false, false, false] rfl rfl (by kernel_rfl) (fun _ _ _ h => h) (Or.inl ⟨by rfl, ?_⟩) hHeld ?_ ?_
            rotate_left
            · rintro w' ⟨s0, s1⟩
              go_simp
              with_reducible rfl
            rotate_left
            · simp only [Act.put, List.setIfInBounds_toArray, List.set_cons_zero, List.set_cons_succ, i64_w, i32_w]
              rfl
            refine take_ (i := 1) (N := some 50) (v := ?_) (a' := ?_) #[true, true, false, false, false] rfl rfl (by kernel_rfl) (fun _ _ _ h => h) (Or.inl ⟨by rfl, ?_⟩) hHeld ?_ ?_
            rotate_left
            · rintro w' ⟨s0, s1⟩
              go_simp
              with_reducible rfl
            rotate_left
            · simp only [Act.put, List.setIfInBounds_toArray, List.set_cons_zero, List.set_cons_succ, i64_w, i32_w]
              rfl
            refine one_ (i := 2) (N := some 51) #[true, true, true, false, false] rfl rfl (by kernel_rfl) (by decide) (fun K hK => ?_)
            refine goes_ Try.func25 (by kernel_rfl) rfl #[.agg #[.slice A0_0 l0_0.length c0_0]] (by rfl) rfl rfl (by (try simp only [List.map_toArray, List.map_cons, List.map_nil]); first | done | rfl | (simp only [List.length_drop, List.length_take]; rfl)) ?_
            with_reducible refine (laws_toHydra.calls kj12 _ _ l0_0 t262 _ ?side1 ?side2 A58.out).mono ?_
            (case side1 => repeat (first | exact (Kd.C_below HR0_0.out HB.out) | (with_reducible refine Kd.C_alloc ?_ _) | (with_reducible refine Kd.C_drewN ?_ _) | (with_reducible refine Kd.C_drew ?_)))
            (case side2 => exact HC0_0.out)
            rintro e w64 ⟨v263, rfl, ho0, hb⟩
            refine ⟨_, rfl, ?_⟩
            have n0_ := Aside0.mk (Kd.R_elder' (by (with_reducible repeat (first | apply Kd.R_alloc | apply Kd.R_drewN | apply Kd.R_drew)); exact HO_252000.out) (Kd.R_base ho0) hb)
            have n1_ := Aside0.mk (Kd.R_elder' (by (with_reducible repeat (first | apply Kd.R_alloc | apply Kd.R_drewN | apply Kd.R_drew)); exact HO_256000.out) (Kd.R_base ho0) hb)
            have n2_ := Aside0.mk (Kd.R_elder' (by (with_reducible repeat (first | apply Kd.R_alloc | apply Kd.R_drewN | apply Kd.R_drew)); exact HO_261000.out) (Kd.R_base ho0) hb)
            have n3_ := Aside0.mk (Kd.R_lower (Kd.R_new' (Kd.R_new' (Kd.R_new' ho0 (Kd.R_lt (by (with_reducible repeat (first | apply Kd.R_alloc | apply Kd.R_drewN | apply Kd.R_drew)); exact HO_252000.out))) (Kd.R_lt (by (with_reducible repeat (first | apply Kd.R_alloc | apply Kd.R_drewN | apply Kd.R_drew)); exact HO_256000.out))) (Kd.R_lt (by (with_reducible repeat (first | apply Kd.R_alloc | apply Kd.R_drewN | apply Kd.R_drew)); exact HO_261000.out))) (below_size (by repeat (first | (with_reducible first | exact HB.out | apply below_alloc | apply pw_below_drewN | apply below_drew1 | refine below_set ?_ GE242.out | refine below_set ?_ GE251.out | refine below_set ?_ GE255.out | refine below_set ?_ GE260.out) | exact HB.out))))
            have n4_ := Aside0.mk (blk_below (g := gb242) (o := .cells #[.slice A0_0 l0_0.length c0_0] 41 (0, 0)) (by (with_reducible repeat (first | refine blk_drewN ?_ _ | refine blk_drew ?_ | refine blk_alloc ?_ _)); exact BK242.out) hb)
            have n5_ := Aside0.mk (blk_below (g := gb251) (o := .cells #[.slice Ao22 t247.length co22] 43 (0, 0)) (by (with_reducible repeat (first | refine blk_drewN ?_ _ | refine blk_drew ?_ | refine blk_alloc ?_ _)); exact BK251.out) hb)
            have n6_ := Aside0.mk (blk_below (g := gb255) (o := .cells #[.slice Ao28 t252.length co28] 43 (0, 0)) (by (with_reducible repeat (first | refine blk_drewN ?_ _ | refine blk_drew ?_ | refine blk_alloc ?_ _)); exact BK255.out) hb)
            have n7_ := Aside0.mk (blk_below (g := gb260) (o := .cells #[.slice Ao34 t256.length co34] 43 (0, 0)) (by (with_reducible repeat (first | refine blk_drewN ?_ _ | refine blk_drew ?_ | refine blk_alloc ?_ _)); exact BK260.out) hb)
            have n8_ := Aside0.mk (below_step (by repeat (first | (with_reducible first | exact HB.out | apply below_alloc | apply pw_below_drewN | apply below_drew1 | refine below_set ?_ GE242.out | refine below_set ?_ GE251.out | refine below_set ?_ GE255.out | refine below_set ?_ GE260.out) | exact HB.out)) hb)
            clear HO_252000
            clear HO_256000
            clear HO_261000
            clear BK242
            clear BK251
            clear BK255
            clear BK260
            clear HB
            have HO_252000 := n0_
            have HO_256000 := n1_
            have HO_261000 := n2_
            have HO264 := n3_
            have BK242 := n4_
            have BK251 := n5_
            have BK255 := n6_
            have BK260 := n7_
            have HB := n8_
            clear n0_ n1_ n2_ n3_ n4_ n5_ n6_ n7_ n8_
            (try clear hb)
            (try clear hb2)
            (try clear hk)
            (try clear hi)
            (try clear ho0)
            obtain ⟨Ao65, co65, eo65⟩ := Kd.R_slice HO264.out
            (first | subst eo65 | (injection eo65 with f1_ f2_ f3_; have f4_ := f1_.symm; have f5_ := f3_.symm; clear f1_ f2_ f3_; subst f4_; subst f5_))
            refine hK.out _ _ ⟨(blk_cell BK255.out 0).trans rfl, (blk_cell BK242.out 0).trans rfl⟩ (fun hHeld => ?_)
            clear hK K
            refine norm_ (a' := ?_) ?_ ?_
            rotate_left
            · show Act.put _ (some 51) _ = _
              simp only [Act.put, List.setIfInBounds_toArray, List.set_cons_zero, List.set_cons_succ, i64_w, i32_w]
              rfl
            refine one_ (i := 3) (N := some 52) #[true, true, true, true, false] rfl rfl (by kernel_rfl) (by decide) (fun K hK => ?_)
            refine goes_ Try.func27 (by kernel_rfl) rfl #[.agg #[.slice Ao28 t252.length co28], .agg #[.slice Ao65 t262.length co65]] (by rfl) rfl rfl (by (try simp only [List.map_toArray, List.map_cons, List.map_nil]); first | done | rfl | (simp only [List.length_drop, List.length_take]; rfl)) ?_
            with_reducible refine (laws_eqHydra.calls kj12 _ _ t252 _ _ t262 true _ ?side1 ?side2 ?side3 ?side4 A59.out).mono ?_
            (case side1 => repeat (first | exact (Kd.R_reads' HO_256000.out).2.2 | (with_reducible refine Kd.C_alloc ?_ _) | (with_reducible refine Kd.C_drewN ?_ _) | (with_reducible refine Kd.C_drew ?_)))
            (case side2 => exact (Kd.R_reads' HO_256000.out).2.1)
            (case side3 => repeat (first | exact (Kd.R_reads' HO264.out).2.2 | (with_reducible refine Kd.C_alloc ?_ _) | (with_reducible refine Kd.C_drewN ?_ _) | (with_reducible refine Kd.C_drew ?_)))
            (case side4 => exact (Kd.R_reads' HO264.out).2.1)
            rintro e w66 ⟨rfl, hb⟩
            refine ⟨_, rfl, ?_⟩
            have n0_ := Aside0.mk (Kd.R_below (by (with_reducible repeat (first | apply Kd.R_alloc | apply Kd.R_drewN | apply Kd.R_drew)); exact HO_252000.out) hb)
            have n1_ := Aside0.mk (Kd.R_below (by (with_reducible repeat (first | apply Kd.R_alloc | apply Kd.R_drewN | apply Kd.R_drew)); exact HO_256000.out) hb)
            have n2_ := Aside0.mk (Kd.R_below (by (with_reducible repeat (first | apply Kd.R_alloc | apply Kd.R_drewN | apply Kd.R_drew)); exact HO_261000.out) hb)
            have n3_ := Aside0.mk (Kd.R_below (by (with_reducible repeat (first | apply Kd.R_alloc | apply Kd.R_drewN | apply Kd.R_drew)); exact HO264.out) hb)
            have n4_ := Aside0.mk (blk_below (g := gb242) (o := .cells #[.slice A0_0 l0_0.length c0_0] 41 (0, 0)) (by (with_reducible repeat (first | refine blk_drewN ?_ _ | refine blk_drew ?_ | refine blk_alloc ?_ _)); exact BK242.out) hb)
            have n5_ := Aside0.mk (blk_below (g := gb251) (o := .cells #[.slice Ao22 t247.length co22] 43 (0, 0)) (by (with_reducible repeat (first | refine blk_drewN ?_ _ | refine blk_drew ?_ | refine blk_alloc ?_ _)); exact BK251.out) hb)
            have n6_ := Aside0.mk (blk_below (g := gb255) (o := .cells #[.slice Ao28 t252.length co28] 43 (0, 0)) (by (with_reducible repeat (first | refine blk_drewN ?_ _ | refine blk_drew ?_ | refine blk_alloc ?_ _)); exact BK255.out) hb)
            have n7_ := Aside0.mk (blk_below (g := gb260) (o := .cells #[.slice Ao34 t256.length co34] 43 (0, 0)) (by (with_reducible repeat (first | refine blk_drewN ?_ _ | refine blk_drew ?_ | refine blk_alloc ?_ _)); exact BK260.out) hb)
            have n8_ := Aside0.mk (below_step (by repeat (first | (with_reducible first | exact HB.out | apply below_alloc | apply pw_below_drewN | apply below_drew1 | refine below_set ?_ GE242.out | refine below_set ?_ GE251.out | refine below_set ?_ GE255.out | refine below_set ?_ GE260.out) | exact HB.out)) hb)
            clear HO_252000
            clear HO_256000
            clear HO_261000
            clear HO264
            clear BK242
            clear BK251
            clear BK255
            clear BK260
            clear HB
            have HO_252000 := n0_
            have HO_256000 := n1_
            have HO_261000 := n2_
            have HO264 := n3_
            have BK242 := n4_
            have BK251 := n5_
            have BK255 := n6_
            have BK260 := n7_
            have HB := n8_
            clear n0_ n1_ n2_ n3_ n4_ n5_ n6_ n7_ n8_
            (try clear hb)
            (try clear hb2)
            (try clear hk)
            (try clear hi)
            refine hK.out _ _ ⟨(blk_cell BK255.out 0).trans rfl, (blk_cell BK242.out 0).trans rfl⟩ (fun hHeld => ?_)
            clear hK K
            refine norm_ (a' := ?_) ?_ ?_
            rotate_left
            · show Act.put _ (some 52) _ = _
              simp only [Act.put, List.setIfInBounds_toArray, List.set_cons_zero, List.set_cons_succ, i64_w, i32_w]
              rfl
            refine pure_ (i := 4) (N := some 53) (v := ?_) (a' := ?_) #[true, true, true, true, true] rfl rfl (by kernel_rfl) (fun _ _ _ h => h) (Or.inl ⟨by rfl, ?_⟩) ?_ ?_
            rotate_left
            · intro w'
              go_simp
              with_reducible rfl
            rotate_left
            · simp only [Act.put, List.setIfInBounds_toArray, List.set_cons_zero, List.set_cons_succ, i64_w, i32_w]
              rfl
            refine done_ (by kernel_rfl) ?_
            have hnb67 := NB255_242.out
            have hnc67 := NB242_255.out
            have hnb68 := NB255_251.out
            have hnc68 := NB251_255.out
            have hnb69 := NB255_260.out
            have hnc69 := NB260_255.out
            have hcz70_0 : w66.cell? ⟨gb255, 0, none⟩ = some (.slice Ao28 t252.length co28) := (blk_cell BK255.out 0).trans rfl
            have hfz70_0 := blk_frozen BK255.out 0
            go_upto_region 14 with (first | ((with_reducible refine gate_callee (f := 28) rfl ?_); refine goesL_ (some 56) rfl rfl Try.func28 (by kernel_rfl) rfl #[.agg #[.slice Ao28 t252.length co28], .int .i64 1] rfl (by (try simp only [List.map_toArray, List.map_cons, List.map_nil]); first | done | rfl | (simp only [List.length_drop, List.length_take]; rfl)) ?_; (with_reducible refine (laws_markHydra.calls kj12 (fun k_ => some k_ = (.slice Ao28 t252.length co28 : Value).ownBlock) (.slice Ao28 t252.length co28) t252 1 t266 t267 w _ ?side1 ?side2 A61.out).mono ?_); (case side1 => repeat (first | (with_reducible first | exact HB.out | apply below_alloc | apply pw_below_drewN | apply below_drew1 | refine below_set ?_ GE242.out | refine below_set ?_ GE251.out | refine below_set ?_ GE255.out | refine below_set ?_ GE260.out) | exact HB.out)); (case side2 => exact Kd.R_tight rfl HO_256000.out); rintro e w71 ⟨rfl, hy0, hb, hkp⟩; refine ⟨_, rfl, ?_⟩; have n0_ := Aside0.mk (Kd.R_mono (ok' := fun k_ => some k_ ≠ (.slice Ao28 t252.length co28 : Value).ownBlock ∧ some k_ ≠ (.slice Ao34 t256.length co34 : Value).ownBlock ∧ some k_ ≠ (.slice Ao65 t262.length co65 : Value).ownBlock) (Kd.R_keptB (HO_252000.out) hkp (fun k_ hk_ hs_ => (hk_.1.1) hs_)) (fun k_ hk_ => ⟨hk_.1.1.1, hk_.1.1.2, hk_.1.2⟩)); have n1_ := Aside0.mk (Kd.R_reok rfl hy0 (fun k_ e_ => HO_256000.out.1 k_ e_)); have n2_ := Aside0.mk (Kd.R_mono (ok' := fun k_ => some k_ ≠ (.slice Ao22 t247.length co22 : Value).ownBlock ∧ some k_ ≠ (.slice Ao28 t252.length co28 : Value).ownBlock ∧ some k_ ≠ (.slice Ao65 t262.length co65 : Value).ownBlock) (Kd.R_keptB (HO_261000.out) hkp (fun k_ hk_ hs_ => (hk_.1.2) hs_)) (fun k_ hk_ => ⟨hk_.1.1.1, hk_.1.1.2, hk_.1.2⟩)); have n3_ := Aside0.mk (blk_kept (by (with_reducible repeat (first | refine blk_drewN ?_ _ | refine blk_drew ?_ | refine blk_alloc ?_ _)); exact BK242.out) hkp (fun hs_ => (fun e_ => (Kd.R_ne HO_256000.out BK242.out (by decide)) e_) hs_)); have n4_ := Aside0.mk (blk_kept (by (with_reducible repeat (first | refine blk_drewN ?_ _ | refine blk_drew ?_ | refine blk_alloc ?_ _)); exact BK251.out) hkp (fun hs_ => (fun e_ => (Kd.R_ne HO_256000.out BK251.out (by decide)) e_) hs_)); have n5_ := Aside0.mk (blk_kept (by (with_reducible repeat (first | refine blk_drewN ?_ _ | refine blk_drew ?_ | refine blk_alloc ?_ _)); exact BK255.out) hkp (fun hs_ => (fun e_ => (Kd.R_ne HO_256000.out BK255.out (by decide)) e_) hs_)); have n6_ := Aside0.mk (blk_kept (by (with_reducible repeat (first | refine blk_drewN ?_ _ | refine blk_drew ?_ | refine blk_alloc ?_ _)); exact BK260.out) hkp (fun hs_ => (fun e_ => (Kd.R_ne HO_256000.out BK260.out (by decide)) e_) hs_)); have n7_ := Aside0.mk (Kd.R_mono (ok' := fun k_ => some k_ ≠ (.slice Ao22 t247.length co22 : Value).ownBlock ∧ some k_ ≠ (.slice Ao28 t252.length co28 : Value).ownBlock ∧ some k_ ≠ (.slice Ao34 t256.length co34 : Value).ownBlock) (Kd.R_keptB (HO264.out) hkp (fun k_ hk_ hs_ => (hk_.1.2) hs_)) (fun k_ hk_ => ⟨hk_.1.1.1.2, hk_.1.1.2, hk_.1.2⟩)); have n8_ := Aside0.mk (hb); clear HO_252000; clear HO_256000; clear HO_261000; clear BK242; clear BK251; clear BK255; clear BK260; clear HO264; clear HB; have HO_252000 := n0_; have HO_256000 := n1_; have HO_261000 := n2_; have BK242 := n3_; have BK251 := n4_; have BK255 := n5_; have BK260 := n6_; have HO264 := n7_; have HB := n8_; clear n0_ n1_ n2_ n3_ n4_ n5_ n6_ n7_ n8_; (try clear hb); (try clear hkp); (try clear hy0)))
            (try simp only [Act.put, List.setIfInBounds_toArray, List.set_cons_zero, List.set_cons_succ])
            go_cut [69] (fun v69 wc => ∃ (kq : Nat) (x69_61 : Bool), v69 = .bool x69_61 ∧ Aside0 (laws_FnExactChopHead.j1 kq a1 a2 t250 x69_61 l0_0 t247 t256 = some r) ∧ Aside0 (kq ≤ kj12) ∧ Aside0 (Kd.R (Kd.int .i64) 3 wc w.heap.size (fun k_ => some k_ ≠ ((.slice Ao28 t252.length co28) : Value).ownBlock ∧ some k_ ≠ ((.slice Ao34 t256.length co34) : Value).ownBlock) (.slice Ao22 t247.length co22) t247) ∧ Aside0 (Kd.R (Kd.int .i64) 3 wc w.heap.size (fun k_ => some k_ ≠ ((.slice Ao22 t247.length co22) : Value).ownBlock ∧ some k_ ≠ ((.slice Ao34 t256.length co34) : Value).ownBlock) (.slice Ao28 t252.length co28) t267) ∧ Aside0 (Kd.R (Kd.int .i64) 3 wc w.heap.size (fun k_ => some k_ ≠ ((.slice Ao22 t247.length co22) : Value).ownBlock ∧ some k_ ≠ ((.slice Ao28 t252.length co28) : Value).ownBlock) (.slice Ao34 t256.length co34) t256) ∧ Aside0 (wc.heap[gb242]? = some (.cells #[(.slice A0_0 l0_0.length c0_0)] 41 (0, 0))) ∧ Aside0 (wc.heap[gb251]? = some (.cells #[(.slice Ao22 t247.length co22)] 43 (0, 0))) ∧ Aside0 (wc.heap[gb255]? = some (.cells #[(.slice Ao28 t252.length co28)] 43 (0, 0))) ∧ Aside0 (wc.heap[gb260]? = some (.cells #[(.slice Ao34 t256.length co34)] 43 (0, 0))) ∧ Aside0 (Below w.heap.size w wc))
            case first =>
              have H := HC62.out
              clear HC62
              by_cases c72 : t266 < 0
              · rw [if_pos c72] at H
                have c72b0 : decide (t266 < 0) = true := decide_eq_true c72
                clear c72
                (first | rw [c72b0] | (simp only [i64_w, i32_w]; rw [c72b0]) | skip)
                have H' := Aside0.mk H
                clear H
                go_wp2
                go_meet
                case rel => exact ⟨_, (true), (by first | rfl | (simp; done) | (simp [*]; done)), H', ⟨by have := HJ12.out; first | omega | exact Nat.le_refl _⟩, ⟨by (with_reducible repeat (first | apply Kd.R_alloc | apply Kd.R_drewN | apply Kd.R_drew)); exact Kd.R_mono HO_252000.out (fun _ hk => ⟨hk.1, hk.2.1⟩)⟩, ⟨by (with_reducible repeat (first | apply Kd.R_alloc | apply Kd.R_drewN | apply Kd.R_drew)); exact Kd.R_mono HO_256000.out (fun _ hk => ⟨hk.1.1, hk.1.2⟩)⟩, ⟨by (with_reducible repeat (first | apply Kd.R_alloc | apply Kd.R_drewN | apply Kd.R_drew)); exact Kd.R_mono HO_261000.out (fun _ hk => ⟨hk.1, hk.2.1⟩)⟩, ⟨by (with_reducible repeat (first | refine blk_drewN ?_ _ | refine blk_drew ?_ | refine blk_alloc ?_ _)); exact BK242.out⟩, ⟨by (with_reducible repeat (first | refine blk_drewN ?_ _ | refine blk_drew ?_ | refine blk_alloc ?_ _)); exact BK251.out⟩, ⟨by (with_reducible repeat (first | refine blk_drewN ?_ _ | refine blk_drew ?_ | refine blk_alloc ?_ _)); exact BK255.out⟩, ⟨by (with_reducible repeat (first | refine blk_drewN ?_ _ | refine blk_drew ?_ | refine blk_alloc ?_ _)); exact BK260.out⟩, ⟨by repeat (first | (with_reducible first | exact HB.out | apply below_alloc | apply pw_below_drewN | apply below_drew1 | refine below_set ?_ GE242.out | refine below_set ?_ GE251.out | refine below_set ?_ GE255.out | refine below_set ?_ GE260.out) | exact HB.out)⟩⟩
              · rw [if_neg c72] at H
                have c72b0 : decide (t266 < 0) = false := decide_eq_false c72
                clear c72
                (first | rw [c72b0] | (simp only [i64_w, i32_w]; rw [c72b0]) | skip)
                replace H := Option.bind_eq_some_iff.mp H
                obtain ⟨t268, A730, H⟩ := H
                replace H : (if t268 = true then (laws_FnExactChopHead.j1 kj12 a1 a2 t250 (t259 != t250) l0_0 t247 t256) else (laws_FnExactChopHead.j1 kj12 a1 a2 t250 true l0_0 t247 t256)) = some r := H
                have A73 := Aside0.mk A730
                clear A730
                by_cases c74 : t268 = true
                · subst c74
                  have H1 : (laws_FnExactChopHead.j1 kj12 a1 a2 t250 (t259 != t250) l0_0 t247 t256) = some r := by rw [if_pos rfl] at H; exact H
                  clear H
                  have H := H1
                  clear H1
                  have H' := Aside0.mk H
                  clear H
                  have hnb75 := NB260_242.out
                  have hnc75 := NB242_260.out
                  have hnb76 := NB260_251.out
                  have hnc76 := NB251_260.out
                  have hnb77 := NB260_255.out
                  have hnc77 := NB255_260.out
                  have hcz78_0 : w71.cell? ⟨gb260, 0, none⟩ = some (.slice Ao34 t256.length co34) := (blk_cell BK260.out 0).trans rfl
                  have hfz78_0 := blk_frozen BK260.out 0
                  have hnb79 := NB251_242.out
                  have hnc79 := NB242_251.out
                  have hnb80 := NB251_255.out
                  have hnc80 := NB255_251.out
                  have hcz81_0 : w71.cell? ⟨gb251, 0, none⟩ = some (.slice Ao22 t247.length co22) := (blk_cell BK251.out 0).trans rfl
                  have hfz81_0 := blk_frozen BK251.out 0
                  go_wp2_with (first | (go_at_call 27; (with_reducible refine (laws_eqHydra.calls kj12 _ _ t256 _ _ t247 true _ ?side1 ?side2 ?side3 ?side4 A73.out).mono ?_); (case side1 => repeat (first | exact (Kd.R_reads' HO_261000.out).2.2 | (with_reducible refine Kd.C_alloc ?_ _) | (with_reducible refine Kd.C_drewN ?_ _) | (with_reducible refine Kd.C_drew ?_))); (case side2 => exact (Kd.R_reads' HO_261000.out).2.1); (case side3 => repeat (first | exact (Kd.R_reads' HO_252000.out).2.2 | (with_reducible refine Kd.C_alloc ?_ _) | (with_reducible refine Kd.C_drewN ?_ _) | (with_reducible refine Kd.C_drew ?_))); (case side4 => exact (Kd.R_reads' HO_252000.out).2.1); rintro e w82 ⟨rfl, hb⟩; have n0_ := Aside0.mk (Kd.R_below (by (with_reducible repeat (first | apply Kd.R_alloc | apply Kd.R_drewN | apply Kd.R_drew)); exact HO_252000.out) hb); have n1_ := Aside0.mk (Kd.R_below (by (with_reducible repeat (first | apply Kd.R_alloc | apply Kd.R_drewN | apply Kd.R_drew)); exact HO_256000.out) hb); have n2_ := Aside0.mk (Kd.R_below (by (with_reducible repeat (first | apply Kd.R_alloc | apply Kd.R_drewN | apply Kd.R_drew)); exact HO_261000.out) hb); have n3_ := Aside0.mk (Kd.R_below (by (with_reducible repeat (first | apply Kd.R_alloc | apply Kd.R_drewN | apply Kd.R_drew)); exact HO264.out) hb); have n4_ := Aside0.mk (blk_below (g := gb242) (o := .cells #[.slice A0_0 l0_0.length c0_0] 41 (0, 0)) (by (with_reducible repeat (first | refine blk_drewN ?_ _ | refine blk_drew ?_ | refine blk_alloc ?_ _)); exact BK242.out) hb); have n5_ := Aside0.mk (blk_below (g := gb251) (o := .cells #[.slice Ao22 t247.length co22] 43 (0, 0)) (by (with_reducible repeat (first | refine blk_drewN ?_ _ | refine blk_drew ?_ | refine blk_alloc ?_ _)); exact BK251.out) hb); have n6_ := Aside0.mk (blk_below (g := gb255) (o := .cells #[.slice Ao28 t252.length co28] 43 (0, 0)) (by (with_reducible repeat (first | refine blk_drewN ?_ _ | refine blk_drew ?_ | refine blk_alloc ?_ _)); exact BK255.out) hb); have n7_ := Aside0.mk (blk_below (g := gb260) (o := .cells #[.slice Ao34 t256.length co34] 43 (0, 0)) (by (with_reducible repeat (first | refine blk_drewN ?_ _ | refine blk_drew ?_ | refine blk_alloc ?_ _)); exact BK260.out) hb); have n8_ := Aside0.mk (below_step (by repeat (first | (with_reducible first | exact HB.out | apply below_alloc | apply pw_below_drewN | apply below_drew1 | refine below_set ?_ GE242.out | refine below_set ?_ GE251.out | refine below_set ?_ GE255.out | refine below_set ?_ GE260.out) | exact HB.out)) hb); clear HO_252000; clear HO_256000; clear HO_261000; clear HO264; clear BK242; clear BK251; clear BK255; clear BK260; clear HB; have HO_252000 := n0_; have HO_256000 := n1_; have HO_261000 := n2_; have HO264 := n3_; have BK242 := n4_; have BK251 := n5_; have BK255 := n6_; have BK260 := n7_; have HB := n8_; clear n0_ n1_ n2_ n3_ n4_ n5_ n6_ n7_ n8_; (try clear hb); (try clear hb2); (try clear hk); (try clear hi)))
                  go_meet
                  case rel => exact ⟨_, ((t259 != t250)), (by first | rfl | (simp; done) | (simp [*]; done)), H', ⟨by have := HJ12.out; first | omega | exact Nat.le_refl _⟩, ⟨by (with_reducible repeat (first | apply Kd.R_alloc | apply Kd.R_drewN | apply Kd.R_drew)); exact Kd.R_mono HO_252000.out (fun _ hk => ⟨hk.1, hk.2.1⟩)⟩, ⟨by (with_reducible repeat (first | apply Kd.R_alloc | apply Kd.R_drewN | apply Kd.R_drew)); exact Kd.R_mono HO_256000.out (fun _ hk => ⟨hk.1.1, hk.1.2⟩)⟩, ⟨by (with_reducible repeat (first | apply Kd.R_alloc | apply Kd.R_drewN | apply Kd.R_drew)); exact Kd.R_mono HO_261000.out (fun _ hk => ⟨hk.1, hk.2.1⟩)⟩, ⟨by (with_reducible repeat (first | refine blk_drewN ?_ _ | refine blk_drew ?_ | refine blk_alloc ?_ _)); exact BK242.out⟩, ⟨by (with_reducible repeat (first | refine blk_drewN ?_ _ | refine blk_drew ?_ | refine blk_alloc ?_ _)); exact BK251.out⟩, ⟨by (with_reducible repeat (first | refine blk_drewN ?_ _ | refine blk_drew ?_ | refine blk_alloc ?_ _)); exact BK255.out⟩, ⟨by (with_reducible repeat (first | refine blk_drewN ?_ _ | refine blk_drew ?_ | refine blk_alloc ?_ _)); exact BK260.out⟩, ⟨by repeat (first | (with_reducible first | exact HB.out | apply below_alloc | apply pw_below_drewN | apply below_drew1 | refine below_set ?_ GE242.out | refine below_set ?_ GE251.out | refine below_set ?_ GE255.out | refine below_set ?_ GE260.out) | exact HB.out)⟩⟩
                · replace c74 := Bool.eq_false_iff.mpr c74
                  subst c74
                  have H1 : (laws_FnExactChopHead.j1 kj12 a1 a2 t250 true l0_0 t247 t256) = some r := by rw [if_neg (show ¬ (false = true) by decide)] at H; exact H
                  clear H
                  have H := H1
                  clear H1
                  have H' := Aside0.mk H
                  clear H
                  have hnb83 := NB260_242.out
                  have hnc83 := NB242_260.out
                  have hnb84 := NB260_251.out
                  have hnc84 := NB251_260.out
                  have hnb85 := NB260_255.out
                  have hnc85 := NB255_260.out
                  have hcz86_0 : w71.cell? ⟨gb260, 0, none⟩ = some (.slice Ao34 t256.length co34) := (blk_cell BK260.out 0).trans rfl
                  have hfz86_0 := blk_frozen BK260.out 0
                  have hnb87 := NB251_242.out
                  have hnc87 := NB242_251.out
                  have hnb88 := NB251_255.out
                  have hnc88 := NB255_251.out
                  have hcz89_0 : w71.cell? ⟨gb251, 0, none⟩ = some (.slice Ao22 t247.length co22) := (blk_cell BK251.out 0).trans rfl
                  have hfz89_0 := blk_frozen BK251.out 0
                  go_wp2_with (first | (go_at_call 27; (with_reducible refine (laws_eqHydra.calls kj12 _ _ t256 _ _ t247 false _ ?side1 ?side2 ?side3 ?side4 A73.out).mono ?_); (case side1 => repeat (first | exact (Kd.R_reads' HO_261000.out).2.2 | (with_reducible refine Kd.C_alloc ?_ _) | (with_reducible refine Kd.C_drewN ?_ _) | (with_reducible refine Kd.C_drew ?_))); (case side2 => exact (Kd.R_reads' HO_261000.out).2.1); (case side3 => repeat (first | exact (Kd.R_reads' HO_252000.out).2.2 | (with_reducible refine Kd.C_alloc ?_ _) | (with_reducible refine Kd.C_drewN ?_ _) | (with_reducible refine Kd.C_drew ?_))); (case side4 => exact (Kd.R_reads' HO_252000.out).2.1); rintro e w90 ⟨rfl, hb⟩; have n0_ := Aside0.mk (Kd.R_below (by (with_reducible repeat (first | apply Kd.R_alloc | apply Kd.R_drewN | apply Kd.R_drew)); exact HO_252000.out) hb); have n1_ := Aside0.mk (Kd.R_below (by (with_reducible repeat (first | apply Kd.R_alloc | apply Kd.R_drewN | apply Kd.R_drew)); exact HO_256000.out) hb); have n2_ := Aside0.mk (Kd.R_below (by (with_reducible repeat (first | apply Kd.R_alloc | apply Kd.R_drewN | apply Kd.R_drew)); exact HO_261000.out) hb); have n3_ := Aside0.mk (Kd.R_below (by (with_reducible repeat (first | apply Kd.R_alloc | apply Kd.R_drewN | apply Kd.R_drew)); exact HO264.out) hb); have n4_ := Aside0.mk (blk_below (g := gb242) (o := .cells #[.slice A0_0 l0_0.length c0_0] 41 (0, 0)) (by (with_reducible repeat (first | refine blk_drewN ?_ _ | refine blk_drew ?_ | refine blk_alloc ?_ _)); exact BK242.out) hb); have n5_ := Aside0.mk (blk_below (g := gb251) (o := .cells #[.slice Ao22 t247.length co22] 43 (0, 0)) (by (with_reducible repeat (first | refine blk_drewN ?_ _ | refine blk_drew ?_ | refine blk_alloc ?_ _)); exact BK251.out) hb); have n6_ := Aside0.mk (blk_below (g := gb255) (o := .cells #[.slice Ao28 t252.length co28] 43 (0, 0)) (by (with_reducible repeat (first | refine blk_drewN ?_ _ | refine blk_drew ?_ | refine blk_alloc ?_ _)); exact BK255.out) hb); have n7_ := Aside0.mk (blk_below (g := gb260) (o := .cells #[.slice Ao34 t256.length co34] 43 (0, 0)) (by (with_reducible repeat (first | refine blk_drewN ?_ _ | refine blk_drew ?_ | refine blk_alloc ?_ _)); exact BK260.out) hb); have n8_ := Aside0.mk (below_step (by repeat (first | (with_reducible first | exact HB.out | apply below_alloc | apply pw_below_drewN | apply below_drew1 | refine below_set ?_ GE242.out | refine below_set ?_ GE251.out | refine below_set ?_ GE255.out | refine below_set ?_ GE260.out) | exact HB.out)) hb); clear HO_252000; clear HO_256000; clear HO_261000; clear HO264; clear BK242; clear BK251; clear BK255; clear BK260; clear HB; have HO_252000 := n0_; have HO_256000 := n1_; have HO_261000 := n2_; have HO264 := n3_; have BK242 := n4_; have BK251 := n5_; have BK255 := n6_; have BK260 := n7_; have HB := n8_; clear n0_ n1_ n2_ n3_ n4_ n5_ n6_ n7_ n8_; (try clear hb); (try clear hb2); (try clear hk); (try clear hi)))
                  go_meet
                  case rel => exact ⟨_, (true), (by first | rfl | (simp; done) | (simp [*]; done)), H', ⟨by have := HJ12.out; first | omega | exact Nat.le_refl _⟩, ⟨by (with_reducible repeat (first | apply Kd.R_alloc | apply Kd.R_drewN | apply Kd.R_drew)); exact Kd.R_mono HO_252000.out (fun _ hk => ⟨hk.1, hk.2.1⟩)⟩, ⟨by (with_reducible repeat (first | apply Kd.R_alloc | apply Kd.R_drewN | apply Kd.R_drew)); exact Kd.R_mono HO_256000.out (fun _ hk => ⟨hk.1.1, hk.1.2⟩)⟩, ⟨by (with_reducible repeat (first | apply Kd.R_alloc | apply Kd.R_drewN | apply Kd.R_drew)); exact Kd.R_mono HO_261000.out (fun _ hk => ⟨hk.1, hk.2.1⟩)⟩, ⟨by (with_reducible repeat (first | refine blk_drewN ?_ _ | refine blk_drew ?_ | refine blk_alloc ?_ _)); exact BK242.out⟩, ⟨by (with_reducible repeat (first | refine blk_drewN ?_ _ | refine blk_drew ?_ | refine blk_alloc ?_ _)); exact BK251.out⟩, ⟨by (with_reducible repeat (first | refine blk_drewN ?_ _ | refine blk_drew ?_ | refine blk_alloc ?_ _)); exact BK255.out⟩, ⟨by (with_reducible repeat (first | refine blk_drewN ?_ _ | refine blk_drew ?_ | refine blk_alloc ?_ _)); exact BK260.out⟩, ⟨by repeat (first | (with_reducible first | exact HB.out | apply below_alloc | apply pw_below_drewN | apply below_drew1 | refine below_set ?_ GE242.out | refine below_set ?_ GE251.out | refine below_set ?_ GE255.out | refine below_set ?_ GE260.out) | exact HB.out)⟩⟩
            case rest =>
              clear HC62
              try clear c2
              try clear p2
              try clear c3
              try clear c4
              try clear c5
              try clear c5b0
              try clear c6
              try clear c7
              try clear c8
              try clear c23
              try clear c24
              try clear c25
              try clear c26
              try clear c27
              try clear c28
              try clear c29
              try clear c30
              try clear c35
              try clear c36
              try clear c37
              try clear c40
              try clear c41
              try clear c42
              try clear c43
              try clear c45
              try clear c46
              try clear c49
              try clear c50
              try clear c51
              try clear c53
              try clear c54
              try clear c57
              try clear c60
              try clear c67
              try clear c68
              try clear c69
              try clear c72
              try clear c72b0
              try clear c74
              try clear c75
              try clear c76
              try clear c77
              try clear c79
              try clear c80
              try clear c83
              try clear c84
              try clear c85
              try clear c87
              try clear c88
              try clear hcz15_0
              try clear hcz17_0
              try clear hcz24_0
              try clear hcz25_0
              try clear hcz31_0
              try clear hcz38_0
              try clear hcz44_0
              try clear hcz47_0
              try clear hcz52_0
              try clear hcz55_0
              try clear hcz70_0
              try clear hcz78_0
              try clear hcz7_0
              try clear hcz81_0
              try clear hcz86_0
              try clear hcz89_0
              try clear hfz15_0
              try clear hfz17_0
              try clear hfz24_0
              try clear hfz25_0
              try clear hfz31_0
              try clear hfz38_0
              try clear hfz44_0
              try clear hfz47_0
              try clear hfz52_0
              try clear hfz55_0
              try clear hfz70_0
              try clear hfz78_0
              try clear hfz7_0
              try clear hfz81_0
              try clear hfz86_0
              try clear hfz89_0
              try clear p2
              obtain ⟨kq, x69_61, rfl, HA, HJ61, HO_252000, HO_256000, HO_261000, BK242, BK251, BK255, BK260, HB⟩ := hcut
              have hl256000_61 := (Kd.R_reads' HO_256000.out).1
              rw [hl256000_61] at HO_256000
              (try simp only [hl256000_61])
              (try simp only [hl256000_61] at BK242)
              (try simp only [hl256000_61] at BK251)
              (try simp only [hl256000_61] at BK255)
              (try simp only [hl256000_61] at BK260)
              (try simp only [hl256000_61] at HO_252000)
              (try simp only [hl256000_61] at HO_261000)
              cases kq with
              | zero => exact absurd HA.out (by simp [laws_FnExactChopHead.j1])
              | succ kj61 =>
                have H := HA.out
                clear HA
                simp only [laws_FnExactChopHead.j1] at H
                by_cases c91 : x69_61 = true
                · subst c91
                  have H1 : (some false) = some r := by rw [if_pos rfl] at H; exact H
                  clear H
                  have H := H1
                  clear H1
                  obtain rfl := Option.some.inj H
                  go_wp2
                  go_ret
                  exact ⟨by first | rfl | (simp [errW_none, errW_some] <;> rfl) | (simp [*, errW_none, errW_some] <;> rfl), by repeat (first | (with_reducible first | exact HB.out | apply below_alloc | apply pw_below_drewN | apply below_drew1 | refine below_set ?_ GE242.out | refine below_set ?_ GE251.out | refine below_set ?_ GE255.out | refine below_set ?_ GE260.out) | exact HB.out)⟩
                · replace c91 := Bool.eq_false_iff.mpr c91
                  subst c91
                  have H1 : ((laws_markHydra.f kj61 t256 1).bind fun bt269 => ((laws_heldHydra.f kj61 bt269.2 1).bind fun t271 => (if t271 < 0 then (some false) else (if t271 = bt269.1 then ((laws_toHydra.f kj61 l0_0).bind fun t272 => ((impl_ChopHead.f kj61 t272 a1 a2).bind fun bt275 => ((laws_eqHydra.f kj61 bt275.1 t247).bind fun t280 => (if t280 = true then (laws_FnExactChopHead.j2 kj61 bt269.1 (bt275.2 != t250) bt269.2) else (laws_FnExactChopHead.j2 kj61 bt269.1 true bt269.2))))) else (some false))))) = some r := by rw [if_neg (show ¬ (false = true) by decide)] at H; exact H
                  clear H
                  have H := H1
                  clear H1
                  replace H := Option.bind_eq_some_iff.mp H
                  obtain ⟨⟨t269, t270⟩, A920, H⟩ := H
                  replace H : ((laws_heldHydra.f kj61 t270 1).bind fun t271 => (if t271 < 0 then (some false) else (if t271 = t269 then ((laws_toHydra.f kj61 l0_0).bind fun t272 => ((impl_ChopHead.f kj61 t272 a1 a2).bind fun bt275 => ((laws_eqHydra.f kj61 bt275.1 t247).bind fun t280 => (if t280 = true then (laws_FnExactChopHead.j2 kj61 t269 (bt275.2 != t250) t270) else (laws_FnExactChopHead.j2 kj61 t269 true t270))))) else (some false)))) = some r := H
                  have A92 := Aside0.mk A920
                  clear A920
                  replace H := Option.bind_eq_some_iff.mp H
                  obtain ⟨t271, A930, H⟩ := H
                  replace H : (if t271 < 0 then (some false) else (if t271 = t269 then ((laws_toHydra.f kj61 l0_0).bind fun t272 => ((impl_ChopHead.f kj61 t272 a1 a2).bind fun bt275 => ((laws_eqHydra.f kj61 bt275.1 t247).bind fun t280 => (if t280 = true then (laws_FnExactChopHead.j2 kj61 t269 (bt275.2 != t250) t270) else (laws_FnExactChopHead.j2 kj61 t269 true t270))))) else (some false))) = some r := H
                  have A93 := Aside0.mk A930
                  clear A930
                  by_cases c94 : t271 < 0
                  · rw [if_pos c94] at H
                    have c94b0 : decide (t271 < 0) = true := decide_eq_true c94
                    clear c94
                    obtain rfl := Option.some.inj H
                    have hnb95 := NB260_242.out
                    have hnc95 := NB242_260.out
                    have hnb96 := NB260_251.out
                    have hnc96 := NB251_260.out
                    have hnb97 := NB260_255.out
                    have hnc97 := NB255_260.out
                    have hcz98_0 : wc.cell? ⟨gb260, 0, none⟩ = some (.slice Ao34 t256.length co34) := (blk_cell BK260.out 0).trans rfl
                    have hfz98_0 := blk_frozen BK260.out 0
                    go_wp2_with (first | ((with_reducible refine gate_callee (f := 28) rfl ?_); refine goesL_ (some 72) rfl rfl Try.func28 (by kernel_rfl) rfl #[.agg #[.slice Ao34 t256.length co34], .int .i64 1] rfl (by (try simp only [List.map_toArray, List.map_cons, List.map_nil]); first | done | rfl | (simp only [List.length_drop, List.length_take]; rfl)) ?_; (with_reducible refine (laws_markHydra.calls kj61 (fun k_ => some k_ = (.slice Ao34 t256.length co34 : Value).ownBlock) (.slice Ao34 t256.length co34) t256 1 t269 t270 w _ ?side1 ?side2 A92.out).mono ?_); (case side1 => repeat (first | (with_reducible first | exact HB.out | apply below_alloc | apply pw_below_drewN | apply below_drew1 | refine below_set ?_ GE242.out | refine below_set ?_ GE251.out | refine below_set ?_ GE255.out | refine below_set ?_ GE260.out) | exact HB.out)); (case side2 => exact Kd.R_tight rfl HO_261000.out); rintro e w99 ⟨rfl, hy0, hb, hkp⟩; refine ⟨_, rfl, ?_⟩; have n0_ := Aside0.mk (Kd.R_mono (ok' := fun k_ => some k_ ≠ (.slice Ao28 t267.length co28 : Value).ownBlock ∧ some k_ ≠ (.slice Ao34 t256.length co34 : Value).ownBlock) (Kd.R_keptB (HO_252000.out) hkp (fun k_ hk_ hs_ => (hk_.2) hs_)) (fun k_ hk_ => ⟨hk_.1.1, hk_.1.2⟩)); have n1_ := Aside0.mk (Kd.R_mono (ok' := fun k_ => some k_ ≠ (.slice Ao22 t247.length co22 : Value).ownBlock ∧ some k_ ≠ (.slice Ao34 t256.length co34 : Value).ownBlock) (Kd.R_keptB (HO_256000.out) hkp (fun k_ hk_ hs_ => (hk_.2) hs_)) (fun k_ hk_ => ⟨hk_.1.1, hk_.1.2⟩)); have n2_ := Aside0.mk (Kd.R_reok rfl hy0 (fun k_ e_ => HO_261000.out.1 k_ e_)); have n3_ := Aside0.mk (blk_kept (by (with_reducible repeat (first | refine blk_drewN ?_ _ | refine blk_drew ?_ | refine blk_alloc ?_ _)); exact BK242.out) hkp (fun hs_ => (fun e_ => (Kd.R_ne HO_261000.out BK242.out (by decide)) e_) hs_)); have n4_ := Aside0.mk (blk_kept (by (with_reducible repeat (first | refine blk_drewN ?_ _ | refine blk_drew ?_ | refine blk_alloc ?_ _)); exact BK251.out) hkp (fun hs_ => (fun e_ => (Kd.R_ne HO_261000.out BK251.out (by decide)) e_) hs_)); have n5_ := Aside0.mk (blk_kept (by (with_reducible repeat (first | refine blk_drewN ?_ _ | refine blk_drew ?_ | refine blk_alloc ?_ _)); exact BK255.out) hkp (fun hs_ => (fun e_ => (Kd.R_ne HO_261000.out BK255.out (by decide)) e_) hs_)); have n6_ := Aside0.mk (blk_kept (by (with_reducible repeat (first | refine blk_drewN ?_ _ | refine blk_drew ?_ | refine blk_alloc ?_ _)); exact BK260.out) hkp (fun hs_ => (fun e_ => (Kd.R_ne HO_261000.out BK260.out (by decide)) e_) hs_)); have n7_ := Aside0.mk (hb); clear HO_252000; clear HO_256000; clear HO_261000; clear BK242; clear BK251; clear BK255; clear BK260; clear HB; have HO_252000 := n0_; have HO_256000 := n1_; have HO_261000 := n2_; have BK242 := n3_; have BK251 := n4_; have BK255 := n5_; have BK260 := n6_; have HB := n7_; clear n0_ n1_ n2_ n3_ n4_ n5_ n6_ n7_; (try clear hb); (try clear hkp); (try clear hy0); have hcz100_0 : w99.cell? ⟨gb260, 0, none⟩ = some (.slice Ao34 t256.length co34) := (blk_cell BK260.out 0).trans rfl; have hfz100_0 := blk_frozen BK260.out 0) | ((with_reducible refine gate_callee (f := 29) rfl ?_); refine goesL_ (some 75) rfl rfl Try.func29 (by kernel_rfl) rfl #[.agg #[.slice Ao34 t270.length co34], .int .i64 1] rfl (by (try simp only [List.map_toArray, List.map_cons, List.map_nil]); first | done | (rw [show t270.length = t256.length from (Kd.R_reads' HO_261000.out).1.symm] <;> rfl) | rfl | (simp only [List.length_drop, List.length_take]; rfl)) ?_; (with_reducible refine (laws_heldHydra.calls kj61 _ _ t270 1 t271 _ ?side1 ?side2 A93.out).mono ?_); (case side1 => repeat (first | exact (Kd.R_reads' HO_261000.out).2.2 | (with_reducible refine Kd.C_alloc ?_ _) | (with_reducible refine Kd.C_drewN ?_ _) | (with_reducible refine Kd.C_drew ?_))); (case side2 => rw [show t270.length = t256.length from (Kd.R_reads' HO_261000.out).1.symm]; exact (Kd.R_reads' HO_261000.out).2.1); rintro e w101 ⟨rfl, hb⟩; refine ⟨_, rfl, ?_⟩; have n0_ := Aside0.mk (Kd.R_below (by (with_reducible repeat (first | apply Kd.R_alloc | apply Kd.R_drewN | apply Kd.R_drew)); exact HO_252000.out) hb); have n1_ := Aside0.mk (Kd.R_below (by (with_reducible repeat (first | apply Kd.R_alloc | apply Kd.R_drewN | apply Kd.R_drew)); exact HO_256000.out) hb); have n2_ := Aside0.mk (Kd.R_below (by (with_reducible repeat (first | apply Kd.R_alloc | apply Kd.R_drewN | apply Kd.R_drew)); exact HO_261000.out) hb); have n3_ := Aside0.mk (blk_below (g := gb242) (o := .cells #[.slice A0_0 l0_0.length c0_0] 41 (0, 0)) (by (with_reducible repeat (first | refine blk_drewN ?_ _ | refine blk_drew ?_ | refine blk_alloc ?_ _)); exact BK242.out) hb); have n4_ := Aside0.mk (blk_below (g := gb251) (o := .cells #[.slice Ao22 t247.length co22] 43 (0, 0)) (by (with_reducible repeat (first | refine blk_drewN ?_ _ | refine blk_drew ?_ | refine blk_alloc ?_ _)); exact BK251.out) hb); have n5_ := Aside0.mk (blk_below (g := gb255) (o := .cells #[.slice Ao28 t267.length co28] 43 (0, 0)) (by (with_reducible repeat (first | refine blk_drewN ?_ _ | refine blk_drew ?_ | refine blk_alloc ?_ _)); exact BK255.out) hb); have n6_ := Aside0.mk (blk_below (g := gb260) (o := .cells #[.slice Ao34 t256.length co34] 43 (0, 0)) (by (with_reducible repeat (first | refine blk_drewN ?_ _ | refine blk_drew ?_ | refine blk_alloc ?_ _)); exact BK260.out) hb); have n7_ := Aside0.mk (below_step (by repeat (first | (with_reducible first | exact HB.out | apply below_alloc | apply pw_below_drewN | apply below_drew1 | refine below_set ?_ GE242.out | refine below_set ?_ GE251.out | refine below_set ?_ GE255.out | refine below_set ?_ GE260.out) | exact HB.out)) hb); clear HO_252000; clear HO_256000; clear HO_261000; clear BK242; clear BK251; clear BK255; clear BK260; clear HB; have HO_252000 := n0_; have HO_256000 := n1_; have HO_261000 := n2_; have BK242 := n3_; have BK251 := n4_; have BK255 := n5_; have BK260 := n6_; have HB := n7_; clear n0_ n1_ n2_ n3_ n4_ n5_ n6_ n7_; (try clear hb); (try clear hb2); (try clear hk); (try clear hi)))
                    go_ret
                    exact ⟨by first | rfl | (simp [errW_none, errW_some] <;> rfl) | (simp [*, errW_none, errW_some] <;> rfl), by repeat (first | (with_reducible first | exact HB.out | apply below_alloc | apply pw_below_drewN | apply below_drew1 | refine below_set ?_ GE242.out | refine below_set ?_ GE251.out | refine below_set ?_ GE255.out | refine below_set ?_ GE260.out) | exact HB.out)⟩
                  · rw [if_neg c94] at H
                    have c94b0 : decide (t271 < 0) = false := decide_eq_false c94
                    clear c94
                    by_cases c102 : t271 = t269
                    · rw [if_pos c102] at H
                      have c102b0 : (t271 == t269) = true := beq_iff_eq.mpr c102
                      have c102b1 : (t271 != t269) = false := bne_eq_false_iff_eq.mpr c102
                      clear c102
                      replace H := Option.bind_eq_some_iff.mp H
                      obtain ⟨t272, A1030, H⟩ := H
                      replace H : ((impl_ChopHead.f kj61 t272 a1 a2).bind fun bt275 => ((laws_eqHydra.f kj61 bt275.1 t247).bind fun t280 => (if t280 = true then (laws_FnExactChopHead.j2 kj61 t269 (bt275.2 != t250) t270) else (laws_FnExactChopHead.j2 kj61 t269 true t270)))) = some r := H
                      have A103 := Aside0.mk A1030
                      clear A1030
                      replace H := Option.bind_eq_some_iff.mp H
                      obtain ⟨⟨t275, t278⟩, A1040, H⟩ := H
                      replace H : ((laws_eqHydra.f kj61 t275 t247).bind fun t280 => (if t280 = true then (laws_FnExactChopHead.j2 kj61 t269 (t278 != t250) t270) else (laws_FnExactChopHead.j2 kj61 t269 true t270))) = some r := H
                      have A104 := Aside0.mk A1040
                      clear A1040
                      have HC105 := Aside0.mk H
                      clear H
                      have hnb106 := NB260_242.out
                      have hnc106 := NB242_260.out
                      have hnb107 := NB260_251.out
                      have hnc107 := NB251_260.out
                      have hnb108 := NB260_255.out
                      have hnc108 := NB255_260.out
                      have hcz109_0 : wc.cell? ⟨gb260, 0, none⟩ = some (.slice Ao34 t256.length co34) := (blk_cell BK260.out 0).trans rfl
                      have hfz109_0 := blk_frozen BK260.out 0
                      go_upto_region 25 with (first | ((with_reducible refine gate_callee (f := 28) rfl ?_); refine goesL_ (some 72) rfl rfl Try.func28 (by kernel_rfl) rfl #[.agg #[.slice Ao34 t256.length co34], .int .i64 1] rfl (by (try simp only [List.map_toArray, List.map_cons, List.map_nil]); first | done | rfl | (simp only [List.length_drop, List.length_take]; rfl)) ?_; (with_reducible refine (laws_markHydra.calls kj61 (fun k_ => some k_ = (.slice Ao34 t256.length co34 : Value).ownBlock) (.slice Ao34 t256.length co34) t256 1 t269 t270 w _ ?side1 ?side2 A92.out).mono ?_); (case side1 => repeat (first | (with_reducible first | exact HB.out | apply below_alloc | apply pw_below_drewN | apply below_drew1 | refine below_set ?_ GE242.out | refine below_set ?_ GE251.out | refine below_set ?_ GE255.out | refine below_set ?_ GE260.out) | exact HB.out)); (case side2 => exact Kd.R_tight rfl HO_261000.out); rintro e w110 ⟨rfl, hy0, hb, hkp⟩; refine ⟨_, rfl, ?_⟩; have n0_ := Aside0.mk (Kd.R_mono (ok' := fun k_ => some k_ ≠ (.slice Ao28 t267.length co28 : Value).ownBlock ∧ some k_ ≠ (.slice Ao34 t256.length co34 : Value).ownBlock) (Kd.R_keptB (HO_252000.out) hkp (fun k_ hk_ hs_ => (hk_.2) hs_)) (fun k_ hk_ => ⟨hk_.1.1, hk_.1.2⟩)); have n1_ := Aside0.mk (Kd.R_mono (ok' := fun k_ => some k_ ≠ (.slice Ao22 t247.length co22 : Value).ownBlock ∧ some k_ ≠ (.slice Ao34 t256.length co34 : Value).ownBlock) (Kd.R_keptB (HO_256000.out) hkp (fun k_ hk_ hs_ => (hk_.2) hs_)) (fun k_ hk_ => ⟨hk_.1.1, hk_.1.2⟩)); have n2_ := Aside0.mk (Kd.R_reok rfl hy0 (fun k_ e_ => HO_261000.out.1 k_ e_)); have n3_ := Aside0.mk (blk_kept (by (with_reducible repeat (first | refine blk_drewN ?_ _ | refine blk_drew ?_ | refine blk_alloc ?_ _)); exact BK242.out) hkp (fun hs_ => (fun e_ => (Kd.R_ne HO_261000.out BK242.out (by decide)) e_) hs_)); have n4_ := Aside0.mk (blk_kept (by (with_reducible repeat (first | refine blk_drewN ?_ _ | refine blk_drew ?_ | refine blk_alloc ?_ _)); exact BK251.out) hkp (fun hs_ => (fun e_ => (Kd.R_ne HO_261000.out BK251.out (by decide)) e_) hs_)); have n5_ := Aside0.mk (blk_kept (by (with_reducible repeat (first | refine blk_drewN ?_ _ | refine blk_drew ?_ | refine blk_alloc ?_ _)); exact BK255.out) hkp (fun hs_ => (fun e_ => (Kd.R_ne HO_261000.out BK255.out (by decide)) e_) hs_)); have n6_ := Aside0.mk (blk_kept (by (with_reducible repeat (first | refine blk_drewN ?_ _ | refine blk_drew ?_ | refine blk_alloc ?_ _)); exact BK260.out) hkp (fun hs_ => (fun e_ => (Kd.R_ne HO_261000.out BK260.out (by decide)) e_) hs_)); have n7_ := Aside0.mk (hb); clear HO_252000; clear HO_256000; clear HO_261000; clear BK242; clear BK251; clear BK255; clear BK260; clear HB; have HO_252000 := n0_; have HO_256000 := n1_; have HO_261000 := n2_; have BK242 := n3_; have BK251 := n4_; have BK255 := n5_; have BK260 := n6_; have HB := n7_; clear n0_ n1_ n2_ n3_ n4_ n5_ n6_ n7_; (try clear hb); (try clear hkp); (try clear hy0); have hcz111_0 : w110.cell? ⟨gb260, 0, none⟩ = some (.slice Ao34 t256.length co34) := (blk_cell BK260.out 0).trans rfl; have hfz111_0 := blk_frozen BK260.out 0) | ((with_reducible refine gate_callee (f := 29) rfl ?_); refine goesL_ (some 75) rfl rfl Try.func29 (by kernel_rfl) rfl #[.agg #[.slice Ao34 t270.length co34], .int .i64 1] rfl (by (try simp only [List.map_toArray, List.map_cons, List.map_nil]); first | done | (rw [show t270.length = t256.length from (Kd.R_reads' HO_261000.out).1.symm] <;> rfl) | rfl | (simp only [List.length_drop, List.length_take]; rfl)) ?_; (with_reducible refine (laws_heldHydra.calls kj61 _ _ t270 1 t271 _ ?side1 ?side2 A93.out).mono ?_); (case side1 => repeat (first | exact (Kd.R_reads' HO_261000.out).2.2 | (with_reducible refine Kd.C_alloc ?_ _) | (with_reducible refine Kd.C_drewN ?_ _) | (with_reducible refine Kd.C_drew ?_))); (case side2 => rw [show t270.length = t256.length from (Kd.R_reads' HO_261000.out).1.symm]; exact (Kd.R_reads' HO_261000.out).2.1); rintro e w112 ⟨rfl, hb⟩; refine ⟨_, rfl, ?_⟩; have n0_ := Aside0.mk (Kd.R_below (by (with_reducible repeat (first | apply Kd.R_alloc | apply Kd.R_drewN | apply Kd.R_drew)); exact HO_252000.out) hb); have n1_ := Aside0.mk (Kd.R_below (by (with_reducible repeat (first | apply Kd.R_alloc | apply Kd.R_drewN | apply Kd.R_drew)); exact HO_256000.out) hb); have n2_ := Aside0.mk (Kd.R_below (by (with_reducible repeat (first | apply Kd.R_alloc | apply Kd.R_drewN | apply Kd.R_drew)); exact HO_261000.out) hb); have n3_ := Aside0.mk (blk_below (g := gb242) (o := .cells #[.slice A0_0 l0_0.length c0_0] 41 (0, 0)) (by (with_reducible repeat (first | refine blk_drewN ?_ _ | refine blk_drew ?_ | refine blk_alloc ?_ _)); exact BK242.out) hb); have n4_ := Aside0.mk (blk_below (g := gb251) (o := .cells #[.slice Ao22 t247.length co22] 43 (0, 0)) (by (with_reducible repeat (first | refine blk_drewN ?_ _ | refine blk_drew ?_ | refine blk_alloc ?_ _)); exact BK251.out) hb); have n5_ := Aside0.mk (blk_below (g := gb255) (o := .cells #[.slice Ao28 t267.length co28] 43 (0, 0)) (by (with_reducible repeat (first | refine blk_drewN ?_ _ | refine blk_drew ?_ | refine blk_alloc ?_ _)); exact BK255.out) hb); have n6_ := Aside0.mk (blk_below (g := gb260) (o := .cells #[.slice Ao34 t256.length co34] 43 (0, 0)) (by (with_reducible repeat (first | refine blk_drewN ?_ _ | refine blk_drew ?_ | refine blk_alloc ?_ _)); exact BK260.out) hb); have n7_ := Aside0.mk (below_step (by repeat (first | (with_reducible first | exact HB.out | apply below_alloc | apply pw_below_drewN | apply below_drew1 | refine below_set ?_ GE242.out | refine below_set ?_ GE251.out | refine below_set ?_ GE255.out | refine below_set ?_ GE260.out) | exact HB.out)) hb); clear HO_252000; clear HO_256000; clear HO_261000; clear BK242; clear BK251; clear BK255; clear BK260; clear HB; have HO_252000 := n0_; have HO_256000 := n1_; have HO_261000 := n2_; have BK242 := n3_; have BK251 := n4_; have BK255 := n5_; have BK260 := n6_; have HB := n7_; clear n0_ n1_ n2_ n3_ n4_ n5_ n6_ n7_; (try clear hb); (try clear hb2); (try clear hk); (try clear hi); have hnb113 := NB242_251.out; have hnc113 := NB251_242.out; have hnb114 := NB242_255.out; have hnc114 := NB255_242.out; have hcz115_0 : w112.cell? ⟨gb242, 0, none⟩ = some (.slice A0_0 l0_0.length c0_0) := (blk_cell BK242.out 0).trans rfl; have hfz115_0 := blk_frozen BK242.out 0) | ((with_reducible refine gate_callee (f := 25) rfl ?_); refine goesL_ (some 83) rfl rfl Try.func25 (by kernel_rfl) rfl #[.agg #[.slice A0_0 l0_0.length c0_0]] rfl (by (try simp only [List.map_toArray, List.map_cons, List.map_nil]); first | done | rfl | (simp only [List.length_drop, List.length_take]; rfl)) ?_; (with_reducible refine (laws_toHydra.calls kj61 _ _ l0_0 t272 _ ?side1 ?side2 A103.out).mono ?_); (case side1 => repeat (first | exact (Kd.C_below HR0_0.out HB.out) | (with_reducible refine Kd.C_alloc ?_ _) | (with_reducible refine Kd.C_drewN ?_ _) | (with_reducible refine Kd.C_drew ?_))); (case side2 => exact HC0_0.out); rintro e w116 ⟨v273, rfl, ho0, hb⟩; refine ⟨_, rfl, ?_⟩; have n0_ := Aside0.mk (Kd.R_elder' (by (with_reducible repeat (first | apply Kd.R_alloc | apply Kd.R_drewN | apply Kd.R_drew)); exact HO_252000.out) (Kd.R_base ho0) hb); have n1_ := Aside0.mk (Kd.R_elder' (by (with_reducible repeat (first | apply Kd.R_alloc | apply Kd.R_drewN | apply Kd.R_drew)); exact HO_256000.out) (Kd.R_base ho0) hb); have n2_ := Aside0.mk (Kd.R_elder' (by (with_reducible repeat (first | apply Kd.R_alloc | apply Kd.R_drewN | apply Kd.R_drew)); exact HO_261000.out) (Kd.R_base ho0) hb); have n3_ := Aside0.mk (Kd.R_lower (Kd.R_new' (Kd.R_new' (Kd.R_new' ho0 (Kd.R_lt (by (with_reducible repeat (first | apply Kd.R_alloc | apply Kd.R_drewN | apply Kd.R_drew)); exact HO_252000.out))) (Kd.R_lt (by (with_reducible repeat (first | apply Kd.R_alloc | apply Kd.R_drewN | apply Kd.R_drew)); exact HO_256000.out))) (Kd.R_lt (by (with_reducible repeat (first | apply Kd.R_alloc | apply Kd.R_drewN | apply Kd.R_drew)); exact HO_261000.out))) (below_size (by repeat (first | (with_reducible first | exact HB.out | apply below_alloc | apply pw_below_drewN | apply below_drew1 | refine below_set ?_ GE242.out | refine below_set ?_ GE251.out | refine below_set ?_ GE255.out | refine below_set ?_ GE260.out) | exact HB.out)))); have n4_ := Aside0.mk (blk_below (g := gb242) (o := .cells #[.slice A0_0 l0_0.length c0_0] 41 (0, 0)) (by (with_reducible repeat (first | refine blk_drewN ?_ _ | refine blk_drew ?_ | refine blk_alloc ?_ _)); exact BK242.out) hb); have n5_ := Aside0.mk (blk_below (g := gb251) (o := .cells #[.slice Ao22 t247.length co22] 43 (0, 0)) (by (with_reducible repeat (first | refine blk_drewN ?_ _ | refine blk_drew ?_ | refine blk_alloc ?_ _)); exact BK251.out) hb); have n6_ := Aside0.mk (blk_below (g := gb255) (o := .cells #[.slice Ao28 t267.length co28] 43 (0, 0)) (by (with_reducible repeat (first | refine blk_drewN ?_ _ | refine blk_drew ?_ | refine blk_alloc ?_ _)); exact BK255.out) hb); have n7_ := Aside0.mk (blk_below (g := gb260) (o := .cells #[.slice Ao34 t256.length co34] 43 (0, 0)) (by (with_reducible repeat (first | refine blk_drewN ?_ _ | refine blk_drew ?_ | refine blk_alloc ?_ _)); exact BK260.out) hb); have n8_ := Aside0.mk (below_step (by repeat (first | (with_reducible first | exact HB.out | apply below_alloc | apply pw_below_drewN | apply below_drew1 | refine below_set ?_ GE242.out | refine below_set ?_ GE251.out | refine below_set ?_ GE255.out | refine below_set ?_ GE260.out) | exact HB.out)) hb); clear HO_252000; clear HO_256000; clear HO_261000; clear BK242; clear BK251; clear BK255; clear BK260; clear HB; have HO_252000 := n0_; have HO_256000 := n1_; have HO_261000 := n2_; have HO274 := n3_; have BK242 := n4_; have BK251 := n5_; have BK255 := n6_; have BK260 := n7_; have HB := n8_; clear n0_ n1_ n2_ n3_ n4_ n5_ n6_ n7_ n8_; (try clear hb); (try clear hb2); (try clear hk); (try clear hi); (try clear ho0); obtain ⟨Ao117, co117, eo117⟩ := Kd.R_slice HO274.out; subst eo117) | ((with_reducible refine gate_callee (f := 26) rfl ?_); refine goesL_ (some 86) rfl rfl Try.func26 (by kernel_rfl) rfl #[.agg #[.slice Ao117 t272.length co117], .int .i64 a1, .int .i64 a2] rfl (by (try simp only [List.map_toArray, List.map_cons, List.map_nil]); first | done | rfl | (simp only [List.length_drop, List.length_take]; rfl)) ?_; (with_reducible refine (impl_ChopHead.calls kj61 _ _ t272 a1 a2 t275 t278 _ ?side1 ?side2 A104.out).mono ?_); (case side1 => repeat (first | exact (Kd.R_reads' HO274.out).2.2 | (with_reducible refine Kd.C_alloc ?_ _) | (with_reducible refine Kd.C_drewN ?_ _) | (with_reducible refine Kd.C_drew ?_))); (case side2 => exact (Kd.R_reads' HO274.out).2.1); rintro e w118 ⟨v276, rfl, ho0, hb⟩; refine ⟨_, rfl, ?_⟩; have n0_ := Aside0.mk (Kd.R_elder' (by (with_reducible repeat (first | apply Kd.R_alloc | apply Kd.R_drewN | apply Kd.R_drew)); exact HO_252000.out) (Kd.R_base ho0) hb); have n1_ := Aside0.mk (Kd.R_elder' (by (with_reducible repeat (first | apply Kd.R_alloc | apply Kd.R_drewN | apply Kd.R_drew)); exact HO_256000.out) (Kd.R_base ho0) hb); have n2_ := Aside0.mk (Kd.R_elder' (by (with_reducible repeat (first | apply Kd.R_alloc | apply Kd.R_drewN | apply Kd.R_drew)); exact HO_261000.out) (Kd.R_base ho0) hb); have n3_ := Aside0.mk (Kd.R_elder' (by (with_reducible repeat (first | apply Kd.R_alloc | apply Kd.R_drewN | apply Kd.R_drew)); exact HO274.out) (Kd.R_base ho0) hb); have n4_ := Aside0.mk (Kd.R_lower (Kd.R_new' (Kd.R_new' (Kd.R_new' (Kd.R_new' ho0 (Kd.R_lt (by (with_reducible repeat (first | apply Kd.R_alloc | apply Kd.R_drewN | apply Kd.R_drew)); exact HO_252000.out))) (Kd.R_lt (by (with_reducible repeat (first | apply Kd.R_alloc | apply Kd.R_drewN | apply Kd.R_drew)); exact HO_256000.out))) (Kd.R_lt (by (with_reducible repeat (first | apply Kd.R_alloc | apply Kd.R_drewN | apply Kd.R_drew)); exact HO_261000.out))) (Kd.R_lt (by (with_reducible repeat (first | apply Kd.R_alloc | apply Kd.R_drewN | apply Kd.R_drew)); exact HO274.out))) (below_size (by repeat (first | (with_reducible first | exact HB.out | apply below_alloc | apply pw_below_drewN | apply below_drew1 | refine below_set ?_ GE242.out | refine below_set ?_ GE251.out | refine below_set ?_ GE255.out | refine below_set ?_ GE260.out) | exact HB.out)))); have n5_ := Aside0.mk (blk_below (g := gb242) (o := .cells #[.slice A0_0 l0_0.length c0_0] 41 (0, 0)) (by (with_reducible repeat (first | refine blk_drewN ?_ _ | refine blk_drew ?_ | refine blk_alloc ?_ _)); exact BK242.out) hb); have n6_ := Aside0.mk (blk_below (g := gb251) (o := .cells #[.slice Ao22 t247.length co22] 43 (0, 0)) (by (with_reducible repeat (first | refine blk_drewN ?_ _ | refine blk_drew ?_ | refine blk_alloc ?_ _)); exact BK251.out) hb); have n7_ := Aside0.mk (blk_below (g := gb255) (o := .cells #[.slice Ao28 t267.length co28] 43 (0, 0)) (by (with_reducible repeat (first | refine blk_drewN ?_ _ | refine blk_drew ?_ | refine blk_alloc ?_ _)); exact BK255.out) hb); have n8_ := Aside0.mk (blk_below (g := gb260) (o := .cells #[.slice Ao34 t256.length co34] 43 (0, 0)) (by (with_reducible repeat (first | refine blk_drewN ?_ _ | refine blk_drew ?_ | refine blk_alloc ?_ _)); exact BK260.out) hb); have n9_ := Aside0.mk (below_step (by repeat (first | (with_reducible first | exact HB.out | apply below_alloc | apply pw_below_drewN | apply below_drew1 | refine below_set ?_ GE242.out | refine below_set ?_ GE251.out | refine below_set ?_ GE255.out | refine below_set ?_ GE260.out) | exact HB.out)) hb); clear HO_252000; clear HO_256000; clear HO_261000; clear HO274; clear BK242; clear BK251; clear BK255; clear BK260; clear HB; have HO_252000 := n0_; have HO_256000 := n1_; have HO_261000 := n2_; have HO274 := n3_; have HO277 := n4_; have BK242 := n5_; have BK251 := n6_; have BK255 := n7_; have BK260 := n8_; have HB := n9_; clear n0_ n1_ n2_ n3_ n4_ n5_ n6_ n7_ n8_ n9_; (try clear hb); (try clear hb2); (try clear hk); (try clear hi); (try clear ho0)) | ((with_reducible refine gate_dst (N := 16) rfl ?_); refine box_event ?hg (N := 16) ?hd (cs := #[.slice none 0 0]) (t := 43) ?hr ?_; (case hd => rfl); (case hg => rfl); (case hr => first | (go_simp; done) | (go_simp; rfl)); intro gb279 hg w119 hbox hb; have n0_ := Aside0.mk (Kd.R_below (by (with_reducible repeat (first | apply Kd.R_alloc | apply Kd.R_drewN | apply Kd.R_drew)); exact HO_252000.out) hb); have n1_ := Aside0.mk (Kd.R_below (by (with_reducible repeat (first | apply Kd.R_alloc | apply Kd.R_drewN | apply Kd.R_drew)); exact HO_256000.out) hb); have n2_ := Aside0.mk (Kd.R_below (by (with_reducible repeat (first | apply Kd.R_alloc | apply Kd.R_drewN | apply Kd.R_drew)); exact HO_261000.out) hb); have n3_ := Aside0.mk (Kd.R_below (by (with_reducible repeat (first | apply Kd.R_alloc | apply Kd.R_drewN | apply Kd.R_drew)); exact HO274.out) hb); have n4_ := Aside0.mk (Kd.R_below (by (with_reducible repeat (first | apply Kd.R_alloc | apply Kd.R_drewN | apply Kd.R_drew)); exact HO277.out) hb); have n5_ := Aside0.mk (blk_below (g := gb242) (o := .cells #[.slice A0_0 l0_0.length c0_0] 41 (0, 0)) (by (with_reducible repeat (first | refine blk_drewN ?_ _ | refine blk_drew ?_ | refine blk_alloc ?_ _)); exact BK242.out) hb); have n6_ := Aside0.mk (blk_below (g := gb251) (o := .cells #[.slice Ao22 t247.length co22] 43 (0, 0)) (by (with_reducible repeat (first | refine blk_drewN ?_ _ | refine blk_drew ?_ | refine blk_alloc ?_ _)); exact BK251.out) hb); have n7_ := Aside0.mk (blk_below (g := gb255) (o := .cells #[.slice Ao28 t267.length co28] 43 (0, 0)) (by (with_reducible repeat (first | refine blk_drewN ?_ _ | refine blk_drew ?_ | refine blk_alloc ?_ _)); exact BK255.out) hb); have n8_ := Aside0.mk (blk_below (g := gb260) (o := .cells #[.slice Ao34 t256.length co34] 43 (0, 0)) (by (with_reducible repeat (first | refine blk_drewN ?_ _ | refine blk_drew ?_ | refine blk_alloc ?_ _)); exact BK260.out) hb); have n9_ := Aside0.mk (below_step (by repeat (first | (with_reducible first | exact HB.out | apply below_alloc | apply pw_below_drewN | apply below_drew1 | refine below_set ?_ GE242.out | refine below_set ?_ GE251.out | refine below_set ?_ GE255.out | refine below_set ?_ GE260.out) | exact HB.out)) hb); have n10_ := Aside0.mk (hbox); have n11_ := Aside0.mk ((by rw [hg]; exact (below_size (by repeat (first | (with_reducible first | exact HB.out | apply below_alloc | apply pw_below_drewN | apply below_drew1 | refine below_set ?_ GE242.out | refine below_set ?_ GE251.out | refine below_set ?_ GE255.out | refine below_set ?_ GE260.out) | exact HB.out))) : w.heap.size ≤ gb279)); have n12_ := Aside0.mk ((by rw [hg]; exact (below_size (by repeat (first | (with_reducible first | exact HB.out | apply below_alloc | apply pw_below_drewN | apply below_drew1 | refine below_set ?_ GE242.out | refine below_set ?_ GE251.out | refine below_set ?_ GE255.out | refine below_set ?_ GE260.out) | exact HB.out))) : w.heap.size ≤ gb279)); have n13_ := Aside0.mk ((by rw [hg]; exact Nat.ne_of_lt (blk_lt (g := gb242) (o := .cells #[.slice A0_0 l0_0.length c0_0] 41 (0, 0)) (by (with_reducible repeat (first | refine blk_drewN ?_ _ | refine blk_drew ?_ | refine blk_alloc ?_ _)); exact BK242.out)) : gb242 ≠ gb279)); have n14_ := Aside0.mk ((by rw [hg]; exact Nat.ne_of_gt (blk_lt (g := gb242) (o := .cells #[.slice A0_0 l0_0.length c0_0] 41 (0, 0)) (by (with_reducible repeat (first | refine blk_drewN ?_ _ | refine blk_drew ?_ | refine blk_alloc ?_ _)); exact BK242.out)) : gb279 ≠ gb242)); have n15_ := Aside0.mk ((by rw [hg]; exact Nat.ne_of_lt (blk_lt (g := gb251) (o := .cells #[.slice Ao22 t247.length co22] 43 (0, 0)) (by (with_reducible repeat (first | refine blk_drewN ?_ _ | refine blk_drew ?_ | refine blk_alloc ?_ _)); exact BK251.out)) : gb251 ≠ gb279)); have n16_ := Aside0.mk ((by rw [hg]; exact Nat.ne_of_gt (blk_lt (g := gb251) (o := .cells #[.slice Ao22 t247.length co22] 43 (0, 0)) (by (with_reducible repeat (first | refine blk_drewN ?_ _ | refine blk_drew ?_ | refine blk_alloc ?_ _)); exact BK251.out)) : gb279 ≠ gb251)); have n17_ := Aside0.mk ((by rw [hg]; exact Nat.ne_of_lt (blk_lt (g := gb255) (o := .cells #[.slice Ao28 t267.length co28] 43 (0, 0)) (by (with_reducible repeat (first | refine blk_drewN ?_ _ | refine blk_drew ?_ | refine blk_alloc ?_ _)); exact BK255.out)) : gb255 ≠ gb279)); have n18_ := Aside0.mk ((by rw [hg]; exact Nat.ne_of_gt (blk_lt (g := gb255) (o := .cells #[.slice Ao28 t267.length co28] 43 (0, 0)) (by (with_reducible repeat (first | refine blk_drewN ?_ _ | refine blk_drew ?_ | refine blk_alloc ?_ _)); exact BK255.out)) : gb279 ≠ gb255)); have n19_ := Aside0.mk ((by rw [hg]; exact Nat.ne_of_lt (blk_lt (g := gb260) (o := .cells #[.slice Ao34 t256.length co34] 43 (0, 0)) (by (with_reducible repeat (first | refine blk_drewN ?_ _ | refine blk_drew ?_ | refine blk_alloc ?_ _)); exact BK260.out)) : gb260 ≠ gb279)); have n20_ := Aside0.mk ((by rw [hg]; exact Nat.ne_of_gt (blk_lt (g := gb260) (o := .cells #[.slice Ao34 t256.length co34] 43 (0, 0)) (by (with_reducible repeat (first | refine blk_drewN ?_ _ | refine blk_drew ?_ | refine blk_alloc ?_ _)); exact BK260.out)) : gb279 ≠ gb260)); clear HO_252000; clear HO_256000; clear HO_261000; clear HO274; clear HO277; clear BK242; clear BK251; clear BK255; clear BK260; clear HB; have HO_252000 := n0_; have HO_256000 := n1_; have HO_261000 := n2_; have HO274 := n3_; have HO277 := n4_; have BK242 := n5_; have BK251 := n6_; have BK255 := n7_; have BK260 := n8_; have HB := n9_; have BK279 := n10_; have GW279 := n11_; have GE279 := n12_; have NB242_279 := n13_; have NB279_242 := n14_; have NB251_279 := n15_; have NB279_251 := n16_; have NB255_279 := n17_; have NB279_255 := n18_; have NB260_279 := n19_; have NB279_260 := n20_; clear n0_ n1_ n2_ n3_ n4_ n5_ n6_ n7_ n8_ n9_ n10_ n11_ n12_ n13_ n14_ n15_ n16_ n17_ n18_ n19_ n20_; clear hb hbox hg; obtain ⟨Ao120, co120, eo120⟩ := Kd.R_slice HO277.out; subst eo120; have hnb121 := NB279_242.out; have hnc121 := NB242_279.out; have hnb122 := NB279_251.out; have hnc122 := NB251_279.out; have hnb123 := NB279_255.out; have hnc123 := NB255_279.out; have hnb124 := NB279_260.out; have hnc124 := NB260_279.out; have hcz125_0 : w119.cell? ⟨gb279, 0, none⟩ = some (.slice none 0 0) := (blk_cell BK279.out 0).trans rfl; have hfz125_0 := blk_frozen BK279.out 0))
                      (try simp only [Act.put, List.setIfInBounds_toArray, List.set_cons_zero, List.set_cons_succ])
                      go_cut [97] (fun v97 wc => ∃ (kq : Nat) (x97_104 : Bool), v97 = .bool x97_104 ∧ Aside0 (laws_FnExactChopHead.j2 kq t269 x97_104 t270 = some r) ∧ Aside0 (kq ≤ kj61) ∧ Aside0 (Kd.R (Kd.int .i64) 3 wc w.heap.size (fun k_ => some k_ ≠ ((.slice Ao28 t267.length co28) : Value).ownBlock ∧ some k_ ≠ ((.slice Ao34 t256.length co34) : Value).ownBlock ∧ some k_ ≠ ((.slice Ao120 t275.length co120) : Value).ownBlock) (.slice Ao22 t247.length co22) t247) ∧ Aside0 (Kd.R (Kd.int .i64) 3 wc w.heap.size (fun k_ => some k_ ≠ ((.slice Ao22 t247.length co22) : Value).ownBlock ∧ some k_ ≠ ((.slice Ao34 t256.length co34) : Value).ownBlock ∧ some k_ ≠ ((.slice Ao120 t275.length co120) : Value).ownBlock) (.slice Ao28 t267.length co28) t267) ∧ Aside0 (Kd.R (Kd.int .i64) 3 wc w.heap.size (fun k_ => some k_ ≠ ((.slice Ao22 t247.length co22) : Value).ownBlock ∧ some k_ ≠ ((.slice Ao28 t267.length co28) : Value).ownBlock ∧ some k_ ≠ ((.slice Ao120 t275.length co120) : Value).ownBlock) (.slice Ao34 t256.length co34) t270) ∧ Aside0 (Kd.R (Kd.int .i64) 3 wc w.heap.size (fun k_ => some k_ ≠ ((.slice Ao22 t247.length co22) : Value).ownBlock ∧ some k_ ≠ ((.slice Ao28 t267.length co28) : Value).ownBlock ∧ some k_ ≠ ((.slice Ao34 t256.length co34) : Value).ownBlock) (.slice Ao120 t275.length co120) t275) ∧ Aside0 (wc.heap[gb242]? = some (.cells #[(.slice A0_0 l0_0.length c0_0)] 41 (0, 0))) ∧ Aside0 (wc.heap[gb251]? = some (.cells #[(.slice Ao22 t247.length co22)] 43 (0, 0))) ∧ Aside0 (wc.heap[gb255]? = some (.cells #[(.slice Ao28 t267.length co28)] 43 (0, 0))) ∧ Aside0 (wc.heap[gb260]? = some (.cells #[(.slice Ao34 t256.length co34)] 43 (0, 0))) ∧ Aside0 (wc.heap[gb279]? = some (.cells #[(.slice Ao120 t275.length co120)] 43 (0, 0))) ∧ Aside0 (Below w.heap.size w wc))
                      case first =>
                        have H := HC105.out
                        clear HC105
                        replace H := Option.bind_eq_some_iff.mp H
                        obtain ⟨t280, A1260, H⟩ := H
                        replace H : (if t280 = true then (laws_FnExactChopHead.j2 kj61 t269 (t278 != t250) t270) else (laws_FnExactChopHead.j2 kj61 t269 true t270)) = some r := H
                        have A126 := Aside0.mk A1260
                        clear A1260
                        by_cases c127 : t280 = true
                        · subst c127
                          have H1 : (laws_FnExactChopHead.j2 kj61 t269 (t278 != t250) t270) = some r := by rw [if_pos rfl] at H; exact H
                          clear H
                          have H := H1
                          clear H1
                          have H' := Aside0.mk H
                          clear H
                          have hnb128 := NB279_242.out
                          have hnc128 := NB242_279.out
                          have hnb129 := NB279_251.out
                          have hnc129 := NB251_279.out
                          have hnb130 := NB279_255.out
                          have hnc130 := NB255_279.out
                          have hnb131 := NB279_260.out
                          have hnc131 := NB260_279.out
                          have hcz132_0 : w119.cell? ⟨gb279, 0, none⟩ = some (.slice none 0 0) := (blk_cell BK279.out 0).trans rfl
                          have hfz132_0 := blk_frozen BK279.out 0
                          have hnb133 := NB251_242.out
                          have hnc133 := NB242_251.out
                          have hnb134 := NB251_255.out
                          have hnc134 := NB255_251.out
                          have hnb135 := NB251_260.out
                          have hnc135 := NB260_251.out
                          have hcz136_0 : w119.cell? ⟨gb251, 0, none⟩ = some (.slice Ao22 t247.length co22) := (blk_cell BK251.out 0).trans rfl
                          have hfz136_0 := blk_frozen BK251.out 0
                          go_wp2_with (first | ((with_reducible refine gate_callee (f := 27) rfl ?_); refine goesL_ (some 91) rfl rfl Try.func27 (by kernel_rfl) rfl #[.agg #[.slice Ao120 t275.length co120], .agg #[.slice Ao22 t247.length co22]] rfl (by (try simp only [List.map_toArray, List.map_cons, List.map_nil]); first | done | rfl | (simp only [List.length_drop, List.length_take]; rfl)) ?_; (with_reducible refine (laws_eqHydra.calls kj61 _ _ t275 _ _ t247 true _ ?side1 ?side2 ?side3 ?side4 A126.out).mono ?_); (case side1 => refine (Kd.R_reads' (e := 3) (base := w.heap.size) (ok := fun k_ => ((((True ∧ some k_ ≠ (.slice Ao22 t247.length co22 : Value).ownBlock) ∧ some k_ ≠ (.slice Ao28 t267.length co28 : Value).ownBlock) ∧ some k_ ≠ (.slice Ao34 t256.length co34 : Value).ownBlock) ∧ some k_ ≠ (.slice Ao117 t272.length co117 : Value).ownBlock)) (n := t275.length) (c := co120) ?_).2.2; exact (by (with_reducible repeat (first | apply Kd.R_alloc | apply Kd.R_drewN | apply Kd.R_drew)); exact (Kd.R_mono (Kd.R_far (p := ⟨gb279, 0, none⟩) (Kd.R_types HO277.out BK279.out (by decide)) (fun _ hk => hk.2) (.slice Ao120 t275.length co120)) (fun _ h_ => h_.1)))); (case side2 => exact (Kd.R_reads' HO277.out).2.1); (case side3 => refine (Kd.R_reads' (e := 3) (base := w.heap.size) (ok := fun k_ => (((some k_ ≠ (.slice Ao28 t267.length co28 : Value).ownBlock ∧ some k_ ≠ (.slice Ao34 t256.length co34 : Value).ownBlock) ∧ some k_ ≠ (.slice Ao117 t272.length co117 : Value).ownBlock) ∧ some k_ ≠ (.slice Ao120 t275.length co120 : Value).ownBlock)) (n := t247.length) (c := co22) ?_).2.2; exact (by (with_reducible repeat (first | apply Kd.R_alloc | apply Kd.R_drewN | apply Kd.R_drew)); exact (Kd.R_mono (Kd.R_far (p := ⟨gb279, 0, none⟩) (Kd.R_types HO_252000.out BK279.out (by decide)) (fun _ hk => hk.2) (.slice Ao120 t275.length co120)) (fun _ h_ => h_.1)))); (case side4 => exact (Kd.R_reads' HO_252000.out).2.1); rintro e w137 ⟨rfl, hb⟩; refine ⟨_, rfl, ?_⟩; have n0_ := Aside0.mk (Kd.R_below (by (with_reducible repeat (first | apply Kd.R_alloc | apply Kd.R_drewN | apply Kd.R_drew)); exact (Kd.R_mono (Kd.R_far (p := ⟨gb279, 0, none⟩) (Kd.R_types HO_252000.out BK279.out (by decide)) (fun _ hk => hk.2) (.slice Ao120 t275.length co120)) (fun _ h_ => h_.1))) hb); have n1_ := Aside0.mk (Kd.R_below (by (with_reducible repeat (first | apply Kd.R_alloc | apply Kd.R_drewN | apply Kd.R_drew)); exact (Kd.R_mono (Kd.R_far (p := ⟨gb279, 0, none⟩) (Kd.R_types HO_256000.out BK279.out (by decide)) (fun _ hk => hk.2) (.slice Ao120 t275.length co120)) (fun _ h_ => h_.1))) hb); have n2_ := Aside0.mk (Kd.R_below (by (with_reducible repeat (first | apply Kd.R_alloc | apply Kd.R_drewN | apply Kd.R_drew)); exact (Kd.R_mono (Kd.R_far (p := ⟨gb279, 0, none⟩) (Kd.R_types HO_261000.out BK279.out (by decide)) (fun _ hk => hk.2) (.slice Ao120 t275.length co120)) (fun _ h_ => h_.1))) hb); have n3_ := Aside0.mk (Kd.R_below (by (with_reducible repeat (first | apply Kd.R_alloc | apply Kd.R_drewN | apply Kd.R_drew)); exact (Kd.R_mono (Kd.R_far (p := ⟨gb279, 0, none⟩) (Kd.R_types HO274.out BK279.out (by decide)) (fun _ hk => hk.2) (.slice Ao120 t275.length co120)) (fun _ h_ => h_.1))) hb); have n4_ := Aside0.mk (Kd.R_below (by (with_reducible repeat (first | apply Kd.R_alloc | apply Kd.R_drewN | apply Kd.R_drew)); exact (Kd.R_mono (Kd.R_far (p := ⟨gb279, 0, none⟩) (Kd.R_types HO277.out BK279.out (by decide)) (fun _ hk => hk.2) (.slice Ao120 t275.length co120)) (fun _ h_ => h_.1))) hb); have n5_ := Aside0.mk (blk_below (g := gb242) (o := .cells #[.slice A0_0 l0_0.length c0_0] 41 (0, 0)) (by (with_reducible repeat (first | refine blk_drewN ?_ _ | refine blk_drew ?_ | refine blk_alloc ?_ _)); refine blk_far ?_ NB242_279.out _; (with_reducible repeat (first | refine blk_drewN ?_ _ | refine blk_drew ?_ | refine blk_alloc ?_ _)); exact BK242.out) hb); have n6_ := Aside0.mk (blk_below (g := gb251) (o := .cells #[.slice Ao22 t247.length co22] 43 (0, 0)) (by (with_reducible repeat (first | refine blk_drewN ?_ _ | refine blk_drew ?_ | refine blk_alloc ?_ _)); refine blk_far ?_ NB251_279.out _; (with_reducible repeat (first | refine blk_drewN ?_ _ | refine blk_drew ?_ | refine blk_alloc ?_ _)); exact BK251.out) hb); have n7_ := Aside0.mk (blk_below (g := gb255) (o := .cells #[.slice Ao28 t267.length co28] 43 (0, 0)) (by (with_reducible repeat (first | refine blk_drewN ?_ _ | refine blk_drew ?_ | refine blk_alloc ?_ _)); refine blk_far ?_ NB255_279.out _; (with_reducible repeat (first | refine blk_drewN ?_ _ | refine blk_drew ?_ | refine blk_alloc ?_ _)); exact BK255.out) hb); have n8_ := Aside0.mk (blk_below (g := gb260) (o := .cells #[.slice Ao34 t256.length co34] 43 (0, 0)) (by (with_reducible repeat (first | refine blk_drewN ?_ _ | refine blk_drew ?_ | refine blk_alloc ?_ _)); refine blk_far ?_ NB260_279.out _; (with_reducible repeat (first | refine blk_drewN ?_ _ | refine blk_drew ?_ | refine blk_alloc ?_ _)); exact BK260.out) hb); have n9_ := Aside0.mk (blk_below (g := gb279) (o := .cells #[.slice Ao120 t275.length co120] 43 (0, 0)) (by (with_reducible repeat (first | refine blk_drewN ?_ _ | refine blk_drew ?_ | refine blk_alloc ?_ _)); refine blk_put (cs := #[.slice none 0 0]) ?_ 0 _ rfl; (with_reducible repeat (first | refine blk_drewN ?_ _ | refine blk_drew ?_ | refine blk_alloc ?_ _)); exact BK279.out) hb); have n10_ := Aside0.mk (below_step (by repeat (first | (with_reducible first | exact HB.out | apply below_alloc | apply pw_below_drewN | apply below_drew1 | refine below_set ?_ GE242.out | refine below_set ?_ GE251.out | refine below_set ?_ GE255.out | refine below_set ?_ GE260.out | refine below_set ?_ GE279.out) | exact HB.out)) hb); clear HO_252000; clear HO_256000; clear HO_261000; clear HO274; clear HO277; clear BK242; clear BK251; clear BK255; clear BK260; clear BK279; clear HB; have HO_252000 := n0_; have HO_256000 := n1_; have HO_261000 := n2_; have HO274 := n3_; have HO277 := n4_; have BK242 := n5_; have BK251 := n6_; have BK255 := n7_; have BK260 := n8_; have BK279 := n9_; have HB := n10_; clear n0_ n1_ n2_ n3_ n4_ n5_ n6_ n7_ n8_ n9_ n10_; (try clear hb); (try clear hb2); (try clear hk); (try clear hi)))
                          go_meet
                          case rel => exact ⟨_, ((t278 != t250)), (by first | rfl | (simp; done) | (simp [*]; done)), H', ⟨by have := HJ12.out; have := HJ61.out; first | omega | exact Nat.le_refl _⟩, ⟨by (try simp only [hl256000_61]); (with_reducible repeat (first | apply Kd.R_alloc | apply Kd.R_drewN | apply Kd.R_drew)); exact Kd.R_mono HO_252000.out (fun _ hk => ⟨hk.1.1.1, ⟨hk.1.1.2, hk.2⟩⟩)⟩, ⟨by (try simp only [hl256000_61]); (with_reducible repeat (first | apply Kd.R_alloc | apply Kd.R_drewN | apply Kd.R_drew)); exact Kd.R_mono HO_256000.out (fun _ hk => ⟨hk.1.1.1, ⟨hk.1.1.2, hk.2⟩⟩)⟩, ⟨by (try simp only [hl256000_61]); (with_reducible repeat (first | apply Kd.R_alloc | apply Kd.R_drewN | apply Kd.R_drew)); exact Kd.R_mono HO_261000.out (fun _ hk => ⟨hk.1.1.1, ⟨hk.1.1.2, hk.2⟩⟩)⟩, ⟨by (try simp only [hl256000_61]); (with_reducible repeat (first | apply Kd.R_alloc | apply Kd.R_drewN | apply Kd.R_drew)); exact Kd.R_mono HO277.out (fun _ hk => ⟨hk.1.1.1.2, ⟨hk.1.1.2, hk.1.2⟩⟩)⟩, ⟨by (try simp only [hl256000_61]); (with_reducible repeat (first | refine blk_drewN ?_ _ | refine blk_drew ?_ | refine blk_alloc ?_ _)); exact BK242.out⟩, ⟨by (try simp only [hl256000_61]); (with_reducible repeat (first | refine blk_drewN ?_ _ | refine blk_drew ?_ | refine blk_alloc ?_ _)); exact BK251.out⟩, ⟨by (try simp only [hl256000_61]); (with_reducible repeat (first | refine blk_drewN ?_ _ | refine blk_drew ?_ | refine blk_alloc ?_ _)); exact BK255.out⟩, ⟨by (try simp only [hl256000_61]); (with_reducible repeat (first | refine blk_drewN ?_ _ | refine blk_drew ?_ | refine blk_alloc ?_ _)); exact BK260.out⟩, ⟨by (try simp only [hl256000_61]); (with_reducible repeat (first | refine blk_drewN ?_ _ | refine blk_drew ?_ | refine blk_alloc ?_ _)); exact BK279.out⟩, ⟨by repeat (first | (with_reducible first | exact HB.out | apply below_alloc | apply pw_below_drewN | apply below_drew1 | refine below_set ?_ GE242.out | refine below_set ?_ GE251.out | refine below_set ?_ GE255.out | refine below_set ?_ GE260.out | refine below_set ?_ GE279.out) | exact HB.out)⟩⟩
                        · replace c127 := Bool.eq_false_iff.mpr c127
                          subst c127
                          have H1 : (laws_FnExactChopHead.j2 kj61 t269 true t270) = some r := by rw [if_neg (show ¬ (false = true) by decide)] at H; exact H
                          clear H
                          have H := H1
                          clear H1
                          have H' := Aside0.mk H
                          clear H
                          have hnb138 := NB279_242.out
                          have hnc138 := NB242_279.out
                          have hnb139 := NB279_251.out
                          have hnc139 := NB251_279.out
                          have hnb140 := NB279_255.out
                          have hnc140 := NB255_279.out
                          have hnb141 := NB279_260.out
                          have hnc141 := NB260_279.out
                          have hcz142_0 : w119.cell? ⟨gb279, 0, none⟩ = some (.slice none 0 0) := (blk_cell BK279.out 0).trans rfl
                          have hfz142_0 := blk_frozen BK279.out 0
                          have hnb143 := NB251_242.out
                          have hnc143 := NB242_251.out
                          have hnb144 := NB251_255.out
                          have hnc144 := NB255_251.out
                          have hnb145 := NB251_260.out
                          have hnc145 := NB260_251.out
                          have hcz146_0 : w119.cell? ⟨gb251, 0, none⟩ = some (.slice Ao22 t247.length co22) := (blk_cell BK251.out 0).trans rfl
                          have hfz146_0 := blk_frozen BK251.out 0
                          go_wp2_with (first | ((with_reducible refine gate_callee (f := 27) rfl ?_); refine goesL_ (some 91) rfl rfl Try.func27 (by kernel_rfl) rfl #[.agg #[.slice Ao120 t275.length co120], .agg #[.slice Ao22 t247.length co22]] rfl (by (try simp only [List.map_toArray, List.map_cons, List.map_nil]); first | done | rfl | (simp only [List.length_drop, List.length_take]; rfl)) ?_; (with_reducible refine (laws_eqHydra.calls kj61 _ _ t275 _ _ t247 false _ ?side1 ?side2 ?side3 ?side4 A126.out).mono ?_); (case side1 => refine (Kd.R_reads' (e := 3) (base := w.heap.size) (ok := fun k_ => ((((True ∧ some k_ ≠ (.slice Ao22 t247.length co22 : Value).ownBlock) ∧ some k_ ≠ (.slice Ao28 t267.length co28 : Value).ownBlock) ∧ some k_ ≠ (.slice Ao34 t256.length co34 : Value).ownBlock) ∧ some k_ ≠ (.slice Ao117 t272.length co117 : Value).ownBlock)) (n := t275.length) (c := co120) ?_).2.2; exact (by (with_reducible repeat (first | apply Kd.R_alloc | apply Kd.R_drewN | apply Kd.R_drew)); exact (Kd.R_mono (Kd.R_far (p := ⟨gb279, 0, none⟩) (Kd.R_types HO277.out BK279.out (by decide)) (fun _ hk => hk.2) (.slice Ao120 t275.length co120)) (fun _ h_ => h_.1)))); (case side2 => exact (Kd.R_reads' HO277.out).2.1); (case side3 => refine (Kd.R_reads' (e := 3) (base := w.heap.size) (ok := fun k_ => (((some k_ ≠ (.slice Ao28 t267.length co28 : Value).ownBlock ∧ some k_ ≠ (.slice Ao34 t256.length co34 : Value).ownBlock) ∧ some k_ ≠ (.slice Ao117 t272.length co117 : Value).ownBlock) ∧ some k_ ≠ (.slice Ao120 t275.length co120 : Value).ownBlock)) (n := t247.length) (c := co22) ?_).2.2; exact (by (with_reducible repeat (first | apply Kd.R_alloc | apply Kd.R_drewN | apply Kd.R_drew)); exact (Kd.R_mono (Kd.R_far (p := ⟨gb279, 0, none⟩) (Kd.R_types HO_252000.out BK279.out (by decide)) (fun _ hk => hk.2) (.slice Ao120 t275.length co120)) (fun _ h_ => h_.1)))); (case side4 => exact (Kd.R_reads' HO_252000.out).2.1); rintro e w147 ⟨rfl, hb⟩; refine ⟨_, rfl, ?_⟩; have n0_ := Aside0.mk (Kd.R_below (by (with_reducible repeat (first | apply Kd.R_alloc | apply Kd.R_drewN | apply Kd.R_drew)); exact (Kd.R_mono (Kd.R_far (p := ⟨gb279, 0, none⟩) (Kd.R_types HO_252000.out BK279.out (by decide)) (fun _ hk => hk.2) (.slice Ao120 t275.length co120)) (fun _ h_ => h_.1))) hb); have n1_ := Aside0.mk (Kd.R_below (by (with_reducible repeat (first | apply Kd.R_alloc | apply Kd.R_drewN | apply Kd.R_drew)); exact (Kd.R_mono (Kd.R_far (p := ⟨gb279, 0, none⟩) (Kd.R_types HO_256000.out BK279.out (by decide)) (fun _ hk => hk.2) (.slice Ao120 t275.length co120)) (fun _ h_ => h_.1))) hb); have n2_ := Aside0.mk (Kd.R_below (by (with_reducible repeat (first | apply Kd.R_alloc | apply Kd.R_drewN | apply Kd.R_drew)); exact (Kd.R_mono (Kd.R_far (p := ⟨gb279, 0, none⟩) (Kd.R_types HO_261000.out BK279.out (by decide)) (fun _ hk => hk.2) (.slice Ao120 t275.length co120)) (fun _ h_ => h_.1))) hb); have n3_ := Aside0.mk (Kd.R_below (by (with_reducible repeat (first | apply Kd.R_alloc | apply Kd.R_drewN | apply Kd.R_drew)); exact (Kd.R_mono (Kd.R_far (p := ⟨gb279, 0, none⟩) (Kd.R_types HO274.out BK279.out (by decide)) (fun _ hk => hk.2) (.slice Ao120 t275.length co120)) (fun _ h_ => h_.1))) hb); have n4_ := Aside0.mk (Kd.R_below (by (with_reducible repeat (first | apply Kd.R_alloc | apply Kd.R_drewN | apply Kd.R_drew)); exact (Kd.R_mono (Kd.R_far (p := ⟨gb279, 0, none⟩) (Kd.R_types HO277.out BK279.out (by decide)) (fun _ hk => hk.2) (.slice Ao120 t275.length co120)) (fun _ h_ => h_.1))) hb); have n5_ := Aside0.mk (blk_below (g := gb242) (o := .cells #[.slice A0_0 l0_0.length c0_0] 41 (0, 0)) (by (with_reducible repeat (first | refine blk_drewN ?_ _ | refine blk_drew ?_ | refine blk_alloc ?_ _)); refine blk_far ?_ NB242_279.out _; (with_reducible repeat (first | refine blk_drewN ?_ _ | refine blk_drew ?_ | refine blk_alloc ?_ _)); exact BK242.out) hb); have n6_ := Aside0.mk (blk_below (g := gb251) (o := .cells #[.slice Ao22 t247.length co22] 43 (0, 0)) (by (with_reducible repeat (first | refine blk_drewN ?_ _ | refine blk_drew ?_ | refine blk_alloc ?_ _)); refine blk_far ?_ NB251_279.out _; (with_reducible repeat (first | refine blk_drewN ?_ _ | refine blk_drew ?_ | refine blk_alloc ?_ _)); exact BK251.out) hb); have n7_ := Aside0.mk (blk_below (g := gb255) (o := .cells #[.slice Ao28 t267.length co28] 43 (0, 0)) (by (with_reducible repeat (first | refine blk_drewN ?_ _ | refine blk_drew ?_ | refine blk_alloc ?_ _)); refine blk_far ?_ NB255_279.out _; (with_reducible repeat (first | refine blk_drewN ?_ _ | refine blk_drew ?_ | refine blk_alloc ?_ _)); exact BK255.out) hb); have n8_ := Aside0.mk (blk_below (g := gb260) (o := .cells #[.slice Ao34 t256.length co34] 43 (0, 0)) (by (with_reducible repeat (first | refine blk_drewN ?_ _ | refine blk_drew ?_ | refine blk_alloc ?_ _)); refine blk_far ?_ NB260_279.out _; (with_reducible repeat (first | refine blk_drewN ?_ _ | refine blk_drew ?_ | refine blk_alloc ?_ _)); exact BK260.out) hb); have n9_ := Aside0.mk (blk_below (g := gb279) (o := .cells #[.slice Ao120 t275.length co120] 43 (0, 0)) (by (with_reducible repeat (first | refine blk_drewN ?_ _ | refine blk_drew ?_ | refine blk_alloc ?_ _)); refine blk_put (cs := #[.slice none 0 0]) ?_ 0 _ rfl; (with_reducible repeat (first | refine blk_drewN ?_ _ | refine blk_drew ?_ | refine blk_alloc ?_ _)); exact BK279.out) hb); have n10_ := Aside0.mk (below_step (by repeat (first | (with_reducible first | exact HB.out | apply below_alloc | apply pw_below_drewN | apply below_drew1 | refine below_set ?_ GE242.out | refine below_set ?_ GE251.out | refine below_set ?_ GE255.out | refine below_set ?_ GE260.out | refine below_set ?_ GE279.out) | exact HB.out)) hb); clear HO_252000; clear HO_256000; clear HO_261000; clear HO274; clear HO277; clear BK242; clear BK251; clear BK255; clear BK260; clear BK279; clear HB; have HO_252000 := n0_; have HO_256000 := n1_; have HO_261000 := n2_; have HO274 := n3_; have HO277 := n4_; have BK242 := n5_; have BK251 := n6_; have BK255 := n7_; have BK260 := n8_; have BK279 := n9_; have HB := n10_; clear n0_ n1_ n2_ n3_ n4_ n5_ n6_ n7_ n8_ n9_ n10_; (try clear hb); (try clear hb2); (try clear hk); (try clear hi)))
                          go_meet
                          case rel => exact ⟨_, (true), (by first | rfl | (simp; done) | (simp [*]; done)), H', ⟨by have := HJ12.out; have := HJ61.out; first | omega | exact Nat.le_refl _⟩, ⟨by (try simp only [hl256000_61]); (with_reducible repeat (first | apply Kd.R_alloc | apply Kd.R_drewN | apply Kd.R_drew)); exact Kd.R_mono HO_252000.out (fun _ hk => ⟨hk.1.1.1, ⟨hk.1.1.2, hk.2⟩⟩)⟩, ⟨by (try simp only [hl256000_61]); (with_reducible repeat (first | apply Kd.R_alloc | apply Kd.R_drewN | apply Kd.R_drew)); exact Kd.R_mono HO_256000.out (fun _ hk => ⟨hk.1.1.1, ⟨hk.1.1.2, hk.2⟩⟩)⟩, ⟨by (try simp only [hl256000_61]); (with_reducible repeat (first | apply Kd.R_alloc | apply Kd.R_drewN | apply Kd.R_drew)); exact Kd.R_mono HO_261000.out (fun _ hk => ⟨hk.1.1.1, ⟨hk.1.1.2, hk.2⟩⟩)⟩, ⟨by (try simp only [hl256000_61]); (with_reducible repeat (first | apply Kd.R_alloc | apply Kd.R_drewN | apply Kd.R_drew)); exact Kd.R_mono HO277.out (fun _ hk => ⟨hk.1.1.1.2, ⟨hk.1.1.2, hk.1.2⟩⟩)⟩, ⟨by (try simp only [hl256000_61]); (with_reducible repeat (first | refine blk_drewN ?_ _ | refine blk_drew ?_ | refine blk_alloc ?_ _)); exact BK242.out⟩, ⟨by (try simp only [hl256000_61]); (with_reducible repeat (first | refine blk_drewN ?_ _ | refine blk_drew ?_ | refine blk_alloc ?_ _)); exact BK251.out⟩, ⟨by (try simp only [hl256000_61]); (with_reducible repeat (first | refine blk_drewN ?_ _ | refine blk_drew ?_ | refine blk_alloc ?_ _)); exact BK255.out⟩, ⟨by (try simp only [hl256000_61]); (with_reducible repeat (first | refine blk_drewN ?_ _ | refine blk_drew ?_ | refine blk_alloc ?_ _)); exact BK260.out⟩, ⟨by (try simp only [hl256000_61]); (with_reducible repeat (first | refine blk_drewN ?_ _ | refine blk_drew ?_ | refine blk_alloc ?_ _)); exact BK279.out⟩, ⟨by repeat (first | (with_reducible first | exact HB.out | apply below_alloc | apply pw_below_drewN | apply below_drew1 | refine below_set ?_ GE242.out | refine below_set ?_ GE251.out | refine below_set ?_ GE255.out | refine below_set ?_ GE260.out | refine below_set ?_ GE279.out) | exact HB.out)⟩⟩
                      case rest =>
                        clear HC105
                        try clear c1
                        try clear c2
                        try clear p2
                        try clear c3
                        try clear c4
                        try clear c5
                        try clear c5b0
                        try clear c6
                        try clear c7
                        try clear c8
                        try clear c9
                        try clear c10
                        try clear c11
                        try clear c12
                        try clear c13
                        try clear c14
                        try clear c23
                        try clear c24
                        try clear c25
                        try clear c26
                        try clear c27
                        try clear c28
                        try clear c29
                        try clear c30
                        try clear c35
                        try clear c36
                        try clear c37
                        try clear c40
                        try clear c41
                        try clear c42
                        try clear c43
                        try clear c45
                        try clear c46
                        try clear c49
                        try clear c50
                        try clear c51
                        try clear c53
                        try clear c54
                        try clear c57
                        try clear c60
                        try clear c67
                        try clear c68
                        try clear c69
                        try clear c72
                        try clear c72b0
                        try clear c74
                        try clear c75
                        try clear c76
                        try clear c77
                        try clear c79
                        try clear c80
                        try clear c83
                        try clear c84
                        try clear c85
                        try clear c87
                        try clear c88
                        try clear c91
                        try clear c94
                        try clear c94b0
                        try clear c95
                        try clear c96
                        try clear c97
                        try clear c102
                        try clear c102b0
                        try clear c102b1
                        try clear c106
                        try clear c107
                        try clear c108
                        try clear c113
                        try clear c114
                        try clear c121
                        try clear c122
                        try clear c123
                        try clear c124
                        try clear c127
                        try clear c128
                        try clear c129
                        try clear c130
                        try clear c131
                        try clear c133
                        try clear c134
                        try clear c135
                        try clear c138
                        try clear c139
                        try clear c140
                        try clear c141
                        try clear c143
                        try clear c144
                        try clear c145
                        try clear hcz100_0
                        try clear hcz109_0
                        try clear hcz111_0
                        try clear hcz115_0
                        try clear hcz125_0
                        try clear hcz132_0
                        try clear hcz136_0
                        try clear hcz142_0
                        try clear hcz146_0
                        try clear hcz15_0
                        try clear hcz17_0
                        try clear hcz24_0
                        try clear hcz25_0
                        try clear hcz31_0
                        try clear hcz38_0
                        try clear hcz44_0
                        try clear hcz47_0
                        try clear hcz52_0
                        try clear hcz55_0
                        try clear hcz70_0
                        try clear hcz78_0
                        try clear hcz7_0
                        try clear hcz81_0
                        try clear hcz86_0
                        try clear hcz89_0
                        try clear hcz98_0
                        try clear hfz100_0
                        try clear hfz109_0
                        try clear hfz111_0
                        try clear hfz115_0
                        try clear hfz125_0
                        try clear hfz132_0
                        try clear hfz136_0
                        try clear hfz142_0
                        try clear hfz146_0
                        try clear hfz15_0
                        try clear hfz17_0
                        try clear hfz24_0
                        try clear hfz25_0
                        try clear hfz31_0
                        try clear hfz38_0
                        try clear hfz44_0
                        try clear hfz47_0
                        try clear hfz52_0
                        try clear hfz55_0
                        try clear hfz70_0
                        try clear hfz78_0
                        try clear hfz7_0
                        try clear hfz81_0
                        try clear hfz86_0
                        try clear hfz89_0
                        try clear hfz98_0
                        try clear p2
                        obtain ⟨kq, x97_104, rfl, HA, HJ104, HO_252000, HO_256000, HO_261000, HO_280000, BK242, BK251, BK255, BK260, BK279, HB⟩ := hcut
                        have hl261000_104 := (Kd.R_reads' HO_261000.out).1
                        rw [hl261000_104] at HO_261000
                        (try simp only [hl261000_104])
                        (try simp only [hl261000_104] at BK242)
                        (try simp only [hl261000_104] at BK251)
                        (try simp only [hl261000_104] at BK255)
                        (try simp only [hl261000_104] at BK260)
                        (try simp only [hl261000_104] at BK279)
                        (try simp only [hl261000_104] at HO_252000)
                        (try simp only [hl261000_104] at HO_256000)
                        (try simp only [hl261000_104] at HO_280000)
                        cases kq with
                        | zero => exact absurd HA.out (by simp [laws_FnExactChopHead.j2])
                        | succ kj104 =>
                          have H := HA.out
                          clear HA
                          simp only [laws_FnExactChopHead.j2] at H
                          by_cases c148 : x97_104 = true
                          · subst c148
                            have H1 : (some false) = some r := by rw [if_pos rfl] at H; exact H
                            clear H
                            have H := H1
                            clear H1
                            obtain rfl := Option.some.inj H
                            go_wp2
                            go_ret
                            exact ⟨by first | rfl | (simp [errW_none, errW_some] <;> rfl) | (simp [*, errW_none, errW_some] <;> rfl), by repeat (first | (with_reducible first | exact HB.out | apply below_alloc | apply pw_below_drewN | apply below_drew1 | refine below_set ?_ GE242.out | refine below_set ?_ GE251.out | refine below_set ?_ GE255.out | refine below_set ?_ GE260.out | refine below_set ?_ GE279.out) | exact HB.out)⟩
                          · replace c148 := Bool.eq_false_iff.mpr c148
                            subst c148
                            have H1 : ((laws_heldHydra.f kj104 t270 1).bind fun t281 => (if t281 < 0 then (some false) else (if t281 = t269 then (some true) else (some false)))) = some r := by rw [if_neg (show ¬ (false = true) by decide)] at H; exact H
                            clear H
                            have H := H1
                            clear H1
                            replace H := Option.bind_eq_some_iff.mp H
                            obtain ⟨t281, A1490, H⟩ := H
                            replace H : (if t281 < 0 then (some false) else (if t281 = t269 then (some true) else (some false))) = some r := H
                            have A149 := Aside0.mk A1490
                            clear A1490
                            by_cases c150 : t281 < 0
                            · rw [if_pos c150] at H
                              have c150b0 : decide (t281 < 0) = true := decide_eq_true c150
                              clear c150
                              obtain rfl := Option.some.inj H
                              have hnb151 := NB260_242.out
                              have hnc151 := NB242_260.out
                              have hnb152 := NB260_251.out
                              have hnc152 := NB251_260.out
                              have hnb153 := NB260_255.out
                              have hnc153 := NB255_260.out
                              have hnb154 := NB260_279.out
                              have hnc154 := NB279_260.out
                              have hcz155_0 : wc.cell? ⟨gb260, 0, none⟩ = some (.slice Ao34 t270.length co34) := (blk_cell BK260.out 0).trans rfl
                              have hfz155_0 := blk_frozen BK260.out 0
                              go_wp2_with (first | ((with_reducible refine gate_callee (f := 29) rfl ?_); refine goesL_ (some 100) rfl rfl Try.func29 (by kernel_rfl) rfl #[.agg #[.slice Ao34 t270.length co34], .int .i64 1] rfl (by (try simp only [List.map_toArray, List.map_cons, List.map_nil]); first | done | rfl | (simp only [List.length_drop, List.length_take]; rfl)) ?_; (with_reducible refine (laws_heldHydra.calls kj104 _ _ t270 1 t281 _ ?side1 ?side2 A149.out).mono ?_); (case side1 => repeat (first | exact (Kd.R_reads' HO_261000.out).2.2 | (with_reducible refine Kd.C_alloc ?_ _) | (with_reducible refine Kd.C_drewN ?_ _) | (with_reducible refine Kd.C_drew ?_))); (case side2 => exact (Kd.R_reads' HO_261000.out).2.1); rintro e w156 ⟨rfl, hb⟩; refine ⟨_, rfl, ?_⟩; have n0_ := Aside0.mk (Kd.R_below (by (with_reducible repeat (first | apply Kd.R_alloc | apply Kd.R_drewN | apply Kd.R_drew)); exact HO_252000.out) hb); have n1_ := Aside0.mk (Kd.R_below (by (with_reducible repeat (first | apply Kd.R_alloc | apply Kd.R_drewN | apply Kd.R_drew)); exact HO_256000.out) hb); have n2_ := Aside0.mk (Kd.R_below (by (with_reducible repeat (first | apply Kd.R_alloc | apply Kd.R_drewN | apply Kd.R_drew)); exact HO_261000.out) hb); have n3_ := Aside0.mk (Kd.R_below (by (with_reducible repeat (first | apply Kd.R_alloc | apply Kd.R_drewN | apply Kd.R_drew)); exact HO_280000.out) hb); have n4_ := Aside0.mk (blk_below (g := gb242) (o := .cells #[.slice A0_0 l0_0.length c0_0] 41 (0, 0)) (by (with_reducible repeat (first | refine blk_drewN ?_ _ | refine blk_drew ?_ | refine blk_alloc ?_ _)); exact BK242.out) hb); have n5_ := Aside0.mk (blk_below (g := gb251) (o := .cells #[.slice Ao22 t247.length co22] 43 (0, 0)) (by (with_reducible repeat (first | refine blk_drewN ?_ _ | refine blk_drew ?_ | refine blk_alloc ?_ _)); exact BK251.out) hb); have n6_ := Aside0.mk (blk_below (g := gb255) (o := .cells #[.slice Ao28 t267.length co28] 43 (0, 0)) (by (with_reducible repeat (first | refine blk_drewN ?_ _ | refine blk_drew ?_ | refine blk_alloc ?_ _)); exact BK255.out) hb); have n7_ := Aside0.mk (blk_below (g := gb260) (o := .cells #[.slice Ao34 t270.length co34] 43 (0, 0)) (by (with_reducible repeat (first | refine blk_drewN ?_ _ | refine blk_drew ?_ | refine blk_alloc ?_ _)); exact BK260.out) hb); have n8_ := Aside0.mk (blk_below (g := gb279) (o := .cells #[.slice Ao120 t275.length co120] 43 (0, 0)) (by (with_reducible repeat (first | refine blk_drewN ?_ _ | refine blk_drew ?_ | refine blk_alloc ?_ _)); exact BK279.out) hb); have n9_ := Aside0.mk (below_step (by repeat (first | (with_reducible first | exact HB.out | apply below_alloc | apply pw_below_drewN | apply below_drew1 | refine below_set ?_ GE242.out | refine below_set ?_ GE251.out | refine below_set ?_ GE255.out | refine below_set ?_ GE260.out | refine below_set ?_ GE279.out) | exact HB.out)) hb); clear HO_252000; clear HO_256000; clear HO_261000; clear HO_280000; clear BK242; clear BK251; clear BK255; clear BK260; clear BK279; clear HB; have HO_252000 := n0_; have HO_256000 := n1_; have HO_261000 := n2_; have HO_280000 := n3_; have BK242 := n4_; have BK251 := n5_; have BK255 := n6_; have BK260 := n7_; have BK279 := n8_; have HB := n9_; clear n0_ n1_ n2_ n3_ n4_ n5_ n6_ n7_ n8_ n9_; (try clear hb); (try clear hb2); (try clear hk); (try clear hi)))
                              go_ret
                              exact ⟨by first | rfl | (simp [errW_none, errW_some] <;> rfl) | (simp [*, errW_none, errW_some] <;> rfl), by repeat (first | (with_reducible first | exact HB.out | apply below_alloc | apply pw_below_drewN | apply below_drew1 | refine below_set ?_ GE242.out | refine below_set ?_ GE251.out | refine below_set ?_ GE255.out | refine below_set ?_ GE260.out | refine below_set ?_ GE279.out) | exact HB.out)⟩
                            · rw [if_neg c150] at H
                              have c150b0 : decide (t281 < 0) = false := decide_eq_false c150
                              clear c150
                              by_cases c157 : t281 = t269
                              · rw [if_pos c157] at H
                                have c157b0 : (t281 == t269) = true := beq_iff_eq.mpr c157
                                have c157b1 : (t281 != t269) = false := bne_eq_false_iff_eq.mpr c157
                                clear c157
                                obtain rfl := Option.some.inj H
                                have hnb158 := NB260_242.out
                                have hnc158 := NB242_260.out
                                have hnb159 := NB260_251.out
                                have hnc159 := NB251_260.out
                                have hnb160 := NB260_255.out
                                have hnc160 := NB255_260.out
                                have hnb161 := NB260_279.out
                                have hnc161 := NB279_260.out
                                have hcz162_0 : wc.cell? ⟨gb260, 0, none⟩ = some (.slice Ao34 t270.length co34) := (blk_cell BK260.out 0).trans rfl
                                have hfz162_0 := blk_frozen BK260.out 0
                                go_wp2_with (first | ((with_reducible refine gate_callee (f := 29) rfl ?_); refine goesL_ (some 100) rfl rfl Try.func29 (by kernel_rfl) rfl #[.agg #[.slice Ao34 t270.length co34], .int .i64 1] rfl (by (try simp only [List.map_toArray, List.map_cons, List.map_nil]); first | done | rfl | (simp only [List.length_drop, List.length_take]; rfl)) ?_; (with_reducible refine (laws_heldHydra.calls kj104 _ _ t270 1 t281 _ ?side1 ?side2 A149.out).mono ?_); (case side1 => repeat (first | exact (Kd.R_reads' HO_261000.out).2.2 | (with_reducible refine Kd.C_alloc ?_ _) | (with_reducible refine Kd.C_drewN ?_ _) | (with_reducible refine Kd.C_drew ?_))); (case side2 => exact (Kd.R_reads' HO_261000.out).2.1); rintro e w163 ⟨rfl, hb⟩; refine ⟨_, rfl, ?_⟩; have n0_ := Aside0.mk (Kd.R_below (by (with_reducible repeat (first | apply Kd.R_alloc | apply Kd.R_drewN | apply Kd.R_drew)); exact HO_252000.out) hb); have n1_ := Aside0.mk (Kd.R_below (by (with_reducible repeat (first | apply Kd.R_alloc | apply Kd.R_drewN | apply Kd.R_drew)); exact HO_256000.out) hb); have n2_ := Aside0.mk (Kd.R_below (by (with_reducible repeat (first | apply Kd.R_alloc | apply Kd.R_drewN | apply Kd.R_drew)); exact HO_261000.out) hb); have n3_ := Aside0.mk (Kd.R_below (by (with_reducible repeat (first | apply Kd.R_alloc | apply Kd.R_drewN | apply Kd.R_drew)); exact HO_280000.out) hb); have n4_ := Aside0.mk (blk_below (g := gb242) (o := .cells #[.slice A0_0 l0_0.length c0_0] 41 (0, 0)) (by (with_reducible repeat (first | refine blk_drewN ?_ _ | refine blk_drew ?_ | refine blk_alloc ?_ _)); exact BK242.out) hb); have n5_ := Aside0.mk (blk_below (g := gb251) (o := .cells #[.slice Ao22 t247.length co22] 43 (0, 0)) (by (with_reducible repeat (first | refine blk_drewN ?_ _ | refine blk_drew ?_ | refine blk_alloc ?_ _)); exact BK251.out) hb); have n6_ := Aside0.mk (blk_below (g := gb255) (o := .cells #[.slice Ao28 t267.length co28] 43 (0, 0)) (by (with_reducible repeat (first | refine blk_drewN ?_ _ | refine blk_drew ?_ | refine blk_alloc ?_ _)); exact BK255.out) hb); have n7_ := Aside0.mk (blk_below (g := gb260) (o := .cells #[.slice Ao34 t270.length co34] 43 (0, 0)) (by (with_reducible repeat (first | refine blk_drewN ?_ _ | refine blk_drew ?_ | refine blk_alloc ?_ _)); exact BK260.out) hb); have n8_ := Aside0.mk (blk_below (g := gb279) (o := .cells #[.slice Ao120 t275.length co120] 43 (0, 0)) (by (with_reducible repeat (first | refine blk_drewN ?_ _ | refine blk_drew ?_ | refine blk_alloc ?_ _)); exact BK279.out) hb); have n9_ := Aside0.mk (below_step (by repeat (first | (with_reducible first | exact HB.out | apply below_alloc | apply pw_below_drewN | apply below_drew1 | refine below_set ?_ GE242.out | refine below_set ?_ GE251.out | refine below_set ?_ GE255.out | refine below_set ?_ GE260.out | refine below_set ?_ GE279.out) | exact HB.out)) hb); clear HO_252000; clear HO_256000; clear HO_261000; clear HO_280000; clear BK242; clear BK251; clear BK255; clear BK260; clear BK279; clear HB; have HO_252000 := n0_; have HO_256000 := n1_; have HO_261000 := n2_; have HO_280000 := n3_; have BK242 := n4_; have BK251 := n5_; have BK255 := n6_; have BK260 := n7_; have BK279 := n8_; have HB := n9_; clear n0_ n1_ n2_ n3_ n4_ n5_ n6_ n7_ n8_ n9_; (try clear hb); (try clear hb2); (try clear hk); (try clear hi)))
                                go_ret
                                exact ⟨by first | rfl | (simp [errW_none, errW_some] <;> rfl) | (simp [*, errW_none, errW_some] <;> rfl), by repeat (first | (with_reducible first | exact HB.out | apply below_alloc | apply pw_below_drewN | apply below_drew1 | refine below_set ?_ GE242.out | refine below_set ?_ GE251.out | refine below_set ?_ GE255.out | refine below_set ?_ GE260.out | refine below_set ?_ GE279.out) | exact HB.out)⟩
                              · rw [if_neg c157] at H
                                have c157b0 : (t281 == t269) = false := beq_eq_false_iff_ne.mpr c157
                                have c157b1 : (t281 != t269) = true := bne_iff_ne.mpr c157
                                obtain rfl := Option.some.inj H
                                have hnb164 := NB260_242.out
                                have hnc164 := NB242_260.out
                                have hnb165 := NB260_251.out
                                have hnc165 := NB251_260.out
                                have hnb166 := NB260_255.out
                                have hnc166 := NB255_260.out
                                have hnb167 := NB260_279.out
                                have hnc167 := NB279_260.out
                                have hcz168_0 : wc.cell? ⟨gb260, 0, none⟩ = some (.slice Ao34 t270.length co34) := (blk_cell BK260.out 0).trans rfl
                                have hfz168_0 := blk_frozen BK260.out 0
                                go_wp2_with (first | ((with_reducible refine gate_callee (f := 29) rfl ?_); refine goesL_ (some 100) rfl rfl Try.func29 (by kernel_rfl) rfl #[.agg #[.slice Ao34 t270.length co34], .int .i64 1] rfl (by (try simp only [List.map_toArray, List.map_cons, List.map_nil]); first | done | rfl | (simp only [List.length_drop, List.length_take]; rfl)) ?_; (with_reducible refine (laws_heldHydra.calls kj104 _ _ t270 1 t281 _ ?side1 ?side2 A149.out).mono ?_); (case side1 => repeat (first | exact (Kd.R_reads' HO_261000.out).2.2 | (with_reducible refine Kd.C_alloc ?_ _) | (with_reducible refine Kd.C_drewN ?_ _) | (with_reducible refine Kd.C_drew ?_))); (case side2 => exact (Kd.R_reads' HO_261000.out).2.1); rintro e w169 ⟨rfl, hb⟩; refine ⟨_, rfl, ?_⟩; have n0_ := Aside0.mk (Kd.R_below (by (with_reducible repeat (first | apply Kd.R_alloc | apply Kd.R_drewN | apply Kd.R_drew)); exact HO_252000.out) hb); have n1_ := Aside0.mk (Kd.R_below (by (with_reducible repeat (first | apply Kd.R_alloc | apply Kd.R_drewN | apply Kd.R_drew)); exact HO_256000.out) hb); have n2_ := Aside0.mk (Kd.R_below (by (with_reducible repeat (first | apply Kd.R_alloc | apply Kd.R_drewN | apply Kd.R_drew)); exact HO_261000.out) hb); have n3_ := Aside0.mk (Kd.R_below (by (with_reducible repeat (first | apply Kd.R_alloc | apply Kd.R_drewN | apply Kd.R_drew)); exact HO_280000.out) hb); have n4_ := Aside0.mk (blk_below (g := gb242) (o := .cells #[.slice A0_0 l0_0.length c0_0] 41 (0, 0)) (by (with_reducible repeat (first | refine blk_drewN ?_ _ | refine blk_drew ?_ | refine blk_alloc ?_ _)); exact BK242.out) hb); have n5_ := Aside0.mk (blk_below (g := gb251) (o := .cells #[.slice Ao22 t247.length co22] 43 (0, 0)) (by (with_reducible repeat (first | refine blk_drewN ?_ _ | refine blk_drew ?_ | refine blk_alloc ?_ _)); exact BK251.out) hb); have n6_ := Aside0.mk (blk_below (g := gb255) (o := .cells #[.slice Ao28 t267.length co28] 43 (0, 0)) (by (with_reducible repeat (first | refine blk_drewN ?_ _ | refine blk_drew ?_ | refine blk_alloc ?_ _)); exact BK255.out) hb); have n7_ := Aside0.mk (blk_below (g := gb260) (o := .cells #[.slice Ao34 t270.length co34] 43 (0, 0)) (by (with_reducible repeat (first | refine blk_drewN ?_ _ | refine blk_drew ?_ | refine blk_alloc ?_ _)); exact BK260.out) hb); have n8_ := Aside0.mk (blk_below (g := gb279) (o := .cells #[.slice Ao120 t275.length co120] 43 (0, 0)) (by (with_reducible repeat (first | refine blk_drewN ?_ _ | refine blk_drew ?_ | refine blk_alloc ?_ _)); exact BK279.out) hb); have n9_ := Aside0.mk (below_step (by repeat (first | (with_reducible first | exact HB.out | apply below_alloc | apply pw_below_drewN | apply below_drew1 | refine below_set ?_ GE242.out | refine below_set ?_ GE251.out | refine below_set ?_ GE255.out | refine below_set ?_ GE260.out | refine below_set ?_ GE279.out) | exact HB.out)) hb); clear HO_252000; clear HO_256000; clear HO_261000; clear HO_280000; clear BK242; clear BK251; clear BK255; clear BK260; clear BK279; clear HB; have HO_252000 := n0_; have HO_256000 := n1_; have HO_261000 := n2_; have HO_280000 := n3_; have BK242 := n4_; have BK251 := n5_; have BK255 := n6_; have BK260 := n7_; have BK279 := n8_; have HB := n9_; clear n0_ n1_ n2_ n3_ n4_ n5_ n6_ n7_ n8_ n9_; (try clear hb); (try clear hb2); (try clear hk); (try clear hi)))
                                go_ret
                                exact ⟨by first | rfl | (simp [errW_none, errW_some] <;> rfl) | (simp [*, errW_none, errW_some] <;> rfl), by repeat (first | (with_reducible first | exact HB.out | apply below_alloc | apply pw_below_drewN | apply below_drew1 | refine below_set ?_ GE242.out | refine below_set ?_ GE251.out | refine below_set ?_ GE255.out | refine below_set ?_ GE260.out | refine below_set ?_ GE279.out) | exact HB.out)⟩
                    · rw [if_neg c102] at H
                      have c102b0 : (t271 == t269) = false := beq_eq_false_iff_ne.mpr c102
                      have c102b1 : (t271 != t269) = true := bne_iff_ne.mpr c102
                      obtain rfl := Option.some.inj H
                      have hnb170 := NB260_242.out
                      have hnc170 := NB242_260.out
                      have hnb171 := NB260_251.out
                      have hnc171 := NB251_260.out
                      have hnb172 := NB260_255.out
                      have hnc172 := NB255_260.out
                      have hcz173_0 : wc.cell? ⟨gb260, 0, none⟩ = some (.slice Ao34 t256.length co34) := (blk_cell BK260.out 0).trans rfl
                      have hfz173_0 := blk_frozen BK260.out 0
                      go_wp2_with (first | ((with_reducible refine gate_callee (f := 28) rfl ?_); refine goesL_ (some 72) rfl rfl Try.func28 (by kernel_rfl) rfl #[.agg #[.slice Ao34 t256.length co34], .int .i64 1] rfl (by (try simp only [List.map_toArray, List.map_cons, List.map_nil]); first | done | rfl | (simp only [List.length_drop, List.length_take]; rfl)) ?_; (with_reducible refine (laws_markHydra.calls kj61 (fun k_ => some k_ = (.slice Ao34 t256.length co34 : Value).ownBlock) (.slice Ao34 t256.length co34) t256 1 t269 t270 w _ ?side1 ?side2 A92.out).mono ?_); (case side1 => repeat (first | (with_reducible first | exact HB.out | apply below_alloc | apply pw_below_drewN | apply below_drew1 | refine below_set ?_ GE242.out | refine below_set ?_ GE251.out | refine below_set ?_ GE255.out | refine below_set ?_ GE260.out) | exact HB.out)); (case side2 => exact Kd.R_tight rfl HO_261000.out); rintro e w174 ⟨rfl, hy0, hb, hkp⟩; refine ⟨_, rfl, ?_⟩; have n0_ := Aside0.mk (Kd.R_mono (ok' := fun k_ => some k_ ≠ (.slice Ao28 t267.length co28 : Value).ownBlock ∧ some k_ ≠ (.slice Ao34 t256.length co34 : Value).ownBlock) (Kd.R_keptB (HO_252000.out) hkp (fun k_ hk_ hs_ => (hk_.2) hs_)) (fun k_ hk_ => ⟨hk_.1.1, hk_.1.2⟩)); have n1_ := Aside0.mk (Kd.R_mono (ok' := fun k_ => some k_ ≠ (.slice Ao22 t247.length co22 : Value).ownBlock ∧ some k_ ≠ (.slice Ao34 t256.length co34 : Value).ownBlock) (Kd.R_keptB (HO_256000.out) hkp (fun k_ hk_ hs_ => (hk_.2) hs_)) (fun k_ hk_ => ⟨hk_.1.1, hk_.1.2⟩)); have n2_ := Aside0.mk (Kd.R_reok rfl hy0 (fun k_ e_ => HO_261000.out.1 k_ e_)); have n3_ := Aside0.mk (blk_kept (by (with_reducible repeat (first | refine blk_drewN ?_ _ | refine blk_drew ?_ | refine blk_alloc ?_ _)); exact BK242.out) hkp (fun hs_ => (fun e_ => (Kd.R_ne HO_261000.out BK242.out (by decide)) e_) hs_)); have n4_ := Aside0.mk (blk_kept (by (with_reducible repeat (first | refine blk_drewN ?_ _ | refine blk_drew ?_ | refine blk_alloc ?_ _)); exact BK251.out) hkp (fun hs_ => (fun e_ => (Kd.R_ne HO_261000.out BK251.out (by decide)) e_) hs_)); have n5_ := Aside0.mk (blk_kept (by (with_reducible repeat (first | refine blk_drewN ?_ _ | refine blk_drew ?_ | refine blk_alloc ?_ _)); exact BK255.out) hkp (fun hs_ => (fun e_ => (Kd.R_ne HO_261000.out BK255.out (by decide)) e_) hs_)); have n6_ := Aside0.mk (blk_kept (by (with_reducible repeat (first | refine blk_drewN ?_ _ | refine blk_drew ?_ | refine blk_alloc ?_ _)); exact BK260.out) hkp (fun hs_ => (fun e_ => (Kd.R_ne HO_261000.out BK260.out (by decide)) e_) hs_)); have n7_ := Aside0.mk (hb); clear HO_252000; clear HO_256000; clear HO_261000; clear BK242; clear BK251; clear BK255; clear BK260; clear HB; have HO_252000 := n0_; have HO_256000 := n1_; have HO_261000 := n2_; have BK242 := n3_; have BK251 := n4_; have BK255 := n5_; have BK260 := n6_; have HB := n7_; clear n0_ n1_ n2_ n3_ n4_ n5_ n6_ n7_; (try clear hb); (try clear hkp); (try clear hy0); have hcz175_0 : w174.cell? ⟨gb260, 0, none⟩ = some (.slice Ao34 t256.length co34) := (blk_cell BK260.out 0).trans rfl; have hfz175_0 := blk_frozen BK260.out 0) | ((with_reducible refine gate_callee (f := 29) rfl ?_); refine goesL_ (some 75) rfl rfl Try.func29 (by kernel_rfl) rfl #[.agg #[.slice Ao34 t270.length co34], .int .i64 1] rfl (by (try simp only [List.map_toArray, List.map_cons, List.map_nil]); first | done | (rw [show t270.length = t256.length from (Kd.R_reads' HO_261000.out).1.symm] <;> rfl) | rfl | (simp only [List.length_drop, List.length_take]; rfl)) ?_; (with_reducible refine (laws_heldHydra.calls kj61 _ _ t270 1 t271 _ ?side1 ?side2 A93.out).mono ?_); (case side1 => repeat (first | exact (Kd.R_reads' HO_261000.out).2.2 | (with_reducible refine Kd.C_alloc ?_ _) | (with_reducible refine Kd.C_drewN ?_ _) | (with_reducible refine Kd.C_drew ?_))); (case side2 => rw [show t270.length = t256.length from (Kd.R_reads' HO_261000.out).1.symm]; exact (Kd.R_reads' HO_261000.out).2.1); rintro e w176 ⟨rfl, hb⟩; refine ⟨_, rfl, ?_⟩; have n0_ := Aside0.mk (Kd.R_below (by (with_reducible repeat (first | apply Kd.R_alloc | apply Kd.R_drewN | apply Kd.R_drew)); exact HO_252000.out) hb); have n1_ := Aside0.mk (Kd.R_below (by (with_reducible repeat (first | apply Kd.R_alloc | apply Kd.R_drewN | apply Kd.R_drew)); exact HO_256000.out) hb); have n2_ := Aside0.mk (Kd.R_below (by (with_reducible repeat (first | apply Kd.R_alloc | apply Kd.R_drewN | apply Kd.R_drew)); exact HO_261000.out) hb); have n3_ := Aside0.mk (blk_below (g := gb242) (o := .cells #[.slice A0_0 l0_0.length c0_0] 41 (0, 0)) (by (with_reducible repeat (first | refine blk_drewN ?_ _ | refine blk_drew ?_ | refine blk_alloc ?_ _)); exact BK242.out) hb); have n4_ := Aside0.mk (blk_below (g := gb251) (o := .cells #[.slice Ao22 t247.length co22] 43 (0, 0)) (by (with_reducible repeat (first | refine blk_drewN ?_ _ | refine blk_drew ?_ | refine blk_alloc ?_ _)); exact BK251.out) hb); have n5_ := Aside0.mk (blk_below (g := gb255) (o := .cells #[.slice Ao28 t267.length co28] 43 (0, 0)) (by (with_reducible repeat (first | refine blk_drewN ?_ _ | refine blk_drew ?_ | refine blk_alloc ?_ _)); exact BK255.out) hb); have n6_ := Aside0.mk (blk_below (g := gb260) (o := .cells #[.slice Ao34 t256.length co34] 43 (0, 0)) (by (with_reducible repeat (first | refine blk_drewN ?_ _ | refine blk_drew ?_ | refine blk_alloc ?_ _)); exact BK260.out) hb); have n7_ := Aside0.mk (below_step (by repeat (first | (with_reducible first | exact HB.out | apply below_alloc | apply pw_below_drewN | apply below_drew1 | refine below_set ?_ GE242.out | refine below_set ?_ GE251.out | refine below_set ?_ GE255.out | refine below_set ?_ GE260.out) | exact HB.out)) hb); clear HO_252000; clear HO_256000; clear HO_261000; clear BK242; clear BK251; clear BK255; clear BK260; clear HB; have HO_252000 := n0_; have HO_256000 := n1_; have HO_261000 := n2_; have BK242 := n3_; have BK251 := n4_; have BK255 := n5_; have BK260 := n6_; have HB := n7_; clear n0_ n1_ n2_ n3_ n4_ n5_ n6_ n7_; (try clear hb); (try clear hb2); (try clear hk); (try clear hi)))
                      go_ret
                      exact ⟨by first | rfl | (simp [errW_none, errW_some] <;> rfl) | (simp [*, errW_none, errW_some] <;> rfl), by repeat (first | (with_reducible first | exact HB.out | apply below_alloc | apply pw_below_drewN | apply below_drew1 | refine below_set ?_ GE242.out | refine below_set ?_ GE251.out | refine below_set ?_ GE255.out | refine below_set ?_ GE260.out) | exact HB.out)⟩
          · replace c60 := Bool.eq_false_iff.mpr c60
            subst c60
            have H1 : (some false) = some r := by rw [if_neg (show ¬ (false = true) by decide)] at H; exact H
            clear H
            have H := H1
            clear H1
            obtain rfl := Option.some.inj H
            try go_wp2
            have n0_ := Aside0.mk (Kd.R_drew HO_252000.out)
            have n1_ := Aside0.mk (Kd.R_drew HO_256000.out)
            have n2_ := Aside0.mk (Kd.R_drew HO_261000.out)
            have n3_ := Aside0.mk (blk_drew BK242.out)
            have n4_ := Aside0.mk (blk_drew BK251.out)
            have n5_ := Aside0.mk (blk_drew BK255.out)
            have n6_ := Aside0.mk (blk_drew BK260.out)
            have n7_ := Aside0.mk (below_drew1 HB.out)
            clear HO_252000
            clear HO_256000
            clear HO_261000
            clear BK242
            clear BK251
            clear BK255
            clear BK260
            clear HB
            have HO_252000 := n0_
            have HO_256000 := n1_
            have HO_261000 := n2_
            have BK242 := n3_
            have BK251 := n4_
            have BK255 := n5_
            have BK260 := n6_
            have HB := n7_
            clear n0_ n1_ n2_ n3_ n4_ n5_ n6_ n7_
            refine start_ (n := 5) (S := fun w' => w'.cell? ⟨gb255, 0, none⟩ = some (.slice Ao28 t252.length co28) ∧ w'.cell? ⟨gb242, 0, none⟩ = some (.slice A0_0 l0_0.length c0_0)) (ds := []) #[false, false, false, false, false] (by kernel_rfl) rfl rfl ⟨(blk_cell BK255.out 0).trans rfl, (blk_cell BK242.out 0).trans rfl⟩ (fun hHeld => ?_)
            generalize wc.drew = w177 at HO_252000 HO_256000 HO_261000 BK242 BK251 BK255 BK260 HB hHeld ⊢
            refine take_ (i := 0) (N := some 49) (v := ?_) (a' := ?_) #[true, false, false, false, false] rfl rfl (by kernel_rfl) (fun _ _ _ h => h) (Or.inl ⟨by rfl, ?_⟩) hHeld ?_ ?_
            rotate_left
            · rintro w' ⟨s0, s1⟩
              go_simp
              with_reducible rfl
            rotate_left
            · simp only [Act.put, List.setIfInBounds_toArray, List.set_cons_zero, List.set_cons_succ, i64_w, i32_w]
              rfl
            refine take_ (i := 1) (N := some 50) (v := ?_) (a' := ?_) #[true, true, false, false, false] rfl rfl (by kernel_rfl) (fun _ _ _ h => h) (Or.inl ⟨by rfl, ?_⟩) hHeld ?_ ?_
            rotate_left
            · rintro w' ⟨s0, s1⟩
              go_simp
              with_reducible rfl
            rotate_left
            · simp only [Act.put, List.setIfInBounds_toArray, List.set_cons_zero, List.set_cons_succ, i64_w, i32_w]
              rfl
            refine one_ (i := 2) (N := some 51) #[true, true, true, false, false] rfl rfl (by kernel_rfl) (by decide) (fun K hK => ?_)
            refine goes_ Try.func25 (by kernel_rfl) rfl #[.agg #[.slice A0_0 l0_0.length c0_0]] (by rfl) rfl rfl (by (try simp only [List.map_toArray, List.map_cons, List.map_nil]); first | done | rfl | (simp only [List.length_drop, List.length_take]; rfl)) ?_
            with_reducible refine (laws_toHydra.calls kj12 _ _ l0_0 t262 _ ?side1 ?side2 A58.out).mono ?_
            (case side1 => repeat (first | exact (Kd.C_below HR0_0.out HB.out) | (with_reducible refine Kd.C_alloc ?_ _) | (with_reducible refine Kd.C_drewN ?_ _) | (with_reducible refine Kd.C_drew ?_)))
            (case side2 => exact HC0_0.out)
            rintro e w178 ⟨v263, rfl, ho0, hb⟩
            refine ⟨_, rfl, ?_⟩
            have n0_ := Aside0.mk (Kd.R_elder' (by (with_reducible repeat (first | apply Kd.R_alloc | apply Kd.R_drewN | apply Kd.R_drew)); exact HO_252000.out) (Kd.R_base ho0) hb)
            have n1_ := Aside0.mk (Kd.R_elder' (by (with_reducible repeat (first | apply Kd.R_alloc | apply Kd.R_drewN | apply Kd.R_drew)); exact HO_256000.out) (Kd.R_base ho0) hb)
            have n2_ := Aside0.mk (Kd.R_elder' (by (with_reducible repeat (first | apply Kd.R_alloc | apply Kd.R_drewN | apply Kd.R_drew)); exact HO_261000.out) (Kd.R_base ho0) hb)
            have n3_ := Aside0.mk (Kd.R_lower (Kd.R_new' (Kd.R_new' (Kd.R_new' ho0 (Kd.R_lt (by (with_reducible repeat (first | apply Kd.R_alloc | apply Kd.R_drewN | apply Kd.R_drew)); exact HO_252000.out))) (Kd.R_lt (by (with_reducible repeat (first | apply Kd.R_alloc | apply Kd.R_drewN | apply Kd.R_drew)); exact HO_256000.out))) (Kd.R_lt (by (with_reducible repeat (first | apply Kd.R_alloc | apply Kd.R_drewN | apply Kd.R_drew)); exact HO_261000.out))) (below_size (by repeat (first | (with_reducible first | exact HB.out | apply below_alloc | apply pw_below_drewN | apply below_drew1 | refine below_set ?_ GE242.out | refine below_set ?_ GE251.out | refine below_set ?_ GE255.out | refine below_set ?_ GE260.out) | exact HB.out))))
            have n4_ := Aside0.mk (blk_below (g := gb242) (o := .cells #[.slice A0_0 l0_0.length c0_0] 41 (0, 0)) (by (with_reducible repeat (first | refine blk_drewN ?_ _ | refine blk_drew ?_ | refine blk_alloc ?_ _)); exact BK242.out) hb)
            have n5_ := Aside0.mk (blk_below (g := gb251) (o := .cells #[.slice Ao22 t247.length co22] 43 (0, 0)) (by (with_reducible repeat (first | refine blk_drewN ?_ _ | refine blk_drew ?_ | refine blk_alloc ?_ _)); exact BK251.out) hb)
            have n6_ := Aside0.mk (blk_below (g := gb255) (o := .cells #[.slice Ao28 t252.length co28] 43 (0, 0)) (by (with_reducible repeat (first | refine blk_drewN ?_ _ | refine blk_drew ?_ | refine blk_alloc ?_ _)); exact BK255.out) hb)
            have n7_ := Aside0.mk (blk_below (g := gb260) (o := .cells #[.slice Ao34 t256.length co34] 43 (0, 0)) (by (with_reducible repeat (first | refine blk_drewN ?_ _ | refine blk_drew ?_ | refine blk_alloc ?_ _)); exact BK260.out) hb)
            have n8_ := Aside0.mk (below_step (by repeat (first | (with_reducible first | exact HB.out | apply below_alloc | apply pw_below_drewN | apply below_drew1 | refine below_set ?_ GE242.out | refine below_set ?_ GE251.out | refine below_set ?_ GE255.out | refine below_set ?_ GE260.out) | exact HB.out)) hb)
            clear HO_252000
            clear HO_256000
            clear HO_261000
            clear BK242
            clear BK251
            clear BK255
            clear BK260
            clear HB
            have HO_252000 := n0_
            have HO_256000 := n1_
            have HO_261000 := n2_
            have HO264 := n3_
            have BK242 := n4_
            have BK251 := n5_
            have BK255 := n6_
            have BK260 := n7_
            have HB := n8_
            clear n0_ n1_ n2_ n3_ n4_ n5_ n6_ n7_ n8_
            (try clear hb)
            (try clear hb2)
            (try clear hk)
            (try clear hi)
            (try clear ho0)
            obtain ⟨Ao179, co179, eo179⟩ := Kd.R_slice HO264.out
            (first | subst eo179 | (injection eo179 with f1_ f2_ f3_; have f4_ := f1_.symm; have f5_ := f3_.symm; clear f1_ f2_ f3_; subst f4_; subst f5_))
            refine hK.out _ _ ⟨(blk_cell BK255.out 0).trans rfl, (blk_cell BK242.out 0).trans rfl⟩ (fun hHeld => ?_)
            clear hK K
            refine norm_ (a' := ?_) ?_ ?_
            rotate_left
            · show Act.put _ (some 51) _ = _
              simp only [Act.put, List.setIfInBounds_toArray, List.set_cons_zero, List.set_cons_succ, i64_w, i32_w]
              rfl
            refine one_ (i := 3) (N := some 52) #[true, true, true, true, false] rfl rfl (by kernel_rfl) (by decide) (fun K hK => ?_)
            refine goes_ Try.func27 (by kernel_rfl) rfl #[.agg #[.slice Ao28 t252.length co28], .agg #[.slice Ao179 t262.length co179]] (by rfl) rfl rfl (by (try simp only [List.map_toArray, List.map_cons, List.map_nil]); first | done | rfl | (simp only [List.length_drop, List.length_take]; rfl)) ?_
            with_reducible refine (laws_eqHydra.calls kj12 _ _ t252 _ _ t262 false _ ?side1 ?side2 ?side3 ?side4 A59.out).mono ?_
            (case side1 => repeat (first | exact (Kd.R_reads' HO_256000.out).2.2 | (with_reducible refine Kd.C_alloc ?_ _) | (with_reducible refine Kd.C_drewN ?_ _) | (with_reducible refine Kd.C_drew ?_)))
            (case side2 => exact (Kd.R_reads' HO_256000.out).2.1)
            (case side3 => repeat (first | exact (Kd.R_reads' HO264.out).2.2 | (with_reducible refine Kd.C_alloc ?_ _) | (with_reducible refine Kd.C_drewN ?_ _) | (with_reducible refine Kd.C_drew ?_)))
            (case side4 => exact (Kd.R_reads' HO264.out).2.1)
            rintro e w180 ⟨rfl, hb⟩
            refine ⟨_, rfl, ?_⟩
            have n0_ := Aside0.mk (Kd.R_below (by (with_reducible repeat (first | apply Kd.R_alloc | apply Kd.R_drewN | apply Kd.R_drew)); exact HO_252000.out) hb)
            have n1_ := Aside0.mk (Kd.R_below (by (with_reducible repeat (first | apply Kd.R_alloc | apply Kd.R_drewN | apply Kd.R_drew)); exact HO_256000.out) hb)
            have n2_ := Aside0.mk (Kd.R_below (by (with_reducible repeat (first | apply Kd.R_alloc | apply Kd.R_drewN | apply Kd.R_drew)); exact HO_261000.out) hb)
            have n3_ := Aside0.mk (Kd.R_below (by (with_reducible repeat (first | apply Kd.R_alloc | apply Kd.R_drewN | apply Kd.R_drew)); exact HO264.out) hb)
            have n4_ := Aside0.mk (blk_below (g := gb242) (o := .cells #[.slice A0_0 l0_0.length c0_0] 41 (0, 0)) (by (with_reducible repeat (first | refine blk_drewN ?_ _ | refine blk_drew ?_ | refine blk_alloc ?_ _)); exact BK242.out) hb)
            have n5_ := Aside0.mk (blk_below (g := gb251) (o := .cells #[.slice Ao22 t247.length co22] 43 (0, 0)) (by (with_reducible repeat (first | refine blk_drewN ?_ _ | refine blk_drew ?_ | refine blk_alloc ?_ _)); exact BK251.out) hb)
            have n6_ := Aside0.mk (blk_below (g := gb255) (o := .cells #[.slice Ao28 t252.length co28] 43 (0, 0)) (by (with_reducible repeat (first | refine blk_drewN ?_ _ | refine blk_drew ?_ | refine blk_alloc ?_ _)); exact BK255.out) hb)
            have n7_ := Aside0.mk (blk_below (g := gb260) (o := .cells #[.slice Ao34 t256.length co34] 43 (0, 0)) (by (with_reducible repeat (first | refine blk_drewN ?_ _ | refine blk_drew ?_ | refine blk_alloc ?_ _)); exact BK260.out) hb)
            have n8_ := Aside0.mk (below_step (by repeat (first | (with_reducible first | exact HB.out | apply below_alloc | apply pw_below_drewN | apply below_drew1 | refine below_set ?_ GE242.out | refine below_set ?_ GE251.out | refine below_set ?_ GE255.out | refine below_set ?_ GE260.out) | exact HB.out)) hb)
            clear HO_252000
            clear HO_256000
            clear HO_261000
            clear HO264
            clear BK242
            clear BK251
            clear BK255
            clear BK260
            clear HB
            have HO_252000 := n0_
            have HO_256000 := n1_
            have HO_261000 := n2_
            have HO264 := n3_
            have BK242 := n4_
            have BK251 := n5_
            have BK255 := n6_
            have BK260 := n7_
            have HB := n8_
            clear n0_ n1_ n2_ n3_ n4_ n5_ n6_ n7_ n8_
            (try clear hb)
            (try clear hb2)
            (try clear hk)
            (try clear hi)
            refine hK.out _ _ ⟨(blk_cell BK255.out 0).trans rfl, (blk_cell BK242.out 0).trans rfl⟩ (fun hHeld => ?_)
            clear hK K
            refine norm_ (a' := ?_) ?_ ?_
            rotate_left
            · show Act.put _ (some 52) _ = _
              simp only [Act.put, List.setIfInBounds_toArray, List.set_cons_zero, List.set_cons_succ, i64_w, i32_w]
              rfl
            refine pure_ (i := 4) (N := some 53) (v := ?_) (a' := ?_) #[true, true, true, true, true] rfl rfl (by kernel_rfl) (fun _ _ _ h => h) (Or.inl ⟨by rfl, ?_⟩) ?_ ?_
            rotate_left
            · intro w'
              go_simp
              with_reducible rfl
            rotate_left
            · simp only [Act.put, List.setIfInBounds_toArray, List.set_cons_zero, List.set_cons_succ, i64_w, i32_w]
              rfl
            refine done_ (by kernel_rfl) ?_
            try go_wp2
            go_ret
            exact ⟨by first | rfl | (simp [errW_none, errW_some] <;> rfl) | (simp [*, errW_none, errW_some] <;> rfl), by repeat (first | (with_reducible first | exact HB.out | apply below_alloc | apply pw_below_drewN | apply below_drew1 | refine below_set ?_ GE242.out | refine below_set ?_ GE251.out | refine below_set ?_ GE255.out | refine below_set ?_ GE260.out) | exact HB.out)⟩

end Go.Proofs.Ytgjpfhedhehmdaa.QFnExactChopHead
