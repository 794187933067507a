/- The Go functions that the law FnNimRoots reaches, as Lean functions, and what their calls do. Written by a program of this session. -/
import Derived.Test.YtoeddjbhippdlaaQFnNimRootsx0
import Derived.Test.YtoeddjbhippdlaaQFnNimRootsx2
import Derived.Test.YtoeddjbhippdlaaQFnNimRootsx3
import Derived.Test.YtoeddjbhippdlaaQFnNimRootsx4
import Derived.Test.YtoeddjbhippdlaaQFnNimRootsx5
namespace Go.Proofs.Ytoeddjbhippdlaa.QFnNimRoots
open Go.RowKit Go.Proofs.YtoeddjbhippdlaaW.PrintWords Go.Proofs.YtoeddjbhippdlaaW.PrintLast Go.Proofs.YtoeddjbhippdlaaW.PrintMore
attribute [local go_sem] max2_int min2_int max_two min_two max_three min_three max_four min_four   -- for this text's walks alone
set_option linter.unusedVariables false
set_option linter.unusedSimpArgs false

/-! ### laws_FnNimRoots: function 4 -/
mutual
def laws_FnNimRoots.j0 : Nat → Int → Int → List Int → Bool → Bool → Option (Bool)
  | 0, _, _, _, _, _ => none
  | k + 1, x5, x6, x7, x10, x63 => if x63 = true then (some false) else (if x10 = true then (laws_FnNimRoots.l0 k x5 x6 x7 x7 (x7.length : Int) 0) else (some true))
def laws_FnNimRoots.l0 : Nat → Int → Int → List Int → List Int → Int → Int → Option (Bool)
  | 0, _, _, _, _, _, _ => none
  | k + 1, x5, x6, x7, x66, x67, x68 => if x68 < x67 then (if 0 ≤ x68 then (if x68 < (x66.length : Int) then ((impl_NimProduct.f k (rd x66 x68) (rd x66 x68)).bind fun bt256 => ((impl_NimProduct.f k x5 (rd x66 x68)).bind fun bt258 => ((impl_NimSum.f k (([bt256.1, bt258.1, x6] : List Int))).bind fun bt263 => (if bt256.2 = true then (if bt258.2 = true then (if bt263.2 = true then (if bt263.1 = 0 then (if x68 > 0 then (if 0 ≤ (wrap64 (x68 - 1)) then (if (wrap64 (x68 - 1)) < (x7.length : Int) then (if (rd x7 (wrap64 (x68 - 1))) ≥ (rd x66 x68) then (some false) else (laws_FnNimRoots.l0 k x5 x6 x7 x66 x67 (wrap64 (x68 + 1)))) else (none)) else (none)) else (laws_FnNimRoots.l0 k x5 x6 x7 x66 x67 (wrap64 (x68 + 1)))) else (some false)) else (some false)) else (some false)) else (some false))))) else (none)) else (none)) else (if x5 = 0 then (if (x7.length : Int) = 1 then (if x5 > 0 then (if (x7.length : Int) = 0 then (laws_FnNimRoots.j2 k x5 x6 false) else (laws_FnNimRoots.j2 k x5 x6 ((x7.length : Int) != 2))) else (laws_FnNimRoots.j2 k x5 x6 false)) else (laws_FnNimRoots.j2 k x5 x6 true)) else (if x5 > 0 then (if (x7.length : Int) = 0 then (laws_FnNimRoots.j2 k x5 x6 false) else (laws_FnNimRoots.j2 k x5 x6 ((x7.length : Int) != 2))) else (laws_FnNimRoots.j2 k x5 x6 false)))
def laws_FnNimRoots.j2 : Nat → Int → Int → Bool → Option (Bool)
  | 0, _, _, _ => none
  | k + 1, x5, x6, x141 => if x141 = true then (some false) else ((impl_NimRoot.f k x5).bind fun bt266 => ((impl_NimRoot.f k x6).bind fun bt268 => ((impl_NimSum.f k (([x5, x6] : List Int))).bind fun bt273 => ((impl_NimRoot.f k bt273.1).bind fun bt275 => ((impl_NimSum.f k (([bt266.1, bt268.1] : List Int))).bind fun bt280 => ((impl_NimProduct.f k bt266.1 bt266.1).bind fun bt282 => ((impl_NimHalf.f x6).bind fun bt284 => ((impl_NimSolve.f 1 x6).bind fun bt286 => (if bt266.2 = true then (if bt268.2 = true then (if bt273.2 = true then (if bt275.2 = true then (if bt280.2 = true then (if bt282.2 = true then (if bt286.2 = true then (if bt280.1 = bt275.1 then (if bt282.1 = x5 then (if (bt284.2 == ((bt286.1.length : Int) == 2)) = true then (if bt284.2 = true then (if 0 < (bt286.1.length : Int) then (some (bt284.1 == (rd bt286.1 0))) else (none)) else (some true)) else (some false)) else (some false)) else (some false)) else (some false)) else (some false)) else (some false)) else (some false)) else (some false)) else (some false)) else (some false))))))))))
end
def laws_FnNimRoots.f (k : Nat) (l0 : List Int) (l1 : List Int) : Option (Bool) := (laws_big.f l0 l1).bind fun t243 => (if t243 = true then (some true) else ((spec_DrawNimSolve.f l0).bind fun bt244 => ((impl_NimSolve.f bt244.1 bt244.2).bind fun bt246 => ((spec_NimSolve.f k bt244.1 bt244.2).bind fun bt250 => (if (bt246.2 != bt250.2) = true then (laws_FnNimRoots.j0 k bt244.1 bt244.2 bt246.1 bt250.2 true) else ((laws_qSame.f k bt246.1 bt250.1).bind fun t254 => (laws_FnNimRoots.j0 k bt244.1 bt244.2 bt246.1 bt250.2 (!t254))))))))
theorem laws_FnNimRoots.mono_l : ∀ k, (∀ y0 y1 y2 y3 y4, LeO (laws_FnNimRoots.j0 k y0 y1 y2 y3 y4) (laws_FnNimRoots.j0 (k + 1) y0 y1 y2 y3 y4)) ∧ (∀ y0 y1 y2 y3 y4 y5, LeO (laws_FnNimRoots.l0 k y0 y1 y2 y3 y4 y5) (laws_FnNimRoots.l0 (k + 1) y0 y1 y2 y3 y4 y5)) ∧ (∀ y0 y1 y2, LeO (laws_FnNimRoots.j2 k y0 y1 y2) (laws_FnNimRoots.j2 (k + 1) y0 y1 y2))
  | 0 => ⟨fun _ _ _ _ _ r h => by simp [laws_FnNimRoots.j0] at h, fun _ _ _ _ _ _ r h => by simp [laws_FnNimRoots.l0] at h, fun _ _ _ r h => by simp [laws_FnNimRoots.j2] at h⟩
  | k + 1 => by
    obtain ⟨ih0, ih1, ih2⟩ := laws_FnNimRoots.mono_l k
    refine ⟨?_, ?_, ?_⟩
    · intro y0 y1 y2 y3 y4
      unfold laws_FnNimRoots.j0
      repeat' first
      | (with_reducible exact ih0 _ _ _ _ _)
      | (with_reducible exact ih1 _ _ _ _ _ _)
      | (with_reducible exact ih2 _ _ _)
      | (with_reducible exact impl_NimProduct.mono _ _ _)
      | (with_reducible exact impl_NimRoot.mono _ _)
      | (with_reducible exact impl_NimSum.mono _ _)
      | (with_reducible exact laws_qSame.mono _ _ _)
      | (with_reducible exact spec_NimSolve.mono _ _ _)
      | (with_reducible exact LeO.refl _)
      | (with_reducible exact LeO.none _)
      | (with_reducible refine LeO.ite ?_ ?_)
      | (with_reducible refine LeO.bind ?_ (fun _ => ?_))
      | exact ih0 _ _ _ _ _
      | exact ih1 _ _ _ _ _ _
      | exact ih2 _ _ _
      | exact impl_NimProduct.mono _ _ _
      | exact impl_NimRoot.mono _ _
      | exact impl_NimSum.mono _ _
      | exact laws_qSame.mono _ _ _
      | exact spec_NimSolve.mono _ _ _
      | exact LeO.none _
      | refine LeO.ite ?_ ?_
      | refine LeO.bind ?_ (fun _ => ?_)
    · intro y0 y1 y2 y3 y4 y5
      unfold laws_FnNimRoots.l0
      repeat' first
      | (with_reducible exact ih0 _ _ _ _ _)
      | (with_reducible exact ih1 _ _ _ _ _ _)
      | (with_reducible exact ih2 _ _ _)
      | (with_reducible exact impl_NimProduct.mono _ _ _)
      | (with_reducible exact impl_NimRoot.mono _ _)
      | (with_reducible exact impl_NimSum.mono _ _)
      | (with_reducible exact laws_qSame.mono _ _ _)
      | (with_reducible exact spec_NimSolve.mono _ _ _)
      | (with_reducible exact LeO.refl _)
      | (with_reducible exact LeO.none _)
      | (with_reducible refine LeO.ite ?_ ?_)
      | (with_reducible refine LeO.bind ?_ (fun _ => ?_))
      | exact ih0 _ _ _ _ _
      | exact ih1 _ _ _ _ _ _
      | exact ih2 _ _ _
      | exact impl_NimProduct.mono _ _ _
      | exact impl_NimRoot.mono _ _
      | exact impl_NimSum.mono _ _
      | exact laws_qSame.mono _ _ _
      | exact spec_NimSolve.mono _ _ _
      | exact LeO.none _
      | refine LeO.ite ?_ ?_
      | refine LeO.bind ?_ (fun _ => ?_)
    · intro y0 y1 y2
      unfold laws_FnNimRoots.j2
      repeat' first
      | (with_reducible exact ih0 _ _ _ _ _)
      | (with_reducible exact ih1 _ _ _ _ _ _)
      | (with_reducible exact ih2 _ _ _)
      | (with_reducible exact impl_NimProduct.mono _ _ _)
      | (with_reducible exact impl_NimRoot.mono _ _)
      | (with_reducible exact impl_NimSum.mono _ _)
      | (with_reducible exact laws_qSame.mono _ _ _)
      | (with_reducible exact spec_NimSolve.mono _ _ _)
      | (with_reducible exact LeO.refl _)
      | (with_reducible exact LeO.none _)
      | (with_reducible refine LeO.ite ?_ ?_)
      | (with_reducible refine LeO.bind ?_ (fun _ => ?_))
      | exact ih0 _ _ _ _ _
      | exact ih1 _ _ _ _ _ _
      | exact ih2 _ _ _
      | exact impl_NimProduct.mono _ _ _
      | exact impl_NimRoot.mono _ _
      | exact impl_NimSum.mono _ _
      | exact laws_qSame.mono _ _ _
      | exact spec_NimSolve.mono _ _ _
      | exact LeO.none _
      | refine LeO.ite ?_ ?_
      | refine LeO.bind ?_ (fun _ => ?_)
theorem laws_FnNimRoots.mono : ∀ a0 a1 k, LeO (laws_FnNimRoots.f k a0 a1) (laws_FnNimRoots.f (k + 1) a0 a1) := by
  intro a0 a1 k
  obtain ⟨ih0, ih1, ih2⟩ := laws_FnNimRoots.mono_l k
  unfold laws_FnNimRoots.f
  repeat' first
      | (with_reducible exact ih0 _ _ _ _ _)
      | (with_reducible exact ih1 _ _ _ _ _ _)
      | (with_reducible exact ih2 _ _ _)
      | (with_reducible exact impl_NimProduct.mono _ _ _)
      | (with_reducible exact impl_NimRoot.mono _ _)
      | (with_reducible exact impl_NimSum.mono _ _)
      | (with_reducible exact laws_qSame.mono _ _ _)
      | (with_reducible exact spec_NimSolve.mono _ _ _)
      | (with_reducible exact LeO.refl _)
      | (with_reducible exact LeO.none _)
      | (with_reducible refine LeO.ite ?_ ?_)
      | (with_reducible refine LeO.bind ?_ (fun _ => ?_))
      | exact ih0 _ _ _ _ _
      | exact ih1 _ _ _ _ _ _
      | exact ih2 _ _ _
      | exact impl_NimProduct.mono _ _ _
      | exact impl_NimRoot.mono _ _
      | exact impl_NimSum.mono _ _
      | exact laws_qSame.mono _ _ _
      | exact spec_NimSolve.mono _ _ _
      | exact LeO.none _
      | refine LeO.ite ?_ ?_
      | refine LeO.bind ?_ (fun _ => ?_)
set_option maxHeartbeats 8000000 in
set_option maxRecDepth 100000 in
theorem laws_FnNimRoots.calls (k : Nat) (A0 : Option Addr) (c0 : Nat) (l0 : List Int) (A1 : Option Addr) (c1 : Nat) (l1 : List Int) (r : Bool) (hr_ : Aside0 (r = true)) (w : World) (hr0 : Kd.C (Kd.int .u8) w A0 l0.length l0) (hc0 : l0.length ≤ c0) (hr1 : Kd.C (Kd.int .u8) w A1 l1.length l1) (hc1 : l1.length ≤ c1) (h : laws_FnNimRoots.f k l0 l1 = some r) :
    Calls Try.prog 4 #[.slice A0 l0.length c0, .slice A1 l1.length c1] w fun e w' => e = .returned (.bool r) ∧ Below w.heap.size w w' := by
  have HR0 := Aside0.mk hr0
  have HC0 := Aside0.mk hc0
  clear hr0 hc0
  have HR1 := Aside0.mk hr1
  have HC1 := Aside0.mk hc1
  clear hr1 hc1
  have HB := Aside0.mk (Below.refl w.heap.size w)
  have H : ((laws_big.f l0 l1).bind fun t243 => (if t243 = true then (some true) else ((spec_DrawNimSolve.f l0).bind fun bt244 => ((impl_NimSolve.f bt244.1 bt244.2).bind fun bt246 => ((spec_NimSolve.f k bt244.1 bt244.2).bind fun bt250 => (if (bt246.2 != bt250.2) = true then (laws_FnNimRoots.j0 k bt244.1 bt244.2 bt246.1 bt250.2 true) else ((laws_qSame.f k bt246.1 bt250.1).bind fun t254 => (laws_FnNimRoots.j0 k bt244.1 bt244.2 bt246.1 bt250.2 (!t254))))))))) = some r := h
  clear h
  replace H := Option.bind_eq_some_iff.mp H
  obtain ⟨t243, A30, H⟩ := H
  replace H : (if t243 = true then (some true) else ((spec_DrawNimSolve.f l0).bind fun bt244 => ((impl_NimSolve.f bt244.1 bt244.2).bind fun bt246 => ((spec_NimSolve.f k bt244.1 bt244.2).bind fun bt250 => (if (bt246.2 != bt250.2) = true then (laws_FnNimRoots.j0 k bt244.1 bt244.2 bt246.1 bt250.2 true) else ((laws_qSame.f k bt246.1 bt250.1).bind fun t254 => (laws_FnNimRoots.j0 k bt244.1 bt244.2 bt246.1 bt250.2 (!t254)))))))) = some r := H
  have A3 := Aside0.mk A30
  clear A30
  by_cases c4 : t243 = true
  · subst c4
    have H1 : (some true) = some r := by rw [if_pos rfl] at H; exact H
    clear H
    have H := H1
    clear H1
    as_aux_lemma =>
      try exact absurd ((Option.some.inj H).trans hr_.out) (by decide)
      all_goals
        obtain rfl := Option.some.inj H
        go_enter Try.func4, Try.ntmps4
        go_wp2_with (first | ((with_reducible refine gate_callee (f := 12) rfl ?_); refine goesL_ (some 37) rfl rfl Try.func12 (by kernel_rfl) rfl #[.slice A0 l0.length c0, .slice A1 l1.length c1] rfl (by (try simp only [List.map_toArray, List.map_cons, List.map_nil]); first | done | rfl | (simp only [List.length_drop, List.length_take]; rfl)) ?_; (with_reducible refine (laws_big.calls _ _ l0 _ _ l1 true _ ?side1 ?side2 ?side3 ?side4 A3.out).mono ?_); (case side1 => repeat (first | exact HR0.out | (with_reducible refine Kd.C_alloc ?_ _) | (with_reducible refine Kd.C_drewN ?_ _) | (with_reducible refine Kd.C_drew ?_))); (case side2 => exact HC0.out); (case side3 => repeat (first | exact HR1.out | (with_reducible refine Kd.C_alloc ?_ _) | (with_reducible refine Kd.C_drewN ?_ _) | (with_reducible refine Kd.C_drew ?_))); (case side4 => exact HC1.out); rintro e w' ⟨rfl, ⟨nd, rfl⟩⟩; refine ⟨_, rfl, ?_⟩))
        go_ret
        exact ⟨by first | rfl | (simp [errW_none, errW_some] <;> rfl) | (simp [*, errW_none, errW_some] <;> rfl), by repeat (first | (with_reducible first | exact HB.out | apply below_alloc | apply pw_below_drewN | apply below_drew1) | exact HB.out)⟩
  · replace c4 := Bool.eq_false_iff.mpr c4
    subst c4
    have H1 : ((spec_DrawNimSolve.f l0).bind fun bt244 => ((impl_NimSolve.f bt244.1 bt244.2).bind fun bt246 => ((spec_NimSolve.f k bt244.1 bt244.2).bind fun bt250 => (if (bt246.2 != bt250.2) = true then (laws_FnNimRoots.j0 k bt244.1 bt244.2 bt246.1 bt250.2 true) else ((laws_qSame.f k bt246.1 bt250.1).bind fun t254 => (laws_FnNimRoots.j0 k bt244.1 bt244.2 bt246.1 bt250.2 (!t254))))))) = some r := by rw [if_neg (show ¬ (false = true) by decide)] at H; exact H
    clear H
    have H := H1
    clear H1
    replace H := Option.bind_eq_some_iff.mp H
    obtain ⟨⟨t244, t245⟩, A50, H⟩ := H
    replace H : ((impl_NimSolve.f t244 t245).bind fun bt246 => ((spec_NimSolve.f k t244 t245).bind fun bt250 => (if (bt246.2 != bt250.2) = true then (laws_FnNimRoots.j0 k t244 t245 bt246.1 bt250.2 true) else ((laws_qSame.f k bt246.1 bt250.1).bind fun t254 => (laws_FnNimRoots.j0 k t244 t245 bt246.1 bt250.2 (!t254)))))) = some r := H
    have A5 := Aside0.mk A50
    clear A50
    replace H := Option.bind_eq_some_iff.mp H
    obtain ⟨⟨t246, t247⟩, A60, H⟩ := H
    replace H : ((spec_NimSolve.f k t244 t245).bind fun bt250 => (if (t247 != bt250.2) = true then (laws_FnNimRoots.j0 k t244 t245 t246 bt250.2 true) else ((laws_qSame.f k t246 bt250.1).bind fun t254 => (laws_FnNimRoots.j0 k t244 t245 t246 bt250.2 (!t254))))) = some r := H
    have A6 := Aside0.mk A60
    clear A60
    replace H := Option.bind_eq_some_iff.mp H
    obtain ⟨⟨t250, t251⟩, A70, H⟩ := H
    replace H : (if (t247 != t251) = true then (laws_FnNimRoots.j0 k t244 t245 t246 t251 true) else ((laws_qSame.f k t246 t250).bind fun t254 => (laws_FnNimRoots.j0 k t244 t245 t246 t251 (!t254)))) = some r := H
    have A7 := Aside0.mk A70
    clear A70
    have HC8 := Aside0.mk H
    clear H
    go_enter Try.func4, Try.ntmps4
    go_upto_region 6 with (first | ((with_reducible refine gate_callee (f := 12) rfl ?_); refine goesL_ (some 37) rfl rfl Try.func12 (by kernel_rfl) rfl #[.slice A0 l0.length c0, .slice A1 l1.length c1] rfl (by (try simp only [List.map_toArray, List.map_cons, List.map_nil]); first | done | rfl | (simp only [List.length_drop, List.length_take]; rfl)) ?_; (with_reducible refine (laws_big.calls _ _ l0 _ _ l1 false _ ?side1 ?side2 ?side3 ?side4 A3.out).mono ?_); (case side1 => repeat (first | exact HR0.out | (with_reducible refine Kd.C_alloc ?_ _) | (with_reducible refine Kd.C_drewN ?_ _) | (with_reducible refine Kd.C_drew ?_))); (case side2 => exact HC0.out); (case side3 => repeat (first | exact HR1.out | (with_reducible refine Kd.C_alloc ?_ _) | (with_reducible refine Kd.C_drewN ?_ _) | (with_reducible refine Kd.C_drew ?_))); (case side4 => exact HC1.out); rintro e w' ⟨rfl, ⟨nd, rfl⟩⟩; refine ⟨_, rfl, ?_⟩) | ((with_reducible refine gate_callee (f := 13) rfl ?_); refine goesL_ (some 40) rfl rfl Try.func13 (by kernel_rfl) rfl #[.slice A0 l0.length c0] rfl (by (try simp only [List.map_toArray, List.map_cons, List.map_nil]); first | done | rfl | (simp only [List.length_drop, List.length_take]; rfl)) ?_; (with_reducible refine (spec_DrawNimSolve.calls _ _ l0 t244 t245 _ ?side1 ?side2 A5.out).mono ?_); (case side1 => repeat (first | exact HR0.out | (with_reducible refine Kd.C_alloc ?_ _) | (with_reducible refine Kd.C_drewN ?_ _) | (with_reducible refine Kd.C_drew ?_))); (case side2 => exact HC0.out); rintro e w9 ⟨rfl, hb⟩; refine ⟨_, rfl, ?_⟩; have n0_ := Aside0.mk (below_step (by repeat (first | (with_reducible first | exact HB.out | apply below_alloc | apply pw_below_drewN | apply below_drew1) | exact HB.out)) hb); clear HB; have HB := n0_; clear n0_; (try clear hb); (try clear hb2); (try clear hk); (try clear hi)) | ((with_reducible refine gate_callee (f := 8) rfl ?_); refine goesL_ (some 46) rfl rfl Try.func8 (by kernel_rfl) rfl #[.int .i64 t244, .int .i64 t245] rfl (by (try simp only [List.map_toArray, List.map_cons, List.map_nil]); first | done | rfl | (simp only [List.length_drop, List.length_take]; rfl)) ?_; (with_reducible refine (impl_NimSolve.calls t244 t245 t246 t247 _ A6.out).mono ?_); rintro e w10 ⟨v248, rfl, ho0, hb⟩; refine ⟨_, rfl, ?_⟩; have n0_ := Aside0.mk (Kd.R_lower ho0 (below_size (by repeat (first | (with_reducible first | exact HB.out | apply below_alloc | apply pw_below_drewN | apply below_drew1) | exact HB.out)))); have n1_ := Aside0.mk (below_step (by repeat (first | (with_reducible first | exact HB.out | apply below_alloc | apply pw_below_drewN | apply below_drew1) | exact HB.out)) hb); clear HB; have HO249 := n0_; have HB := n1_; clear n0_ n1_; (try clear hb); (try clear hb2); (try clear hk); (try clear hi); (try clear ho0)) | ((with_reducible refine gate_callee (f := 7) rfl ?_); refine goesL_ (some 52) rfl rfl Try.func7 (by kernel_rfl) rfl #[.int .i64 t244, .int .i64 t245] rfl (by (try simp only [List.map_toArray, List.map_cons, List.map_nil]); first | done | rfl | (simp only [List.length_drop, List.length_take]; rfl)) ?_; (with_reducible refine (spec_NimSolve.calls k t244 t245 t250 t251 _ A7.out).mono ?_); rintro e w11 ⟨v252, rfl, ho0, hb⟩; refine ⟨_, rfl, ?_⟩; have n0_ := Aside0.mk (Kd.R_elder' (by (with_reducible repeat (first | apply Kd.R_alloc | apply Kd.R_drewN | apply Kd.R_drew)); exact HO249.out) (Kd.R_base ho0) hb); have n1_ := Aside0.mk (Kd.R_lower (Kd.R_new' ho0 (Kd.R_lt (by (with_reducible repeat (first | apply Kd.R_alloc | apply Kd.R_drewN | apply Kd.R_drew)); exact HO249.out))) (below_size (by repeat (first | (with_reducible first | exact HB.out | apply below_alloc | apply pw_below_drewN | apply below_drew1) | exact HB.out)))); have n2_ := Aside0.mk (below_step (by repeat (first | (with_reducible first | exact HB.out | apply below_alloc | apply pw_below_drewN | apply below_drew1) | exact HB.out)) hb); clear HO249; clear HB; have HO249 := n0_; have HO253 := n1_; have HB := n2_; clear n0_ n1_ n2_; (try clear hb); (try clear hb2); (try clear hk); (try clear hi); (try clear ho0)))
    (try simp only [Act.put, List.setIfInBounds_toArray, List.set_cons_zero, List.set_cons_succ])
    go_cut [63] (fun v63 wc => ∃ (kq : Nat) (x63_7 : Bool), v63 = .bool x63_7 ∧ Aside0 (laws_FnNimRoots.j0 kq t244 t245 t246 t251 x63_7 = some r) ∧ Aside0 (kq ≤ k) ∧ Aside0 (Kd.R (Kd.int .i64) 3 wc w.heap.size (fun _ => True) v248 t246) ∧ Aside0 (Below w.heap.size w wc))
    case first =>
      as_aux_lemma =>
        have H := HC8.out
        clear HC8
        by_cases c12 : (t247 != t251) = true
        · rw [if_pos c12] at H
          have c12b0 : (t247 != t251) = true := c12
          (try (have c12b1 : decide (t247 = t251) = false := by simpa using c12))
          (try (have c12b2 : (t247 == t251) = false := by simpa using c12))
          (try (have c12b3 : ¬ (t247 = t251) := by simpa using c12))
          clear c12
          (first | rw [c12b0] | (simp only [i64_w, i32_w]; rw [c12b0]) | skip)
          as_aux_lemma =>
            have H' := Aside0.mk H
            clear H
            go_wp2
            go_meet
            case rel => exact ⟨_, (true), (by first | rfl | (simp; done) | (simp [*]; done)), H', ⟨by first | omega | exact Nat.le_refl _⟩, ⟨by (with_reducible repeat (first | apply Kd.R_alloc | apply Kd.R_drewN | apply Kd.R_drew)); exact Kd.R_mono HO249.out (fun _ hk => trivial)⟩, ⟨by repeat (first | (with_reducible first | exact HB.out | apply below_alloc | apply pw_below_drewN | apply below_drew1) | exact HB.out)⟩⟩
        · rw [if_neg c12] at H
          have c12b0 : (t247 != t251) = false := by simpa using c12
          (try (have c12b1 : decide (t247 = t251) = true := by simpa using c12))
          (try (have c12b2 : (t247 == t251) = true := by simpa using c12))
          clear c12
          (first | rw [c12b0] | (simp only [i64_w, i32_w]; rw [c12b0]) | skip)
          replace H := Option.bind_eq_some_iff.mp H
          obtain ⟨t254, A130, H⟩ := H
          replace H : (laws_FnNimRoots.j0 k t244 t245 t246 t251 (!t254)) = some r := H
          have A13 := Aside0.mk A130
          clear A130
          as_aux_lemma =>
            have H' := Aside0.mk H
            clear H
            obtain ⟨Ao14, co14, eo14⟩ := Kd.R_slice HO249.out
            subst eo14
            obtain ⟨Ao15, co15, eo15⟩ := Kd.R_slice HO253.out
            subst eo15
            go_wp2_with (first | (go_at_call 14; (with_reducible refine (laws_qSame.calls k _ _ t246 _ _ t250 t254 _ ?side1 ?side2 ?side3 ?side4 A13.out).mono ?_); (case side1 => repeat (first | exact (Kd.R_reads' HO249.out).2.2 | (with_reducible refine Kd.C_alloc ?_ _) | (with_reducible refine Kd.C_drewN ?_ _) | (with_reducible refine Kd.C_drew ?_))); (case side2 => exact (Kd.R_reads' HO249.out).2.1); (case side3 => repeat (first | exact (Kd.R_reads' HO253.out).2.2 | (with_reducible refine Kd.C_alloc ?_ _) | (with_reducible refine Kd.C_drewN ?_ _) | (with_reducible refine Kd.C_drew ?_))); (case side4 => exact (Kd.R_reads' HO253.out).2.1); rintro e w' ⟨rfl, ⟨nd, rfl⟩⟩))
            go_meet
            case rel => exact ⟨_, (!t254), (by first | rfl | (simp; done) | (simp [*]; done)), H', ⟨by first | omega | exact Nat.le_refl _⟩, ⟨by (with_reducible repeat (first | apply Kd.R_alloc | apply Kd.R_drewN | apply Kd.R_drew)); exact Kd.R_mono HO249.out (fun _ hk => trivial)⟩, ⟨by repeat (first | (with_reducible first | exact HB.out | apply below_alloc | apply pw_below_drewN | apply below_drew1) | exact HB.out)⟩⟩
    case rest =>
      as_aux_lemma =>
        clear HC8
        try clear c1
        try clear p2
        try clear c4
        try clear c7
        try clear c8
        try clear c12
        try clear c12b0
        try clear c12b1
        try clear c12b2
        try clear c13
        obtain ⟨kq, x63_7, rfl, HA, HJ7, HO_7, HB⟩ := hcut
        cases kq with
        | zero => exact absurd HA.out (by simp [laws_FnNimRoots.j0])
        | succ kj7 =>
          have H := HA.out
          clear HA
          simp only [laws_FnNimRoots.j0] at H
          by_cases c16 : x63_7 = true
          · subst c16
            have H1 : (some false) = some r := by rw [if_pos rfl] at H; exact H
            exact absurd ((Option.some.inj H1).trans hr_.out) (by decide)
          · replace c16 := Bool.eq_false_iff.mpr c16
            subst c16
            have H1 : (if t251 = true then (laws_FnNimRoots.l0 kj7 t244 t245 t246 t246 (t246.length : Int) 0) else (some true)) = some r := by rw [if_neg (show ¬ (false = true) by decide)] at H; exact H
            clear H
            have H := H1
            clear H1
            by_cases c17 : t251 = true
            · subst c17
              have H1 : (laws_FnNimRoots.l0 kj7 t244 t245 t246 t246 (t246.length : Int) 0) = some r := by rw [if_pos rfl] at H; exact H
              clear H
              have H := H1
              clear H1
              have H' := Aside0.mk H
              clear H
              obtain ⟨Ao18, co18, eo18⟩ := Kd.R_slice HO_7.out
              subst eo18
              go_wp2
              go_loopg [68] kj7 (fun kq v68 w' => ∃ (x68_2 : Int), v68 = .int .i64 x68_2 ∧ Aside0 (laws_FnNimRoots.l0 kq t244 t245 t246 t246 (t246.length : Int) x68_2 = some r) ∧ Aside0 (kq ≤ kj7) ∧ Aside0 (Kd.R (Kd.int .i64) 3 w' w.heap.size (fun _ => True) (.slice Ao18 t246.length co18) t246) ∧ Aside0 (Kd.R (Kd.int .i64) 3 w' w.heap.size (fun _ => True) (.slice Ao18 t246.length co18) t246) ∧ Aside0 (Below w.heap.size w w'))
              case atStart => exact ⟨(0), (by first | rfl | (simp; done) | (simp [*]; done)), H', ⟨Nat.le_refl _⟩, ⟨by (with_reducible repeat (first | apply Kd.R_alloc | apply Kd.R_drewN | apply Kd.R_drew)); exact HO_7.out⟩, ⟨by (with_reducible repeat (first | apply Kd.R_alloc | apply Kd.R_drewN | apply Kd.R_drew)); exact HO_7.out⟩, ⟨by repeat (first | (with_reducible first | exact HB.out | apply below_alloc | apply pw_below_drewN | apply below_drew1) | exact HB.out)⟩⟩
              case round =>
                clear H'
                try clear c1
                try clear p2
                try clear c4
                try clear c7
                try clear c8
                try clear c12
                try clear c12b0
                try clear c12b1
                try clear c12b2
                try clear c13
                try clear c16
                try clear c17
                try clear p2
                obtain ⟨x68_2, rfl, HA, HK2, HO_7, HO_66, HB⟩ := hrel
                cases gk with
                | zero => exact absurd HA.out (by simp [laws_FnNimRoots.l0])
                | succ k2 =>
                  have H := HA.out
                  clear HA
                  simp only [laws_FnNimRoots.l0] at H
                  by_cases c19 : x68_2 < (t246.length : Int)
                  · rw [if_pos c19] at H
                    have c19b0 : decide (x68_2 < (t246.length : Int)) = true := decide_eq_true c19
                    clear c19
                    by_cases c20 : 0 ≤ x68_2
                    · rw [if_pos c20] at H
                      have c20b0 : decide (0 ≤ x68_2) = true := decide_eq_true c20
                      clear c20
                      by_cases c21 : x68_2 < (t246.length : Int)
                      · rw [if_pos c21] at H
                        have c21b0 : decide (x68_2 < (t246.length : Int)) = true := decide_eq_true c21
                        clear c21
                        replace H := Option.bind_eq_some_iff.mp H
                        obtain ⟨⟨t256, t257⟩, A220, H⟩ := H
                        replace H : ((impl_NimProduct.f k2 t244 (rd t246 x68_2)).bind fun bt258 => ((impl_NimSum.f k2 (([t256, bt258.1, t245] : List Int))).bind fun bt263 => (if t257 = true then (if bt258.2 = true then (if bt263.2 = true then (if bt263.1 = 0 then (if x68_2 > 0 then (if 0 ≤ (wrap64 (x68_2 - 1)) then (if (wrap64 (x68_2 - 1)) < (t246.length : Int) then (if (rd t246 (wrap64 (x68_2 - 1))) ≥ (rd t246 x68_2) then (some false) else (laws_FnNimRoots.l0 k2 t244 t245 t246 t246 (t246.length : Int) (wrap64 (x68_2 + 1)))) else (none)) else (none)) else (laws_FnNimRoots.l0 k2 t244 t245 t246 t246 (t246.length : Int) (wrap64 (x68_2 + 1)))) else (some false)) else (some false)) else (some false)) else (some false)))) = some r := H
                        have A22 := Aside0.mk A220
                        clear A220
                        replace H := Option.bind_eq_some_iff.mp H
                        obtain ⟨⟨t258, t259⟩, A230, H⟩ := H
                        replace H : ((impl_NimSum.f k2 (([t256, t258, t245] : List Int))).bind fun bt263 => (if t257 = true then (if t259 = true then (if bt263.2 = true then (if bt263.1 = 0 then (if x68_2 > 0 then (if 0 ≤ (wrap64 (x68_2 - 1)) then (if (wrap64 (x68_2 - 1)) < (t246.length : Int) then (if (rd t246 (wrap64 (x68_2 - 1))) ≥ (rd t246 x68_2) then (some false) else (laws_FnNimRoots.l0 k2 t244 t245 t246 t246 (t246.length : Int) (wrap64 (x68_2 + 1)))) else (none)) else (none)) else (laws_FnNimRoots.l0 k2 t244 t245 t246 t246 (t246.length : Int) (wrap64 (x68_2 + 1)))) else (some false)) else (some false)) else (some false)) else (some false))) = some r := H
                        have A23 := Aside0.mk A230
                        clear A230
                        obtain ⟨y260, hy260⟩ : ∃ y_ : List Int, y_ = (([t256, t258, t245] : List Int)) := ⟨_, rfl⟩
                        replace H : ((impl_NimSum.f k2 y260).bind fun bt263 => (if t257 = true then (if t259 = true then (if bt263.2 = true then (if bt263.1 = 0 then (if x68_2 > 0 then (if 0 ≤ (wrap64 (x68_2 - 1)) then (if (wrap64 (x68_2 - 1)) < (t246.length : Int) then (if (rd t246 (wrap64 (x68_2 - 1))) ≥ (rd t246 x68_2) then (some false) else (laws_FnNimRoots.l0 k2 t244 t245 t246 t246 (t246.length : Int) (wrap64 (x68_2 + 1)))) else (none)) else (none)) else (laws_FnNimRoots.l0 k2 t244 t245 t246 t246 (t246.length : Int) (wrap64 (x68_2 + 1)))) else (some false)) else (some false)) else (some false)) else (some false))) = some r := by first | (rw [hy260]; with_reducible exact H) | (have H2_ := (Option.bind_some _ _).symm.trans H; rw [hy260]; with_reducible exact H2_) | (have H2_ := (Option.bind_some _ _).symm.trans H; with_reducible exact H2_) | with_reducible exact H | (rw [hy260]; exact H) | exact H
                        have Ny260 := Aside0.mk hy260
                        clear hy260
                        replace H := Option.bind_eq_some_iff.mp H
                        obtain ⟨⟨t263, t264⟩, A240, H⟩ := H
                        replace H : (if t257 = true then (if t259 = true then (if t264 = true then (if t263 = 0 then (if x68_2 > 0 then (if 0 ≤ (wrap64 (x68_2 - 1)) then (if (wrap64 (x68_2 - 1)) < (t246.length : Int) then (if (rd t246 (wrap64 (x68_2 - 1))) ≥ (rd t246 x68_2) then (some false) else (laws_FnNimRoots.l0 k2 t244 t245 t246 t246 (t246.length : Int) (wrap64 (x68_2 + 1)))) else (none)) else (none)) else (laws_FnNimRoots.l0 k2 t244 t245 t246 t246 (t246.length : Int) (wrap64 (x68_2 + 1)))) else (some false)) else (some false)) else (some false)) else (some false)) = some r := H
                        have A24 := Aside0.mk A240
                        clear A240
                        by_cases c25 : t257 = true
                        · subst c25
                          have H1 : (if t259 = true then (if t264 = true then (if t263 = 0 then (if x68_2 > 0 then (if 0 ≤ (wrap64 (x68_2 - 1)) then (if (wrap64 (x68_2 - 1)) < (t246.length : Int) then (if (rd t246 (wrap64 (x68_2 - 1))) ≥ (rd t246 x68_2) then (some false) else (laws_FnNimRoots.l0 k2 t244 t245 t246 t246 (t246.length : Int) (wrap64 (x68_2 + 1)))) else (none)) else (none)) else (laws_FnNimRoots.l0 k2 t244 t245 t246 t246 (t246.length : Int) (wrap64 (x68_2 + 1)))) else (some false)) else (some false)) else (some false)) = some r := by rw [if_pos rfl] at H; exact H
                          clear H
                          have H := H1
                          clear H1
                          by_cases c26 : t259 = true
                          · subst c26
                            have H1 : (if t264 = true then (if t263 = 0 then (if x68_2 > 0 then (if 0 ≤ (wrap64 (x68_2 - 1)) then (if (wrap64 (x68_2 - 1)) < (t246.length : Int) then (if (rd t246 (wrap64 (x68_2 - 1))) ≥ (rd t246 x68_2) then (some false) else (laws_FnNimRoots.l0 k2 t244 t245 t246 t246 (t246.length : Int) (wrap64 (x68_2 + 1)))) else (none)) else (none)) else (laws_FnNimRoots.l0 k2 t244 t245 t246 t246 (t246.length : Int) (wrap64 (x68_2 + 1)))) else (some false)) else (some false)) = some r := by rw [if_pos rfl] at H; exact H
                            clear H
                            have H := H1
                            clear H1
                            by_cases c27 : t264 = true
                            · subst c27
                              have H1 : (if t263 = 0 then (if x68_2 > 0 then (if 0 ≤ (wrap64 (x68_2 - 1)) then (if (wrap64 (x68_2 - 1)) < (t246.length : Int) then (if (rd t246 (wrap64 (x68_2 - 1))) ≥ (rd t246 x68_2) then (some false) else (laws_FnNimRoots.l0 k2 t244 t245 t246 t246 (t246.length : Int) (wrap64 (x68_2 + 1)))) else (none)) else (none)) else (laws_FnNimRoots.l0 k2 t244 t245 t246 t246 (t246.length : Int) (wrap64 (x68_2 + 1)))) else (some false)) = some r := by rw [if_pos rfl] at H; exact H
                              clear H
                              have H := H1
                              clear H1
                              by_cases c28 : t263 = 0
                              · rw [if_pos c28] at H
                                have c28b0 : (t263 == 0) = true := beq_iff_eq.mpr c28
                                have c28b1 : (t263 != 0) = false := bne_eq_false_iff_eq.mpr c28
                                clear c28
                                by_cases c29 : x68_2 > 0
                                · rw [if_pos c29] at H
                                  have c29b0 : decide (0 < x68_2) = true := decide_eq_true c29
                                  clear c29
                                  obtain ⟨ji30, hji30⟩ : ∃ j_ : Int, (wrap64 (x68_2 - 1)) = j_ := ⟨_, rfl⟩
                                  replace H : (if 0 ≤ (ji30) then (if (ji30) < (t246.length : Int) then (if (rd t246 (ji30)) ≥ (rd t246 x68_2) then (some false) else (laws_FnNimRoots.l0 k2 t244 t245 t246 t246 (t246.length : Int) (wrap64 (x68_2 + 1)))) else (none)) else (none)) = some r := by first | (rw [hji30] at H; exact H) | (simp only [hji30] at H ⊢; exact H)
                                  (try rw [hji30] at A22)
                                  (try rw [hji30] at A23)
                                  (try rw [hji30] at A24)
                                  have hji30w : (IntKind.i64.wrap (x68_2 - 1)) = ji30 := (i64_w _).trans hji30
                                  by_cases c31 : 0 ≤ (ji30)
                                  · rw [if_pos c31] at H
                                    have c31b0 : decide (0 ≤ (ji30)) = true := decide_eq_true c31
                                    clear c31
                                    by_cases c32 : (ji30) < (t246.length : Int)
                                    · rw [if_pos c32] at H
                                      have c32b0 : decide ((ji30) < (t246.length : Int)) = true := decide_eq_true c32
                                      clear c32
                                      by_cases c33 : (rd t246 (ji30)) ≥ (rd t246 x68_2)
                                      · rw [if_pos c33] at H
                                        have c33b0 : decide ((rd t246 x68_2) ≤ (rd t246 (ji30))) = true := decide_eq_true c33
                                        clear c33
                                        as_aux_lemma =>
                                          try exact absurd ((Option.some.inj H).trans hr_.out) (by decide)
                                          all_goals
                                            obtain rfl := Option.some.inj H
                                            have p255 : 0 ≤ (x68_2 : Int) := of_decide_eq_true (by first | (with_reducible assumption) | assumption)
                                            have q255 : x68_2 < (t246.length : Int) := of_decide_eq_true (by first | (with_reducible assumption) | assumption)
                                            obtain ⟨ad255, e255, hx255_0⟩ := Kd.at_int (Kd.R_reads' HO_66.out).2.2 x68_2 p255 q255
                                            cases e255
                                            replace p255 := eq_true p255
                                            replace q255 := eq_true q255
                                            go_wp2_with (first | ((with_reducible refine gate_callee (f := 15) rfl ?_); refine goesL_ (some 76) rfl rfl Try.func15 (by kernel_rfl) rfl #[.int .i64 (rd t246 x68_2), .int .i64 (rd t246 x68_2)] rfl (by (try simp only [List.map_toArray, List.map_cons, List.map_nil]); first | done | rfl | (simp only [List.length_drop, List.length_take]; rfl)) ?_; (with_reducible refine (impl_NimProduct.calls k2 (rd t246 x68_2) (rd t246 x68_2) t256 true _ A22.out).mono ?_); rintro e w34 ⟨rfl, hb⟩; refine ⟨_, rfl, ?_⟩; have n0_ := Aside0.mk (Kd.R_below (by (with_reducible repeat (first | apply Kd.R_alloc | apply Kd.R_drewN | apply Kd.R_drew)); exact HO_7.out) hb); have n1_ := Aside0.mk (Kd.R_below (by (with_reducible repeat (first | apply Kd.R_alloc | apply Kd.R_drewN | apply Kd.R_drew)); exact HO_66.out) hb); have n2_ := Aside0.mk (below_step (by repeat (first | (with_reducible first | exact HB.out | apply below_alloc | apply pw_below_drewN | apply below_drew1) | exact HB.out)) hb); clear HO_7; clear HO_66; clear HB; have HO_7 := n0_; have HO_66 := n1_; have HB := n2_; clear n0_ n1_ n2_; (try clear hb); (try clear hb2); (try clear hk); (try clear hi)) | ((with_reducible refine gate_callee (f := 15) rfl ?_); refine goesL_ (some 82) rfl rfl Try.func15 (by kernel_rfl) rfl #[.int .i64 t244, .int .i64 (rd t246 x68_2)] rfl (by (try simp only [List.map_toArray, List.map_cons, List.map_nil]); first | done | rfl | (simp only [List.length_drop, List.length_take]; rfl)) ?_; (with_reducible refine (impl_NimProduct.calls k2 t244 (rd t246 x68_2) t258 true _ A23.out).mono ?_); rintro e w35 ⟨rfl, hb⟩; refine ⟨_, rfl, ?_⟩; have n0_ := Aside0.mk (Kd.R_below (by (with_reducible repeat (first | apply Kd.R_alloc | apply Kd.R_drewN | apply Kd.R_drew)); exact HO_7.out) hb); have n1_ := Aside0.mk (Kd.R_below (by (with_reducible repeat (first | apply Kd.R_alloc | apply Kd.R_drewN | apply Kd.R_drew)); exact HO_66.out) hb); have n2_ := Aside0.mk (below_step (by repeat (first | (with_reducible first | exact HB.out | apply below_alloc | apply pw_below_drewN | apply below_drew1) | exact HB.out)) hb); clear HO_7; clear HO_66; clear HB; have HO_7 := n0_; have HO_66 := n1_; have HB := n2_; clear n0_ n1_ n2_; (try clear hb); (try clear hb2); (try clear hk); (try clear hi)) | ((with_reducible refine gate_dst (N := 89) rfl ?_); (try (refine gate_guard (by rfl) ?_; dsimp only)); refine Kd.R_lit (Kd.int .i64) _ 3 ?hg (N := 89) ?hd (xs := ([t256, t258, t245] : List Int)) (inner := [.int .i64 t256, .int .i64 t258, .int .i64 t245]) (ok := fun _ => True) (okp := fun _ => True) ?hr ?hp (fun _ hk => hk) trivial (Below.refl _ _) (Nat.le_refl _) (by simp) ?_; (case hd => rfl); (case hg => rfl); (case hr => first | (go_simp; done) | (go_simp; rfl)); (case hp => exact (Reps.one (show Kd.M (Kd.int .i64) _ _ _ t256 [.int .i64 t256] from rfl) (Reps.one (show Kd.M (Kd.int .i64) _ _ _ t258 [.int .i64 t258] from rfl) (Reps.one (show Kd.M (Kd.int .i64) _ _ _ t245 [.int .i64 t245] from rfl) (Reps.none _ _))))); intro v261 w36 ho37 hb hg_ hnew_; clear hg_ hnew_; (first | rw [← Ny260.out] at ho37 | (simp only [Int.reduceToNat] at ho37; rw [← Ny260.out] at ho37)); have n0_ := Aside0.mk (Kd.R_elder' (by (with_reducible repeat (first | apply Kd.R_alloc | apply Kd.R_drewN | apply Kd.R_drew)); exact HO_7.out) (Kd.R_base ho37) hb); have n1_ := Aside0.mk (Kd.R_elder' (by (with_reducible repeat (first | apply Kd.R_alloc | apply Kd.R_drewN | apply Kd.R_drew)); exact HO_66.out) (Kd.R_base ho37) hb); have n2_ := Aside0.mk (Kd.R_lower (Kd.R_new' (Kd.R_new' ho37 (Kd.R_lt (by (with_reducible repeat (first | apply Kd.R_alloc | apply Kd.R_drewN | apply Kd.R_drew)); exact HO_7.out))) (Kd.R_lt (by (with_reducible repeat (first | apply Kd.R_alloc | apply Kd.R_drewN | apply Kd.R_drew)); exact HO_66.out))) (below_size (by repeat (first | (with_reducible first | exact HB.out | apply below_alloc | apply pw_below_drewN | apply below_drew1) | exact HB.out)))); have n3_ := Aside0.mk (below_step (by repeat (first | (with_reducible first | exact HB.out | apply below_alloc | apply pw_below_drewN | apply below_drew1) | exact HB.out)) hb); clear HO_7; clear HO_66; clear HB; have HO_7 := n0_; have HO_66 := n1_; have HO262 := n2_; have HB := n3_; clear n0_ n1_ n2_ n3_; clear hb ho37; obtain ⟨Ao38, co38, eo38⟩ := Kd.R_slice HO262.out; subst eo38) | ((with_reducible refine gate_callee (f := 16) rfl ?_); refine goesL_ (some 90) rfl rfl Try.func16 (by kernel_rfl) rfl #[.slice Ao38 y260.length co38] rfl (by (try simp only [List.map_toArray, List.map_cons, List.map_nil]); first | done | rfl | (simp only [List.length_drop, List.length_take]; rfl)) ?_; (with_reducible refine (impl_NimSum.calls k2 _ _ y260 t263 true _ ?side1 ?side2 A24.out).mono ?_); (case side1 => repeat (first | exact (Kd.R_reads' HO262.out).2.2 | (with_reducible refine Kd.C_alloc ?_ _) | (with_reducible refine Kd.C_drewN ?_ _) | (with_reducible refine Kd.C_drew ?_))); (case side2 => exact (Kd.R_reads' HO262.out).2.1); rintro e w' ⟨rfl, ⟨nd, rfl⟩⟩; refine ⟨_, rfl, ?_⟩; have p265 : 0 ≤ ((ji30) : Int) := of_decide_eq_true (by first | (with_reducible assumption) | assumption); have q265 : (ji30) < (t246.length : Int) := of_decide_eq_true (by first | (with_reducible assumption) | assumption); obtain ⟨ad265, e265, hx265_0⟩ := Kd.at_int (Kd.R_reads' HO_7.out).2.2 (ji30) p265 q265; obtain rfl : ad255 = ad265 := (by injection e265); replace p265 := eq_true p265; replace q265 := eq_true q265))
                                            go_ret
                                            exact ⟨by first | rfl | (simp [errW_none, errW_some] <;> rfl) | (simp only [← hji30]; first | rfl | (simp [errW_none, errW_some] <;> rfl)) | (simp [*, errW_none, errW_some] <;> rfl), by repeat (first | (with_reducible first | exact HB.out | apply below_alloc | apply pw_below_drewN | apply below_drew1) | exact HB.out)⟩
                                      · rw [if_neg c33] at H
                                        have c33b0 : decide ((rd t246 x68_2) ≤ (rd t246 (ji30))) = false := decide_eq_false c33
                                        clear c33
                                        as_aux_lemma =>
                                          have H' := Aside0.mk H
                                          clear H
                                          have p255 : 0 ≤ (x68_2 : Int) := of_decide_eq_true (by first | (with_reducible assumption) | assumption)
                                          have q255 : x68_2 < (t246.length : Int) := of_decide_eq_true (by first | (with_reducible assumption) | assumption)
                                          obtain ⟨ad255, e255, hx255_0⟩ := Kd.at_int (Kd.R_reads' HO_66.out).2.2 x68_2 p255 q255
                                          cases e255
                                          replace p255 := eq_true p255
                                          replace q255 := eq_true q255
                                          go_wp2_with (first | ((with_reducible refine gate_callee (f := 15) rfl ?_); refine goesL_ (some 76) rfl rfl Try.func15 (by kernel_rfl) rfl #[.int .i64 (rd t246 x68_2), .int .i64 (rd t246 x68_2)] rfl (by (try simp only [List.map_toArray, List.map_cons, List.map_nil]); first | done | rfl | (simp only [List.length_drop, List.length_take]; rfl)) ?_; (with_reducible refine (impl_NimProduct.calls k2 (rd t246 x68_2) (rd t246 x68_2) t256 true _ A22.out).mono ?_); rintro e w39 ⟨rfl, hb⟩; refine ⟨_, rfl, ?_⟩; have n0_ := Aside0.mk (Kd.R_below (by (with_reducible repeat (first | apply Kd.R_alloc | apply Kd.R_drewN | apply Kd.R_drew)); exact HO_7.out) hb); have n1_ := Aside0.mk (Kd.R_below (by (with_reducible repeat (first | apply Kd.R_alloc | apply Kd.R_drewN | apply Kd.R_drew)); exact HO_66.out) hb); have n2_ := Aside0.mk (below_step (by repeat (first | (with_reducible first | exact HB.out | apply below_alloc | apply pw_below_drewN | apply below_drew1) | exact HB.out)) hb); clear HO_7; clear HO_66; clear HB; have HO_7 := n0_; have HO_66 := n1_; have HB := n2_; clear n0_ n1_ n2_; (try clear hb); (try clear hb2); (try clear hk); (try clear hi)) | ((with_reducible refine gate_callee (f := 15) rfl ?_); refine goesL_ (some 82) rfl rfl Try.func15 (by kernel_rfl) rfl #[.int .i64 t244, .int .i64 (rd t246 x68_2)] rfl (by (try simp only [List.map_toArray, List.map_cons, List.map_nil]); first | done | rfl | (simp only [List.length_drop, List.length_take]; rfl)) ?_; (with_reducible refine (impl_NimProduct.calls k2 t244 (rd t246 x68_2) t258 true _ A23.out).mono ?_); rintro e w40 ⟨rfl, hb⟩; refine ⟨_, rfl, ?_⟩; have n0_ := Aside0.mk (Kd.R_below (by (with_reducible repeat (first | apply Kd.R_alloc | apply Kd.R_drewN | apply Kd.R_drew)); exact HO_7.out) hb); have n1_ := Aside0.mk (Kd.R_below (by (with_reducible repeat (first | apply Kd.R_alloc | apply Kd.R_drewN | apply Kd.R_drew)); exact HO_66.out) hb); have n2_ := Aside0.mk (below_step (by repeat (first | (with_reducible first | exact HB.out | apply below_alloc | apply pw_below_drewN | apply below_drew1) | exact HB.out)) hb); clear HO_7; clear HO_66; clear HB; have HO_7 := n0_; have HO_66 := n1_; have HB := n2_; clear n0_ n1_ n2_; (try clear hb); (try clear hb2); (try clear hk); (try clear hi)) | ((with_reducible refine gate_dst (N := 89) rfl ?_); (try (refine gate_guard (by rfl) ?_; dsimp only)); refine Kd.R_lit (Kd.int .i64) _ 3 ?hg (N := 89) ?hd (xs := ([t256, t258, t245] : List Int)) (inner := [.int .i64 t256, .int .i64 t258, .int .i64 t245]) (ok := fun _ => True) (okp := fun _ => True) ?hr ?hp (fun _ hk => hk) trivial (Below.refl _ _) (Nat.le_refl _) (by simp) ?_; (case hd => rfl); (case hg => rfl); (case hr => first | (go_simp; done) | (go_simp; rfl)); (case hp => exact (Reps.one (show Kd.M (Kd.int .i64) _ _ _ t256 [.int .i64 t256] from rfl) (Reps.one (show Kd.M (Kd.int .i64) _ _ _ t258 [.int .i64 t258] from rfl) (Reps.one (show Kd.M (Kd.int .i64) _ _ _ t245 [.int .i64 t245] from rfl) (Reps.none _ _))))); intro v261 w41 ho42 hb hg_ hnew_; clear hg_ hnew_; (first | rw [← Ny260.out] at ho42 | (simp only [Int.reduceToNat] at ho42; rw [← Ny260.out] at ho42)); have n0_ := Aside0.mk (Kd.R_elder' (by (with_reducible repeat (first | apply Kd.R_alloc | apply Kd.R_drewN | apply Kd.R_drew)); exact HO_7.out) (Kd.R_base ho42) hb); have n1_ := Aside0.mk (Kd.R_elder' (by (with_reducible repeat (first | apply Kd.R_alloc | apply Kd.R_drewN | apply Kd.R_drew)); exact HO_66.out) (Kd.R_base ho42) hb); have n2_ := Aside0.mk (Kd.R_lower (Kd.R_new' (Kd.R_new' ho42 (Kd.R_lt (by (with_reducible repeat (first | apply Kd.R_alloc | apply Kd.R_drewN | apply Kd.R_drew)); exact HO_7.out))) (Kd.R_lt (by (with_reducible repeat (first | apply Kd.R_alloc | apply Kd.R_drewN | apply Kd.R_drew)); exact HO_66.out))) (below_size (by repeat (first | (with_reducible first | exact HB.out | apply below_alloc | apply pw_below_drewN | apply below_drew1) | exact HB.out)))); have n3_ := Aside0.mk (below_step (by repeat (first | (with_reducible first | exact HB.out | apply below_alloc | apply pw_below_drewN | apply below_drew1) | exact HB.out)) hb); clear HO_7; clear HO_66; clear HB; have HO_7 := n0_; have HO_66 := n1_; have HO262 := n2_; have HB := n3_; clear n0_ n1_ n2_ n3_; clear hb ho42; obtain ⟨Ao43, co43, eo43⟩ := Kd.R_slice HO262.out; subst eo43) | ((with_reducible refine gate_callee (f := 16) rfl ?_); refine goesL_ (some 90) rfl rfl Try.func16 (by kernel_rfl) rfl #[.slice Ao43 y260.length co43] rfl (by (try simp only [List.map_toArray, List.map_cons, List.map_nil]); first | done | rfl | (simp only [List.length_drop, List.length_take]; rfl)) ?_; (with_reducible refine (impl_NimSum.calls k2 _ _ y260 t263 true _ ?side1 ?side2 A24.out).mono ?_); (case side1 => repeat (first | exact (Kd.R_reads' HO262.out).2.2 | (with_reducible refine Kd.C_alloc ?_ _) | (with_reducible refine Kd.C_drewN ?_ _) | (with_reducible refine Kd.C_drew ?_))); (case side2 => exact (Kd.R_reads' HO262.out).2.1); rintro e w' ⟨rfl, ⟨nd, rfl⟩⟩; refine ⟨_, rfl, ?_⟩; have p265 : 0 ≤ ((ji30) : Int) := of_decide_eq_true (by first | (with_reducible assumption) | assumption); have q265 : (ji30) < (t246.length : Int) := of_decide_eq_true (by first | (with_reducible assumption) | assumption); obtain ⟨ad265, e265, hx265_0⟩ := Kd.at_int (Kd.R_reads' HO_7.out).2.2 (ji30) p265 q265; obtain rfl : ad255 = ad265 := (by injection e265); replace p265 := eq_true p265; replace q265 := eq_true q265))
                                          go_roundg k2
                                          case measure => have := HJ7.out; have := HK2.out; omega
                                          case rel => exact ⟨(wrap64 (x68_2 + 1)), (by first | rfl | (simp; done) | (simp [*]; done)), H', ⟨by have := HJ7.out; have := HK2.out; omega⟩, ⟨by (with_reducible repeat (first | apply Kd.R_alloc | apply Kd.R_drewN | apply Kd.R_drew)); exact Kd.R_mono HO_7.out (fun _ hk => trivial)⟩, ⟨by (with_reducible repeat (first | apply Kd.R_alloc | apply Kd.R_drewN | apply Kd.R_drew)); exact Kd.R_mono HO_66.out (fun _ hk => trivial)⟩, ⟨by repeat (first | (with_reducible first | exact HB.out | apply below_alloc | apply pw_below_drewN | apply below_drew1) | exact HB.out)⟩⟩
                                    · rw [if_neg c32] at H
                                      exact absurd H (by simp)
                                  · rw [if_neg c31] at H
                                    exact absurd H (by simp)
                                · rw [if_neg c29] at H
                                  have c29b0 : decide (0 < x68_2) = false := decide_eq_false c29
                                  clear c29
                                  as_aux_lemma =>
                                    have H' := Aside0.mk H
                                    clear H
                                    have p255 : 0 ≤ (x68_2 : Int) := of_decide_eq_true (by first | (with_reducible assumption) | assumption)
                                    have q255 : x68_2 < (t246.length : Int) := of_decide_eq_true (by first | (with_reducible assumption) | assumption)
                                    obtain ⟨ad255, e255, hx255_0⟩ := Kd.at_int (Kd.R_reads' HO_66.out).2.2 x68_2 p255 q255
                                    cases e255
                                    replace p255 := eq_true p255
                                    replace q255 := eq_true q255
                                    go_wp2_with (first | ((with_reducible refine gate_callee (f := 15) rfl ?_); refine goesL_ (some 76) rfl rfl Try.func15 (by kernel_rfl) rfl #[.int .i64 (rd t246 x68_2), .int .i64 (rd t246 x68_2)] rfl (by (try simp only [List.map_toArray, List.map_cons, List.map_nil]); first | done | rfl | (simp only [List.length_drop, List.length_take]; rfl)) ?_; (with_reducible refine (impl_NimProduct.calls k2 (rd t246 x68_2) (rd t246 x68_2) t256 true _ A22.out).mono ?_); rintro e w44 ⟨rfl, hb⟩; refine ⟨_, rfl, ?_⟩; have n0_ := Aside0.mk (Kd.R_below (by (with_reducible repeat (first | apply Kd.R_alloc | apply Kd.R_drewN | apply Kd.R_drew)); exact HO_7.out) hb); have n1_ := Aside0.mk (Kd.R_below (by (with_reducible repeat (first | apply Kd.R_alloc | apply Kd.R_drewN | apply Kd.R_drew)); exact HO_66.out) hb); have n2_ := Aside0.mk (below_step (by repeat (first | (with_reducible first | exact HB.out | apply below_alloc | apply pw_below_drewN | apply below_drew1) | exact HB.out)) hb); clear HO_7; clear HO_66; clear HB; have HO_7 := n0_; have HO_66 := n1_; have HB := n2_; clear n0_ n1_ n2_; (try clear hb); (try clear hb2); (try clear hk); (try clear hi)) | ((with_reducible refine gate_callee (f := 15) rfl ?_); refine goesL_ (some 82) rfl rfl Try.func15 (by kernel_rfl) rfl #[.int .i64 t244, .int .i64 (rd t246 x68_2)] rfl (by (try simp only [List.map_toArray, List.map_cons, List.map_nil]); first | done | rfl | (simp only [List.length_drop, List.length_take]; rfl)) ?_; (with_reducible refine (impl_NimProduct.calls k2 t244 (rd t246 x68_2) t258 true _ A23.out).mono ?_); rintro e w45 ⟨rfl, hb⟩; refine ⟨_, rfl, ?_⟩; have n0_ := Aside0.mk (Kd.R_below (by (with_reducible repeat (first | apply Kd.R_alloc | apply Kd.R_drewN | apply Kd.R_drew)); exact HO_7.out) hb); have n1_ := Aside0.mk (Kd.R_below (by (with_reducible repeat (first | apply Kd.R_alloc | apply Kd.R_drewN | apply Kd.R_drew)); exact HO_66.out) hb); have n2_ := Aside0.mk (below_step (by repeat (first | (with_reducible first | exact HB.out | apply below_alloc | apply pw_below_drewN | apply below_drew1) | exact HB.out)) hb); clear HO_7; clear HO_66; clear HB; have HO_7 := n0_; have HO_66 := n1_; have HB := n2_; clear n0_ n1_ n2_; (try clear hb); (try clear hb2); (try clear hk); (try clear hi)) | ((with_reducible refine gate_dst (N := 89) rfl ?_); (try (refine gate_guard (by rfl) ?_; dsimp only)); refine Kd.R_lit (Kd.int .i64) _ 3 ?hg (N := 89) ?hd (xs := ([t256, t258, t245] : List Int)) (inner := [.int .i64 t256, .int .i64 t258, .int .i64 t245]) (ok := fun _ => True) (okp := fun _ => True) ?hr ?hp (fun _ hk => hk) trivial (Below.refl _ _) (Nat.le_refl _) (by simp) ?_; (case hd => rfl); (case hg => rfl); (case hr => first | (go_simp; done) | (go_simp; rfl)); (case hp => exact (Reps.one (show Kd.M (Kd.int .i64) _ _ _ t256 [.int .i64 t256] from rfl) (Reps.one (show Kd.M (Kd.int .i64) _ _ _ t258 [.int .i64 t258] from rfl) (Reps.one (show Kd.M (Kd.int .i64) _ _ _ t245 [.int .i64 t245] from rfl) (Reps.none _ _))))); intro v261 w46 ho47 hb hg_ hnew_; clear hg_ hnew_; (first | rw [← Ny260.out] at ho47 | (simp only [Int.reduceToNat] at ho47; rw [← Ny260.out] at ho47)); have n0_ := Aside0.mk (Kd.R_elder' (by (with_reducible repeat (first | apply Kd.R_alloc | apply Kd.R_drewN | apply Kd.R_drew)); exact HO_7.out) (Kd.R_base ho47) hb); have n1_ := Aside0.mk (Kd.R_elder' (by (with_reducible repeat (first | apply Kd.R_alloc | apply Kd.R_drewN | apply Kd.R_drew)); exact HO_66.out) (Kd.R_base ho47) hb); have n2_ := Aside0.mk (Kd.R_lower (Kd.R_new' (Kd.R_new' ho47 (Kd.R_lt (by (with_reducible repeat (first | apply Kd.R_alloc | apply Kd.R_drewN | apply Kd.R_drew)); exact HO_7.out))) (Kd.R_lt (by (with_reducible repeat (first | apply Kd.R_alloc | apply Kd.R_drewN | apply Kd.R_drew)); exact HO_66.out))) (below_size (by repeat (first | (with_reducible first | exact HB.out | apply below_alloc | apply pw_below_drewN | apply below_drew1) | exact HB.out)))); have n3_ := Aside0.mk (below_step (by repeat (first | (with_reducible first | exact HB.out | apply below_alloc | apply pw_below_drewN | apply below_drew1) | exact HB.out)) hb); clear HO_7; clear HO_66; clear HB; have HO_7 := n0_; have HO_66 := n1_; have HO262 := n2_; have HB := n3_; clear n0_ n1_ n2_ n3_; clear hb ho47; obtain ⟨Ao48, co48, eo48⟩ := Kd.R_slice HO262.out; subst eo48) | ((with_reducible refine gate_callee (f := 16) rfl ?_); refine goesL_ (some 90) rfl rfl Try.func16 (by kernel_rfl) rfl #[.slice Ao48 y260.length co48] rfl (by (try simp only [List.map_toArray, List.map_cons, List.map_nil]); first | done | rfl | (simp only [List.length_drop, List.length_take]; rfl)) ?_; (with_reducible refine (impl_NimSum.calls k2 _ _ y260 t263 true _ ?side1 ?side2 A24.out).mono ?_); (case side1 => repeat (first | exact (Kd.R_reads' HO262.out).2.2 | (with_reducible refine Kd.C_alloc ?_ _) | (with_reducible refine Kd.C_drewN ?_ _) | (with_reducible refine Kd.C_drew ?_))); (case side2 => exact (Kd.R_reads' HO262.out).2.1); rintro e w' ⟨rfl, ⟨nd, rfl⟩⟩; refine ⟨_, rfl, ?_⟩))
                                    go_roundg k2
                                    case measure => have := HJ7.out; have := HK2.out; omega
                                    case rel => exact ⟨(wrap64 (x68_2 + 1)), (by first | rfl | (simp; done) | (simp [*]; done)), H', ⟨by have := HJ7.out; have := HK2.out; omega⟩, ⟨by (with_reducible repeat (first | apply Kd.R_alloc | apply Kd.R_drewN | apply Kd.R_drew)); exact Kd.R_mono HO_7.out (fun _ hk => trivial)⟩, ⟨by (with_reducible repeat (first | apply Kd.R_alloc | apply Kd.R_drewN | apply Kd.R_drew)); exact Kd.R_mono HO_66.out (fun _ hk => trivial)⟩, ⟨by repeat (first | (with_reducible first | exact HB.out | apply below_alloc | apply pw_below_drewN | apply below_drew1) | exact HB.out)⟩⟩
                              · rw [if_neg c28] at H
                                have c28b0 : (t263 == 0) = false := beq_eq_false_iff_ne.mpr c28
                                have c28b1 : (t263 != 0) = true := bne_iff_ne.mpr c28
                                as_aux_lemma =>
                                  try exact absurd ((Option.some.inj H).trans hr_.out) (by decide)
                                  all_goals
                                    obtain rfl := Option.some.inj H
                                    have p255 : 0 ≤ (x68_2 : Int) := of_decide_eq_true (by first | (with_reducible assumption) | assumption)
                                    have q255 : x68_2 < (t246.length : Int) := of_decide_eq_true (by first | (with_reducible assumption) | assumption)
                                    obtain ⟨ad255, e255, hx255_0⟩ := Kd.at_int (Kd.R_reads' HO_66.out).2.2 x68_2 p255 q255
                                    cases e255
                                    replace p255 := eq_true p255
                                    replace q255 := eq_true q255
                                    go_wp2_with (first | ((with_reducible refine gate_callee (f := 15) rfl ?_); refine goesL_ (some 76) rfl rfl Try.func15 (by kernel_rfl) rfl #[.int .i64 (rd t246 x68_2), .int .i64 (rd t246 x68_2)] rfl (by (try simp only [List.map_toArray, List.map_cons, List.map_nil]); first | done | rfl | (simp only [List.length_drop, List.length_take]; rfl)) ?_; (with_reducible refine (impl_NimProduct.calls k2 (rd t246 x68_2) (rd t246 x68_2) t256 true _ A22.out).mono ?_); rintro e w49 ⟨rfl, hb⟩; refine ⟨_, rfl, ?_⟩; have n0_ := Aside0.mk (Kd.R_below (by (with_reducible repeat (first | apply Kd.R_alloc | apply Kd.R_drewN | apply Kd.R_drew)); exact HO_7.out) hb); have n1_ := Aside0.mk (Kd.R_below (by (with_reducible repeat (first | apply Kd.R_alloc | apply Kd.R_drewN | apply Kd.R_drew)); exact HO_66.out) hb); have n2_ := Aside0.mk (below_step (by repeat (first | (with_reducible first | exact HB.out | apply below_alloc | apply pw_below_drewN | apply below_drew1) | exact HB.out)) hb); clear HO_7; clear HO_66; clear HB; have HO_7 := n0_; have HO_66 := n1_; have HB := n2_; clear n0_ n1_ n2_; (try clear hb); (try clear hb2); (try clear hk); (try clear hi)) | ((with_reducible refine gate_callee (f := 15) rfl ?_); refine goesL_ (some 82) rfl rfl Try.func15 (by kernel_rfl) rfl #[.int .i64 t244, .int .i64 (rd t246 x68_2)] rfl (by (try simp only [List.map_toArray, List.map_cons, List.map_nil]); first | done | rfl | (simp only [List.length_drop, List.length_take]; rfl)) ?_; (with_reducible refine (impl_NimProduct.calls k2 t244 (rd t246 x68_2) t258 true _ A23.out).mono ?_); rintro e w50 ⟨rfl, hb⟩; refine ⟨_, rfl, ?_⟩; have n0_ := Aside0.mk (Kd.R_below (by (with_reducible repeat (first | apply Kd.R_alloc | apply Kd.R_drewN | apply Kd.R_drew)); exact HO_7.out) hb); have n1_ := Aside0.mk (Kd.R_below (by (with_reducible repeat (first | apply Kd.R_alloc | apply Kd.R_drewN | apply Kd.R_drew)); exact HO_66.out) hb); have n2_ := Aside0.mk (below_step (by repeat (first | (with_reducible first | exact HB.out | apply below_alloc | apply pw_below_drewN | apply below_drew1) | exact HB.out)) hb); clear HO_7; clear HO_66; clear HB; have HO_7 := n0_; have HO_66 := n1_; have HB := n2_; clear n0_ n1_ n2_; (try clear hb); (try clear hb2); (try clear hk); (try clear hi)) | ((with_reducible refine gate_dst (N := 89) rfl ?_); (try (refine gate_guard (by rfl) ?_; dsimp only)); refine Kd.R_lit (Kd.int .i64) _ 3 ?hg (N := 89) ?hd (xs := ([t256, t258, t245] : List Int)) (inner := [.int .i64 t256, .int .i64 t258, .int .i64 t245]) (ok := fun _ => True) (okp := fun _ => True) ?hr ?hp (fun _ hk => hk) trivial (Below.refl _ _) (Nat.le_refl _) (by simp) ?_; (case hd => rfl); (case hg => rfl); (case hr => first | (go_simp; done) | (go_simp; rfl)); (case hp => exact (Reps.one (show Kd.M (Kd.int .i64) _ _ _ t256 [.int .i64 t256] from rfl) (Reps.one (show Kd.M (Kd.int .i64) _ _ _ t258 [.int .i64 t258] from rfl) (Reps.one (show Kd.M (Kd.int .i64) _ _ _ t245 [.int .i64 t245] from rfl) (Reps.none _ _))))); intro v261 w51 ho52 hb hg_ hnew_; clear hg_ hnew_; (first | rw [← Ny260.out] at ho52 | (simp only [Int.reduceToNat] at ho52; rw [← Ny260.out] at ho52)); have n0_ := Aside0.mk (Kd.R_elder' (by (with_reducible repeat (first | apply Kd.R_alloc | apply Kd.R_drewN | apply Kd.R_drew)); exact HO_7.out) (Kd.R_base ho52) hb); have n1_ := Aside0.mk (Kd.R_elder' (by (with_reducible repeat (first | apply Kd.R_alloc | apply Kd.R_drewN | apply Kd.R_drew)); exact HO_66.out) (Kd.R_base ho52) hb); have n2_ := Aside0.mk (Kd.R_lower (Kd.R_new' (Kd.R_new' ho52 (Kd.R_lt (by (with_reducible repeat (first | apply Kd.R_alloc | apply Kd.R_drewN | apply Kd.R_drew)); exact HO_7.out))) (Kd.R_lt (by (with_reducible repeat (first | apply Kd.R_alloc | apply Kd.R_drewN | apply Kd.R_drew)); exact HO_66.out))) (below_size (by repeat (first | (with_reducible first | exact HB.out | apply below_alloc | apply pw_below_drewN | apply below_drew1) | exact HB.out)))); have n3_ := Aside0.mk (below_step (by repeat (first | (with_reducible first | exact HB.out | apply below_alloc | apply pw_below_drewN | apply below_drew1) | exact HB.out)) hb); clear HO_7; clear HO_66; clear HB; have HO_7 := n0_; have HO_66 := n1_; have HO262 := n2_; have HB := n3_; clear n0_ n1_ n2_ n3_; clear hb ho52; obtain ⟨Ao53, co53, eo53⟩ := Kd.R_slice HO262.out; subst eo53) | ((with_reducible refine gate_callee (f := 16) rfl ?_); refine goesL_ (some 90) rfl rfl Try.func16 (by kernel_rfl) rfl #[.slice Ao53 y260.length co53] rfl (by (try simp only [List.map_toArray, List.map_cons, List.map_nil]); first | done | rfl | (simp only [List.length_drop, List.length_take]; rfl)) ?_; (with_reducible refine (impl_NimSum.calls k2 _ _ y260 t263 true _ ?side1 ?side2 A24.out).mono ?_); (case side1 => repeat (first | exact (Kd.R_reads' HO262.out).2.2 | (with_reducible refine Kd.C_alloc ?_ _) | (with_reducible refine Kd.C_drewN ?_ _) | (with_reducible refine Kd.C_drew ?_))); (case side2 => exact (Kd.R_reads' HO262.out).2.1); rintro e w' ⟨rfl, ⟨nd, rfl⟩⟩; refine ⟨_, rfl, ?_⟩))
                                    go_ret
                                    exact ⟨by first | rfl | (simp [errW_none, errW_some] <;> rfl) | (simp [*, errW_none, errW_some] <;> rfl), by repeat (first | (with_reducible first | exact HB.out | apply below_alloc | apply pw_below_drewN | apply below_drew1) | exact HB.out)⟩
                            · replace c27 := Bool.eq_false_iff.mpr c27
                              subst c27
                              have H1 : (some false) = some r := by rw [if_neg (show ¬ (false = true) by decide)] at H; exact H
                              exact absurd ((Option.some.inj H1).trans hr_.out) (by decide)
                          · replace c26 := Bool.eq_false_iff.mpr c26
                            subst c26
                            have H1 : (some false) = some r := by rw [if_neg (show ¬ (false = true) by decide)] at H; exact H
                            exact absurd ((Option.some.inj H1).trans hr_.out) (by decide)
                        · replace c25 := Bool.eq_false_iff.mpr c25
                          subst c25
                          have H1 : (some false) = some r := by rw [if_neg (show ¬ (false = true) by decide)] at H; exact H
                          exact absurd ((Option.some.inj H1).trans hr_.out) (by decide)
                      · rw [if_neg c21] at H
                        exact absurd H (by simp)
                    · rw [if_neg c20] at H
                      exact absurd H (by simp)
                  · rw [if_neg c19] at H
                    have c19b0 : decide (x68_2 < (t246.length : Int)) = false := decide_eq_false c19
                    clear c19
                    have HC69 := Aside0.mk H
                    clear H
                    go_upto_region 19 with (fail)
                    go_cut [141] (fun v141 wc => ∃ (kq : Nat) (x141_68 : Bool), v141 = .bool x141_68 ∧ Aside0 (laws_FnNimRoots.j2 kq t244 t245 x141_68 = some r) ∧ Aside0 (kq ≤ k2) ∧ Aside0 (Below w.heap.size w wc))
                    case first =>
                      as_aux_lemma =>
                        have H := HC69.out
                        clear HC69
                        by_cases c70 : t244 = 0
                        · rw [if_pos c70] at H
                          have c70b0 : (t244 == 0) = true := beq_iff_eq.mpr c70
                          have c70b1 : (t244 != 0) = false := bne_eq_false_iff_eq.mpr c70
                          clear c70
                          (first | rw [c70b0] | (simp only [i64_w, i32_w]; rw [c70b0]) | skip)
                          by_cases c71 : (t246.length : Int) = 1
                          · rw [if_pos c71] at H
                            have c71b0 : ((t246.length : Int) == 1) = true := beq_iff_eq.mpr c71
                            have c71b1 : ((t246.length : Int) != 1) = false := bne_eq_false_iff_eq.mpr c71
                            clear c71
                            by_cases c72 : t244 > 0
                            · rw [if_pos c72] at H
                              have c72b0 : decide (0 < t244) = true := decide_eq_true c72
                              clear c72
                              by_cases c73 : (t246.length : Int) = 0
                              · rw [if_pos c73] at H
                                have c73b0 : ((t246.length : Int) == 0) = true := beq_iff_eq.mpr c73
                                have c73b1 : ((t246.length : Int) != 0) = false := bne_eq_false_iff_eq.mpr c73
                                clear c73
                                as_aux_lemma =>
                                  have H' := Aside0.mk H
                                  clear H
                                  go_wp2
                                  go_meet
                                  case rel => exact ⟨_, (false), (by first | rfl | (simp; done) | (simp [*]; done)), H', ⟨by have := HJ7.out; have := HK2.out; first | omega | exact Nat.le_refl _⟩, ⟨by repeat (first | (with_reducible first | exact HB.out | apply below_alloc | apply pw_below_drewN | apply below_drew1) | exact HB.out)⟩⟩
                              · rw [if_neg c73] at H
                                have c73b0 : ((t246.length : Int) == 0) = false := beq_eq_false_iff_ne.mpr c73
                                have c73b1 : ((t246.length : Int) != 0) = true := bne_iff_ne.mpr c73
                                have c73b2 : ¬ (t246 = []) := fun h_ => c73 (by rw [h_]; rfl)
                                as_aux_lemma =>
                                  have H' := Aside0.mk H
                                  clear H
                                  go_wp2
                                  go_meet
                                  case rel => exact ⟨_, (((t246.length : Int) != 2)), (by first | rfl | (simp; done) | (simp [*]; done)), H', ⟨by have := HJ7.out; have := HK2.out; first | omega | exact Nat.le_refl _⟩, ⟨by repeat (first | (with_reducible first | exact HB.out | apply below_alloc | apply pw_below_drewN | apply below_drew1) | exact HB.out)⟩⟩
                            · rw [if_neg c72] at H
                              have c72b0 : decide (0 < t244) = false := decide_eq_false c72
                              clear c72
                              as_aux_lemma =>
                                have H' := Aside0.mk H
                                clear H
                                go_wp2
                                go_meet
                                case rel => exact ⟨_, (false), (by first | rfl | (simp; done) | (simp [*]; done)), H', ⟨by have := HJ7.out; have := HK2.out; first | omega | exact Nat.le_refl _⟩, ⟨by repeat (first | (with_reducible first | exact HB.out | apply below_alloc | apply pw_below_drewN | apply below_drew1) | exact HB.out)⟩⟩
                          · rw [if_neg c71] at H
                            have c71b0 : ((t246.length : Int) == 1) = false := beq_eq_false_iff_ne.mpr c71
                            have c71b1 : ((t246.length : Int) != 1) = true := bne_iff_ne.mpr c71
                            as_aux_lemma =>
                              have H' := Aside0.mk H
                              clear H
                              go_wp2
                              go_meet
                              case rel => exact ⟨_, (true), (by first | rfl | (simp; done) | (simp [*]; done)), H', ⟨by have := HJ7.out; have := HK2.out; first | omega | exact Nat.le_refl _⟩, ⟨by repeat (first | (with_reducible first | exact HB.out | apply below_alloc | apply pw_below_drewN | apply below_drew1) | exact HB.out)⟩⟩
                        · rw [if_neg c70] at H
                          have c70b0 : (t244 == 0) = false := beq_eq_false_iff_ne.mpr c70
                          have c70b1 : (t244 != 0) = true := bne_iff_ne.mpr c70
                          (first | rw [c70b0] | (simp only [i64_w, i32_w]; rw [c70b0]) | skip)
                          by_cases c74 : t244 > 0
                          · rw [if_pos c74] at H
                            have c74b0 : decide (0 < t244) = true := decide_eq_true c74
                            clear c74
                            by_cases c75 : (t246.length : Int) = 0
                            · rw [if_pos c75] at H
                              have c75b0 : ((t246.length : Int) == 0) = true := beq_iff_eq.mpr c75
                              have c75b1 : ((t246.length : Int) != 0) = false := bne_eq_false_iff_eq.mpr c75
                              clear c75
                              as_aux_lemma =>
                                have H' := Aside0.mk H
                                clear H
                                go_wp2
                                go_meet
                                case rel => exact ⟨_, (false), (by first | rfl | (simp; done) | (simp [*]; done)), H', ⟨by have := HJ7.out; have := HK2.out; first | omega | exact Nat.le_refl _⟩, ⟨by repeat (first | (with_reducible first | exact HB.out | apply below_alloc | apply pw_below_drewN | apply below_drew1) | exact HB.out)⟩⟩
                            · rw [if_neg c75] at H
                              have c75b0 : ((t246.length : Int) == 0) = false := beq_eq_false_iff_ne.mpr c75
                              have c75b1 : ((t246.length : Int) != 0) = true := bne_iff_ne.mpr c75
                              have c75b2 : ¬ (t246 = []) := fun h_ => c75 (by rw [h_]; rfl)
                              as_aux_lemma =>
                                have H' := Aside0.mk H
                                clear H
                                go_wp2
                                go_meet
                                case rel => exact ⟨_, (((t246.length : Int) != 2)), (by first | rfl | (simp; done) | (simp [*]; done)), H', ⟨by have := HJ7.out; have := HK2.out; first | omega | exact Nat.le_refl _⟩, ⟨by repeat (first | (with_reducible first | exact HB.out | apply below_alloc | apply pw_below_drewN | apply below_drew1) | exact HB.out)⟩⟩
                          · rw [if_neg c74] at H
                            have c74b0 : decide (0 < t244) = false := decide_eq_false c74
                            clear c74
                            as_aux_lemma =>
                              have H' := Aside0.mk H
                              clear H
                              go_wp2
                              go_meet
                              case rel => exact ⟨_, (false), (by first | rfl | (simp; done) | (simp [*]; done)), H', ⟨by have := HJ7.out; have := HK2.out; first | omega | exact Nat.le_refl _⟩, ⟨by repeat (first | (with_reducible first | exact HB.out | apply below_alloc | apply pw_below_drewN | apply below_drew1) | exact HB.out)⟩⟩
                    case rest =>
                      as_aux_lemma =>
                        clear HC69
                        try clear c1
                        try clear c2
                        try clear p2
                        try clear q2
                        try clear hx2
                        try clear c3
                        try clear c4
                        try clear p6
                        try clear c7
                        try clear c8
                        try clear c12
                        try clear c12b0
                        try clear c12b1
                        try clear c12b2
                        try clear c13
                        try clear c15
                        try clear c16
                        try clear c17
                        try clear c19
                        try clear c19b0
                        try clear c20
                        try clear c20b0
                        try clear c21
                        try clear c21b0
                        try clear c25
                        try clear p25
                        try clear q25
                        try clear hx25
                        try clear c26
                        try clear p26
                        try clear q26
                        try clear hx26
                        try clear c27
                        try clear c28
                        try clear c28b0
                        try clear c28b1
                        try clear c29
                        try clear c29b0
                        try clear c31
                        try clear c31b0
                        try clear c32
                        try clear c32b0
                        try clear c33
                        try clear c33b0
                        try clear p64
                        try clear c70
                        try clear c70b0
                        try clear c70b1
                        try clear c71
                        try clear c71b0
                        try clear c71b1
                        try clear c72
                        try clear c72b0
                        try clear c73
                        try clear c73b0
                        try clear c73b1
                        try clear c73b2
                        try clear c74
                        try clear c74b0
                        try clear c75
                        try clear c75b0
                        try clear c75b1
                        try clear c75b2
                        try clear hx255_0
                        try clear hx265_0
                        try clear p2
                        try clear p255
                        try clear p265
                        try clear q255
                        try clear q265
                        obtain ⟨kq, x141_68, rfl, HA, HJ68, HB⟩ := hcut
                        cases kq with
                        | zero => exact absurd HA.out (by simp [laws_FnNimRoots.j2])
                        | succ kj68 =>
                          have H := HA.out
                          clear HA
                          simp only [laws_FnNimRoots.j2] at H
                          by_cases c76 : x141_68 = true
                          · subst c76
                            have H1 : (some false) = some r := by rw [if_pos rfl] at H; exact H
                            exact absurd ((Option.some.inj H1).trans hr_.out) (by decide)
                          · replace c76 := Bool.eq_false_iff.mpr c76
                            subst c76
                            have H1 : ((impl_NimRoot.f kj68 t244).bind fun bt266 => ((impl_NimRoot.f kj68 t245).bind fun bt268 => ((impl_NimSum.f kj68 (([t244, t245] : List Int))).bind fun bt273 => ((impl_NimRoot.f kj68 bt273.1).bind fun bt275 => ((impl_NimSum.f kj68 (([bt266.1, bt268.1] : List Int))).bind fun bt280 => ((impl_NimProduct.f kj68 bt266.1 bt266.1).bind fun bt282 => ((impl_NimHalf.f t245).bind fun bt284 => ((impl_NimSolve.f 1 t245).bind fun bt286 => (if bt266.2 = true then (if bt268.2 = true then (if bt273.2 = true then (if bt275.2 = true then (if bt280.2 = true then (if bt282.2 = true then (if bt286.2 = true then (if bt280.1 = bt275.1 then (if bt282.1 = t244 then (if (bt284.2 == ((bt286.1.length : Int) == 2)) = true then (if bt284.2 = true then (if 0 < (bt286.1.length : Int) then (some (bt284.1 == (rd bt286.1 0))) else (none)) else (some true)) else (some false)) else (some false)) else (some false)) else (some false)) else (some false)) else (some false)) else (some false)) else (some false)) else (some false)) else (some false)))))))))) = some r := by rw [if_neg (show ¬ (false = true) by decide)] at H; exact H
                            clear H
                            have H := H1
                            clear H1
                            replace H := Option.bind_eq_some_iff.mp H
                            obtain ⟨⟨t266, t267⟩, A770, H⟩ := H
                            replace H : ((impl_NimRoot.f kj68 t245).bind fun bt268 => ((impl_NimSum.f kj68 (([t244, t245] : List Int))).bind fun bt273 => ((impl_NimRoot.f kj68 bt273.1).bind fun bt275 => ((impl_NimSum.f kj68 (([t266, bt268.1] : List Int))).bind fun bt280 => ((impl_NimProduct.f kj68 t266 t266).bind fun bt282 => ((impl_NimHalf.f t245).bind fun bt284 => ((impl_NimSolve.f 1 t245).bind fun bt286 => (if t267 = true then (if bt268.2 = true then (if bt273.2 = true then (if bt275.2 = true then (if bt280.2 = true then (if bt282.2 = true then (if bt286.2 = true then (if bt280.1 = bt275.1 then (if bt282.1 = t244 then (if (bt284.2 == ((bt286.1.length : Int) == 2)) = true then (if bt284.2 = true then (if 0 < (bt286.1.length : Int) then (some (bt284.1 == (rd bt286.1 0))) else (none)) else (some true)) else (some false)) else (some false)) else (some false)) else (some false)) else (some false)) else (some false)) else (some false)) else (some false)) else (some false)) else (some false))))))))) = some r := H
                            have A77 := Aside0.mk A770
                            clear A770
                            replace H := Option.bind_eq_some_iff.mp H
                            obtain ⟨⟨t268, t269⟩, A780, H⟩ := H
                            replace H : ((impl_NimSum.f kj68 (([t244, t245] : List Int))).bind fun bt273 => ((impl_NimRoot.f kj68 bt273.1).bind fun bt275 => ((impl_NimSum.f kj68 (([t266, t268] : List Int))).bind fun bt280 => ((impl_NimProduct.f kj68 t266 t266).bind fun bt282 => ((impl_NimHalf.f t245).bind fun bt284 => ((impl_NimSolve.f 1 t245).bind fun bt286 => (if t267 = true then (if t269 = true then (if bt273.2 = true then (if bt275.2 = true then (if bt280.2 = true then (if bt282.2 = true then (if bt286.2 = true then (if bt280.1 = bt275.1 then (if bt282.1 = t244 then (if (bt284.2 == ((bt286.1.length : Int) == 2)) = true then (if bt284.2 = true then (if 0 < (bt286.1.length : Int) then (some (bt284.1 == (rd bt286.1 0))) else (none)) else (some true)) else (some false)) else (some false)) else (some false)) else (some false)) else (some false)) else (some false)) else (some false)) else (some false)) else (some false)) else (some false)))))))) = some r := H
                            have A78 := Aside0.mk A780
                            clear A780
                            obtain ⟨y270, hy270⟩ : ∃ y_ : List Int, y_ = (([t244, t245] : List Int)) := ⟨_, rfl⟩
                            replace H : ((impl_NimSum.f kj68 y270).bind fun bt273 => ((impl_NimRoot.f kj68 bt273.1).bind fun bt275 => ((impl_NimSum.f kj68 (([t266, t268] : List Int))).bind fun bt280 => ((impl_NimProduct.f kj68 t266 t266).bind fun bt282 => ((impl_NimHalf.f t245).bind fun bt284 => ((impl_NimSolve.f 1 t245).bind fun bt286 => (if t267 = true then (if t269 = true then (if bt273.2 = true then (if bt275.2 = true then (if bt280.2 = true then (if bt282.2 = true then (if bt286.2 = true then (if bt280.1 = bt275.1 then (if bt282.1 = t244 then (if (bt284.2 == ((bt286.1.length : Int) == 2)) = true then (if bt284.2 = true then (if 0 < (bt286.1.length : Int) then (some (bt284.1 == (rd bt286.1 0))) else (none)) else (some true)) else (some false)) else (some false)) else (some false)) else (some false)) else (some false)) else (some false)) else (some false)) else (some false)) else (some false)) else (some false)))))))) = some r := by first | (rw [hy270]; with_reducible exact H) | (have H2_ := (Option.bind_some _ _).symm.trans H; rw [hy270]; with_reducible exact H2_) | (have H2_ := (Option.bind_some _ _).symm.trans H; with_reducible exact H2_) | with_reducible exact H | (rw [hy270]; exact H) | exact H
                            have Ny270 := Aside0.mk hy270
                            clear hy270
                            replace H := Option.bind_eq_some_iff.mp H
                            obtain ⟨⟨t273, t274⟩, A790, H⟩ := H
                            replace H : ((impl_NimRoot.f kj68 t273).bind fun bt275 => ((impl_NimSum.f kj68 (([t266, t268] : List Int))).bind fun bt280 => ((impl_NimProduct.f kj68 t266 t266).bind fun bt282 => ((impl_NimHalf.f t245).bind fun bt284 => ((impl_NimSolve.f 1 t245).bind fun bt286 => (if t267 = true then (if t269 = true then (if t274 = true then (if bt275.2 = true then (if bt280.2 = true then (if bt282.2 = true then (if bt286.2 = true then (if bt280.1 = bt275.1 then (if bt282.1 = t244 then (if (bt284.2 == ((bt286.1.length : Int) == 2)) = true then (if bt284.2 = true then (if 0 < (bt286.1.length : Int) then (some (bt284.1 == (rd bt286.1 0))) else (none)) else (some true)) else (some false)) else (some false)) else (some false)) else (some false)) else (some false)) else (some false)) else (some false)) else (some false)) else (some false)) else (some false))))))) = some r := H
                            have A79 := Aside0.mk A790
                            clear A790
                            replace H := Option.bind_eq_some_iff.mp H
                            obtain ⟨⟨t275, t276⟩, A800, H⟩ := H
                            replace H : ((impl_NimSum.f kj68 (([t266, t268] : List Int))).bind fun bt280 => ((impl_NimProduct.f kj68 t266 t266).bind fun bt282 => ((impl_NimHalf.f t245).bind fun bt284 => ((impl_NimSolve.f 1 t245).bind fun bt286 => (if t267 = true then (if t269 = true then (if t274 = true then (if t276 = true then (if bt280.2 = true then (if bt282.2 = true then (if bt286.2 = true then (if bt280.1 = t275 then (if bt282.1 = t244 then (if (bt284.2 == ((bt286.1.length : Int) == 2)) = true then (if bt284.2 = true then (if 0 < (bt286.1.length : Int) then (some (bt284.1 == (rd bt286.1 0))) else (none)) else (some true)) else (some false)) else (some false)) else (some false)) else (some false)) else (some false)) else (some false)) else (some false)) else (some false)) else (some false)) else (some false)))))) = some r := H
                            have A80 := Aside0.mk A800
                            clear A800
                            obtain ⟨y277, hy277⟩ : ∃ y_ : List Int, y_ = (([t266, t268] : List Int)) := ⟨_, rfl⟩
                            replace H : ((impl_NimSum.f kj68 y277).bind fun bt280 => ((impl_NimProduct.f kj68 t266 t266).bind fun bt282 => ((impl_NimHalf.f t245).bind fun bt284 => ((impl_NimSolve.f 1 t245).bind fun bt286 => (if t267 = true then (if t269 = true then (if t274 = true then (if t276 = true then (if bt280.2 = true then (if bt282.2 = true then (if bt286.2 = true then (if bt280.1 = t275 then (if bt282.1 = t244 then (if (bt284.2 == ((bt286.1.length : Int) == 2)) = true then (if bt284.2 = true then (if 0 < (bt286.1.length : Int) then (some (bt284.1 == (rd bt286.1 0))) else (none)) else (some true)) else (some false)) else (some false)) else (some false)) else (some false)) else (some false)) else (some false)) else (some false)) else (some false)) else (some false)) else (some false)))))) = some r := by first | (rw [hy277]; with_reducible exact H) | (have H2_ := (Option.bind_some _ _).symm.trans H; rw [hy277]; with_reducible exact H2_) | (have H2_ := (Option.bind_some _ _).symm.trans H; with_reducible exact H2_) | with_reducible exact H | (rw [hy277]; exact H) | exact H
                            have Ny277 := Aside0.mk hy277
                            clear hy277
                            replace H := Option.bind_eq_some_iff.mp H
                            obtain ⟨⟨t280, t281⟩, A810, H⟩ := H
                            replace H : ((impl_NimProduct.f kj68 t266 t266).bind fun bt282 => ((impl_NimHalf.f t245).bind fun bt284 => ((impl_NimSolve.f 1 t245).bind fun bt286 => (if t267 = true then (if t269 = true then (if t274 = true then (if t276 = true then (if t281 = true then (if bt282.2 = true then (if bt286.2 = true then (if t280 = t275 then (if bt282.1 = t244 then (if (bt284.2 == ((bt286.1.length : Int) == 2)) = true then (if bt284.2 = true then (if 0 < (bt286.1.length : Int) then (some (bt284.1 == (rd bt286.1 0))) else (none)) else (some true)) else (some false)) else (some false)) else (some false)) else (some false)) else (some false)) else (some false)) else (some false)) else (some false)) else (some false)) else (some false))))) = some r := H
                            have A81 := Aside0.mk A810
                            clear A810
                            replace H := Option.bind_eq_some_iff.mp H
                            obtain ⟨⟨t282, t283⟩, A820, H⟩ := H
                            replace H : ((impl_NimHalf.f t245).bind fun bt284 => ((impl_NimSolve.f 1 t245).bind fun bt286 => (if t267 = true then (if t269 = true then (if t274 = true then (if t276 = true then (if t281 = true then (if t283 = true then (if bt286.2 = true then (if t280 = t275 then (if t282 = t244 then (if (bt284.2 == ((bt286.1.length : Int) == 2)) = true then (if bt284.2 = true then (if 0 < (bt286.1.length : Int) then (some (bt284.1 == (rd bt286.1 0))) else (none)) else (some true)) else (some false)) else (some false)) else (some false)) else (some false)) else (some false)) else (some false)) else (some false)) else (some false)) else (some false)) else (some false)))) = some r := H
                            have A82 := Aside0.mk A820
                            clear A820
                            replace H := Option.bind_eq_some_iff.mp H
                            obtain ⟨⟨t284, t285⟩, A830, H⟩ := H
                            replace H : ((impl_NimSolve.f 1 t245).bind fun bt286 => (if t267 = true then (if t269 = true then (if t274 = true then (if t276 = true then (if t281 = true then (if t283 = true then (if bt286.2 = true then (if t280 = t275 then (if t282 = t244 then (if (t285 == ((bt286.1.length : Int) == 2)) = true then (if t285 = true then (if 0 < (bt286.1.length : Int) then (some (t284 == (rd bt286.1 0))) else (none)) else (some true)) else (some false)) else (some false)) else (some false)) else (some false)) else (some false)) else (some false)) else (some false)) else (some false)) else (some false)) else (some false))) = some r := H
                            have A83 := Aside0.mk A830
                            clear A830
                            replace H := Option.bind_eq_some_iff.mp H
                            obtain ⟨⟨t286, t287⟩, A840, H⟩ := H
                            replace H : (if t267 = true then (if t269 = true then (if t274 = true then (if t276 = true then (if t281 = true then (if t283 = true then (if t287 = true then (if t280 = t275 then (if t282 = t244 then (if (t285 == ((t286.length : Int) == 2)) = true then (if t285 = true then (if 0 < (t286.length : Int) then (some (t284 == (rd t286 0))) else (none)) else (some true)) else (some false)) else (some false)) else (some false)) else (some false)) else (some false)) else (some false)) else (some false)) else (some false)) else (some false)) else (some false)) = some r := H
                            have A84 := Aside0.mk A840
                            clear A840
                            by_cases c85 : t267 = true
                            · subst c85
                              have H1 : (if t269 = true then (if t274 = true then (if t276 = true then (if t281 = true then (if t283 = true then (if t287 = true then (if t280 = t275 then (if t282 = t244 then (if (t285 == ((t286.length : Int) == 2)) = true then (if t285 = true then (if 0 < (t286.length : Int) then (some (t284 == (rd t286 0))) else (none)) else (some true)) else (some false)) else (some false)) else (some false)) else (some false)) else (some false)) else (some false)) else (some false)) else (some false)) else (some false)) = some r := by rw [if_pos rfl] at H; exact H
                              clear H
                              have H := H1
                              clear H1
                              by_cases c86 : t269 = true
                              · subst c86
                                have H1 : (if t274 = true then (if t276 = true then (if t281 = true then (if t283 = true then (if t287 = true then (if t280 = t275 then (if t282 = t244 then (if (t285 == ((t286.length : Int) == 2)) = true then (if t285 = true then (if 0 < (t286.length : Int) then (some (t284 == (rd t286 0))) else (none)) else (some true)) else (some false)) else (some false)) else (some false)) else (some false)) else (some false)) else (some false)) else (some false)) else (some false)) = some r := by rw [if_pos rfl] at H; exact H
                                clear H
                                have H := H1
                                clear H1
                                by_cases c87 : t274 = true
                                · subst c87
                                  have H1 : (if t276 = true then (if t281 = true then (if t283 = true then (if t287 = true then (if t280 = t275 then (if t282 = t244 then (if (t285 == ((t286.length : Int) == 2)) = true then (if t285 = true then (if 0 < (t286.length : Int) then (some (t284 == (rd t286 0))) else (none)) else (some true)) else (some false)) else (some false)) else (some false)) else (some false)) else (some false)) else (some false)) else (some false)) = some r := by rw [if_pos rfl] at H; exact H
                                  clear H
                                  have H := H1
                                  clear H1
                                  by_cases c88 : t276 = true
                                  · subst c88
                                    have H1 : (if t281 = true then (if t283 = true then (if t287 = true then (if t280 = t275 then (if t282 = t244 then (if (t285 == ((t286.length : Int) == 2)) = true then (if t285 = true then (if 0 < (t286.length : Int) then (some (t284 == (rd t286 0))) else (none)) else (some true)) else (some false)) else (some false)) else (some false)) else (some false)) else (some false)) else (some false)) = some r := by rw [if_pos rfl] at H; exact H
                                    clear H
                                    have H := H1
                                    clear H1
                                    by_cases c89 : t281 = true
                                    · subst c89
                                      have H1 : (if t283 = true then (if t287 = true then (if t280 = t275 then (if t282 = t244 then (if (t285 == ((t286.length : Int) == 2)) = true then (if t285 = true then (if 0 < (t286.length : Int) then (some (t284 == (rd t286 0))) else (none)) else (some true)) else (some false)) else (some false)) else (some false)) else (some false)) else (some false)) = some r := by rw [if_pos rfl] at H; exact H
                                      clear H
                                      have H := H1
                                      clear H1
                                      by_cases c90 : t283 = true
                                      · subst c90
                                        have H1 : (if t287 = true then (if t280 = t275 then (if t282 = t244 then (if (t285 == ((t286.length : Int) == 2)) = true then (if t285 = true then (if 0 < (t286.length : Int) then (some (t284 == (rd t286 0))) else (none)) else (some true)) else (some false)) else (some false)) else (some false)) else (some false)) = some r := by rw [if_pos rfl] at H; exact H
                                        clear H
                                        have H := H1
                                        clear H1
                                        by_cases c91 : t287 = true
                                        · subst c91
                                          have H1 : (if t280 = t275 then (if t282 = t244 then (if (t285 == ((t286.length : Int) == 2)) = true then (if t285 = true then (if 0 < (t286.length : Int) then (some (t284 == (rd t286 0))) else (none)) else (some true)) else (some false)) else (some false)) else (some false)) = some r := by rw [if_pos rfl] at H; exact H
                                          clear H
                                          have H := H1
                                          clear H1
                                          by_cases c92 : t280 = t275
                                          · rw [if_pos c92] at H
                                            have c92b0 : (t280 == t275) = true := beq_iff_eq.mpr c92
                                            have c92b1 : (t280 != t275) = false := bne_eq_false_iff_eq.mpr c92
                                            clear c92
                                            by_cases c93 : t282 = t244
                                            · rw [if_pos c93] at H
                                              have c93b0 : (t282 == t244) = true := beq_iff_eq.mpr c93
                                              have c93b1 : (t282 != t244) = false := bne_eq_false_iff_eq.mpr c93
                                              clear c93
                                              by_cases c94 : (t285 == ((t286.length : Int) == 2)) = true
                                              · rw [if_pos c94] at H
                                                have c94b0 : (t285 == ((t286.length : Int) == 2)) = true := c94
                                                (try (have c94b1 : decide (t285 = ((t286.length : Int) == 2)) = true := by simpa using c94))
                                                (try (have c94b2 : (t285 == ((t286.length : Int) == 2)) = true := by simpa using c94))
                                                clear c94
                                                by_cases c95 : t285 = true
                                                · subst c95
                                                  have H1 : (if 0 < (t286.length : Int) then (some (t284 == (rd t286 0))) else (none)) = some r := by rw [if_pos rfl] at H; exact H
                                                  clear H
                                                  have H := H1
                                                  clear H1
                                                  by_cases c96 : 0 < (t286.length : Int)
                                                  · rw [if_pos c96] at H
                                                    have c96b0 : decide (0 < (t286.length : Int)) = true := decide_eq_true c96
                                                    have c96b1 : decide (0 < t286.length) = true := decide_eq_true (by omega)
                                                    clear c96
                                                    as_aux_lemma =>
                                                      try exact absurd ((Option.some.inj H).trans hr_.out) (by decide)
                                                      all_goals
                                                        obtain rfl := Option.some.inj H
                                                        go_wp2_with (first | ((with_reducible refine gate_callee (f := 17) rfl ?_); refine goesL_ (some 144) rfl rfl Try.func17 (by kernel_rfl) rfl #[.int .i64 t244] rfl (by (try simp only [List.map_toArray, List.map_cons, List.map_nil]); first | done | rfl | (simp only [List.length_drop, List.length_take]; rfl)) ?_; (with_reducible refine (impl_NimRoot.calls kj68 t244 t266 true _ A77.out).mono ?_); rintro e w97 ⟨rfl, hb⟩; refine ⟨_, rfl, ?_⟩; have n0_ := Aside0.mk (below_step (by repeat (first | (with_reducible first | exact HB.out | apply below_alloc | apply pw_below_drewN | apply below_drew1) | exact HB.out)) hb); clear HB; have HB := n0_; clear n0_; (try clear hb); (try clear hb2); (try clear hk); (try clear hi)) | ((with_reducible refine gate_callee (f := 17) rfl ?_); refine goesL_ (some 149) rfl rfl Try.func17 (by kernel_rfl) rfl #[.int .i64 t245] rfl (by (try simp only [List.map_toArray, List.map_cons, List.map_nil]); first | done | rfl | (simp only [List.length_drop, List.length_take]; rfl)) ?_; (with_reducible refine (impl_NimRoot.calls kj68 t245 t268 true _ A78.out).mono ?_); rintro e w98 ⟨rfl, hb⟩; refine ⟨_, rfl, ?_⟩; have n0_ := Aside0.mk (below_step (by repeat (first | (with_reducible first | exact HB.out | apply below_alloc | apply pw_below_drewN | apply below_drew1) | exact HB.out)) hb); clear HB; have HB := n0_; clear n0_; (try clear hb); (try clear hb2); (try clear hk); (try clear hi)) | ((with_reducible refine gate_dst (N := 155) rfl ?_); (try (refine gate_guard (by rfl) ?_; dsimp only)); refine Kd.R_lit (Kd.int .i64) _ 3 ?hg (N := 155) ?hd (xs := ([t244, t245] : List Int)) (inner := [.int .i64 t244, .int .i64 t245]) (ok := fun _ => True) (okp := fun _ => True) ?hr ?hp (fun _ hk => hk) trivial (Below.refl _ _) (Nat.le_refl _) (by simp) ?_; (case hd => rfl); (case hg => rfl); (case hr => first | (go_simp; done) | (go_simp; rfl)); (case hp => exact (Reps.one (show Kd.M (Kd.int .i64) _ _ _ t244 [.int .i64 t244] from rfl) (Reps.one (show Kd.M (Kd.int .i64) _ _ _ t245 [.int .i64 t245] from rfl) (Reps.none _ _)))); intro v271 w99 ho100 hb hg_ hnew_; clear hg_ hnew_; (first | rw [← Ny270.out] at ho100 | (simp only [Int.reduceToNat] at ho100; rw [← Ny270.out] at ho100)); have n0_ := Aside0.mk (Kd.R_lower ho100 (below_size (by repeat (first | (with_reducible first | exact HB.out | apply below_alloc | apply pw_below_drewN | apply below_drew1) | exact HB.out)))); have n1_ := Aside0.mk (below_step (by repeat (first | (with_reducible first | exact HB.out | apply below_alloc | apply pw_below_drewN | apply below_drew1) | exact HB.out)) hb); clear HB; have HO272 := n0_; have HB := n1_; clear n0_ n1_; clear hb ho100; obtain ⟨Ao101, co101, eo101⟩ := Kd.R_slice HO272.out; subst eo101) | ((with_reducible refine gate_callee (f := 16) rfl ?_); refine goesL_ (some 156) rfl rfl Try.func16 (by kernel_rfl) rfl #[.slice Ao101 y270.length co101] rfl (by (try simp only [List.map_toArray, List.map_cons, List.map_nil]); first | done | rfl | (simp only [List.length_drop, List.length_take]; rfl)) ?_; (with_reducible refine (impl_NimSum.calls kj68 _ _ y270 t273 true _ ?side1 ?side2 A79.out).mono ?_); (case side1 => repeat (first | exact (Kd.R_reads' HO272.out).2.2 | (with_reducible refine Kd.C_alloc ?_ _) | (with_reducible refine Kd.C_drewN ?_ _) | (with_reducible refine Kd.C_drew ?_))); (case side2 => exact (Kd.R_reads' HO272.out).2.1); rintro e w' ⟨rfl, ⟨nd, rfl⟩⟩; refine ⟨_, rfl, ?_⟩) | ((with_reducible refine gate_callee (f := 17) rfl ?_); refine goesL_ (some 161) rfl rfl Try.func17 (by kernel_rfl) rfl #[.int .i64 t273] rfl (by (try simp only [List.map_toArray, List.map_cons, List.map_nil]); first | done | rfl | (simp only [List.length_drop, List.length_take]; rfl)) ?_; (with_reducible refine (impl_NimRoot.calls kj68 t273 t275 true _ A80.out).mono ?_); rintro e w102 ⟨rfl, hb⟩; refine ⟨_, rfl, ?_⟩; have n0_ := Aside0.mk (Kd.R_below (by (with_reducible repeat (first | apply Kd.R_alloc | apply Kd.R_drewN | apply Kd.R_drew)); exact HO272.out) hb); have n1_ := Aside0.mk (below_step (by repeat (first | (with_reducible first | exact HB.out | apply below_alloc | apply pw_below_drewN | apply below_drew1) | exact HB.out)) hb); clear HO272; clear HB; have HO272 := n0_; have HB := n1_; clear n0_ n1_; (try clear hb); (try clear hb2); (try clear hk); (try clear hi)) | ((with_reducible refine gate_dst (N := 167) rfl ?_); (try (refine gate_guard (by rfl) ?_; dsimp only)); refine Kd.R_lit (Kd.int .i64) _ 3 ?hg (N := 167) ?hd (xs := ([t266, t268] : List Int)) (inner := [.int .i64 t266, .int .i64 t268]) (ok := fun _ => True) (okp := fun _ => True) ?hr ?hp (fun _ hk => hk) trivial (Below.refl _ _) (Nat.le_refl _) (by simp) ?_; (case hd => rfl); (case hg => rfl); (case hr => first | (go_simp; done) | (go_simp; rfl)); (case hp => exact (Reps.one (show Kd.M (Kd.int .i64) _ _ _ t266 [.int .i64 t266] from rfl) (Reps.one (show Kd.M (Kd.int .i64) _ _ _ t268 [.int .i64 t268] from rfl) (Reps.none _ _)))); intro v278 w103 ho104 hb hg_ hnew_; clear hg_ hnew_; (first | rw [← Ny277.out] at ho104 | (simp only [Int.reduceToNat] at ho104; rw [← Ny277.out] at ho104)); have n0_ := Aside0.mk (Kd.R_elder' (by (with_reducible repeat (first | apply Kd.R_alloc | apply Kd.R_drewN | apply Kd.R_drew)); exact HO272.out) (Kd.R_base ho104) hb); have n1_ := Aside0.mk (Kd.R_lower (Kd.R_new' ho104 (Kd.R_lt (by (with_reducible repeat (first | apply Kd.R_alloc | apply Kd.R_drewN | apply Kd.R_drew)); exact HO272.out))) (below_size (by repeat (first | (with_reducible first | exact HB.out | apply below_alloc | apply pw_below_drewN | apply below_drew1) | exact HB.out)))); have n2_ := Aside0.mk (below_step (by repeat (first | (with_reducible first | exact HB.out | apply below_alloc | apply pw_below_drewN | apply below_drew1) | exact HB.out)) hb); clear HO272; clear HB; have HO272 := n0_; have HO279 := n1_; have HB := n2_; clear n0_ n1_ n2_; clear hb ho104; obtain ⟨Ao105, co105, eo105⟩ := Kd.R_slice HO279.out; subst eo105) | ((with_reducible refine gate_callee (f := 16) rfl ?_); refine goesL_ (some 168) rfl rfl Try.func16 (by kernel_rfl) rfl #[.slice Ao105 y277.length co105] rfl (by (try simp only [List.map_toArray, List.map_cons, List.map_nil]); first | done | rfl | (simp only [List.length_drop, List.length_take]; rfl)) ?_; (with_reducible refine (impl_NimSum.calls kj68 _ _ y277 t280 true _ ?side1 ?side2 A81.out).mono ?_); (case side1 => repeat (first | exact (Kd.R_reads' HO279.out).2.2 | (with_reducible refine Kd.C_alloc ?_ _) | (with_reducible refine Kd.C_drewN ?_ _) | (with_reducible refine Kd.C_drew ?_))); (case side2 => exact (Kd.R_reads' HO279.out).2.1); rintro e w' ⟨rfl, ⟨nd, rfl⟩⟩; refine ⟨_, rfl, ?_⟩) | ((with_reducible refine gate_callee (f := 15) rfl ?_); refine goesL_ (some 174) rfl rfl Try.func15 (by kernel_rfl) rfl #[.int .i64 t266, .int .i64 t266] rfl (by (try simp only [List.map_toArray, List.map_cons, List.map_nil]); first | done | rfl | (simp only [List.length_drop, List.length_take]; rfl)) ?_; (with_reducible refine (impl_NimProduct.calls kj68 t266 t266 t282 true _ A82.out).mono ?_); rintro e w106 ⟨rfl, hb⟩; refine ⟨_, rfl, ?_⟩; have n0_ := Aside0.mk (Kd.R_below (by (with_reducible repeat (first | apply Kd.R_alloc | apply Kd.R_drewN | apply Kd.R_drew)); exact HO272.out) hb); have n1_ := Aside0.mk (Kd.R_below (by (with_reducible repeat (first | apply Kd.R_alloc | apply Kd.R_drewN | apply Kd.R_drew)); exact HO279.out) hb); have n2_ := Aside0.mk (below_step (by repeat (first | (with_reducible first | exact HB.out | apply below_alloc | apply pw_below_drewN | apply below_drew1) | exact HB.out)) hb); clear HO272; clear HO279; clear HB; have HO272 := n0_; have HO279 := n1_; have HB := n2_; clear n0_ n1_ n2_; (try clear hb); (try clear hb2); (try clear hk); (try clear hi)) | ((with_reducible refine gate_callee (f := 18) rfl ?_); refine goesL_ (some 179) rfl rfl Try.func18 (by kernel_rfl) rfl #[.int .i64 t245] rfl (by (try simp only [List.map_toArray, List.map_cons, List.map_nil]); first | done | rfl | (simp only [List.length_drop, List.length_take]; rfl)) ?_; (with_reducible refine (impl_NimHalf.calls t245 t284 true _ A83.out).mono ?_); rintro e w107 ⟨rfl, hb⟩; refine ⟨_, rfl, ?_⟩; have n0_ := Aside0.mk (Kd.R_below (by (with_reducible repeat (first | apply Kd.R_alloc | apply Kd.R_drewN | apply Kd.R_drew)); exact HO272.out) hb); have n1_ := Aside0.mk (Kd.R_below (by (with_reducible repeat (first | apply Kd.R_alloc | apply Kd.R_drewN | apply Kd.R_drew)); exact HO279.out) hb); have n2_ := Aside0.mk (below_step (by repeat (first | (with_reducible first | exact HB.out | apply below_alloc | apply pw_below_drewN | apply below_drew1) | exact HB.out)) hb); clear HO272; clear HO279; clear HB; have HO272 := n0_; have HO279 := n1_; have HB := n2_; clear n0_ n1_ n2_; (try clear hb); (try clear hb2); (try clear hk); (try clear hi)) | ((with_reducible refine gate_callee (f := 8) rfl ?_); refine goesL_ (some 184) rfl rfl Try.func8 (by kernel_rfl) rfl #[.int .i64 1, .int .i64 t245] rfl (by (try simp only [List.map_toArray, List.map_cons, List.map_nil]); first | done | rfl | (simp only [List.length_drop, List.length_take]; rfl)) ?_; (with_reducible refine (impl_NimSolve.calls 1 t245 t286 true _ A84.out).mono ?_); rintro e w108 ⟨v288, rfl, ho0, hb⟩; refine ⟨_, rfl, ?_⟩; have n0_ := Aside0.mk (Kd.R_elder' (by (with_reducible repeat (first | apply Kd.R_alloc | apply Kd.R_drewN | apply Kd.R_drew)); exact HO272.out) (Kd.R_base ho0) hb); have n1_ := Aside0.mk (Kd.R_elder' (by (with_reducible repeat (first | apply Kd.R_alloc | apply Kd.R_drewN | apply Kd.R_drew)); exact HO279.out) (Kd.R_base ho0) hb); have n2_ := Aside0.mk (Kd.R_lower (Kd.R_new' (Kd.R_new' ho0 (Kd.R_lt (by (with_reducible repeat (first | apply Kd.R_alloc | apply Kd.R_drewN | apply Kd.R_drew)); exact HO272.out))) (Kd.R_lt (by (with_reducible repeat (first | apply Kd.R_alloc | apply Kd.R_drewN | apply Kd.R_drew)); exact HO279.out))) (below_size (by repeat (first | (with_reducible first | exact HB.out | apply below_alloc | apply pw_below_drewN | apply below_drew1) | exact HB.out)))); have n3_ := Aside0.mk (below_step (by repeat (first | (with_reducible first | exact HB.out | apply below_alloc | apply pw_below_drewN | apply below_drew1) | exact HB.out)) hb); clear HO272; clear HO279; clear HB; have HO272 := n0_; have HO279 := n1_; have HO289 := n2_; have HB := n3_; clear n0_ n1_ n2_ n3_; (try clear hb); (try clear hb2); (try clear hk); (try clear hi); (try clear ho0); obtain ⟨Ao109, co109, eo109⟩ := Kd.R_slice HO289.out; subst eo109; have p290 : 0 ≤ (0 : Int) := (by omega); have q290 : 0 < (t286.length : Int) := of_decide_eq_true (by first | (with_reducible assumption) | assumption); obtain ⟨ad290, e290, hx290_0⟩ := Kd.at_int (Kd.R_reads' HO289.out).2.2 0 p290 q290; cases e290; have qi290 : (0 < t286.length) = True := eq_true (by omega); (try rw [show ((0 : Int)).toNat = 0 from rfl] at hx290_0); (try rw [Addr.add_zero'] at hx290_0); replace p290 := eq_true p290; replace q290 := eq_true q290))
                                                        go_ret
                                                        exact ⟨by first | rfl | (simp [errW_none, errW_some] <;> rfl) | (simp [*, errW_none, errW_some] <;> rfl), by repeat (first | (with_reducible first | exact HB.out | apply below_alloc | apply pw_below_drewN | apply below_drew1) | exact HB.out)⟩
                                                  · rw [if_neg c96] at H
                                                    exact absurd H (by simp)
                                                · replace c95 := Bool.eq_false_iff.mpr c95
                                                  subst c95
                                                  have H1 : (some true) = some r := by rw [if_neg (show ¬ (false = true) by decide)] at H; exact H
                                                  clear H
                                                  have H := H1
                                                  clear H1
                                                  as_aux_lemma =>
                                                    try exact absurd ((Option.some.inj H).trans hr_.out) (by decide)
                                                    all_goals
                                                      obtain rfl := Option.some.inj H
                                                      go_wp2_with (first | ((with_reducible refine gate_callee (f := 17) rfl ?_); refine goesL_ (some 144) rfl rfl Try.func17 (by kernel_rfl) rfl #[.int .i64 t244] rfl (by (try simp only [List.map_toArray, List.map_cons, List.map_nil]); first | done | rfl | (simp only [List.length_drop, List.length_take]; rfl)) ?_; (with_reducible refine (impl_NimRoot.calls kj68 t244 t266 true _ A77.out).mono ?_); rintro e w110 ⟨rfl, hb⟩; refine ⟨_, rfl, ?_⟩; have n0_ := Aside0.mk (below_step (by repeat (first | (with_reducible first | exact HB.out | apply below_alloc | apply pw_below_drewN | apply below_drew1) | exact HB.out)) hb); clear HB; have HB := n0_; clear n0_; (try clear hb); (try clear hb2); (try clear hk); (try clear hi)) | ((with_reducible refine gate_callee (f := 17) rfl ?_); refine goesL_ (some 149) rfl rfl Try.func17 (by kernel_rfl) rfl #[.int .i64 t245] rfl (by (try simp only [List.map_toArray, List.map_cons, List.map_nil]); first | done | rfl | (simp only [List.length_drop, List.length_take]; rfl)) ?_; (with_reducible refine (impl_NimRoot.calls kj68 t245 t268 true _ A78.out).mono ?_); rintro e w111 ⟨rfl, hb⟩; refine ⟨_, rfl, ?_⟩; have n0_ := Aside0.mk (below_step (by repeat (first | (with_reducible first | exact HB.out | apply below_alloc | apply pw_below_drewN | apply below_drew1) | exact HB.out)) hb); clear HB; have HB := n0_; clear n0_; (try clear hb); (try clear hb2); (try clear hk); (try clear hi)) | ((with_reducible refine gate_dst (N := 155) rfl ?_); (try (refine gate_guard (by rfl) ?_; dsimp only)); refine Kd.R_lit (Kd.int .i64) _ 3 ?hg (N := 155) ?hd (xs := ([t244, t245] : List Int)) (inner := [.int .i64 t244, .int .i64 t245]) (ok := fun _ => True) (okp := fun _ => True) ?hr ?hp (fun _ hk => hk) trivial (Below.refl _ _) (Nat.le_refl _) (by simp) ?_; (case hd => rfl); (case hg => rfl); (case hr => first | (go_simp; done) | (go_simp; rfl)); (case hp => exact (Reps.one (show Kd.M (Kd.int .i64) _ _ _ t244 [.int .i64 t244] from rfl) (Reps.one (show Kd.M (Kd.int .i64) _ _ _ t245 [.int .i64 t245] from rfl) (Reps.none _ _)))); intro v271 w112 ho113 hb hg_ hnew_; clear hg_ hnew_; (first | rw [← Ny270.out] at ho113 | (simp only [Int.reduceToNat] at ho113; rw [← Ny270.out] at ho113)); have n0_ := Aside0.mk (Kd.R_lower ho113 (below_size (by repeat (first | (with_reducible first | exact HB.out | apply below_alloc | apply pw_below_drewN | apply below_drew1) | exact HB.out)))); have n1_ := Aside0.mk (below_step (by repeat (first | (with_reducible first | exact HB.out | apply below_alloc | apply pw_below_drewN | apply below_drew1) | exact HB.out)) hb); clear HB; have HO272 := n0_; have HB := n1_; clear n0_ n1_; clear hb ho113; obtain ⟨Ao114, co114, eo114⟩ := Kd.R_slice HO272.out; subst eo114) | ((with_reducible refine gate_callee (f := 16) rfl ?_); refine goesL_ (some 156) rfl rfl Try.func16 (by kernel_rfl) rfl #[.slice Ao114 y270.length co114] rfl (by (try simp only [List.map_toArray, List.map_cons, List.map_nil]); first | done | rfl | (simp only [List.length_drop, List.length_take]; rfl)) ?_; (with_reducible refine (impl_NimSum.calls kj68 _ _ y270 t273 true _ ?side1 ?side2 A79.out).mono ?_); (case side1 => repeat (first | exact (Kd.R_reads' HO272.out).2.2 | (with_reducible refine Kd.C_alloc ?_ _) | (with_reducible refine Kd.C_drewN ?_ _) | (with_reducible refine Kd.C_drew ?_))); (case side2 => exact (Kd.R_reads' HO272.out).2.1); rintro e w' ⟨rfl, ⟨nd, rfl⟩⟩; refine ⟨_, rfl, ?_⟩) | ((with_reducible refine gate_callee (f := 17) rfl ?_); refine goesL_ (some 161) rfl rfl Try.func17 (by kernel_rfl) rfl #[.int .i64 t273] rfl (by (try simp only [List.map_toArray, List.map_cons, List.map_nil]); first | done | rfl | (simp only [List.length_drop, List.length_take]; rfl)) ?_; (with_reducible refine (impl_NimRoot.calls kj68 t273 t275 true _ A80.out).mono ?_); rintro e w115 ⟨rfl, hb⟩; refine ⟨_, rfl, ?_⟩; have n0_ := Aside0.mk (Kd.R_below (by (with_reducible repeat (first | apply Kd.R_alloc | apply Kd.R_drewN | apply Kd.R_drew)); exact HO272.out) hb); have n1_ := Aside0.mk (below_step (by repeat (first | (with_reducible first | exact HB.out | apply below_alloc | apply pw_below_drewN | apply below_drew1) | exact HB.out)) hb); clear HO272; clear HB; have HO272 := n0_; have HB := n1_; clear n0_ n1_; (try clear hb); (try clear hb2); (try clear hk); (try clear hi)) | ((with_reducible refine gate_dst (N := 167) rfl ?_); (try (refine gate_guard (by rfl) ?_; dsimp only)); refine Kd.R_lit (Kd.int .i64) _ 3 ?hg (N := 167) ?hd (xs := ([t266, t268] : List Int)) (inner := [.int .i64 t266, .int .i64 t268]) (ok := fun _ => True) (okp := fun _ => True) ?hr ?hp (fun _ hk => hk) trivial (Below.refl _ _) (Nat.le_refl _) (by simp) ?_; (case hd => rfl); (case hg => rfl); (case hr => first | (go_simp; done) | (go_simp; rfl)); (case hp => exact (Reps.one (show Kd.M (Kd.int .i64) _ _ _ t266 [.int .i64 t266] from rfl) (Reps.one (show Kd.M (Kd.int .i64) _ _ _ t268 [.int .i64 t268] from rfl) (Reps.none _ _)))); intro v278 w116 ho117 hb hg_ hnew_; clear hg_ hnew_; (first | rw [← Ny277.out] at ho117 | (simp only [Int.reduceToNat] at ho117; rw [← Ny277.out] at ho117)); have n0_ := Aside0.mk (Kd.R_elder' (by (with_reducible repeat (first | apply Kd.R_alloc | apply Kd.R_drewN | apply Kd.R_drew)); exact HO272.out) (Kd.R_base ho117) hb); have n1_ := Aside0.mk (Kd.R_lower (Kd.R_new' ho117 (Kd.R_lt (by (with_reducible repeat (first | apply Kd.R_alloc | apply Kd.R_drewN | apply Kd.R_drew)); exact HO272.out))) (below_size (by repeat (first | (with_reducible first | exact HB.out | apply below_alloc | apply pw_below_drewN | apply below_drew1) | exact HB.out)))); have n2_ := Aside0.mk (below_step (by repeat (first | (with_reducible first | exact HB.out | apply below_alloc | apply pw_below_drewN | apply below_drew1) | exact HB.out)) hb); clear HO272; clear HB; have HO272 := n0_; have HO279 := n1_; have HB := n2_; clear n0_ n1_ n2_; clear hb ho117; obtain ⟨Ao118, co118, eo118⟩ := Kd.R_slice HO279.out; subst eo118) | ((with_reducible refine gate_callee (f := 16) rfl ?_); refine goesL_ (some 168) rfl rfl Try.func16 (by kernel_rfl) rfl #[.slice Ao118 y277.length co118] rfl (by (try simp only [List.map_toArray, List.map_cons, List.map_nil]); first | done | rfl | (simp only [List.length_drop, List.length_take]; rfl)) ?_; (with_reducible refine (impl_NimSum.calls kj68 _ _ y277 t280 true _ ?side1 ?side2 A81.out).mono ?_); (case side1 => repeat (first | exact (Kd.R_reads' HO279.out).2.2 | (with_reducible refine Kd.C_alloc ?_ _) | (with_reducible refine Kd.C_drewN ?_ _) | (with_reducible refine Kd.C_drew ?_))); (case side2 => exact (Kd.R_reads' HO279.out).2.1); rintro e w' ⟨rfl, ⟨nd, rfl⟩⟩; refine ⟨_, rfl, ?_⟩) | ((with_reducible refine gate_callee (f := 15) rfl ?_); refine goesL_ (some 174) rfl rfl Try.func15 (by kernel_rfl) rfl #[.int .i64 t266, .int .i64 t266] rfl (by (try simp only [List.map_toArray, List.map_cons, List.map_nil]); first | done | rfl | (simp only [List.length_drop, List.length_take]; rfl)) ?_; (with_reducible refine (impl_NimProduct.calls kj68 t266 t266 t282 true _ A82.out).mono ?_); rintro e w119 ⟨rfl, hb⟩; refine ⟨_, rfl, ?_⟩; have n0_ := Aside0.mk (Kd.R_below (by (with_reducible repeat (first | apply Kd.R_alloc | apply Kd.R_drewN | apply Kd.R_drew)); exact HO272.out) hb); have n1_ := Aside0.mk (Kd.R_below (by (with_reducible repeat (first | apply Kd.R_alloc | apply Kd.R_drewN | apply Kd.R_drew)); exact HO279.out) hb); have n2_ := Aside0.mk (below_step (by repeat (first | (with_reducible first | exact HB.out | apply below_alloc | apply pw_below_drewN | apply below_drew1) | exact HB.out)) hb); clear HO272; clear HO279; clear HB; have HO272 := n0_; have HO279 := n1_; have HB := n2_; clear n0_ n1_ n2_; (try clear hb); (try clear hb2); (try clear hk); (try clear hi)) | ((with_reducible refine gate_callee (f := 18) rfl ?_); refine goesL_ (some 179) rfl rfl Try.func18 (by kernel_rfl) rfl #[.int .i64 t245] rfl (by (try simp only [List.map_toArray, List.map_cons, List.map_nil]); first | done | rfl | (simp only [List.length_drop, List.length_take]; rfl)) ?_; (with_reducible refine (impl_NimHalf.calls t245 t284 false _ A83.out).mono ?_); rintro e w120 ⟨rfl, hb⟩; refine ⟨_, rfl, ?_⟩; have n0_ := Aside0.mk (Kd.R_below (by (with_reducible repeat (first | apply Kd.R_alloc | apply Kd.R_drewN | apply Kd.R_drew)); exact HO272.out) hb); have n1_ := Aside0.mk (Kd.R_below (by (with_reducible repeat (first | apply Kd.R_alloc | apply Kd.R_drewN | apply Kd.R_drew)); exact HO279.out) hb); have n2_ := Aside0.mk (below_step (by repeat (first | (with_reducible first | exact HB.out | apply below_alloc | apply pw_below_drewN | apply below_drew1) | exact HB.out)) hb); clear HO272; clear HO279; clear HB; have HO272 := n0_; have HO279 := n1_; have HB := n2_; clear n0_ n1_ n2_; (try clear hb); (try clear hb2); (try clear hk); (try clear hi)) | ((with_reducible refine gate_callee (f := 8) rfl ?_); refine goesL_ (some 184) rfl rfl Try.func8 (by kernel_rfl) rfl #[.int .i64 1, .int .i64 t245] rfl (by (try simp only [List.map_toArray, List.map_cons, List.map_nil]); first | done | rfl | (simp only [List.length_drop, List.length_take]; rfl)) ?_; (with_reducible refine (impl_NimSolve.calls 1 t245 t286 true _ A84.out).mono ?_); rintro e w121 ⟨v288, rfl, ho0, hb⟩; refine ⟨_, rfl, ?_⟩; have n0_ := Aside0.mk (Kd.R_elder' (by (with_reducible repeat (first | apply Kd.R_alloc | apply Kd.R_drewN | apply Kd.R_drew)); exact HO272.out) (Kd.R_base ho0) hb); have n1_ := Aside0.mk (Kd.R_elder' (by (with_reducible repeat (first | apply Kd.R_alloc | apply Kd.R_drewN | apply Kd.R_drew)); exact HO279.out) (Kd.R_base ho0) hb); have n2_ := Aside0.mk (Kd.R_lower (Kd.R_new' (Kd.R_new' ho0 (Kd.R_lt (by (with_reducible repeat (first | apply Kd.R_alloc | apply Kd.R_drewN | apply Kd.R_drew)); exact HO272.out))) (Kd.R_lt (by (with_reducible repeat (first | apply Kd.R_alloc | apply Kd.R_drewN | apply Kd.R_drew)); exact HO279.out))) (below_size (by repeat (first | (with_reducible first | exact HB.out | apply below_alloc | apply pw_below_drewN | apply below_drew1) | exact HB.out)))); have n3_ := Aside0.mk (below_step (by repeat (first | (with_reducible first | exact HB.out | apply below_alloc | apply pw_below_drewN | apply below_drew1) | exact HB.out)) hb); clear HO272; clear HO279; clear HB; have HO272 := n0_; have HO279 := n1_; have HO289 := n2_; have HB := n3_; clear n0_ n1_ n2_ n3_; (try clear hb); (try clear hb2); (try clear hk); (try clear hi); (try clear ho0); obtain ⟨Ao122, co122, eo122⟩ := Kd.R_slice HO289.out; subst eo122))
                                                      go_ret
                                                      exact ⟨by first | rfl | (simp [errW_none, errW_some] <;> rfl) | (simp [*, errW_none, errW_some] <;> rfl), by repeat (first | (with_reducible first | exact HB.out | apply below_alloc | apply pw_below_drewN | apply below_drew1) | exact HB.out)⟩
                                              · rw [if_neg c94] at H
                                                have c94b0 : (t285 == ((t286.length : Int) == 2)) = false := by simpa using c94
                                                (try (have c94b1 : decide (t285 = ((t286.length : Int) == 2)) = false := by simpa using c94))
                                                (try (have c94b2 : (t285 == ((t286.length : Int) == 2)) = false := by simpa using c94))
                                                (try (have c94b3 : ¬ (t285 = ((t286.length : Int) == 2)) := by simpa using c94))
                                                clear c94
                                                as_aux_lemma =>
                                                  try exact absurd ((Option.some.inj H).trans hr_.out) (by decide)
                                                  all_goals
                                                    obtain rfl := Option.some.inj H
                                                    go_wp2_with (first | ((with_reducible refine gate_callee (f := 17) rfl ?_); refine goesL_ (some 144) rfl rfl Try.func17 (by kernel_rfl) rfl #[.int .i64 t244] rfl (by (try simp only [List.map_toArray, List.map_cons, List.map_nil]); first | done | rfl | (simp only [List.length_drop, List.length_take]; rfl)) ?_; (with_reducible refine (impl_NimRoot.calls kj68 t244 t266 true _ A77.out).mono ?_); rintro e w123 ⟨rfl, hb⟩; refine ⟨_, rfl, ?_⟩; have n0_ := Aside0.mk (below_step (by repeat (first | (with_reducible first | exact HB.out | apply below_alloc | apply pw_below_drewN | apply below_drew1) | exact HB.out)) hb); clear HB; have HB := n0_; clear n0_; (try clear hb); (try clear hb2); (try clear hk); (try clear hi)) | ((with_reducible refine gate_callee (f := 17) rfl ?_); refine goesL_ (some 149) rfl rfl Try.func17 (by kernel_rfl) rfl #[.int .i64 t245] rfl (by (try simp only [List.map_toArray, List.map_cons, List.map_nil]); first | done | rfl | (simp only [List.length_drop, List.length_take]; rfl)) ?_; (with_reducible refine (impl_NimRoot.calls kj68 t245 t268 true _ A78.out).mono ?_); rintro e w124 ⟨rfl, hb⟩; refine ⟨_, rfl, ?_⟩; have n0_ := Aside0.mk (below_step (by repeat (first | (with_reducible first | exact HB.out | apply below_alloc | apply pw_below_drewN | apply below_drew1) | exact HB.out)) hb); clear HB; have HB := n0_; clear n0_; (try clear hb); (try clear hb2); (try clear hk); (try clear hi)) | ((with_reducible refine gate_dst (N := 155) rfl ?_); (try (refine gate_guard (by rfl) ?_; dsimp only)); refine Kd.R_lit (Kd.int .i64) _ 3 ?hg (N := 155) ?hd (xs := ([t244, t245] : List Int)) (inner := [.int .i64 t244, .int .i64 t245]) (ok := fun _ => True) (okp := fun _ => True) ?hr ?hp (fun _ hk => hk) trivial (Below.refl _ _) (Nat.le_refl _) (by simp) ?_; (case hd => rfl); (case hg => rfl); (case hr => first | (go_simp; done) | (go_simp; rfl)); (case hp => exact (Reps.one (show Kd.M (Kd.int .i64) _ _ _ t244 [.int .i64 t244] from rfl) (Reps.one (show Kd.M (Kd.int .i64) _ _ _ t245 [.int .i64 t245] from rfl) (Reps.none _ _)))); intro v271 w125 ho126 hb hg_ hnew_; clear hg_ hnew_; (first | rw [← Ny270.out] at ho126 | (simp only [Int.reduceToNat] at ho126; rw [← Ny270.out] at ho126)); have n0_ := Aside0.mk (Kd.R_lower ho126 (below_size (by repeat (first | (with_reducible first | exact HB.out | apply below_alloc | apply pw_below_drewN | apply below_drew1) | exact HB.out)))); have n1_ := Aside0.mk (below_step (by repeat (first | (with_reducible first | exact HB.out | apply below_alloc | apply pw_below_drewN | apply below_drew1) | exact HB.out)) hb); clear HB; have HO272 := n0_; have HB := n1_; clear n0_ n1_; clear hb ho126; obtain ⟨Ao127, co127, eo127⟩ := Kd.R_slice HO272.out; subst eo127) | ((with_reducible refine gate_callee (f := 16) rfl ?_); refine goesL_ (some 156) rfl rfl Try.func16 (by kernel_rfl) rfl #[.slice Ao127 y270.length co127] rfl (by (try simp only [List.map_toArray, List.map_cons, List.map_nil]); first | done | rfl | (simp only [List.length_drop, List.length_take]; rfl)) ?_; (with_reducible refine (impl_NimSum.calls kj68 _ _ y270 t273 true _ ?side1 ?side2 A79.out).mono ?_); (case side1 => repeat (first | exact (Kd.R_reads' HO272.out).2.2 | (with_reducible refine Kd.C_alloc ?_ _) | (with_reducible refine Kd.C_drewN ?_ _) | (with_reducible refine Kd.C_drew ?_))); (case side2 => exact (Kd.R_reads' HO272.out).2.1); rintro e w' ⟨rfl, ⟨nd, rfl⟩⟩; refine ⟨_, rfl, ?_⟩) | ((with_reducible refine gate_callee (f := 17) rfl ?_); refine goesL_ (some 161) rfl rfl Try.func17 (by kernel_rfl) rfl #[.int .i64 t273] rfl (by (try simp only [List.map_toArray, List.map_cons, List.map_nil]); first | done | rfl | (simp only [List.length_drop, List.length_take]; rfl)) ?_; (with_reducible refine (impl_NimRoot.calls kj68 t273 t275 true _ A80.out).mono ?_); rintro e w128 ⟨rfl, hb⟩; refine ⟨_, rfl, ?_⟩; have n0_ := Aside0.mk (Kd.R_below (by (with_reducible repeat (first | apply Kd.R_alloc | apply Kd.R_drewN | apply Kd.R_drew)); exact HO272.out) hb); have n1_ := Aside0.mk (below_step (by repeat (first | (with_reducible first | exact HB.out | apply below_alloc | apply pw_below_drewN | apply below_drew1) | exact HB.out)) hb); clear HO272; clear HB; have HO272 := n0_; have HB := n1_; clear n0_ n1_; (try clear hb); (try clear hb2); (try clear hk); (try clear hi)) | ((with_reducible refine gate_dst (N := 167) rfl ?_); (try (refine gate_guard (by rfl) ?_; dsimp only)); refine Kd.R_lit (Kd.int .i64) _ 3 ?hg (N := 167) ?hd (xs := ([t266, t268] : List Int)) (inner := [.int .i64 t266, .int .i64 t268]) (ok := fun _ => True) (okp := fun _ => True) ?hr ?hp (fun _ hk => hk) trivial (Below.refl _ _) (Nat.le_refl _) (by simp) ?_; (case hd => rfl); (case hg => rfl); (case hr => first | (go_simp; done) | (go_simp; rfl)); (case hp => exact (Reps.one (show Kd.M (Kd.int .i64) _ _ _ t266 [.int .i64 t266] from rfl) (Reps.one (show Kd.M (Kd.int .i64) _ _ _ t268 [.int .i64 t268] from rfl) (Reps.none _ _)))); intro v278 w129 ho130 hb hg_ hnew_; clear hg_ hnew_; (first | rw [← Ny277.out] at ho130 | (simp only [Int.reduceToNat] at ho130; rw [← Ny277.out] at ho130)); have n0_ := Aside0.mk (Kd.R_elder' (by (with_reducible repeat (first | apply Kd.R_alloc | apply Kd.R_drewN | apply Kd.R_drew)); exact HO272.out) (Kd.R_base ho130) hb); have n1_ := Aside0.mk (Kd.R_lower (Kd.R_new' ho130 (Kd.R_lt (by (with_reducible repeat (first | apply Kd.R_alloc | apply Kd.R_drewN | apply Kd.R_drew)); exact HO272.out))) (below_size (by repeat (first | (with_reducible first | exact HB.out | apply below_alloc | apply pw_below_drewN | apply below_drew1) | exact HB.out)))); have n2_ := Aside0.mk (below_step (by repeat (first | (with_reducible first | exact HB.out | apply below_alloc | apply pw_below_drewN | apply below_drew1) | exact HB.out)) hb); clear HO272; clear HB; have HO272 := n0_; have HO279 := n1_; have HB := n2_; clear n0_ n1_ n2_; clear hb ho130; obtain ⟨Ao131, co131, eo131⟩ := Kd.R_slice HO279.out; subst eo131) | ((with_reducible refine gate_callee (f := 16) rfl ?_); refine goesL_ (some 168) rfl rfl Try.func16 (by kernel_rfl) rfl #[.slice Ao131 y277.length co131] rfl (by (try simp only [List.map_toArray, List.map_cons, List.map_nil]); first | done | rfl | (simp only [List.length_drop, List.length_take]; rfl)) ?_; (with_reducible refine (impl_NimSum.calls kj68 _ _ y277 t280 true _ ?side1 ?side2 A81.out).mono ?_); (case side1 => repeat (first | exact (Kd.R_reads' HO279.out).2.2 | (with_reducible refine Kd.C_alloc ?_ _) | (with_reducible refine Kd.C_drewN ?_ _) | (with_reducible refine Kd.C_drew ?_))); (case side2 => exact (Kd.R_reads' HO279.out).2.1); rintro e w' ⟨rfl, ⟨nd, rfl⟩⟩; refine ⟨_, rfl, ?_⟩) | ((with_reducible refine gate_callee (f := 15) rfl ?_); refine goesL_ (some 174) rfl rfl Try.func15 (by kernel_rfl) rfl #[.int .i64 t266, .int .i64 t266] rfl (by (try simp only [List.map_toArray, List.map_cons, List.map_nil]); first | done | rfl | (simp only [List.length_drop, List.length_take]; rfl)) ?_; (with_reducible refine (impl_NimProduct.calls kj68 t266 t266 t282 true _ A82.out).mono ?_); rintro e w132 ⟨rfl, hb⟩; refine ⟨_, rfl, ?_⟩; have n0_ := Aside0.mk (Kd.R_below (by (with_reducible repeat (first | apply Kd.R_alloc | apply Kd.R_drewN | apply Kd.R_drew)); exact HO272.out) hb); have n1_ := Aside0.mk (Kd.R_below (by (with_reducible repeat (first | apply Kd.R_alloc | apply Kd.R_drewN | apply Kd.R_drew)); exact HO279.out) hb); have n2_ := Aside0.mk (below_step (by repeat (first | (with_reducible first | exact HB.out | apply below_alloc | apply pw_below_drewN | apply below_drew1) | exact HB.out)) hb); clear HO272; clear HO279; clear HB; have HO272 := n0_; have HO279 := n1_; have HB := n2_; clear n0_ n1_ n2_; (try clear hb); (try clear hb2); (try clear hk); (try clear hi)) | ((with_reducible refine gate_callee (f := 18) rfl ?_); refine goesL_ (some 179) rfl rfl Try.func18 (by kernel_rfl) rfl #[.int .i64 t245] rfl (by (try simp only [List.map_toArray, List.map_cons, List.map_nil]); first | done | rfl | (simp only [List.length_drop, List.length_take]; rfl)) ?_; (with_reducible refine (impl_NimHalf.calls t245 t284 t285 _ A83.out).mono ?_); rintro e w133 ⟨rfl, hb⟩; refine ⟨_, rfl, ?_⟩; have n0_ := Aside0.mk (Kd.R_below (by (with_reducible repeat (first | apply Kd.R_alloc | apply Kd.R_drewN | apply Kd.R_drew)); exact HO272.out) hb); have n1_ := Aside0.mk (Kd.R_below (by (with_reducible repeat (first | apply Kd.R_alloc | apply Kd.R_drewN | apply Kd.R_drew)); exact HO279.out) hb); have n2_ := Aside0.mk (below_step (by repeat (first | (with_reducible first | exact HB.out | apply below_alloc | apply pw_below_drewN | apply below_drew1) | exact HB.out)) hb); clear HO272; clear HO279; clear HB; have HO272 := n0_; have HO279 := n1_; have HB := n2_; clear n0_ n1_ n2_; (try clear hb); (try clear hb2); (try clear hk); (try clear hi)) | ((with_reducible refine gate_callee (f := 8) rfl ?_); refine goesL_ (some 184) rfl rfl Try.func8 (by kernel_rfl) rfl #[.int .i64 1, .int .i64 t245] rfl (by (try simp only [List.map_toArray, List.map_cons, List.map_nil]); first | done | rfl | (simp only [List.length_drop, List.length_take]; rfl)) ?_; (with_reducible refine (impl_NimSolve.calls 1 t245 t286 true _ A84.out).mono ?_); rintro e w134 ⟨v288, rfl, ho0, hb⟩; refine ⟨_, rfl, ?_⟩; have n0_ := Aside0.mk (Kd.R_elder' (by (with_reducible repeat (first | apply Kd.R_alloc | apply Kd.R_drewN | apply Kd.R_drew)); exact HO272.out) (Kd.R_base ho0) hb); have n1_ := Aside0.mk (Kd.R_elder' (by (with_reducible repeat (first | apply Kd.R_alloc | apply Kd.R_drewN | apply Kd.R_drew)); exact HO279.out) (Kd.R_base ho0) hb); have n2_ := Aside0.mk (Kd.R_lower (Kd.R_new' (Kd.R_new' ho0 (Kd.R_lt (by (with_reducible repeat (first | apply Kd.R_alloc | apply Kd.R_drewN | apply Kd.R_drew)); exact HO272.out))) (Kd.R_lt (by (with_reducible repeat (first | apply Kd.R_alloc | apply Kd.R_drewN | apply Kd.R_drew)); exact HO279.out))) (below_size (by repeat (first | (with_reducible first | exact HB.out | apply below_alloc | apply pw_below_drewN | apply below_drew1) | exact HB.out)))); have n3_ := Aside0.mk (below_step (by repeat (first | (with_reducible first | exact HB.out | apply below_alloc | apply pw_below_drewN | apply below_drew1) | exact HB.out)) hb); clear HO272; clear HO279; clear HB; have HO272 := n0_; have HO279 := n1_; have HO289 := n2_; have HB := n3_; clear n0_ n1_ n2_ n3_; (try clear hb); (try clear hb2); (try clear hk); (try clear hi); (try clear ho0); obtain ⟨Ao135, co135, eo135⟩ := Kd.R_slice HO289.out; subst eo135))
                                                    go_ret
                                                    exact ⟨by first | rfl | (simp [errW_none, errW_some] <;> rfl) | (simp [*, errW_none, errW_some] <;> rfl), by repeat (first | (with_reducible first | exact HB.out | apply below_alloc | apply pw_below_drewN | apply below_drew1) | exact HB.out)⟩
                                            · rw [if_neg c93] at H
                                              have c93b0 : (t282 == t244) = false := beq_eq_false_iff_ne.mpr c93
                                              have c93b1 : (t282 != t244) = true := bne_iff_ne.mpr c93
                                              as_aux_lemma =>
                                                try exact absurd ((Option.some.inj H).trans hr_.out) (by decide)
                                                all_goals
                                                  obtain rfl := Option.some.inj H
                                                  go_wp2_with (first | ((with_reducible refine gate_callee (f := 17) rfl ?_); refine goesL_ (some 144) rfl rfl Try.func17 (by kernel_rfl) rfl #[.int .i64 t244] rfl (by (try simp only [List.map_toArray, List.map_cons, List.map_nil]); first | done | rfl | (simp only [List.length_drop, List.length_take]; rfl)) ?_; (with_reducible refine (impl_NimRoot.calls kj68 t244 t266 true _ A77.out).mono ?_); rintro e w136 ⟨rfl, hb⟩; refine ⟨_, rfl, ?_⟩; have n0_ := Aside0.mk (below_step (by repeat (first | (with_reducible first | exact HB.out | apply below_alloc | apply pw_below_drewN | apply below_drew1) | exact HB.out)) hb); clear HB; have HB := n0_; clear n0_; (try clear hb); (try clear hb2); (try clear hk); (try clear hi)) | ((with_reducible refine gate_callee (f := 17) rfl ?_); refine goesL_ (some 149) rfl rfl Try.func17 (by kernel_rfl) rfl #[.int .i64 t245] rfl (by (try simp only [List.map_toArray, List.map_cons, List.map_nil]); first | done | rfl | (simp only [List.length_drop, List.length_take]; rfl)) ?_; (with_reducible refine (impl_NimRoot.calls kj68 t245 t268 true _ A78.out).mono ?_); rintro e w137 ⟨rfl, hb⟩; refine ⟨_, rfl, ?_⟩; have n0_ := Aside0.mk (below_step (by repeat (first | (with_reducible first | exact HB.out | apply below_alloc | apply pw_below_drewN | apply below_drew1) | exact HB.out)) hb); clear HB; have HB := n0_; clear n0_; (try clear hb); (try clear hb2); (try clear hk); (try clear hi)) | ((with_reducible refine gate_dst (N := 155) rfl ?_); (try (refine gate_guard (by rfl) ?_; dsimp only)); refine Kd.R_lit (Kd.int .i64) _ 3 ?hg (N := 155) ?hd (xs := ([t244, t245] : List Int)) (inner := [.int .i64 t244, .int .i64 t245]) (ok := fun _ => True) (okp := fun _ => True) ?hr ?hp (fun _ hk => hk) trivial (Below.refl _ _) (Nat.le_refl _) (by simp) ?_; (case hd => rfl); (case hg => rfl); (case hr => first | (go_simp; done) | (go_simp; rfl)); (case hp => exact (Reps.one (show Kd.M (Kd.int .i64) _ _ _ t244 [.int .i64 t244] from rfl) (Reps.one (show Kd.M (Kd.int .i64) _ _ _ t245 [.int .i64 t245] from rfl) (Reps.none _ _)))); intro v271 w138 ho139 hb hg_ hnew_; clear hg_ hnew_; (first | rw [← Ny270.out] at ho139 | (simp only [Int.reduceToNat] at ho139; rw [← Ny270.out] at ho139)); have n0_ := Aside0.mk (Kd.R_lower ho139 (below_size (by repeat (first | (with_reducible first | exact HB.out | apply below_alloc | apply pw_below_drewN | apply below_drew1) | exact HB.out)))); have n1_ := Aside0.mk (below_step (by repeat (first | (with_reducible first | exact HB.out | apply below_alloc | apply pw_below_drewN | apply below_drew1) | exact HB.out)) hb); clear HB; have HO272 := n0_; have HB := n1_; clear n0_ n1_; clear hb ho139; obtain ⟨Ao140, co140, eo140⟩ := Kd.R_slice HO272.out; subst eo140) | ((with_reducible refine gate_callee (f := 16) rfl ?_); refine goesL_ (some 156) rfl rfl Try.func16 (by kernel_rfl) rfl #[.slice Ao140 y270.length co140] rfl (by (try simp only [List.map_toArray, List.map_cons, List.map_nil]); first | done | rfl | (simp only [List.length_drop, List.length_take]; rfl)) ?_; (with_reducible refine (impl_NimSum.calls kj68 _ _ y270 t273 true _ ?side1 ?side2 A79.out).mono ?_); (case side1 => repeat (first | exact (Kd.R_reads' HO272.out).2.2 | (with_reducible refine Kd.C_alloc ?_ _) | (with_reducible refine Kd.C_drewN ?_ _) | (with_reducible refine Kd.C_drew ?_))); (case side2 => exact (Kd.R_reads' HO272.out).2.1); rintro e w' ⟨rfl, ⟨nd, rfl⟩⟩; refine ⟨_, rfl, ?_⟩) | ((with_reducible refine gate_callee (f := 17) rfl ?_); refine goesL_ (some 161) rfl rfl Try.func17 (by kernel_rfl) rfl #[.int .i64 t273] rfl (by (try simp only [List.map_toArray, List.map_cons, List.map_nil]); first | done | rfl | (simp only [List.length_drop, List.length_take]; rfl)) ?_; (with_reducible refine (impl_NimRoot.calls kj68 t273 t275 true _ A80.out).mono ?_); rintro e w141 ⟨rfl, hb⟩; refine ⟨_, rfl, ?_⟩; have n0_ := Aside0.mk (Kd.R_below (by (with_reducible repeat (first | apply Kd.R_alloc | apply Kd.R_drewN | apply Kd.R_drew)); exact HO272.out) hb); have n1_ := Aside0.mk (below_step (by repeat (first | (with_reducible first | exact HB.out | apply below_alloc | apply pw_below_drewN | apply below_drew1) | exact HB.out)) hb); clear HO272; clear HB; have HO272 := n0_; have HB := n1_; clear n0_ n1_; (try clear hb); (try clear hb2); (try clear hk); (try clear hi)) | ((with_reducible refine gate_dst (N := 167) rfl ?_); (try (refine gate_guard (by rfl) ?_; dsimp only)); refine Kd.R_lit (Kd.int .i64) _ 3 ?hg (N := 167) ?hd (xs := ([t266, t268] : List Int)) (inner := [.int .i64 t266, .int .i64 t268]) (ok := fun _ => True) (okp := fun _ => True) ?hr ?hp (fun _ hk => hk) trivial (Below.refl _ _) (Nat.le_refl _) (by simp) ?_; (case hd => rfl); (case hg => rfl); (case hr => first | (go_simp; done) | (go_simp; rfl)); (case hp => exact (Reps.one (show Kd.M (Kd.int .i64) _ _ _ t266 [.int .i64 t266] from rfl) (Reps.one (show Kd.M (Kd.int .i64) _ _ _ t268 [.int .i64 t268] from rfl) (Reps.none _ _)))); intro v278 w142 ho143 hb hg_ hnew_; clear hg_ hnew_; (first | rw [← Ny277.out] at ho143 | (simp only [Int.reduceToNat] at ho143; rw [← Ny277.out] at ho143)); have n0_ := Aside0.mk (Kd.R_elder' (by (with_reducible repeat (first | apply Kd.R_alloc | apply Kd.R_drewN | apply Kd.R_drew)); exact HO272.out) (Kd.R_base ho143) hb); have n1_ := Aside0.mk (Kd.R_lower (Kd.R_new' ho143 (Kd.R_lt (by (with_reducible repeat (first | apply Kd.R_alloc | apply Kd.R_drewN | apply Kd.R_drew)); exact HO272.out))) (below_size (by repeat (first | (with_reducible first | exact HB.out | apply below_alloc | apply pw_below_drewN | apply below_drew1) | exact HB.out)))); have n2_ := Aside0.mk (below_step (by repeat (first | (with_reducible first | exact HB.out | apply below_alloc | apply pw_below_drewN | apply below_drew1) | exact HB.out)) hb); clear HO272; clear HB; have HO272 := n0_; have HO279 := n1_; have HB := n2_; clear n0_ n1_ n2_; clear hb ho143; obtain ⟨Ao144, co144, eo144⟩ := Kd.R_slice HO279.out; subst eo144) | ((with_reducible refine gate_callee (f := 16) rfl ?_); refine goesL_ (some 168) rfl rfl Try.func16 (by kernel_rfl) rfl #[.slice Ao144 y277.length co144] rfl (by (try simp only [List.map_toArray, List.map_cons, List.map_nil]); first | done | rfl | (simp only [List.length_drop, List.length_take]; rfl)) ?_; (with_reducible refine (impl_NimSum.calls kj68 _ _ y277 t280 true _ ?side1 ?side2 A81.out).mono ?_); (case side1 => repeat (first | exact (Kd.R_reads' HO279.out).2.2 | (with_reducible refine Kd.C_alloc ?_ _) | (with_reducible refine Kd.C_drewN ?_ _) | (with_reducible refine Kd.C_drew ?_))); (case side2 => exact (Kd.R_reads' HO279.out).2.1); rintro e w' ⟨rfl, ⟨nd, rfl⟩⟩; refine ⟨_, rfl, ?_⟩) | ((with_reducible refine gate_callee (f := 15) rfl ?_); refine goesL_ (some 174) rfl rfl Try.func15 (by kernel_rfl) rfl #[.int .i64 t266, .int .i64 t266] rfl (by (try simp only [List.map_toArray, List.map_cons, List.map_nil]); first | done | rfl | (simp only [List.length_drop, List.length_take]; rfl)) ?_; (with_reducible refine (impl_NimProduct.calls kj68 t266 t266 t282 true _ A82.out).mono ?_); rintro e w145 ⟨rfl, hb⟩; refine ⟨_, rfl, ?_⟩; have n0_ := Aside0.mk (Kd.R_below (by (with_reducible repeat (first | apply Kd.R_alloc | apply Kd.R_drewN | apply Kd.R_drew)); exact HO272.out) hb); have n1_ := Aside0.mk (Kd.R_below (by (with_reducible repeat (first | apply Kd.R_alloc | apply Kd.R_drewN | apply Kd.R_drew)); exact HO279.out) hb); have n2_ := Aside0.mk (below_step (by repeat (first | (with_reducible first | exact HB.out | apply below_alloc | apply pw_below_drewN | apply below_drew1) | exact HB.out)) hb); clear HO272; clear HO279; clear HB; have HO272 := n0_; have HO279 := n1_; have HB := n2_; clear n0_ n1_ n2_; (try clear hb); (try clear hb2); (try clear hk); (try clear hi)) | ((with_reducible refine gate_callee (f := 18) rfl ?_); refine goesL_ (some 179) rfl rfl Try.func18 (by kernel_rfl) rfl #[.int .i64 t245] rfl (by (try simp only [List.map_toArray, List.map_cons, List.map_nil]); first | done | rfl | (simp only [List.length_drop, List.length_take]; rfl)) ?_; (with_reducible refine (impl_NimHalf.calls t245 t284 t285 _ A83.out).mono ?_); rintro e w146 ⟨rfl, hb⟩; refine ⟨_, rfl, ?_⟩; have n0_ := Aside0.mk (Kd.R_below (by (with_reducible repeat (first | apply Kd.R_alloc | apply Kd.R_drewN | apply Kd.R_drew)); exact HO272.out) hb); have n1_ := Aside0.mk (Kd.R_below (by (with_reducible repeat (first | apply Kd.R_alloc | apply Kd.R_drewN | apply Kd.R_drew)); exact HO279.out) hb); have n2_ := Aside0.mk (below_step (by repeat (first | (with_reducible first | exact HB.out | apply below_alloc | apply pw_below_drewN | apply below_drew1) | exact HB.out)) hb); clear HO272; clear HO279; clear HB; have HO272 := n0_; have HO279 := n1_; have HB := n2_; clear n0_ n1_ n2_; (try clear hb); (try clear hb2); (try clear hk); (try clear hi)) | ((with_reducible refine gate_callee (f := 8) rfl ?_); refine goesL_ (some 184) rfl rfl Try.func8 (by kernel_rfl) rfl #[.int .i64 1, .int .i64 t245] rfl (by (try simp only [List.map_toArray, List.map_cons, List.map_nil]); first | done | rfl | (simp only [List.length_drop, List.length_take]; rfl)) ?_; (with_reducible refine (impl_NimSolve.calls 1 t245 t286 true _ A84.out).mono ?_); rintro e w147 ⟨v288, rfl, ho0, hb⟩; refine ⟨_, rfl, ?_⟩; have n0_ := Aside0.mk (Kd.R_elder' (by (with_reducible repeat (first | apply Kd.R_alloc | apply Kd.R_drewN | apply Kd.R_drew)); exact HO272.out) (Kd.R_base ho0) hb); have n1_ := Aside0.mk (Kd.R_elder' (by (with_reducible repeat (first | apply Kd.R_alloc | apply Kd.R_drewN | apply Kd.R_drew)); exact HO279.out) (Kd.R_base ho0) hb); have n2_ := Aside0.mk (Kd.R_lower (Kd.R_new' (Kd.R_new' ho0 (Kd.R_lt (by (with_reducible repeat (first | apply Kd.R_alloc | apply Kd.R_drewN | apply Kd.R_drew)); exact HO272.out))) (Kd.R_lt (by (with_reducible repeat (first | apply Kd.R_alloc | apply Kd.R_drewN | apply Kd.R_drew)); exact HO279.out))) (below_size (by repeat (first | (with_reducible first | exact HB.out | apply below_alloc | apply pw_below_drewN | apply below_drew1) | exact HB.out)))); have n3_ := Aside0.mk (below_step (by repeat (first | (with_reducible first | exact HB.out | apply below_alloc | apply pw_below_drewN | apply below_drew1) | exact HB.out)) hb); clear HO272; clear HO279; clear HB; have HO272 := n0_; have HO279 := n1_; have HO289 := n2_; have HB := n3_; clear n0_ n1_ n2_ n3_; (try clear hb); (try clear hb2); (try clear hk); (try clear hi); (try clear ho0)))
                                                  go_ret
                                                  exact ⟨by first | rfl | (simp [errW_none, errW_some] <;> rfl) | (simp [*, errW_none, errW_some] <;> rfl), by repeat (first | (with_reducible first | exact HB.out | apply below_alloc | apply pw_below_drewN | apply below_drew1) | exact HB.out)⟩
                                          · rw [if_neg c92] at H
                                            have c92b0 : (t280 == t275) = false := beq_eq_false_iff_ne.mpr c92
                                            have c92b1 : (t280 != t275) = true := bne_iff_ne.mpr c92
                                            as_aux_lemma =>
                                              try exact absurd ((Option.some.inj H).trans hr_.out) (by decide)
                                              all_goals
                                                obtain rfl := Option.some.inj H
                                                go_wp2_with (first | ((with_reducible refine gate_callee (f := 17) rfl ?_); refine goesL_ (some 144) rfl rfl Try.func17 (by kernel_rfl) rfl #[.int .i64 t244] rfl (by (try simp only [List.map_toArray, List.map_cons, List.map_nil]); first | done | rfl | (simp only [List.length_drop, List.length_take]; rfl)) ?_; (with_reducible refine (impl_NimRoot.calls kj68 t244 t266 true _ A77.out).mono ?_); rintro e w148 ⟨rfl, hb⟩; refine ⟨_, rfl, ?_⟩; have n0_ := Aside0.mk (below_step (by repeat (first | (with_reducible first | exact HB.out | apply below_alloc | apply pw_below_drewN | apply below_drew1) | exact HB.out)) hb); clear HB; have HB := n0_; clear n0_; (try clear hb); (try clear hb2); (try clear hk); (try clear hi)) | ((with_reducible refine gate_callee (f := 17) rfl ?_); refine goesL_ (some 149) rfl rfl Try.func17 (by kernel_rfl) rfl #[.int .i64 t245] rfl (by (try simp only [List.map_toArray, List.map_cons, List.map_nil]); first | done | rfl | (simp only [List.length_drop, List.length_take]; rfl)) ?_; (with_reducible refine (impl_NimRoot.calls kj68 t245 t268 true _ A78.out).mono ?_); rintro e w149 ⟨rfl, hb⟩; refine ⟨_, rfl, ?_⟩; have n0_ := Aside0.mk (below_step (by repeat (first | (with_reducible first | exact HB.out | apply below_alloc | apply pw_below_drewN | apply below_drew1) | exact HB.out)) hb); clear HB; have HB := n0_; clear n0_; (try clear hb); (try clear hb2); (try clear hk); (try clear hi)) | ((with_reducible refine gate_dst (N := 155) rfl ?_); (try (refine gate_guard (by rfl) ?_; dsimp only)); refine Kd.R_lit (Kd.int .i64) _ 3 ?hg (N := 155) ?hd (xs := ([t244, t245] : List Int)) (inner := [.int .i64 t244, .int .i64 t245]) (ok := fun _ => True) (okp := fun _ => True) ?hr ?hp (fun _ hk => hk) trivial (Below.refl _ _) (Nat.le_refl _) (by simp) ?_; (case hd => rfl); (case hg => rfl); (case hr => first | (go_simp; done) | (go_simp; rfl)); (case hp => exact (Reps.one (show Kd.M (Kd.int .i64) _ _ _ t244 [.int .i64 t244] from rfl) (Reps.one (show Kd.M (Kd.int .i64) _ _ _ t245 [.int .i64 t245] from rfl) (Reps.none _ _)))); intro v271 w150 ho151 hb hg_ hnew_; clear hg_ hnew_; (first | rw [← Ny270.out] at ho151 | (simp only [Int.reduceToNat] at ho151; rw [← Ny270.out] at ho151)); have n0_ := Aside0.mk (Kd.R_lower ho151 (below_size (by repeat (first | (with_reducible first | exact HB.out | apply below_alloc | apply pw_below_drewN | apply below_drew1) | exact HB.out)))); have n1_ := Aside0.mk (below_step (by repeat (first | (with_reducible first | exact HB.out | apply below_alloc | apply pw_below_drewN | apply below_drew1) | exact HB.out)) hb); clear HB; have HO272 := n0_; have HB := n1_; clear n0_ n1_; clear hb ho151; obtain ⟨Ao152, co152, eo152⟩ := Kd.R_slice HO272.out; subst eo152) | ((with_reducible refine gate_callee (f := 16) rfl ?_); refine goesL_ (some 156) rfl rfl Try.func16 (by kernel_rfl) rfl #[.slice Ao152 y270.length co152] rfl (by (try simp only [List.map_toArray, List.map_cons, List.map_nil]); first | done | rfl | (simp only [List.length_drop, List.length_take]; rfl)) ?_; (with_reducible refine (impl_NimSum.calls kj68 _ _ y270 t273 true _ ?side1 ?side2 A79.out).mono ?_); (case side1 => repeat (first | exact (Kd.R_reads' HO272.out).2.2 | (with_reducible refine Kd.C_alloc ?_ _) | (with_reducible refine Kd.C_drewN ?_ _) | (with_reducible refine Kd.C_drew ?_))); (case side2 => exact (Kd.R_reads' HO272.out).2.1); rintro e w' ⟨rfl, ⟨nd, rfl⟩⟩; refine ⟨_, rfl, ?_⟩) | ((with_reducible refine gate_callee (f := 17) rfl ?_); refine goesL_ (some 161) rfl rfl Try.func17 (by kernel_rfl) rfl #[.int .i64 t273] rfl (by (try simp only [List.map_toArray, List.map_cons, List.map_nil]); first | done | rfl | (simp only [List.length_drop, List.length_take]; rfl)) ?_; (with_reducible refine (impl_NimRoot.calls kj68 t273 t275 true _ A80.out).mono ?_); rintro e w153 ⟨rfl, hb⟩; refine ⟨_, rfl, ?_⟩; have n0_ := Aside0.mk (Kd.R_below (by (with_reducible repeat (first | apply Kd.R_alloc | apply Kd.R_drewN | apply Kd.R_drew)); exact HO272.out) hb); have n1_ := Aside0.mk (below_step (by repeat (first | (with_reducible first | exact HB.out | apply below_alloc | apply pw_below_drewN | apply below_drew1) | exact HB.out)) hb); clear HO272; clear HB; have HO272 := n0_; have HB := n1_; clear n0_ n1_; (try clear hb); (try clear hb2); (try clear hk); (try clear hi)) | ((with_reducible refine gate_dst (N := 167) rfl ?_); (try (refine gate_guard (by rfl) ?_; dsimp only)); refine Kd.R_lit (Kd.int .i64) _ 3 ?hg (N := 167) ?hd (xs := ([t266, t268] : List Int)) (inner := [.int .i64 t266, .int .i64 t268]) (ok := fun _ => True) (okp := fun _ => True) ?hr ?hp (fun _ hk => hk) trivial (Below.refl _ _) (Nat.le_refl _) (by simp) ?_; (case hd => rfl); (case hg => rfl); (case hr => first | (go_simp; done) | (go_simp; rfl)); (case hp => exact (Reps.one (show Kd.M (Kd.int .i64) _ _ _ t266 [.int .i64 t266] from rfl) (Reps.one (show Kd.M (Kd.int .i64) _ _ _ t268 [.int .i64 t268] from rfl) (Reps.none _ _)))); intro v278 w154 ho155 hb hg_ hnew_; clear hg_ hnew_; (first | rw [← Ny277.out] at ho155 | (simp only [Int.reduceToNat] at ho155; rw [← Ny277.out] at ho155)); have n0_ := Aside0.mk (Kd.R_elder' (by (with_reducible repeat (first | apply Kd.R_alloc | apply Kd.R_drewN | apply Kd.R_drew)); exact HO272.out) (Kd.R_base ho155) hb); have n1_ := Aside0.mk (Kd.R_lower (Kd.R_new' ho155 (Kd.R_lt (by (with_reducible repeat (first | apply Kd.R_alloc | apply Kd.R_drewN | apply Kd.R_drew)); exact HO272.out))) (below_size (by repeat (first | (with_reducible first | exact HB.out | apply below_alloc | apply pw_below_drewN | apply below_drew1) | exact HB.out)))); have n2_ := Aside0.mk (below_step (by repeat (first | (with_reducible first | exact HB.out | apply below_alloc | apply pw_below_drewN | apply below_drew1) | exact HB.out)) hb); clear HO272; clear HB; have HO272 := n0_; have HO279 := n1_; have HB := n2_; clear n0_ n1_ n2_; clear hb ho155; obtain ⟨Ao156, co156, eo156⟩ := Kd.R_slice HO279.out; subst eo156) | ((with_reducible refine gate_callee (f := 16) rfl ?_); refine goesL_ (some 168) rfl rfl Try.func16 (by kernel_rfl) rfl #[.slice Ao156 y277.length co156] rfl (by (try simp only [List.map_toArray, List.map_cons, List.map_nil]); first | done | rfl | (simp only [List.length_drop, List.length_take]; rfl)) ?_; (with_reducible refine (impl_NimSum.calls kj68 _ _ y277 t280 true _ ?side1 ?side2 A81.out).mono ?_); (case side1 => repeat (first | exact (Kd.R_reads' HO279.out).2.2 | (with_reducible refine Kd.C_alloc ?_ _) | (with_reducible refine Kd.C_drewN ?_ _) | (with_reducible refine Kd.C_drew ?_))); (case side2 => exact (Kd.R_reads' HO279.out).2.1); rintro e w' ⟨rfl, ⟨nd, rfl⟩⟩; refine ⟨_, rfl, ?_⟩) | ((with_reducible refine gate_callee (f := 15) rfl ?_); refine goesL_ (some 174) rfl rfl Try.func15 (by kernel_rfl) rfl #[.int .i64 t266, .int .i64 t266] rfl (by (try simp only [List.map_toArray, List.map_cons, List.map_nil]); first | done | rfl | (simp only [List.length_drop, List.length_take]; rfl)) ?_; (with_reducible refine (impl_NimProduct.calls kj68 t266 t266 t282 true _ A82.out).mono ?_); rintro e w157 ⟨rfl, hb⟩; refine ⟨_, rfl, ?_⟩; have n0_ := Aside0.mk (Kd.R_below (by (with_reducible repeat (first | apply Kd.R_alloc | apply Kd.R_drewN | apply Kd.R_drew)); exact HO272.out) hb); have n1_ := Aside0.mk (Kd.R_below (by (with_reducible repeat (first | apply Kd.R_alloc | apply Kd.R_drewN | apply Kd.R_drew)); exact HO279.out) hb); have n2_ := Aside0.mk (below_step (by repeat (first | (with_reducible first | exact HB.out | apply below_alloc | apply pw_below_drewN | apply below_drew1) | exact HB.out)) hb); clear HO272; clear HO279; clear HB; have HO272 := n0_; have HO279 := n1_; have HB := n2_; clear n0_ n1_ n2_; (try clear hb); (try clear hb2); (try clear hk); (try clear hi)) | ((with_reducible refine gate_callee (f := 18) rfl ?_); refine goesL_ (some 179) rfl rfl Try.func18 (by kernel_rfl) rfl #[.int .i64 t245] rfl (by (try simp only [List.map_toArray, List.map_cons, List.map_nil]); first | done | rfl | (simp only [List.length_drop, List.length_take]; rfl)) ?_; (with_reducible refine (impl_NimHalf.calls t245 t284 t285 _ A83.out).mono ?_); rintro e w158 ⟨rfl, hb⟩; refine ⟨_, rfl, ?_⟩; have n0_ := Aside0.mk (Kd.R_below (by (with_reducible repeat (first | apply Kd.R_alloc | apply Kd.R_drewN | apply Kd.R_drew)); exact HO272.out) hb); have n1_ := Aside0.mk (Kd.R_below (by (with_reducible repeat (first | apply Kd.R_alloc | apply Kd.R_drewN | apply Kd.R_drew)); exact HO279.out) hb); have n2_ := Aside0.mk (below_step (by repeat (first | (with_reducible first | exact HB.out | apply below_alloc | apply pw_below_drewN | apply below_drew1) | exact HB.out)) hb); clear HO272; clear HO279; clear HB; have HO272 := n0_; have HO279 := n1_; have HB := n2_; clear n0_ n1_ n2_; (try clear hb); (try clear hb2); (try clear hk); (try clear hi)) | ((with_reducible refine gate_callee (f := 8) rfl ?_); refine goesL_ (some 184) rfl rfl Try.func8 (by kernel_rfl) rfl #[.int .i64 1, .int .i64 t245] rfl (by (try simp only [List.map_toArray, List.map_cons, List.map_nil]); first | done | rfl | (simp only [List.length_drop, List.length_take]; rfl)) ?_; (with_reducible refine (impl_NimSolve.calls 1 t245 t286 true _ A84.out).mono ?_); rintro e w159 ⟨v288, rfl, ho0, hb⟩; refine ⟨_, rfl, ?_⟩; have n0_ := Aside0.mk (Kd.R_elder' (by (with_reducible repeat (first | apply Kd.R_alloc | apply Kd.R_drewN | apply Kd.R_drew)); exact HO272.out) (Kd.R_base ho0) hb); have n1_ := Aside0.mk (Kd.R_elder' (by (with_reducible repeat (first | apply Kd.R_alloc | apply Kd.R_drewN | apply Kd.R_drew)); exact HO279.out) (Kd.R_base ho0) hb); have n2_ := Aside0.mk (Kd.R_lower (Kd.R_new' (Kd.R_new' ho0 (Kd.R_lt (by (with_reducible repeat (first | apply Kd.R_alloc | apply Kd.R_drewN | apply Kd.R_drew)); exact HO272.out))) (Kd.R_lt (by (with_reducible repeat (first | apply Kd.R_alloc | apply Kd.R_drewN | apply Kd.R_drew)); exact HO279.out))) (below_size (by repeat (first | (with_reducible first | exact HB.out | apply below_alloc | apply pw_below_drewN | apply below_drew1) | exact HB.out)))); have n3_ := Aside0.mk (below_step (by repeat (first | (with_reducible first | exact HB.out | apply below_alloc | apply pw_below_drewN | apply below_drew1) | exact HB.out)) hb); clear HO272; clear HO279; clear HB; have HO272 := n0_; have HO279 := n1_; have HO289 := n2_; have HB := n3_; clear n0_ n1_ n2_ n3_; (try clear hb); (try clear hb2); (try clear hk); (try clear hi); (try clear ho0)))
                                                go_ret
                                                exact ⟨by first | rfl | (simp [errW_none, errW_some] <;> rfl) | (simp [*, errW_none, errW_some] <;> rfl), by repeat (first | (with_reducible first | exact HB.out | apply below_alloc | apply pw_below_drewN | apply below_drew1) | exact HB.out)⟩
                                        · replace c91 := Bool.eq_false_iff.mpr c91
                                          subst c91
                                          have H1 : (some false) = some r := by rw [if_neg (show ¬ (false = true) by decide)] at H; exact H
                                          exact absurd ((Option.some.inj H1).trans hr_.out) (by decide)
                                      · replace c90 := Bool.eq_false_iff.mpr c90
                                        subst c90
                                        have H1 : (some false) = some r := by rw [if_neg (show ¬ (false = true) by decide)] at H; exact H
                                        exact absurd ((Option.some.inj H1).trans hr_.out) (by decide)
                                    · replace c89 := Bool.eq_false_iff.mpr c89
                                      subst c89
                                      have H1 : (some false) = some r := by rw [if_neg (show ¬ (false = true) by decide)] at H; exact H
                                      exact absurd ((Option.some.inj H1).trans hr_.out) (by decide)
                                  · replace c88 := Bool.eq_false_iff.mpr c88
                                    subst c88
                                    have H1 : (some false) = some r := by rw [if_neg (show ¬ (false = true) by decide)] at H; exact H
                                    exact absurd ((Option.some.inj H1).trans hr_.out) (by decide)
                                · replace c87 := Bool.eq_false_iff.mpr c87
                                  subst c87
                                  have H1 : (some false) = some r := by rw [if_neg (show ¬ (false = true) by decide)] at H; exact H
                                  exact absurd ((Option.some.inj H1).trans hr_.out) (by decide)
                              · replace c86 := Bool.eq_false_iff.mpr c86
                                subst c86
                                have H1 : (some false) = some r := by rw [if_neg (show ¬ (false = true) by decide)] at H; exact H
                                exact absurd ((Option.some.inj H1).trans hr_.out) (by decide)
                            · replace c85 := Bool.eq_false_iff.mpr c85
                              subst c85
                              have H1 : (some false) = some r := by rw [if_neg (show ¬ (false = true) by decide)] at H; exact H
                              exact absurd ((Option.some.inj H1).trans hr_.out) (by decide)
            · replace c17 := Bool.eq_false_iff.mpr c17
              subst c17
              have H1 : (some true) = some r := by rw [if_neg (show ¬ (false = true) by decide)] at H; exact H
              clear H
              have H := H1
              clear H1
              as_aux_lemma =>
                try exact absurd ((Option.some.inj H).trans hr_.out) (by decide)
                all_goals
                  obtain rfl := Option.some.inj H
                  go_wp2
                  go_ret
                  exact ⟨by first | rfl | (simp [errW_none, errW_some] <;> rfl) | (simp [*, errW_none, errW_some] <;> rfl), by repeat (first | (with_reducible first | exact HB.out | apply below_alloc | apply pw_below_drewN | apply below_drew1) | exact HB.out)⟩


/-- THE ONE PURE STATEMENT of laws_FnNimRoots: yours. -/
def laws_FnNimRoots.Pure : Prop := ∀ (l0 : List Int) (l1 : List Int), l0.length ≤ maxLen → l0.length * 1 ≤ 140737488351232 → (∀ x ∈ l0, (Lit.int .u8 x).wf = true) → l1.length ≤ maxLen → l1.length * 1 ≤ 140737488351232 → (∀ x ∈ l1, (Lit.int .u8 x).wf = true) → ∃ k, laws_FnNimRoots.f k l0 l1 = some true
theorem laws_FnNimRoots.walk (P : laws_FnNimRoots.Pure) (a0 : Option Addr) (len0 cap0 : Nat) (z0 : List Int) (a1 : Option Addr) (len1 cap1 : Nat) (z1 : List Int) (w : World) (w0 : (a0 = none ∧ len0 = 0 ∧ cap0 = 0 ∧ z0 = []) ∨ ∃ x, a0 = some x ∧ len0 ≤ cap0 ∧ cap0 ≤ maxLen ∧ z0.length = cap0 ∧ (∀ i, i < z0.length → w.cell? (x.add i) = some (.int .u8 (z0.getD i 0))) ∧ ∀ n ∈ z0, (Lit.int .u8 n).wf = true) (y0 : len0 * 1 ≤ 140737488351232) (w1 : (a1 = none ∧ len1 = 0 ∧ cap1 = 0 ∧ z1 = []) ∨ ∃ x, a1 = some x ∧ len1 ≤ cap1 ∧ cap1 ≤ maxLen ∧ z1.length = cap1 ∧ (∀ i, i < z1.length → w.cell? (x.add i) = some (.int .u8 (z1.getD i 0))) ∧ ∀ n ∈ z1, (Lit.int .u8 n).wf = true) (y1 : len1 * 1 ≤ 140737488351232) :
    Calls Try.prog 4 #[.slice a0 len0 cap0, .slice a1 len1 cap1] w fun e w' => e = .returned (.bool true) ∧ Below w.heap.size w w' := by
  obtain ⟨l0, rfl, hr0, hm0, hw0, hc0⟩ := ReadsInt.ofRowC w0
  obtain ⟨l1, rfl, hr1, hm1, hw1, hc1⟩ := ReadsInt.ofRowC w1
  obtain ⟨k, h⟩ := P l0 l1 hm0 y0 hw0 hm1 y1 hw1
  refine (laws_FnNimRoots.calls k _ _ l0 _ _ l1 true ⟨rfl⟩ w (Kd.C_of_reads (d := (0 : Int)) (h1 := fun _ => rfl) hr0) hc0 (Kd.C_of_reads (d := (0 : Int)) (h1 := fun _ => rfl) hr1) hc1 h).mono ?_
  rintro e w' ⟨rfl, hd⟩
  exact ⟨rfl, hd⟩

end Go.Proofs.Ytoeddjbhippdlaa.QFnNimRoots
