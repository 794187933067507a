/- The Go functions that the law FnExactSumOfPictures reaches, as Lean functions, and what their calls do. Written by a program of this session. -/
import Derived.Test.YtnabbkaipfhmdaaQFnExactSumOfPicturesx0
import Derived.Test.YtnabbkaipfhmdaaQFnExactSumOfPicturesx1
import Derived.Test.YtnabbkaipfhmdaaQFnExactSumOfPicturesx2
import Derived.Test.YtnabbkaipfhmdaaQFnExactSumOfPicturesx4
import Derived.Test.YtnabbkaipfhmdaaQFnExactSumOfPicturesx7
namespace Go.Proofs.Ytnabbkaipfhmdaa.QFnExactSumOfPictures
open Go.RowKit Go.Proofs.YtnabbkaipfhmdaaW.PrintWords Go.Proofs.YtnabbkaipfhmdaaW.PrintLast Go.Proofs.YtnabbkaipfhmdaaW.PrintMore
attribute [local go_sem] max2_int min2_int max_two min_two max_three min_three max_four min_four   -- for this text's walks alone
set_option linter.unusedVariables false
set_option linter.unusedSimpArgs false

/-! ### laws_FnExactSumOfPictures: function 4 -/
mutual
def laws_FnExactSumOfPictures.j0 : Nat → Bool → Bool → Bool → List (S57) → List (S57) → List (S47) → List (S47) → List (S47) → List (S47) → Option (Bool)
  | 0, _, _, _, _, _, _, _, _, _ => none
  | k + 1, x7, x11, x53, x247000, x248000, x261000, x265000, x269000, x274000 => if x53 = true then (some false) else ((laws_toPicture.f k x247000).bind fun t275 => ((laws_eqPicture.f k x265000 t275).bind fun t278 => (if t278 = true then ((laws_toPicture.f k x248000).bind fun t279 => ((laws_eqPicture.f k x269000 t279).bind fun t282 => (if t282 = true then ((laws_markPicture.f k x265000 1).bind fun bt283 => ((laws_markPicture.f k x269000 bt283.1).bind fun bt285 => (if bt285.1 < 0 then (laws_FnExactSumOfPictures.j1 k x7 true x247000 x248000 x261000 x274000) else ((laws_eqPicture.f k x274000 x261000).bind fun t287 => (if t287 = true then (laws_FnExactSumOfPictures.j1 k x7 (x11 != x7) x247000 x248000 x261000 x274000) else (laws_FnExactSumOfPictures.j1 k x7 true x247000 x248000 x261000 x274000)))))) else (some false)))) else (some false))))
def laws_FnExactSumOfPictures.j1 : Nat → Bool → Bool → List (S57) → List (S57) → List (S47) → List (S47) → Option (Bool)
  | 0, _, _, _, _, _, _ => none
  | k + 1, x7, x82, x247000, x248000, x261000, x274000 => if x82 = true then (some false) else ((laws_markPicture.f k x274000 1).bind fun bt288 => ((laws_heldPicture.f k bt288.2 1).bind fun t290 => (if t290 < 0 then (some false) else (if t290 = bt288.1 then ((laws_toPicture.f k x247000).bind fun t291 => ((laws_toPicture.f k x248000).bind fun t294 => ((impl_SumOfPictures.f k t291 t294).bind fun bt297 => ((laws_eqPicture.f k bt297.1 x261000).bind fun t302 => (if t302 = true then (laws_FnExactSumOfPictures.j2 k bt288.1 (bt297.2 != x7) bt288.2) else (laws_FnExactSumOfPictures.j2 k bt288.1 true bt288.2)))))) else (some false)))))
def laws_FnExactSumOfPictures.j2 : Nat → Int → Bool → List (S47) → Option (Bool)
  | 0, _, _, _ => none
  | k + 1, x13, x110, x274000 => if x110 = true then (some false) else ((laws_heldPicture.f k x274000 1).bind fun t303 => (if t303 < 0 then (some false) else (if t303 = x13 then (some true) else (some false))))
end
def laws_FnExactSumOfPictures.f (k : Nat) (l0_0 : List (S57)) (l1_0 : List (S57)) : Option (Bool) := (laws_szPicture.f l0_0 1048576).bind fun t248 => (if t248 < 0 then (some true) else ((laws_szPicture.f l1_0 t248).bind fun t249 => (if t249 < 0 then (some true) else ((laws_toPicture.f k l0_0).bind fun t250 => ((laws_toPicture.f k l1_0).bind fun t253 => ((spec_SumOfPictures.f k t250 t253).bind fun bt256 => ((laws_toPicture.f k l0_0).bind fun t261 => ((laws_toPicture.f k l1_0).bind fun t265 => ((impl_SumOfPictures.f k t261 t265).bind fun bt269 => ((laws_eqPicture.f k bt269.1 bt256.1).bind fun t274 => (if t274 = true then (laws_FnExactSumOfPictures.j0 k bt256.2 bt269.2 (bt269.2 != bt256.2) l0_0 l1_0 bt256.1 t261 t265 bt269.1) else (laws_FnExactSumOfPictures.j0 k bt256.2 bt269.2 true l0_0 l1_0 bt256.1 t261 t265 bt269.1))))))))))))
theorem laws_FnExactSumOfPictures.mono_l : ∀ k, (∀ y0 y1 y2 y3 y4 y5 y6 y7 y8, LeO (laws_FnExactSumOfPictures.j0 k y0 y1 y2 y3 y4 y5 y6 y7 y8) (laws_FnExactSumOfPictures.j0 (k + 1) y0 y1 y2 y3 y4 y5 y6 y7 y8)) ∧ (∀ y0 y1 y2 y3 y4 y5, LeO (laws_FnExactSumOfPictures.j1 k y0 y1 y2 y3 y4 y5) (laws_FnExactSumOfPictures.j1 (k + 1) y0 y1 y2 y3 y4 y5)) ∧ (∀ y0 y1 y2, LeO (laws_FnExactSumOfPictures.j2 k y0 y1 y2) (laws_FnExactSumOfPictures.j2 (k + 1) y0 y1 y2))
  | 0 => ⟨fun _ _ _ _ _ _ _ _ _ r h => by simp [laws_FnExactSumOfPictures.j0] at h, fun _ _ _ _ _ _ r h => by simp [laws_FnExactSumOfPictures.j1] at h, fun _ _ _ r h => by simp [laws_FnExactSumOfPictures.j2] at h⟩
  | k + 1 => by
    obtain ⟨ih0, ih1, ih2⟩ := laws_FnExactSumOfPictures.mono_l k
    refine ⟨?_, ?_, ?_⟩
    · intro y0 y1 y2 y3 y4 y5 y6 y7 y8
      unfold laws_FnExactSumOfPictures.j0
      repeat' first
      | (with_reducible exact ih0 _ _ _ _ _ _ _ _ _)
      | (with_reducible exact ih1 _ _ _ _ _ _)
      | (with_reducible exact ih2 _ _ _)
      | (with_reducible exact impl_SumOfPictures.mono _ _ _)
      | (with_reducible exact laws_eqPicture.mono _ _ _)
      | (with_reducible exact laws_heldPicture.mono _ _ _)
      | (with_reducible exact laws_markPicture.mono _ _ _)
      | (with_reducible exact laws_toPicture.mono _ _)
      | (with_reducible exact spec_SumOfPictures.mono _ _ _)
      | (with_reducible exact LeO.refl _)
      | (with_reducible exact LeO.none _)
      | (with_reducible refine LeO.ite ?_ ?_)
      | (with_reducible refine LeO.bind ?_ (fun _ => ?_))
      | exact ih0 _ _ _ _ _ _ _ _ _
      | exact ih1 _ _ _ _ _ _
      | exact ih2 _ _ _
      | exact impl_SumOfPictures.mono _ _ _
      | exact laws_eqPicture.mono _ _ _
      | exact laws_heldPicture.mono _ _ _
      | exact laws_markPicture.mono _ _ _
      | exact laws_toPicture.mono _ _
      | exact spec_SumOfPictures.mono _ _ _
      | exact LeO.none _
      | refine LeO.ite ?_ ?_
      | refine LeO.bind ?_ (fun _ => ?_)
    · intro y0 y1 y2 y3 y4 y5
      unfold laws_FnExactSumOfPictures.j1
      repeat' first
      | (with_reducible exact ih0 _ _ _ _ _ _ _ _ _)
      | (with_reducible exact ih1 _ _ _ _ _ _)
      | (with_reducible exact ih2 _ _ _)
      | (with_reducible exact impl_SumOfPictures.mono _ _ _)
      | (with_reducible exact laws_eqPicture.mono _ _ _)
      | (with_reducible exact laws_heldPicture.mono _ _ _)
      | (with_reducible exact laws_markPicture.mono _ _ _)
      | (with_reducible exact laws_toPicture.mono _ _)
      | (with_reducible exact spec_SumOfPictures.mono _ _ _)
      | (with_reducible exact LeO.refl _)
      | (with_reducible exact LeO.none _)
      | (with_reducible refine LeO.ite ?_ ?_)
      | (with_reducible refine LeO.bind ?_ (fun _ => ?_))
      | exact ih0 _ _ _ _ _ _ _ _ _
      | exact ih1 _ _ _ _ _ _
      | exact ih2 _ _ _
      | exact impl_SumOfPictures.mono _ _ _
      | exact laws_eqPicture.mono _ _ _
      | exact laws_heldPicture.mono _ _ _
      | exact laws_markPicture.mono _ _ _
      | exact laws_toPicture.mono _ _
      | exact spec_SumOfPictures.mono _ _ _
      | exact LeO.none _
      | refine LeO.ite ?_ ?_
      | refine LeO.bind ?_ (fun _ => ?_)
    · intro y0 y1 y2
      unfold laws_FnExactSumOfPictures.j2
      repeat' first
      | (with_reducible exact ih0 _ _ _ _ _ _ _ _ _)
      | (with_reducible exact ih1 _ _ _ _ _ _)
      | (with_reducible exact ih2 _ _ _)
      | (with_reducible exact impl_SumOfPictures.mono _ _ _)
      | (with_reducible exact laws_eqPicture.mono _ _ _)
      | (with_reducible exact laws_heldPicture.mono _ _ _)
      | (with_reducible exact laws_markPicture.mono _ _ _)
      | (with_reducible exact laws_toPicture.mono _ _)
      | (with_reducible exact spec_SumOfPictures.mono _ _ _)
      | (with_reducible exact LeO.refl _)
      | (with_reducible exact LeO.none _)
      | (with_reducible refine LeO.ite ?_ ?_)
      | (with_reducible refine LeO.bind ?_ (fun _ => ?_))
      | exact ih0 _ _ _ _ _ _ _ _ _
      | exact ih1 _ _ _ _ _ _
      | exact ih2 _ _ _
      | exact impl_SumOfPictures.mono _ _ _
      | exact laws_eqPicture.mono _ _ _
      | exact laws_heldPicture.mono _ _ _
      | exact laws_markPicture.mono _ _ _
      | exact laws_toPicture.mono _ _
      | exact spec_SumOfPictures.mono _ _ _
      | exact LeO.none _
      | refine LeO.ite ?_ ?_
      | refine LeO.bind ?_ (fun _ => ?_)
theorem laws_FnExactSumOfPictures.mono : ∀ a0 a1 k, LeO (laws_FnExactSumOfPictures.f k a0 a1) (laws_FnExactSumOfPictures.f (k + 1) a0 a1) := by
  intro a0 a1 k
  obtain ⟨ih0, ih1, ih2⟩ := laws_FnExactSumOfPictures.mono_l k
  unfold laws_FnExactSumOfPictures.f
  repeat' first
      | (with_reducible exact ih0 _ _ _ _ _ _ _ _ _)
      | (with_reducible exact ih1 _ _ _ _ _ _)
      | (with_reducible exact ih2 _ _ _)
      | (with_reducible exact impl_SumOfPictures.mono _ _ _)
      | (with_reducible exact laws_eqPicture.mono _ _ _)
      | (with_reducible exact laws_heldPicture.mono _ _ _)
      | (with_reducible exact laws_markPicture.mono _ _ _)
      | (with_reducible exact laws_toPicture.mono _ _)
      | (with_reducible exact spec_SumOfPictures.mono _ _ _)
      | (with_reducible exact LeO.refl _)
      | (with_reducible exact LeO.none _)
      | (with_reducible refine LeO.ite ?_ ?_)
      | (with_reducible refine LeO.bind ?_ (fun _ => ?_))
      | exact ih0 _ _ _ _ _ _ _ _ _
      | exact ih1 _ _ _ _ _ _
      | exact ih2 _ _ _
      | exact impl_SumOfPictures.mono _ _ _
      | exact laws_eqPicture.mono _ _ _
      | exact laws_heldPicture.mono _ _ _
      | exact laws_markPicture.mono _ _ _
      | exact laws_toPicture.mono _ _
      | exact spec_SumOfPictures.mono _ _ _
      | exact LeO.none _
      | refine LeO.ite ?_ ?_
      | refine LeO.bind ?_ (fun _ => ?_)
def laws_FnExactSumOfPictures.T8 : Bool × List (List Nat × List Nat) := (true, [([], []), ([0], [0]), ([], []), ([2, 1], [2]), ([1, 3, 3], [1, 3]), ([4], [4]), ([5], [5]), ([5], [5]), ([], []), ([8, 6, 4, 0, 1, 2, 3, 4, 5, 6, 8], [6, 8]), ([7, 9, 0, 1, 2, 3, 4, 5, 6, 7, 8, 9], [7])])
def laws_FnExactSumOfPictures.B8 : List Nat := [0, 1, 0, 7, 15, 31, 63, 63, 0, 383, 1023]
theorem laws_FnExactSumOfPictures.tab8 : rtab .any (opsOf Try.f4 8) = laws_FnExactSumOfPictures.T8 := by kernel_rfl
theorem laws_FnExactSumOfPictures.bits8 : waitsOk laws_FnExactSumOfPictures.T8.2 laws_FnExactSumOfPictures.B8 = true := by kernel_rfl
def laws_FnExactSumOfPictures.T31 : Bool × List (List Nat × List Nat) := (true, [([], []), ([0], [0]), ([], []), ([2, 1], [2]), ([1, 3, 3], [1, 3]), ([4], [4]), ([5], [5]), ([5], [5]), ([], []), ([8, 6, 4, 0, 1, 2, 3, 4, 5, 6, 8], [6, 8]), ([7, 9, 0, 1, 2, 3, 4, 5, 6, 7, 8, 9], [7])])
def laws_FnExactSumOfPictures.B31 : List Nat := [0, 1, 0, 7, 15, 31, 63, 63, 0, 383, 1023]
theorem laws_FnExactSumOfPictures.tab31 : rtab .any (opsOf Try.f4 31) = laws_FnExactSumOfPictures.T31 := by kernel_rfl
theorem laws_FnExactSumOfPictures.bits31 : waitsOk laws_FnExactSumOfPictures.T31.2 laws_FnExactSumOfPictures.B31 = true := by kernel_rfl
theorem bA {w W w1 : World} {g : Nat} {o : Obj} (h : Aside0 (w.heap[g]? = some o)) (hb : Below W.heap.size W w1) (e : w.heap[g]? = some o → W.heap[g]? = some o := by first | exact id | exact fun h => blk_alloc h _) : Aside0 (w1.heap[g]? = some o) := ⟨blk_below (e h.out) hb⟩
theorem lA {w W : World} {g g' : Nat} {o : Obj} (h : Aside0 (w.heap[g]? = some o)) (hg : g' = W.heap.size) (e : w.heap[g]? = some o → W.heap[g]? = some o := by first | exact id | exact fun h => blk_alloc h _) : Aside0 (g ≠ g') := ⟨by rw [hg]; exact Nat.ne_of_lt (blk_lt (e h.out))⟩
theorem gA {w W : World} {g g' : Nat} {o : Obj} (h : Aside0 (w.heap[g]? = some o)) (hg : g' = W.heap.size) (e : w.heap[g]? = some o → W.heap[g]? = some o := by first | exact id | exact fun h => blk_alloc h _) : Aside0 (g' ≠ g) := ⟨by rw [hg]; exact Nat.ne_of_gt (blk_lt (e h.out))⟩
theorem rA {α : Type} {d : Kd α} {e : Nat} {w W w1 : World} {base : Nat} {ok : Nat → Prop} {v : Value} {xs : List α} (h : Aside0 (d.R e w base ok v xs)) (hb : Below W.heap.size W w1) (f : d.R e w base ok v xs → d.R e W base ok v xs := by first | exact id | (intro h; (with_reducible repeat (first | apply Kd.R_alloc | apply Kd.R_drewN | apply Kd.R_drew)); exact h)) : Aside0 (d.R e w1 base ok v xs) := ⟨Kd.R_below (f h.out) hb⟩
theorem rT {α : Type} {d : Kd α} {e : Nat} {w W : World} {base : Nat} {ok : Nat → Prop} {v : Value} {xs : List α} (h : Aside0 (d.R e w base ok v xs)) (f : d.R e w base ok v xs → d.R e W base ok v xs := by first | exact id | (intro h; (with_reducible repeat (first | apply Kd.R_alloc | apply Kd.R_drewN | apply Kd.R_drew)); exact h)) : d.R e W base ok v xs := f h.out
theorem cT {α : Type} {d : Kd α} {w W : World} {A : Option Addr} {n : Nat} {xs : List α} (h : d.C w A n xs) (f : d.C w A n xs → d.C W A n xs := by first | exact id | (intro h; repeat (first | exact h | (with_reducible refine Kd.C_alloc ?_ _) | (with_reducible refine Kd.C_drewN ?_ _) | (with_reducible refine Kd.C_drew ?_)))) : d.C W A n xs := f h
theorem sT {w W V : World} (h : Aside0 (Below w.heap.size w W)) (e : Below w.heap.size w W → Below w.heap.size w V := by first | exact id | (intro h; repeat (first | (with_reducible first | exact h | apply below_alloc | apply pw_below_drewN | apply below_drew1 | refine below_set ?_ (Aside0.out (by assumption))) | exact h))) : Below w.heap.size w V := e h.out
theorem sB {w W V w1 : World} (h : Aside0 (Below w.heap.size w W)) (hb : Below V.heap.size V w1) (e : Below w.heap.size w W → Below w.heap.size w V := by first | exact id | (intro h; repeat (first | (with_reducible first | exact h | apply below_alloc | apply pw_below_drewN | apply below_drew1 | refine below_set ?_ (Aside0.out (by assumption))) | exact h))) : Aside0 (Below w.heap.size w w1) := ⟨below_step (e h.out) hb⟩
theorem zB {w W V : World} {g : Nat} (h : Aside0 (Below w.heap.size w W)) (hg : g = V.heap.size) (e : Below w.heap.size w W → Below w.heap.size w V := by first | exact id | (intro h; repeat (first | (with_reducible first | exact h | apply below_alloc | apply pw_below_drewN | apply below_drew1 | refine below_set ?_ (Aside0.out (by assumption))) | exact h))) : Aside0 (w.heap.size ≤ g) := ⟨by rw [hg]; exact below_size (e h.out)⟩
set_option maxHeartbeats 8000000 in
set_option maxRecDepth 100000 in
theorem laws_FnExactSumOfPictures.calls (k : Nat) (A0_0 : Option Addr) (c0_0 : Nat) (l0_0 : List (S57)) (A1_0 : Option Addr) (c1_0 : Nat) (l1_0 : List (S57)) (r : Bool) (hr_ : Aside0 (r = true)) (w : World) (hr0_0 : Kd.C k57 w A0_0 l0_0.length l0_0) (hc0_0 : l0_0.length ≤ c0_0) (hr1_0 : Kd.C k57 w A1_0 l1_0.length l1_0) (hc1_0 : l1_0.length ≤ c1_0) (h : laws_FnExactSumOfPictures.f k l0_0 l1_0 = some r) :
  Calls Try.prog 4 #[.agg #[.slice A0_0 l0_0.length c0_0], .agg #[.slice A1_0 l1_0.length c1_0]] w fun e w' => e = .returned (.bool r) ∧ Below w.heap.size w w' := by
 have hu24 := Try.underlying24
 have hu28 := Try.underlying28
 have HR0_0 := Aside0.mk hr0_0
 have HC0_0 := Aside0.mk hc0_0
 clear hr0_0 hc0_0
 have HR1_0 := Aside0.mk hr1_0
 have HC1_0 := Aside0.mk hc1_0
 clear hr1_0 hc1_0
 have HB := Aside0.mk (Below.refl w.heap.size w)
 have H : ((laws_szPicture.f l0_0 1048576).bind fun t248 => (if t248 < 0 then (some true) else ((laws_szPicture.f l1_0 t248).bind fun t249 => (if t249 < 0 then (some true) else ((laws_toPicture.f k l0_0).bind fun t250 => ((laws_toPicture.f k l1_0).bind fun t253 => ((spec_SumOfPictures.f k t250 t253).bind fun bt256 => ((laws_toPicture.f k l0_0).bind fun t261 => ((laws_toPicture.f k l1_0).bind fun t265 => ((impl_SumOfPictures.f k t261 t265).bind fun bt269 => ((laws_eqPicture.f k bt269.1 bt256.1).bind fun t274 => (if t274 = true then (laws_FnExactSumOfPictures.j0 k bt256.2 bt269.2 (bt269.2 != bt256.2) l0_0 l1_0 bt256.1 t261 t265 bt269.1) else (laws_FnExactSumOfPictures.j0 k bt256.2 bt269.2 true l0_0 l1_0 bt256.1 t261 t265 bt269.1))))))))))))) = some r := h
 clear h
 replace H := Option.bind_eq_some_iff.mp H
 obtain ⟨t248, A30, H⟩ := H
 replace H : (if t248 < 0 then (some true) else ((laws_szPicture.f l1_0 t248).bind fun t249 => (if t249 < 0 then (some true) else ((laws_toPicture.f k l0_0).bind fun t250 => ((laws_toPicture.f k l1_0).bind fun t253 => ((spec_SumOfPictures.f k t250 t253).bind fun bt256 => ((laws_toPicture.f k l0_0).bind fun t261 => ((laws_toPicture.f k l1_0).bind fun t265 => ((impl_SumOfPictures.f k t261 t265).bind fun bt269 => ((laws_eqPicture.f k bt269.1 bt256.1).bind fun t274 => (if t274 = true then (laws_FnExactSumOfPictures.j0 k bt256.2 bt269.2 (bt269.2 != bt256.2) l0_0 l1_0 bt256.1 t261 t265 bt269.1) else (laws_FnExactSumOfPictures.j0 k bt256.2 bt269.2 true l0_0 l1_0 bt256.1 t261 t265 bt269.1)))))))))))) = some r := H
 have A3 := Aside0.mk A30
 clear A30
 by_cases c4 : t248 < 0
 ·rw [if_pos c4] at H
  have c4b0 : decide (t248 < 0) = true := decide_eq_true c4
  clear c4
  try exact absurd ((Option.some.inj H).trans hr_.out) (by decide)
  all_goals
   obtain rfl := Option.some.inj H
   go_enter Try.func4, Try.ntmps4
   go_wp2_with (first | ((with_reducible refine gate_dst (N := 2) rfl ?_); refine box_event ?hg (N := 2) ?hd (cs := #[.slice A0_0 l0_0.length c0_0]) (t := 24) ?hr ?_; (case hd => rfl); (case hg => rfl); (case hr => first | (go_simp; done) | (go_simp; rfl)); intro gb246 hg w5 hbox hb; have BK246 := Aside0.mk (hbox); have GW246 := zB HB hg; have GE246 := zB HB hg; replace HB := sB HB hb; clear hb hbox hg) | ((with_reducible refine gate_dst (N := 3) rfl ?_); refine box_event ?hg (N := 3) ?hd (cs := #[.slice A1_0 l1_0.length c1_0]) (t := 24) ?hr ?_; (case hd => rfl); (case hg => rfl); (case hr => first | (go_simp; done) | (go_simp; rfl)); intro gb247 hg w6 hbox hb; have BK247 := Aside0.mk (hbox); have GW247 := zB HB hg; have GE247 := zB HB hg; replace HB := sB HB hb; have NB246_247 := lA BK246 hg; have NB247_246 := gA BK246 hg; replace BK246 := bA BK246 hb; clear hb hbox hg; have hnb7 := NB246_247.out; have hnc7 := NB247_246.out; have hcz8_0 : w6.cell? ⟨gb246, 0, none⟩ = some (.slice A0_0 l0_0.length c0_0) := (blk_cell BK246.out 0).trans rfl; have hfz8_0 := blk_frozen BK246.out 0) | ((with_reducible refine gate_callee (f := 5) rfl ?_); refine goesL_ (some 19) rfl rfl Try.func5 (by kernel_rfl) rfl #[.agg #[.slice A0_0 l0_0.length c0_0], .int .i64 1048576] rfl (by (try simp only [List.map_toArray, List.map_cons, List.map_nil]); first | done | rfl) ?_; (with_reducible refine (laws_szPicture.calls _ _ l0_0 1048576 t248 _ ?side1 ?side2 A3.out).mono ?_); (case side1 => exact cT (Kd.C_below HR0_0.out HB.out)); (case side2 => exact HC0_0.out); rintro e w9 ⟨rfl, hb⟩; refine ⟨_, rfl, ?_⟩; replace BK246 := bA BK246 hb; replace BK247 := bA BK247 hb; replace HB := sB HB hb; (try clear hb); (try clear hb2); (try clear hk); (try clear hi)))
   go_ret
   exact ⟨by first | rfl | (simp [errW_none, errW_some] <;> rfl) | (simp [*, errW_none, errW_some] <;> rfl), by repeat (first | (with_reducible first | exact HB.out | apply below_alloc | apply pw_below_drewN | apply below_drew1 | refine below_set ?_ GE246.out | refine below_set ?_ GE247.out) | exact HB.out)⟩
 ·rw [if_neg c4] at H
  have c4b0 : decide (t248 < 0) = false := decide_eq_false c4
  clear c4
  replace H := Option.bind_eq_some_iff.mp H
  obtain ⟨t249, A100, H⟩ := H
  replace H : (if t249 < 0 then (some true) else ((laws_toPicture.f k l0_0).bind fun t250 => ((laws_toPicture.f k l1_0).bind fun t253 => ((spec_SumOfPictures.f k t250 t253).bind fun bt256 => ((laws_toPicture.f k l0_0).bind fun t261 => ((laws_toPicture.f k l1_0).bind fun t265 => ((impl_SumOfPictures.f k t261 t265).bind fun bt269 => ((laws_eqPicture.f k bt269.1 bt256.1).bind fun t274 => (if t274 = true then (laws_FnExactSumOfPictures.j0 k bt256.2 bt269.2 (bt269.2 != bt256.2) l0_0 l1_0 bt256.1 t261 t265 bt269.1) else (laws_FnExactSumOfPictures.j0 k bt256.2 bt269.2 true l0_0 l1_0 bt256.1 t261 t265 bt269.1)))))))))) = some r := H
  have A10 := Aside0.mk A100
  clear A100
  by_cases c11 : t249 < 0
  ·rw [if_pos c11] at H
   have c11b0 : decide (t249 < 0) = true := decide_eq_true c11
   clear c11
   try exact absurd ((Option.some.inj H).trans hr_.out) (by decide)
   all_goals
    obtain rfl := Option.some.inj H
    go_enter Try.func4, Try.ntmps4
    go_wp2_with (first | ((with_reducible refine gate_dst (N := 2) rfl ?_); refine box_event ?hg (N := 2) ?hd (cs := #[.slice A0_0 l0_0.length c0_0]) (t := 24) ?hr ?_; (case hd => rfl); (case hg => rfl); (case hr => first | (go_simp; done) | (go_simp; rfl)); intro gb246 hg w12 hbox hb; have BK246 := Aside0.mk (hbox); have GW246 := zB HB hg; have GE246 := zB HB hg; replace HB := sB HB hb; clear hb hbox hg) | ((with_reducible refine gate_dst (N := 3) rfl ?_); refine box_event ?hg (N := 3) ?hd (cs := #[.slice A1_0 l1_0.length c1_0]) (t := 24) ?hr ?_; (case hd => rfl); (case hg => rfl); (case hr => first | (go_simp; done) | (go_simp; rfl)); intro gb247 hg w13 hbox hb; have BK247 := Aside0.mk (hbox); have GW247 := zB HB hg; have GE247 := zB HB hg; replace HB := sB HB hb; have NB246_247 := lA BK246 hg; have NB247_246 := gA BK246 hg; replace BK246 := bA BK246 hb; clear hb hbox hg; have hnb14 := NB246_247.out; have hnc14 := NB247_246.out; have hcz15_0 : w13.cell? ⟨gb246, 0, none⟩ = some (.slice A0_0 l0_0.length c0_0) := (blk_cell BK246.out 0).trans rfl; have hfz15_0 := blk_frozen BK246.out 0) | ((with_reducible refine gate_callee (f := 5) rfl ?_); refine goesL_ (some 19) rfl rfl Try.func5 (by kernel_rfl) rfl #[.agg #[.slice A0_0 l0_0.length c0_0], .int .i64 1048576] rfl (by (try simp only [List.map_toArray, List.map_cons, List.map_nil]); first | done | rfl) ?_; (with_reducible refine (laws_szPicture.calls _ _ l0_0 1048576 t248 _ ?side1 ?side2 A3.out).mono ?_); (case side1 => exact cT (Kd.C_below HR0_0.out HB.out)); (case side2 => exact HC0_0.out); rintro e w16 ⟨rfl, hb⟩; refine ⟨_, rfl, ?_⟩; replace BK246 := bA BK246 hb; replace BK247 := bA BK247 hb; replace HB := sB HB hb; (try clear hb); (try clear hb2); (try clear hk); (try clear hi); have hcz17_0 : w16.cell? ⟨gb247, 0, none⟩ = some (.slice A1_0 l1_0.length c1_0) := (blk_cell BK247.out 0).trans rfl; have hfz17_0 := blk_frozen BK247.out 0) | ((with_reducible refine gate_callee (f := 5) rfl ?_); refine goesL_ (some 24) rfl rfl Try.func5 (by kernel_rfl) rfl #[.agg #[.slice A1_0 l1_0.length c1_0], .int .i64 t248] rfl (by (try simp only [List.map_toArray, List.map_cons, List.map_nil]); first | done | rfl) ?_; (with_reducible refine (laws_szPicture.calls _ _ l1_0 t248 t249 _ ?side1 ?side2 A10.out).mono ?_); (case side1 => exact cT (Kd.C_below HR1_0.out HB.out)); (case side2 => exact HC1_0.out); rintro e w18 ⟨rfl, hb⟩; refine ⟨_, rfl, ?_⟩; replace BK246 := bA BK246 hb; replace BK247 := bA BK247 hb; replace HB := sB HB hb; (try clear hb); (try clear hb2); (try clear hk); (try clear hi)))
    go_ret
    exact ⟨by first | rfl | (simp [errW_none, errW_some] <;> rfl) | (simp [*, errW_none, errW_some] <;> rfl), by repeat (first | (with_reducible first | exact HB.out | apply below_alloc | apply pw_below_drewN | apply below_drew1 | refine below_set ?_ GE246.out | refine below_set ?_ GE247.out) | exact HB.out)⟩
  ·rw [if_neg c11] at H
   have c11b0 : decide (t249 < 0) = false := decide_eq_false c11
   clear c11
   replace H := Option.bind_eq_some_iff.mp H
   obtain ⟨t250, A190, H⟩ := H
   replace H : ((laws_toPicture.f k l1_0).bind fun t253 => ((spec_SumOfPictures.f k t250 t253).bind fun bt256 => ((laws_toPicture.f k l0_0).bind fun t261 => ((laws_toPicture.f k l1_0).bind fun t265 => ((impl_SumOfPictures.f k t261 t265).bind fun bt269 => ((laws_eqPicture.f k bt269.1 bt256.1).bind fun t274 => (if t274 = true then (laws_FnExactSumOfPictures.j0 k bt256.2 bt269.2 (bt269.2 != bt256.2) l0_0 l1_0 bt256.1 t261 t265 bt269.1) else (laws_FnExactSumOfPictures.j0 k bt256.2 bt269.2 true l0_0 l1_0 bt256.1 t261 t265 bt269.1)))))))) = some r := H
   have A19 := Aside0.mk A190
   clear A190
   replace H := Option.bind_eq_some_iff.mp H
   obtain ⟨t253, A200, H⟩ := H
   replace H : ((spec_SumOfPictures.f k t250 t253).bind fun bt256 => ((laws_toPicture.f k l0_0).bind fun t261 => ((laws_toPicture.f k l1_0).bind fun t265 => ((impl_SumOfPictures.f k t261 t265).bind fun bt269 => ((laws_eqPicture.f k bt269.1 bt256.1).bind fun t274 => (if t274 = true then (laws_FnExactSumOfPictures.j0 k bt256.2 bt269.2 (bt269.2 != bt256.2) l0_0 l1_0 bt256.1 t261 t265 bt269.1) else (laws_FnExactSumOfPictures.j0 k bt256.2 bt269.2 true l0_0 l1_0 bt256.1 t261 t265 bt269.1))))))) = some r := H
   have A20 := Aside0.mk A200
   clear A200
   replace H := Option.bind_eq_some_iff.mp H
   obtain ⟨⟨t256, t259⟩, A210, H⟩ := H
   replace H : ((laws_toPicture.f k l0_0).bind fun t261 => ((laws_toPicture.f k l1_0).bind fun t265 => ((impl_SumOfPictures.f k t261 t265).bind fun bt269 => ((laws_eqPicture.f k bt269.1 t256).bind fun t274 => (if t274 = true then (laws_FnExactSumOfPictures.j0 k t259 bt269.2 (bt269.2 != t259) l0_0 l1_0 t256 t261 t265 bt269.1) else (laws_FnExactSumOfPictures.j0 k t259 bt269.2 true l0_0 l1_0 t256 t261 t265 bt269.1)))))) = some r := H
   have A21 := Aside0.mk A210
   clear A210
   replace H := Option.bind_eq_some_iff.mp H
   obtain ⟨t261, A220, H⟩ := H
   replace H : ((laws_toPicture.f k l1_0).bind fun t265 => ((impl_SumOfPictures.f k t261 t265).bind fun bt269 => ((laws_eqPicture.f k bt269.1 t256).bind fun t274 => (if t274 = true then (laws_FnExactSumOfPictures.j0 k t259 bt269.2 (bt269.2 != t259) l0_0 l1_0 t256 t261 t265 bt269.1) else (laws_FnExactSumOfPictures.j0 k t259 bt269.2 true l0_0 l1_0 t256 t261 t265 bt269.1))))) = some r := H
   have A22 := Aside0.mk A220
   clear A220
   replace H := Option.bind_eq_some_iff.mp H
   obtain ⟨t265, A230, H⟩ := H
   replace H : ((impl_SumOfPictures.f k t261 t265).bind fun bt269 => ((laws_eqPicture.f k bt269.1 t256).bind fun t274 => (if t274 = true then (laws_FnExactSumOfPictures.j0 k t259 bt269.2 (bt269.2 != t259) l0_0 l1_0 t256 t261 t265 bt269.1) else (laws_FnExactSumOfPictures.j0 k t259 bt269.2 true l0_0 l1_0 t256 t261 t265 bt269.1)))) = some r := H
   have A23 := Aside0.mk A230
   clear A230
   replace H := Option.bind_eq_some_iff.mp H
   obtain ⟨⟨t269, t272⟩, A240, H⟩ := H
   replace H : ((laws_eqPicture.f k t269 t256).bind fun t274 => (if t274 = true then (laws_FnExactSumOfPictures.j0 k t259 t272 (t272 != t259) l0_0 l1_0 t256 t261 t265 t269) else (laws_FnExactSumOfPictures.j0 k t259 t272 true l0_0 l1_0 t256 t261 t265 t269))) = some r := H
   have A24 := Aside0.mk A240
   clear A240
   have HC25 := Aside0.mk H
   clear H
   go_enter Try.func4, Try.ntmps4
   try go_wp2_with (first | ((with_reducible refine gate_dst (N := 2) rfl ?_); refine box_event ?hg (N := 2) ?hd (cs := #[.slice A0_0 l0_0.length c0_0]) (t := 24) ?hr ?_; (case hd => rfl); (case hg => rfl); (case hr => first | (go_simp; done) | (go_simp; rfl)); intro gb246 hg w26 hbox hb; have BK246 := Aside0.mk (hbox); have GW246 := zB HB hg; have GE246 := zB HB hg; replace HB := sB HB hb; clear hb hbox hg) | ((with_reducible refine gate_dst (N := 3) rfl ?_); refine box_event ?hg (N := 3) ?hd (cs := #[.slice A1_0 l1_0.length c1_0]) (t := 24) ?hr ?_; (case hd => rfl); (case hg => rfl); (case hr => first | (go_simp; done) | (go_simp; rfl)); intro gb247 hg w27 hbox hb; have BK247 := Aside0.mk (hbox); have GW247 := zB HB hg; have GE247 := zB HB hg; replace HB := sB HB hb; have NB246_247 := lA BK246 hg; have NB247_246 := gA BK246 hg; replace BK246 := bA BK246 hb; clear hb hbox hg; have hnb28 := NB246_247.out; have hnc28 := NB247_246.out; have hcz29_0 : w27.cell? ⟨gb246, 0, none⟩ = some (.slice A0_0 l0_0.length c0_0) := (blk_cell BK246.out 0).trans rfl; have hfz29_0 := blk_frozen BK246.out 0) | ((with_reducible refine gate_callee (f := 5) rfl ?_); refine goesL_ (some 19) rfl rfl Try.func5 (by kernel_rfl) rfl #[.agg #[.slice A0_0 l0_0.length c0_0], .int .i64 1048576] rfl (by (try simp only [List.map_toArray, List.map_cons, List.map_nil]); first | done | rfl) ?_; (with_reducible refine (laws_szPicture.calls _ _ l0_0 1048576 t248 _ ?side1 ?side2 A3.out).mono ?_); (case side1 => exact cT (Kd.C_below HR0_0.out HB.out)); (case side2 => exact HC0_0.out); rintro e w30 ⟨rfl, hb⟩; refine ⟨_, rfl, ?_⟩; replace BK246 := bA BK246 hb; replace BK247 := bA BK247 hb; replace HB := sB HB hb; (try clear hb); (try clear hb2); (try clear hk); (try clear hi); have hcz31_0 : w30.cell? ⟨gb247, 0, none⟩ = some (.slice A1_0 l1_0.length c1_0) := (blk_cell BK247.out 0).trans rfl; have hfz31_0 := blk_frozen BK247.out 0) | ((with_reducible refine gate_callee (f := 5) rfl ?_); refine goesL_ (some 24) rfl rfl Try.func5 (by kernel_rfl) rfl #[.agg #[.slice A1_0 l1_0.length c1_0], .int .i64 t248] rfl (by (try simp only [List.map_toArray, List.map_cons, List.map_nil]); first | done | rfl) ?_; (with_reducible refine (laws_szPicture.calls _ _ l1_0 t248 t249 _ ?side1 ?side2 A10.out).mono ?_); (case side1 => exact cT (Kd.C_below HR1_0.out HB.out)); (case side2 => exact HC1_0.out); rintro e w32 ⟨rfl, hb⟩; refine ⟨_, rfl, ?_⟩; replace BK246 := bA BK246 hb; replace BK247 := bA BK247 hb; replace HB := sB HB hb; (try clear hb); (try clear hb2); (try clear hk); (try clear hi)))
   replace BK246 := Aside0.mk (blk_drew BK246.out)
   replace BK247 := Aside0.mk (blk_drew BK247.out)
   replace HB := Aside0.mk (below_drew1 HB.out)
   refine start_ (n := 11) (S := fun w' => w'.cell? ⟨gb246, 0, none⟩ = some (.slice A0_0 l0_0.length c0_0) ∧ w'.cell? ⟨gb247, 0, none⟩ = some (.slice A1_0 l1_0.length c1_0)) (ds := []) #[false, false, false, false, false, false, false, false, false, false, false] (by kernel_rfl) rfl rfl ⟨(blk_cell BK246.out 0).trans rfl, (blk_cell BK247.out 0).trans rfl⟩ (fun hHeld => ?_); refine with_tabW laws_FnExactSumOfPictures.tab8 laws_FnExactSumOfPictures.bits8 (fun HT_ HW_ => ?_)
   generalize w32.drew = w33 at BK246 BK247 HB hHeld ⊢
   refine take_ (i := 0) (N := some 28) (v := ?_) (a' := ?_) #[true, false, false, false, false, false, false, false, false, false, false] rfl rfl (take_ofW HT_.out HW_.out (by kernel_rfl)) (fun _ _ _ h => h) (Or.inl ⟨by rfl, ?_⟩) hHeld ?_ ?_
   rotate_left
   ·rintro w' ⟨s0, s1⟩
    go_simp
    with_reducible rfl
   rotate_left
   ·simp only [Act.put, List.setIfInBounds_toArray, List.set_cons_zero, List.set_cons_succ, i64_w, i32_w]
    rfl
   refine take_ (i := 2) (N := some 30) (v := ?_) (a' := ?_) #[true, false, true, false, false, false, false, false, false, false, false] rfl rfl (take_ofW HT_.out HW_.out (by kernel_rfl)) (fun _ _ _ h => h) (Or.inl ⟨by rfl, ?_⟩) hHeld ?_ ?_
   rotate_left
   ·rintro w' ⟨s0, s1⟩
    go_simp
    with_reducible rfl
   rotate_left
   ·simp only [Act.put, List.setIfInBounds_toArray, List.set_cons_zero, List.set_cons_succ, i64_w, i32_w]
    rfl
   refine join_ (σ := Value × Value × Value × Nat) 2 #[true, true, true, true, true, true, true, true, true, false, false] (fun s_ => [(29, .agg #[s_.1]), (31, .agg #[s_.2.1]), (32, .tuple #[.agg #[s_.2.2.1], .bool t259]), (6, .pointer (some ⟨s_.2.2.2, 0, none⟩)), (27, .tuple #[.agg #[s_.2.2.1], .bool t259]), (33, .agg #[s_.2.2.1]), (34, .bool t259)]) (fun s_ w' => (w'.cell? ⟨gb246, 0, none⟩ = some (.slice A0_0 l0_0.length c0_0) ∧ w'.cell? ⟨gb247, 0, none⟩ = some (.slice A1_0 l1_0.length c1_0)) ∧ (Kd.R k47 47 w' w.heap.size (fun k_ => some k_ ≠ (s_.2.1 : Value).ownBlock ∧ some k_ ≠ (s_.2.2.1 : Value).ownBlock) s_.1 t250) ∧ (Kd.R k47 47 w' w.heap.size (fun k_ => some k_ ≠ (s_.1 : Value).ownBlock ∧ some k_ ≠ (s_.2.2.1 : Value).ownBlock) s_.2.1 t253) ∧ (Kd.R k47 47 w' w.heap.size (fun k_ => some k_ ≠ (s_.1 : Value).ownBlock ∧ some k_ ≠ (s_.2.1 : Value).ownBlock) s_.2.2.1 t256) ∧ (w'.heap[gb246]? = some (.cells #[.slice A0_0 l0_0.length c0_0] 24 (0, 0))) ∧ (w'.heap[gb247]? = some (.cells #[.slice A1_0 l1_0.length c1_0] 24 (0, 0))) ∧ (w'.heap[s_.2.2.2]? = some (.cells #[.slice none 0 0] 28 (0, 0))) ∧ (w.heap.size ≤ s_.2.2.2) ∧ (w.heap.size ≤ s_.2.2.2) ∧ (gb246 ≠ s_.2.2.2) ∧ (s_.2.2.2 ≠ gb246) ∧ (gb247 ≠ s_.2.2.2) ∧ (s_.2.2.2 ≠ gb247) ∧ (Below w.heap.size w w')) ?_ ?_
   rotate_left
   ·intro hCont
    refine two_ (i := 1) (j := 8) (Ni := some 29) (Nj := some 6) #[true, true, true, false, false, false, false, false, false, false, false] #[true, false, true, false, false, false, false, false, true, false, false] rfl rfl rfl rfl (two_of HT_.out (by kernel_rfl)) (by decide) (by decide) (fun K hK => ?_) (fun K hK => ?_)
    ·skip
     refine goes_ Try.func7 (by kernel_rfl) rfl #[.agg #[.slice A0_0 l0_0.length c0_0]] (by rfl) rfl rfl (by (try simp only [List.map_toArray, List.map_cons, List.map_nil]); first | done | rfl) ?_
     with_reducible refine (laws_toPicture.calls k _ _ l0_0 t250 _ ?side1 ?side2 A19.out).mono ?_
     (case side1 => exact cT (Kd.C_below HR0_0.out HB.out))
     (case side2 => exact HC0_0.out)
     rintro e w34 ⟨v251, rfl, ho0, hb⟩
     refine ⟨_, rfl, ?_⟩
     have HO252 := Aside0.mk (Kd.R_lower ho0 (below_size (sT HB)))
     replace BK246 := bA BK246 hb
     replace BK247 := bA BK247 hb
     replace HB := sB HB hb
     (try clear hb)
     (try clear hb2)
     (try clear hk)
     (try clear hi)
     (try clear ho0)
     refine hK.out _ _ ⟨(blk_cell BK246.out 0).trans rfl, (blk_cell BK247.out 0).trans rfl⟩ (fun hHeld => ?_)
     clear hK K
     refine norm_ (a' := ?_) ?_ ?_
     rotate_left
     ·show Act.put _ (some 29) _ = _
      simp only [Act.put, List.setIfInBounds_toArray, List.set_cons_zero, List.set_cons_succ, i64_w, i32_w]
      rfl
     refine two_ (i := 3) (j := 8) (Ni := some 31) (Nj := some 6) #[true, true, true, true, false, false, false, false, false, false, false] #[true, true, true, false, false, false, false, false, true, false, false] rfl rfl rfl rfl (two_of HT_.out (by kernel_rfl)) (by decide) (by decide) (fun K hK => ?_) (fun K hK => ?_)
     ·skip
      refine goes_ Try.func7 (by kernel_rfl) rfl #[.agg #[.slice A1_0 l1_0.length c1_0]] (by rfl) rfl rfl (by (try simp only [List.map_toArray, List.map_cons, List.map_nil]); first | done | rfl) ?_
      with_reducible refine (laws_toPicture.calls k _ _ l1_0 t253 _ ?side1 ?side2 A20.out).mono ?_
      (case side1 => exact cT (Kd.C_below HR1_0.out HB.out))
      (case side2 => exact HC1_0.out)
      rintro e w35 ⟨v254, rfl, ho0, hb⟩
      refine ⟨_, rfl, ?_⟩
      have HO255 := Aside0.mk (Kd.R_lower (Kd.R_new' ho0 (Kd.R_lt (rT HO252))) (below_size (sT HB)))
      replace HO252 := Aside0.mk (Kd.R_elder' (rT HO252) (Kd.R_base ho0) hb)
      replace BK246 := bA BK246 hb
      replace BK247 := bA BK247 hb
      replace HB := sB HB hb
      (try clear hb)
      (try clear hb2)
      (try clear hk)
      (try clear hi)
      (try clear ho0)
      obtain ⟨Ao36, co36, eo36⟩ := Kd.R_slice HO252.out
      (first | subst eo36 | (injection eo36 with f1_ f2_ f3_; have f4_ := f1_.symm; have f5_ := f3_.symm; clear f1_ f2_ f3_; subst f4_; subst f5_))
      obtain ⟨Ao37, co37, eo37⟩ := Kd.R_slice HO255.out
      (first | subst eo37 | (injection eo37 with f1_ f2_ f3_; have f4_ := f1_.symm; have f5_ := f3_.symm; clear f1_ f2_ f3_; subst f4_; subst f5_))
      refine hK.out _ _ ⟨(blk_cell BK246.out 0).trans rfl, (blk_cell BK247.out 0).trans rfl⟩ (fun hHeld => ?_)
      clear hK K
      refine norm_ (a' := ?_) ?_ ?_
      rotate_left
      ·show Act.put _ (some 31) _ = _
       simp only [Act.put, List.setIfInBounds_toArray, List.set_cons_zero, List.set_cons_succ, i64_w, i32_w]
       rfl
      refine two_ (i := 4) (j := 8) (Ni := some 32) (Nj := some 6) #[true, true, true, true, true, false, false, false, false, false, false] #[true, true, true, true, false, false, false, false, true, false, false] rfl rfl rfl rfl (two_of HT_.out (by kernel_rfl)) (by decide) (by decide) (fun K hK => ?_) (fun K hK => ?_)
      ·skip
       refine goes_ Try.func12 (by kernel_rfl) rfl #[.agg #[.slice Ao36 t250.length co36], .agg #[.slice Ao37 t253.length co37]] (by rfl) rfl rfl (by (try simp only [List.map_toArray, List.map_cons, List.map_nil]); first | done | rfl) ?_
       with_reducible refine (spec_SumOfPictures.calls k _ _ t250 _ _ t253 t256 t259 _ ?side1 ?side2 ?side3 ?side4 A21.out).mono ?_
       (case side1 => exact cT (Kd.R_reads' HO252.out).2.2)
       (case side2 => exact (Kd.R_reads' HO252.out).2.1)
       (case side3 => exact cT (Kd.R_reads' HO255.out).2.2)
       (case side4 => exact (Kd.R_reads' HO255.out).2.1)
       rintro e w38 ⟨v257, rfl, ho0, hb⟩
       refine ⟨_, rfl, ?_⟩
       have HO258 := Aside0.mk (Kd.R_lower (Kd.R_new' (Kd.R_new' ho0 (Kd.R_lt (rT HO252))) (Kd.R_lt (rT HO255))) (below_size (sT HB)))
       replace HO252 := Aside0.mk (Kd.R_elder' (rT HO252) (Kd.R_base ho0) hb)
       replace HO255 := Aside0.mk (Kd.R_elder' (rT HO255) (Kd.R_base ho0) hb)
       replace BK246 := bA BK246 hb
       replace BK247 := bA BK247 hb
       replace HB := sB HB hb
       (try clear hb)
       (try clear hb2)
       (try clear hk)
       (try clear hi)
       (try clear ho0)
       refine hK.out _ _ ⟨(blk_cell BK246.out 0).trans rfl, (blk_cell BK247.out 0).trans rfl⟩ (fun hHeld => ?_)
       clear hK K
       refine norm_ (a' := ?_) ?_ ?_
       rotate_left
       ·show Act.put _ (some 32) _ = _
        simp only [Act.put, List.setIfInBounds_toArray, List.set_cons_zero, List.set_cons_succ, i64_w, i32_w]
        rfl
       refine pure_ (i := 5) (N := some 27) (v := ?_) (a' := ?_) #[true, true, true, true, true, true, false, false, false, false, false] rfl rfl (any_of HT_.out (by kernel_rfl)) (fun _ _ _ h => h) (Or.inl ⟨by rfl, ?_⟩) ?_ ?_
       rotate_left
       ·intro w'
        go_simp
        with_reducible rfl
       rotate_left
       ·simp only [Act.put, List.setIfInBounds_toArray, List.set_cons_zero, List.set_cons_succ, i64_w, i32_w]
        rfl
       refine pure_ (i := 6) (N := some 33) (v := ?_) (a' := ?_) #[true, true, true, true, true, true, true, false, false, false, false] rfl rfl (any_of HT_.out (by kernel_rfl)) (fun _ _ _ h => h) (Or.inl ⟨by rfl, ?_⟩) ?_ ?_
       rotate_left
       ·intro w'
        go_simp
        with_reducible rfl
       rotate_left
       ·simp only [Act.put, List.setIfInBounds_toArray, List.set_cons_zero, List.set_cons_succ, i64_w, i32_w]
        rfl
       refine pure_ (i := 7) (N := some 34) (v := ?_) (a' := ?_) #[true, true, true, true, true, true, true, true, false, false, false] rfl rfl (any_of HT_.out (by kernel_rfl)) (fun _ _ _ h => h) (Or.inl ⟨by rfl, ?_⟩) ?_ ?_
       rotate_left
       ·intro w'
        go_simp
        with_reducible rfl
       rotate_left
       ·simp only [Act.put, List.setIfInBounds_toArray, List.set_cons_zero, List.set_cons_succ, i64_w, i32_w]
        rfl
       refine one_ (i := 8) (N := some 6) #[true, true, true, true, true, true, true, true, true, false, false] rfl rfl (one_of HT_.out (by kernel_rfl)) (by decide) (fun K hK => ?_)
       refine box_step ?hg (N := 6) ?hd (cs := #[.slice none 0 0]) (t := 28) ?hr ?_; (case hd => rfl); (case hg => rfl); (case hr => first | (go_simp; done) | (go_simp; rfl))
       intro gb260 hg w39 hbox hb
       replace HO252 := rA HO252 hb
       replace HO255 := rA HO255 hb
       replace HO258 := rA HO258 hb
       have BK260 := Aside0.mk (hbox)
       have GW260 := zB HB hg
       have GE260 := zB HB hg
       replace HB := sB HB hb
       have NB246_260 := lA BK246 hg
       have NB260_246 := gA BK246 hg
       replace BK246 := bA BK246 hb
       have NB247_260 := lA BK247 hg
       have NB260_247 := gA BK247 hg
       replace BK247 := bA BK247 hb
       clear hb hbox hg
       refine hK.out _ _ ⟨(blk_cell BK246.out 0).trans rfl, (blk_cell BK247.out 0).trans rfl⟩ (fun hHeld => ?_)
       clear hK K
       refine norm_ (a' := ?_) ?_ ?_
       rotate_left
       ·show Act.put _ (some 6) _ = _
        simp only [Act.put, List.setIfInBounds_toArray, List.set_cons_zero, List.set_cons_succ, i64_w, i32_w]
        rfl
       exact norm_ (by simp only [putAll, Act.put, List.setIfInBounds_toArray, List.set_cons_zero, List.set_cons_succ]) (hCont (.slice Ao36 t250.length co36, .slice Ao37 t253.length co37, v257, gb260) _ ⟨hHeld, (by (with_reducible repeat (first | apply Kd.R_alloc | apply Kd.R_drewN | apply Kd.R_drew)); exact Kd.R_mono HO252.out (fun _ hk => ⟨hk.1.2, hk.2⟩)), (by (with_reducible repeat (first | apply Kd.R_alloc | apply Kd.R_drewN | apply Kd.R_drew)); exact Kd.R_mono HO255.out (fun _ hk => ⟨hk.1.2, hk.2⟩)), (by (with_reducible repeat (first | apply Kd.R_alloc | apply Kd.R_drewN | apply Kd.R_drew)); exact Kd.R_mono HO258.out (fun _ hk => ⟨hk.1.2, hk.2⟩)), (by first | exact BK246.out | exact blk_alloc BK246.out _), (by first | exact BK247.out | exact blk_alloc BK247.out _), (by first | exact BK260.out | exact blk_alloc BK260.out _), GW260.out, GE260.out, NB246_260.out, NB260_246.out, NB247_260.out, NB260_247.out, (sT HB)⟩)
      ·skip
       refine box_step ?hg (N := 6) ?hd (cs := #[.slice none 0 0]) (t := 28) ?hr ?_; (case hd => rfl); (case hg => rfl); (case hr => first | (go_simp; done) | (go_simp; rfl))
       intro gb260 hg w36 hbox hb
       replace HO252 := rA HO252 hb
       replace HO255 := rA HO255 hb
       have BK260 := Aside0.mk (hbox)
       have GW260 := zB HB hg
       have GE260 := zB HB hg
       replace HB := sB HB hb
       have NB246_260 := lA BK246 hg
       have NB260_246 := gA BK246 hg
       replace BK246 := bA BK246 hb
       have NB247_260 := lA BK247 hg
       have NB260_247 := gA BK247 hg
       replace BK247 := bA BK247 hb
       clear hb hbox hg
       obtain ⟨Ao37, co37, eo37⟩ := Kd.R_slice HO252.out
       (first | subst eo37 | (injection eo37 with f1_ f2_ f3_; have f4_ := f1_.symm; have f5_ := f3_.symm; clear f1_ f2_ f3_; subst f4_; subst f5_))
       obtain ⟨Ao38, co38, eo38⟩ := Kd.R_slice HO255.out
       (first | subst eo38 | (injection eo38 with f1_ f2_ f3_; have f4_ := f1_.symm; have f5_ := f3_.symm; clear f1_ f2_ f3_; subst f4_; subst f5_))
       refine hK.out _ _ ⟨(blk_cell BK246.out 0).trans rfl, (blk_cell BK247.out 0).trans rfl⟩ (fun hHeld => ?_)
       clear hK K
       refine norm_ (a' := ?_) ?_ ?_
       rotate_left
       ·show Act.put _ (some 6) _ = _
        simp only [Act.put, List.setIfInBounds_toArray, List.set_cons_zero, List.set_cons_succ, i64_w, i32_w]
        rfl
       refine one_ (i := 4) (N := some 32) #[true, true, true, true, true, false, false, false, true, false, false] rfl rfl (one_of HT_.out (by kernel_rfl)) (by decide) (fun K hK => ?_)
       refine goes_ Try.func12 (by kernel_rfl) rfl #[.agg #[.slice Ao37 t250.length co37], .agg #[.slice Ao38 t253.length co38]] (by rfl) rfl rfl (by (try simp only [List.map_toArray, List.map_cons, List.map_nil]); first | done | rfl) ?_
       with_reducible refine (spec_SumOfPictures.calls k _ _ t250 _ _ t253 t256 t259 _ ?side1 ?side2 ?side3 ?side4 A21.out).mono ?_
       (case side1 => exact cT (Kd.R_reads' HO252.out).2.2)
       (case side2 => exact (Kd.R_reads' HO252.out).2.1)
       (case side3 => exact cT (Kd.R_reads' HO255.out).2.2)
       (case side4 => exact (Kd.R_reads' HO255.out).2.1)
       rintro e w39 ⟨v257, rfl, ho0, hb⟩
       refine ⟨_, rfl, ?_⟩
       have HO258 := Aside0.mk (Kd.R_lower (Kd.R_new' (Kd.R_new' ho0 (Kd.R_lt (rT HO252))) (Kd.R_lt (rT HO255))) (below_size (sT HB)))
       replace HO252 := Aside0.mk (Kd.R_elder' (rT HO252) (Kd.R_base ho0) hb)
       replace HO255 := Aside0.mk (Kd.R_elder' (rT HO255) (Kd.R_base ho0) hb)
       replace BK246 := bA BK246 hb
       replace BK247 := bA BK247 hb
       replace BK260 := bA BK260 hb
       replace HB := sB HB hb
       (try clear hb)
       (try clear hb2)
       (try clear hk)
       (try clear hi)
       (try clear ho0)
       refine hK.out _ _ ⟨(blk_cell BK246.out 0).trans rfl, (blk_cell BK247.out 0).trans rfl⟩ (fun hHeld => ?_)
       clear hK K
       refine norm_ (a' := ?_) ?_ ?_
       rotate_left
       ·show Act.put _ (some 32) _ = _
        simp only [Act.put, List.setIfInBounds_toArray, List.set_cons_zero, List.set_cons_succ, i64_w, i32_w]
        rfl
       refine pure_ (i := 5) (N := some 27) (v := ?_) (a' := ?_) #[true, true, true, true, true, true, false, false, true, false, false] rfl rfl (any_of HT_.out (by kernel_rfl)) (fun _ _ _ h => h) (Or.inl ⟨by rfl, ?_⟩) ?_ ?_
       rotate_left
       ·intro w'
        go_simp
        with_reducible rfl
       rotate_left
       ·simp only [Act.put, List.setIfInBounds_toArray, List.set_cons_zero, List.set_cons_succ, i64_w, i32_w]
        rfl
       refine pure_ (i := 6) (N := some 33) (v := ?_) (a' := ?_) #[true, true, true, true, true, true, true, false, true, false, false] rfl rfl (any_of HT_.out (by kernel_rfl)) (fun _ _ _ h => h) (Or.inl ⟨by rfl, ?_⟩) ?_ ?_
       rotate_left
       ·intro w'
        go_simp
        with_reducible rfl
       rotate_left
       ·simp only [Act.put, List.setIfInBounds_toArray, List.set_cons_zero, List.set_cons_succ, i64_w, i32_w]
        rfl
       refine pure_ (i := 7) (N := some 34) (v := ?_) (a' := ?_) #[true, true, true, true, true, true, true, true, true, false, false] rfl rfl (any_of HT_.out (by kernel_rfl)) (fun _ _ _ h => h) (Or.inl ⟨by rfl, ?_⟩) ?_ ?_
       rotate_left
       ·intro w'
        go_simp
        with_reducible rfl
       rotate_left
       ·simp only [Act.put, List.setIfInBounds_toArray, List.set_cons_zero, List.set_cons_succ, i64_w, i32_w]
        rfl
       exact norm_ (by simp only [putAll, Act.put, List.setIfInBounds_toArray, List.set_cons_zero, List.set_cons_succ]) (hCont (.slice Ao37 t250.length co37, .slice Ao38 t253.length co38, v257, gb260) _ ⟨hHeld, (by (with_reducible repeat (first | apply Kd.R_alloc | apply Kd.R_drewN | apply Kd.R_drew)); exact Kd.R_mono HO252.out (fun _ hk => ⟨hk.1.2, hk.2⟩)), (by (with_reducible repeat (first | apply Kd.R_alloc | apply Kd.R_drewN | apply Kd.R_drew)); exact Kd.R_mono HO255.out (fun _ hk => ⟨hk.1.2, hk.2⟩)), (by (with_reducible repeat (first | apply Kd.R_alloc | apply Kd.R_drewN | apply Kd.R_drew)); exact Kd.R_mono HO258.out (fun _ hk => ⟨hk.1.2, hk.2⟩)), (by first | exact BK246.out | exact blk_alloc BK246.out _), (by first | exact BK247.out | exact blk_alloc BK247.out _), (by first | exact BK260.out | exact blk_alloc BK260.out _), GW260.out, GE260.out, NB246_260.out, NB260_246.out, NB247_260.out, NB260_247.out, (sT HB)⟩)
     ·skip
      refine box_step ?hg (N := 6) ?hd (cs := #[.slice none 0 0]) (t := 28) ?hr ?_; (case hd => rfl); (case hg => rfl); (case hr => first | (go_simp; done) | (go_simp; rfl))
      intro gb260 hg w35 hbox hb
      replace HO252 := rA HO252 hb
      have BK260 := Aside0.mk (hbox)
      have GW260 := zB HB hg
      have GE260 := zB HB hg
      replace HB := sB HB hb
      have NB246_260 := lA BK246 hg
      have NB260_246 := gA BK246 hg
      replace BK246 := bA BK246 hb
      have NB247_260 := lA BK247 hg
      have NB260_247 := gA BK247 hg
      replace BK247 := bA BK247 hb
      clear hb hbox hg
      refine hK.out _ _ ⟨(blk_cell BK246.out 0).trans rfl, (blk_cell BK247.out 0).trans rfl⟩ (fun hHeld => ?_)
      clear hK K
      refine norm_ (a' := ?_) ?_ ?_
      rotate_left
      ·show Act.put _ (some 6) _ = _
       simp only [Act.put, List.setIfInBounds_toArray, List.set_cons_zero, List.set_cons_succ, i64_w, i32_w]
       rfl
      refine one_ (i := 3) (N := some 31) #[true, true, true, true, false, false, false, false, true, false, false] rfl rfl (one_of HT_.out (by kernel_rfl)) (by decide) (fun K hK => ?_)
      refine goes_ Try.func7 (by kernel_rfl) rfl #[.agg #[.slice A1_0 l1_0.length c1_0]] (by rfl) rfl rfl (by (try simp only [List.map_toArray, List.map_cons, List.map_nil]); first | done | rfl) ?_
      with_reducible refine (laws_toPicture.calls k _ _ l1_0 t253 _ ?side1 ?side2 A20.out).mono ?_
      (case side1 => exact cT (Kd.C_below HR1_0.out HB.out))
      (case side2 => exact HC1_0.out)
      rintro e w36 ⟨v254, rfl, ho0, hb⟩
      refine ⟨_, rfl, ?_⟩
      have HO255 := Aside0.mk (Kd.R_lower (Kd.R_new' ho0 (Kd.R_lt (rT HO252))) (below_size (sT HB)))
      replace HO252 := Aside0.mk (Kd.R_elder' (rT HO252) (Kd.R_base ho0) hb)
      replace BK246 := bA BK246 hb
      replace BK247 := bA BK247 hb
      replace BK260 := bA BK260 hb
      replace HB := sB HB hb
      (try clear hb)
      (try clear hb2)
      (try clear hk)
      (try clear hi)
      (try clear ho0)
      obtain ⟨Ao37, co37, eo37⟩ := Kd.R_slice HO252.out
      (first | subst eo37 | (injection eo37 with f1_ f2_ f3_; have f4_ := f1_.symm; have f5_ := f3_.symm; clear f1_ f2_ f3_; subst f4_; subst f5_))
      obtain ⟨Ao38, co38, eo38⟩ := Kd.R_slice HO255.out
      (first | subst eo38 | (injection eo38 with f1_ f2_ f3_; have f4_ := f1_.symm; have f5_ := f3_.symm; clear f1_ f2_ f3_; subst f4_; subst f5_))
      refine hK.out _ _ ⟨(blk_cell BK246.out 0).trans rfl, (blk_cell BK247.out 0).trans rfl⟩ (fun hHeld => ?_)
      clear hK K
      refine norm_ (a' := ?_) ?_ ?_
      rotate_left
      ·show Act.put _ (some 31) _ = _
       simp only [Act.put, List.setIfInBounds_toArray, List.set_cons_zero, List.set_cons_succ, i64_w, i32_w]
       rfl
      refine one_ (i := 4) (N := some 32) #[true, true, true, true, true, false, false, false, true, false, false] rfl rfl (one_of HT_.out (by kernel_rfl)) (by decide) (fun K hK => ?_)
      refine goes_ Try.func12 (by kernel_rfl) rfl #[.agg #[.slice Ao37 t250.length co37], .agg #[.slice Ao38 t253.length co38]] (by rfl) rfl rfl (by (try simp only [List.map_toArray, List.map_cons, List.map_nil]); first | done | rfl) ?_
      with_reducible refine (spec_SumOfPictures.calls k _ _ t250 _ _ t253 t256 t259 _ ?side1 ?side2 ?side3 ?side4 A21.out).mono ?_
      (case side1 => exact cT (Kd.R_reads' HO252.out).2.2)
      (case side2 => exact (Kd.R_reads' HO252.out).2.1)
      (case side3 => exact cT (Kd.R_reads' HO255.out).2.2)
      (case side4 => exact (Kd.R_reads' HO255.out).2.1)
      rintro e w39 ⟨v257, rfl, ho0, hb⟩
      refine ⟨_, rfl, ?_⟩
      have HO258 := Aside0.mk (Kd.R_lower (Kd.R_new' (Kd.R_new' ho0 (Kd.R_lt (rT HO252))) (Kd.R_lt (rT HO255))) (below_size (sT HB)))
      replace HO252 := Aside0.mk (Kd.R_elder' (rT HO252) (Kd.R_base ho0) hb)
      replace HO255 := Aside0.mk (Kd.R_elder' (rT HO255) (Kd.R_base ho0) hb)
      replace BK246 := bA BK246 hb
      replace BK247 := bA BK247 hb
      replace BK260 := bA BK260 hb
      replace HB := sB HB hb
      (try clear hb)
      (try clear hb2)
      (try clear hk)
      (try clear hi)
      (try clear ho0)
      refine hK.out _ _ ⟨(blk_cell BK246.out 0).trans rfl, (blk_cell BK247.out 0).trans rfl⟩ (fun hHeld => ?_)
      clear hK K
      refine norm_ (a' := ?_) ?_ ?_
      rotate_left
      ·show Act.put _ (some 32) _ = _
       simp only [Act.put, List.setIfInBounds_toArray, List.set_cons_zero, List.set_cons_succ, i64_w, i32_w]
       rfl
      refine pure_ (i := 5) (N := some 27) (v := ?_) (a' := ?_) #[true, true, true, true, true, true, false, false, true, false, false] rfl rfl (any_of HT_.out (by kernel_rfl)) (fun _ _ _ h => h) (Or.inl ⟨by rfl, ?_⟩) ?_ ?_
      rotate_left
      ·intro w'
       go_simp
       with_reducible rfl
      rotate_left
      ·simp only [Act.put, List.setIfInBounds_toArray, List.set_cons_zero, List.set_cons_succ, i64_w, i32_w]
       rfl
      refine pure_ (i := 6) (N := some 33) (v := ?_) (a' := ?_) #[true, true, true, true, true, true, true, false, true, false, false] rfl rfl (any_of HT_.out (by kernel_rfl)) (fun _ _ _ h => h) (Or.inl ⟨by rfl, ?_⟩) ?_ ?_
      rotate_left
      ·intro w'
       go_simp
       with_reducible rfl
      rotate_left
      ·simp only [Act.put, List.setIfInBounds_toArray, List.set_cons_zero, List.set_cons_succ, i64_w, i32_w]
       rfl
      refine pure_ (i := 7) (N := some 34) (v := ?_) (a' := ?_) #[true, true, true, true, true, true, true, true, true, false, false] rfl rfl (any_of HT_.out (by kernel_rfl)) (fun _ _ _ h => h) (Or.inl ⟨by rfl, ?_⟩) ?_ ?_
      rotate_left
      ·intro w'
       go_simp
       with_reducible rfl
      rotate_left
      ·simp only [Act.put, List.setIfInBounds_toArray, List.set_cons_zero, List.set_cons_succ, i64_w, i32_w]
       rfl
      exact norm_ (by simp only [putAll, Act.put, List.setIfInBounds_toArray, List.set_cons_zero, List.set_cons_succ]) (hCont (.slice Ao37 t250.length co37, .slice Ao38 t253.length co38, v257, gb260) _ ⟨hHeld, (by (with_reducible repeat (first | apply Kd.R_alloc | apply Kd.R_drewN | apply Kd.R_drew)); exact Kd.R_mono HO252.out (fun _ hk => ⟨hk.1.2, hk.2⟩)), (by (with_reducible repeat (first | apply Kd.R_alloc | apply Kd.R_drewN | apply Kd.R_drew)); exact Kd.R_mono HO255.out (fun _ hk => ⟨hk.1.2, hk.2⟩)), (by (with_reducible repeat (first | apply Kd.R_alloc | apply Kd.R_drewN | apply Kd.R_drew)); exact Kd.R_mono HO258.out (fun _ hk => ⟨hk.1.2, hk.2⟩)), (by first | exact BK246.out | exact blk_alloc BK246.out _), (by first | exact BK247.out | exact blk_alloc BK247.out _), (by first | exact BK260.out | exact blk_alloc BK260.out _), GW260.out, GE260.out, NB246_260.out, NB260_246.out, NB247_260.out, NB260_247.out, (sT HB)⟩)
    ·skip
     refine box_step ?hg (N := 6) ?hd (cs := #[.slice none 0 0]) (t := 28) ?hr ?_; (case hd => rfl); (case hg => rfl); (case hr => first | (go_simp; done) | (go_simp; rfl))
     intro gb260 hg w34 hbox hb
     have BK260 := Aside0.mk (hbox)
     have GW260 := zB HB hg
     have GE260 := zB HB hg
     replace HB := sB HB hb
     have NB246_260 := lA BK246 hg
     have NB260_246 := gA BK246 hg
     replace BK246 := bA BK246 hb
     have NB247_260 := lA BK247 hg
     have NB260_247 := gA BK247 hg
     replace BK247 := bA BK247 hb
     clear hb hbox hg
     refine hK.out _ _ ⟨(blk_cell BK246.out 0).trans rfl, (blk_cell BK247.out 0).trans rfl⟩ (fun hHeld => ?_)
     clear hK K
     refine norm_ (a' := ?_) ?_ ?_
     rotate_left
     ·show Act.put _ (some 6) _ = _
      simp only [Act.put, List.setIfInBounds_toArray, List.set_cons_zero, List.set_cons_succ, i64_w, i32_w]
      rfl
     refine one_ (i := 1) (N := some 29) #[true, true, true, false, false, false, false, false, true, false, false] rfl rfl (one_of HT_.out (by kernel_rfl)) (by decide) (fun K hK => ?_)
     refine goes_ Try.func7 (by kernel_rfl) rfl #[.agg #[.slice A0_0 l0_0.length c0_0]] (by rfl) rfl rfl (by (try simp only [List.map_toArray, List.map_cons, List.map_nil]); first | done | rfl) ?_
     with_reducible refine (laws_toPicture.calls k _ _ l0_0 t250 _ ?side1 ?side2 A19.out).mono ?_
     (case side1 => exact cT (Kd.C_below HR0_0.out HB.out))
     (case side2 => exact HC0_0.out)
     rintro e w35 ⟨v251, rfl, ho0, hb⟩
     refine ⟨_, rfl, ?_⟩
     have HO252 := Aside0.mk (Kd.R_lower ho0 (below_size (sT HB)))
     replace BK246 := bA BK246 hb
     replace BK247 := bA BK247 hb
     replace BK260 := bA BK260 hb
     replace HB := sB HB hb
     (try clear hb)
     (try clear hb2)
     (try clear hk)
     (try clear hi)
     (try clear ho0)
     refine hK.out _ _ ⟨(blk_cell BK246.out 0).trans rfl, (blk_cell BK247.out 0).trans rfl⟩ (fun hHeld => ?_)
     clear hK K
     refine norm_ (a' := ?_) ?_ ?_
     rotate_left
     ·show Act.put _ (some 29) _ = _
      simp only [Act.put, List.setIfInBounds_toArray, List.set_cons_zero, List.set_cons_succ, i64_w, i32_w]
      rfl
     refine one_ (i := 3) (N := some 31) #[true, true, true, true, false, false, false, false, true, false, false] rfl rfl (one_of HT_.out (by kernel_rfl)) (by decide) (fun K hK => ?_)
     refine goes_ Try.func7 (by kernel_rfl) rfl #[.agg #[.slice A1_0 l1_0.length c1_0]] (by rfl) rfl rfl (by (try simp only [List.map_toArray, List.map_cons, List.map_nil]); first | done | rfl) ?_
     with_reducible refine (laws_toPicture.calls k _ _ l1_0 t253 _ ?side1 ?side2 A20.out).mono ?_
     (case side1 => exact cT (Kd.C_below HR1_0.out HB.out))
     (case side2 => exact HC1_0.out)
     rintro e w36 ⟨v254, rfl, ho0, hb⟩
     refine ⟨_, rfl, ?_⟩
     have HO255 := Aside0.mk (Kd.R_lower (Kd.R_new' ho0 (Kd.R_lt (rT HO252))) (below_size (sT HB)))
     replace HO252 := Aside0.mk (Kd.R_elder' (rT HO252) (Kd.R_base ho0) hb)
     replace BK246 := bA BK246 hb
     replace BK247 := bA BK247 hb
     replace BK260 := bA BK260 hb
     replace HB := sB HB hb
     (try clear hb)
     (try clear hb2)
     (try clear hk)
     (try clear hi)
     (try clear ho0)
     obtain ⟨Ao37, co37, eo37⟩ := Kd.R_slice HO252.out
     (first | subst eo37 | (injection eo37 with f1_ f2_ f3_; have f4_ := f1_.symm; have f5_ := f3_.symm; clear f1_ f2_ f3_; subst f4_; subst f5_))
     obtain ⟨Ao38, co38, eo38⟩ := Kd.R_slice HO255.out
     (first | subst eo38 | (injection eo38 with f1_ f2_ f3_; have f4_ := f1_.symm; have f5_ := f3_.symm; clear f1_ f2_ f3_; subst f4_; subst f5_))
     refine hK.out _ _ ⟨(blk_cell BK246.out 0).trans rfl, (blk_cell BK247.out 0).trans rfl⟩ (fun hHeld => ?_)
     clear hK K
     refine norm_ (a' := ?_) ?_ ?_
     rotate_left
     ·show Act.put _ (some 31) _ = _
      simp only [Act.put, List.setIfInBounds_toArray, List.set_cons_zero, List.set_cons_succ, i64_w, i32_w]
      rfl
     refine one_ (i := 4) (N := some 32) #[true, true, true, true, true, false, false, false, true, false, false] rfl rfl (one_of HT_.out (by kernel_rfl)) (by decide) (fun K hK => ?_)
     refine goes_ Try.func12 (by kernel_rfl) rfl #[.agg #[.slice Ao37 t250.length co37], .agg #[.slice Ao38 t253.length co38]] (by rfl) rfl rfl (by (try simp only [List.map_toArray, List.map_cons, List.map_nil]); first | done | rfl) ?_
     with_reducible refine (spec_SumOfPictures.calls k _ _ t250 _ _ t253 t256 t259 _ ?side1 ?side2 ?side3 ?side4 A21.out).mono ?_
     (case side1 => exact cT (Kd.R_reads' HO252.out).2.2)
     (case side2 => exact (Kd.R_reads' HO252.out).2.1)
     (case side3 => exact cT (Kd.R_reads' HO255.out).2.2)
     (case side4 => exact (Kd.R_reads' HO255.out).2.1)
     rintro e w39 ⟨v257, rfl, ho0, hb⟩
     refine ⟨_, rfl, ?_⟩
     have HO258 := Aside0.mk (Kd.R_lower (Kd.R_new' (Kd.R_new' ho0 (Kd.R_lt (rT HO252))) (Kd.R_lt (rT HO255))) (below_size (sT HB)))
     replace HO252 := Aside0.mk (Kd.R_elder' (rT HO252) (Kd.R_base ho0) hb)
     replace HO255 := Aside0.mk (Kd.R_elder' (rT HO255) (Kd.R_base ho0) hb)
     replace BK246 := bA BK246 hb
     replace BK247 := bA BK247 hb
     replace BK260 := bA BK260 hb
     replace HB := sB HB hb
     (try clear hb)
     (try clear hb2)
     (try clear hk)
     (try clear hi)
     (try clear ho0)
     refine hK.out _ _ ⟨(blk_cell BK246.out 0).trans rfl, (blk_cell BK247.out 0).trans rfl⟩ (fun hHeld => ?_)
     clear hK K
     refine norm_ (a' := ?_) ?_ ?_
     rotate_left
     ·show Act.put _ (some 32) _ = _
      simp only [Act.put, List.setIfInBounds_toArray, List.set_cons_zero, List.set_cons_succ, i64_w, i32_w]
      rfl
     refine pure_ (i := 5) (N := some 27) (v := ?_) (a' := ?_) #[true, true, true, true, true, true, false, false, true, false, false] rfl rfl (any_of HT_.out (by kernel_rfl)) (fun _ _ _ h => h) (Or.inl ⟨by rfl, ?_⟩) ?_ ?_
     rotate_left
     ·intro w'
      go_simp
      with_reducible rfl
     rotate_left
     ·simp only [Act.put, List.setIfInBounds_toArray, List.set_cons_zero, List.set_cons_succ, i64_w, i32_w]
      rfl
     refine pure_ (i := 6) (N := some 33) (v := ?_) (a' := ?_) #[true, true, true, true, true, true, true, false, true, false, false] rfl rfl (any_of HT_.out (by kernel_rfl)) (fun _ _ _ h => h) (Or.inl ⟨by rfl, ?_⟩) ?_ ?_
     rotate_left
     ·intro w'
      go_simp
      with_reducible rfl
     rotate_left
     ·simp only [Act.put, List.setIfInBounds_toArray, List.set_cons_zero, List.set_cons_succ, i64_w, i32_w]
      rfl
     refine pure_ (i := 7) (N := some 34) (v := ?_) (a' := ?_) #[true, true, true, true, true, true, true, true, true, false, false] rfl rfl (any_of HT_.out (by kernel_rfl)) (fun _ _ _ h => h) (Or.inl ⟨by rfl, ?_⟩) ?_ ?_
     rotate_left
     ·intro w'
      go_simp
      with_reducible rfl
     rotate_left
     ·simp only [Act.put, List.setIfInBounds_toArray, List.set_cons_zero, List.set_cons_succ, i64_w, i32_w]
      rfl
     exact norm_ (by simp only [putAll, Act.put, List.setIfInBounds_toArray, List.set_cons_zero, List.set_cons_succ]) (hCont (.slice Ao37 t250.length co37, .slice Ao38 t253.length co38, v257, gb260) _ ⟨hHeld, (by (with_reducible repeat (first | apply Kd.R_alloc | apply Kd.R_drewN | apply Kd.R_drew)); exact Kd.R_mono HO252.out (fun _ hk => ⟨hk.1.2, hk.2⟩)), (by (with_reducible repeat (first | apply Kd.R_alloc | apply Kd.R_drewN | apply Kd.R_drew)); exact Kd.R_mono HO255.out (fun _ hk => ⟨hk.1.2, hk.2⟩)), (by (with_reducible repeat (first | apply Kd.R_alloc | apply Kd.R_drewN | apply Kd.R_drew)); exact Kd.R_mono HO258.out (fun _ hk => ⟨hk.1.2, hk.2⟩)), (by first | exact BK246.out | exact blk_alloc BK246.out _), (by first | exact BK247.out | exact blk_alloc BK247.out _), (by first | exact BK260.out | exact blk_alloc BK260.out _), GW260.out, GE260.out, NB246_260.out, NB260_246.out, NB247_260.out, NB260_247.out, (sT HB)⟩)
   rintro ⟨v251, v254, v257, gb260⟩ w40 ⟨hS_, h0_, h1_, h2_, h3_, h4_, h5_, h6_, h7_, h8_, h9_, h10_, h11_, h12_⟩
   have n0_ : Aside0 (Kd.R k47 47 w40 w.heap.size (fun k_ => some k_ ≠ (v254 : Value).ownBlock ∧ some k_ ≠ (v257 : Value).ownBlock) v251 t250) := ⟨h0_⟩
   have n1_ : Aside0 (Kd.R k47 47 w40 w.heap.size (fun k_ => some k_ ≠ (v251 : Value).ownBlock ∧ some k_ ≠ (v257 : Value).ownBlock) v254 t253) := ⟨h1_⟩
   have n2_ : Aside0 (Kd.R k47 47 w40 w.heap.size (fun k_ => some k_ ≠ (v251 : Value).ownBlock ∧ some k_ ≠ (v254 : Value).ownBlock) v257 t256) := ⟨h2_⟩
   have n3_ : Aside0 (w40.heap[gb246]? = some (.cells #[.slice A0_0 l0_0.length c0_0] 24 (0, 0))) := ⟨h3_⟩
   have n4_ : Aside0 (w40.heap[gb247]? = some (.cells #[.slice A1_0 l1_0.length c1_0] 24 (0, 0))) := ⟨h4_⟩
   have n5_ : Aside0 (w40.heap[gb260]? = some (.cells #[.slice none 0 0] 28 (0, 0))) := ⟨h5_⟩
   have n6_ : Aside0 (w.heap.size ≤ gb260) := ⟨h6_⟩
   have n7_ : Aside0 (w.heap.size ≤ gb260) := ⟨h7_⟩
   have n8_ : Aside0 (gb246 ≠ gb260) := ⟨h8_⟩
   have n9_ : Aside0 (gb260 ≠ gb246) := ⟨h9_⟩
   have n10_ : Aside0 (gb247 ≠ gb260) := ⟨h10_⟩
   have n11_ : Aside0 (gb260 ≠ gb247) := ⟨h11_⟩
   have n12_ : Aside0 (Below w.heap.size w w40) := ⟨h12_⟩
   clear BK246
   clear BK247
   clear HB
   clear h0_ h1_ h2_ h3_ h4_ h5_ h6_ h7_ h8_ h9_ h10_ h11_ h12_
   have HO252 := n0_
   have HO255 := n1_
   have HO258 := n2_
   have BK246 := n3_
   have BK247 := n4_
   have BK260 := n5_
   have GW260 := n6_
   have GE260 := n7_
   have NB246_260 := n8_
   have NB260_246 := n9_
   have NB247_260 := n10_
   have NB260_247 := n11_
   have HB := n12_
   clear n0_ n1_ n2_ n3_ n4_ n5_ n6_ n7_ n8_ n9_ n10_ n11_ n12_
   have hHeld : w40.cell? ⟨gb246, 0, none⟩ = some (.slice A0_0 l0_0.length c0_0) ∧ w40.cell? ⟨gb247, 0, none⟩ = some (.slice A1_0 l1_0.length c1_0) := hS_
   obtain ⟨Ao41, co41, eo41⟩ := Kd.R_slice HO258.out
   (first | subst eo41 | (injection eo41 with f1_ f2_ f3_; have f4_ := f1_.symm; have f5_ := f3_.symm; clear f1_ f2_ f3_; subst f4_; subst f5_))
   refine norm_ (a' := ?_) ?_ ?_
   rotate_left
   ·simp only [putAll, Act.put, List.setIfInBounds_toArray, List.set_cons_zero, List.set_cons_succ]
    rfl
   refine one_ (i := 9) (N := none) #[true, true, true, true, true, true, true, true, true, true, false] rfl rfl (one_of HT_.out (by kernel_rfl)) (by decide) (fun K hK => ?_)
   have hs42 : w40.cell? ⟨gb260, 0, none⟩ = some (.slice none 0 0) := (blk_cell BK260.out 0).trans rfl
   have hfs42 := blk_frozen BK260.out 0
   have hns42_0 := NB246_260.out
   have hns42_1 := NB247_260.out
   have hms42_0 := NB260_246.out
   have hms42_1 := NB260_247.out
   refine skip_ (w1 := ?_) (by rfl) rfl ?_ ?_
   rotate_left
   ·go_simp
    rfl
   refine hK.out _ _ ⟨((cell_far (p := ⟨gb260, _, none⟩) NB246_260.out _).trans (hHeld.1)), ((cell_far (p := ⟨gb260, _, none⟩) NB247_260.out _).trans (hHeld.2))⟩ (fun hHeld => ?_)
   clear hK K
   refine pure_ (i := 10) (N := some 7) (v := ?_) (a' := ?_) #[true, true, true, true, true, true, true, true, true, true, true] rfl rfl (any_of HT_.out (by kernel_rfl)) (fun _ _ _ h => h) (Or.inl ⟨by rfl, ?_⟩) ?_ ?_
   rotate_left
   ·intro w'
    go_simp
    with_reducible rfl
   rotate_left
   ·simp only [Act.put, List.setIfInBounds_toArray, List.set_cons_zero, List.set_cons_succ, i64_w, i32_w]
    rfl
   refine done_ (done_of HT_.out (by kernel_rfl)) ?_
   have hnb43 := NB246_260.out
   have hnc43 := NB260_246.out
   have hcz44_0 : w40.cell? ⟨gb246, 0, none⟩ = some (.slice A0_0 l0_0.length c0_0) := (blk_cell BK246.out 0).trans rfl
   have hfz44_0 := blk_frozen BK246.out 0
   go_upto_region 12 with (first | ((with_reducible refine gate_callee (f := 7) rfl ?_); refine goesL_ (some 36) rfl rfl Try.func7 (by kernel_rfl) rfl #[.agg #[.slice A0_0 l0_0.length c0_0]] rfl (by (try simp only [List.map_toArray, List.map_cons, List.map_nil]); first | done | rfl) ?_; (with_reducible refine (laws_toPicture.calls k _ _ l0_0 t261 _ ?side1 ?side2 A22.out).mono ?_); (case side1 => exact Kd.C_below HR0_0.out (sT HB)); (case side2 => exact HC0_0.out); rintro e w45 ⟨v262, rfl, ho0, hb⟩; refine ⟨_, rfl, ?_⟩; have HO263 := Aside0.mk (Kd.R_lower (Kd.R_new' (Kd.R_new' (Kd.R_new' ho0 (Kd.R_lt (by (with_reducible repeat (first | apply Kd.R_alloc | apply Kd.R_drewN | apply Kd.R_drew)); exact (Kd.R_mono (Kd.R_far (p := ⟨gb260, 0, none⟩) (Kd.R_types HO252.out BK260.out (by decide)) (fun _ hk => hk.2) (.slice Ao41 t256.length co41)) (fun _ h_ => h_.1))))) (Kd.R_lt (by (with_reducible repeat (first | apply Kd.R_alloc | apply Kd.R_drewN | apply Kd.R_drew)); exact (Kd.R_mono (Kd.R_far (p := ⟨gb260, 0, none⟩) (Kd.R_types HO255.out BK260.out (by decide)) (fun _ hk => hk.2) (.slice Ao41 t256.length co41)) (fun _ h_ => h_.1))))) (Kd.R_lt (by (with_reducible repeat (first | apply Kd.R_alloc | apply Kd.R_drewN | apply Kd.R_drew)); exact (Kd.R_mono (Kd.R_far (p := ⟨gb260, 0, none⟩) (Kd.R_types HO258.out BK260.out (by decide)) (fun _ hk => hk.2) (.slice Ao41 t256.length co41)) (fun _ h_ => h_.1))))) (below_size (sT HB))); replace HO252 := Aside0.mk (Kd.R_elder' (by (with_reducible repeat (first | apply Kd.R_alloc | apply Kd.R_drewN | apply Kd.R_drew)); exact (Kd.R_mono (Kd.R_far (p := ⟨gb260, 0, none⟩) (Kd.R_types HO252.out BK260.out (by decide)) (fun _ hk => hk.2) (.slice Ao41 t256.length co41)) (fun _ h_ => h_.1))) (Kd.R_base ho0) hb); replace HO255 := Aside0.mk (Kd.R_elder' (by (with_reducible repeat (first | apply Kd.R_alloc | apply Kd.R_drewN | apply Kd.R_drew)); exact (Kd.R_mono (Kd.R_far (p := ⟨gb260, 0, none⟩) (Kd.R_types HO255.out BK260.out (by decide)) (fun _ hk => hk.2) (.slice Ao41 t256.length co41)) (fun _ h_ => h_.1))) (Kd.R_base ho0) hb); replace HO258 := Aside0.mk (Kd.R_elder' (by (with_reducible repeat (first | apply Kd.R_alloc | apply Kd.R_drewN | apply Kd.R_drew)); exact (Kd.R_mono (Kd.R_far (p := ⟨gb260, 0, none⟩) (Kd.R_types HO258.out BK260.out (by decide)) (fun _ hk => hk.2) (.slice Ao41 t256.length co41)) (fun _ h_ => h_.1))) (Kd.R_base ho0) hb); replace BK246 := Aside0.mk (blk_below (g := gb246) (o := .cells #[.slice A0_0 l0_0.length c0_0] 24 (0, 0)) (by (with_reducible repeat (first | refine blk_drewN ?_ _ | refine blk_drew ?_ | refine blk_alloc ?_ _)); refine blk_far ?_ NB246_260.out _; (with_reducible repeat (first | refine blk_drewN ?_ _ | refine blk_drew ?_ | refine blk_alloc ?_ _)); exact BK246.out) hb); replace BK247 := Aside0.mk (blk_below (g := gb247) (o := .cells #[.slice A1_0 l1_0.length c1_0] 24 (0, 0)) (by (with_reducible repeat (first | refine blk_drewN ?_ _ | refine blk_drew ?_ | refine blk_alloc ?_ _)); refine blk_far ?_ NB247_260.out _; (with_reducible repeat (first | refine blk_drewN ?_ _ | refine blk_drew ?_ | refine blk_alloc ?_ _)); exact BK247.out) hb); replace BK260 := Aside0.mk (blk_below (g := gb260) (o := .cells #[.slice Ao41 t256.length co41] 28 (0, 0)) (by (with_reducible repeat (first | refine blk_drewN ?_ _ | refine blk_drew ?_ | refine blk_alloc ?_ _)); refine blk_put (cs := #[.slice none 0 0]) ?_ 0 _ rfl; (with_reducible repeat (first | refine blk_drewN ?_ _ | refine blk_drew ?_ | refine blk_alloc ?_ _)); exact BK260.out) hb); replace HB := sB HB hb; (try clear hb); (try clear hb2); (try clear hk); (try clear hi); (try clear ho0)) | ((with_reducible refine gate_dst (N := 8) rfl ?_); refine box_event ?hg (N := 8) ?hd (cs := #[.slice none 0 0]) (t := 28) ?hr ?_; (case hd => rfl); (case hg => rfl); (case hr => first | (go_simp; done) | (go_simp; rfl)); intro gb264 hg w46 hbox hb; replace HO252 := rA HO252 hb; replace HO255 := rA HO255 hb; replace HO258 := rA HO258 hb; replace HO263 := rA HO263 hb; have BK264 := Aside0.mk (hbox); have GW264 := zB HB hg; have GE264 := zB HB hg; replace HB := sB HB hb; have NB246_264 := lA BK246 hg; have NB264_246 := gA BK246 hg; replace BK246 := bA BK246 hb; have NB247_264 := lA BK247 hg; have NB264_247 := gA BK247 hg; replace BK247 := bA BK247 hb; have NB260_264 := lA BK260 hg; have NB264_260 := gA BK260 hg; replace BK260 := bA BK260 hb; clear hb hbox hg; obtain ⟨Ao47, co47, eo47⟩ := Kd.R_slice HO263.out; subst eo47; have hnb48 := NB264_246.out; have hnc48 := NB246_264.out; have hnb49 := NB264_247.out; have hnc49 := NB247_264.out; have hnb50 := NB264_260.out; have hnc50 := NB260_264.out; have hcz51_0 : w46.cell? ⟨gb264, 0, none⟩ = some (.slice none 0 0) := (blk_cell BK264.out 0).trans rfl; have hfz51_0 := blk_frozen BK264.out 0; have hnb52 := NB247_260.out; have hnc52 := NB260_247.out; have hcz53_0 : w46.cell? ⟨gb247, 0, none⟩ = some (.slice A1_0 l1_0.length c1_0) := (blk_cell BK247.out 0).trans rfl; have hfz53_0 := blk_frozen BK247.out 0) | ((with_reducible refine gate_callee (f := 7) rfl ?_); refine goesL_ (some 38) rfl rfl Try.func7 (by kernel_rfl) rfl #[.agg #[.slice A1_0 l1_0.length c1_0]] rfl (by (try simp only [List.map_toArray, List.map_cons, List.map_nil]); first | done | rfl) ?_; (with_reducible refine (laws_toPicture.calls k _ _ l1_0 t265 _ ?side1 ?side2 A23.out).mono ?_); (case side1 => exact Kd.C_below HR1_0.out (sT HB)); (case side2 => exact HC1_0.out); rintro e w54 ⟨v266, rfl, ho0, hb⟩; refine ⟨_, rfl, ?_⟩; have HO267 := Aside0.mk (Kd.R_lower (Kd.R_new' (Kd.R_new' (Kd.R_new' (Kd.R_new' ho0 (Kd.R_lt (by (with_reducible repeat (first | apply Kd.R_alloc | apply Kd.R_drewN | apply Kd.R_drew)); exact (Kd.R_mono (Kd.R_far (p := ⟨gb264, 0, none⟩) (Kd.R_types HO252.out BK264.out (by decide)) (fun _ hk => hk.2) (.slice Ao47 t261.length co47)) (fun _ h_ => h_.1))))) (Kd.R_lt (by (with_reducible repeat (first | apply Kd.R_alloc | apply Kd.R_drewN | apply Kd.R_drew)); exact (Kd.R_mono (Kd.R_far (p := ⟨gb264, 0, none⟩) (Kd.R_types HO255.out BK264.out (by decide)) (fun _ hk => hk.2) (.slice Ao47 t261.length co47)) (fun _ h_ => h_.1))))) (Kd.R_lt (by (with_reducible repeat (first | apply Kd.R_alloc | apply Kd.R_drewN | apply Kd.R_drew)); exact (Kd.R_mono (Kd.R_far (p := ⟨gb264, 0, none⟩) (Kd.R_types HO258.out BK264.out (by decide)) (fun _ hk => hk.2) (.slice Ao47 t261.length co47)) (fun _ h_ => h_.1))))) (Kd.R_lt (by (with_reducible repeat (first | apply Kd.R_alloc | apply Kd.R_drewN | apply Kd.R_drew)); exact (Kd.R_mono (Kd.R_far (p := ⟨gb264, 0, none⟩) (Kd.R_types HO263.out BK264.out (by decide)) (fun _ hk => hk.2) (.slice Ao47 t261.length co47)) (fun _ h_ => h_.1))))) (below_size (sT HB))); replace HO252 := Aside0.mk (Kd.R_elder' (by (with_reducible repeat (first | apply Kd.R_alloc | apply Kd.R_drewN | apply Kd.R_drew)); exact (Kd.R_mono (Kd.R_far (p := ⟨gb264, 0, none⟩) (Kd.R_types HO252.out BK264.out (by decide)) (fun _ hk => hk.2) (.slice Ao47 t261.length co47)) (fun _ h_ => h_.1))) (Kd.R_base ho0) hb); replace HO255 := Aside0.mk (Kd.R_elder' (by (with_reducible repeat (first | apply Kd.R_alloc | apply Kd.R_drewN | apply Kd.R_drew)); exact (Kd.R_mono (Kd.R_far (p := ⟨gb264, 0, none⟩) (Kd.R_types HO255.out BK264.out (by decide)) (fun _ hk => hk.2) (.slice Ao47 t261.length co47)) (fun _ h_ => h_.1))) (Kd.R_base ho0) hb); replace HO258 := Aside0.mk (Kd.R_elder' (by (with_reducible repeat (first | apply Kd.R_alloc | apply Kd.R_drewN | apply Kd.R_drew)); exact (Kd.R_mono (Kd.R_far (p := ⟨gb264, 0, none⟩) (Kd.R_types HO258.out BK264.out (by decide)) (fun _ hk => hk.2) (.slice Ao47 t261.length co47)) (fun _ h_ => h_.1))) (Kd.R_base ho0) hb); replace HO263 := Aside0.mk (Kd.R_elder' (by (with_reducible repeat (first | apply Kd.R_alloc | apply Kd.R_drewN | apply Kd.R_drew)); exact (Kd.R_mono (Kd.R_far (p := ⟨gb264, 0, none⟩) (Kd.R_types HO263.out BK264.out (by decide)) (fun _ hk => hk.2) (.slice Ao47 t261.length co47)) (fun _ h_ => h_.1))) (Kd.R_base ho0) hb); replace BK246 := Aside0.mk (blk_below (g := gb246) (o := .cells #[.slice A0_0 l0_0.length c0_0] 24 (0, 0)) (by (with_reducible repeat (first | refine blk_drewN ?_ _ | refine blk_drew ?_ | refine blk_alloc ?_ _)); refine blk_far ?_ NB246_264.out _; (with_reducible repeat (first | refine blk_drewN ?_ _ | refine blk_drew ?_ | refine blk_alloc ?_ _)); exact BK246.out) hb); replace BK247 := Aside0.mk (blk_below (g := gb247) (o := .cells #[.slice A1_0 l1_0.length c1_0] 24 (0, 0)) (by (with_reducible repeat (first | refine blk_drewN ?_ _ | refine blk_drew ?_ | refine blk_alloc ?_ _)); refine blk_far ?_ NB247_264.out _; (with_reducible repeat (first | refine blk_drewN ?_ _ | refine blk_drew ?_ | refine blk_alloc ?_ _)); exact BK247.out) hb); replace BK260 := Aside0.mk (blk_below (g := gb260) (o := .cells #[.slice Ao41 t256.length co41] 28 (0, 0)) (by (with_reducible repeat (first | refine blk_drewN ?_ _ | refine blk_drew ?_ | refine blk_alloc ?_ _)); refine blk_far ?_ NB260_264.out _; (with_reducible repeat (first | refine blk_drewN ?_ _ | refine blk_drew ?_ | refine blk_alloc ?_ _)); exact BK260.out) hb); replace BK264 := Aside0.mk (blk_below (g := gb264) (o := .cells #[.slice Ao47 t261.length co47] 28 (0, 0)) (by (with_reducible repeat (first | refine blk_drewN ?_ _ | refine blk_drew ?_ | refine blk_alloc ?_ _)); refine blk_put (cs := #[.slice none 0 0]) ?_ 0 _ rfl; (with_reducible repeat (first | refine blk_drewN ?_ _ | refine blk_drew ?_ | refine blk_alloc ?_ _)); exact BK264.out) hb); replace HB := sB HB hb; (try clear hb); (try clear hb2); (try clear hk); (try clear hi); (try clear ho0)) | ((with_reducible refine gate_dst (N := 9) rfl ?_); refine box_event ?hg (N := 9) ?hd (cs := #[.slice none 0 0]) (t := 28) ?hr ?_; (case hd => rfl); (case hg => rfl); (case hr => first | (go_simp; done) | (go_simp; rfl)); intro gb268 hg w55 hbox hb; replace HO252 := rA HO252 hb; replace HO255 := rA HO255 hb; replace HO258 := rA HO258 hb; replace HO263 := rA HO263 hb; replace HO267 := rA HO267 hb; have BK268 := Aside0.mk (hbox); have GW268 := zB HB hg; have GE268 := zB HB hg; replace HB := sB HB hb; have NB246_268 := lA BK246 hg; have NB268_246 := gA BK246 hg; replace BK246 := bA BK246 hb; have NB247_268 := lA BK247 hg; have NB268_247 := gA BK247 hg; replace BK247 := bA BK247 hb; have NB260_268 := lA BK260 hg; have NB268_260 := gA BK260 hg; replace BK260 := bA BK260 hb; have NB264_268 := lA BK264 hg; have NB268_264 := gA BK264 hg; replace BK264 := bA BK264 hb; clear hb hbox hg; obtain ⟨Ao56, co56, eo56⟩ := Kd.R_slice HO267.out; subst eo56; have hnb57 := NB268_246.out; have hnc57 := NB246_268.out; have hnb58 := NB268_247.out; have hnc58 := NB247_268.out; have hnb59 := NB268_260.out; have hnc59 := NB260_268.out; have hnb60 := NB268_264.out; have hnc60 := NB264_268.out; have hcz61_0 : w55.cell? ⟨gb268, 0, none⟩ = some (.slice none 0 0) := (blk_cell BK268.out 0).trans rfl; have hfz61_0 := blk_frozen BK268.out 0; have hcz62_0 : w55.cell? ⟨gb264, 0, none⟩ = some (.slice Ao47 t261.length co47) := (blk_cell BK264.out 0).trans rfl; have hfz62_0 := blk_frozen BK264.out 0) | ((with_reducible refine gate_callee (f := 13) rfl ?_); refine goesL_ (some 42) rfl rfl Try.func13 (by kernel_rfl) rfl #[.agg #[.slice Ao47 t261.length co47], .agg #[.slice Ao56 t265.length co56]] rfl (by (try simp only [List.map_toArray, List.map_cons, List.map_nil]); first | done | rfl) ?_; (with_reducible refine (impl_SumOfPictures.calls k _ _ t261 _ _ t265 t269 t272 _ ?side1 ?side2 ?side3 ?side4 A24.out).mono ?_); (case side1 => refine (Kd.R_reads' (e := 47) (base := w.heap.size) (ok := fun k_ => ((((True ∧ some k_ ≠ (v251 : Value).ownBlock) ∧ some k_ ≠ (v254 : Value).ownBlock) ∧ some k_ ≠ (.slice Ao41 t256.length co41 : Value).ownBlock) ∧ some k_ ≠ (.slice Ao56 t265.length co56 : Value).ownBlock)) (n := t261.length) (c := co47) ?_).2.2; exact (by (with_reducible repeat (first | apply Kd.R_alloc | apply Kd.R_drewN | apply Kd.R_drew)); exact (Kd.R_mono (Kd.R_far (p := ⟨gb268, 0, none⟩) (Kd.R_types HO263.out BK268.out (by decide)) (fun _ hk => hk.2) (.slice Ao56 t265.length co56)) (fun _ h_ => h_.1)))); (case side2 => exact (Kd.R_reads' HO263.out).2.1); (case side3 => refine (Kd.R_reads' (e := 47) (base := w.heap.size) (ok := fun k_ => ((((True ∧ some k_ ≠ (v251 : Value).ownBlock) ∧ some k_ ≠ (v254 : Value).ownBlock) ∧ some k_ ≠ (.slice Ao41 t256.length co41 : Value).ownBlock) ∧ some k_ ≠ (.slice Ao47 t261.length co47 : Value).ownBlock)) (n := t265.length) (c := co56) ?_).2.2; exact (by (with_reducible repeat (first | apply Kd.R_alloc | apply Kd.R_drewN | apply Kd.R_drew)); exact (Kd.R_mono (Kd.R_far (p := ⟨gb268, 0, none⟩) (Kd.R_types HO267.out BK268.out (by decide)) (fun _ hk => hk.2) (.slice Ao56 t265.length co56)) (fun _ h_ => h_.1)))); (case side4 => exact (Kd.R_reads' HO267.out).2.1); rintro e w63 ⟨v270, rfl, ho0, hb⟩; refine ⟨_, rfl, ?_⟩; have HO271 := Aside0.mk (Kd.R_lower (Kd.R_new' (Kd.R_new' (Kd.R_new' (Kd.R_new' (Kd.R_new' ho0 (Kd.R_lt (by (with_reducible repeat (first | apply Kd.R_alloc | apply Kd.R_drewN | apply Kd.R_drew)); exact (Kd.R_mono (Kd.R_far (p := ⟨gb268, 0, none⟩) (Kd.R_types HO252.out BK268.out (by decide)) (fun _ hk => hk.2) (.slice Ao56 t265.length co56)) (fun _ h_ => h_.1))))) (Kd.R_lt (by (with_reducible repeat (first | apply Kd.R_alloc | apply Kd.R_drewN | apply Kd.R_drew)); exact (Kd.R_mono (Kd.R_far (p := ⟨gb268, 0, none⟩) (Kd.R_types HO255.out BK268.out (by decide)) (fun _ hk => hk.2) (.slice Ao56 t265.length co56)) (fun _ h_ => h_.1))))) (Kd.R_lt (by (with_reducible repeat (first | apply Kd.R_alloc | apply Kd.R_drewN | apply Kd.R_drew)); exact (Kd.R_mono (Kd.R_far (p := ⟨gb268, 0, none⟩) (Kd.R_types HO258.out BK268.out (by decide)) (fun _ hk => hk.2) (.slice Ao56 t265.length co56)) (fun _ h_ => h_.1))))) (Kd.R_lt (by (with_reducible repeat (first | apply Kd.R_alloc | apply Kd.R_drewN | apply Kd.R_drew)); exact (Kd.R_mono (Kd.R_far (p := ⟨gb268, 0, none⟩) (Kd.R_types HO263.out BK268.out (by decide)) (fun _ hk => hk.2) (.slice Ao56 t265.length co56)) (fun _ h_ => h_.1))))) (Kd.R_lt (by (with_reducible repeat (first | apply Kd.R_alloc | apply Kd.R_drewN | apply Kd.R_drew)); exact (Kd.R_mono (Kd.R_far (p := ⟨gb268, 0, none⟩) (Kd.R_types HO267.out BK268.out (by decide)) (fun _ hk => hk.2) (.slice Ao56 t265.length co56)) (fun _ h_ => h_.1))))) (below_size (sT HB))); replace HO252 := Aside0.mk (Kd.R_elder' (by (with_reducible repeat (first | apply Kd.R_alloc | apply Kd.R_drewN | apply Kd.R_drew)); exact (Kd.R_mono (Kd.R_far (p := ⟨gb268, 0, none⟩) (Kd.R_types HO252.out BK268.out (by decide)) (fun _ hk => hk.2) (.slice Ao56 t265.length co56)) (fun _ h_ => h_.1))) (Kd.R_base ho0) hb); replace HO255 := Aside0.mk (Kd.R_elder' (by (with_reducible repeat (first | apply Kd.R_alloc | apply Kd.R_drewN | apply Kd.R_drew)); exact (Kd.R_mono (Kd.R_far (p := ⟨gb268, 0, none⟩) (Kd.R_types HO255.out BK268.out (by decide)) (fun _ hk => hk.2) (.slice Ao56 t265.length co56)) (fun _ h_ => h_.1))) (Kd.R_base ho0) hb); replace HO258 := Aside0.mk (Kd.R_elder' (by (with_reducible repeat (first | apply Kd.R_alloc | apply Kd.R_drewN | apply Kd.R_drew)); exact (Kd.R_mono (Kd.R_far (p := ⟨gb268, 0, none⟩) (Kd.R_types HO258.out BK268.out (by decide)) (fun _ hk => hk.2) (.slice Ao56 t265.length co56)) (fun _ h_ => h_.1))) (Kd.R_base ho0) hb); replace HO263 := Aside0.mk (Kd.R_elder' (by (with_reducible repeat (first | apply Kd.R_alloc | apply Kd.R_drewN | apply Kd.R_drew)); exact (Kd.R_mono (Kd.R_far (p := ⟨gb268, 0, none⟩) (Kd.R_types HO263.out BK268.out (by decide)) (fun _ hk => hk.2) (.slice Ao56 t265.length co56)) (fun _ h_ => h_.1))) (Kd.R_base ho0) hb); replace HO267 := Aside0.mk (Kd.R_elder' (by (with_reducible repeat (first | apply Kd.R_alloc | apply Kd.R_drewN | apply Kd.R_drew)); exact (Kd.R_mono (Kd.R_far (p := ⟨gb268, 0, none⟩) (Kd.R_types HO267.out BK268.out (by decide)) (fun _ hk => hk.2) (.slice Ao56 t265.length co56)) (fun _ h_ => h_.1))) (Kd.R_base ho0) hb); replace BK246 := Aside0.mk (blk_below (g := gb246) (o := .cells #[.slice A0_0 l0_0.length c0_0] 24 (0, 0)) (by (with_reducible repeat (first | refine blk_drewN ?_ _ | refine blk_drew ?_ | refine blk_alloc ?_ _)); refine blk_far ?_ NB246_268.out _; (with_reducible repeat (first | refine blk_drewN ?_ _ | refine blk_drew ?_ | refine blk_alloc ?_ _)); exact BK246.out) hb); replace BK247 := Aside0.mk (blk_below (g := gb247) (o := .cells #[.slice A1_0 l1_0.length c1_0] 24 (0, 0)) (by (with_reducible repeat (first | refine blk_drewN ?_ _ | refine blk_drew ?_ | refine blk_alloc ?_ _)); refine blk_far ?_ NB247_268.out _; (with_reducible repeat (first | refine blk_drewN ?_ _ | refine blk_drew ?_ | refine blk_alloc ?_ _)); exact BK247.out) hb); replace BK260 := Aside0.mk (blk_below (g := gb260) (o := .cells #[.slice Ao41 t256.length co41] 28 (0, 0)) (by (with_reducible repeat (first | refine blk_drewN ?_ _ | refine blk_drew ?_ | refine blk_alloc ?_ _)); refine blk_far ?_ NB260_268.out _; (with_reducible repeat (first | refine blk_drewN ?_ _ | refine blk_drew ?_ | refine blk_alloc ?_ _)); exact BK260.out) hb); replace BK264 := Aside0.mk (blk_below (g := gb264) (o := .cells #[.slice Ao47 t261.length co47] 28 (0, 0)) (by (with_reducible repeat (first | refine blk_drewN ?_ _ | refine blk_drew ?_ | refine blk_alloc ?_ _)); refine blk_far ?_ NB264_268.out _; (with_reducible repeat (first | refine blk_drewN ?_ _ | refine blk_drew ?_ | refine blk_alloc ?_ _)); exact BK264.out) hb); replace BK268 := Aside0.mk (blk_below (g := gb268) (o := .cells #[.slice Ao56 t265.length co56] 28 (0, 0)) (by (with_reducible repeat (first | refine blk_drewN ?_ _ | refine blk_drew ?_ | refine blk_alloc ?_ _)); refine blk_put (cs := #[.slice none 0 0]) ?_ 0 _ rfl; (with_reducible repeat (first | refine blk_drewN ?_ _ | refine blk_drew ?_ | refine blk_alloc ?_ _)); exact BK268.out) hb); replace HB := sB HB hb; (try clear hb); (try clear hb2); (try clear hk); (try clear hi); (try clear ho0)) | ((with_reducible refine gate_dst (N := 10) rfl ?_); refine box_event ?hg (N := 10) ?hd (cs := #[.slice none 0 0]) (t := 28) ?hr ?_; (case hd => rfl); (case hg => rfl); (case hr => first | (go_simp; done) | (go_simp; rfl)); intro gb273 hg w64 hbox hb; replace HO252 := rA HO252 hb; replace HO255 := rA HO255 hb; replace HO258 := rA HO258 hb; replace HO263 := rA HO263 hb; replace HO267 := rA HO267 hb; replace HO271 := rA HO271 hb; have BK273 := Aside0.mk (hbox); have GW273 := zB HB hg; have GE273 := zB HB hg; replace HB := sB HB hb; have NB246_273 := lA BK246 hg; have NB273_246 := gA BK246 hg; replace BK246 := bA BK246 hb; have NB247_273 := lA BK247 hg; have NB273_247 := gA BK247 hg; replace BK247 := bA BK247 hb; have NB260_273 := lA BK260 hg; have NB273_260 := gA BK260 hg; replace BK260 := bA BK260 hb; have NB264_273 := lA BK264 hg; have NB273_264 := gA BK264 hg; replace BK264 := bA BK264 hb; have NB268_273 := lA BK268 hg; have NB273_268 := gA BK268 hg; replace BK268 := bA BK268 hb; clear hb hbox hg; obtain ⟨Ao65, co65, eo65⟩ := Kd.R_slice HO271.out; subst eo65; have hnb66 := NB273_246.out; have hnc66 := NB246_273.out; have hnb67 := NB273_247.out; have hnc67 := NB247_273.out; have hnb68 := NB273_260.out; have hnc68 := NB260_273.out; have hnb69 := NB273_264.out; have hnc69 := NB264_273.out; have hnb70 := NB273_268.out; have hnc70 := NB268_273.out; have hcz71_0 : w64.cell? ⟨gb273, 0, none⟩ = some (.slice none 0 0) := (blk_cell BK273.out 0).trans rfl; have hfz71_0 := blk_frozen BK273.out 0))
   (try simp only [Act.put, List.setIfInBounds_toArray, List.set_cons_zero, List.set_cons_succ])
   go_cut [53] (fun v53 wc => ∃ (kq : Nat) (x53_24 : Bool), v53 = .bool x53_24 ∧ Aside0 (laws_FnExactSumOfPictures.j0 kq t259 t272 x53_24 l0_0 l1_0 t256 t261 t265 t269 = some r) ∧ Aside0 (kq ≤ k) ∧ Aside0 (Kd.R k47 47 wc w.heap.size (fun k_ => some k_ ≠ ((.slice Ao47 t261.length co47) : Value).ownBlock ∧ some k_ ≠ ((.slice Ao56 t265.length co56) : Value).ownBlock ∧ some k_ ≠ ((.slice Ao65 t269.length co65) : Value).ownBlock) (.slice Ao41 t256.length co41) t256) ∧ Aside0 (Kd.R k47 47 wc w.heap.size (fun k_ => some k_ ≠ ((.slice Ao41 t256.length co41) : Value).ownBlock ∧ some k_ ≠ ((.slice Ao56 t265.length co56) : Value).ownBlock ∧ some k_ ≠ ((.slice Ao65 t269.length co65) : Value).ownBlock) (.slice Ao47 t261.length co47) t261) ∧ Aside0 (Kd.R k47 47 wc w.heap.size (fun k_ => some k_ ≠ ((.slice Ao41 t256.length co41) : Value).ownBlock ∧ some k_ ≠ ((.slice Ao47 t261.length co47) : Value).ownBlock ∧ some k_ ≠ ((.slice Ao65 t269.length co65) : Value).ownBlock) (.slice Ao56 t265.length co56) t265) ∧ Aside0 (Kd.R k47 47 wc w.heap.size (fun k_ => some k_ ≠ ((.slice Ao41 t256.length co41) : Value).ownBlock ∧ some k_ ≠ ((.slice Ao47 t261.length co47) : Value).ownBlock ∧ some k_ ≠ ((.slice Ao56 t265.length co56) : Value).ownBlock) (.slice Ao65 t269.length co65) t269) ∧ Aside0 (wc.heap[gb246]? = some (.cells #[(.slice A0_0 l0_0.length c0_0)] 24 (0, 0))) ∧ Aside0 (wc.heap[gb247]? = some (.cells #[(.slice A1_0 l1_0.length c1_0)] 24 (0, 0))) ∧ Aside0 (wc.heap[gb260]? = some (.cells #[(.slice Ao41 t256.length co41)] 28 (0, 0))) ∧ Aside0 (wc.heap[gb264]? = some (.cells #[(.slice Ao47 t261.length co47)] 28 (0, 0))) ∧ Aside0 (wc.heap[gb268]? = some (.cells #[(.slice Ao56 t265.length co56)] 28 (0, 0))) ∧ Aside0 (wc.heap[gb273]? = some (.cells #[(.slice Ao65 t269.length co65)] 28 (0, 0))) ∧ Aside0 (Below w.heap.size w wc))
   case first =>
    have H := HC25.out
    clear HC25
    replace H := Option.bind_eq_some_iff.mp H
    obtain ⟨t274, A720, H⟩ := H
    replace H : (if t274 = true then (laws_FnExactSumOfPictures.j0 k t259 t272 (t272 != t259) l0_0 l1_0 t256 t261 t265 t269) else (laws_FnExactSumOfPictures.j0 k t259 t272 true l0_0 l1_0 t256 t261 t265 t269)) = some r := H
    have A72 := Aside0.mk A720
    clear A720
    by_cases c73 : t274 = true
    ·subst c73
     have H1 : (laws_FnExactSumOfPictures.j0 k t259 t272 (t272 != t259) l0_0 l1_0 t256 t261 t265 t269) = some r := by rw [if_pos rfl] at H; exact H
     clear H
     have H := H1
     clear H1
     have H' := Aside0.mk H
     clear H
     have hnb74 := NB273_246.out
     have hnc74 := NB246_273.out
     have hnb75 := NB273_247.out
     have hnc75 := NB247_273.out
     have hnb76 := NB273_260.out
     have hnc76 := NB260_273.out
     have hnb77 := NB273_264.out
     have hnc77 := NB264_273.out
     have hnb78 := NB273_268.out
     have hnc78 := NB268_273.out
     have hcz79_0 : w64.cell? ⟨gb273, 0, none⟩ = some (.slice none 0 0) := (blk_cell BK273.out 0).trans rfl
     have hfz79_0 := blk_frozen BK273.out 0
     have hnb80 := NB260_246.out
     have hnc80 := NB246_260.out
     have hnb81 := NB260_247.out
     have hnc81 := NB247_260.out
     have hnb82 := NB260_264.out
     have hnc82 := NB264_260.out
     have hnb83 := NB260_268.out
     have hnc83 := NB268_260.out
     have hcz84_0 : w64.cell? ⟨gb260, 0, none⟩ = some (.slice Ao41 t256.length co41) := (blk_cell BK260.out 0).trans rfl
     have hfz84_0 := blk_frozen BK260.out 0
     go_wp2_with (first | ((with_reducible refine gate_callee (f := 9) rfl ?_); refine goesL_ (some 47) rfl rfl Try.func9 (by kernel_rfl) rfl #[.agg #[.slice Ao65 t269.length co65], .agg #[.slice Ao41 t256.length co41]] rfl (by (try simp only [List.map_toArray, List.map_cons, List.map_nil]); first | done | rfl) ?_; (with_reducible refine (laws_eqPicture.calls k _ _ t269 _ _ t256 true _ ?side1 ?side2 ?side3 ?side4 A72.out).mono ?_); (case side1 => refine (Kd.R_reads' (e := 47) (base := w.heap.size) (ok := fun k_ => (((((True ∧ some k_ ≠ (v251 : Value).ownBlock) ∧ some k_ ≠ (v254 : Value).ownBlock) ∧ some k_ ≠ (.slice Ao41 t256.length co41 : Value).ownBlock) ∧ some k_ ≠ (.slice Ao47 t261.length co47 : Value).ownBlock) ∧ some k_ ≠ (.slice Ao56 t265.length co56 : Value).ownBlock)) (n := t269.length) (c := co65) ?_).2.2; exact (by (with_reducible repeat (first | apply Kd.R_alloc | apply Kd.R_drewN | apply Kd.R_drew)); exact (Kd.R_mono (Kd.R_far (p := ⟨gb273, 0, none⟩) (Kd.R_types HO271.out BK273.out (by decide)) (fun _ hk => hk.2) (.slice Ao65 t269.length co65)) (fun _ h_ => h_.1)))); (case side2 => exact (Kd.R_reads' HO271.out).2.1); (case side3 => refine (Kd.R_reads' (e := 47) (base := w.heap.size) (ok := fun k_ => ((((some k_ ≠ (v251 : Value).ownBlock ∧ some k_ ≠ (v254 : Value).ownBlock) ∧ some k_ ≠ (.slice Ao47 t261.length co47 : Value).ownBlock) ∧ some k_ ≠ (.slice Ao56 t265.length co56 : Value).ownBlock) ∧ some k_ ≠ (.slice Ao65 t269.length co65 : Value).ownBlock)) (n := t256.length) (c := co41) ?_).2.2; exact (by (with_reducible repeat (first | apply Kd.R_alloc | apply Kd.R_drewN | apply Kd.R_drew)); exact (Kd.R_mono (Kd.R_far (p := ⟨gb273, 0, none⟩) (Kd.R_types HO258.out BK273.out (by decide)) (fun _ hk => hk.2) (.slice Ao65 t269.length co65)) (fun _ h_ => h_.1)))); (case side4 => exact (Kd.R_reads' HO258.out).2.1); rintro e w85 ⟨rfl, hb⟩; refine ⟨_, rfl, ?_⟩; replace HO252 := Aside0.mk (Kd.R_below (by (with_reducible repeat (first | apply Kd.R_alloc | apply Kd.R_drewN | apply Kd.R_drew)); exact (Kd.R_mono (Kd.R_far (p := ⟨gb273, 0, none⟩) (Kd.R_types HO252.out BK273.out (by decide)) (fun _ hk => hk.2) (.slice Ao65 t269.length co65)) (fun _ h_ => h_.1))) hb); replace HO255 := Aside0.mk (Kd.R_below (by (with_reducible repeat (first | apply Kd.R_alloc | apply Kd.R_drewN | apply Kd.R_drew)); exact (Kd.R_mono (Kd.R_far (p := ⟨gb273, 0, none⟩) (Kd.R_types HO255.out BK273.out (by decide)) (fun _ hk => hk.2) (.slice Ao65 t269.length co65)) (fun _ h_ => h_.1))) hb); replace HO258 := Aside0.mk (Kd.R_below (by (with_reducible repeat (first | apply Kd.R_alloc | apply Kd.R_drewN | apply Kd.R_drew)); exact (Kd.R_mono (Kd.R_far (p := ⟨gb273, 0, none⟩) (Kd.R_types HO258.out BK273.out (by decide)) (fun _ hk => hk.2) (.slice Ao65 t269.length co65)) (fun _ h_ => h_.1))) hb); replace HO263 := Aside0.mk (Kd.R_below (by (with_reducible repeat (first | apply Kd.R_alloc | apply Kd.R_drewN | apply Kd.R_drew)); exact (Kd.R_mono (Kd.R_far (p := ⟨gb273, 0, none⟩) (Kd.R_types HO263.out BK273.out (by decide)) (fun _ hk => hk.2) (.slice Ao65 t269.length co65)) (fun _ h_ => h_.1))) hb); replace HO267 := Aside0.mk (Kd.R_below (by (with_reducible repeat (first | apply Kd.R_alloc | apply Kd.R_drewN | apply Kd.R_drew)); exact (Kd.R_mono (Kd.R_far (p := ⟨gb273, 0, none⟩) (Kd.R_types HO267.out BK273.out (by decide)) (fun _ hk => hk.2) (.slice Ao65 t269.length co65)) (fun _ h_ => h_.1))) hb); replace HO271 := Aside0.mk (Kd.R_below (by (with_reducible repeat (first | apply Kd.R_alloc | apply Kd.R_drewN | apply Kd.R_drew)); exact (Kd.R_mono (Kd.R_far (p := ⟨gb273, 0, none⟩) (Kd.R_types HO271.out BK273.out (by decide)) (fun _ hk => hk.2) (.slice Ao65 t269.length co65)) (fun _ h_ => h_.1))) hb); replace BK246 := Aside0.mk (blk_below (g := gb246) (o := .cells #[.slice A0_0 l0_0.length c0_0] 24 (0, 0)) (by (with_reducible repeat (first | refine blk_drewN ?_ _ | refine blk_drew ?_ | refine blk_alloc ?_ _)); refine blk_far ?_ NB246_273.out _; (with_reducible repeat (first | refine blk_drewN ?_ _ | refine blk_drew ?_ | refine blk_alloc ?_ _)); exact BK246.out) hb); replace BK247 := Aside0.mk (blk_below (g := gb247) (o := .cells #[.slice A1_0 l1_0.length c1_0] 24 (0, 0)) (by (with_reducible repeat (first | refine blk_drewN ?_ _ | refine blk_drew ?_ | refine blk_alloc ?_ _)); refine blk_far ?_ NB247_273.out _; (with_reducible repeat (first | refine blk_drewN ?_ _ | refine blk_drew ?_ | refine blk_alloc ?_ _)); exact BK247.out) hb); replace BK260 := Aside0.mk (blk_below (g := gb260) (o := .cells #[.slice Ao41 t256.length co41] 28 (0, 0)) (by (with_reducible repeat (first | refine blk_drewN ?_ _ | refine blk_drew ?_ | refine blk_alloc ?_ _)); refine blk_far ?_ NB260_273.out _; (with_reducible repeat (first | refine blk_drewN ?_ _ | refine blk_drew ?_ | refine blk_alloc ?_ _)); exact BK260.out) hb); replace BK264 := Aside0.mk (blk_below (g := gb264) (o := .cells #[.slice Ao47 t261.length co47] 28 (0, 0)) (by (with_reducible repeat (first | refine blk_drewN ?_ _ | refine blk_drew ?_ | refine blk_alloc ?_ _)); refine blk_far ?_ NB264_273.out _; (with_reducible repeat (first | refine blk_drewN ?_ _ | refine blk_drew ?_ | refine blk_alloc ?_ _)); exact BK264.out) hb); replace BK268 := Aside0.mk (blk_below (g := gb268) (o := .cells #[.slice Ao56 t265.length co56] 28 (0, 0)) (by (with_reducible repeat (first | refine blk_drewN ?_ _ | refine blk_drew ?_ | refine blk_alloc ?_ _)); refine blk_far ?_ NB268_273.out _; (with_reducible repeat (first | refine blk_drewN ?_ _ | refine blk_drew ?_ | refine blk_alloc ?_ _)); exact BK268.out) hb); replace BK273 := Aside0.mk (blk_below (g := gb273) (o := .cells #[.slice Ao65 t269.length co65] 28 (0, 0)) (by (with_reducible repeat (first | refine blk_drewN ?_ _ | refine blk_drew ?_ | refine blk_alloc ?_ _)); refine blk_put (cs := #[.slice none 0 0]) ?_ 0 _ rfl; (with_reducible repeat (first | refine blk_drewN ?_ _ | refine blk_drew ?_ | refine blk_alloc ?_ _)); exact BK273.out) hb); replace HB := sB HB hb; (try clear hb); (try clear hb2); (try clear hk); (try clear hi)))
     go_meet
     case rel => exact ⟨_, ((t272 != t259)), (by first | rfl | (simp; done) | (simp [*]; done)), H', ⟨by first | omega | exact Nat.le_refl _⟩, ⟨by (with_reducible repeat (first | apply Kd.R_alloc | apply Kd.R_drewN | apply Kd.R_drew)); exact Kd.R_mono HO258.out (fun _ hk => ⟨hk.1.1.2, ⟨hk.1.2, hk.2⟩⟩)⟩, ⟨by (with_reducible repeat (first | apply Kd.R_alloc | apply Kd.R_drewN | apply Kd.R_drew)); exact Kd.R_mono HO263.out (fun _ hk => ⟨hk.1.1.2, ⟨hk.1.2, hk.2⟩⟩)⟩, ⟨by (with_reducible repeat (first | apply Kd.R_alloc | apply Kd.R_drewN | apply Kd.R_drew)); exact Kd.R_mono HO267.out (fun _ hk => ⟨hk.1.1.2, ⟨hk.1.2, hk.2⟩⟩)⟩, ⟨by (with_reducible repeat (first | apply Kd.R_alloc | apply Kd.R_drewN | apply Kd.R_drew)); exact Kd.R_mono HO271.out (fun _ hk => ⟨hk.1.1.2, ⟨hk.1.2, hk.2⟩⟩)⟩, ⟨by (with_reducible repeat (first | refine blk_drewN ?_ _ | refine blk_drew ?_ | refine blk_alloc ?_ _)); exact BK246.out⟩, ⟨by (with_reducible repeat (first | refine blk_drewN ?_ _ | refine blk_drew ?_ | refine blk_alloc ?_ _)); exact BK247.out⟩, ⟨by (with_reducible repeat (first | refine blk_drewN ?_ _ | refine blk_drew ?_ | refine blk_alloc ?_ _)); exact BK260.out⟩, ⟨by (with_reducible repeat (first | refine blk_drewN ?_ _ | refine blk_drew ?_ | refine blk_alloc ?_ _)); exact BK264.out⟩, ⟨by (with_reducible repeat (first | refine blk_drewN ?_ _ | refine blk_drew ?_ | refine blk_alloc ?_ _)); exact BK268.out⟩, ⟨by (with_reducible repeat (first | refine blk_drewN ?_ _ | refine blk_drew ?_ | refine blk_alloc ?_ _)); exact BK273.out⟩, ⟨by repeat (first | (with_reducible first | exact HB.out | apply below_alloc | apply pw_below_drewN | apply below_drew1 | refine below_set ?_ GE246.out | refine below_set ?_ GE247.out | refine below_set ?_ GE260.out | refine below_set ?_ GE264.out | refine below_set ?_ GE268.out | refine below_set ?_ GE273.out) | exact HB.out)⟩⟩
    ·replace c73 := Bool.eq_false_iff.mpr c73
     subst c73
     have H1 : (laws_FnExactSumOfPictures.j0 k t259 t272 true l0_0 l1_0 t256 t261 t265 t269) = some r := by rw [if_neg (show ¬ (false = true) by decide)] at H; exact H
     exfalso
     cases k with
     | zero => simp [laws_FnExactSumOfPictures.j0] at H1
     | succ n_ =>
      simp only [laws_FnExactSumOfPictures.j0, if_true] at H1
      exact absurd ((Option.some.inj H1).trans hr_.out) (by decide)
   case rest =>
    clear HC25
    try clear c1
    try clear p2
    try clear c4
    try clear c5
    try clear c6
    try clear c7
    try clear c8
    try clear c9
    try clear c12
    try clear c13
    try clear c43
    try clear c48
    try clear c49
    try clear c50
    try clear c52
    try clear c57
    try clear c58
    try clear c59
    try clear c60
    try clear c66
    try clear c67
    try clear c68
    try clear c69
    try clear c70
    try clear c73
    try clear c74
    try clear c75
    try clear c76
    try clear c77
    try clear c78
    try clear c80
    try clear c81
    try clear c82
    try clear c83
    try clear c86
    try clear c87
    try clear c88
    try clear c89
    try clear c90
    try clear c92
    try clear c93
    try clear c94
    try clear c95
    try clear hcz44_0
    try clear hcz51_0
    try clear hcz53_0
    try clear hcz61_0
    try clear hcz62_0
    try clear hcz71_0
    try clear hcz79_0
    try clear hcz84_0
    try clear hcz91_0
    try clear hcz96_0
    try clear hfz44_0
    try clear hfz51_0
    try clear hfz53_0
    try clear hfz61_0
    try clear hfz62_0
    try clear hfz71_0
    try clear hfz79_0
    try clear hfz84_0
    try clear hfz91_0
    try clear hfz96_0
    obtain ⟨kq, x53_24, rfl, HA, HJ24, HO_261000, HO_265000, HO_269000, HO_274000, BK246, BK247, BK260, BK264, BK268, BK273, HB⟩ := hcut
    cases kq with
    | zero => exact absurd HA.out (by simp [laws_FnExactSumOfPictures.j0])
    | succ kj24 =>
     have H := HA.out
     clear HA
     simp only [laws_FnExactSumOfPictures.j0] at H
     by_cases c98 : x53_24 = true
     ·subst c98
      have H1 : (some false) = some r := by rw [if_pos rfl] at H; exact H
      exact absurd ((Option.some.inj H1).trans hr_.out) (by decide)
     ·replace c98 := Bool.eq_false_iff.mpr c98
      subst c98
      have H1 : ((laws_toPicture.f kj24 l0_0).bind fun t275 => ((laws_eqPicture.f kj24 t261 t275).bind fun t278 => (if t278 = true then ((laws_toPicture.f kj24 l1_0).bind fun t279 => ((laws_eqPicture.f kj24 t265 t279).bind fun t282 => (if t282 = true then ((laws_markPicture.f kj24 t261 1).bind fun bt283 => ((laws_markPicture.f kj24 t265 bt283.1).bind fun bt285 => (if bt285.1 < 0 then (laws_FnExactSumOfPictures.j1 kj24 t259 true l0_0 l1_0 t256 t269) else ((laws_eqPicture.f kj24 t269 t256).bind fun t287 => (if t287 = true then (laws_FnExactSumOfPictures.j1 kj24 t259 (t272 != t259) l0_0 l1_0 t256 t269) else (laws_FnExactSumOfPictures.j1 kj24 t259 true l0_0 l1_0 t256 t269)))))) else (some false)))) else (some false)))) = some r := by rw [if_neg (show ¬ (false = true) by decide)] at H; exact H
      clear H
      have H := H1
      clear H1
      replace H := Option.bind_eq_some_iff.mp H
      obtain ⟨t275, A990, H⟩ := H
      replace H : ((laws_eqPicture.f kj24 t261 t275).bind fun t278 => (if t278 = true then ((laws_toPicture.f kj24 l1_0).bind fun t279 => ((laws_eqPicture.f kj24 t265 t279).bind fun t282 => (if t282 = true then ((laws_markPicture.f kj24 t261 1).bind fun bt283 => ((laws_markPicture.f kj24 t265 bt283.1).bind fun bt285 => (if bt285.1 < 0 then (laws_FnExactSumOfPictures.j1 kj24 t259 true l0_0 l1_0 t256 t269) else ((laws_eqPicture.f kj24 t269 t256).bind fun t287 => (if t287 = true then (laws_FnExactSumOfPictures.j1 kj24 t259 (t272 != t259) l0_0 l1_0 t256 t269) else (laws_FnExactSumOfPictures.j1 kj24 t259 true l0_0 l1_0 t256 t269)))))) else (some false)))) else (some false))) = some r := H
      have A99 := Aside0.mk A990
      clear A990
      replace H := Option.bind_eq_some_iff.mp H
      obtain ⟨t278, A1000, H⟩ := H
      replace H : (if t278 = true then ((laws_toPicture.f kj24 l1_0).bind fun t279 => ((laws_eqPicture.f kj24 t265 t279).bind fun t282 => (if t282 = true then ((laws_markPicture.f kj24 t261 1).bind fun bt283 => ((laws_markPicture.f kj24 t265 bt283.1).bind fun bt285 => (if bt285.1 < 0 then (laws_FnExactSumOfPictures.j1 kj24 t259 true l0_0 l1_0 t256 t269) else ((laws_eqPicture.f kj24 t269 t256).bind fun t287 => (if t287 = true then (laws_FnExactSumOfPictures.j1 kj24 t259 (t272 != t259) l0_0 l1_0 t256 t269) else (laws_FnExactSumOfPictures.j1 kj24 t259 true l0_0 l1_0 t256 t269)))))) else (some false)))) else (some false)) = some r := H
      have A100 := Aside0.mk A1000
      clear A1000
      by_cases c101 : t278 = true
      ·subst c101
       have H1 : ((laws_toPicture.f kj24 l1_0).bind fun t279 => ((laws_eqPicture.f kj24 t265 t279).bind fun t282 => (if t282 = true then ((laws_markPicture.f kj24 t261 1).bind fun bt283 => ((laws_markPicture.f kj24 t265 bt283.1).bind fun bt285 => (if bt285.1 < 0 then (laws_FnExactSumOfPictures.j1 kj24 t259 true l0_0 l1_0 t256 t269) else ((laws_eqPicture.f kj24 t269 t256).bind fun t287 => (if t287 = true then (laws_FnExactSumOfPictures.j1 kj24 t259 (t272 != t259) l0_0 l1_0 t256 t269) else (laws_FnExactSumOfPictures.j1 kj24 t259 true l0_0 l1_0 t256 t269)))))) else (some false)))) = some r := by rw [if_pos rfl] at H; exact H
       clear H
       have H := H1
       clear H1
       replace H := Option.bind_eq_some_iff.mp H
       obtain ⟨t279, A1020, H⟩ := H
       replace H : ((laws_eqPicture.f kj24 t265 t279).bind fun t282 => (if t282 = true then ((laws_markPicture.f kj24 t261 1).bind fun bt283 => ((laws_markPicture.f kj24 t265 bt283.1).bind fun bt285 => (if bt285.1 < 0 then (laws_FnExactSumOfPictures.j1 kj24 t259 true l0_0 l1_0 t256 t269) else ((laws_eqPicture.f kj24 t269 t256).bind fun t287 => (if t287 = true then (laws_FnExactSumOfPictures.j1 kj24 t259 (t272 != t259) l0_0 l1_0 t256 t269) else (laws_FnExactSumOfPictures.j1 kj24 t259 true l0_0 l1_0 t256 t269)))))) else (some false))) = some r := H
       have A102 := Aside0.mk A1020
       clear A1020
       replace H := Option.bind_eq_some_iff.mp H
       obtain ⟨t282, A1030, H⟩ := H
       replace H : (if t282 = true then ((laws_markPicture.f kj24 t261 1).bind fun bt283 => ((laws_markPicture.f kj24 t265 bt283.1).bind fun bt285 => (if bt285.1 < 0 then (laws_FnExactSumOfPictures.j1 kj24 t259 true l0_0 l1_0 t256 t269) else ((laws_eqPicture.f kj24 t269 t256).bind fun t287 => (if t287 = true then (laws_FnExactSumOfPictures.j1 kj24 t259 (t272 != t259) l0_0 l1_0 t256 t269) else (laws_FnExactSumOfPictures.j1 kj24 t259 true l0_0 l1_0 t256 t269)))))) else (some false)) = some r := H
       have A103 := Aside0.mk A1030
       clear A1030
       by_cases c104 : t282 = true
       ·subst c104
        have H1 : ((laws_markPicture.f kj24 t261 1).bind fun bt283 => ((laws_markPicture.f kj24 t265 bt283.1).bind fun bt285 => (if bt285.1 < 0 then (laws_FnExactSumOfPictures.j1 kj24 t259 true l0_0 l1_0 t256 t269) else ((laws_eqPicture.f kj24 t269 t256).bind fun t287 => (if t287 = true then (laws_FnExactSumOfPictures.j1 kj24 t259 (t272 != t259) l0_0 l1_0 t256 t269) else (laws_FnExactSumOfPictures.j1 kj24 t259 true l0_0 l1_0 t256 t269)))))) = some r := by rw [if_pos rfl] at H; exact H
        clear H
        have H := H1
        clear H1
        replace H := Option.bind_eq_some_iff.mp H
        obtain ⟨⟨t283, t284⟩, A1050, H⟩ := H
        replace H : ((laws_markPicture.f kj24 t265 t283).bind fun bt285 => (if bt285.1 < 0 then (laws_FnExactSumOfPictures.j1 kj24 t259 true l0_0 l1_0 t256 t269) else ((laws_eqPicture.f kj24 t269 t256).bind fun t287 => (if t287 = true then (laws_FnExactSumOfPictures.j1 kj24 t259 (t272 != t259) l0_0 l1_0 t256 t269) else (laws_FnExactSumOfPictures.j1 kj24 t259 true l0_0 l1_0 t256 t269))))) = some r := H
        have A105 := Aside0.mk A1050
        clear A1050
        replace H := Option.bind_eq_some_iff.mp H
        obtain ⟨⟨t285, t286⟩, A1060, H⟩ := H
        replace H : (if t285 < 0 then (laws_FnExactSumOfPictures.j1 kj24 t259 true l0_0 l1_0 t256 t269) else ((laws_eqPicture.f kj24 t269 t256).bind fun t287 => (if t287 = true then (laws_FnExactSumOfPictures.j1 kj24 t259 (t272 != t259) l0_0 l1_0 t256 t269) else (laws_FnExactSumOfPictures.j1 kj24 t259 true l0_0 l1_0 t256 t269)))) = some r := H
        have A106 := Aside0.mk A1060
        clear A1060
        have HC107 := Aside0.mk H
        clear H
        try go_wp2
        replace HO_261000 := Aside0.mk (Kd.R_drew HO_261000.out)
        replace HO_265000 := Aside0.mk (Kd.R_drew HO_265000.out)
        replace HO_269000 := Aside0.mk (Kd.R_drew HO_269000.out)
        replace HO_274000 := Aside0.mk (Kd.R_drew HO_274000.out)
        replace BK246 := Aside0.mk (blk_drew BK246.out)
        replace BK247 := Aside0.mk (blk_drew BK247.out)
        replace BK260 := Aside0.mk (blk_drew BK260.out)
        replace BK264 := Aside0.mk (blk_drew BK264.out)
        replace BK268 := Aside0.mk (blk_drew BK268.out)
        replace BK273 := Aside0.mk (blk_drew BK273.out)
        replace HB := Aside0.mk (below_drew1 HB.out)
        refine start_ (n := 5) (S := fun w' => w'.cell? ⟨gb264, 0, none⟩ = some (.slice Ao47 t261.length co47) ∧ w'.cell? ⟨gb246, 0, none⟩ = some (.slice A0_0 l0_0.length c0_0)) (ds := []) #[false, false, false, false, false] (by kernel_rfl) rfl rfl ⟨(blk_cell BK264.out 0).trans rfl, (blk_cell BK246.out 0).trans rfl⟩ (fun hHeld => ?_)
        generalize wc.drew = w108 at HO_261000 HO_265000 HO_269000 HO_274000 BK246 BK247 BK260 BK264 BK268 BK273 HB hHeld ⊢
        refine take_ (i := 0) (N := some 54) (v := ?_) (a' := ?_) #[true, false, false, false, false] rfl rfl (by kernel_rfl) (fun _ _ _ h => h) (Or.inl ⟨by rfl, ?_⟩) hHeld ?_ ?_
        rotate_left
        ·rintro w' ⟨s0, s1⟩
         go_simp
         with_reducible rfl
        rotate_left
        ·simp only [Act.put, List.setIfInBounds_toArray, List.set_cons_zero, List.set_cons_succ, i64_w, i32_w]
         rfl
        refine take_ (i := 1) (N := some 55) (v := ?_) (a' := ?_) #[true, true, false, false, false] rfl rfl (by kernel_rfl) (fun _ _ _ h => h) (Or.inl ⟨by rfl, ?_⟩) hHeld ?_ ?_
        rotate_left
        ·rintro w' ⟨s0, s1⟩
         go_simp
         with_reducible rfl
        rotate_left
        ·simp only [Act.put, List.setIfInBounds_toArray, List.set_cons_zero, List.set_cons_succ, i64_w, i32_w]
         rfl
        refine one_ (i := 2) (N := some 56) #[true, true, true, false, false] rfl rfl (by kernel_rfl) (by decide) (fun K hK => ?_)
        refine goes_ Try.func7 (by kernel_rfl) rfl #[.agg #[.slice A0_0 l0_0.length c0_0]] (by rfl) rfl rfl (by (try simp only [List.map_toArray, List.map_cons, List.map_nil]); first | done | rfl) ?_
        with_reducible refine (laws_toPicture.calls kj24 _ _ l0_0 t275 _ ?side1 ?side2 A99.out).mono ?_
        (case side1 => exact cT (Kd.C_below HR0_0.out HB.out))
        (case side2 => exact HC0_0.out)
        rintro e w109 ⟨v276, rfl, ho0, hb⟩
        refine ⟨_, rfl, ?_⟩
        have HO277 := Aside0.mk (Kd.R_lower (Kd.R_new' (Kd.R_new' (Kd.R_new' (Kd.R_new' ho0 (Kd.R_lt (rT HO_261000))) (Kd.R_lt (rT HO_265000))) (Kd.R_lt (rT HO_269000))) (Kd.R_lt (rT HO_274000))) (below_size (sT HB)))
        replace HO_261000 := Aside0.mk (Kd.R_elder' (rT HO_261000) (Kd.R_base ho0) hb)
        replace HO_265000 := Aside0.mk (Kd.R_elder' (rT HO_265000) (Kd.R_base ho0) hb)
        replace HO_269000 := Aside0.mk (Kd.R_elder' (rT HO_269000) (Kd.R_base ho0) hb)
        replace HO_274000 := Aside0.mk (Kd.R_elder' (rT HO_274000) (Kd.R_base ho0) hb)
        replace BK246 := bA BK246 hb
        replace BK247 := bA BK247 hb
        replace BK260 := bA BK260 hb
        replace BK264 := bA BK264 hb
        replace BK268 := bA BK268 hb
        replace BK273 := bA BK273 hb
        replace HB := sB HB hb
        (try clear hb)
        (try clear hb2)
        (try clear hk)
        (try clear hi)
        (try clear ho0)
        obtain ⟨Ao110, co110, eo110⟩ := Kd.R_slice HO277.out
        (first | subst eo110 | (injection eo110 with f1_ f2_ f3_; have f4_ := f1_.symm; have f5_ := f3_.symm; clear f1_ f2_ f3_; subst f4_; subst f5_))
        refine hK.out _ _ ⟨(blk_cell BK264.out 0).trans rfl, (blk_cell BK246.out 0).trans rfl⟩ (fun hHeld => ?_)
        clear hK K
        refine norm_ (a' := ?_) ?_ ?_
        rotate_left
        ·show Act.put _ (some 56) _ = _
         simp only [Act.put, List.setIfInBounds_toArray, List.set_cons_zero, List.set_cons_succ, i64_w, i32_w]
         rfl
        refine one_ (i := 3) (N := some 57) #[true, true, true, true, false] rfl rfl (by kernel_rfl) (by decide) (fun K hK => ?_)
        refine goes_ Try.func9 (by kernel_rfl) rfl #[.agg #[.slice Ao47 t261.length co47], .agg #[.slice Ao110 t275.length co110]] (by rfl) rfl rfl (by (try simp only [List.map_toArray, List.map_cons, List.map_nil]); first | done | rfl) ?_
        with_reducible refine (laws_eqPicture.calls kj24 _ _ t261 _ _ t275 true _ ?side1 ?side2 ?side3 ?side4 A100.out).mono ?_
        (case side1 => exact cT (Kd.R_reads' HO_265000.out).2.2)
        (case side2 => exact (Kd.R_reads' HO_265000.out).2.1)
        (case side3 => exact cT (Kd.R_reads' HO277.out).2.2)
        (case side4 => exact (Kd.R_reads' HO277.out).2.1)
        rintro e w111 ⟨rfl, hb⟩
        refine ⟨_, rfl, ?_⟩
        replace HO_261000 := rA HO_261000 hb
        replace HO_265000 := rA HO_265000 hb
        replace HO_269000 := rA HO_269000 hb
        replace HO_274000 := rA HO_274000 hb
        replace HO277 := rA HO277 hb
        replace BK246 := bA BK246 hb
        replace BK247 := bA BK247 hb
        replace BK260 := bA BK260 hb
        replace BK264 := bA BK264 hb
        replace BK268 := bA BK268 hb
        replace BK273 := bA BK273 hb
        replace HB := sB HB hb
        (try clear hb)
        (try clear hb2)
        (try clear hk)
        (try clear hi)
        refine hK.out _ _ ⟨(blk_cell BK264.out 0).trans rfl, (blk_cell BK246.out 0).trans rfl⟩ (fun hHeld => ?_)
        clear hK K
        refine norm_ (a' := ?_) ?_ ?_
        rotate_left
        ·show Act.put _ (some 57) _ = _
         simp only [Act.put, List.setIfInBounds_toArray, List.set_cons_zero, List.set_cons_succ, i64_w, i32_w]
         rfl
        refine pure_ (i := 4) (N := some 58) (v := ?_) (a' := ?_) #[true, true, true, true, true] rfl rfl (by kernel_rfl) (fun _ _ _ h => h) (Or.inl ⟨by rfl, ?_⟩) ?_ ?_
        rotate_left
        ·intro w'
         go_simp
         with_reducible rfl
        rotate_left
        ·simp only [Act.put, List.setIfInBounds_toArray, List.set_cons_zero, List.set_cons_succ, i64_w, i32_w]
         rfl
        refine done_ (by kernel_rfl) ?_
        try go_wp2
        replace HO_261000 := Aside0.mk (Kd.R_drew HO_261000.out)
        replace HO_265000 := Aside0.mk (Kd.R_drew HO_265000.out)
        replace HO_269000 := Aside0.mk (Kd.R_drew HO_269000.out)
        replace HO_274000 := Aside0.mk (Kd.R_drew HO_274000.out)
        replace HO277 := Aside0.mk (Kd.R_drew HO277.out)
        replace BK246 := Aside0.mk (blk_drew BK246.out)
        replace BK247 := Aside0.mk (blk_drew BK247.out)
        replace BK260 := Aside0.mk (blk_drew BK260.out)
        replace BK264 := Aside0.mk (blk_drew BK264.out)
        replace BK268 := Aside0.mk (blk_drew BK268.out)
        replace BK273 := Aside0.mk (blk_drew BK273.out)
        replace HB := Aside0.mk (below_drew1 HB.out)
        refine start_ (n := 5) (S := fun w' => w'.cell? ⟨gb268, 0, none⟩ = some (.slice Ao56 t265.length co56) ∧ w'.cell? ⟨gb247, 0, none⟩ = some (.slice A1_0 l1_0.length c1_0)) (ds := []) #[false, false, false, false, false] (by kernel_rfl) rfl rfl ⟨(blk_cell BK268.out 0).trans rfl, (blk_cell BK247.out 0).trans rfl⟩ (fun hHeld => ?_)
        generalize w111.drew = w112 at HO_261000 HO_265000 HO_269000 HO_274000 HO277 BK246 BK247 BK260 BK264 BK268 BK273 HB hHeld ⊢
        refine take_ (i := 0) (N := some 59) (v := ?_) (a' := ?_) #[true, false, false, false, false] rfl rfl (by kernel_rfl) (fun _ _ _ h => h) (Or.inl ⟨by rfl, ?_⟩) hHeld ?_ ?_
        rotate_left
        ·rintro w' ⟨s0, s1⟩
         go_simp
         with_reducible rfl
        rotate_left
        ·simp only [Act.put, List.setIfInBounds_toArray, List.set_cons_zero, List.set_cons_succ, i64_w, i32_w]
         rfl
        refine take_ (i := 1) (N := some 60) (v := ?_) (a' := ?_) #[true, true, false, false, false] rfl rfl (by kernel_rfl) (fun _ _ _ h => h) (Or.inl ⟨by rfl, ?_⟩) hHeld ?_ ?_
        rotate_left
        ·rintro w' ⟨s0, s1⟩
         go_simp
         with_reducible rfl
        rotate_left
        ·simp only [Act.put, List.setIfInBounds_toArray, List.set_cons_zero, List.set_cons_succ, i64_w, i32_w]
         rfl
        refine one_ (i := 2) (N := some 61) #[true, true, true, false, false] rfl rfl (by kernel_rfl) (by decide) (fun K hK => ?_)
        refine goes_ Try.func7 (by kernel_rfl) rfl #[.agg #[.slice A1_0 l1_0.length c1_0]] (by rfl) rfl rfl (by (try simp only [List.map_toArray, List.map_cons, List.map_nil]); first | done | rfl) ?_
        with_reducible refine (laws_toPicture.calls kj24 _ _ l1_0 t279 _ ?side1 ?side2 A102.out).mono ?_
        (case side1 => exact cT (Kd.C_below HR1_0.out HB.out))
        (case side2 => exact HC1_0.out)
        rintro e w113 ⟨v280, rfl, ho0, hb⟩
        refine ⟨_, rfl, ?_⟩
        have HO281 := Aside0.mk (Kd.R_lower (Kd.R_new' (Kd.R_new' (Kd.R_new' (Kd.R_new' (Kd.R_new' ho0 (Kd.R_lt (rT HO_261000))) (Kd.R_lt (rT HO_265000))) (Kd.R_lt (rT HO_269000))) (Kd.R_lt (rT HO_274000))) (Kd.R_lt (rT HO277))) (below_size (sT HB)))
        replace HO_261000 := Aside0.mk (Kd.R_elder' (rT HO_261000) (Kd.R_base ho0) hb)
        replace HO_265000 := Aside0.mk (Kd.R_elder' (rT HO_265000) (Kd.R_base ho0) hb)
        replace HO_269000 := Aside0.mk (Kd.R_elder' (rT HO_269000) (Kd.R_base ho0) hb)
        replace HO_274000 := Aside0.mk (Kd.R_elder' (rT HO_274000) (Kd.R_base ho0) hb)
        replace HO277 := Aside0.mk (Kd.R_elder' (rT HO277) (Kd.R_base ho0) hb)
        replace BK246 := bA BK246 hb
        replace BK247 := bA BK247 hb
        replace BK260 := bA BK260 hb
        replace BK264 := bA BK264 hb
        replace BK268 := bA BK268 hb
        replace BK273 := bA BK273 hb
        replace HB := sB HB hb
        (try clear hb)
        (try clear hb2)
        (try clear hk)
        (try clear hi)
        (try clear ho0)
        obtain ⟨Ao114, co114, eo114⟩ := Kd.R_slice HO281.out
        (first | subst eo114 | (injection eo114 with f1_ f2_ f3_; have f4_ := f1_.symm; have f5_ := f3_.symm; clear f1_ f2_ f3_; subst f4_; subst f5_))
        refine hK.out _ _ ⟨(blk_cell BK268.out 0).trans rfl, (blk_cell BK247.out 0).trans rfl⟩ (fun hHeld => ?_)
        clear hK K
        refine norm_ (a' := ?_) ?_ ?_
        rotate_left
        ·show Act.put _ (some 61) _ = _
         simp only [Act.put, List.setIfInBounds_toArray, List.set_cons_zero, List.set_cons_succ, i64_w, i32_w]
         rfl
        refine one_ (i := 3) (N := some 62) #[true, true, true, true, false] rfl rfl (by kernel_rfl) (by decide) (fun K hK => ?_)
        refine goes_ Try.func9 (by kernel_rfl) rfl #[.agg #[.slice Ao56 t265.length co56], .agg #[.slice Ao114 t279.length co114]] (by rfl) rfl rfl (by (try simp only [List.map_toArray, List.map_cons, List.map_nil]); first | done | rfl) ?_
        with_reducible refine (laws_eqPicture.calls kj24 _ _ t265 _ _ t279 true _ ?side1 ?side2 ?side3 ?side4 A103.out).mono ?_
        (case side1 => exact cT (Kd.R_reads' HO_269000.out).2.2)
        (case side2 => exact (Kd.R_reads' HO_269000.out).2.1)
        (case side3 => exact cT (Kd.R_reads' HO281.out).2.2)
        (case side4 => exact (Kd.R_reads' HO281.out).2.1)
        rintro e w115 ⟨rfl, hb⟩
        refine ⟨_, rfl, ?_⟩
        replace HO_261000 := rA HO_261000 hb
        replace HO_265000 := rA HO_265000 hb
        replace HO_269000 := rA HO_269000 hb
        replace HO_274000 := rA HO_274000 hb
        replace HO277 := rA HO277 hb
        replace HO281 := rA HO281 hb
        replace BK246 := bA BK246 hb
        replace BK247 := bA BK247 hb
        replace BK260 := bA BK260 hb
        replace BK264 := bA BK264 hb
        replace BK268 := bA BK268 hb
        replace BK273 := bA BK273 hb
        replace HB := sB HB hb
        (try clear hb)
        (try clear hb2)
        (try clear hk)
        (try clear hi)
        refine hK.out _ _ ⟨(blk_cell BK268.out 0).trans rfl, (blk_cell BK247.out 0).trans rfl⟩ (fun hHeld => ?_)
        clear hK K
        refine norm_ (a' := ?_) ?_ ?_
        rotate_left
        ·show Act.put _ (some 62) _ = _
         simp only [Act.put, List.setIfInBounds_toArray, List.set_cons_zero, List.set_cons_succ, i64_w, i32_w]
         rfl
        refine pure_ (i := 4) (N := some 63) (v := ?_) (a' := ?_) #[true, true, true, true, true] rfl rfl (by kernel_rfl) (fun _ _ _ h => h) (Or.inl ⟨by rfl, ?_⟩) ?_ ?_
        rotate_left
        ·intro w'
         go_simp
         with_reducible rfl
        rotate_left
        ·simp only [Act.put, List.setIfInBounds_toArray, List.set_cons_zero, List.set_cons_succ, i64_w, i32_w]
         rfl
        refine done_ (by kernel_rfl) ?_
        have hnb116 := NB264_246.out
        have hnc116 := NB246_264.out
        have hnb117 := NB264_247.out
        have hnc117 := NB247_264.out
        have hnb118 := NB264_260.out
        have hnc118 := NB260_264.out
        have hnb119 := NB264_268.out
        have hnc119 := NB268_264.out
        have hnb120 := NB264_273.out
        have hnc120 := NB273_264.out
        have hcz121_0 : w115.cell? ⟨gb264, 0, none⟩ = some (.slice Ao47 t261.length co47) := (blk_cell BK264.out 0).trans rfl
        have hfz121_0 := blk_frozen BK264.out 0
        go_upto_region 21 with (first | ((with_reducible refine gate_callee (f := 10) rfl ?_); refine goesL_ (some 66) rfl rfl Try.func10 (by kernel_rfl) rfl #[.agg #[.slice Ao47 t261.length co47], .int .i64 1] rfl (by (try simp only [List.map_toArray, List.map_cons, List.map_nil]); first | done | rfl) ?_; (with_reducible refine (laws_markPicture.calls kj24 (fun k_ => some k_ = (.slice Ao47 t261.length co47 : Value).ownBlock) (.slice Ao47 t261.length co47) t261 1 t283 t284 w _ ?side1 ?side2 A105.out).mono ?_); (case side1 => exact sT HB); (case side2 => exact Kd.R_tight rfl HO_265000.out); rintro e w122 ⟨rfl, hy0, hb, hkp⟩; refine ⟨_, rfl, ?_⟩; replace HO_261000 := Aside0.mk (Kd.R_mono (ok' := fun k_ => some k_ ≠ (.slice Ao47 t261.length co47 : Value).ownBlock ∧ some k_ ≠ (.slice Ao56 t265.length co56 : Value).ownBlock ∧ some k_ ≠ (.slice Ao65 t269.length co65 : Value).ownBlock ∧ some k_ ≠ (.slice Ao110 t275.length co110 : Value).ownBlock ∧ some k_ ≠ (.slice Ao114 t279.length co114 : Value).ownBlock) (Kd.R_keptB (HO_261000.out) hkp (fun k_ hk_ hs_ => (hk_.1.1.1) hs_)) (fun k_ hk_ => ⟨hk_.1.1.1.1, hk_.1.1.1.2.1, hk_.1.1.1.2.2, hk_.1.1.2, hk_.1.2⟩)); replace HO_269000 := Aside0.mk (Kd.R_mono (ok' := fun k_ => some k_ ≠ (.slice Ao41 t256.length co41 : Value).ownBlock ∧ some k_ ≠ (.slice Ao47 t261.length co47 : Value).ownBlock ∧ some k_ ≠ (.slice Ao65 t269.length co65 : Value).ownBlock ∧ some k_ ≠ (.slice Ao110 t275.length co110 : Value).ownBlock ∧ some k_ ≠ (.slice Ao114 t279.length co114 : Value).ownBlock) (Kd.R_keptB (HO_269000.out) hkp (fun k_ hk_ hs_ => (hk_.1.1.2.1) hs_)) (fun k_ hk_ => ⟨hk_.1.1.1.1, hk_.1.1.1.2.1, hk_.1.1.1.2.2, hk_.1.1.2, hk_.1.2⟩)); replace HO_274000 := Aside0.mk (Kd.R_mono (ok' := fun k_ => some k_ ≠ (.slice Ao41 t256.length co41 : Value).ownBlock ∧ some k_ ≠ (.slice Ao47 t261.length co47 : Value).ownBlock ∧ some k_ ≠ (.slice Ao56 t265.length co56 : Value).ownBlock ∧ some k_ ≠ (.slice Ao110 t275.length co110 : Value).ownBlock ∧ some k_ ≠ (.slice Ao114 t279.length co114 : Value).ownBlock) (Kd.R_keptB (HO_274000.out) hkp (fun k_ hk_ hs_ => (hk_.1.1.2.1) hs_)) (fun k_ hk_ => ⟨hk_.1.1.1.1, hk_.1.1.1.2.1, hk_.1.1.1.2.2, hk_.1.1.2, hk_.1.2⟩)); replace BK246 := Aside0.mk (blk_kept (by first | exact BK246.out | exact blk_alloc BK246.out _) hkp (fun hs_ => (fun e_ => (Kd.R_ne HO_265000.out BK246.out (by decide)) e_) hs_)); replace BK247 := Aside0.mk (blk_kept (by first | exact BK247.out | exact blk_alloc BK247.out _) hkp (fun hs_ => (fun e_ => (Kd.R_ne HO_265000.out BK247.out (by decide)) e_) hs_)); replace BK260 := Aside0.mk (blk_kept (by first | exact BK260.out | exact blk_alloc BK260.out _) hkp (fun hs_ => (fun e_ => (Kd.R_ne HO_265000.out BK260.out (by decide)) e_) hs_)); replace BK264 := Aside0.mk (blk_kept (by first | exact BK264.out | exact blk_alloc BK264.out _) hkp (fun hs_ => (fun e_ => (Kd.R_ne HO_265000.out BK264.out (by decide)) e_) hs_)); replace BK268 := Aside0.mk (blk_kept (by first | exact BK268.out | exact blk_alloc BK268.out _) hkp (fun hs_ => (fun e_ => (Kd.R_ne HO_265000.out BK268.out (by decide)) e_) hs_)); replace BK273 := Aside0.mk (blk_kept (by first | exact BK273.out | exact blk_alloc BK273.out _) hkp (fun hs_ => (fun e_ => (Kd.R_ne HO_265000.out BK273.out (by decide)) e_) hs_)); replace HO_265000 := Aside0.mk (Kd.R_reok rfl hy0 (fun k_ e_ => HO_265000.out.1 k_ e_)); replace HO277 := Aside0.mk (Kd.R_mono (ok' := fun k_ => some k_ ≠ (.slice Ao41 t256.length co41 : Value).ownBlock ∧ some k_ ≠ (.slice Ao47 t261.length co47 : Value).ownBlock ∧ some k_ ≠ (.slice Ao56 t265.length co56 : Value).ownBlock ∧ some k_ ≠ (.slice Ao65 t269.length co65 : Value).ownBlock ∧ some k_ ≠ (.slice Ao114 t279.length co114 : Value).ownBlock) (Kd.R_keptB (HO277.out) hkp (fun k_ hk_ hs_ => (hk_.1.1.1.2) hs_)) (fun k_ hk_ => ⟨hk_.1.1.1.1.1.2, hk_.1.1.1.1.2, hk_.1.1.1.2, hk_.1.1.2, hk_.1.2⟩)); replace HO281 := Aside0.mk (Kd.R_mono (ok' := fun k_ => some k_ ≠ (.slice Ao41 t256.length co41 : Value).ownBlock ∧ some k_ ≠ (.slice Ao47 t261.length co47 : Value).ownBlock ∧ some k_ ≠ (.slice Ao56 t265.length co56 : Value).ownBlock ∧ some k_ ≠ (.slice Ao65 t269.length co65 : Value).ownBlock ∧ some k_ ≠ (.slice Ao110 t275.length co110 : Value).ownBlock) (Kd.R_keptB (HO281.out) hkp (fun k_ hk_ hs_ => (hk_.1.1.1.2) hs_)) (fun k_ hk_ => ⟨hk_.1.1.1.1.1.2, hk_.1.1.1.1.2, hk_.1.1.1.2, hk_.1.1.2, hk_.1.2⟩)); replace HB := Aside0.mk (hb); (try clear hb); (try clear hkp); (try clear hy0); have hnb123 := NB268_246.out; have hnc123 := NB246_268.out; have hnb124 := NB268_247.out; have hnc124 := NB247_268.out; have hnb125 := NB268_260.out; have hnc125 := NB260_268.out; have hnb126 := NB268_273.out; have hnc126 := NB273_268.out; have hcz127_0 : w122.cell? ⟨gb268, 0, none⟩ = some (.slice Ao56 t265.length co56) := (blk_cell BK268.out 0).trans rfl; have hfz127_0 := blk_frozen BK268.out 0) | ((with_reducible refine gate_callee (f := 10) rfl ?_); refine goesL_ (some 69) rfl rfl Try.func10 (by kernel_rfl) rfl #[.agg #[.slice Ao56 t265.length co56], .int .i64 t283] rfl (by (try simp only [List.map_toArray, List.map_cons, List.map_nil]); first | done | rfl) ?_; (with_reducible refine (laws_markPicture.calls kj24 (fun k_ => some k_ = (.slice Ao56 t265.length co56 : Value).ownBlock) (.slice Ao56 t265.length co56) t265 t283 t285 t286 w _ ?side1 ?side2 A106.out).mono ?_); (case side1 => exact sT HB); (case side2 => exact Kd.R_tight rfl HO_269000.out); rintro e w128 ⟨rfl, hy0, hb, hkp⟩; refine ⟨_, rfl, ?_⟩; replace HO_261000 := Aside0.mk (Kd.R_mono (ok' := fun k_ => some k_ ≠ (.slice Ao47 t261.length co47 : Value).ownBlock ∧ some k_ ≠ (.slice Ao56 t265.length co56 : Value).ownBlock ∧ some k_ ≠ (.slice Ao65 t269.length co65 : Value).ownBlock ∧ some k_ ≠ (.slice Ao110 t275.length co110 : Value).ownBlock ∧ some k_ ≠ (.slice Ao114 t279.length co114 : Value).ownBlock) (Kd.R_keptB (HO_261000.out) hkp (fun k_ hk_ hs_ => (hk_.2.1) hs_)) (fun k_ hk_ => ⟨hk_.1.1, hk_.1.2.1, hk_.1.2.2.1, hk_.1.2.2.2.1, hk_.1.2.2.2.2⟩)); replace HO_265000 := Aside0.mk (Kd.R_mono (ok' := fun k_ => some k_ ≠ (.slice Ao41 t256.length co41 : Value).ownBlock ∧ some k_ ≠ (.slice Ao56 t265.length co56 : Value).ownBlock ∧ some k_ ≠ (.slice Ao65 t269.length co65 : Value).ownBlock ∧ some k_ ≠ (.slice Ao110 t275.length co110 : Value).ownBlock ∧ some k_ ≠ (.slice Ao114 t279.length co114 : Value).ownBlock) (Kd.R_keptB (HO_265000.out) hkp (fun k_ hk_ hs_ => (hk_.1.1.2.1) hs_)) (fun k_ hk_ => ⟨hk_.1.1.1.1, hk_.1.1.1.2.1, hk_.1.1.1.2.2, hk_.1.1.2, hk_.1.2⟩)); replace HO_274000 := Aside0.mk (Kd.R_mono (ok' := fun k_ => some k_ ≠ (.slice Ao41 t256.length co41 : Value).ownBlock ∧ some k_ ≠ (.slice Ao47 t261.length co47 : Value).ownBlock ∧ some k_ ≠ (.slice Ao56 t265.length co56 : Value).ownBlock ∧ some k_ ≠ (.slice Ao110 t275.length co110 : Value).ownBlock ∧ some k_ ≠ (.slice Ao114 t279.length co114 : Value).ownBlock) (Kd.R_keptB (HO_274000.out) hkp (fun k_ hk_ hs_ => (hk_.2.2.1) hs_)) (fun k_ hk_ => ⟨hk_.1.1, hk_.1.2.1, hk_.1.2.2.1, hk_.1.2.2.2.1, hk_.1.2.2.2.2⟩)); replace BK246 := Aside0.mk (blk_kept (by first | exact BK246.out | exact blk_alloc BK246.out _) hkp (fun hs_ => (fun e_ => (Kd.R_ne HO_269000.out BK246.out (by decide)) e_) hs_)); replace BK247 := Aside0.mk (blk_kept (by first | exact BK247.out | exact blk_alloc BK247.out _) hkp (fun hs_ => (fun e_ => (Kd.R_ne HO_269000.out BK247.out (by decide)) e_) hs_)); replace BK260 := Aside0.mk (blk_kept (by first | exact BK260.out | exact blk_alloc BK260.out _) hkp (fun hs_ => (fun e_ => (Kd.R_ne HO_269000.out BK260.out (by decide)) e_) hs_)); replace BK264 := Aside0.mk (blk_kept (by first | exact BK264.out | exact blk_alloc BK264.out _) hkp (fun hs_ => (fun e_ => (Kd.R_ne HO_269000.out BK264.out (by decide)) e_) hs_)); replace BK268 := Aside0.mk (blk_kept (by first | exact BK268.out | exact blk_alloc BK268.out _) hkp (fun hs_ => (fun e_ => (Kd.R_ne HO_269000.out BK268.out (by decide)) e_) hs_)); replace BK273 := Aside0.mk (blk_kept (by first | exact BK273.out | exact blk_alloc BK273.out _) hkp (fun hs_ => (fun e_ => (Kd.R_ne HO_269000.out BK273.out (by decide)) e_) hs_)); replace HO_269000 := Aside0.mk (Kd.R_reok rfl hy0 (fun k_ e_ => HO_269000.out.1 k_ e_)); replace HO277 := Aside0.mk (Kd.R_mono (ok' := fun k_ => some k_ ≠ (.slice Ao41 t256.length co41 : Value).ownBlock ∧ some k_ ≠ (.slice Ao47 t261.length co47 : Value).ownBlock ∧ some k_ ≠ (.slice Ao56 t265.length co56 : Value).ownBlock ∧ some k_ ≠ (.slice Ao65 t269.length co65 : Value).ownBlock ∧ some k_ ≠ (.slice Ao114 t279.length co114 : Value).ownBlock) (Kd.R_keptB (HO277.out) hkp (fun k_ hk_ hs_ => (hk_.2.2.1) hs_)) (fun k_ hk_ => ⟨hk_.1.1, hk_.1.2.1, hk_.1.2.2.1, hk_.1.2.2.2.1, hk_.1.2.2.2.2⟩)); replace HO281 := Aside0.mk (Kd.R_mono (ok' := fun k_ => some k_ ≠ (.slice Ao41 t256.length co41 : Value).ownBlock ∧ some k_ ≠ (.slice Ao47 t261.length co47 : Value).ownBlock ∧ some k_ ≠ (.slice Ao56 t265.length co56 : Value).ownBlock ∧ some k_ ≠ (.slice Ao65 t269.length co65 : Value).ownBlock ∧ some k_ ≠ (.slice Ao110 t275.length co110 : Value).ownBlock) (Kd.R_keptB (HO281.out) hkp (fun k_ hk_ hs_ => (hk_.2.2.1) hs_)) (fun k_ hk_ => ⟨hk_.1.1, hk_.1.2.1, hk_.1.2.2.1, hk_.1.2.2.2.1, hk_.1.2.2.2.2⟩)); replace HB := Aside0.mk (hb); (try clear hb); (try clear hkp); (try clear hy0)))
        (try simp only [Act.put, List.setIfInBounds_toArray, List.set_cons_zero, List.set_cons_succ])
        go_cut [82] (fun v82 wc => ∃ (kq : Nat) (x82_106 : Bool), v82 = .bool x82_106 ∧ Aside0 (laws_FnExactSumOfPictures.j1 kq t259 x82_106 l0_0 l1_0 t256 t269 = some r) ∧ Aside0 (kq ≤ kj24) ∧ Aside0 (Kd.R k47 47 wc w.heap.size (fun k_ => some k_ ≠ ((.slice Ao47 t261.length co47) : Value).ownBlock ∧ some k_ ≠ ((.slice Ao56 t265.length co56) : Value).ownBlock ∧ some k_ ≠ ((.slice Ao65 t269.length co65) : Value).ownBlock) (.slice Ao41 t256.length co41) t256) ∧ Aside0 (Kd.R k47 47 wc w.heap.size (fun k_ => some k_ ≠ ((.slice Ao41 t256.length co41) : Value).ownBlock ∧ some k_ ≠ ((.slice Ao56 t265.length co56) : Value).ownBlock ∧ some k_ ≠ ((.slice Ao65 t269.length co65) : Value).ownBlock) (.slice Ao47 t261.length co47) t284) ∧ Aside0 (Kd.R k47 47 wc w.heap.size (fun k_ => some k_ ≠ ((.slice Ao41 t256.length co41) : Value).ownBlock ∧ some k_ ≠ ((.slice Ao47 t261.length co47) : Value).ownBlock ∧ some k_ ≠ ((.slice Ao65 t269.length co65) : Value).ownBlock) (.slice Ao56 t265.length co56) t286) ∧ Aside0 (Kd.R k47 47 wc w.heap.size (fun k_ => some k_ ≠ ((.slice Ao41 t256.length co41) : Value).ownBlock ∧ some k_ ≠ ((.slice Ao47 t261.length co47) : Value).ownBlock ∧ some k_ ≠ ((.slice Ao56 t265.length co56) : Value).ownBlock) (.slice Ao65 t269.length co65) t269) ∧ Aside0 (wc.heap[gb246]? = some (.cells #[(.slice A0_0 l0_0.length c0_0)] 24 (0, 0))) ∧ Aside0 (wc.heap[gb247]? = some (.cells #[(.slice A1_0 l1_0.length c1_0)] 24 (0, 0))) ∧ Aside0 (wc.heap[gb260]? = some (.cells #[(.slice Ao41 t256.length co41)] 28 (0, 0))) ∧ Aside0 (wc.heap[gb264]? = some (.cells #[(.slice Ao47 t261.length co47)] 28 (0, 0))) ∧ Aside0 (wc.heap[gb268]? = some (.cells #[(.slice Ao56 t265.length co56)] 28 (0, 0))) ∧ Aside0 (wc.heap[gb273]? = some (.cells #[(.slice Ao65 t269.length co65)] 28 (0, 0))) ∧ Aside0 (Below w.heap.size w wc))
        case first =>
         have H := HC107.out
         clear HC107
         by_cases c129 : t285 < 0
         ·rw [if_pos c129] at H
          have c129b0 : decide (t285 < 0) = true := decide_eq_true c129
          clear c129
          (first | rw [c129b0] | (simp only [i64_w, i32_w]; rw [c129b0]) | skip)
          have H' := Aside0.mk H
          clear H
          go_wp2
          go_meet
          case rel => exact ⟨_, (true), (by first | rfl | (simp; done) | (simp [*]; done)), H', ⟨by have := HJ24.out; first | omega | exact Nat.le_refl _⟩, ⟨by (with_reducible repeat (first | apply Kd.R_alloc | apply Kd.R_drewN | apply Kd.R_drew)); exact Kd.R_mono HO_261000.out (fun _ hk => ⟨hk.1, ⟨hk.2.1, hk.2.2.1⟩⟩)⟩, ⟨by (with_reducible repeat (first | apply Kd.R_alloc | apply Kd.R_drewN | apply Kd.R_drew)); exact Kd.R_mono HO_265000.out (fun _ hk => ⟨hk.1, ⟨hk.2.1, hk.2.2.1⟩⟩)⟩, ⟨by (with_reducible repeat (first | apply Kd.R_alloc | apply Kd.R_drewN | apply Kd.R_drew)); exact Kd.R_mono HO_269000.out (fun _ hk => ⟨hk.1, ⟨hk.2.1, hk.2.2.1⟩⟩)⟩, ⟨by (with_reducible repeat (first | apply Kd.R_alloc | apply Kd.R_drewN | apply Kd.R_drew)); exact Kd.R_mono HO_274000.out (fun _ hk => ⟨hk.1, ⟨hk.2.1, hk.2.2.1⟩⟩)⟩, ⟨by (with_reducible repeat (first | refine blk_drewN ?_ _ | refine blk_drew ?_ | refine blk_alloc ?_ _)); exact BK246.out⟩, ⟨by (with_reducible repeat (first | refine blk_drewN ?_ _ | refine blk_drew ?_ | refine blk_alloc ?_ _)); exact BK247.out⟩, ⟨by (with_reducible repeat (first | refine blk_drewN ?_ _ | refine blk_drew ?_ | refine blk_alloc ?_ _)); exact BK260.out⟩, ⟨by (with_reducible repeat (first | refine blk_drewN ?_ _ | refine blk_drew ?_ | refine blk_alloc ?_ _)); exact BK264.out⟩, ⟨by (with_reducible repeat (first | refine blk_drewN ?_ _ | refine blk_drew ?_ | refine blk_alloc ?_ _)); exact BK268.out⟩, ⟨by (with_reducible repeat (first | refine blk_drewN ?_ _ | refine blk_drew ?_ | refine blk_alloc ?_ _)); exact BK273.out⟩, ⟨by repeat (first | (with_reducible first | exact HB.out | apply below_alloc | apply pw_below_drewN | apply below_drew1 | refine below_set ?_ GE246.out | refine below_set ?_ GE247.out | refine below_set ?_ GE260.out | refine below_set ?_ GE264.out | refine below_set ?_ GE268.out | refine below_set ?_ GE273.out) | exact HB.out)⟩⟩
         ·rw [if_neg c129] at H
          have c129b0 : decide (t285 < 0) = false := decide_eq_false c129
          clear c129
          (first | rw [c129b0] | (simp only [i64_w, i32_w]; rw [c129b0]) | skip)
          replace H := Option.bind_eq_some_iff.mp H
          obtain ⟨t287, A1300, H⟩ := H
          replace H : (if t287 = true then (laws_FnExactSumOfPictures.j1 kj24 t259 (t272 != t259) l0_0 l1_0 t256 t269) else (laws_FnExactSumOfPictures.j1 kj24 t259 true l0_0 l1_0 t256 t269)) = some r := H
          have A130 := Aside0.mk A1300
          clear A1300
          by_cases c131 : t287 = true
          ·subst c131
           have H1 : (laws_FnExactSumOfPictures.j1 kj24 t259 (t272 != t259) l0_0 l1_0 t256 t269) = some r := by rw [if_pos rfl] at H; exact H
           clear H
           have H := H1
           clear H1
           have H' := Aside0.mk H
           clear H
           have hnb132 := NB273_246.out
           have hnc132 := NB246_273.out
           have hnb133 := NB273_247.out
           have hnc133 := NB247_273.out
           have hnb134 := NB273_260.out
           have hnc134 := NB260_273.out
           have hnb135 := NB273_264.out
           have hnc135 := NB264_273.out
           have hnb136 := NB273_268.out
           have hnc136 := NB268_273.out
           have hcz137_0 : w128.cell? ⟨gb273, 0, none⟩ = some (.slice Ao65 t269.length co65) := (blk_cell BK273.out 0).trans rfl
           have hfz137_0 := blk_frozen BK273.out 0
           have hnb138 := NB260_246.out
           have hnc138 := NB246_260.out
           have hnb139 := NB260_247.out
           have hnc139 := NB247_260.out
           have hnb140 := NB260_264.out
           have hnc140 := NB264_260.out
           have hnb141 := NB260_268.out
           have hnc141 := NB268_260.out
           have hcz142_0 : w128.cell? ⟨gb260, 0, none⟩ = some (.slice Ao41 t256.length co41) := (blk_cell BK260.out 0).trans rfl
           have hfz142_0 := blk_frozen BK260.out 0
           go_wp2_with (first | (go_at_call 9; (with_reducible refine (laws_eqPicture.calls kj24 _ _ t269 _ _ t256 true _ ?side1 ?side2 ?side3 ?side4 A130.out).mono ?_); (case side1 => exact cT (Kd.R_reads' HO_274000.out).2.2); (case side2 => exact (Kd.R_reads' HO_274000.out).2.1); (case side3 => exact cT (Kd.R_reads' HO_261000.out).2.2); (case side4 => exact (Kd.R_reads' HO_261000.out).2.1); rintro e w143 ⟨rfl, hb⟩; replace HO_261000 := rA HO_261000 hb; replace HO_265000 := rA HO_265000 hb; replace HO_269000 := rA HO_269000 hb; replace HO_274000 := rA HO_274000 hb; replace HO277 := rA HO277 hb; replace HO281 := rA HO281 hb; replace BK246 := bA BK246 hb; replace BK247 := bA BK247 hb; replace BK260 := bA BK260 hb; replace BK264 := bA BK264 hb; replace BK268 := bA BK268 hb; replace BK273 := bA BK273 hb; replace HB := sB HB hb; (try clear hb); (try clear hb2); (try clear hk); (try clear hi)))
           go_meet
           case rel => exact ⟨_, ((t272 != t259)), (by first | rfl | (simp; done) | (simp [*]; done)), H', ⟨by have := HJ24.out; first | omega | exact Nat.le_refl _⟩, ⟨by (with_reducible repeat (first | apply Kd.R_alloc | apply Kd.R_drewN | apply Kd.R_drew)); exact Kd.R_mono HO_261000.out (fun _ hk => ⟨hk.1, ⟨hk.2.1, hk.2.2.1⟩⟩)⟩, ⟨by (with_reducible repeat (first | apply Kd.R_alloc | apply Kd.R_drewN | apply Kd.R_drew)); exact Kd.R_mono HO_265000.out (fun _ hk => ⟨hk.1, ⟨hk.2.1, hk.2.2.1⟩⟩)⟩, ⟨by (with_reducible repeat (first | apply Kd.R_alloc | apply Kd.R_drewN | apply Kd.R_drew)); exact Kd.R_mono HO_269000.out (fun _ hk => ⟨hk.1, ⟨hk.2.1, hk.2.2.1⟩⟩)⟩, ⟨by (with_reducible repeat (first | apply Kd.R_alloc | apply Kd.R_drewN | apply Kd.R_drew)); exact Kd.R_mono HO_274000.out (fun _ hk => ⟨hk.1, ⟨hk.2.1, hk.2.2.1⟩⟩)⟩, ⟨by (with_reducible repeat (first | refine blk_drewN ?_ _ | refine blk_drew ?_ | refine blk_alloc ?_ _)); exact BK246.out⟩, ⟨by (with_reducible repeat (first | refine blk_drewN ?_ _ | refine blk_drew ?_ | refine blk_alloc ?_ _)); exact BK247.out⟩, ⟨by (with_reducible repeat (first | refine blk_drewN ?_ _ | refine blk_drew ?_ | refine blk_alloc ?_ _)); exact BK260.out⟩, ⟨by (with_reducible repeat (first | refine blk_drewN ?_ _ | refine blk_drew ?_ | refine blk_alloc ?_ _)); exact BK264.out⟩, ⟨by (with_reducible repeat (first | refine blk_drewN ?_ _ | refine blk_drew ?_ | refine blk_alloc ?_ _)); exact BK268.out⟩, ⟨by (with_reducible repeat (first | refine blk_drewN ?_ _ | refine blk_drew ?_ | refine blk_alloc ?_ _)); exact BK273.out⟩, ⟨by repeat (first | (with_reducible first | exact HB.out | apply below_alloc | apply pw_below_drewN | apply below_drew1 | refine below_set ?_ GE246.out | refine below_set ?_ GE247.out | refine below_set ?_ GE260.out | refine below_set ?_ GE264.out | refine below_set ?_ GE268.out | refine below_set ?_ GE273.out) | exact HB.out)⟩⟩
          ·replace c131 := Bool.eq_false_iff.mpr c131
           subst c131
           have H1 : (laws_FnExactSumOfPictures.j1 kj24 t259 true l0_0 l1_0 t256 t269) = some r := by rw [if_neg (show ¬ (false = true) by decide)] at H; exact H
           exfalso
           cases kj24 with
           | zero => simp [laws_FnExactSumOfPictures.j1] at H1
           | succ n_ =>
            simp only [laws_FnExactSumOfPictures.j1, if_true] at H1
            exact absurd ((Option.some.inj H1).trans hr_.out) (by decide)
        case rest =>
         clear HC107
         try clear c1
         try clear p2
         try clear c4
         try clear c5
         try clear c6
         try clear c7
         try clear c8
         try clear c9
         try clear c10
         try clear c11
         try clear c12
         try clear c13
         try clear c14
         try clear c15
         try clear c43
         try clear c48
         try clear c49
         try clear c50
         try clear c52
         try clear c57
         try clear c58
         try clear c59
         try clear c60
         try clear c66
         try clear c67
         try clear c68
         try clear c69
         try clear c70
         try clear c73
         try clear c74
         try clear c75
         try clear c76
         try clear c77
         try clear c78
         try clear c80
         try clear c81
         try clear c82
         try clear c83
         try clear c86
         try clear c87
         try clear c88
         try clear c89
         try clear c90
         try clear c92
         try clear c93
         try clear c94
         try clear c95
         try clear c98
         try clear c101
         try clear c104
         try clear c116
         try clear c117
         try clear c118
         try clear c119
         try clear c120
         try clear c123
         try clear c124
         try clear c125
         try clear c126
         try clear c129
         try clear c129b0
         try clear c131
         try clear c132
         try clear c133
         try clear c134
         try clear c135
         try clear c136
         try clear c138
         try clear c139
         try clear c140
         try clear c141
         try clear c144
         try clear c145
         try clear c146
         try clear c147
         try clear c148
         try clear c150
         try clear c151
         try clear c152
         try clear c153
         try clear hcz121_0
         try clear hcz127_0
         try clear hcz137_0
         try clear hcz142_0
         try clear hcz149_0
         try clear hcz154_0
         try clear hcz44_0
         try clear hcz51_0
         try clear hcz53_0
         try clear hcz61_0
         try clear hcz62_0
         try clear hcz71_0
         try clear hcz79_0
         try clear hcz84_0
         try clear hcz91_0
         try clear hcz96_0
         try clear hfz121_0
         try clear hfz127_0
         try clear hfz137_0
         try clear hfz142_0
         try clear hfz149_0
         try clear hfz154_0
         try clear hfz44_0
         try clear hfz51_0
         try clear hfz53_0
         try clear hfz61_0
         try clear hfz62_0
         try clear hfz71_0
         try clear hfz79_0
         try clear hfz84_0
         try clear hfz91_0
         try clear hfz96_0
         try clear p2
         obtain ⟨kq, x82_106, rfl, HA, HJ106, HO_261000, HO_265000, HO_269000, HO_274000, BK246, BK247, BK260, BK264, BK268, BK273, HB⟩ := hcut
         have hl265000_106 := (Kd.R_reads' HO_265000.out).1
         rw [hl265000_106] at HO_265000
         (try simp only [hl265000_106])
         (try simp only [hl265000_106] at BK246)
         (try simp only [hl265000_106] at BK247)
         (try simp only [hl265000_106] at BK260)
         (try simp only [hl265000_106] at BK264)
         (try simp only [hl265000_106] at BK268)
         (try simp only [hl265000_106] at BK273)
         (try simp only [hl265000_106] at HO_261000)
         (try simp only [hl265000_106] at HO_269000)
         (try simp only [hl265000_106] at HO_274000)
         have hl269000_106 := (Kd.R_reads' HO_269000.out).1
         rw [hl269000_106] at HO_269000
         (try simp only [hl269000_106])
         (try simp only [hl269000_106] at BK246)
         (try simp only [hl269000_106] at BK247)
         (try simp only [hl269000_106] at BK260)
         (try simp only [hl269000_106] at BK264)
         (try simp only [hl269000_106] at BK268)
         (try simp only [hl269000_106] at BK273)
         (try simp only [hl269000_106] at HO_261000)
         (try simp only [hl269000_106] at HO_265000)
         (try simp only [hl269000_106] at HO_274000)
         cases kq with
         | zero => exact absurd HA.out (by simp [laws_FnExactSumOfPictures.j1])
         | succ kj106 =>
          have H := HA.out
          clear HA
          simp only [laws_FnExactSumOfPictures.j1] at H
          by_cases c156 : x82_106 = true
          ·subst c156
           have H1 : (some false) = some r := by rw [if_pos rfl] at H; exact H
           exact absurd ((Option.some.inj H1).trans hr_.out) (by decide)
          ·replace c156 := Bool.eq_false_iff.mpr c156
           subst c156
           have H1 : ((laws_markPicture.f kj106 t269 1).bind fun bt288 => ((laws_heldPicture.f kj106 bt288.2 1).bind fun t290 => (if t290 < 0 then (some false) else (if t290 = bt288.1 then ((laws_toPicture.f kj106 l0_0).bind fun t291 => ((laws_toPicture.f kj106 l1_0).bind fun t294 => ((impl_SumOfPictures.f kj106 t291 t294).bind fun bt297 => ((laws_eqPicture.f kj106 bt297.1 t256).bind fun t302 => (if t302 = true then (laws_FnExactSumOfPictures.j2 kj106 bt288.1 (bt297.2 != t259) bt288.2) else (laws_FnExactSumOfPictures.j2 kj106 bt288.1 true bt288.2)))))) else (some false))))) = some r := by rw [if_neg (show ¬ (false = true) by decide)] at H; exact H
           clear H
           have H := H1
           clear H1
           replace H := Option.bind_eq_some_iff.mp H
           obtain ⟨⟨t288, t289⟩, A1570, H⟩ := H
           replace H : ((laws_heldPicture.f kj106 t289 1).bind fun t290 => (if t290 < 0 then (some false) else (if t290 = t288 then ((laws_toPicture.f kj106 l0_0).bind fun t291 => ((laws_toPicture.f kj106 l1_0).bind fun t294 => ((impl_SumOfPictures.f kj106 t291 t294).bind fun bt297 => ((laws_eqPicture.f kj106 bt297.1 t256).bind fun t302 => (if t302 = true then (laws_FnExactSumOfPictures.j2 kj106 t288 (bt297.2 != t259) t289) else (laws_FnExactSumOfPictures.j2 kj106 t288 true t289)))))) else (some false)))) = some r := H
           have A157 := Aside0.mk A1570
           clear A1570
           replace H := Option.bind_eq_some_iff.mp H
           obtain ⟨t290, A1580, H⟩ := H
           replace H : (if t290 < 0 then (some false) else (if t290 = t288 then ((laws_toPicture.f kj106 l0_0).bind fun t291 => ((laws_toPicture.f kj106 l1_0).bind fun t294 => ((impl_SumOfPictures.f kj106 t291 t294).bind fun bt297 => ((laws_eqPicture.f kj106 bt297.1 t256).bind fun t302 => (if t302 = true then (laws_FnExactSumOfPictures.j2 kj106 t288 (bt297.2 != t259) t289) else (laws_FnExactSumOfPictures.j2 kj106 t288 true t289)))))) else (some false))) = some r := H
           have A158 := Aside0.mk A1580
           clear A1580
           by_cases c159 : t290 < 0
           ·rw [if_pos c159] at H
            have c159b0 : decide (t290 < 0) = true := decide_eq_true c159
            clear c159
            try exact absurd ((Option.some.inj H).trans hr_.out) (by decide)
            all_goals
             obtain rfl := Option.some.inj H
             have hnb160 := NB273_246.out
             have hnc160 := NB246_273.out
             have hnb161 := NB273_247.out
             have hnc161 := NB247_273.out
             have hnb162 := NB273_260.out
             have hnc162 := NB260_273.out
             have hnb163 := NB273_264.out
             have hnc163 := NB264_273.out
             have hnb164 := NB273_268.out
             have hnc164 := NB268_273.out
             have hcz165_0 : wc.cell? ⟨gb273, 0, none⟩ = some (.slice Ao65 t269.length co65) := (blk_cell BK273.out 0).trans rfl
             have hfz165_0 := blk_frozen BK273.out 0
             go_wp2_with (first | ((with_reducible refine gate_callee (f := 10) rfl ?_); refine goesL_ (some 85) rfl rfl Try.func10 (by kernel_rfl) rfl #[.agg #[.slice Ao65 t269.length co65], .int .i64 1] rfl (by (try simp only [List.map_toArray, List.map_cons, List.map_nil]); first | done | rfl) ?_; (with_reducible refine (laws_markPicture.calls kj106 (fun k_ => some k_ = (.slice Ao65 t269.length co65 : Value).ownBlock) (.slice Ao65 t269.length co65) t269 1 t288 t289 w _ ?side1 ?side2 A157.out).mono ?_); (case side1 => exact sT HB); (case side2 => exact Kd.R_tight rfl HO_274000.out); rintro e w166 ⟨rfl, hy0, hb, hkp⟩; refine ⟨_, rfl, ?_⟩; replace HO_261000 := Aside0.mk (Kd.R_mono (ok' := fun k_ => some k_ ≠ (.slice Ao47 t284.length co47 : Value).ownBlock ∧ some k_ ≠ (.slice Ao56 t286.length co56 : Value).ownBlock ∧ some k_ ≠ (.slice Ao65 t269.length co65 : Value).ownBlock) (Kd.R_keptB (HO_261000.out) hkp (fun k_ hk_ hs_ => (hk_.2.2) hs_)) (fun k_ hk_ => ⟨hk_.1.1, hk_.1.2.1, hk_.1.2.2⟩)); replace HO_265000 := Aside0.mk (Kd.R_mono (ok' := fun k_ => some k_ ≠ (.slice Ao41 t256.length co41 : Value).ownBlock ∧ some k_ ≠ (.slice Ao56 t286.length co56 : Value).ownBlock ∧ some k_ ≠ (.slice Ao65 t269.length co65 : Value).ownBlock) (Kd.R_keptB (HO_265000.out) hkp (fun k_ hk_ hs_ => (hk_.2.2) hs_)) (fun k_ hk_ => ⟨hk_.1.1, hk_.1.2.1, hk_.1.2.2⟩)); replace HO_269000 := Aside0.mk (Kd.R_mono (ok' := fun k_ => some k_ ≠ (.slice Ao41 t256.length co41 : Value).ownBlock ∧ some k_ ≠ (.slice Ao47 t284.length co47 : Value).ownBlock ∧ some k_ ≠ (.slice Ao65 t269.length co65 : Value).ownBlock) (Kd.R_keptB (HO_269000.out) hkp (fun k_ hk_ hs_ => (hk_.2.2) hs_)) (fun k_ hk_ => ⟨hk_.1.1, hk_.1.2.1, hk_.1.2.2⟩)); replace BK246 := Aside0.mk (blk_kept (by first | exact BK246.out | exact blk_alloc BK246.out _) hkp (fun hs_ => (fun e_ => (Kd.R_ne HO_274000.out BK246.out (by decide)) e_) hs_)); replace BK247 := Aside0.mk (blk_kept (by first | exact BK247.out | exact blk_alloc BK247.out _) hkp (fun hs_ => (fun e_ => (Kd.R_ne HO_274000.out BK247.out (by decide)) e_) hs_)); replace BK260 := Aside0.mk (blk_kept (by first | exact BK260.out | exact blk_alloc BK260.out _) hkp (fun hs_ => (fun e_ => (Kd.R_ne HO_274000.out BK260.out (by decide)) e_) hs_)); replace BK264 := Aside0.mk (blk_kept (by first | exact BK264.out | exact blk_alloc BK264.out _) hkp (fun hs_ => (fun e_ => (Kd.R_ne HO_274000.out BK264.out (by decide)) e_) hs_)); replace BK268 := Aside0.mk (blk_kept (by first | exact BK268.out | exact blk_alloc BK268.out _) hkp (fun hs_ => (fun e_ => (Kd.R_ne HO_274000.out BK268.out (by decide)) e_) hs_)); replace BK273 := Aside0.mk (blk_kept (by first | exact BK273.out | exact blk_alloc BK273.out _) hkp (fun hs_ => (fun e_ => (Kd.R_ne HO_274000.out BK273.out (by decide)) e_) hs_)); replace HO_274000 := Aside0.mk (Kd.R_reok rfl hy0 (fun k_ e_ => HO_274000.out.1 k_ e_)); replace HB := Aside0.mk (hb); (try clear hb); (try clear hkp); (try clear hy0); have hcz167_0 : w166.cell? ⟨gb273, 0, none⟩ = some (.slice Ao65 t269.length co65) := (blk_cell BK273.out 0).trans rfl; have hfz167_0 := blk_frozen BK273.out 0) | ((with_reducible refine gate_callee (f := 11) rfl ?_); refine goesL_ (some 88) rfl rfl Try.func11 (by kernel_rfl) rfl #[.agg #[.slice Ao65 t289.length co65], .int .i64 1] rfl (by (try simp only [List.map_toArray, List.map_cons, List.map_nil]); first | done | (rw [show t289.length = t269.length from (Kd.R_reads' HO_274000.out).1.symm] <;> rfl) | rfl | (simp only [List.length_drop, List.length_take]; rfl)) ?_; (with_reducible refine (laws_heldPicture.calls kj106 _ _ t289 1 t290 _ ?side1 ?side2 A158.out).mono ?_); (case side1 => exact cT (Kd.R_reads' HO_274000.out).2.2); (case side2 => rw [show t289.length = t269.length from (Kd.R_reads' HO_274000.out).1.symm]; exact (Kd.R_reads' HO_274000.out).2.1); rintro e w168 ⟨rfl, hb⟩; refine ⟨_, rfl, ?_⟩; replace HO_261000 := rA HO_261000 hb; replace HO_265000 := rA HO_265000 hb; replace HO_269000 := rA HO_269000 hb; replace HO_274000 := rA HO_274000 hb; replace BK246 := bA BK246 hb; replace BK247 := bA BK247 hb; replace BK260 := bA BK260 hb; replace BK264 := bA BK264 hb; replace BK268 := bA BK268 hb; replace BK273 := bA BK273 hb; replace HB := sB HB hb; (try clear hb); (try clear hb2); (try clear hk); (try clear hi)))
             go_ret
             exact ⟨by first | rfl | (simp [errW_none, errW_some] <;> rfl) | (simp [*, errW_none, errW_some] <;> rfl), by repeat (first | (with_reducible first | exact HB.out | apply below_alloc | apply pw_below_drewN | apply below_drew1 | refine below_set ?_ GE246.out | refine below_set ?_ GE247.out | refine below_set ?_ GE260.out | refine below_set ?_ GE264.out | refine below_set ?_ GE268.out | refine below_set ?_ GE273.out) | exact HB.out)⟩
           ·rw [if_neg c159] at H
            have c159b0 : decide (t290 < 0) = false := decide_eq_false c159
            clear c159
            by_cases c169 : t290 = t288
            ·rw [if_pos c169] at H
             have c169b0 : (t290 == t288) = true := beq_iff_eq.mpr c169
             have c169b1 : (t290 != t288) = false := bne_eq_false_iff_eq.mpr c169
             clear c169
             replace H := Option.bind_eq_some_iff.mp H
             obtain ⟨t291, A1700, H⟩ := H
             replace H : ((laws_toPicture.f kj106 l1_0).bind fun t294 => ((impl_SumOfPictures.f kj106 t291 t294).bind fun bt297 => ((laws_eqPicture.f kj106 bt297.1 t256).bind fun t302 => (if t302 = true then (laws_FnExactSumOfPictures.j2 kj106 t288 (bt297.2 != t259) t289) else (laws_FnExactSumOfPictures.j2 kj106 t288 true t289))))) = some r := H
             have A170 := Aside0.mk A1700
             clear A1700
             replace H := Option.bind_eq_some_iff.mp H
             obtain ⟨t294, A1710, H⟩ := H
             replace H : ((impl_SumOfPictures.f kj106 t291 t294).bind fun bt297 => ((laws_eqPicture.f kj106 bt297.1 t256).bind fun t302 => (if t302 = true then (laws_FnExactSumOfPictures.j2 kj106 t288 (bt297.2 != t259) t289) else (laws_FnExactSumOfPictures.j2 kj106 t288 true t289)))) = some r := H
             have A171 := Aside0.mk A1710
             clear A1710
             replace H := Option.bind_eq_some_iff.mp H
             obtain ⟨⟨t297, t300⟩, A1720, H⟩ := H
             replace H : ((laws_eqPicture.f kj106 t297 t256).bind fun t302 => (if t302 = true then (laws_FnExactSumOfPictures.j2 kj106 t288 (t300 != t259) t289) else (laws_FnExactSumOfPictures.j2 kj106 t288 true t289))) = some r := H
             have A172 := Aside0.mk A1720
             clear A1720
             have HC173 := Aside0.mk H
             clear H
             have hnb174 := NB273_246.out
             have hnc174 := NB246_273.out
             have hnb175 := NB273_247.out
             have hnc175 := NB247_273.out
             have hnb176 := NB273_260.out
             have hnc176 := NB260_273.out
             have hnb177 := NB273_264.out
             have hnc177 := NB264_273.out
             have hnb178 := NB273_268.out
             have hnc178 := NB268_273.out
             have hcz179_0 : wc.cell? ⟨gb273, 0, none⟩ = some (.slice Ao65 t269.length co65) := (blk_cell BK273.out 0).trans rfl
             have hfz179_0 := blk_frozen BK273.out 0
             try go_wp2_with (first | ((with_reducible refine gate_callee (f := 10) rfl ?_); refine goesL_ (some 85) rfl rfl Try.func10 (by kernel_rfl) rfl #[.agg #[.slice Ao65 t269.length co65], .int .i64 1] rfl (by (try simp only [List.map_toArray, List.map_cons, List.map_nil]); first | done | rfl) ?_; (with_reducible refine (laws_markPicture.calls kj106 (fun k_ => some k_ = (.slice Ao65 t269.length co65 : Value).ownBlock) (.slice Ao65 t269.length co65) t269 1 t288 t289 w _ ?side1 ?side2 A157.out).mono ?_); (case side1 => exact sT HB); (case side2 => exact Kd.R_tight rfl HO_274000.out); rintro e w180 ⟨rfl, hy0, hb, hkp⟩; refine ⟨_, rfl, ?_⟩; replace HO_261000 := Aside0.mk (Kd.R_mono (ok' := fun k_ => some k_ ≠ (.slice Ao47 t284.length co47 : Value).ownBlock ∧ some k_ ≠ (.slice Ao56 t286.length co56 : Value).ownBlock ∧ some k_ ≠ (.slice Ao65 t269.length co65 : Value).ownBlock) (Kd.R_keptB (HO_261000.out) hkp (fun k_ hk_ hs_ => (hk_.2.2) hs_)) (fun k_ hk_ => ⟨hk_.1.1, hk_.1.2.1, hk_.1.2.2⟩)); replace HO_265000 := Aside0.mk (Kd.R_mono (ok' := fun k_ => some k_ ≠ (.slice Ao41 t256.length co41 : Value).ownBlock ∧ some k_ ≠ (.slice Ao56 t286.length co56 : Value).ownBlock ∧ some k_ ≠ (.slice Ao65 t269.length co65 : Value).ownBlock) (Kd.R_keptB (HO_265000.out) hkp (fun k_ hk_ hs_ => (hk_.2.2) hs_)) (fun k_ hk_ => ⟨hk_.1.1, hk_.1.2.1, hk_.1.2.2⟩)); replace HO_269000 := Aside0.mk (Kd.R_mono (ok' := fun k_ => some k_ ≠ (.slice Ao41 t256.length co41 : Value).ownBlock ∧ some k_ ≠ (.slice Ao47 t284.length co47 : Value).ownBlock ∧ some k_ ≠ (.slice Ao65 t269.length co65 : Value).ownBlock) (Kd.R_keptB (HO_269000.out) hkp (fun k_ hk_ hs_ => (hk_.2.2) hs_)) (fun k_ hk_ => ⟨hk_.1.1, hk_.1.2.1, hk_.1.2.2⟩)); replace BK246 := Aside0.mk (blk_kept (by first | exact BK246.out | exact blk_alloc BK246.out _) hkp (fun hs_ => (fun e_ => (Kd.R_ne HO_274000.out BK246.out (by decide)) e_) hs_)); replace BK247 := Aside0.mk (blk_kept (by first | exact BK247.out | exact blk_alloc BK247.out _) hkp (fun hs_ => (fun e_ => (Kd.R_ne HO_274000.out BK247.out (by decide)) e_) hs_)); replace BK260 := Aside0.mk (blk_kept (by first | exact BK260.out | exact blk_alloc BK260.out _) hkp (fun hs_ => (fun e_ => (Kd.R_ne HO_274000.out BK260.out (by decide)) e_) hs_)); replace BK264 := Aside0.mk (blk_kept (by first | exact BK264.out | exact blk_alloc BK264.out _) hkp (fun hs_ => (fun e_ => (Kd.R_ne HO_274000.out BK264.out (by decide)) e_) hs_)); replace BK268 := Aside0.mk (blk_kept (by first | exact BK268.out | exact blk_alloc BK268.out _) hkp (fun hs_ => (fun e_ => (Kd.R_ne HO_274000.out BK268.out (by decide)) e_) hs_)); replace BK273 := Aside0.mk (blk_kept (by first | exact BK273.out | exact blk_alloc BK273.out _) hkp (fun hs_ => (fun e_ => (Kd.R_ne HO_274000.out BK273.out (by decide)) e_) hs_)); replace HO_274000 := Aside0.mk (Kd.R_reok rfl hy0 (fun k_ e_ => HO_274000.out.1 k_ e_)); replace HB := Aside0.mk (hb); (try clear hb); (try clear hkp); (try clear hy0); have hcz181_0 : w180.cell? ⟨gb273, 0, none⟩ = some (.slice Ao65 t269.length co65) := (blk_cell BK273.out 0).trans rfl; have hfz181_0 := blk_frozen BK273.out 0) | ((with_reducible refine gate_callee (f := 11) rfl ?_); refine goesL_ (some 88) rfl rfl Try.func11 (by kernel_rfl) rfl #[.agg #[.slice Ao65 t289.length co65], .int .i64 1] rfl (by (try simp only [List.map_toArray, List.map_cons, List.map_nil]); first | done | (rw [show t289.length = t269.length from (Kd.R_reads' HO_274000.out).1.symm] <;> rfl) | rfl | (simp only [List.length_drop, List.length_take]; rfl)) ?_; (with_reducible refine (laws_heldPicture.calls kj106 _ _ t289 1 t290 _ ?side1 ?side2 A158.out).mono ?_); (case side1 => exact cT (Kd.R_reads' HO_274000.out).2.2); (case side2 => rw [show t289.length = t269.length from (Kd.R_reads' HO_274000.out).1.symm]; exact (Kd.R_reads' HO_274000.out).2.1); rintro e w182 ⟨rfl, hb⟩; refine ⟨_, rfl, ?_⟩; replace HO_261000 := rA HO_261000 hb; replace HO_265000 := rA HO_265000 hb; replace HO_269000 := rA HO_269000 hb; replace HO_274000 := rA HO_274000 hb; replace BK246 := bA BK246 hb; replace BK247 := bA BK247 hb; replace BK260 := bA BK260 hb; replace BK264 := bA BK264 hb; replace BK268 := bA BK268 hb; replace BK273 := bA BK273 hb; replace HB := sB HB hb; (try clear hb); (try clear hb2); (try clear hk); (try clear hi)))
             replace HO_261000 := Aside0.mk (Kd.R_drew HO_261000.out)
             replace HO_265000 := Aside0.mk (Kd.R_drew HO_265000.out)
             replace HO_269000 := Aside0.mk (Kd.R_drew HO_269000.out)
             replace HO_274000 := Aside0.mk (Kd.R_drew HO_274000.out)
             replace BK246 := Aside0.mk (blk_drew BK246.out)
             replace BK247 := Aside0.mk (blk_drew BK247.out)
             replace BK260 := Aside0.mk (blk_drew BK260.out)
             replace BK264 := Aside0.mk (blk_drew BK264.out)
             replace BK268 := Aside0.mk (blk_drew BK268.out)
             replace BK273 := Aside0.mk (blk_drew BK273.out)
             replace HB := Aside0.mk (below_drew1 HB.out)
             refine start_ (n := 11) (S := fun w' => w'.cell? ⟨gb246, 0, none⟩ = some (.slice A0_0 l0_0.length c0_0) ∧ w'.cell? ⟨gb247, 0, none⟩ = some (.slice A1_0 l1_0.length c1_0)) (ds := []) #[false, false, false, false, false, false, false, false, false, false, false] (by kernel_rfl) rfl rfl ⟨(blk_cell BK246.out 0).trans rfl, (blk_cell BK247.out 0).trans rfl⟩ (fun hHeld => ?_); refine with_tabW laws_FnExactSumOfPictures.tab31 laws_FnExactSumOfPictures.bits31 (fun HT_ HW_ => ?_)
             generalize w182.drew = w183 at HO_261000 HO_265000 HO_269000 HO_274000 BK246 BK247 BK260 BK264 BK268 BK273 HB hHeld ⊢
             refine take_ (i := 0) (N := some 95) (v := ?_) (a' := ?_) #[true, false, false, false, false, false, false, false, false, false, false] rfl rfl (take_ofW HT_.out HW_.out (by kernel_rfl)) (fun _ _ _ h => h) (Or.inl ⟨by rfl, ?_⟩) hHeld ?_ ?_
             rotate_left
             ·rintro w' ⟨s0, s1⟩
              go_simp
              with_reducible rfl
             rotate_left
             ·simp only [Act.put, List.setIfInBounds_toArray, List.set_cons_zero, List.set_cons_succ, i64_w, i32_w]
              rfl
             refine take_ (i := 2) (N := some 97) (v := ?_) (a' := ?_) #[true, false, true, false, false, false, false, false, false, false, false] rfl rfl (take_ofW HT_.out HW_.out (by kernel_rfl)) (fun _ _ _ h => h) (Or.inl ⟨by rfl, ?_⟩) hHeld ?_ ?_
             rotate_left
             ·rintro w' ⟨s0, s1⟩
              go_simp
              with_reducible rfl
             rotate_left
             ·simp only [Act.put, List.setIfInBounds_toArray, List.set_cons_zero, List.set_cons_succ, i64_w, i32_w]
              rfl
             refine join_ (σ := Value × Value × Value × Nat) 2 #[true, true, true, true, true, true, true, true, true, false, false] (fun s_ => [(96, .agg #[s_.1]), (98, .agg #[s_.2.1]), (99, .tuple #[.agg #[s_.2.2.1], .bool t300]), (15, .pointer (some ⟨s_.2.2.2, 0, none⟩)), (94, .tuple #[.agg #[s_.2.2.1], .bool t300]), (100, .agg #[s_.2.2.1]), (101, .bool t300)]) (fun s_ w' => (w'.cell? ⟨gb246, 0, none⟩ = some (.slice A0_0 l0_0.length c0_0) ∧ w'.cell? ⟨gb247, 0, none⟩ = some (.slice A1_0 l1_0.length c1_0)) ∧ (Kd.R k47 47 w' w.heap.size (fun k_ => some k_ ≠ (s_.2.1 : Value).ownBlock ∧ some k_ ≠ (s_.2.2.1 : Value).ownBlock ∧ some k_ ≠ (.slice Ao41 t256.length co41 : Value).ownBlock ∧ some k_ ≠ (.slice Ao47 t284.length co47 : Value).ownBlock ∧ some k_ ≠ (.slice Ao56 t286.length co56 : Value).ownBlock ∧ some k_ ≠ (.slice Ao65 t269.length co65 : Value).ownBlock) s_.1 t291) ∧ (Kd.R k47 47 w' w.heap.size (fun k_ => some k_ ≠ (s_.1 : Value).ownBlock ∧ some k_ ≠ (s_.2.2.1 : Value).ownBlock ∧ some k_ ≠ (.slice Ao41 t256.length co41 : Value).ownBlock ∧ some k_ ≠ (.slice Ao47 t284.length co47 : Value).ownBlock ∧ some k_ ≠ (.slice Ao56 t286.length co56 : Value).ownBlock ∧ some k_ ≠ (.slice Ao65 t269.length co65 : Value).ownBlock) s_.2.1 t294) ∧ (Kd.R k47 47 w' w.heap.size (fun k_ => some k_ ≠ (s_.1 : Value).ownBlock ∧ some k_ ≠ (s_.2.1 : Value).ownBlock ∧ some k_ ≠ (.slice Ao41 t256.length co41 : Value).ownBlock ∧ some k_ ≠ (.slice Ao47 t284.length co47 : Value).ownBlock ∧ some k_ ≠ (.slice Ao56 t286.length co56 : Value).ownBlock ∧ some k_ ≠ (.slice Ao65 t269.length co65 : Value).ownBlock) s_.2.2.1 t297) ∧ (Kd.R k47 47 w' w.heap.size (fun k_ => some k_ ≠ (s_.1 : Value).ownBlock ∧ some k_ ≠ (s_.2.1 : Value).ownBlock ∧ some k_ ≠ (s_.2.2.1 : Value).ownBlock ∧ some k_ ≠ (.slice Ao47 t284.length co47 : Value).ownBlock ∧ some k_ ≠ (.slice Ao56 t286.length co56 : Value).ownBlock ∧ some k_ ≠ (.slice Ao65 t269.length co65 : Value).ownBlock) (.slice Ao41 t256.length co41) t256) ∧ (Kd.R k47 47 w' w.heap.size (fun k_ => some k_ ≠ (s_.1 : Value).ownBlock ∧ some k_ ≠ (s_.2.1 : Value).ownBlock ∧ some k_ ≠ (s_.2.2.1 : Value).ownBlock ∧ some k_ ≠ (.slice Ao41 t256.length co41 : Value).ownBlock ∧ some k_ ≠ (.slice Ao56 t286.length co56 : Value).ownBlock ∧ some k_ ≠ (.slice Ao65 t269.length co65 : Value).ownBlock) (.slice Ao47 t284.length co47) t284) ∧ (Kd.R k47 47 w' w.heap.size (fun k_ => some k_ ≠ (s_.1 : Value).ownBlock ∧ some k_ ≠ (s_.2.1 : Value).ownBlock ∧ some k_ ≠ (s_.2.2.1 : Value).ownBlock ∧ some k_ ≠ (.slice Ao41 t256.length co41 : Value).ownBlock ∧ some k_ ≠ (.slice Ao47 t284.length co47 : Value).ownBlock ∧ some k_ ≠ (.slice Ao65 t269.length co65 : Value).ownBlock) (.slice Ao56 t286.length co56) t286) ∧ (Kd.R k47 47 w' w.heap.size (fun k_ => some k_ ≠ (s_.1 : Value).ownBlock ∧ some k_ ≠ (s_.2.1 : Value).ownBlock ∧ some k_ ≠ (s_.2.2.1 : Value).ownBlock ∧ some k_ ≠ (.slice Ao41 t256.length co41 : Value).ownBlock ∧ some k_ ≠ (.slice Ao47 t284.length co47 : Value).ownBlock ∧ some k_ ≠ (.slice Ao56 t286.length co56 : Value).ownBlock) (.slice Ao65 t269.length co65) t289) ∧ (w'.heap[gb246]? = some (.cells #[.slice A0_0 l0_0.length c0_0] 24 (0, 0))) ∧ (w'.heap[gb247]? = some (.cells #[.slice A1_0 l1_0.length c1_0] 24 (0, 0))) ∧ (w'.heap[gb260]? = some (.cells #[.slice Ao41 t256.length co41] 28 (0, 0))) ∧ (w'.heap[gb264]? = some (.cells #[.slice Ao47 t284.length co47] 28 (0, 0))) ∧ (w'.heap[gb268]? = some (.cells #[.slice Ao56 t286.length co56] 28 (0, 0))) ∧ (w'.heap[gb273]? = some (.cells #[.slice Ao65 t269.length co65] 28 (0, 0))) ∧ (w'.heap[s_.2.2.2]? = some (.cells #[.slice none 0 0] 28 (0, 0))) ∧ (w.heap.size ≤ s_.2.2.2) ∧ (w.heap.size ≤ s_.2.2.2) ∧ (gb246 ≠ s_.2.2.2) ∧ (s_.2.2.2 ≠ gb246) ∧ (gb247 ≠ s_.2.2.2) ∧ (s_.2.2.2 ≠ gb247) ∧ (gb260 ≠ s_.2.2.2) ∧ (s_.2.2.2 ≠ gb260) ∧ (gb264 ≠ s_.2.2.2) ∧ (s_.2.2.2 ≠ gb264) ∧ (gb268 ≠ s_.2.2.2) ∧ (s_.2.2.2 ≠ gb268) ∧ (gb273 ≠ s_.2.2.2) ∧ (s_.2.2.2 ≠ gb273) ∧ (Below w.heap.size w w')) ?_ ?_
             rotate_left
             ·intro hCont
              refine two_ (i := 1) (j := 8) (Ni := some 96) (Nj := some 15) #[true, true, true, false, false, false, false, false, false, false, false] #[true, false, true, false, false, false, false, false, true, false, false] rfl rfl rfl rfl (two_of HT_.out (by kernel_rfl)) (by decide) (by decide) (fun K hK => ?_) (fun K hK => ?_)
              ·skip
               refine goes_ Try.func7 (by kernel_rfl) rfl #[.agg #[.slice A0_0 l0_0.length c0_0]] (by rfl) rfl rfl (by (try simp only [List.map_toArray, List.map_cons, List.map_nil]); first | done | rfl) ?_
               with_reducible refine (laws_toPicture.calls kj106 _ _ l0_0 t291 _ ?side1 ?side2 A170.out).mono ?_
               (case side1 => exact cT (Kd.C_below HR0_0.out HB.out))
               (case side2 => exact HC0_0.out)
               rintro e w184 ⟨v292, rfl, ho0, hb⟩
               refine ⟨_, rfl, ?_⟩
               have HO293 := Aside0.mk (Kd.R_lower (Kd.R_new' (Kd.R_new' (Kd.R_new' (Kd.R_new' ho0 (Kd.R_lt (rT HO_261000))) (Kd.R_lt (rT HO_265000))) (Kd.R_lt (rT HO_269000))) (Kd.R_lt (rT HO_274000))) (below_size (sT HB)))
               replace HO_261000 := Aside0.mk (Kd.R_elder' (rT HO_261000) (Kd.R_base ho0) hb)
               replace HO_265000 := Aside0.mk (Kd.R_elder' (rT HO_265000) (Kd.R_base ho0) hb)
               replace HO_269000 := Aside0.mk (Kd.R_elder' (rT HO_269000) (Kd.R_base ho0) hb)
               replace HO_274000 := Aside0.mk (Kd.R_elder' (rT HO_274000) (Kd.R_base ho0) hb)
               replace BK246 := bA BK246 hb
               replace BK247 := bA BK247 hb
               replace BK260 := bA BK260 hb
               replace BK264 := bA BK264 hb
               replace BK268 := bA BK268 hb
               replace BK273 := bA BK273 hb
               replace HB := sB HB hb
               (try clear hb)
               (try clear hb2)
               (try clear hk)
               (try clear hi)
               (try clear ho0)
               refine hK.out _ _ ⟨(blk_cell BK246.out 0).trans rfl, (blk_cell BK247.out 0).trans rfl⟩ (fun hHeld => ?_)
               clear hK K
               refine norm_ (a' := ?_) ?_ ?_
               rotate_left
               ·show Act.put _ (some 96) _ = _
                simp only [Act.put, List.setIfInBounds_toArray, List.set_cons_zero, List.set_cons_succ, i64_w, i32_w]
                rfl
               refine two_ (i := 3) (j := 8) (Ni := some 98) (Nj := some 15) #[true, true, true, true, false, false, false, false, false, false, false] #[true, true, true, false, false, false, false, false, true, false, false] rfl rfl rfl rfl (two_of HT_.out (by kernel_rfl)) (by decide) (by decide) (fun K hK => ?_) (fun K hK => ?_)
               ·skip
                refine goes_ Try.func7 (by kernel_rfl) rfl #[.agg #[.slice A1_0 l1_0.length c1_0]] (by rfl) rfl rfl (by (try simp only [List.map_toArray, List.map_cons, List.map_nil]); first | done | rfl) ?_
                with_reducible refine (laws_toPicture.calls kj106 _ _ l1_0 t294 _ ?side1 ?side2 A171.out).mono ?_
                (case side1 => exact cT (Kd.C_below HR1_0.out HB.out))
                (case side2 => exact HC1_0.out)
                rintro e w185 ⟨v295, rfl, ho0, hb⟩
                refine ⟨_, rfl, ?_⟩
                have HO296 := Aside0.mk (Kd.R_lower (Kd.R_new' (Kd.R_new' (Kd.R_new' (Kd.R_new' (Kd.R_new' ho0 (Kd.R_lt (rT HO_261000))) (Kd.R_lt (rT HO_265000))) (Kd.R_lt (rT HO_269000))) (Kd.R_lt (rT HO_274000))) (Kd.R_lt (rT HO293))) (below_size (sT HB)))
                replace HO_261000 := Aside0.mk (Kd.R_elder' (rT HO_261000) (Kd.R_base ho0) hb)
                replace HO_265000 := Aside0.mk (Kd.R_elder' (rT HO_265000) (Kd.R_base ho0) hb)
                replace HO_269000 := Aside0.mk (Kd.R_elder' (rT HO_269000) (Kd.R_base ho0) hb)
                replace HO_274000 := Aside0.mk (Kd.R_elder' (rT HO_274000) (Kd.R_base ho0) hb)
                replace HO293 := Aside0.mk (Kd.R_elder' (rT HO293) (Kd.R_base ho0) hb)
                replace BK246 := bA BK246 hb
                replace BK247 := bA BK247 hb
                replace BK260 := bA BK260 hb
                replace BK264 := bA BK264 hb
                replace BK268 := bA BK268 hb
                replace BK273 := bA BK273 hb
                replace HB := sB HB hb
                (try clear hb)
                (try clear hb2)
                (try clear hk)
                (try clear hi)
                (try clear ho0)
                obtain ⟨Ao186, co186, eo186⟩ := Kd.R_slice HO293.out
                (first | subst eo186 | (injection eo186 with f1_ f2_ f3_; have f4_ := f1_.symm; have f5_ := f3_.symm; clear f1_ f2_ f3_; subst f4_; subst f5_))
                obtain ⟨Ao187, co187, eo187⟩ := Kd.R_slice HO296.out
                (first | subst eo187 | (injection eo187 with f1_ f2_ f3_; have f4_ := f1_.symm; have f5_ := f3_.symm; clear f1_ f2_ f3_; subst f4_; subst f5_))
                refine hK.out _ _ ⟨(blk_cell BK246.out 0).trans rfl, (blk_cell BK247.out 0).trans rfl⟩ (fun hHeld => ?_)
                clear hK K
                refine norm_ (a' := ?_) ?_ ?_
                rotate_left
                ·show Act.put _ (some 98) _ = _
                 simp only [Act.put, List.setIfInBounds_toArray, List.set_cons_zero, List.set_cons_succ, i64_w, i32_w]
                 rfl
                refine two_ (i := 4) (j := 8) (Ni := some 99) (Nj := some 15) #[true, true, true, true, true, false, false, false, false, false, false] #[true, true, true, true, false, false, false, false, true, false, false] rfl rfl rfl rfl (two_of HT_.out (by kernel_rfl)) (by decide) (by decide) (fun K hK => ?_) (fun K hK => ?_)
                ·skip
                 refine goes_ Try.func13 (by kernel_rfl) rfl #[.agg #[.slice Ao186 t291.length co186], .agg #[.slice Ao187 t294.length co187]] (by rfl) rfl rfl (by (try simp only [List.map_toArray, List.map_cons, List.map_nil]); first | done | rfl) ?_
                 with_reducible refine (impl_SumOfPictures.calls kj106 _ _ t291 _ _ t294 t297 t300 _ ?side1 ?side2 ?side3 ?side4 A172.out).mono ?_
                 (case side1 => exact cT (Kd.R_reads' HO293.out).2.2)
                 (case side2 => exact (Kd.R_reads' HO293.out).2.1)
                 (case side3 => exact cT (Kd.R_reads' HO296.out).2.2)
                 (case side4 => exact (Kd.R_reads' HO296.out).2.1)
                 rintro e w188 ⟨v298, rfl, ho0, hb⟩
                 refine ⟨_, rfl, ?_⟩
                 have HO299 := Aside0.mk (Kd.R_lower (Kd.R_new' (Kd.R_new' (Kd.R_new' (Kd.R_new' (Kd.R_new' (Kd.R_new' ho0 (Kd.R_lt (rT HO_261000))) (Kd.R_lt (rT HO_265000))) (Kd.R_lt (rT HO_269000))) (Kd.R_lt (rT HO_274000))) (Kd.R_lt (rT HO293))) (Kd.R_lt (rT HO296))) (below_size (sT HB)))
                 replace HO_261000 := Aside0.mk (Kd.R_elder' (rT HO_261000) (Kd.R_base ho0) hb)
                 replace HO_265000 := Aside0.mk (Kd.R_elder' (rT HO_265000) (Kd.R_base ho0) hb)
                 replace HO_269000 := Aside0.mk (Kd.R_elder' (rT HO_269000) (Kd.R_base ho0) hb)
                 replace HO_274000 := Aside0.mk (Kd.R_elder' (rT HO_274000) (Kd.R_base ho0) hb)
                 replace HO293 := Aside0.mk (Kd.R_elder' (rT HO293) (Kd.R_base ho0) hb)
                 replace HO296 := Aside0.mk (Kd.R_elder' (rT HO296) (Kd.R_base ho0) hb)
                 replace BK246 := bA BK246 hb
                 replace BK247 := bA BK247 hb
                 replace BK260 := bA BK260 hb
                 replace BK264 := bA BK264 hb
                 replace BK268 := bA BK268 hb
                 replace BK273 := bA BK273 hb
                 replace HB := sB HB hb
                 (try clear hb)
                 (try clear hb2)
                 (try clear hk)
                 (try clear hi)
                 (try clear ho0)
                 refine hK.out _ _ ⟨(blk_cell BK246.out 0).trans rfl, (blk_cell BK247.out 0).trans rfl⟩ (fun hHeld => ?_)
                 clear hK K
                 refine norm_ (a' := ?_) ?_ ?_
                 rotate_left
                 ·show Act.put _ (some 99) _ = _
                  simp only [Act.put, List.setIfInBounds_toArray, List.set_cons_zero, List.set_cons_succ, i64_w, i32_w]
                  rfl
                 refine pure_ (i := 5) (N := some 94) (v := ?_) (a' := ?_) #[true, true, true, true, true, true, false, false, false, false, false] rfl rfl (any_of HT_.out (by kernel_rfl)) (fun _ _ _ h => h) (Or.inl ⟨by rfl, ?_⟩) ?_ ?_
                 rotate_left
                 ·intro w'
                  go_simp
                  with_reducible rfl
                 rotate_left
                 ·simp only [Act.put, List.setIfInBounds_toArray, List.set_cons_zero, List.set_cons_succ, i64_w, i32_w]
                  rfl
                 refine pure_ (i := 6) (N := some 100) (v := ?_) (a' := ?_) #[true, true, true, true, true, true, true, false, false, false, false] rfl rfl (any_of HT_.out (by kernel_rfl)) (fun _ _ _ h => h) (Or.inl ⟨by rfl, ?_⟩) ?_ ?_
                 rotate_left
                 ·intro w'
                  go_simp
                  with_reducible rfl
                 rotate_left
                 ·simp only [Act.put, List.setIfInBounds_toArray, List.set_cons_zero, List.set_cons_succ, i64_w, i32_w]
                  rfl
                 refine pure_ (i := 7) (N := some 101) (v := ?_) (a' := ?_) #[true, true, true, true, true, true, true, true, false, false, false] rfl rfl (any_of HT_.out (by kernel_rfl)) (fun _ _ _ h => h) (Or.inl ⟨by rfl, ?_⟩) ?_ ?_
                 rotate_left
                 ·intro w'
                  go_simp
                  with_reducible rfl
                 rotate_left
                 ·simp only [Act.put, List.setIfInBounds_toArray, List.set_cons_zero, List.set_cons_succ, i64_w, i32_w]
                  rfl
                 refine one_ (i := 8) (N := some 15) #[true, true, true, true, true, true, true, true, true, false, false] rfl rfl (one_of HT_.out (by kernel_rfl)) (by decide) (fun K hK => ?_)
                 refine box_step ?hg (N := 15) ?hd (cs := #[.slice none 0 0]) (t := 28) ?hr ?_; (case hd => rfl); (case hg => rfl); (case hr => first | (go_simp; done) | (go_simp; rfl))
                 intro gb301 hg w189 hbox hb
                 replace HO_261000 := rA HO_261000 hb
                 replace HO_265000 := rA HO_265000 hb
                 replace HO_269000 := rA HO_269000 hb
                 replace HO_274000 := rA HO_274000 hb
                 replace HO293 := rA HO293 hb
                 replace HO296 := rA HO296 hb
                 replace HO299 := rA HO299 hb
                 have BK301 := Aside0.mk (hbox)
                 have GW301 := zB HB hg
                 have GE301 := zB HB hg
                 replace HB := sB HB hb
                 have NB246_301 := lA BK246 hg
                 have NB301_246 := gA BK246 hg
                 replace BK246 := bA BK246 hb
                 have NB247_301 := lA BK247 hg
                 have NB301_247 := gA BK247 hg
                 replace BK247 := bA BK247 hb
                 have NB260_301 := lA BK260 hg
                 have NB301_260 := gA BK260 hg
                 replace BK260 := bA BK260 hb
                 have NB264_301 := lA BK264 hg
                 have NB301_264 := gA BK264 hg
                 replace BK264 := bA BK264 hb
                 have NB268_301 := lA BK268 hg
                 have NB301_268 := gA BK268 hg
                 replace BK268 := bA BK268 hb
                 have NB273_301 := lA BK273 hg
                 have NB301_273 := gA BK273 hg
                 replace BK273 := bA BK273 hb
                 clear hb hbox hg
                 refine hK.out _ _ ⟨(blk_cell BK246.out 0).trans rfl, (blk_cell BK247.out 0).trans rfl⟩ (fun hHeld => ?_)
                 clear hK K
                 refine norm_ (a' := ?_) ?_ ?_
                 rotate_left
                 ·show Act.put _ (some 15) _ = _
                  simp only [Act.put, List.setIfInBounds_toArray, List.set_cons_zero, List.set_cons_succ, i64_w, i32_w]
                  rfl
                 exact norm_ (by simp only [putAll, Act.put, List.setIfInBounds_toArray, List.set_cons_zero, List.set_cons_succ]) (hCont (.slice Ao186 t291.length co186, .slice Ao187 t294.length co187, v298, gb301) _ ⟨hHeld, (by (with_reducible repeat (first | apply Kd.R_alloc | apply Kd.R_drewN | apply Kd.R_drew)); exact Kd.R_mono HO293.out (fun _ hk => ⟨hk.1.2, ⟨hk.2, ⟨hk.1.1.1.1.1.2, ⟨hk.1.1.1.1.2, ⟨hk.1.1.1.2, hk.1.1.2⟩⟩⟩⟩⟩)), (by (with_reducible repeat (first | apply Kd.R_alloc | apply Kd.R_drewN | apply Kd.R_drew)); exact Kd.R_mono HO296.out (fun _ hk => ⟨hk.1.2, ⟨hk.2, ⟨hk.1.1.1.1.1.2, ⟨hk.1.1.1.1.2, ⟨hk.1.1.1.2, hk.1.1.2⟩⟩⟩⟩⟩)), (by (with_reducible repeat (first | apply Kd.R_alloc | apply Kd.R_drewN | apply Kd.R_drew)); exact Kd.R_mono HO299.out (fun _ hk => ⟨hk.1.2, ⟨hk.2, ⟨hk.1.1.1.1.1.2, ⟨hk.1.1.1.1.2, ⟨hk.1.1.1.2, hk.1.1.2⟩⟩⟩⟩⟩)), (by (with_reducible repeat (first | apply Kd.R_alloc | apply Kd.R_drewN | apply Kd.R_drew)); exact Kd.R_mono HO_261000.out (fun _ hk => ⟨hk.1.1.2, ⟨hk.1.2, ⟨hk.2, ⟨hk.1.1.1.1, ⟨hk.1.1.1.2.1, hk.1.1.1.2.2⟩⟩⟩⟩⟩)), (by (with_reducible repeat (first | apply Kd.R_alloc | apply Kd.R_drewN | apply Kd.R_drew)); exact Kd.R_mono HO_265000.out (fun _ hk => ⟨hk.1.1.2, ⟨hk.1.2, ⟨hk.2, ⟨hk.1.1.1.1, ⟨hk.1.1.1.2.1, hk.1.1.1.2.2⟩⟩⟩⟩⟩)), (by (with_reducible repeat (first | apply Kd.R_alloc | apply Kd.R_drewN | apply Kd.R_drew)); exact Kd.R_mono HO_269000.out (fun _ hk => ⟨hk.1.1.2, ⟨hk.1.2, ⟨hk.2, ⟨hk.1.1.1.1, ⟨hk.1.1.1.2.1, hk.1.1.1.2.2⟩⟩⟩⟩⟩)), (by (with_reducible repeat (first | apply Kd.R_alloc | apply Kd.R_drewN | apply Kd.R_drew)); exact Kd.R_mono HO_274000.out (fun _ hk => ⟨hk.1.1.2, ⟨hk.1.2, ⟨hk.2, ⟨hk.1.1.1.1, ⟨hk.1.1.1.2.1, hk.1.1.1.2.2⟩⟩⟩⟩⟩)), (by first | exact BK246.out | exact blk_alloc BK246.out _), (by first | exact BK247.out | exact blk_alloc BK247.out _), (by first | exact BK260.out | exact blk_alloc BK260.out _), (by first | exact BK264.out | exact blk_alloc BK264.out _), (by first | exact BK268.out | exact blk_alloc BK268.out _), (by first | exact BK273.out | exact blk_alloc BK273.out _), (by first | exact BK301.out | exact blk_alloc BK301.out _), GW301.out, GE301.out, NB246_301.out, NB301_246.out, NB247_301.out, NB301_247.out, NB260_301.out, NB301_260.out, NB264_301.out, NB301_264.out, NB268_301.out, NB301_268.out, NB273_301.out, NB301_273.out, (sT HB)⟩)
                ·skip
                 refine box_step ?hg (N := 15) ?hd (cs := #[.slice none 0 0]) (t := 28) ?hr ?_; (case hd => rfl); (case hg => rfl); (case hr => first | (go_simp; done) | (go_simp; rfl))
                 intro gb301 hg w186 hbox hb
                 replace HO_261000 := rA HO_261000 hb
                 replace HO_265000 := rA HO_265000 hb
                 replace HO_269000 := rA HO_269000 hb
                 replace HO_274000 := rA HO_274000 hb
                 replace HO293 := rA HO293 hb
                 replace HO296 := rA HO296 hb
                 have BK301 := Aside0.mk (hbox)
                 have GW301 := zB HB hg
                 have GE301 := zB HB hg
                 replace HB := sB HB hb
                 have NB246_301 := lA BK246 hg
                 have NB301_246 := gA BK246 hg
                 replace BK246 := bA BK246 hb
                 have NB247_301 := lA BK247 hg
                 have NB301_247 := gA BK247 hg
                 replace BK247 := bA BK247 hb
                 have NB260_301 := lA BK260 hg
                 have NB301_260 := gA BK260 hg
                 replace BK260 := bA BK260 hb
                 have NB264_301 := lA BK264 hg
                 have NB301_264 := gA BK264 hg
                 replace BK264 := bA BK264 hb
                 have NB268_301 := lA BK268 hg
                 have NB301_268 := gA BK268 hg
                 replace BK268 := bA BK268 hb
                 have NB273_301 := lA BK273 hg
                 have NB301_273 := gA BK273 hg
                 replace BK273 := bA BK273 hb
                 clear hb hbox hg
                 obtain ⟨Ao187, co187, eo187⟩ := Kd.R_slice HO293.out
                 (first | subst eo187 | (injection eo187 with f1_ f2_ f3_; have f4_ := f1_.symm; have f5_ := f3_.symm; clear f1_ f2_ f3_; subst f4_; subst f5_))
                 obtain ⟨Ao188, co188, eo188⟩ := Kd.R_slice HO296.out
                 (first | subst eo188 | (injection eo188 with f1_ f2_ f3_; have f4_ := f1_.symm; have f5_ := f3_.symm; clear f1_ f2_ f3_; subst f4_; subst f5_))
                 refine hK.out _ _ ⟨(blk_cell BK246.out 0).trans rfl, (blk_cell BK247.out 0).trans rfl⟩ (fun hHeld => ?_)
                 clear hK K
                 refine norm_ (a' := ?_) ?_ ?_
                 rotate_left
                 ·show Act.put _ (some 15) _ = _
                  simp only [Act.put, List.setIfInBounds_toArray, List.set_cons_zero, List.set_cons_succ, i64_w, i32_w]
                  rfl
                 refine one_ (i := 4) (N := some 99) #[true, true, true, true, true, false, false, false, true, false, false] rfl rfl (one_of HT_.out (by kernel_rfl)) (by decide) (fun K hK => ?_)
                 refine goes_ Try.func13 (by kernel_rfl) rfl #[.agg #[.slice Ao187 t291.length co187], .agg #[.slice Ao188 t294.length co188]] (by rfl) rfl rfl (by (try simp only [List.map_toArray, List.map_cons, List.map_nil]); first | done | rfl) ?_
                 with_reducible refine (impl_SumOfPictures.calls kj106 _ _ t291 _ _ t294 t297 t300 _ ?side1 ?side2 ?side3 ?side4 A172.out).mono ?_
                 (case side1 => exact cT (Kd.R_reads' HO293.out).2.2)
                 (case side2 => exact (Kd.R_reads' HO293.out).2.1)
                 (case side3 => exact cT (Kd.R_reads' HO296.out).2.2)
                 (case side4 => exact (Kd.R_reads' HO296.out).2.1)
                 rintro e w189 ⟨v298, rfl, ho0, hb⟩
                 refine ⟨_, rfl, ?_⟩
                 have HO299 := Aside0.mk (Kd.R_lower (Kd.R_new' (Kd.R_new' (Kd.R_new' (Kd.R_new' (Kd.R_new' (Kd.R_new' ho0 (Kd.R_lt (rT HO_261000))) (Kd.R_lt (rT HO_265000))) (Kd.R_lt (rT HO_269000))) (Kd.R_lt (rT HO_274000))) (Kd.R_lt (rT HO293))) (Kd.R_lt (rT HO296))) (below_size (sT HB)))
                 replace HO_261000 := Aside0.mk (Kd.R_elder' (rT HO_261000) (Kd.R_base ho0) hb)
                 replace HO_265000 := Aside0.mk (Kd.R_elder' (rT HO_265000) (Kd.R_base ho0) hb)
                 replace HO_269000 := Aside0.mk (Kd.R_elder' (rT HO_269000) (Kd.R_base ho0) hb)
                 replace HO_274000 := Aside0.mk (Kd.R_elder' (rT HO_274000) (Kd.R_base ho0) hb)
                 replace HO293 := Aside0.mk (Kd.R_elder' (rT HO293) (Kd.R_base ho0) hb)
                 replace HO296 := Aside0.mk (Kd.R_elder' (rT HO296) (Kd.R_base ho0) hb)
                 replace BK246 := bA BK246 hb
                 replace BK247 := bA BK247 hb
                 replace BK260 := bA BK260 hb
                 replace BK264 := bA BK264 hb
                 replace BK268 := bA BK268 hb
                 replace BK273 := bA BK273 hb
                 replace BK301 := bA BK301 hb
                 replace HB := sB HB hb
                 (try clear hb)
                 (try clear hb2)
                 (try clear hk)
                 (try clear hi)
                 (try clear ho0)
                 refine hK.out _ _ ⟨(blk_cell BK246.out 0).trans rfl, (blk_cell BK247.out 0).trans rfl⟩ (fun hHeld => ?_)
                 clear hK K
                 refine norm_ (a' := ?_) ?_ ?_
                 rotate_left
                 ·show Act.put _ (some 99) _ = _
                  simp only [Act.put, List.setIfInBounds_toArray, List.set_cons_zero, List.set_cons_succ, i64_w, i32_w]
                  rfl
                 refine pure_ (i := 5) (N := some 94) (v := ?_) (a' := ?_) #[true, true, true, true, true, true, false, false, true, false, false] rfl rfl (any_of HT_.out (by kernel_rfl)) (fun _ _ _ h => h) (Or.inl ⟨by rfl, ?_⟩) ?_ ?_
                 rotate_left
                 ·intro w'
                  go_simp
                  with_reducible rfl
                 rotate_left
                 ·simp only [Act.put, List.setIfInBounds_toArray, List.set_cons_zero, List.set_cons_succ, i64_w, i32_w]
                  rfl
                 refine pure_ (i := 6) (N := some 100) (v := ?_) (a' := ?_) #[true, true, true, true, true, true, true, false, true, false, false] rfl rfl (any_of HT_.out (by kernel_rfl)) (fun _ _ _ h => h) (Or.inl ⟨by rfl, ?_⟩) ?_ ?_
                 rotate_left
                 ·intro w'
                  go_simp
                  with_reducible rfl
                 rotate_left
                 ·simp only [Act.put, List.setIfInBounds_toArray, List.set_cons_zero, List.set_cons_succ, i64_w, i32_w]
                  rfl
                 refine pure_ (i := 7) (N := some 101) (v := ?_) (a' := ?_) #[true, true, true, true, true, true, true, true, true, false, false] rfl rfl (any_of HT_.out (by kernel_rfl)) (fun _ _ _ h => h) (Or.inl ⟨by rfl, ?_⟩) ?_ ?_
                 rotate_left
                 ·intro w'
                  go_simp
                  with_reducible rfl
                 rotate_left
                 ·simp only [Act.put, List.setIfInBounds_toArray, List.set_cons_zero, List.set_cons_succ, i64_w, i32_w]
                  rfl
                 exact norm_ (by simp only [putAll, Act.put, List.setIfInBounds_toArray, List.set_cons_zero, List.set_cons_succ]) (hCont (.slice Ao187 t291.length co187, .slice Ao188 t294.length co188, v298, gb301) _ ⟨hHeld, (by (with_reducible repeat (first | apply Kd.R_alloc | apply Kd.R_drewN | apply Kd.R_drew)); exact Kd.R_mono HO293.out (fun _ hk => ⟨hk.1.2, ⟨hk.2, ⟨hk.1.1.1.1.1.2, ⟨hk.1.1.1.1.2, ⟨hk.1.1.1.2, hk.1.1.2⟩⟩⟩⟩⟩)), (by (with_reducible repeat (first | apply Kd.R_alloc | apply Kd.R_drewN | apply Kd.R_drew)); exact Kd.R_mono HO296.out (fun _ hk => ⟨hk.1.2, ⟨hk.2, ⟨hk.1.1.1.1.1.2, ⟨hk.1.1.1.1.2, ⟨hk.1.1.1.2, hk.1.1.2⟩⟩⟩⟩⟩)), (by (with_reducible repeat (first | apply Kd.R_alloc | apply Kd.R_drewN | apply Kd.R_drew)); exact Kd.R_mono HO299.out (fun _ hk => ⟨hk.1.2, ⟨hk.2, ⟨hk.1.1.1.1.1.2, ⟨hk.1.1.1.1.2, ⟨hk.1.1.1.2, hk.1.1.2⟩⟩⟩⟩⟩)), (by (with_reducible repeat (first | apply Kd.R_alloc | apply Kd.R_drewN | apply Kd.R_drew)); exact Kd.R_mono HO_261000.out (fun _ hk => ⟨hk.1.1.2, ⟨hk.1.2, ⟨hk.2, ⟨hk.1.1.1.1, ⟨hk.1.1.1.2.1, hk.1.1.1.2.2⟩⟩⟩⟩⟩)), (by (with_reducible repeat (first | apply Kd.R_alloc | apply Kd.R_drewN | apply Kd.R_drew)); exact Kd.R_mono HO_265000.out (fun _ hk => ⟨hk.1.1.2, ⟨hk.1.2, ⟨hk.2, ⟨hk.1.1.1.1, ⟨hk.1.1.1.2.1, hk.1.1.1.2.2⟩⟩⟩⟩⟩)), (by (with_reducible repeat (first | apply Kd.R_alloc | apply Kd.R_drewN | apply Kd.R_drew)); exact Kd.R_mono HO_269000.out (fun _ hk => ⟨hk.1.1.2, ⟨hk.1.2, ⟨hk.2, ⟨hk.1.1.1.1, ⟨hk.1.1.1.2.1, hk.1.1.1.2.2⟩⟩⟩⟩⟩)), (by (with_reducible repeat (first | apply Kd.R_alloc | apply Kd.R_drewN | apply Kd.R_drew)); exact Kd.R_mono HO_274000.out (fun _ hk => ⟨hk.1.1.2, ⟨hk.1.2, ⟨hk.2, ⟨hk.1.1.1.1, ⟨hk.1.1.1.2.1, hk.1.1.1.2.2⟩⟩⟩⟩⟩)), (by first | exact BK246.out | exact blk_alloc BK246.out _), (by first | exact BK247.out | exact blk_alloc BK247.out _), (by first | exact BK260.out | exact blk_alloc BK260.out _), (by first | exact BK264.out | exact blk_alloc BK264.out _), (by first | exact BK268.out | exact blk_alloc BK268.out _), (by first | exact BK273.out | exact blk_alloc BK273.out _), (by first | exact BK301.out | exact blk_alloc BK301.out _), GW301.out, GE301.out, NB246_301.out, NB301_246.out, NB247_301.out, NB301_247.out, NB260_301.out, NB301_260.out, NB264_301.out, NB301_264.out, NB268_301.out, NB301_268.out, NB273_301.out, NB301_273.out, (sT HB)⟩)
               ·skip
                refine box_step ?hg (N := 15) ?hd (cs := #[.slice none 0 0]) (t := 28) ?hr ?_; (case hd => rfl); (case hg => rfl); (case hr => first | (go_simp; done) | (go_simp; rfl))
                intro gb301 hg w185 hbox hb
                replace HO_261000 := rA HO_261000 hb
                replace HO_265000 := rA HO_265000 hb
                replace HO_269000 := rA HO_269000 hb
                replace HO_274000 := rA HO_274000 hb
                replace HO293 := rA HO293 hb
                have BK301 := Aside0.mk (hbox)
                have GW301 := zB HB hg
                have GE301 := zB HB hg
                replace HB := sB HB hb
                have NB246_301 := lA BK246 hg
                have NB301_246 := gA BK246 hg
                replace BK246 := bA BK246 hb
                have NB247_301 := lA BK247 hg
                have NB301_247 := gA BK247 hg
                replace BK247 := bA BK247 hb
                have NB260_301 := lA BK260 hg
                have NB301_260 := gA BK260 hg
                replace BK260 := bA BK260 hb
                have NB264_301 := lA BK264 hg
                have NB301_264 := gA BK264 hg
                replace BK264 := bA BK264 hb
                have NB268_301 := lA BK268 hg
                have NB301_268 := gA BK268 hg
                replace BK268 := bA BK268 hb
                have NB273_301 := lA BK273 hg
                have NB301_273 := gA BK273 hg
                replace BK273 := bA BK273 hb
                clear hb hbox hg
                refine hK.out _ _ ⟨(blk_cell BK246.out 0).trans rfl, (blk_cell BK247.out 0).trans rfl⟩ (fun hHeld => ?_)
                clear hK K
                refine norm_ (a' := ?_) ?_ ?_
                rotate_left
                ·show Act.put _ (some 15) _ = _
                 simp only [Act.put, List.setIfInBounds_toArray, List.set_cons_zero, List.set_cons_succ, i64_w, i32_w]
                 rfl
                refine one_ (i := 3) (N := some 98) #[true, true, true, true, false, false, false, false, true, false, false] rfl rfl (one_of HT_.out (by kernel_rfl)) (by decide) (fun K hK => ?_)
                refine goes_ Try.func7 (by kernel_rfl) rfl #[.agg #[.slice A1_0 l1_0.length c1_0]] (by rfl) rfl rfl (by (try simp only [List.map_toArray, List.map_cons, List.map_nil]); first | done | rfl) ?_
                with_reducible refine (laws_toPicture.calls kj106 _ _ l1_0 t294 _ ?side1 ?side2 A171.out).mono ?_
                (case side1 => exact cT (Kd.C_below HR1_0.out HB.out))
                (case side2 => exact HC1_0.out)
                rintro e w186 ⟨v295, rfl, ho0, hb⟩
                refine ⟨_, rfl, ?_⟩
                have HO296 := Aside0.mk (Kd.R_lower (Kd.R_new' (Kd.R_new' (Kd.R_new' (Kd.R_new' (Kd.R_new' ho0 (Kd.R_lt (rT HO_261000))) (Kd.R_lt (rT HO_265000))) (Kd.R_lt (rT HO_269000))) (Kd.R_lt (rT HO_274000))) (Kd.R_lt (rT HO293))) (below_size (sT HB)))
                replace HO_261000 := Aside0.mk (Kd.R_elder' (rT HO_261000) (Kd.R_base ho0) hb)
                replace HO_265000 := Aside0.mk (Kd.R_elder' (rT HO_265000) (Kd.R_base ho0) hb)
                replace HO_269000 := Aside0.mk (Kd.R_elder' (rT HO_269000) (Kd.R_base ho0) hb)
                replace HO_274000 := Aside0.mk (Kd.R_elder' (rT HO_274000) (Kd.R_base ho0) hb)
                replace HO293 := Aside0.mk (Kd.R_elder' (rT HO293) (Kd.R_base ho0) hb)
                replace BK246 := bA BK246 hb
                replace BK247 := bA BK247 hb
                replace BK260 := bA BK260 hb
                replace BK264 := bA BK264 hb
                replace BK268 := bA BK268 hb
                replace BK273 := bA BK273 hb
                replace BK301 := bA BK301 hb
                replace HB := sB HB hb
                (try clear hb)
                (try clear hb2)
                (try clear hk)
                (try clear hi)
                (try clear ho0)
                obtain ⟨Ao187, co187, eo187⟩ := Kd.R_slice HO293.out
                (first | subst eo187 | (injection eo187 with f1_ f2_ f3_; have f4_ := f1_.symm; have f5_ := f3_.symm; clear f1_ f2_ f3_; subst f4_; subst f5_))
                obtain ⟨Ao188, co188, eo188⟩ := Kd.R_slice HO296.out
                (first | subst eo188 | (injection eo188 with f1_ f2_ f3_; have f4_ := f1_.symm; have f5_ := f3_.symm; clear f1_ f2_ f3_; subst f4_; subst f5_))
                refine hK.out _ _ ⟨(blk_cell BK246.out 0).trans rfl, (blk_cell BK247.out 0).trans rfl⟩ (fun hHeld => ?_)
                clear hK K
                refine norm_ (a' := ?_) ?_ ?_
                rotate_left
                ·show Act.put _ (some 98) _ = _
                 simp only [Act.put, List.setIfInBounds_toArray, List.set_cons_zero, List.set_cons_succ, i64_w, i32_w]
                 rfl
                refine one_ (i := 4) (N := some 99) #[true, true, true, true, true, false, false, false, true, false, false] rfl rfl (one_of HT_.out (by kernel_rfl)) (by decide) (fun K hK => ?_)
                refine goes_ Try.func13 (by kernel_rfl) rfl #[.agg #[.slice Ao187 t291.length co187], .agg #[.slice Ao188 t294.length co188]] (by rfl) rfl rfl (by (try simp only [List.map_toArray, List.map_cons, List.map_nil]); first | done | rfl) ?_
                with_reducible refine (impl_SumOfPictures.calls kj106 _ _ t291 _ _ t294 t297 t300 _ ?side1 ?side2 ?side3 ?side4 A172.out).mono ?_
                (case side1 => exact cT (Kd.R_reads' HO293.out).2.2)
                (case side2 => exact (Kd.R_reads' HO293.out).2.1)
                (case side3 => exact cT (Kd.R_reads' HO296.out).2.2)
                (case side4 => exact (Kd.R_reads' HO296.out).2.1)
                rintro e w189 ⟨v298, rfl, ho0, hb⟩
                refine ⟨_, rfl, ?_⟩
                have HO299 := Aside0.mk (Kd.R_lower (Kd.R_new' (Kd.R_new' (Kd.R_new' (Kd.R_new' (Kd.R_new' (Kd.R_new' ho0 (Kd.R_lt (rT HO_261000))) (Kd.R_lt (rT HO_265000))) (Kd.R_lt (rT HO_269000))) (Kd.R_lt (rT HO_274000))) (Kd.R_lt (rT HO293))) (Kd.R_lt (rT HO296))) (below_size (sT HB)))
                replace HO_261000 := Aside0.mk (Kd.R_elder' (rT HO_261000) (Kd.R_base ho0) hb)
                replace HO_265000 := Aside0.mk (Kd.R_elder' (rT HO_265000) (Kd.R_base ho0) hb)
                replace HO_269000 := Aside0.mk (Kd.R_elder' (rT HO_269000) (Kd.R_base ho0) hb)
                replace HO_274000 := Aside0.mk (Kd.R_elder' (rT HO_274000) (Kd.R_base ho0) hb)
                replace HO293 := Aside0.mk (Kd.R_elder' (rT HO293) (Kd.R_base ho0) hb)
                replace HO296 := Aside0.mk (Kd.R_elder' (rT HO296) (Kd.R_base ho0) hb)
                replace BK246 := bA BK246 hb
                replace BK247 := bA BK247 hb
                replace BK260 := bA BK260 hb
                replace BK264 := bA BK264 hb
                replace BK268 := bA BK268 hb
                replace BK273 := bA BK273 hb
                replace BK301 := bA BK301 hb
                replace HB := sB HB hb
                (try clear hb)
                (try clear hb2)
                (try clear hk)
                (try clear hi)
                (try clear ho0)
                refine hK.out _ _ ⟨(blk_cell BK246.out 0).trans rfl, (blk_cell BK247.out 0).trans rfl⟩ (fun hHeld => ?_)
                clear hK K
                refine norm_ (a' := ?_) ?_ ?_
                rotate_left
                ·show Act.put _ (some 99) _ = _
                 simp only [Act.put, List.setIfInBounds_toArray, List.set_cons_zero, List.set_cons_succ, i64_w, i32_w]
                 rfl
                refine pure_ (i := 5) (N := some 94) (v := ?_) (a' := ?_) #[true, true, true, true, true, true, false, false, true, false, false] rfl rfl (any_of HT_.out (by kernel_rfl)) (fun _ _ _ h => h) (Or.inl ⟨by rfl, ?_⟩) ?_ ?_
                rotate_left
                ·intro w'
                 go_simp
                 with_reducible rfl
                rotate_left
                ·simp only [Act.put, List.setIfInBounds_toArray, List.set_cons_zero, List.set_cons_succ, i64_w, i32_w]
                 rfl
                refine pure_ (i := 6) (N := some 100) (v := ?_) (a' := ?_) #[true, true, true, true, true, true, true, false, true, false, false] rfl rfl (any_of HT_.out (by kernel_rfl)) (fun _ _ _ h => h) (Or.inl ⟨by rfl, ?_⟩) ?_ ?_
                rotate_left
                ·intro w'
                 go_simp
                 with_reducible rfl
                rotate_left
                ·simp only [Act.put, List.setIfInBounds_toArray, List.set_cons_zero, List.set_cons_succ, i64_w, i32_w]
                 rfl
                refine pure_ (i := 7) (N := some 101) (v := ?_) (a' := ?_) #[true, true, true, true, true, true, true, true, true, false, false] rfl rfl (any_of HT_.out (by kernel_rfl)) (fun _ _ _ h => h) (Or.inl ⟨by rfl, ?_⟩) ?_ ?_
                rotate_left
                ·intro w'
                 go_simp
                 with_reducible rfl
                rotate_left
                ·simp only [Act.put, List.setIfInBounds_toArray, List.set_cons_zero, List.set_cons_succ, i64_w, i32_w]
                 rfl
                exact norm_ (by simp only [putAll, Act.put, List.setIfInBounds_toArray, List.set_cons_zero, List.set_cons_succ]) (hCont (.slice Ao187 t291.length co187, .slice Ao188 t294.length co188, v298, gb301) _ ⟨hHeld, (by (with_reducible repeat (first | apply Kd.R_alloc | apply Kd.R_drewN | apply Kd.R_drew)); exact Kd.R_mono HO293.out (fun _ hk => ⟨hk.1.2, ⟨hk.2, ⟨hk.1.1.1.1.1.2, ⟨hk.1.1.1.1.2, ⟨hk.1.1.1.2, hk.1.1.2⟩⟩⟩⟩⟩)), (by (with_reducible repeat (first | apply Kd.R_alloc | apply Kd.R_drewN | apply Kd.R_drew)); exact Kd.R_mono HO296.out (fun _ hk => ⟨hk.1.2, ⟨hk.2, ⟨hk.1.1.1.1.1.2, ⟨hk.1.1.1.1.2, ⟨hk.1.1.1.2, hk.1.1.2⟩⟩⟩⟩⟩)), (by (with_reducible repeat (first | apply Kd.R_alloc | apply Kd.R_drewN | apply Kd.R_drew)); exact Kd.R_mono HO299.out (fun _ hk => ⟨hk.1.2, ⟨hk.2, ⟨hk.1.1.1.1.1.2, ⟨hk.1.1.1.1.2, ⟨hk.1.1.1.2, hk.1.1.2⟩⟩⟩⟩⟩)), (by (with_reducible repeat (first | apply Kd.R_alloc | apply Kd.R_drewN | apply Kd.R_drew)); exact Kd.R_mono HO_261000.out (fun _ hk => ⟨hk.1.1.2, ⟨hk.1.2, ⟨hk.2, ⟨hk.1.1.1.1, ⟨hk.1.1.1.2.1, hk.1.1.1.2.2⟩⟩⟩⟩⟩)), (by (with_reducible repeat (first | apply Kd.R_alloc | apply Kd.R_drewN | apply Kd.R_drew)); exact Kd.R_mono HO_265000.out (fun _ hk => ⟨hk.1.1.2, ⟨hk.1.2, ⟨hk.2, ⟨hk.1.1.1.1, ⟨hk.1.1.1.2.1, hk.1.1.1.2.2⟩⟩⟩⟩⟩)), (by (with_reducible repeat (first | apply Kd.R_alloc | apply Kd.R_drewN | apply Kd.R_drew)); exact Kd.R_mono HO_269000.out (fun _ hk => ⟨hk.1.1.2, ⟨hk.1.2, ⟨hk.2, ⟨hk.1.1.1.1, ⟨hk.1.1.1.2.1, hk.1.1.1.2.2⟩⟩⟩⟩⟩)), (by (with_reducible repeat (first | apply Kd.R_alloc | apply Kd.R_drewN | apply Kd.R_drew)); exact Kd.R_mono HO_274000.out (fun _ hk => ⟨hk.1.1.2, ⟨hk.1.2, ⟨hk.2, ⟨hk.1.1.1.1, ⟨hk.1.1.1.2.1, hk.1.1.1.2.2⟩⟩⟩⟩⟩)), (by first | exact BK246.out | exact blk_alloc BK246.out _), (by first | exact BK247.out | exact blk_alloc BK247.out _), (by first | exact BK260.out | exact blk_alloc BK260.out _), (by first | exact BK264.out | exact blk_alloc BK264.out _), (by first | exact BK268.out | exact blk_alloc BK268.out _), (by first | exact BK273.out | exact blk_alloc BK273.out _), (by first | exact BK301.out | exact blk_alloc BK301.out _), GW301.out, GE301.out, NB246_301.out, NB301_246.out, NB247_301.out, NB301_247.out, NB260_301.out, NB301_260.out, NB264_301.out, NB301_264.out, NB268_301.out, NB301_268.out, NB273_301.out, NB301_273.out, (sT HB)⟩)
              ·skip
               refine box_step ?hg (N := 15) ?hd (cs := #[.slice none 0 0]) (t := 28) ?hr ?_; (case hd => rfl); (case hg => rfl); (case hr => first | (go_simp; done) | (go_simp; rfl))
               intro gb301 hg w184 hbox hb
               replace HO_261000 := rA HO_261000 hb
               replace HO_265000 := rA HO_265000 hb
               replace HO_269000 := rA HO_269000 hb
               replace HO_274000 := rA HO_274000 hb
               have BK301 := Aside0.mk (hbox)
               have GW301 := zB HB hg
               have GE301 := zB HB hg
               replace HB := sB HB hb
               have NB246_301 := lA BK246 hg
               have NB301_246 := gA BK246 hg
               replace BK246 := bA BK246 hb
               have NB247_301 := lA BK247 hg
               have NB301_247 := gA BK247 hg
               replace BK247 := bA BK247 hb
               have NB260_301 := lA BK260 hg
               have NB301_260 := gA BK260 hg
               replace BK260 := bA BK260 hb
               have NB264_301 := lA BK264 hg
               have NB301_264 := gA BK264 hg
               replace BK264 := bA BK264 hb
               have NB268_301 := lA BK268 hg
               have NB301_268 := gA BK268 hg
               replace BK268 := bA BK268 hb
               have NB273_301 := lA BK273 hg
               have NB301_273 := gA BK273 hg
               replace BK273 := bA BK273 hb
               clear hb hbox hg
               refine hK.out _ _ ⟨(blk_cell BK246.out 0).trans rfl, (blk_cell BK247.out 0).trans rfl⟩ (fun hHeld => ?_)
               clear hK K
               refine norm_ (a' := ?_) ?_ ?_
               rotate_left
               ·show Act.put _ (some 15) _ = _
                simp only [Act.put, List.setIfInBounds_toArray, List.set_cons_zero, List.set_cons_succ, i64_w, i32_w]
                rfl
               refine one_ (i := 1) (N := some 96) #[true, true, true, false, false, false, false, false, true, false, false] rfl rfl (one_of HT_.out (by kernel_rfl)) (by decide) (fun K hK => ?_)
               refine goes_ Try.func7 (by kernel_rfl) rfl #[.agg #[.slice A0_0 l0_0.length c0_0]] (by rfl) rfl rfl (by (try simp only [List.map_toArray, List.map_cons, List.map_nil]); first | done | rfl) ?_
               with_reducible refine (laws_toPicture.calls kj106 _ _ l0_0 t291 _ ?side1 ?side2 A170.out).mono ?_
               (case side1 => exact cT (Kd.C_below HR0_0.out HB.out))
               (case side2 => exact HC0_0.out)
               rintro e w185 ⟨v292, rfl, ho0, hb⟩
               refine ⟨_, rfl, ?_⟩
               have HO293 := Aside0.mk (Kd.R_lower (Kd.R_new' (Kd.R_new' (Kd.R_new' (Kd.R_new' ho0 (Kd.R_lt (rT HO_261000))) (Kd.R_lt (rT HO_265000))) (Kd.R_lt (rT HO_269000))) (Kd.R_lt (rT HO_274000))) (below_size (sT HB)))
               replace HO_261000 := Aside0.mk (Kd.R_elder' (rT HO_261000) (Kd.R_base ho0) hb)
               replace HO_265000 := Aside0.mk (Kd.R_elder' (rT HO_265000) (Kd.R_base ho0) hb)
               replace HO_269000 := Aside0.mk (Kd.R_elder' (rT HO_269000) (Kd.R_base ho0) hb)
               replace HO_274000 := Aside0.mk (Kd.R_elder' (rT HO_274000) (Kd.R_base ho0) hb)
               replace BK246 := bA BK246 hb
               replace BK247 := bA BK247 hb
               replace BK260 := bA BK260 hb
               replace BK264 := bA BK264 hb
               replace BK268 := bA BK268 hb
               replace BK273 := bA BK273 hb
               replace BK301 := bA BK301 hb
               replace HB := sB HB hb
               (try clear hb)
               (try clear hb2)
               (try clear hk)
               (try clear hi)
               (try clear ho0)
               refine hK.out _ _ ⟨(blk_cell BK246.out 0).trans rfl, (blk_cell BK247.out 0).trans rfl⟩ (fun hHeld => ?_)
               clear hK K
               refine norm_ (a' := ?_) ?_ ?_
               rotate_left
               ·show Act.put _ (some 96) _ = _
                simp only [Act.put, List.setIfInBounds_toArray, List.set_cons_zero, List.set_cons_succ, i64_w, i32_w]
                rfl
               refine one_ (i := 3) (N := some 98) #[true, true, true, true, false, false, false, false, true, false, false] rfl rfl (one_of HT_.out (by kernel_rfl)) (by decide) (fun K hK => ?_)
               refine goes_ Try.func7 (by kernel_rfl) rfl #[.agg #[.slice A1_0 l1_0.length c1_0]] (by rfl) rfl rfl (by (try simp only [List.map_toArray, List.map_cons, List.map_nil]); first | done | rfl) ?_
               with_reducible refine (laws_toPicture.calls kj106 _ _ l1_0 t294 _ ?side1 ?side2 A171.out).mono ?_
               (case side1 => exact cT (Kd.C_below HR1_0.out HB.out))
               (case side2 => exact HC1_0.out)
               rintro e w186 ⟨v295, rfl, ho0, hb⟩
               refine ⟨_, rfl, ?_⟩
               have HO296 := Aside0.mk (Kd.R_lower (Kd.R_new' (Kd.R_new' (Kd.R_new' (Kd.R_new' (Kd.R_new' ho0 (Kd.R_lt (rT HO_261000))) (Kd.R_lt (rT HO_265000))) (Kd.R_lt (rT HO_269000))) (Kd.R_lt (rT HO_274000))) (Kd.R_lt (rT HO293))) (below_size (sT HB)))
               replace HO_261000 := Aside0.mk (Kd.R_elder' (rT HO_261000) (Kd.R_base ho0) hb)
               replace HO_265000 := Aside0.mk (Kd.R_elder' (rT HO_265000) (Kd.R_base ho0) hb)
               replace HO_269000 := Aside0.mk (Kd.R_elder' (rT HO_269000) (Kd.R_base ho0) hb)
               replace HO_274000 := Aside0.mk (Kd.R_elder' (rT HO_274000) (Kd.R_base ho0) hb)
               replace HO293 := Aside0.mk (Kd.R_elder' (rT HO293) (Kd.R_base ho0) hb)
               replace BK246 := bA BK246 hb
               replace BK247 := bA BK247 hb
               replace BK260 := bA BK260 hb
               replace BK264 := bA BK264 hb
               replace BK268 := bA BK268 hb
               replace BK273 := bA BK273 hb
               replace BK301 := bA BK301 hb
               replace HB := sB HB hb
               (try clear hb)
               (try clear hb2)
               (try clear hk)
               (try clear hi)
               (try clear ho0)
               obtain ⟨Ao187, co187, eo187⟩ := Kd.R_slice HO293.out
               (first | subst eo187 | (injection eo187 with f1_ f2_ f3_; have f4_ := f1_.symm; have f5_ := f3_.symm; clear f1_ f2_ f3_; subst f4_; subst f5_))
               obtain ⟨Ao188, co188, eo188⟩ := Kd.R_slice HO296.out
               (first | subst eo188 | (injection eo188 with f1_ f2_ f3_; have f4_ := f1_.symm; have f5_ := f3_.symm; clear f1_ f2_ f3_; subst f4_; subst f5_))
               refine hK.out _ _ ⟨(blk_cell BK246.out 0).trans rfl, (blk_cell BK247.out 0).trans rfl⟩ (fun hHeld => ?_)
               clear hK K
               refine norm_ (a' := ?_) ?_ ?_
               rotate_left
               ·show Act.put _ (some 98) _ = _
                simp only [Act.put, List.setIfInBounds_toArray, List.set_cons_zero, List.set_cons_succ, i64_w, i32_w]
                rfl
               refine one_ (i := 4) (N := some 99) #[true, true, true, true, true, false, false, false, true, false, false] rfl rfl (one_of HT_.out (by kernel_rfl)) (by decide) (fun K hK => ?_)
               refine goes_ Try.func13 (by kernel_rfl) rfl #[.agg #[.slice Ao187 t291.length co187], .agg #[.slice Ao188 t294.length co188]] (by rfl) rfl rfl (by (try simp only [List.map_toArray, List.map_cons, List.map_nil]); first | done | rfl) ?_
               with_reducible refine (impl_SumOfPictures.calls kj106 _ _ t291 _ _ t294 t297 t300 _ ?side1 ?side2 ?side3 ?side4 A172.out).mono ?_
               (case side1 => exact cT (Kd.R_reads' HO293.out).2.2)
               (case side2 => exact (Kd.R_reads' HO293.out).2.1)
               (case side3 => exact cT (Kd.R_reads' HO296.out).2.2)
               (case side4 => exact (Kd.R_reads' HO296.out).2.1)
               rintro e w189 ⟨v298, rfl, ho0, hb⟩
               refine ⟨_, rfl, ?_⟩
               have HO299 := Aside0.mk (Kd.R_lower (Kd.R_new' (Kd.R_new' (Kd.R_new' (Kd.R_new' (Kd.R_new' (Kd.R_new' ho0 (Kd.R_lt (rT HO_261000))) (Kd.R_lt (rT HO_265000))) (Kd.R_lt (rT HO_269000))) (Kd.R_lt (rT HO_274000))) (Kd.R_lt (rT HO293))) (Kd.R_lt (rT HO296))) (below_size (sT HB)))
               replace HO_261000 := Aside0.mk (Kd.R_elder' (rT HO_261000) (Kd.R_base ho0) hb)
               replace HO_265000 := Aside0.mk (Kd.R_elder' (rT HO_265000) (Kd.R_base ho0) hb)
               replace HO_269000 := Aside0.mk (Kd.R_elder' (rT HO_269000) (Kd.R_base ho0) hb)
               replace HO_274000 := Aside0.mk (Kd.R_elder' (rT HO_274000) (Kd.R_base ho0) hb)
               replace HO293 := Aside0.mk (Kd.R_elder' (rT HO293) (Kd.R_base ho0) hb)
               replace HO296 := Aside0.mk (Kd.R_elder' (rT HO296) (Kd.R_base ho0) hb)
               replace BK246 := bA BK246 hb
               replace BK247 := bA BK247 hb
               replace BK260 := bA BK260 hb
               replace BK264 := bA BK264 hb
               replace BK268 := bA BK268 hb
               replace BK273 := bA BK273 hb
               replace BK301 := bA BK301 hb
               replace HB := sB HB hb
               (try clear hb)
               (try clear hb2)
               (try clear hk)
               (try clear hi)
               (try clear ho0)
               refine hK.out _ _ ⟨(blk_cell BK246.out 0).trans rfl, (blk_cell BK247.out 0).trans rfl⟩ (fun hHeld => ?_)
               clear hK K
               refine norm_ (a' := ?_) ?_ ?_
               rotate_left
               ·show Act.put _ (some 99) _ = _
                simp only [Act.put, List.setIfInBounds_toArray, List.set_cons_zero, List.set_cons_succ, i64_w, i32_w]
                rfl
               refine pure_ (i := 5) (N := some 94) (v := ?_) (a' := ?_) #[true, true, true, true, true, true, false, false, true, false, false] rfl rfl (any_of HT_.out (by kernel_rfl)) (fun _ _ _ h => h) (Or.inl ⟨by rfl, ?_⟩) ?_ ?_
               rotate_left
               ·intro w'
                go_simp
                with_reducible rfl
               rotate_left
               ·simp only [Act.put, List.setIfInBounds_toArray, List.set_cons_zero, List.set_cons_succ, i64_w, i32_w]
                rfl
               refine pure_ (i := 6) (N := some 100) (v := ?_) (a' := ?_) #[true, true, true, true, true, true, true, false, true, false, false] rfl rfl (any_of HT_.out (by kernel_rfl)) (fun _ _ _ h => h) (Or.inl ⟨by rfl, ?_⟩) ?_ ?_
               rotate_left
               ·intro w'
                go_simp
                with_reducible rfl
               rotate_left
               ·simp only [Act.put, List.setIfInBounds_toArray, List.set_cons_zero, List.set_cons_succ, i64_w, i32_w]
                rfl
               refine pure_ (i := 7) (N := some 101) (v := ?_) (a' := ?_) #[true, true, true, true, true, true, true, true, true, false, false] rfl rfl (any_of HT_.out (by kernel_rfl)) (fun _ _ _ h => h) (Or.inl ⟨by rfl, ?_⟩) ?_ ?_
               rotate_left
               ·intro w'
                go_simp
                with_reducible rfl
               rotate_left
               ·simp only [Act.put, List.setIfInBounds_toArray, List.set_cons_zero, List.set_cons_succ, i64_w, i32_w]
                rfl
               exact norm_ (by simp only [putAll, Act.put, List.setIfInBounds_toArray, List.set_cons_zero, List.set_cons_succ]) (hCont (.slice Ao187 t291.length co187, .slice Ao188 t294.length co188, v298, gb301) _ ⟨hHeld, (by (with_reducible repeat (first | apply Kd.R_alloc | apply Kd.R_drewN | apply Kd.R_drew)); exact Kd.R_mono HO293.out (fun _ hk => ⟨hk.1.2, ⟨hk.2, ⟨hk.1.1.1.1.1.2, ⟨hk.1.1.1.1.2, ⟨hk.1.1.1.2, hk.1.1.2⟩⟩⟩⟩⟩)), (by (with_reducible repeat (first | apply Kd.R_alloc | apply Kd.R_drewN | apply Kd.R_drew)); exact Kd.R_mono HO296.out (fun _ hk => ⟨hk.1.2, ⟨hk.2, ⟨hk.1.1.1.1.1.2, ⟨hk.1.1.1.1.2, ⟨hk.1.1.1.2, hk.1.1.2⟩⟩⟩⟩⟩)), (by (with_reducible repeat (first | apply Kd.R_alloc | apply Kd.R_drewN | apply Kd.R_drew)); exact Kd.R_mono HO299.out (fun _ hk => ⟨hk.1.2, ⟨hk.2, ⟨hk.1.1.1.1.1.2, ⟨hk.1.1.1.1.2, ⟨hk.1.1.1.2, hk.1.1.2⟩⟩⟩⟩⟩)), (by (with_reducible repeat (first | apply Kd.R_alloc | apply Kd.R_drewN | apply Kd.R_drew)); exact Kd.R_mono HO_261000.out (fun _ hk => ⟨hk.1.1.2, ⟨hk.1.2, ⟨hk.2, ⟨hk.1.1.1.1, ⟨hk.1.1.1.2.1, hk.1.1.1.2.2⟩⟩⟩⟩⟩)), (by (with_reducible repeat (first | apply Kd.R_alloc | apply Kd.R_drewN | apply Kd.R_drew)); exact Kd.R_mono HO_265000.out (fun _ hk => ⟨hk.1.1.2, ⟨hk.1.2, ⟨hk.2, ⟨hk.1.1.1.1, ⟨hk.1.1.1.2.1, hk.1.1.1.2.2⟩⟩⟩⟩⟩)), (by (with_reducible repeat (first | apply Kd.R_alloc | apply Kd.R_drewN | apply Kd.R_drew)); exact Kd.R_mono HO_269000.out (fun _ hk => ⟨hk.1.1.2, ⟨hk.1.2, ⟨hk.2, ⟨hk.1.1.1.1, ⟨hk.1.1.1.2.1, hk.1.1.1.2.2⟩⟩⟩⟩⟩)), (by (with_reducible repeat (first | apply Kd.R_alloc | apply Kd.R_drewN | apply Kd.R_drew)); exact Kd.R_mono HO_274000.out (fun _ hk => ⟨hk.1.1.2, ⟨hk.1.2, ⟨hk.2, ⟨hk.1.1.1.1, ⟨hk.1.1.1.2.1, hk.1.1.1.2.2⟩⟩⟩⟩⟩)), (by first | exact BK246.out | exact blk_alloc BK246.out _), (by first | exact BK247.out | exact blk_alloc BK247.out _), (by first | exact BK260.out | exact blk_alloc BK260.out _), (by first | exact BK264.out | exact blk_alloc BK264.out _), (by first | exact BK268.out | exact blk_alloc BK268.out _), (by first | exact BK273.out | exact blk_alloc BK273.out _), (by first | exact BK301.out | exact blk_alloc BK301.out _), GW301.out, GE301.out, NB246_301.out, NB301_246.out, NB247_301.out, NB301_247.out, NB260_301.out, NB301_260.out, NB264_301.out, NB301_264.out, NB268_301.out, NB301_268.out, NB273_301.out, NB301_273.out, (sT HB)⟩)
             rintro ⟨v292, v295, v298, gb301⟩ w190 ⟨hS_, h0_, h1_, h2_, h3_, h4_, h5_, h6_, h7_, h8_, h9_, h10_, h11_, h12_, h13_, h14_, h15_, h16_, h17_, h18_, h19_, h20_, h21_, h22_, h23_, h24_, h25_, h26_, h27_, h28_⟩
             have n0_ : Aside0 (Kd.R k47 47 w190 w.heap.size (fun k_ => some k_ ≠ (v295 : Value).ownBlock ∧ some k_ ≠ (v298 : Value).ownBlock ∧ some k_ ≠ (.slice Ao41 t256.length co41 : Value).ownBlock ∧ some k_ ≠ (.slice Ao47 t284.length co47 : Value).ownBlock ∧ some k_ ≠ (.slice Ao56 t286.length co56 : Value).ownBlock ∧ some k_ ≠ (.slice Ao65 t269.length co65 : Value).ownBlock) v292 t291) := ⟨h0_⟩
             have n1_ : Aside0 (Kd.R k47 47 w190 w.heap.size (fun k_ => some k_ ≠ (v292 : Value).ownBlock ∧ some k_ ≠ (v298 : Value).ownBlock ∧ some k_ ≠ (.slice Ao41 t256.length co41 : Value).ownBlock ∧ some k_ ≠ (.slice Ao47 t284.length co47 : Value).ownBlock ∧ some k_ ≠ (.slice Ao56 t286.length co56 : Value).ownBlock ∧ some k_ ≠ (.slice Ao65 t269.length co65 : Value).ownBlock) v295 t294) := ⟨h1_⟩
             have n2_ : Aside0 (Kd.R k47 47 w190 w.heap.size (fun k_ => some k_ ≠ (v292 : Value).ownBlock ∧ some k_ ≠ (v295 : Value).ownBlock ∧ some k_ ≠ (.slice Ao41 t256.length co41 : Value).ownBlock ∧ some k_ ≠ (.slice Ao47 t284.length co47 : Value).ownBlock ∧ some k_ ≠ (.slice Ao56 t286.length co56 : Value).ownBlock ∧ some k_ ≠ (.slice Ao65 t269.length co65 : Value).ownBlock) v298 t297) := ⟨h2_⟩
             have n3_ : Aside0 (Kd.R k47 47 w190 w.heap.size (fun k_ => some k_ ≠ (v292 : Value).ownBlock ∧ some k_ ≠ (v295 : Value).ownBlock ∧ some k_ ≠ (v298 : Value).ownBlock ∧ some k_ ≠ (.slice Ao47 t284.length co47 : Value).ownBlock ∧ some k_ ≠ (.slice Ao56 t286.length co56 : Value).ownBlock ∧ some k_ ≠ (.slice Ao65 t269.length co65 : Value).ownBlock) (.slice Ao41 t256.length co41) t256) := ⟨h3_⟩
             have n4_ : Aside0 (Kd.R k47 47 w190 w.heap.size (fun k_ => some k_ ≠ (v292 : Value).ownBlock ∧ some k_ ≠ (v295 : Value).ownBlock ∧ some k_ ≠ (v298 : Value).ownBlock ∧ some k_ ≠ (.slice Ao41 t256.length co41 : Value).ownBlock ∧ some k_ ≠ (.slice Ao56 t286.length co56 : Value).ownBlock ∧ some k_ ≠ (.slice Ao65 t269.length co65 : Value).ownBlock) (.slice Ao47 t284.length co47) t284) := ⟨h4_⟩
             have n5_ : Aside0 (Kd.R k47 47 w190 w.heap.size (fun k_ => some k_ ≠ (v292 : Value).ownBlock ∧ some k_ ≠ (v295 : Value).ownBlock ∧ some k_ ≠ (v298 : Value).ownBlock ∧ some k_ ≠ (.slice Ao41 t256.length co41 : Value).ownBlock ∧ some k_ ≠ (.slice Ao47 t284.length co47 : Value).ownBlock ∧ some k_ ≠ (.slice Ao65 t269.length co65 : Value).ownBlock) (.slice Ao56 t286.length co56) t286) := ⟨h5_⟩
             have n6_ : Aside0 (Kd.R k47 47 w190 w.heap.size (fun k_ => some k_ ≠ (v292 : Value).ownBlock ∧ some k_ ≠ (v295 : Value).ownBlock ∧ some k_ ≠ (v298 : Value).ownBlock ∧ some k_ ≠ (.slice Ao41 t256.length co41 : Value).ownBlock ∧ some k_ ≠ (.slice Ao47 t284.length co47 : Value).ownBlock ∧ some k_ ≠ (.slice Ao56 t286.length co56 : Value).ownBlock) (.slice Ao65 t269.length co65) t289) := ⟨h6_⟩
             have n7_ : Aside0 (w190.heap[gb246]? = some (.cells #[.slice A0_0 l0_0.length c0_0] 24 (0, 0))) := ⟨h7_⟩
             have n8_ : Aside0 (w190.heap[gb247]? = some (.cells #[.slice A1_0 l1_0.length c1_0] 24 (0, 0))) := ⟨h8_⟩
             have n9_ : Aside0 (w190.heap[gb260]? = some (.cells #[.slice Ao41 t256.length co41] 28 (0, 0))) := ⟨h9_⟩
             have n10_ : Aside0 (w190.heap[gb264]? = some (.cells #[.slice Ao47 t284.length co47] 28 (0, 0))) := ⟨h10_⟩
             have n11_ : Aside0 (w190.heap[gb268]? = some (.cells #[.slice Ao56 t286.length co56] 28 (0, 0))) := ⟨h11_⟩
             have n12_ : Aside0 (w190.heap[gb273]? = some (.cells #[.slice Ao65 t269.length co65] 28 (0, 0))) := ⟨h12_⟩
             have n13_ : Aside0 (w190.heap[gb301]? = some (.cells #[.slice none 0 0] 28 (0, 0))) := ⟨h13_⟩
             have n14_ : Aside0 (w.heap.size ≤ gb301) := ⟨h14_⟩
             have n15_ : Aside0 (w.heap.size ≤ gb301) := ⟨h15_⟩
             have n16_ : Aside0 (gb246 ≠ gb301) := ⟨h16_⟩
             have n17_ : Aside0 (gb301 ≠ gb246) := ⟨h17_⟩
             have n18_ : Aside0 (gb247 ≠ gb301) := ⟨h18_⟩
             have n19_ : Aside0 (gb301 ≠ gb247) := ⟨h19_⟩
             have n20_ : Aside0 (gb260 ≠ gb301) := ⟨h20_⟩
             have n21_ : Aside0 (gb301 ≠ gb260) := ⟨h21_⟩
             have n22_ : Aside0 (gb264 ≠ gb301) := ⟨h22_⟩
             have n23_ : Aside0 (gb301 ≠ gb264) := ⟨h23_⟩
             have n24_ : Aside0 (gb268 ≠ gb301) := ⟨h24_⟩
             have n25_ : Aside0 (gb301 ≠ gb268) := ⟨h25_⟩
             have n26_ : Aside0 (gb273 ≠ gb301) := ⟨h26_⟩
             have n27_ : Aside0 (gb301 ≠ gb273) := ⟨h27_⟩
             have n28_ : Aside0 (Below w.heap.size w w190) := ⟨h28_⟩
             clear HO_261000
             clear HO_265000
             clear HO_269000
             clear HO_274000
             clear BK246
             clear BK247
             clear BK260
             clear BK264
             clear BK268
             clear BK273
             clear HB
             clear h0_ h1_ h2_ h3_ h4_ h5_ h6_ h7_ h8_ h9_ h10_ h11_ h12_ h13_ h14_ h15_ h16_ h17_ h18_ h19_ h20_ h21_ h22_ h23_ h24_ h25_ h26_ h27_ h28_
             have HO293 := n0_
             have HO296 := n1_
             have HO299 := n2_
             have HO_261000 := n3_
             have HO_265000 := n4_
             have HO_269000 := n5_
             have HO_274000 := n6_
             have BK246 := n7_
             have BK247 := n8_
             have BK260 := n9_
             have BK264 := n10_
             have BK268 := n11_
             have BK273 := n12_
             have BK301 := n13_
             have GW301 := n14_
             have GE301 := n15_
             have NB246_301 := n16_
             have NB301_246 := n17_
             have NB247_301 := n18_
             have NB301_247 := n19_
             have NB260_301 := n20_
             have NB301_260 := n21_
             have NB264_301 := n22_
             have NB301_264 := n23_
             have NB268_301 := n24_
             have NB301_268 := n25_
             have NB273_301 := n26_
             have NB301_273 := n27_
             have HB := n28_
             clear n0_ n1_ n2_ n3_ n4_ n5_ n6_ n7_ n8_ n9_ n10_ n11_ n12_ n13_ n14_ n15_ n16_ n17_ n18_ n19_ n20_ n21_ n22_ n23_ n24_ n25_ n26_ n27_ n28_
             have hHeld : w190.cell? ⟨gb246, 0, none⟩ = some (.slice A0_0 l0_0.length c0_0) ∧ w190.cell? ⟨gb247, 0, none⟩ = some (.slice A1_0 l1_0.length c1_0) := hS_
             obtain ⟨Ao191, co191, eo191⟩ := Kd.R_slice HO299.out
             (first | subst eo191 | (injection eo191 with f1_ f2_ f3_; have f4_ := f1_.symm; have f5_ := f3_.symm; clear f1_ f2_ f3_; subst f4_; subst f5_))
             refine norm_ (a' := ?_) ?_ ?_
             rotate_left
             ·simp only [putAll, Act.put, List.setIfInBounds_toArray, List.set_cons_zero, List.set_cons_succ]
              rfl
             refine one_ (i := 9) (N := none) #[true, true, true, true, true, true, true, true, true, true, false] rfl rfl (one_of HT_.out (by kernel_rfl)) (by decide) (fun K hK => ?_)
             have hs192 : w190.cell? ⟨gb301, 0, none⟩ = some (.slice none 0 0) := (blk_cell BK301.out 0).trans rfl
             have hfs192 := blk_frozen BK301.out 0
             have hns192_0 := NB246_301.out
             have hns192_1 := NB247_301.out
             have hns192_2 := NB260_301.out
             have hns192_3 := NB264_301.out
             have hns192_4 := NB268_301.out
             have hns192_5 := NB273_301.out
             have hms192_0 := NB301_246.out
             have hms192_1 := NB301_247.out
             have hms192_2 := NB301_260.out
             have hms192_3 := NB301_264.out
             have hms192_4 := NB301_268.out
             have hms192_5 := NB301_273.out
             refine skip_ (w1 := ?_) (by rfl) rfl ?_ ?_
             rotate_left
             ·go_simp
              rfl
             refine hK.out _ _ ⟨((cell_far (p := ⟨gb301, _, none⟩) NB246_301.out _).trans (hHeld.1)), ((cell_far (p := ⟨gb301, _, none⟩) NB247_301.out _).trans (hHeld.2))⟩ (fun hHeld => ?_)
             clear hK K
             refine pure_ (i := 10) (N := some 16) (v := ?_) (a' := ?_) #[true, true, true, true, true, true, true, true, true, true, true] rfl rfl (any_of HT_.out (by kernel_rfl)) (fun _ _ _ h => h) (Or.inl ⟨by rfl, ?_⟩) ?_ ?_
             rotate_left
             ·intro w'
              go_simp
              with_reducible rfl
             rotate_left
             ·simp only [Act.put, List.setIfInBounds_toArray, List.set_cons_zero, List.set_cons_succ, i64_w, i32_w]
              rfl
             refine done_ (done_of HT_.out (by kernel_rfl)) ?_
             go_upto_region 32 with (fail)
             go_cut [110] (fun v110 wc => ∃ (kq : Nat) (x110_172 : Bool), v110 = .bool x110_172 ∧ Aside0 (laws_FnExactSumOfPictures.j2 kq t288 x110_172 t289 = some r) ∧ Aside0 (kq ≤ kj106) ∧ Aside0 (Kd.R k47 47 wc w.heap.size (fun k_ => some k_ ≠ ((.slice Ao47 t284.length co47) : Value).ownBlock ∧ some k_ ≠ ((.slice Ao56 t286.length co56) : Value).ownBlock ∧ some k_ ≠ ((.slice Ao65 t269.length co65) : Value).ownBlock ∧ some k_ ≠ ((.slice Ao191 t297.length co191) : Value).ownBlock) (.slice Ao41 t256.length co41) t256) ∧ Aside0 (Kd.R k47 47 wc w.heap.size (fun k_ => some k_ ≠ ((.slice Ao41 t256.length co41) : Value).ownBlock ∧ some k_ ≠ ((.slice Ao56 t286.length co56) : Value).ownBlock ∧ some k_ ≠ ((.slice Ao65 t269.length co65) : Value).ownBlock ∧ some k_ ≠ ((.slice Ao191 t297.length co191) : Value).ownBlock) (.slice Ao47 t284.length co47) t284) ∧ Aside0 (Kd.R k47 47 wc w.heap.size (fun k_ => some k_ ≠ ((.slice Ao41 t256.length co41) : Value).ownBlock ∧ some k_ ≠ ((.slice Ao47 t284.length co47) : Value).ownBlock ∧ some k_ ≠ ((.slice Ao65 t269.length co65) : Value).ownBlock ∧ some k_ ≠ ((.slice Ao191 t297.length co191) : Value).ownBlock) (.slice Ao56 t286.length co56) t286) ∧ Aside0 (Kd.R k47 47 wc w.heap.size (fun k_ => some k_ ≠ ((.slice Ao41 t256.length co41) : Value).ownBlock ∧ some k_ ≠ ((.slice Ao47 t284.length co47) : Value).ownBlock ∧ some k_ ≠ ((.slice Ao56 t286.length co56) : Value).ownBlock ∧ some k_ ≠ ((.slice Ao191 t297.length co191) : Value).ownBlock) (.slice Ao65 t269.length co65) t289) ∧ Aside0 (Kd.R k47 47 wc w.heap.size (fun k_ => some k_ ≠ ((.slice Ao41 t256.length co41) : Value).ownBlock ∧ some k_ ≠ ((.slice Ao47 t284.length co47) : Value).ownBlock ∧ some k_ ≠ ((.slice Ao56 t286.length co56) : Value).ownBlock ∧ some k_ ≠ ((.slice Ao65 t269.length co65) : Value).ownBlock) (.slice Ao191 t297.length co191) t297) ∧ Aside0 (wc.heap[gb246]? = some (.cells #[(.slice A0_0 l0_0.length c0_0)] 24 (0, 0))) ∧ Aside0 (wc.heap[gb247]? = some (.cells #[(.slice A1_0 l1_0.length c1_0)] 24 (0, 0))) ∧ Aside0 (wc.heap[gb260]? = some (.cells #[(.slice Ao41 t256.length co41)] 28 (0, 0))) ∧ Aside0 (wc.heap[gb264]? = some (.cells #[(.slice Ao47 t284.length co47)] 28 (0, 0))) ∧ Aside0 (wc.heap[gb268]? = some (.cells #[(.slice Ao56 t286.length co56)] 28 (0, 0))) ∧ Aside0 (wc.heap[gb273]? = some (.cells #[(.slice Ao65 t269.length co65)] 28 (0, 0))) ∧ Aside0 (wc.heap[gb301]? = some (.cells #[(.slice Ao191 t297.length co191)] 28 (0, 0))) ∧ Aside0 (Below w.heap.size w wc))
             case first =>
              have H := HC173.out
              clear HC173
              replace H := Option.bind_eq_some_iff.mp H
              obtain ⟨t302, A1930, H⟩ := H
              replace H : (if t302 = true then (laws_FnExactSumOfPictures.j2 kj106 t288 (t300 != t259) t289) else (laws_FnExactSumOfPictures.j2 kj106 t288 true t289)) = some r := H
              have A193 := Aside0.mk A1930
              clear A1930
              by_cases c194 : t302 = true
              ·subst c194
               have H1 : (laws_FnExactSumOfPictures.j2 kj106 t288 (t300 != t259) t289) = some r := by rw [if_pos rfl] at H; exact H
               clear H
               have H := H1
               clear H1
               have H' := Aside0.mk H
               clear H
               have hnb195 := NB301_246.out
               have hnc195 := NB246_301.out
               have hnb196 := NB301_247.out
               have hnc196 := NB247_301.out
               have hnb197 := NB301_260.out
               have hnc197 := NB260_301.out
               have hnb198 := NB301_264.out
               have hnc198 := NB264_301.out
               have hnb199 := NB301_268.out
               have hnc199 := NB268_301.out
               have hnb200 := NB301_273.out
               have hnc200 := NB273_301.out
               have hcz201_0 : w190.cell? ⟨gb301, 0, none⟩ = some (.slice none 0 0) := (blk_cell BK301.out 0).trans rfl
               have hfz201_0 := blk_frozen BK301.out 0
               have hnb202 := NB260_246.out
               have hnc202 := NB246_260.out
               have hnb203 := NB260_247.out
               have hnc203 := NB247_260.out
               have hnb204 := NB260_264.out
               have hnc204 := NB264_260.out
               have hnb205 := NB260_268.out
               have hnc205 := NB268_260.out
               have hnb206 := NB260_273.out
               have hnc206 := NB273_260.out
               have hcz207_0 : w190.cell? ⟨gb260, 0, none⟩ = some (.slice Ao41 t256.length co41) := (blk_cell BK260.out 0).trans rfl
               have hfz207_0 := blk_frozen BK260.out 0
               go_wp2_with (first | ((with_reducible refine gate_callee (f := 9) rfl ?_); refine goesL_ (some 104) rfl rfl Try.func9 (by kernel_rfl) rfl #[.agg #[.slice Ao191 t297.length co191], .agg #[.slice Ao41 t256.length co41]] rfl (by (try simp only [List.map_toArray, List.map_cons, List.map_nil]); first | done | rfl) ?_; (with_reducible refine (laws_eqPicture.calls kj106 _ _ t297 _ _ t256 true _ ?side1 ?side2 ?side3 ?side4 A193.out).mono ?_); (case side1 => refine (Kd.R_reads' (e := 47) (base := w.heap.size) (ok := fun k_ => (some k_ ≠ (v292 : Value).ownBlock ∧ (some k_ ≠ (v295 : Value).ownBlock ∧ (some k_ ≠ (.slice Ao41 t256.length co41 : Value).ownBlock ∧ (some k_ ≠ (.slice Ao47 t284.length co47 : Value).ownBlock ∧ (some k_ ≠ (.slice Ao56 t286.length co56 : Value).ownBlock ∧ some k_ ≠ (.slice Ao65 t269.length co65 : Value).ownBlock)))))) (n := t297.length) (c := co191) ?_).2.2; exact (by (with_reducible repeat (first | apply Kd.R_alloc | apply Kd.R_drewN | apply Kd.R_drew)); exact (Kd.R_mono (Kd.R_far (p := ⟨gb301, 0, none⟩) (Kd.R_types HO299.out BK301.out (by decide)) (fun _ hk => hk.2) (.slice Ao191 t297.length co191)) (fun _ h_ => h_.1)))); (case side2 => exact (Kd.R_reads' HO299.out).2.1); (case side3 => refine (Kd.R_reads' (e := 47) (base := w.heap.size) (ok := fun k_ => (some k_ ≠ (v292 : Value).ownBlock ∧ (some k_ ≠ (v295 : Value).ownBlock ∧ (some k_ ≠ (.slice Ao191 t297.length co191 : Value).ownBlock ∧ (some k_ ≠ (.slice Ao47 t284.length co47 : Value).ownBlock ∧ (some k_ ≠ (.slice Ao56 t286.length co56 : Value).ownBlock ∧ some k_ ≠ (.slice Ao65 t269.length co65 : Value).ownBlock)))))) (n := t256.length) (c := co41) ?_).2.2; exact (by (with_reducible repeat (first | apply Kd.R_alloc | apply Kd.R_drewN | apply Kd.R_drew)); exact (Kd.R_mono (Kd.R_far (p := ⟨gb301, 0, none⟩) (Kd.R_types HO_261000.out BK301.out (by decide)) (fun _ hk => hk.2) (.slice Ao191 t297.length co191)) (fun _ h_ => h_.1)))); (case side4 => exact (Kd.R_reads' HO_261000.out).2.1); rintro e w208 ⟨rfl, hb⟩; refine ⟨_, rfl, ?_⟩; replace HO_261000 := Aside0.mk (Kd.R_below (by (with_reducible repeat (first | apply Kd.R_alloc | apply Kd.R_drewN | apply Kd.R_drew)); exact (Kd.R_mono (Kd.R_far (p := ⟨gb301, 0, none⟩) (Kd.R_types HO_261000.out BK301.out (by decide)) (fun _ hk => hk.2) (.slice Ao191 t297.length co191)) (fun _ h_ => h_.1))) hb); replace HO_265000 := Aside0.mk (Kd.R_below (by (with_reducible repeat (first | apply Kd.R_alloc | apply Kd.R_drewN | apply Kd.R_drew)); exact (Kd.R_mono (Kd.R_far (p := ⟨gb301, 0, none⟩) (Kd.R_types HO_265000.out BK301.out (by decide)) (fun _ hk => hk.2) (.slice Ao191 t297.length co191)) (fun _ h_ => h_.1))) hb); replace HO_269000 := Aside0.mk (Kd.R_below (by (with_reducible repeat (first | apply Kd.R_alloc | apply Kd.R_drewN | apply Kd.R_drew)); exact (Kd.R_mono (Kd.R_far (p := ⟨gb301, 0, none⟩) (Kd.R_types HO_269000.out BK301.out (by decide)) (fun _ hk => hk.2) (.slice Ao191 t297.length co191)) (fun _ h_ => h_.1))) hb); replace HO_274000 := Aside0.mk (Kd.R_below (by (with_reducible repeat (first | apply Kd.R_alloc | apply Kd.R_drewN | apply Kd.R_drew)); exact (Kd.R_mono (Kd.R_far (p := ⟨gb301, 0, none⟩) (Kd.R_types HO_274000.out BK301.out (by decide)) (fun _ hk => hk.2) (.slice Ao191 t297.length co191)) (fun _ h_ => h_.1))) hb); replace HO293 := Aside0.mk (Kd.R_below (by (with_reducible repeat (first | apply Kd.R_alloc | apply Kd.R_drewN | apply Kd.R_drew)); exact (Kd.R_mono (Kd.R_far (p := ⟨gb301, 0, none⟩) (Kd.R_types HO293.out BK301.out (by decide)) (fun _ hk => hk.2) (.slice Ao191 t297.length co191)) (fun _ h_ => h_.1))) hb); replace HO296 := Aside0.mk (Kd.R_below (by (with_reducible repeat (first | apply Kd.R_alloc | apply Kd.R_drewN | apply Kd.R_drew)); exact (Kd.R_mono (Kd.R_far (p := ⟨gb301, 0, none⟩) (Kd.R_types HO296.out BK301.out (by decide)) (fun _ hk => hk.2) (.slice Ao191 t297.length co191)) (fun _ h_ => h_.1))) hb); replace HO299 := Aside0.mk (Kd.R_below (by (with_reducible repeat (first | apply Kd.R_alloc | apply Kd.R_drewN | apply Kd.R_drew)); exact (Kd.R_mono (Kd.R_far (p := ⟨gb301, 0, none⟩) (Kd.R_types HO299.out BK301.out (by decide)) (fun _ hk => hk.2) (.slice Ao191 t297.length co191)) (fun _ h_ => h_.1))) hb); replace BK246 := Aside0.mk (blk_below (g := gb246) (o := .cells #[.slice A0_0 l0_0.length c0_0] 24 (0, 0)) (by (with_reducible repeat (first | refine blk_drewN ?_ _ | refine blk_drew ?_ | refine blk_alloc ?_ _)); refine blk_far ?_ NB246_301.out _; (with_reducible repeat (first | refine blk_drewN ?_ _ | refine blk_drew ?_ | refine blk_alloc ?_ _)); exact BK246.out) hb); replace BK247 := Aside0.mk (blk_below (g := gb247) (o := .cells #[.slice A1_0 l1_0.length c1_0] 24 (0, 0)) (by (with_reducible repeat (first | refine blk_drewN ?_ _ | refine blk_drew ?_ | refine blk_alloc ?_ _)); refine blk_far ?_ NB247_301.out _; (with_reducible repeat (first | refine blk_drewN ?_ _ | refine blk_drew ?_ | refine blk_alloc ?_ _)); exact BK247.out) hb); replace BK260 := Aside0.mk (blk_below (g := gb260) (o := .cells #[.slice Ao41 t256.length co41] 28 (0, 0)) (by (with_reducible repeat (first | refine blk_drewN ?_ _ | refine blk_drew ?_ | refine blk_alloc ?_ _)); refine blk_far ?_ NB260_301.out _; (with_reducible repeat (first | refine blk_drewN ?_ _ | refine blk_drew ?_ | refine blk_alloc ?_ _)); exact BK260.out) hb); replace BK264 := Aside0.mk (blk_below (g := gb264) (o := .cells #[.slice Ao47 t284.length co47] 28 (0, 0)) (by (with_reducible repeat (first | refine blk_drewN ?_ _ | refine blk_drew ?_ | refine blk_alloc ?_ _)); refine blk_far ?_ NB264_301.out _; (with_reducible repeat (first | refine blk_drewN ?_ _ | refine blk_drew ?_ | refine blk_alloc ?_ _)); exact BK264.out) hb); replace BK268 := Aside0.mk (blk_below (g := gb268) (o := .cells #[.slice Ao56 t286.length co56] 28 (0, 0)) (by (with_reducible repeat (first | refine blk_drewN ?_ _ | refine blk_drew ?_ | refine blk_alloc ?_ _)); refine blk_far ?_ NB268_301.out _; (with_reducible repeat (first | refine blk_drewN ?_ _ | refine blk_drew ?_ | refine blk_alloc ?_ _)); exact BK268.out) hb); replace BK273 := Aside0.mk (blk_below (g := gb273) (o := .cells #[.slice Ao65 t269.length co65] 28 (0, 0)) (by (with_reducible repeat (first | refine blk_drewN ?_ _ | refine blk_drew ?_ | refine blk_alloc ?_ _)); refine blk_far ?_ NB273_301.out _; (with_reducible repeat (first | refine blk_drewN ?_ _ | refine blk_drew ?_ | refine blk_alloc ?_ _)); exact BK273.out) hb); replace BK301 := Aside0.mk (blk_below (g := gb301) (o := .cells #[.slice Ao191 t297.length co191] 28 (0, 0)) (by (with_reducible repeat (first | refine blk_drewN ?_ _ | refine blk_drew ?_ | refine blk_alloc ?_ _)); refine blk_put (cs := #[.slice none 0 0]) ?_ 0 _ rfl; (with_reducible repeat (first | refine blk_drewN ?_ _ | refine blk_drew ?_ | refine blk_alloc ?_ _)); exact BK301.out) hb); replace HB := sB HB hb; (try clear hb); (try clear hb2); (try clear hk); (try clear hi)))
               go_meet
               case rel => exact ⟨_, ((t300 != t259)), (by first | rfl | (simp; done) | (simp [*]; done)), H', ⟨by have := HJ24.out; have := HJ106.out; first | omega | exact Nat.le_refl _⟩, ⟨by (try simp only [hl265000_106]); (try simp only [hl269000_106]); (with_reducible repeat (first | apply Kd.R_alloc | apply Kd.R_drewN | apply Kd.R_drew)); exact Kd.R_mono HO_261000.out (fun _ hk => ⟨hk.2.2.2.1, ⟨hk.2.2.2.2.1, ⟨hk.2.2.2.2.2, hk.2.2.1⟩⟩⟩)⟩, ⟨by (try simp only [hl265000_106]); (try simp only [hl269000_106]); (with_reducible repeat (first | apply Kd.R_alloc | apply Kd.R_drewN | apply Kd.R_drew)); exact Kd.R_mono HO_265000.out (fun _ hk => ⟨hk.2.2.2.1, ⟨hk.2.2.2.2.1, ⟨hk.2.2.2.2.2, hk.2.2.1⟩⟩⟩)⟩, ⟨by (try simp only [hl265000_106]); (try simp only [hl269000_106]); (with_reducible repeat (first | apply Kd.R_alloc | apply Kd.R_drewN | apply Kd.R_drew)); exact Kd.R_mono HO_269000.out (fun _ hk => ⟨hk.2.2.2.1, ⟨hk.2.2.2.2.1, ⟨hk.2.2.2.2.2, hk.2.2.1⟩⟩⟩)⟩, ⟨by (try simp only [hl265000_106]); (try simp only [hl269000_106]); (with_reducible repeat (first | apply Kd.R_alloc | apply Kd.R_drewN | apply Kd.R_drew)); exact Kd.R_mono HO_274000.out (fun _ hk => ⟨hk.2.2.2.1, ⟨hk.2.2.2.2.1, ⟨hk.2.2.2.2.2, hk.2.2.1⟩⟩⟩)⟩, ⟨by (try simp only [hl265000_106]); (try simp only [hl269000_106]); (with_reducible repeat (first | apply Kd.R_alloc | apply Kd.R_drewN | apply Kd.R_drew)); exact Kd.R_mono HO299.out (fun _ hk => ⟨hk.2.2.1, ⟨hk.2.2.2.1, ⟨hk.2.2.2.2.1, hk.2.2.2.2.2⟩⟩⟩)⟩, ⟨by (try simp only [hl265000_106]); (try simp only [hl269000_106]); (with_reducible repeat (first | refine blk_drewN ?_ _ | refine blk_drew ?_ | refine blk_alloc ?_ _)); exact BK246.out⟩, ⟨by (try simp only [hl265000_106]); (try simp only [hl269000_106]); (with_reducible repeat (first | refine blk_drewN ?_ _ | refine blk_drew ?_ | refine blk_alloc ?_ _)); exact BK247.out⟩, ⟨by (try simp only [hl265000_106]); (try simp only [hl269000_106]); (with_reducible repeat (first | refine blk_drewN ?_ _ | refine blk_drew ?_ | refine blk_alloc ?_ _)); exact BK260.out⟩, ⟨by (try simp only [hl265000_106]); (try simp only [hl269000_106]); (with_reducible repeat (first | refine blk_drewN ?_ _ | refine blk_drew ?_ | refine blk_alloc ?_ _)); exact BK264.out⟩, ⟨by (try simp only [hl265000_106]); (try simp only [hl269000_106]); (with_reducible repeat (first | refine blk_drewN ?_ _ | refine blk_drew ?_ | refine blk_alloc ?_ _)); exact BK268.out⟩, ⟨by (try simp only [hl265000_106]); (try simp only [hl269000_106]); (with_reducible repeat (first | refine blk_drewN ?_ _ | refine blk_drew ?_ | refine blk_alloc ?_ _)); exact BK273.out⟩, ⟨by (try simp only [hl265000_106]); (try simp only [hl269000_106]); (with_reducible repeat (first | refine blk_drewN ?_ _ | refine blk_drew ?_ | refine blk_alloc ?_ _)); exact BK301.out⟩, ⟨by repeat (first | (with_reducible first | exact HB.out | apply below_alloc | apply pw_below_drewN | apply below_drew1 | refine below_set ?_ GE246.out | refine below_set ?_ GE247.out | refine below_set ?_ GE260.out | refine below_set ?_ GE264.out | refine below_set ?_ GE268.out | refine below_set ?_ GE273.out | refine below_set ?_ GE301.out) | exact HB.out)⟩⟩
              ·replace c194 := Bool.eq_false_iff.mpr c194
               subst c194
               have H1 : (laws_FnExactSumOfPictures.j2 kj106 t288 true t289) = some r := by rw [if_neg (show ¬ (false = true) by decide)] at H; exact H
               exfalso
               cases kj106 with
               | zero => simp [laws_FnExactSumOfPictures.j2] at H1
               | succ n_ =>
                simp only [laws_FnExactSumOfPictures.j2, if_true] at H1
                exact absurd ((Option.some.inj H1).trans hr_.out) (by decide)
             case rest =>
              clear HC173
              try clear c1
              try clear c2
              try clear p2
              try clear c7
              try clear c9
              try clear c13
              try clear c19
              try clear c20
              try clear c21
              try clear c22
              try clear c194
              try clear c195
              try clear c196
              try clear c197
              try clear c198
              try clear c199
              try clear c200
              try clear c202
              try clear c203
              try clear c204
              try clear c205
              try clear c206
              try clear c209
              try clear c210
              try clear c211
              try clear c212
              try clear c213
              try clear c214
              try clear c216
              try clear c217
              try clear c218
              try clear c219
              try clear c220
              try clear hcz201_0
              try clear hcz207_0
              try clear hcz215_0
              try clear hcz221_0
              try clear hfz201_0
              try clear hfz207_0
              try clear hfz215_0
              try clear hfz221_0
              obtain ⟨kq, x110_172, rfl, HA, HJ172, HO_261000, HO_265000, HO_269000, HO_274000, HO_302000, BK246, BK247, BK260, BK264, BK268, BK273, BK301, HB⟩ := hcut
              have hl274000_172 := (Kd.R_reads' HO_274000.out).1
              rw [hl274000_172] at HO_274000
              (try simp only [hl274000_172])
              (try simp only [hl274000_172] at BK246)
              (try simp only [hl274000_172] at BK247)
              (try simp only [hl274000_172] at BK260)
              (try simp only [hl274000_172] at BK264)
              (try simp only [hl274000_172] at BK268)
              (try simp only [hl274000_172] at BK273)
              (try simp only [hl274000_172] at BK301)
              (try simp only [hl274000_172] at HO_261000)
              (try simp only [hl274000_172] at HO_265000)
              (try simp only [hl274000_172] at HO_269000)
              (try simp only [hl274000_172] at HO_302000)
              cases kq with
              | zero => exact absurd HA.out (by simp [laws_FnExactSumOfPictures.j2])
              | succ kj172 =>
               have H := HA.out
               clear HA
               simp only [laws_FnExactSumOfPictures.j2] at H
               by_cases c223 : x110_172 = true
               ·subst c223
                have H1 : (some false) = some r := by rw [if_pos rfl] at H; exact H
                exact absurd ((Option.some.inj H1).trans hr_.out) (by decide)
               ·replace c223 := Bool.eq_false_iff.mpr c223
                subst c223
                have H1 : ((laws_heldPicture.f kj172 t289 1).bind fun t303 => (if t303 < 0 then (some false) else (if t303 = t288 then (some true) else (some false)))) = some r := by rw [if_neg (show ¬ (false = true) by decide)] at H; exact H
                clear H
                have H := H1
                clear H1
                replace H := Option.bind_eq_some_iff.mp H
                obtain ⟨t303, A2240, H⟩ := H
                replace H : (if t303 < 0 then (some false) else (if t303 = t288 then (some true) else (some false))) = some r := H
                have A224 := Aside0.mk A2240
                clear A2240
                by_cases c225 : t303 < 0
                ·rw [if_pos c225] at H
                 have c225b0 : decide (t303 < 0) = true := decide_eq_true c225
                 clear c225
                 try exact absurd ((Option.some.inj H).trans hr_.out) (by decide)
                 all_goals
                  obtain rfl := Option.some.inj H
                  have hnb226 := NB273_246.out
                  have hnc226 := NB246_273.out
                  have hnb227 := NB273_247.out
                  have hnc227 := NB247_273.out
                  have hnb228 := NB273_260.out
                  have hnc228 := NB260_273.out
                  have hnb229 := NB273_264.out
                  have hnc229 := NB264_273.out
                  have hnb230 := NB273_268.out
                  have hnc230 := NB268_273.out
                  have hnb231 := NB273_301.out
                  have hnc231 := NB301_273.out
                  have hcz232_0 : wc.cell? ⟨gb273, 0, none⟩ = some (.slice Ao65 t289.length co65) := (blk_cell BK273.out 0).trans rfl
                  have hfz232_0 := blk_frozen BK273.out 0
                  go_wp2_with (first | ((with_reducible refine gate_callee (f := 11) rfl ?_); refine goesL_ (some 113) rfl rfl Try.func11 (by kernel_rfl) rfl #[.agg #[.slice Ao65 t289.length co65], .int .i64 1] rfl (by (try simp only [List.map_toArray, List.map_cons, List.map_nil]); first | done | rfl) ?_; (with_reducible refine (laws_heldPicture.calls kj172 _ _ t289 1 t303 _ ?side1 ?side2 A224.out).mono ?_); (case side1 => exact cT (Kd.R_reads' HO_274000.out).2.2); (case side2 => exact (Kd.R_reads' HO_274000.out).2.1); rintro e w233 ⟨rfl, hb⟩; refine ⟨_, rfl, ?_⟩; replace HO_261000 := rA HO_261000 hb; replace HO_265000 := rA HO_265000 hb; replace HO_269000 := rA HO_269000 hb; replace HO_274000 := rA HO_274000 hb; replace HO_302000 := rA HO_302000 hb; replace BK246 := bA BK246 hb; replace BK247 := bA BK247 hb; replace BK260 := bA BK260 hb; replace BK264 := bA BK264 hb; replace BK268 := bA BK268 hb; replace BK273 := bA BK273 hb; replace BK301 := bA BK301 hb; replace HB := sB HB hb; (try clear hb); (try clear hb2); (try clear hk); (try clear hi)))
                  go_ret
                  exact ⟨by first | rfl | (simp [errW_none, errW_some] <;> rfl) | (simp [*, errW_none, errW_some] <;> rfl), by repeat (first | (with_reducible first | exact HB.out | apply below_alloc | apply pw_below_drewN | apply below_drew1 | refine below_set ?_ GE246.out | refine below_set ?_ GE247.out | refine below_set ?_ GE260.out | refine below_set ?_ GE264.out | refine below_set ?_ GE268.out | refine below_set ?_ GE273.out | refine below_set ?_ GE301.out) | exact HB.out)⟩
                ·rw [if_neg c225] at H
                 have c225b0 : decide (t303 < 0) = false := decide_eq_false c225
                 clear c225
                 by_cases c234 : t303 = t288
                 ·rw [if_pos c234] at H
                  have c234b0 : (t303 == t288) = true := beq_iff_eq.mpr c234
                  have c234b1 : (t303 != t288) = false := bne_eq_false_iff_eq.mpr c234
                  clear c234
                  try exact absurd ((Option.some.inj H).trans hr_.out) (by decide)
                  all_goals
                   obtain rfl := Option.some.inj H
                   have hnb235 := NB273_246.out
                   have hnc235 := NB246_273.out
                   have hnb236 := NB273_247.out
                   have hnc236 := NB247_273.out
                   have hnb237 := NB273_260.out
                   have hnc237 := NB260_273.out
                   have hnb238 := NB273_264.out
                   have hnc238 := NB264_273.out
                   have hnb239 := NB273_268.out
                   have hnc239 := NB268_273.out
                   have hnb240 := NB273_301.out
                   have hnc240 := NB301_273.out
                   have hcz241_0 : wc.cell? ⟨gb273, 0, none⟩ = some (.slice Ao65 t289.length co65) := (blk_cell BK273.out 0).trans rfl
                   have hfz241_0 := blk_frozen BK273.out 0
                   go_wp2_with (first | ((with_reducible refine gate_callee (f := 11) rfl ?_); refine goesL_ (some 113) rfl rfl Try.func11 (by kernel_rfl) rfl #[.agg #[.slice Ao65 t289.length co65], .int .i64 1] rfl (by (try simp only [List.map_toArray, List.map_cons, List.map_nil]); first | done | rfl) ?_; (with_reducible refine (laws_heldPicture.calls kj172 _ _ t289 1 t303 _ ?side1 ?side2 A224.out).mono ?_); (case side1 => exact cT (Kd.R_reads' HO_274000.out).2.2); (case side2 => exact (Kd.R_reads' HO_274000.out).2.1); rintro e w242 ⟨rfl, hb⟩; refine ⟨_, rfl, ?_⟩; replace HO_261000 := rA HO_261000 hb; replace HO_265000 := rA HO_265000 hb; replace HO_269000 := rA HO_269000 hb; replace HO_274000 := rA HO_274000 hb; replace HO_302000 := rA HO_302000 hb; replace BK246 := bA BK246 hb; replace BK247 := bA BK247 hb; replace BK260 := bA BK260 hb; replace BK264 := bA BK264 hb; replace BK268 := bA BK268 hb; replace BK273 := bA BK273 hb; replace BK301 := bA BK301 hb; replace HB := sB HB hb; (try clear hb); (try clear hb2); (try clear hk); (try clear hi)))
                   go_ret
                   exact ⟨by first | rfl | (simp [errW_none, errW_some] <;> rfl) | (simp [*, errW_none, errW_some] <;> rfl), by repeat (first | (with_reducible first | exact HB.out | apply below_alloc | apply pw_below_drewN | apply below_drew1 | refine below_set ?_ GE246.out | refine below_set ?_ GE247.out | refine below_set ?_ GE260.out | refine below_set ?_ GE264.out | refine below_set ?_ GE268.out | refine below_set ?_ GE273.out | refine below_set ?_ GE301.out) | exact HB.out)⟩
                 ·rw [if_neg c234] at H
                  have c234b0 : (t303 == t288) = false := beq_eq_false_iff_ne.mpr c234
                  have c234b1 : (t303 != t288) = true := bne_iff_ne.mpr c234
                  try exact absurd ((Option.some.inj H).trans hr_.out) (by decide)
                  all_goals
                   obtain rfl := Option.some.inj H
                   have hnb243 := NB273_246.out
                   have hnc243 := NB246_273.out
                   have hnb244 := NB273_247.out
                   have hnc244 := NB247_273.out
                   have hnb245 := NB273_260.out
                   have hnc245 := NB260_273.out
                   have hnb246 := NB273_264.out
                   have hnc246 := NB264_273.out
                   have hnb247 := NB273_268.out
                   have hnc247 := NB268_273.out
                   have hnb248 := NB273_301.out
                   have hnc248 := NB301_273.out
                   have hcz249_0 : wc.cell? ⟨gb273, 0, none⟩ = some (.slice Ao65 t289.length co65) := (blk_cell BK273.out 0).trans rfl
                   have hfz249_0 := blk_frozen BK273.out 0
                   go_wp2_with (first | ((with_reducible refine gate_callee (f := 11) rfl ?_); refine goesL_ (some 113) rfl rfl Try.func11 (by kernel_rfl) rfl #[.agg #[.slice Ao65 t289.length co65], .int .i64 1] rfl (by (try simp only [List.map_toArray, List.map_cons, List.map_nil]); first | done | rfl) ?_; (with_reducible refine (laws_heldPicture.calls kj172 _ _ t289 1 t303 _ ?side1 ?side2 A224.out).mono ?_); (case side1 => exact cT (Kd.R_reads' HO_274000.out).2.2); (case side2 => exact (Kd.R_reads' HO_274000.out).2.1); rintro e w250 ⟨rfl, hb⟩; refine ⟨_, rfl, ?_⟩; replace HO_261000 := rA HO_261000 hb; replace HO_265000 := rA HO_265000 hb; replace HO_269000 := rA HO_269000 hb; replace HO_274000 := rA HO_274000 hb; replace HO_302000 := rA HO_302000 hb; replace BK246 := bA BK246 hb; replace BK247 := bA BK247 hb; replace BK260 := bA BK260 hb; replace BK264 := bA BK264 hb; replace BK268 := bA BK268 hb; replace BK273 := bA BK273 hb; replace BK301 := bA BK301 hb; replace HB := sB HB hb; (try clear hb); (try clear hb2); (try clear hk); (try clear hi)))
                   go_ret
                   exact ⟨by first | rfl | (simp [errW_none, errW_some] <;> rfl) | (simp [*, errW_none, errW_some] <;> rfl), by repeat (first | (with_reducible first | exact HB.out | apply below_alloc | apply pw_below_drewN | apply below_drew1 | refine below_set ?_ GE246.out | refine below_set ?_ GE247.out | refine below_set ?_ GE260.out | refine below_set ?_ GE264.out | refine below_set ?_ GE268.out | refine below_set ?_ GE273.out | refine below_set ?_ GE301.out) | exact HB.out)⟩
            ·rw [if_neg c169] at H
             have c169b0 : (t290 == t288) = false := beq_eq_false_iff_ne.mpr c169
             have c169b1 : (t290 != t288) = true := bne_iff_ne.mpr c169
             try exact absurd ((Option.some.inj H).trans hr_.out) (by decide)
             all_goals
              obtain rfl := Option.some.inj H
              have hnb251 := NB273_246.out
              have hnc251 := NB246_273.out
              have hnb252 := NB273_247.out
              have hnc252 := NB247_273.out
              have hnb253 := NB273_260.out
              have hnc253 := NB260_273.out
              have hnb254 := NB273_264.out
              have hnc254 := NB264_273.out
              have hnb255 := NB273_268.out
              have hnc255 := NB268_273.out
              have hcz256_0 : wc.cell? ⟨gb273, 0, none⟩ = some (.slice Ao65 t269.length co65) := (blk_cell BK273.out 0).trans rfl
              have hfz256_0 := blk_frozen BK273.out 0
              go_wp2_with (first | ((with_reducible refine gate_callee (f := 10) rfl ?_); refine goesL_ (some 85) rfl rfl Try.func10 (by kernel_rfl) rfl #[.agg #[.slice Ao65 t269.length co65], .int .i64 1] rfl (by (try simp only [List.map_toArray, List.map_cons, List.map_nil]); first | done | rfl) ?_; (with_reducible refine (laws_markPicture.calls kj106 (fun k_ => some k_ = (.slice Ao65 t269.length co65 : Value).ownBlock) (.slice Ao65 t269.length co65) t269 1 t288 t289 w _ ?side1 ?side2 A157.out).mono ?_); (case side1 => exact sT HB); (case side2 => exact Kd.R_tight rfl HO_274000.out); rintro e w257 ⟨rfl, hy0, hb, hkp⟩; refine ⟨_, rfl, ?_⟩; replace HO_261000 := Aside0.mk (Kd.R_mono (ok' := fun k_ => some k_ ≠ (.slice Ao47 t284.length co47 : Value).ownBlock ∧ some k_ ≠ (.slice Ao56 t286.length co56 : Value).ownBlock ∧ some k_ ≠ (.slice Ao65 t269.length co65 : Value).ownBlock) (Kd.R_keptB (HO_261000.out) hkp (fun k_ hk_ hs_ => (hk_.2.2) hs_)) (fun k_ hk_ => ⟨hk_.1.1, hk_.1.2.1, hk_.1.2.2⟩)); replace HO_265000 := Aside0.mk (Kd.R_mono (ok' := fun k_ => some k_ ≠ (.slice Ao41 t256.length co41 : Value).ownBlock ∧ some k_ ≠ (.slice Ao56 t286.length co56 : Value).ownBlock ∧ some k_ ≠ (.slice Ao65 t269.length co65 : Value).ownBlock) (Kd.R_keptB (HO_265000.out) hkp (fun k_ hk_ hs_ => (hk_.2.2) hs_)) (fun k_ hk_ => ⟨hk_.1.1, hk_.1.2.1, hk_.1.2.2⟩)); replace HO_269000 := Aside0.mk (Kd.R_mono (ok' := fun k_ => some k_ ≠ (.slice Ao41 t256.length co41 : Value).ownBlock ∧ some k_ ≠ (.slice Ao47 t284.length co47 : Value).ownBlock ∧ some k_ ≠ (.slice Ao65 t269.length co65 : Value).ownBlock) (Kd.R_keptB (HO_269000.out) hkp (fun k_ hk_ hs_ => (hk_.2.2) hs_)) (fun k_ hk_ => ⟨hk_.1.1, hk_.1.2.1, hk_.1.2.2⟩)); replace BK246 := Aside0.mk (blk_kept (by first | exact BK246.out | exact blk_alloc BK246.out _) hkp (fun hs_ => (fun e_ => (Kd.R_ne HO_274000.out BK246.out (by decide)) e_) hs_)); replace BK247 := Aside0.mk (blk_kept (by first | exact BK247.out | exact blk_alloc BK247.out _) hkp (fun hs_ => (fun e_ => (Kd.R_ne HO_274000.out BK247.out (by decide)) e_) hs_)); replace BK260 := Aside0.mk (blk_kept (by first | exact BK260.out | exact blk_alloc BK260.out _) hkp (fun hs_ => (fun e_ => (Kd.R_ne HO_274000.out BK260.out (by decide)) e_) hs_)); replace BK264 := Aside0.mk (blk_kept (by first | exact BK264.out | exact blk_alloc BK264.out _) hkp (fun hs_ => (fun e_ => (Kd.R_ne HO_274000.out BK264.out (by decide)) e_) hs_)); replace BK268 := Aside0.mk (blk_kept (by first | exact BK268.out | exact blk_alloc BK268.out _) hkp (fun hs_ => (fun e_ => (Kd.R_ne HO_274000.out BK268.out (by decide)) e_) hs_)); replace BK273 := Aside0.mk (blk_kept (by first | exact BK273.out | exact blk_alloc BK273.out _) hkp (fun hs_ => (fun e_ => (Kd.R_ne HO_274000.out BK273.out (by decide)) e_) hs_)); replace HO_274000 := Aside0.mk (Kd.R_reok rfl hy0 (fun k_ e_ => HO_274000.out.1 k_ e_)); replace HB := Aside0.mk (hb); (try clear hb); (try clear hkp); (try clear hy0); have hcz258_0 : w257.cell? ⟨gb273, 0, none⟩ = some (.slice Ao65 t269.length co65) := (blk_cell BK273.out 0).trans rfl; have hfz258_0 := blk_frozen BK273.out 0) | ((with_reducible refine gate_callee (f := 11) rfl ?_); refine goesL_ (some 88) rfl rfl Try.func11 (by kernel_rfl) rfl #[.agg #[.slice Ao65 t289.length co65], .int .i64 1] rfl (by (try simp only [List.map_toArray, List.map_cons, List.map_nil]); first | done | (rw [show t289.length = t269.length from (Kd.R_reads' HO_274000.out).1.symm] <;> rfl) | rfl | (simp only [List.length_drop, List.length_take]; rfl)) ?_; (with_reducible refine (laws_heldPicture.calls kj106 _ _ t289 1 t290 _ ?side1 ?side2 A158.out).mono ?_); (case side1 => exact cT (Kd.R_reads' HO_274000.out).2.2); (case side2 => rw [show t289.length = t269.length from (Kd.R_reads' HO_274000.out).1.symm]; exact (Kd.R_reads' HO_274000.out).2.1); rintro e w259 ⟨rfl, hb⟩; refine ⟨_, rfl, ?_⟩; replace HO_261000 := rA HO_261000 hb; replace HO_265000 := rA HO_265000 hb; replace HO_269000 := rA HO_269000 hb; replace HO_274000 := rA HO_274000 hb; replace BK246 := bA BK246 hb; replace BK247 := bA BK247 hb; replace BK260 := bA BK260 hb; replace BK264 := bA BK264 hb; replace BK268 := bA BK268 hb; replace BK273 := bA BK273 hb; replace HB := sB HB hb; (try clear hb); (try clear hb2); (try clear hk); (try clear hi)))
              go_ret
              exact ⟨by first | rfl | (simp [errW_none, errW_some] <;> rfl) | (simp [*, errW_none, errW_some] <;> rfl), by repeat (first | (with_reducible first | exact HB.out | apply below_alloc | apply pw_below_drewN | apply below_drew1 | refine below_set ?_ GE246.out | refine below_set ?_ GE247.out | refine below_set ?_ GE260.out | refine below_set ?_ GE264.out | refine below_set ?_ GE268.out | refine below_set ?_ GE273.out) | exact HB.out)⟩
       ·replace c104 := Bool.eq_false_iff.mpr c104
        subst c104
        have H1 : (some false) = some r := by rw [if_neg (show ¬ (false = true) by decide)] at H; exact H
        exact absurd ((Option.some.inj H1).trans hr_.out) (by decide)
      ·replace c101 := Bool.eq_false_iff.mpr c101
       subst c101
       have H1 : (some false) = some r := by rw [if_neg (show ¬ (false = true) by decide)] at H; exact H
       exact absurd ((Option.some.inj H1).trans hr_.out) (by decide)
end Go.Proofs.Ytnabbkaipfhmdaa.QFnExactSumOfPictures
