/- The Go functions that the law FnExactGrowOn reaches, as Lean functions, and what their calls do. Written by a program of this session. -/
import Derived.Test.YtnabbkaipfhmdaaQFnExactGrowOnx0
import Derived.Test.YtnabbkaipfhmdaaQFnExactGrowOnx1
import Derived.Test.YtnabbkaipfhmdaaQFnExactGrowOnx3
import Derived.Test.YtnabbkaipfhmdaaQFnExactGrowOnx6
import Derived.Test.YtnabbkaipfhmdaaQFnExactGrowOnx7
namespace Go.Proofs.Ytnabbkaipfhmdaa.QFnExactGrowOn
open Go.RowKit Go.Proofs.YtnabbkaipfhmdaaW.PrintWords Go.Proofs.YtnabbkaipfhmdaaW.PrintLast Go.Proofs.YtnabbkaipfhmdaaW.PrintMore
attribute [local go_sem] max2_int min2_int max_two min_two max_three min_three max_four min_four   -- for this text's walks alone
set_option linter.unusedVariables false
set_option linter.unusedSimpArgs false

/-! ### laws_FnExactGrowOn: function 3 -/
mutual
def laws_FnExactGrowOn.j0 : Nat → Int → Bool → Bool → Bool → List (S57) → List (S57) → List (S47) → List (S47) → List (S47) → List (S47) → Option (Bool)
  | 0, _, _, _, _, _, _, _, _, _, _ => none
  | k + 1, x1, x9, x13, x57, x245000, x246000, x259000, x263000, x267000, x272000 => if x57 = true then (some false) else ((laws_toPicture.f k x245000).bind fun t273 => ((laws_eqPicture.f k x263000 t273).bind fun t276 => (if t276 = true then ((laws_toPicture.f k x246000).bind fun t277 => ((laws_eqPicture.f k x267000 t277).bind fun t280 => (if t280 = true then ((laws_markPicture.f k x263000 1).bind fun bt281 => ((laws_markPicture.f k x267000 bt281.1).bind fun bt283 => (if bt283.1 < 0 then (laws_FnExactGrowOn.j1 k x1 x9 true x245000 x246000 x259000 x272000) else ((laws_eqPicture.f k x272000 x259000).bind fun t285 => (if t285 = true then (laws_FnExactGrowOn.j1 k x1 x9 (x13 != x9) x245000 x246000 x259000 x272000) else (laws_FnExactGrowOn.j1 k x1 x9 true x245000 x246000 x259000 x272000)))))) else (some false)))) else (some false))))
def laws_FnExactGrowOn.j1 : Nat → Int → Bool → Bool → List (S57) → List (S57) → List (S47) → List (S47) → Option (Bool)
  | 0, _, _, _, _, _, _, _ => none
  | k + 1, x1, x9, x86, x245000, x246000, x259000, x272000 => if x86 = true then (some false) else ((laws_markPicture.f k x272000 1).bind fun bt286 => ((laws_heldPicture.f k bt286.2 1).bind fun t288 => (if t288 < 0 then (some false) else (if t288 = bt286.1 then ((laws_toPicture.f k x245000).bind fun t289 => ((laws_toPicture.f k x246000).bind fun t292 => ((impl_GrowOn.f k t289 x1 t292).bind fun bt295 => ((laws_eqPicture.f k bt295.1 x259000).bind fun t300 => (if t300 = true then (laws_FnExactGrowOn.j2 k bt286.1 (bt295.2 != x9) bt286.2) else (laws_FnExactGrowOn.j2 k bt286.1 true bt286.2)))))) else (some false)))))
def laws_FnExactGrowOn.j2 : Nat → Int → Bool → List (S47) → Option (Bool)
  | 0, _, _, _ => none
  | k + 1, x15, x115, x272000 => if x115 = true then (some false) else ((laws_heldPicture.f k x272000 1).bind fun t301 => (if t301 < 0 then (some false) else (if t301 = x15 then (some true) else (some false))))
end
def laws_FnExactGrowOn.f (k : Nat) (l0_0 : List (S57)) (a1 : Int) (l2_0 : List (S57)) : Option (Bool) := (laws_szPicture.f l0_0 1048576).bind fun t246 => (if t246 < 0 then (some true) else ((laws_szPicture.f l2_0 t246).bind fun t247 => (if t247 < 0 then (some true) else ((laws_toPicture.f k l0_0).bind fun t248 => ((laws_toPicture.f k l2_0).bind fun t251 => ((spec_GrowOn.f k t248 a1 t251).bind fun bt254 => ((laws_toPicture.f k l0_0).bind fun t259 => ((laws_toPicture.f k l2_0).bind fun t263 => ((impl_GrowOn.f k t259 a1 t263).bind fun bt267 => ((laws_eqPicture.f k bt267.1 bt254.1).bind fun t272 => (if t272 = true then (laws_FnExactGrowOn.j0 k a1 bt254.2 bt267.2 (bt267.2 != bt254.2) l0_0 l2_0 bt254.1 t259 t263 bt267.1) else (laws_FnExactGrowOn.j0 k a1 bt254.2 bt267.2 true l0_0 l2_0 bt254.1 t259 t263 bt267.1))))))))))))
theorem laws_FnExactGrowOn.mono_l : ∀ k, (∀ y0 y1 y2 y3 y4 y5 y6 y7 y8 y9, LeO (laws_FnExactGrowOn.j0 k y0 y1 y2 y3 y4 y5 y6 y7 y8 y9) (laws_FnExactGrowOn.j0 (k + 1) y0 y1 y2 y3 y4 y5 y6 y7 y8 y9)) ∧ (∀ y0 y1 y2 y3 y4 y5 y6, LeO (laws_FnExactGrowOn.j1 k y0 y1 y2 y3 y4 y5 y6) (laws_FnExactGrowOn.j1 (k + 1) y0 y1 y2 y3 y4 y5 y6)) ∧ (∀ y0 y1 y2, LeO (laws_FnExactGrowOn.j2 k y0 y1 y2) (laws_FnExactGrowOn.j2 (k + 1) y0 y1 y2))
  | 0 => ⟨fun _ _ _ _ _ _ _ _ _ _ r h => by simp [laws_FnExactGrowOn.j0] at h, fun _ _ _ _ _ _ _ r h => by simp [laws_FnExactGrowOn.j1] at h, fun _ _ _ r h => by simp [laws_FnExactGrowOn.j2] at h⟩
  | k + 1 => by
    obtain ⟨ih0, ih1, ih2⟩ := laws_FnExactGrowOn.mono_l k
    refine ⟨?_, ?_, ?_⟩
    · intro y0 y1 y2 y3 y4 y5 y6 y7 y8 y9
      unfold laws_FnExactGrowOn.j0
      repeat' first
      | (with_reducible exact ih0 _ _ _ _ _ _ _ _ _ _)
      | (with_reducible exact ih1 _ _ _ _ _ _ _)
      | (with_reducible exact ih2 _ _ _)
      | (with_reducible exact impl_GrowOn.mono _ _ _ _)
      | (with_reducible exact laws_eqPicture.mono _ _ _)
      | (with_reducible exact laws_heldPicture.mono _ _ _)
      | (with_reducible exact laws_markPicture.mono _ _ _)
      | (with_reducible exact laws_toPicture.mono _ _)
      | (with_reducible exact spec_GrowOn.mono _ _ _ _)
      | (with_reducible exact LeO.refl _)
      | (with_reducible exact LeO.none _)
      | (with_reducible refine LeO.ite ?_ ?_)
      | (with_reducible refine LeO.bind ?_ (fun _ => ?_))
      | exact ih0 _ _ _ _ _ _ _ _ _ _
      | exact ih1 _ _ _ _ _ _ _
      | exact ih2 _ _ _
      | exact impl_GrowOn.mono _ _ _ _
      | exact laws_eqPicture.mono _ _ _
      | exact laws_heldPicture.mono _ _ _
      | exact laws_markPicture.mono _ _ _
      | exact laws_toPicture.mono _ _
      | exact spec_GrowOn.mono _ _ _ _
      | exact LeO.none _
      | refine LeO.ite ?_ ?_
      | refine LeO.bind ?_ (fun _ => ?_)
    · intro y0 y1 y2 y3 y4 y5 y6
      unfold laws_FnExactGrowOn.j1
      repeat' first
      | (with_reducible exact ih0 _ _ _ _ _ _ _ _ _ _)
      | (with_reducible exact ih1 _ _ _ _ _ _ _)
      | (with_reducible exact ih2 _ _ _)
      | (with_reducible exact impl_GrowOn.mono _ _ _ _)
      | (with_reducible exact laws_eqPicture.mono _ _ _)
      | (with_reducible exact laws_heldPicture.mono _ _ _)
      | (with_reducible exact laws_markPicture.mono _ _ _)
      | (with_reducible exact laws_toPicture.mono _ _)
      | (with_reducible exact spec_GrowOn.mono _ _ _ _)
      | (with_reducible exact LeO.refl _)
      | (with_reducible exact LeO.none _)
      | (with_reducible refine LeO.ite ?_ ?_)
      | (with_reducible refine LeO.bind ?_ (fun _ => ?_))
      | exact ih0 _ _ _ _ _ _ _ _ _ _
      | exact ih1 _ _ _ _ _ _ _
      | exact ih2 _ _ _
      | exact impl_GrowOn.mono _ _ _ _
      | exact laws_eqPicture.mono _ _ _
      | exact laws_heldPicture.mono _ _ _
      | exact laws_markPicture.mono _ _ _
      | exact laws_toPicture.mono _ _
      | exact spec_GrowOn.mono _ _ _ _
      | exact LeO.none _
      | refine LeO.ite ?_ ?_
      | refine LeO.bind ?_ (fun _ => ?_)
    · intro y0 y1 y2
      unfold laws_FnExactGrowOn.j2
      repeat' first
      | (with_reducible exact ih0 _ _ _ _ _ _ _ _ _ _)
      | (with_reducible exact ih1 _ _ _ _ _ _ _)
      | (with_reducible exact ih2 _ _ _)
      | (with_reducible exact impl_GrowOn.mono _ _ _ _)
      | (with_reducible exact laws_eqPicture.mono _ _ _)
      | (with_reducible exact laws_heldPicture.mono _ _ _)
      | (with_reducible exact laws_markPicture.mono _ _ _)
      | (with_reducible exact laws_toPicture.mono _ _)
      | (with_reducible exact spec_GrowOn.mono _ _ _ _)
      | (with_reducible exact LeO.refl _)
      | (with_reducible exact LeO.none _)
      | (with_reducible refine LeO.ite ?_ ?_)
      | (with_reducible refine LeO.bind ?_ (fun _ => ?_))
      | exact ih0 _ _ _ _ _ _ _ _ _ _
      | exact ih1 _ _ _ _ _ _ _
      | exact ih2 _ _ _
      | exact impl_GrowOn.mono _ _ _ _
      | exact laws_eqPicture.mono _ _ _
      | exact laws_heldPicture.mono _ _ _
      | exact laws_markPicture.mono _ _ _
      | exact laws_toPicture.mono _ _
      | exact spec_GrowOn.mono _ _ _ _
      | exact LeO.none _
      | refine LeO.ite ?_ ?_
      | refine LeO.bind ?_ (fun _ => ?_)
theorem laws_FnExactGrowOn.mono : ∀ a0 a1 a2 k, LeO (laws_FnExactGrowOn.f k a0 a1 a2) (laws_FnExactGrowOn.f (k + 1) a0 a1 a2) := by
  intro a0 a1 a2 k
  obtain ⟨ih0, ih1, ih2⟩ := laws_FnExactGrowOn.mono_l k
  unfold laws_FnExactGrowOn.f
  repeat' first
      | (with_reducible exact ih0 _ _ _ _ _ _ _ _ _ _)
      | (with_reducible exact ih1 _ _ _ _ _ _ _)
      | (with_reducible exact ih2 _ _ _)
      | (with_reducible exact impl_GrowOn.mono _ _ _ _)
      | (with_reducible exact laws_eqPicture.mono _ _ _)
      | (with_reducible exact laws_heldPicture.mono _ _ _)
      | (with_reducible exact laws_markPicture.mono _ _ _)
      | (with_reducible exact laws_toPicture.mono _ _)
      | (with_reducible exact spec_GrowOn.mono _ _ _ _)
      | (with_reducible exact LeO.refl _)
      | (with_reducible exact LeO.none _)
      | (with_reducible refine LeO.ite ?_ ?_)
      | (with_reducible refine LeO.bind ?_ (fun _ => ?_))
      | exact ih0 _ _ _ _ _ _ _ _ _ _
      | exact ih1 _ _ _ _ _ _ _
      | exact ih2 _ _ _
      | exact impl_GrowOn.mono _ _ _ _
      | exact laws_eqPicture.mono _ _ _
      | exact laws_heldPicture.mono _ _ _
      | exact laws_markPicture.mono _ _ _
      | exact laws_toPicture.mono _ _
      | exact spec_GrowOn.mono _ _ _ _
      | exact LeO.none _
      | refine LeO.ite ?_ ?_
      | refine LeO.bind ?_ (fun _ => ?_)
def laws_FnExactGrowOn.T8 : Bool × List (List Nat × List Nat) := (true, [([], []), ([0], [0]), ([], []), ([], []), ([3, 1], [3]), ([1, 2, 4, 4], [1, 2, 4]), ([5], [5]), ([6], [6]), ([6], [6]), ([], []), ([9, 7, 5, 0, 1, 2, 3, 4, 5, 6, 7, 9], [7, 9]), ([8, 10, 0, 1, 2, 3, 4, 5, 6, 7, 8, 9, 10], [8])])
def laws_FnExactGrowOn.B8 : List Nat := [0, 1, 0, 0, 11, 31, 63, 127, 127, 0, 767, 2047]
theorem laws_FnExactGrowOn.tab8 : rtab .any (opsOf Try.f3 8) = laws_FnExactGrowOn.T8 := by kernel_rfl
theorem laws_FnExactGrowOn.bits8 : waitsOk laws_FnExactGrowOn.T8.2 laws_FnExactGrowOn.B8 = true := by kernel_rfl
def laws_FnExactGrowOn.T31 : Bool × List (List Nat × List Nat) := (true, [([], []), ([0], [0]), ([], []), ([], []), ([3, 1], [3]), ([1, 2, 4, 4], [1, 2, 4]), ([5], [5]), ([6], [6]), ([6], [6]), ([], []), ([9, 7, 5, 0, 1, 2, 3, 4, 5, 6, 7, 9], [7, 9]), ([8, 10, 0, 1, 2, 3, 4, 5, 6, 7, 8, 9, 10], [8])])
def laws_FnExactGrowOn.B31 : List Nat := [0, 1, 0, 0, 11, 31, 63, 127, 127, 0, 767, 2047]
theorem laws_FnExactGrowOn.tab31 : rtab .any (opsOf Try.f3 31) = laws_FnExactGrowOn.T31 := by kernel_rfl
theorem laws_FnExactGrowOn.bits31 : waitsOk laws_FnExactGrowOn.T31.2 laws_FnExactGrowOn.B31 = true := by kernel_rfl
theorem bA {w W w1 : World} {g : Nat} {o : Obj} (h : Aside0 (w.heap[g]? = some o)) (hb : Below W.heap.size W w1) (e : w.heap[g]? = some o → W.heap[g]? = some o := by first | exact id | exact fun h => blk_alloc h _) : Aside0 (w1.heap[g]? = some o) := ⟨blk_below (e h.out) hb⟩
theorem lA {w W : World} {g g' : Nat} {o : Obj} (h : Aside0 (w.heap[g]? = some o)) (hg : g' = W.heap.size) (e : w.heap[g]? = some o → W.heap[g]? = some o := by first | exact id | exact fun h => blk_alloc h _) : Aside0 (g ≠ g') := ⟨by rw [hg]; exact Nat.ne_of_lt (blk_lt (e h.out))⟩
theorem gA {w W : World} {g g' : Nat} {o : Obj} (h : Aside0 (w.heap[g]? = some o)) (hg : g' = W.heap.size) (e : w.heap[g]? = some o → W.heap[g]? = some o := by first | exact id | exact fun h => blk_alloc h _) : Aside0 (g' ≠ g) := ⟨by rw [hg]; exact Nat.ne_of_gt (blk_lt (e h.out))⟩
theorem rA {α : Type} {d : Kd α} {e : Nat} {w W w1 : World} {base : Nat} {ok : Nat → Prop} {v : Value} {xs : List α} (h : Aside0 (d.R e w base ok v xs)) (hb : Below W.heap.size W w1) (f : d.R e w base ok v xs → d.R e W base ok v xs := by first | exact id | (intro h; (with_reducible repeat (first | apply Kd.R_alloc | apply Kd.R_drewN | apply Kd.R_drew)); exact h)) : Aside0 (d.R e w1 base ok v xs) := ⟨Kd.R_below (f h.out) hb⟩
theorem rT {α : Type} {d : Kd α} {e : Nat} {w W : World} {base : Nat} {ok : Nat → Prop} {v : Value} {xs : List α} (h : Aside0 (d.R e w base ok v xs)) (f : d.R e w base ok v xs → d.R e W base ok v xs := by first | exact id | (intro h; (with_reducible repeat (first | apply Kd.R_alloc | apply Kd.R_drewN | apply Kd.R_drew)); exact h)) : d.R e W base ok v xs := f h.out
theorem cT {α : Type} {d : Kd α} {w W : World} {A : Option Addr} {n : Nat} {xs : List α} (h : d.C w A n xs) (f : d.C w A n xs → d.C W A n xs := by first | exact id | (intro h; repeat (first | exact h | (with_reducible refine Kd.C_alloc ?_ _) | (with_reducible refine Kd.C_drewN ?_ _) | (with_reducible refine Kd.C_drew ?_)))) : d.C W A n xs := f h
theorem sT {w W V : World} (h : Aside0 (Below w.heap.size w W)) (e : Below w.heap.size w W → Below w.heap.size w V := by first | exact id | (intro h; repeat (first | (with_reducible first | exact h | apply below_alloc | apply pw_below_drewN | apply below_drew1 | refine below_set ?_ (Aside0.out (by assumption))) | exact h))) : Below w.heap.size w V := e h.out
theorem sB {w W V w1 : World} (h : Aside0 (Below w.heap.size w W)) (hb : Below V.heap.size V w1) (e : Below w.heap.size w W → Below w.heap.size w V := by first | exact id | (intro h; repeat (first | (with_reducible first | exact h | apply below_alloc | apply pw_below_drewN | apply below_drew1 | refine below_set ?_ (Aside0.out (by assumption))) | exact h))) : Aside0 (Below w.heap.size w w1) := ⟨below_step (e h.out) hb⟩
theorem zB {w W V : World} {g : Nat} (h : Aside0 (Below w.heap.size w W)) (hg : g = V.heap.size) (e : Below w.heap.size w W → Below w.heap.size w V := by first | exact id | (intro h; repeat (first | (with_reducible first | exact h | apply below_alloc | apply pw_below_drewN | apply below_drew1 | refine below_set ?_ (Aside0.out (by assumption))) | exact h))) : Aside0 (w.heap.size ≤ g) := ⟨by rw [hg]; exact below_size (e h.out)⟩
set_option maxHeartbeats 8000000 in
set_option maxRecDepth 100000 in
theorem laws_FnExactGrowOn.calls (k : Nat) (A0_0 : Option Addr) (c0_0 : Nat) (l0_0 : List (S57)) (a1 : Int) (A2_0 : Option Addr) (c2_0 : Nat) (l2_0 : List (S57)) (r : Bool) (hr_ : Aside0 (r = true)) (w : World) (hr0_0 : Kd.C k57 w A0_0 l0_0.length l0_0) (hc0_0 : l0_0.length ≤ c0_0) (hr2_0 : Kd.C k57 w A2_0 l2_0.length l2_0) (hc2_0 : l2_0.length ≤ c2_0) (h : laws_FnExactGrowOn.f k l0_0 a1 l2_0 = some r) :
  Calls Try.prog 3 #[.agg #[.slice A0_0 l0_0.length c0_0], .int .i64 a1, .agg #[.slice A2_0 l2_0.length c2_0]] w fun e w' => e = .returned (.bool r) ∧ Below w.heap.size w w' := by
 have hu24 := Try.underlying24
 have hu28 := Try.underlying28
 have HR0_0 := Aside0.mk hr0_0
 have HC0_0 := Aside0.mk hc0_0
 clear hr0_0 hc0_0
 have HR2_0 := Aside0.mk hr2_0
 have HC2_0 := Aside0.mk hc2_0
 clear hr2_0 hc2_0
 have HB := Aside0.mk (Below.refl w.heap.size w)
 have H : ((laws_szPicture.f l0_0 1048576).bind fun t246 => (if t246 < 0 then (some true) else ((laws_szPicture.f l2_0 t246).bind fun t247 => (if t247 < 0 then (some true) else ((laws_toPicture.f k l0_0).bind fun t248 => ((laws_toPicture.f k l2_0).bind fun t251 => ((spec_GrowOn.f k t248 a1 t251).bind fun bt254 => ((laws_toPicture.f k l0_0).bind fun t259 => ((laws_toPicture.f k l2_0).bind fun t263 => ((impl_GrowOn.f k t259 a1 t263).bind fun bt267 => ((laws_eqPicture.f k bt267.1 bt254.1).bind fun t272 => (if t272 = true then (laws_FnExactGrowOn.j0 k a1 bt254.2 bt267.2 (bt267.2 != bt254.2) l0_0 l2_0 bt254.1 t259 t263 bt267.1) else (laws_FnExactGrowOn.j0 k a1 bt254.2 bt267.2 true l0_0 l2_0 bt254.1 t259 t263 bt267.1))))))))))))) = some r := h
 clear h
 replace H := Option.bind_eq_some_iff.mp H
 obtain ⟨t246, A40, H⟩ := H
 replace H : (if t246 < 0 then (some true) else ((laws_szPicture.f l2_0 t246).bind fun t247 => (if t247 < 0 then (some true) else ((laws_toPicture.f k l0_0).bind fun t248 => ((laws_toPicture.f k l2_0).bind fun t251 => ((spec_GrowOn.f k t248 a1 t251).bind fun bt254 => ((laws_toPicture.f k l0_0).bind fun t259 => ((laws_toPicture.f k l2_0).bind fun t263 => ((impl_GrowOn.f k t259 a1 t263).bind fun bt267 => ((laws_eqPicture.f k bt267.1 bt254.1).bind fun t272 => (if t272 = true then (laws_FnExactGrowOn.j0 k a1 bt254.2 bt267.2 (bt267.2 != bt254.2) l0_0 l2_0 bt254.1 t259 t263 bt267.1) else (laws_FnExactGrowOn.j0 k a1 bt254.2 bt267.2 true l0_0 l2_0 bt254.1 t259 t263 bt267.1)))))))))))) = some r := H
 have A4 := Aside0.mk A40
 clear A40
 by_cases c5 : t246 < 0
 ·rw [if_pos c5] at H
  have c5b0 : decide (t246 < 0) = true := decide_eq_true c5
  clear c5
  try exact absurd ((Option.some.inj H).trans hr_.out) (by decide)
  all_goals
   obtain rfl := Option.some.inj H
   go_enter Try.func3, Try.ntmps3
   go_wp2_with (first | ((with_reducible refine gate_dst (N := 3) rfl ?_); refine box_event ?hg (N := 3) ?hd (cs := #[.slice A0_0 l0_0.length c0_0]) (t := 24) ?hr ?_; (case hd => rfl); (case hg => rfl); (case hr => first | (go_simp; done) | (go_simp; rfl)); intro gb244 hg w6 hbox hb; have BK244 := Aside0.mk (hbox); have GW244 := zB HB hg; have GE244 := zB HB hg; replace HB := sB HB hb; clear hb hbox hg) | ((with_reducible refine gate_dst (N := 5) rfl ?_); refine box_event ?hg (N := 5) ?hd (cs := #[.slice A2_0 l2_0.length c2_0]) (t := 24) ?hr ?_; (case hd => rfl); (case hg => rfl); (case hr => first | (go_simp; done) | (go_simp; rfl)); intro gb245 hg w7 hbox hb; have BK245 := Aside0.mk (hbox); have GW245 := zB HB hg; have GE245 := zB HB hg; replace HB := sB HB hb; have NB244_245 := lA BK244 hg; have NB245_244 := gA BK244 hg; replace BK244 := bA BK244 hb; clear hb hbox hg; have hnb8 := NB244_245.out; have hnc8 := NB245_244.out; have hcz9_0 : w7.cell? ⟨gb244, 0, none⟩ = some (.slice A0_0 l0_0.length c0_0) := (blk_cell BK244.out 0).trans rfl; have hfz9_0 := blk_frozen BK244.out 0) | ((with_reducible refine gate_callee (f := 5) rfl ?_); refine goesL_ (some 21) rfl rfl Try.func5 (by kernel_rfl) rfl #[.agg #[.slice A0_0 l0_0.length c0_0], .int .i64 1048576] rfl (by (try simp only [List.map_toArray, List.map_cons, List.map_nil]); first | done | rfl) ?_; (with_reducible refine (laws_szPicture.calls _ _ l0_0 1048576 t246 _ ?side1 ?side2 A4.out).mono ?_); (case side1 => exact cT (Kd.C_below HR0_0.out HB.out)); (case side2 => exact HC0_0.out); rintro e w10 ⟨rfl, hb⟩; refine ⟨_, rfl, ?_⟩; replace BK244 := bA BK244 hb; replace BK245 := bA BK245 hb; replace HB := sB HB hb; (try clear hb); (try clear hb2); (try clear hk); (try clear hi)))
   go_ret
   exact ⟨by first | rfl | (simp [errW_none, errW_some] <;> rfl) | (simp [*, errW_none, errW_some] <;> rfl), by repeat (first | (with_reducible first | exact HB.out | apply below_alloc | apply pw_below_drewN | apply below_drew1 | refine below_set ?_ GE244.out | refine below_set ?_ GE245.out) | exact HB.out)⟩
 ·rw [if_neg c5] at H
  have c5b0 : decide (t246 < 0) = false := decide_eq_false c5
  clear c5
  replace H := Option.bind_eq_some_iff.mp H
  obtain ⟨t247, A110, H⟩ := H
  replace H : (if t247 < 0 then (some true) else ((laws_toPicture.f k l0_0).bind fun t248 => ((laws_toPicture.f k l2_0).bind fun t251 => ((spec_GrowOn.f k t248 a1 t251).bind fun bt254 => ((laws_toPicture.f k l0_0).bind fun t259 => ((laws_toPicture.f k l2_0).bind fun t263 => ((impl_GrowOn.f k t259 a1 t263).bind fun bt267 => ((laws_eqPicture.f k bt267.1 bt254.1).bind fun t272 => (if t272 = true then (laws_FnExactGrowOn.j0 k a1 bt254.2 bt267.2 (bt267.2 != bt254.2) l0_0 l2_0 bt254.1 t259 t263 bt267.1) else (laws_FnExactGrowOn.j0 k a1 bt254.2 bt267.2 true l0_0 l2_0 bt254.1 t259 t263 bt267.1)))))))))) = some r := H
  have A11 := Aside0.mk A110
  clear A110
  by_cases c12 : t247 < 0
  ·rw [if_pos c12] at H
   have c12b0 : decide (t247 < 0) = true := decide_eq_true c12
   clear c12
   try exact absurd ((Option.some.inj H).trans hr_.out) (by decide)
   all_goals
    obtain rfl := Option.some.inj H
    go_enter Try.func3, Try.ntmps3
    go_wp2_with (first | ((with_reducible refine gate_dst (N := 3) rfl ?_); refine box_event ?hg (N := 3) ?hd (cs := #[.slice A0_0 l0_0.length c0_0]) (t := 24) ?hr ?_; (case hd => rfl); (case hg => rfl); (case hr => first | (go_simp; done) | (go_simp; rfl)); intro gb244 hg w13 hbox hb; have BK244 := Aside0.mk (hbox); have GW244 := zB HB hg; have GE244 := zB HB hg; replace HB := sB HB hb; clear hb hbox hg) | ((with_reducible refine gate_dst (N := 5) rfl ?_); refine box_event ?hg (N := 5) ?hd (cs := #[.slice A2_0 l2_0.length c2_0]) (t := 24) ?hr ?_; (case hd => rfl); (case hg => rfl); (case hr => first | (go_simp; done) | (go_simp; rfl)); intro gb245 hg w14 hbox hb; have BK245 := Aside0.mk (hbox); have GW245 := zB HB hg; have GE245 := zB HB hg; replace HB := sB HB hb; have NB244_245 := lA BK244 hg; have NB245_244 := gA BK244 hg; replace BK244 := bA BK244 hb; clear hb hbox hg; have hnb15 := NB244_245.out; have hnc15 := NB245_244.out; have hcz16_0 : w14.cell? ⟨gb244, 0, none⟩ = some (.slice A0_0 l0_0.length c0_0) := (blk_cell BK244.out 0).trans rfl; have hfz16_0 := blk_frozen BK244.out 0) | ((with_reducible refine gate_callee (f := 5) rfl ?_); refine goesL_ (some 21) rfl rfl Try.func5 (by kernel_rfl) rfl #[.agg #[.slice A0_0 l0_0.length c0_0], .int .i64 1048576] rfl (by (try simp only [List.map_toArray, List.map_cons, List.map_nil]); first | done | rfl) ?_; (with_reducible refine (laws_szPicture.calls _ _ l0_0 1048576 t246 _ ?side1 ?side2 A4.out).mono ?_); (case side1 => exact cT (Kd.C_below HR0_0.out HB.out)); (case side2 => exact HC0_0.out); rintro e w17 ⟨rfl, hb⟩; refine ⟨_, rfl, ?_⟩; replace BK244 := bA BK244 hb; replace BK245 := bA BK245 hb; replace HB := sB HB hb; (try clear hb); (try clear hb2); (try clear hk); (try clear hi); have hcz18_0 : w17.cell? ⟨gb245, 0, none⟩ = some (.slice A2_0 l2_0.length c2_0) := (blk_cell BK245.out 0).trans rfl; have hfz18_0 := blk_frozen BK245.out 0) | ((with_reducible refine gate_callee (f := 5) rfl ?_); refine goesL_ (some 26) rfl rfl Try.func5 (by kernel_rfl) rfl #[.agg #[.slice A2_0 l2_0.length c2_0], .int .i64 t246] rfl (by (try simp only [List.map_toArray, List.map_cons, List.map_nil]); first | done | rfl) ?_; (with_reducible refine (laws_szPicture.calls _ _ l2_0 t246 t247 _ ?side1 ?side2 A11.out).mono ?_); (case side1 => exact cT (Kd.C_below HR2_0.out HB.out)); (case side2 => exact HC2_0.out); rintro e w19 ⟨rfl, hb⟩; refine ⟨_, rfl, ?_⟩; replace BK244 := bA BK244 hb; replace BK245 := bA BK245 hb; replace HB := sB HB hb; (try clear hb); (try clear hb2); (try clear hk); (try clear hi)))
    go_ret
    exact ⟨by first | rfl | (simp [errW_none, errW_some] <;> rfl) | (simp [*, errW_none, errW_some] <;> rfl), by repeat (first | (with_reducible first | exact HB.out | apply below_alloc | apply pw_below_drewN | apply below_drew1 | refine below_set ?_ GE244.out | refine below_set ?_ GE245.out) | exact HB.out)⟩
  ·rw [if_neg c12] at H
   have c12b0 : decide (t247 < 0) = false := decide_eq_false c12
   clear c12
   replace H := Option.bind_eq_some_iff.mp H
   obtain ⟨t248, A200, H⟩ := H
   replace H : ((laws_toPicture.f k l2_0).bind fun t251 => ((spec_GrowOn.f k t248 a1 t251).bind fun bt254 => ((laws_toPicture.f k l0_0).bind fun t259 => ((laws_toPicture.f k l2_0).bind fun t263 => ((impl_GrowOn.f k t259 a1 t263).bind fun bt267 => ((laws_eqPicture.f k bt267.1 bt254.1).bind fun t272 => (if t272 = true then (laws_FnExactGrowOn.j0 k a1 bt254.2 bt267.2 (bt267.2 != bt254.2) l0_0 l2_0 bt254.1 t259 t263 bt267.1) else (laws_FnExactGrowOn.j0 k a1 bt254.2 bt267.2 true l0_0 l2_0 bt254.1 t259 t263 bt267.1)))))))) = some r := H
   have A20 := Aside0.mk A200
   clear A200
   replace H := Option.bind_eq_some_iff.mp H
   obtain ⟨t251, A210, H⟩ := H
   replace H : ((spec_GrowOn.f k t248 a1 t251).bind fun bt254 => ((laws_toPicture.f k l0_0).bind fun t259 => ((laws_toPicture.f k l2_0).bind fun t263 => ((impl_GrowOn.f k t259 a1 t263).bind fun bt267 => ((laws_eqPicture.f k bt267.1 bt254.1).bind fun t272 => (if t272 = true then (laws_FnExactGrowOn.j0 k a1 bt254.2 bt267.2 (bt267.2 != bt254.2) l0_0 l2_0 bt254.1 t259 t263 bt267.1) else (laws_FnExactGrowOn.j0 k a1 bt254.2 bt267.2 true l0_0 l2_0 bt254.1 t259 t263 bt267.1))))))) = some r := H
   have A21 := Aside0.mk A210
   clear A210
   replace H := Option.bind_eq_some_iff.mp H
   obtain ⟨⟨t254, t257⟩, A220, H⟩ := H
   replace H : ((laws_toPicture.f k l0_0).bind fun t259 => ((laws_toPicture.f k l2_0).bind fun t263 => ((impl_GrowOn.f k t259 a1 t263).bind fun bt267 => ((laws_eqPicture.f k bt267.1 t254).bind fun t272 => (if t272 = true then (laws_FnExactGrowOn.j0 k a1 t257 bt267.2 (bt267.2 != t257) l0_0 l2_0 t254 t259 t263 bt267.1) else (laws_FnExactGrowOn.j0 k a1 t257 bt267.2 true l0_0 l2_0 t254 t259 t263 bt267.1)))))) = some r := H
   have A22 := Aside0.mk A220
   clear A220
   replace H := Option.bind_eq_some_iff.mp H
   obtain ⟨t259, A230, H⟩ := H
   replace H : ((laws_toPicture.f k l2_0).bind fun t263 => ((impl_GrowOn.f k t259 a1 t263).bind fun bt267 => ((laws_eqPicture.f k bt267.1 t254).bind fun t272 => (if t272 = true then (laws_FnExactGrowOn.j0 k a1 t257 bt267.2 (bt267.2 != t257) l0_0 l2_0 t254 t259 t263 bt267.1) else (laws_FnExactGrowOn.j0 k a1 t257 bt267.2 true l0_0 l2_0 t254 t259 t263 bt267.1))))) = some r := H
   have A23 := Aside0.mk A230
   clear A230
   replace H := Option.bind_eq_some_iff.mp H
   obtain ⟨t263, A240, H⟩ := H
   replace H : ((impl_GrowOn.f k t259 a1 t263).bind fun bt267 => ((laws_eqPicture.f k bt267.1 t254).bind fun t272 => (if t272 = true then (laws_FnExactGrowOn.j0 k a1 t257 bt267.2 (bt267.2 != t257) l0_0 l2_0 t254 t259 t263 bt267.1) else (laws_FnExactGrowOn.j0 k a1 t257 bt267.2 true l0_0 l2_0 t254 t259 t263 bt267.1)))) = some r := H
   have A24 := Aside0.mk A240
   clear A240
   replace H := Option.bind_eq_some_iff.mp H
   obtain ⟨⟨t267, t270⟩, A250, H⟩ := H
   replace H : ((laws_eqPicture.f k t267 t254).bind fun t272 => (if t272 = true then (laws_FnExactGrowOn.j0 k a1 t257 t270 (t270 != t257) l0_0 l2_0 t254 t259 t263 t267) else (laws_FnExactGrowOn.j0 k a1 t257 t270 true l0_0 l2_0 t254 t259 t263 t267))) = some r := H
   have A25 := Aside0.mk A250
   clear A250
   have HC26 := Aside0.mk H
   clear H
   go_enter Try.func3, Try.ntmps3
   try go_wp2_with (first | ((with_reducible refine gate_dst (N := 3) rfl ?_); refine box_event ?hg (N := 3) ?hd (cs := #[.slice A0_0 l0_0.length c0_0]) (t := 24) ?hr ?_; (case hd => rfl); (case hg => rfl); (case hr => first | (go_simp; done) | (go_simp; rfl)); intro gb244 hg w27 hbox hb; have BK244 := Aside0.mk (hbox); have GW244 := zB HB hg; have GE244 := zB HB hg; replace HB := sB HB hb; clear hb hbox hg) | ((with_reducible refine gate_dst (N := 5) rfl ?_); refine box_event ?hg (N := 5) ?hd (cs := #[.slice A2_0 l2_0.length c2_0]) (t := 24) ?hr ?_; (case hd => rfl); (case hg => rfl); (case hr => first | (go_simp; done) | (go_simp; rfl)); intro gb245 hg w28 hbox hb; have BK245 := Aside0.mk (hbox); have GW245 := zB HB hg; have GE245 := zB HB hg; replace HB := sB HB hb; have NB244_245 := lA BK244 hg; have NB245_244 := gA BK244 hg; replace BK244 := bA BK244 hb; clear hb hbox hg; have hnb29 := NB244_245.out; have hnc29 := NB245_244.out; have hcz30_0 : w28.cell? ⟨gb244, 0, none⟩ = some (.slice A0_0 l0_0.length c0_0) := (blk_cell BK244.out 0).trans rfl; have hfz30_0 := blk_frozen BK244.out 0) | ((with_reducible refine gate_callee (f := 5) rfl ?_); refine goesL_ (some 21) rfl rfl Try.func5 (by kernel_rfl) rfl #[.agg #[.slice A0_0 l0_0.length c0_0], .int .i64 1048576] rfl (by (try simp only [List.map_toArray, List.map_cons, List.map_nil]); first | done | rfl) ?_; (with_reducible refine (laws_szPicture.calls _ _ l0_0 1048576 t246 _ ?side1 ?side2 A4.out).mono ?_); (case side1 => exact cT (Kd.C_below HR0_0.out HB.out)); (case side2 => exact HC0_0.out); rintro e w31 ⟨rfl, hb⟩; refine ⟨_, rfl, ?_⟩; replace BK244 := bA BK244 hb; replace BK245 := bA BK245 hb; replace HB := sB HB hb; (try clear hb); (try clear hb2); (try clear hk); (try clear hi); have hcz32_0 : w31.cell? ⟨gb245, 0, none⟩ = some (.slice A2_0 l2_0.length c2_0) := (blk_cell BK245.out 0).trans rfl; have hfz32_0 := blk_frozen BK245.out 0) | ((with_reducible refine gate_callee (f := 5) rfl ?_); refine goesL_ (some 26) rfl rfl Try.func5 (by kernel_rfl) rfl #[.agg #[.slice A2_0 l2_0.length c2_0], .int .i64 t246] rfl (by (try simp only [List.map_toArray, List.map_cons, List.map_nil]); first | done | rfl) ?_; (with_reducible refine (laws_szPicture.calls _ _ l2_0 t246 t247 _ ?side1 ?side2 A11.out).mono ?_); (case side1 => exact cT (Kd.C_below HR2_0.out HB.out)); (case side2 => exact HC2_0.out); rintro e w33 ⟨rfl, hb⟩; refine ⟨_, rfl, ?_⟩; replace BK244 := bA BK244 hb; replace BK245 := bA BK245 hb; replace HB := sB HB hb; (try clear hb); (try clear hb2); (try clear hk); (try clear hi)))
   replace BK244 := Aside0.mk (blk_drew BK244.out)
   replace BK245 := Aside0.mk (blk_drew BK245.out)
   replace HB := Aside0.mk (below_drew1 HB.out)
   refine start_ (n := 12) (S := fun w' => w'.cell? ⟨gb244, 0, none⟩ = some (.slice A0_0 l0_0.length c0_0) ∧ w'.cell? ⟨gb245, 0, none⟩ = some (.slice A2_0 l2_0.length c2_0)) (ds := []) #[false, false, false, false, false, false, false, false, false, false, false, false] (by kernel_rfl) rfl rfl ⟨(blk_cell BK244.out 0).trans rfl, (blk_cell BK245.out 0).trans rfl⟩ (fun hHeld => ?_); refine with_tabW laws_FnExactGrowOn.tab8 laws_FnExactGrowOn.bits8 (fun HT_ HW_ => ?_)
   generalize w33.drew = w34 at BK244 BK245 HB hHeld ⊢
   refine pure_ (i := 2) (N := some 32) (v := ?_) (a' := ?_) #[false, false, true, false, false, false, false, false, false, false, false, false] rfl rfl (any_of HT_.out (by kernel_rfl)) (fun _ _ _ h => h) (Or.inl ⟨by rfl, ?_⟩) ?_ ?_
   rotate_left
   ·intro w'
    go_simp
    with_reducible rfl
   rotate_left
   ·simp only [Act.put, List.setIfInBounds_toArray, List.set_cons_zero, List.set_cons_succ, i64_w, i32_w]
    rfl
   refine take_ (i := 0) (N := some 30) (v := ?_) (a' := ?_) #[true, false, true, false, false, false, false, false, false, false, false, false] rfl rfl (take_ofW HT_.out HW_.out (by kernel_rfl)) (fun _ _ _ h => h) (Or.inl ⟨by rfl, ?_⟩) hHeld ?_ ?_
   rotate_left
   ·rintro w' ⟨s0, s1⟩
    go_simp
    with_reducible rfl
   rotate_left
   ·simp only [Act.put, List.setIfInBounds_toArray, List.set_cons_zero, List.set_cons_succ, i64_w, i32_w]
    rfl
   refine take_ (i := 3) (N := some 33) (v := ?_) (a' := ?_) #[true, false, true, true, false, false, false, false, false, false, false, false] rfl rfl (take_ofW HT_.out HW_.out (by kernel_rfl)) (fun _ _ _ h => h) (Or.inl ⟨by rfl, ?_⟩) hHeld ?_ ?_
   rotate_left
   ·rintro w' ⟨s0, s1⟩
    go_simp
    with_reducible rfl
   rotate_left
   ·simp only [Act.put, List.setIfInBounds_toArray, List.set_cons_zero, List.set_cons_succ, i64_w, i32_w]
    rfl
   refine join_ (σ := Value × Value × Value × Nat) 2 #[true, true, true, true, true, true, true, true, true, true, false, false] (fun s_ => [(31, .agg #[s_.1]), (34, .agg #[s_.2.1]), (35, .tuple #[.agg #[s_.2.2.1], .bool t257]), (8, .pointer (some ⟨s_.2.2.2, 0, none⟩)), (29, .tuple #[.agg #[s_.2.2.1], .bool t257]), (36, .agg #[s_.2.2.1]), (37, .bool t257)]) (fun s_ w' => (w'.cell? ⟨gb244, 0, none⟩ = some (.slice A0_0 l0_0.length c0_0) ∧ w'.cell? ⟨gb245, 0, none⟩ = some (.slice A2_0 l2_0.length c2_0)) ∧ (Kd.R k47 47 w' w.heap.size (fun k_ => some k_ ≠ (s_.2.1 : Value).ownBlock ∧ some k_ ≠ (s_.2.2.1 : Value).ownBlock) s_.1 t248) ∧ (Kd.R k47 47 w' w.heap.size (fun k_ => some k_ ≠ (s_.1 : Value).ownBlock ∧ some k_ ≠ (s_.2.2.1 : Value).ownBlock) s_.2.1 t251) ∧ (Kd.R k47 47 w' w.heap.size (fun k_ => some k_ ≠ (s_.1 : Value).ownBlock ∧ some k_ ≠ (s_.2.1 : Value).ownBlock) s_.2.2.1 t254) ∧ (w'.heap[gb244]? = some (.cells #[.slice A0_0 l0_0.length c0_0] 24 (0, 0))) ∧ (w'.heap[gb245]? = some (.cells #[.slice A2_0 l2_0.length c2_0] 24 (0, 0))) ∧ (w'.heap[s_.2.2.2]? = some (.cells #[.slice none 0 0] 28 (0, 0))) ∧ (w.heap.size ≤ s_.2.2.2) ∧ (w.heap.size ≤ s_.2.2.2) ∧ (gb244 ≠ s_.2.2.2) ∧ (s_.2.2.2 ≠ gb244) ∧ (gb245 ≠ s_.2.2.2) ∧ (s_.2.2.2 ≠ gb245) ∧ (Below w.heap.size w w')) ?_ ?_
   rotate_left
   ·intro hCont
    refine two_ (i := 1) (j := 9) (Ni := some 31) (Nj := some 8) #[true, true, true, true, false, false, false, false, false, false, false, false] #[true, false, true, true, false, false, false, false, false, true, false, false] rfl rfl rfl rfl (two_of HT_.out (by kernel_rfl)) (by decide) (by decide) (fun K hK => ?_) (fun K hK => ?_)
    ·skip
     refine goes_ Try.func7 (by kernel_rfl) rfl #[.agg #[.slice A0_0 l0_0.length c0_0]] (by rfl) rfl rfl (by (try simp only [List.map_toArray, List.map_cons, List.map_nil]); first | done | rfl) ?_
     with_reducible refine (laws_toPicture.calls k _ _ l0_0 t248 _ ?side1 ?side2 A20.out).mono ?_
     (case side1 => exact cT (Kd.C_below HR0_0.out HB.out))
     (case side2 => exact HC0_0.out)
     rintro e w35 ⟨v249, rfl, ho0, hb⟩
     refine ⟨_, rfl, ?_⟩
     have HO250 := Aside0.mk (Kd.R_lower ho0 (below_size (sT HB)))
     replace BK244 := bA BK244 hb
     replace BK245 := bA BK245 hb
     replace HB := sB HB hb
     (try clear hb)
     (try clear hb2)
     (try clear hk)
     (try clear hi)
     (try clear ho0)
     refine hK.out _ _ ⟨(blk_cell BK244.out 0).trans rfl, (blk_cell BK245.out 0).trans rfl⟩ (fun hHeld => ?_)
     clear hK K
     refine norm_ (a' := ?_) ?_ ?_
     rotate_left
     ·show Act.put _ (some 31) _ = _
      simp only [Act.put, List.setIfInBounds_toArray, List.set_cons_zero, List.set_cons_succ, i64_w, i32_w]
      rfl
     refine two_ (i := 4) (j := 9) (Ni := some 34) (Nj := some 8) #[true, true, true, true, true, false, false, false, false, false, false, false] #[true, true, true, true, false, false, false, false, false, true, false, false] rfl rfl rfl rfl (two_of HT_.out (by kernel_rfl)) (by decide) (by decide) (fun K hK => ?_) (fun K hK => ?_)
     ·skip
      refine goes_ Try.func7 (by kernel_rfl) rfl #[.agg #[.slice A2_0 l2_0.length c2_0]] (by rfl) rfl rfl (by (try simp only [List.map_toArray, List.map_cons, List.map_nil]); first | done | rfl) ?_
      with_reducible refine (laws_toPicture.calls k _ _ l2_0 t251 _ ?side1 ?side2 A21.out).mono ?_
      (case side1 => exact cT (Kd.C_below HR2_0.out HB.out))
      (case side2 => exact HC2_0.out)
      rintro e w36 ⟨v252, rfl, ho0, hb⟩
      refine ⟨_, rfl, ?_⟩
      have HO253 := Aside0.mk (Kd.R_lower (Kd.R_new' ho0 (Kd.R_lt (rT HO250))) (below_size (sT HB)))
      replace HO250 := Aside0.mk (Kd.R_elder' (rT HO250) (Kd.R_base ho0) hb)
      replace BK244 := bA BK244 hb
      replace BK245 := bA BK245 hb
      replace HB := sB HB hb
      (try clear hb)
      (try clear hb2)
      (try clear hk)
      (try clear hi)
      (try clear ho0)
      obtain ⟨Ao37, co37, eo37⟩ := Kd.R_slice HO250.out
      (first | subst eo37 | (injection eo37 with f1_ f2_ f3_; have f4_ := f1_.symm; have f5_ := f3_.symm; clear f1_ f2_ f3_; subst f4_; subst f5_))
      obtain ⟨Ao38, co38, eo38⟩ := Kd.R_slice HO253.out
      (first | subst eo38 | (injection eo38 with f1_ f2_ f3_; have f4_ := f1_.symm; have f5_ := f3_.symm; clear f1_ f2_ f3_; subst f4_; subst f5_))
      refine hK.out _ _ ⟨(blk_cell BK244.out 0).trans rfl, (blk_cell BK245.out 0).trans rfl⟩ (fun hHeld => ?_)
      clear hK K
      refine norm_ (a' := ?_) ?_ ?_
      rotate_left
      ·show Act.put _ (some 34) _ = _
       simp only [Act.put, List.setIfInBounds_toArray, List.set_cons_zero, List.set_cons_succ, i64_w, i32_w]
       rfl
      refine two_ (i := 5) (j := 9) (Ni := some 35) (Nj := some 8) #[true, true, true, true, true, true, false, false, false, false, false, false] #[true, true, true, true, true, false, false, false, false, true, false, false] rfl rfl rfl rfl (two_of HT_.out (by kernel_rfl)) (by decide) (by decide) (fun K hK => ?_) (fun K hK => ?_)
      ·skip
       refine goes_ Try.func6 (by kernel_rfl) rfl #[.agg #[.slice Ao37 t248.length co37], .int .i64 a1, .agg #[.slice Ao38 t251.length co38]] (by rfl) rfl rfl (by (try simp only [List.map_toArray, List.map_cons, List.map_nil]); first | done | rfl) ?_
       with_reducible refine (spec_GrowOn.calls k _ _ t248 a1 _ _ t251 t254 t257 _ ?side1 ?side2 ?side3 ?side4 A22.out).mono ?_
       (case side1 => exact cT (Kd.R_reads' HO250.out).2.2)
       (case side2 => exact (Kd.R_reads' HO250.out).2.1)
       (case side3 => exact cT (Kd.R_reads' HO253.out).2.2)
       (case side4 => exact (Kd.R_reads' HO253.out).2.1)
       rintro e w39 ⟨v255, rfl, ho0, hb⟩
       refine ⟨_, rfl, ?_⟩
       have HO256 := Aside0.mk (Kd.R_lower (Kd.R_new' (Kd.R_new' ho0 (Kd.R_lt (rT HO250))) (Kd.R_lt (rT HO253))) (below_size (sT HB)))
       replace HO250 := Aside0.mk (Kd.R_elder' (rT HO250) (Kd.R_base ho0) hb)
       replace HO253 := Aside0.mk (Kd.R_elder' (rT HO253) (Kd.R_base ho0) hb)
       replace BK244 := bA BK244 hb
       replace BK245 := bA BK245 hb
       replace HB := sB HB hb
       (try clear hb)
       (try clear hb2)
       (try clear hk)
       (try clear hi)
       (try clear ho0)
       refine hK.out _ _ ⟨(blk_cell BK244.out 0).trans rfl, (blk_cell BK245.out 0).trans rfl⟩ (fun hHeld => ?_)
       clear hK K
       refine norm_ (a' := ?_) ?_ ?_
       rotate_left
       ·show Act.put _ (some 35) _ = _
        simp only [Act.put, List.setIfInBounds_toArray, List.set_cons_zero, List.set_cons_succ, i64_w, i32_w]
        rfl
       refine pure_ (i := 6) (N := some 29) (v := ?_) (a' := ?_) #[true, true, true, true, true, true, true, false, false, false, false, false] rfl rfl (any_of HT_.out (by kernel_rfl)) (fun _ _ _ h => h) (Or.inl ⟨by rfl, ?_⟩) ?_ ?_
       rotate_left
       ·intro w'
        go_simp
        with_reducible rfl
       rotate_left
       ·simp only [Act.put, List.setIfInBounds_toArray, List.set_cons_zero, List.set_cons_succ, i64_w, i32_w]
        rfl
       refine pure_ (i := 7) (N := some 36) (v := ?_) (a' := ?_) #[true, true, true, true, true, true, true, true, false, false, false, false] rfl rfl (any_of HT_.out (by kernel_rfl)) (fun _ _ _ h => h) (Or.inl ⟨by rfl, ?_⟩) ?_ ?_
       rotate_left
       ·intro w'
        go_simp
        with_reducible rfl
       rotate_left
       ·simp only [Act.put, List.setIfInBounds_toArray, List.set_cons_zero, List.set_cons_succ, i64_w, i32_w]
        rfl
       refine pure_ (i := 8) (N := some 37) (v := ?_) (a' := ?_) #[true, true, true, true, true, true, true, true, true, false, false, false] rfl rfl (any_of HT_.out (by kernel_rfl)) (fun _ _ _ h => h) (Or.inl ⟨by rfl, ?_⟩) ?_ ?_
       rotate_left
       ·intro w'
        go_simp
        with_reducible rfl
       rotate_left
       ·simp only [Act.put, List.setIfInBounds_toArray, List.set_cons_zero, List.set_cons_succ, i64_w, i32_w]
        rfl
       refine one_ (i := 9) (N := some 8) #[true, true, true, true, true, true, true, true, true, true, false, false] rfl rfl (one_of HT_.out (by kernel_rfl)) (by decide) (fun K hK => ?_)
       refine box_step ?hg (N := 8) ?hd (cs := #[.slice none 0 0]) (t := 28) ?hr ?_; (case hd => rfl); (case hg => rfl); (case hr => first | (go_simp; done) | (go_simp; rfl))
       intro gb258 hg w40 hbox hb
       replace HO250 := rA HO250 hb
       replace HO253 := rA HO253 hb
       replace HO256 := rA HO256 hb
       have BK258 := Aside0.mk (hbox)
       have GW258 := zB HB hg
       have GE258 := zB HB hg
       replace HB := sB HB hb
       have NB244_258 := lA BK244 hg
       have NB258_244 := gA BK244 hg
       replace BK244 := bA BK244 hb
       have NB245_258 := lA BK245 hg
       have NB258_245 := gA BK245 hg
       replace BK245 := bA BK245 hb
       clear hb hbox hg
       refine hK.out _ _ ⟨(blk_cell BK244.out 0).trans rfl, (blk_cell BK245.out 0).trans rfl⟩ (fun hHeld => ?_)
       clear hK K
       refine norm_ (a' := ?_) ?_ ?_
       rotate_left
       ·show Act.put _ (some 8) _ = _
        simp only [Act.put, List.setIfInBounds_toArray, List.set_cons_zero, List.set_cons_succ, i64_w, i32_w]
        rfl
       exact norm_ (by simp only [putAll, Act.put, List.setIfInBounds_toArray, List.set_cons_zero, List.set_cons_succ]) (hCont (.slice Ao37 t248.length co37, .slice Ao38 t251.length co38, v255, gb258) _ ⟨hHeld, (by (with_reducible repeat (first | apply Kd.R_alloc | apply Kd.R_drewN | apply Kd.R_drew)); exact Kd.R_mono HO250.out (fun _ hk => ⟨hk.1.2, hk.2⟩)), (by (with_reducible repeat (first | apply Kd.R_alloc | apply Kd.R_drewN | apply Kd.R_drew)); exact Kd.R_mono HO253.out (fun _ hk => ⟨hk.1.2, hk.2⟩)), (by (with_reducible repeat (first | apply Kd.R_alloc | apply Kd.R_drewN | apply Kd.R_drew)); exact Kd.R_mono HO256.out (fun _ hk => ⟨hk.1.2, hk.2⟩)), (by first | exact BK244.out | exact blk_alloc BK244.out _), (by first | exact BK245.out | exact blk_alloc BK245.out _), (by first | exact BK258.out | exact blk_alloc BK258.out _), GW258.out, GE258.out, NB244_258.out, NB258_244.out, NB245_258.out, NB258_245.out, (sT HB)⟩)
      ·skip
       refine box_step ?hg (N := 8) ?hd (cs := #[.slice none 0 0]) (t := 28) ?hr ?_; (case hd => rfl); (case hg => rfl); (case hr => first | (go_simp; done) | (go_simp; rfl))
       intro gb258 hg w37 hbox hb
       replace HO250 := rA HO250 hb
       replace HO253 := rA HO253 hb
       have BK258 := Aside0.mk (hbox)
       have GW258 := zB HB hg
       have GE258 := zB HB hg
       replace HB := sB HB hb
       have NB244_258 := lA BK244 hg
       have NB258_244 := gA BK244 hg
       replace BK244 := bA BK244 hb
       have NB245_258 := lA BK245 hg
       have NB258_245 := gA BK245 hg
       replace BK245 := bA BK245 hb
       clear hb hbox hg
       obtain ⟨Ao38, co38, eo38⟩ := Kd.R_slice HO250.out
       (first | subst eo38 | (injection eo38 with f1_ f2_ f3_; have f4_ := f1_.symm; have f5_ := f3_.symm; clear f1_ f2_ f3_; subst f4_; subst f5_))
       obtain ⟨Ao39, co39, eo39⟩ := Kd.R_slice HO253.out
       (first | subst eo39 | (injection eo39 with f1_ f2_ f3_; have f4_ := f1_.symm; have f5_ := f3_.symm; clear f1_ f2_ f3_; subst f4_; subst f5_))
       refine hK.out _ _ ⟨(blk_cell BK244.out 0).trans rfl, (blk_cell BK245.out 0).trans rfl⟩ (fun hHeld => ?_)
       clear hK K
       refine norm_ (a' := ?_) ?_ ?_
       rotate_left
       ·show Act.put _ (some 8) _ = _
        simp only [Act.put, List.setIfInBounds_toArray, List.set_cons_zero, List.set_cons_succ, i64_w, i32_w]
        rfl
       refine one_ (i := 5) (N := some 35) #[true, true, true, true, true, true, false, false, false, true, false, false] rfl rfl (one_of HT_.out (by kernel_rfl)) (by decide) (fun K hK => ?_)
       refine goes_ Try.func6 (by kernel_rfl) rfl #[.agg #[.slice Ao38 t248.length co38], .int .i64 a1, .agg #[.slice Ao39 t251.length co39]] (by rfl) rfl rfl (by (try simp only [List.map_toArray, List.map_cons, List.map_nil]); first | done | rfl) ?_
       with_reducible refine (spec_GrowOn.calls k _ _ t248 a1 _ _ t251 t254 t257 _ ?side1 ?side2 ?side3 ?side4 A22.out).mono ?_
       (case side1 => exact cT (Kd.R_reads' HO250.out).2.2)
       (case side2 => exact (Kd.R_reads' HO250.out).2.1)
       (case side3 => exact cT (Kd.R_reads' HO253.out).2.2)
       (case side4 => exact (Kd.R_reads' HO253.out).2.1)
       rintro e w40 ⟨v255, rfl, ho0, hb⟩
       refine ⟨_, rfl, ?_⟩
       have HO256 := Aside0.mk (Kd.R_lower (Kd.R_new' (Kd.R_new' ho0 (Kd.R_lt (rT HO250))) (Kd.R_lt (rT HO253))) (below_size (sT HB)))
       replace HO250 := Aside0.mk (Kd.R_elder' (rT HO250) (Kd.R_base ho0) hb)
       replace HO253 := Aside0.mk (Kd.R_elder' (rT HO253) (Kd.R_base ho0) hb)
       replace BK244 := bA BK244 hb
       replace BK245 := bA BK245 hb
       replace BK258 := bA BK258 hb
       replace HB := sB HB hb
       (try clear hb)
       (try clear hb2)
       (try clear hk)
       (try clear hi)
       (try clear ho0)
       refine hK.out _ _ ⟨(blk_cell BK244.out 0).trans rfl, (blk_cell BK245.out 0).trans rfl⟩ (fun hHeld => ?_)
       clear hK K
       refine norm_ (a' := ?_) ?_ ?_
       rotate_left
       ·show Act.put _ (some 35) _ = _
        simp only [Act.put, List.setIfInBounds_toArray, List.set_cons_zero, List.set_cons_succ, i64_w, i32_w]
        rfl
       refine pure_ (i := 6) (N := some 29) (v := ?_) (a' := ?_) #[true, true, true, true, true, true, true, false, false, true, false, false] rfl rfl (any_of HT_.out (by kernel_rfl)) (fun _ _ _ h => h) (Or.inl ⟨by rfl, ?_⟩) ?_ ?_
       rotate_left
       ·intro w'
        go_simp
        with_reducible rfl
       rotate_left
       ·simp only [Act.put, List.setIfInBounds_toArray, List.set_cons_zero, List.set_cons_succ, i64_w, i32_w]
        rfl
       refine pure_ (i := 7) (N := some 36) (v := ?_) (a' := ?_) #[true, true, true, true, true, true, true, true, false, true, false, false] rfl rfl (any_of HT_.out (by kernel_rfl)) (fun _ _ _ h => h) (Or.inl ⟨by rfl, ?_⟩) ?_ ?_
       rotate_left
       ·intro w'
        go_simp
        with_reducible rfl
       rotate_left
       ·simp only [Act.put, List.setIfInBounds_toArray, List.set_cons_zero, List.set_cons_succ, i64_w, i32_w]
        rfl
       refine pure_ (i := 8) (N := some 37) (v := ?_) (a' := ?_) #[true, true, true, true, true, true, true, true, true, true, false, false] rfl rfl (any_of HT_.out (by kernel_rfl)) (fun _ _ _ h => h) (Or.inl ⟨by rfl, ?_⟩) ?_ ?_
       rotate_left
       ·intro w'
        go_simp
        with_reducible rfl
       rotate_left
       ·simp only [Act.put, List.setIfInBounds_toArray, List.set_cons_zero, List.set_cons_succ, i64_w, i32_w]
        rfl
       exact norm_ (by simp only [putAll, Act.put, List.setIfInBounds_toArray, List.set_cons_zero, List.set_cons_succ]) (hCont (.slice Ao38 t248.length co38, .slice Ao39 t251.length co39, v255, gb258) _ ⟨hHeld, (by (with_reducible repeat (first | apply Kd.R_alloc | apply Kd.R_drewN | apply Kd.R_drew)); exact Kd.R_mono HO250.out (fun _ hk => ⟨hk.1.2, hk.2⟩)), (by (with_reducible repeat (first | apply Kd.R_alloc | apply Kd.R_drewN | apply Kd.R_drew)); exact Kd.R_mono HO253.out (fun _ hk => ⟨hk.1.2, hk.2⟩)), (by (with_reducible repeat (first | apply Kd.R_alloc | apply Kd.R_drewN | apply Kd.R_drew)); exact Kd.R_mono HO256.out (fun _ hk => ⟨hk.1.2, hk.2⟩)), (by first | exact BK244.out | exact blk_alloc BK244.out _), (by first | exact BK245.out | exact blk_alloc BK245.out _), (by first | exact BK258.out | exact blk_alloc BK258.out _), GW258.out, GE258.out, NB244_258.out, NB258_244.out, NB245_258.out, NB258_245.out, (sT HB)⟩)
     ·skip
      refine box_step ?hg (N := 8) ?hd (cs := #[.slice none 0 0]) (t := 28) ?hr ?_; (case hd => rfl); (case hg => rfl); (case hr => first | (go_simp; done) | (go_simp; rfl))
      intro gb258 hg w36 hbox hb
      replace HO250 := rA HO250 hb
      have BK258 := Aside0.mk (hbox)
      have GW258 := zB HB hg
      have GE258 := zB HB hg
      replace HB := sB HB hb
      have NB244_258 := lA BK244 hg
      have NB258_244 := gA BK244 hg
      replace BK244 := bA BK244 hb
      have NB245_258 := lA BK245 hg
      have NB258_245 := gA BK245 hg
      replace BK245 := bA BK245 hb
      clear hb hbox hg
      refine hK.out _ _ ⟨(blk_cell BK244.out 0).trans rfl, (blk_cell BK245.out 0).trans rfl⟩ (fun hHeld => ?_)
      clear hK K
      refine norm_ (a' := ?_) ?_ ?_
      rotate_left
      ·show Act.put _ (some 8) _ = _
       simp only [Act.put, List.setIfInBounds_toArray, List.set_cons_zero, List.set_cons_succ, i64_w, i32_w]
       rfl
      refine one_ (i := 4) (N := some 34) #[true, true, true, true, true, false, false, false, false, true, false, false] rfl rfl (one_of HT_.out (by kernel_rfl)) (by decide) (fun K hK => ?_)
      refine goes_ Try.func7 (by kernel_rfl) rfl #[.agg #[.slice A2_0 l2_0.length c2_0]] (by rfl) rfl rfl (by (try simp only [List.map_toArray, List.map_cons, List.map_nil]); first | done | rfl) ?_
      with_reducible refine (laws_toPicture.calls k _ _ l2_0 t251 _ ?side1 ?side2 A21.out).mono ?_
      (case side1 => exact cT (Kd.C_below HR2_0.out HB.out))
      (case side2 => exact HC2_0.out)
      rintro e w37 ⟨v252, rfl, ho0, hb⟩
      refine ⟨_, rfl, ?_⟩
      have HO253 := Aside0.mk (Kd.R_lower (Kd.R_new' ho0 (Kd.R_lt (rT HO250))) (below_size (sT HB)))
      replace HO250 := Aside0.mk (Kd.R_elder' (rT HO250) (Kd.R_base ho0) hb)
      replace BK244 := bA BK244 hb
      replace BK245 := bA BK245 hb
      replace BK258 := bA BK258 hb
      replace HB := sB HB hb
      (try clear hb)
      (try clear hb2)
      (try clear hk)
      (try clear hi)
      (try clear ho0)
      obtain ⟨Ao38, co38, eo38⟩ := Kd.R_slice HO250.out
      (first | subst eo38 | (injection eo38 with f1_ f2_ f3_; have f4_ := f1_.symm; have f5_ := f3_.symm; clear f1_ f2_ f3_; subst f4_; subst f5_))
      obtain ⟨Ao39, co39, eo39⟩ := Kd.R_slice HO253.out
      (first | subst eo39 | (injection eo39 with f1_ f2_ f3_; have f4_ := f1_.symm; have f5_ := f3_.symm; clear f1_ f2_ f3_; subst f4_; subst f5_))
      refine hK.out _ _ ⟨(blk_cell BK244.out 0).trans rfl, (blk_cell BK245.out 0).trans rfl⟩ (fun hHeld => ?_)
      clear hK K
      refine norm_ (a' := ?_) ?_ ?_
      rotate_left
      ·show Act.put _ (some 34) _ = _
       simp only [Act.put, List.setIfInBounds_toArray, List.set_cons_zero, List.set_cons_succ, i64_w, i32_w]
       rfl
      refine one_ (i := 5) (N := some 35) #[true, true, true, true, true, true, false, false, false, true, false, false] rfl rfl (one_of HT_.out (by kernel_rfl)) (by decide) (fun K hK => ?_)
      refine goes_ Try.func6 (by kernel_rfl) rfl #[.agg #[.slice Ao38 t248.length co38], .int .i64 a1, .agg #[.slice Ao39 t251.length co39]] (by rfl) rfl rfl (by (try simp only [List.map_toArray, List.map_cons, List.map_nil]); first | done | rfl) ?_
      with_reducible refine (spec_GrowOn.calls k _ _ t248 a1 _ _ t251 t254 t257 _ ?side1 ?side2 ?side3 ?side4 A22.out).mono ?_
      (case side1 => exact cT (Kd.R_reads' HO250.out).2.2)
      (case side2 => exact (Kd.R_reads' HO250.out).2.1)
      (case side3 => exact cT (Kd.R_reads' HO253.out).2.2)
      (case side4 => exact (Kd.R_reads' HO253.out).2.1)
      rintro e w40 ⟨v255, rfl, ho0, hb⟩
      refine ⟨_, rfl, ?_⟩
      have HO256 := Aside0.mk (Kd.R_lower (Kd.R_new' (Kd.R_new' ho0 (Kd.R_lt (rT HO250))) (Kd.R_lt (rT HO253))) (below_size (sT HB)))
      replace HO250 := Aside0.mk (Kd.R_elder' (rT HO250) (Kd.R_base ho0) hb)
      replace HO253 := Aside0.mk (Kd.R_elder' (rT HO253) (Kd.R_base ho0) hb)
      replace BK244 := bA BK244 hb
      replace BK245 := bA BK245 hb
      replace BK258 := bA BK258 hb
      replace HB := sB HB hb
      (try clear hb)
      (try clear hb2)
      (try clear hk)
      (try clear hi)
      (try clear ho0)
      refine hK.out _ _ ⟨(blk_cell BK244.out 0).trans rfl, (blk_cell BK245.out 0).trans rfl⟩ (fun hHeld => ?_)
      clear hK K
      refine norm_ (a' := ?_) ?_ ?_
      rotate_left
      ·show Act.put _ (some 35) _ = _
       simp only [Act.put, List.setIfInBounds_toArray, List.set_cons_zero, List.set_cons_succ, i64_w, i32_w]
       rfl
      refine pure_ (i := 6) (N := some 29) (v := ?_) (a' := ?_) #[true, true, true, true, true, true, true, false, false, true, false, false] rfl rfl (any_of HT_.out (by kernel_rfl)) (fun _ _ _ h => h) (Or.inl ⟨by rfl, ?_⟩) ?_ ?_
      rotate_left
      ·intro w'
       go_simp
       with_reducible rfl
      rotate_left
      ·simp only [Act.put, List.setIfInBounds_toArray, List.set_cons_zero, List.set_cons_succ, i64_w, i32_w]
       rfl
      refine pure_ (i := 7) (N := some 36) (v := ?_) (a' := ?_) #[true, true, true, true, true, true, true, true, false, true, false, false] rfl rfl (any_of HT_.out (by kernel_rfl)) (fun _ _ _ h => h) (Or.inl ⟨by rfl, ?_⟩) ?_ ?_
      rotate_left
      ·intro w'
       go_simp
       with_reducible rfl
      rotate_left
      ·simp only [Act.put, List.setIfInBounds_toArray, List.set_cons_zero, List.set_cons_succ, i64_w, i32_w]
       rfl
      refine pure_ (i := 8) (N := some 37) (v := ?_) (a' := ?_) #[true, true, true, true, true, true, true, true, true, true, false, false] rfl rfl (any_of HT_.out (by kernel_rfl)) (fun _ _ _ h => h) (Or.inl ⟨by rfl, ?_⟩) ?_ ?_
      rotate_left
      ·intro w'
       go_simp
       with_reducible rfl
      rotate_left
      ·simp only [Act.put, List.setIfInBounds_toArray, List.set_cons_zero, List.set_cons_succ, i64_w, i32_w]
       rfl
      exact norm_ (by simp only [putAll, Act.put, List.setIfInBounds_toArray, List.set_cons_zero, List.set_cons_succ]) (hCont (.slice Ao38 t248.length co38, .slice Ao39 t251.length co39, v255, gb258) _ ⟨hHeld, (by (with_reducible repeat (first | apply Kd.R_alloc | apply Kd.R_drewN | apply Kd.R_drew)); exact Kd.R_mono HO250.out (fun _ hk => ⟨hk.1.2, hk.2⟩)), (by (with_reducible repeat (first | apply Kd.R_alloc | apply Kd.R_drewN | apply Kd.R_drew)); exact Kd.R_mono HO253.out (fun _ hk => ⟨hk.1.2, hk.2⟩)), (by (with_reducible repeat (first | apply Kd.R_alloc | apply Kd.R_drewN | apply Kd.R_drew)); exact Kd.R_mono HO256.out (fun _ hk => ⟨hk.1.2, hk.2⟩)), (by first | exact BK244.out | exact blk_alloc BK244.out _), (by first | exact BK245.out | exact blk_alloc BK245.out _), (by first | exact BK258.out | exact blk_alloc BK258.out _), GW258.out, GE258.out, NB244_258.out, NB258_244.out, NB245_258.out, NB258_245.out, (sT HB)⟩)
    ·skip
     refine box_step ?hg (N := 8) ?hd (cs := #[.slice none 0 0]) (t := 28) ?hr ?_; (case hd => rfl); (case hg => rfl); (case hr => first | (go_simp; done) | (go_simp; rfl))
     intro gb258 hg w35 hbox hb
     have BK258 := Aside0.mk (hbox)
     have GW258 := zB HB hg
     have GE258 := zB HB hg
     replace HB := sB HB hb
     have NB244_258 := lA BK244 hg
     have NB258_244 := gA BK244 hg
     replace BK244 := bA BK244 hb
     have NB245_258 := lA BK245 hg
     have NB258_245 := gA BK245 hg
     replace BK245 := bA BK245 hb
     clear hb hbox hg
     refine hK.out _ _ ⟨(blk_cell BK244.out 0).trans rfl, (blk_cell BK245.out 0).trans rfl⟩ (fun hHeld => ?_)
     clear hK K
     refine norm_ (a' := ?_) ?_ ?_
     rotate_left
     ·show Act.put _ (some 8) _ = _
      simp only [Act.put, List.setIfInBounds_toArray, List.set_cons_zero, List.set_cons_succ, i64_w, i32_w]
      rfl
     refine one_ (i := 1) (N := some 31) #[true, true, true, true, false, false, false, false, false, true, false, false] rfl rfl (one_of HT_.out (by kernel_rfl)) (by decide) (fun K hK => ?_)
     refine goes_ Try.func7 (by kernel_rfl) rfl #[.agg #[.slice A0_0 l0_0.length c0_0]] (by rfl) rfl rfl (by (try simp only [List.map_toArray, List.map_cons, List.map_nil]); first | done | rfl) ?_
     with_reducible refine (laws_toPicture.calls k _ _ l0_0 t248 _ ?side1 ?side2 A20.out).mono ?_
     (case side1 => exact cT (Kd.C_below HR0_0.out HB.out))
     (case side2 => exact HC0_0.out)
     rintro e w36 ⟨v249, rfl, ho0, hb⟩
     refine ⟨_, rfl, ?_⟩
     have HO250 := Aside0.mk (Kd.R_lower ho0 (below_size (sT HB)))
     replace BK244 := bA BK244 hb
     replace BK245 := bA BK245 hb
     replace BK258 := bA BK258 hb
     replace HB := sB HB hb
     (try clear hb)
     (try clear hb2)
     (try clear hk)
     (try clear hi)
     (try clear ho0)
     refine hK.out _ _ ⟨(blk_cell BK244.out 0).trans rfl, (blk_cell BK245.out 0).trans rfl⟩ (fun hHeld => ?_)
     clear hK K
     refine norm_ (a' := ?_) ?_ ?_
     rotate_left
     ·show Act.put _ (some 31) _ = _
      simp only [Act.put, List.setIfInBounds_toArray, List.set_cons_zero, List.set_cons_succ, i64_w, i32_w]
      rfl
     refine one_ (i := 4) (N := some 34) #[true, true, true, true, true, false, false, false, false, true, false, false] rfl rfl (one_of HT_.out (by kernel_rfl)) (by decide) (fun K hK => ?_)
     refine goes_ Try.func7 (by kernel_rfl) rfl #[.agg #[.slice A2_0 l2_0.length c2_0]] (by rfl) rfl rfl (by (try simp only [List.map_toArray, List.map_cons, List.map_nil]); first | done | rfl) ?_
     with_reducible refine (laws_toPicture.calls k _ _ l2_0 t251 _ ?side1 ?side2 A21.out).mono ?_
     (case side1 => exact cT (Kd.C_below HR2_0.out HB.out))
     (case side2 => exact HC2_0.out)
     rintro e w37 ⟨v252, rfl, ho0, hb⟩
     refine ⟨_, rfl, ?_⟩
     have HO253 := Aside0.mk (Kd.R_lower (Kd.R_new' ho0 (Kd.R_lt (rT HO250))) (below_size (sT HB)))
     replace HO250 := Aside0.mk (Kd.R_elder' (rT HO250) (Kd.R_base ho0) hb)
     replace BK244 := bA BK244 hb
     replace BK245 := bA BK245 hb
     replace BK258 := bA BK258 hb
     replace HB := sB HB hb
     (try clear hb)
     (try clear hb2)
     (try clear hk)
     (try clear hi)
     (try clear ho0)
     obtain ⟨Ao38, co38, eo38⟩ := Kd.R_slice HO250.out
     (first | subst eo38 | (injection eo38 with f1_ f2_ f3_; have f4_ := f1_.symm; have f5_ := f3_.symm; clear f1_ f2_ f3_; subst f4_; subst f5_))
     obtain ⟨Ao39, co39, eo39⟩ := Kd.R_slice HO253.out
     (first | subst eo39 | (injection eo39 with f1_ f2_ f3_; have f4_ := f1_.symm; have f5_ := f3_.symm; clear f1_ f2_ f3_; subst f4_; subst f5_))
     refine hK.out _ _ ⟨(blk_cell BK244.out 0).trans rfl, (blk_cell BK245.out 0).trans rfl⟩ (fun hHeld => ?_)
     clear hK K
     refine norm_ (a' := ?_) ?_ ?_
     rotate_left
     ·show Act.put _ (some 34) _ = _
      simp only [Act.put, List.setIfInBounds_toArray, List.set_cons_zero, List.set_cons_succ, i64_w, i32_w]
      rfl
     refine one_ (i := 5) (N := some 35) #[true, true, true, true, true, true, false, false, false, true, false, false] rfl rfl (one_of HT_.out (by kernel_rfl)) (by decide) (fun K hK => ?_)
     refine goes_ Try.func6 (by kernel_rfl) rfl #[.agg #[.slice Ao38 t248.length co38], .int .i64 a1, .agg #[.slice Ao39 t251.length co39]] (by rfl) rfl rfl (by (try simp only [List.map_toArray, List.map_cons, List.map_nil]); first | done | rfl) ?_
     with_reducible refine (spec_GrowOn.calls k _ _ t248 a1 _ _ t251 t254 t257 _ ?side1 ?side2 ?side3 ?side4 A22.out).mono ?_
     (case side1 => exact cT (Kd.R_reads' HO250.out).2.2)
     (case side2 => exact (Kd.R_reads' HO250.out).2.1)
     (case side3 => exact cT (Kd.R_reads' HO253.out).2.2)
     (case side4 => exact (Kd.R_reads' HO253.out).2.1)
     rintro e w40 ⟨v255, rfl, ho0, hb⟩
     refine ⟨_, rfl, ?_⟩
     have HO256 := Aside0.mk (Kd.R_lower (Kd.R_new' (Kd.R_new' ho0 (Kd.R_lt (rT HO250))) (Kd.R_lt (rT HO253))) (below_size (sT HB)))
     replace HO250 := Aside0.mk (Kd.R_elder' (rT HO250) (Kd.R_base ho0) hb)
     replace HO253 := Aside0.mk (Kd.R_elder' (rT HO253) (Kd.R_base ho0) hb)
     replace BK244 := bA BK244 hb
     replace BK245 := bA BK245 hb
     replace BK258 := bA BK258 hb
     replace HB := sB HB hb
     (try clear hb)
     (try clear hb2)
     (try clear hk)
     (try clear hi)
     (try clear ho0)
     refine hK.out _ _ ⟨(blk_cell BK244.out 0).trans rfl, (blk_cell BK245.out 0).trans rfl⟩ (fun hHeld => ?_)
     clear hK K
     refine norm_ (a' := ?_) ?_ ?_
     rotate_left
     ·show Act.put _ (some 35) _ = _
      simp only [Act.put, List.setIfInBounds_toArray, List.set_cons_zero, List.set_cons_succ, i64_w, i32_w]
      rfl
     refine pure_ (i := 6) (N := some 29) (v := ?_) (a' := ?_) #[true, true, true, true, true, true, true, false, false, true, false, false] rfl rfl (any_of HT_.out (by kernel_rfl)) (fun _ _ _ h => h) (Or.inl ⟨by rfl, ?_⟩) ?_ ?_
     rotate_left
     ·intro w'
      go_simp
      with_reducible rfl
     rotate_left
     ·simp only [Act.put, List.setIfInBounds_toArray, List.set_cons_zero, List.set_cons_succ, i64_w, i32_w]
      rfl
     refine pure_ (i := 7) (N := some 36) (v := ?_) (a' := ?_) #[true, true, true, true, true, true, true, true, false, true, false, false] rfl rfl (any_of HT_.out (by kernel_rfl)) (fun _ _ _ h => h) (Or.inl ⟨by rfl, ?_⟩) ?_ ?_
     rotate_left
     ·intro w'
      go_simp
      with_reducible rfl
     rotate_left
     ·simp only [Act.put, List.setIfInBounds_toArray, List.set_cons_zero, List.set_cons_succ, i64_w, i32_w]
      rfl
     refine pure_ (i := 8) (N := some 37) (v := ?_) (a' := ?_) #[true, true, true, true, true, true, true, true, true, true, false, false] rfl rfl (any_of HT_.out (by kernel_rfl)) (fun _ _ _ h => h) (Or.inl ⟨by rfl, ?_⟩) ?_ ?_
     rotate_left
     ·intro w'
      go_simp
      with_reducible rfl
     rotate_left
     ·simp only [Act.put, List.setIfInBounds_toArray, List.set_cons_zero, List.set_cons_succ, i64_w, i32_w]
      rfl
     exact norm_ (by simp only [putAll, Act.put, List.setIfInBounds_toArray, List.set_cons_zero, List.set_cons_succ]) (hCont (.slice Ao38 t248.length co38, .slice Ao39 t251.length co39, v255, gb258) _ ⟨hHeld, (by (with_reducible repeat (first | apply Kd.R_alloc | apply Kd.R_drewN | apply Kd.R_drew)); exact Kd.R_mono HO250.out (fun _ hk => ⟨hk.1.2, hk.2⟩)), (by (with_reducible repeat (first | apply Kd.R_alloc | apply Kd.R_drewN | apply Kd.R_drew)); exact Kd.R_mono HO253.out (fun _ hk => ⟨hk.1.2, hk.2⟩)), (by (with_reducible repeat (first | apply Kd.R_alloc | apply Kd.R_drewN | apply Kd.R_drew)); exact Kd.R_mono HO256.out (fun _ hk => ⟨hk.1.2, hk.2⟩)), (by first | exact BK244.out | exact blk_alloc BK244.out _), (by first | exact BK245.out | exact blk_alloc BK245.out _), (by first | exact BK258.out | exact blk_alloc BK258.out _), GW258.out, GE258.out, NB244_258.out, NB258_244.out, NB245_258.out, NB258_245.out, (sT HB)⟩)
   rintro ⟨v249, v252, v255, gb258⟩ w41 ⟨hS_, h0_, h1_, h2_, h3_, h4_, h5_, h6_, h7_, h8_, h9_, h10_, h11_, h12_⟩
   have n0_ : Aside0 (Kd.R k47 47 w41 w.heap.size (fun k_ => some k_ ≠ (v252 : Value).ownBlock ∧ some k_ ≠ (v255 : Value).ownBlock) v249 t248) := ⟨h0_⟩
   have n1_ : Aside0 (Kd.R k47 47 w41 w.heap.size (fun k_ => some k_ ≠ (v249 : Value).ownBlock ∧ some k_ ≠ (v255 : Value).ownBlock) v252 t251) := ⟨h1_⟩
   have n2_ : Aside0 (Kd.R k47 47 w41 w.heap.size (fun k_ => some k_ ≠ (v249 : Value).ownBlock ∧ some k_ ≠ (v252 : Value).ownBlock) v255 t254) := ⟨h2_⟩
   have n3_ : Aside0 (w41.heap[gb244]? = some (.cells #[.slice A0_0 l0_0.length c0_0] 24 (0, 0))) := ⟨h3_⟩
   have n4_ : Aside0 (w41.heap[gb245]? = some (.cells #[.slice A2_0 l2_0.length c2_0] 24 (0, 0))) := ⟨h4_⟩
   have n5_ : Aside0 (w41.heap[gb258]? = some (.cells #[.slice none 0 0] 28 (0, 0))) := ⟨h5_⟩
   have n6_ : Aside0 (w.heap.size ≤ gb258) := ⟨h6_⟩
   have n7_ : Aside0 (w.heap.size ≤ gb258) := ⟨h7_⟩
   have n8_ : Aside0 (gb244 ≠ gb258) := ⟨h8_⟩
   have n9_ : Aside0 (gb258 ≠ gb244) := ⟨h9_⟩
   have n10_ : Aside0 (gb245 ≠ gb258) := ⟨h10_⟩
   have n11_ : Aside0 (gb258 ≠ gb245) := ⟨h11_⟩
   have n12_ : Aside0 (Below w.heap.size w w41) := ⟨h12_⟩
   clear BK244
   clear BK245
   clear HB
   clear h0_ h1_ h2_ h3_ h4_ h5_ h6_ h7_ h8_ h9_ h10_ h11_ h12_
   have HO250 := n0_
   have HO253 := n1_
   have HO256 := n2_
   have BK244 := n3_
   have BK245 := n4_
   have BK258 := n5_
   have GW258 := n6_
   have GE258 := n7_
   have NB244_258 := n8_
   have NB258_244 := n9_
   have NB245_258 := n10_
   have NB258_245 := n11_
   have HB := n12_
   clear n0_ n1_ n2_ n3_ n4_ n5_ n6_ n7_ n8_ n9_ n10_ n11_ n12_
   have hHeld : w41.cell? ⟨gb244, 0, none⟩ = some (.slice A0_0 l0_0.length c0_0) ∧ w41.cell? ⟨gb245, 0, none⟩ = some (.slice A2_0 l2_0.length c2_0) := hS_
   obtain ⟨Ao42, co42, eo42⟩ := Kd.R_slice HO256.out
   (first | subst eo42 | (injection eo42 with f1_ f2_ f3_; have f4_ := f1_.symm; have f5_ := f3_.symm; clear f1_ f2_ f3_; subst f4_; subst f5_))
   refine norm_ (a' := ?_) ?_ ?_
   rotate_left
   ·simp only [putAll, Act.put, List.setIfInBounds_toArray, List.set_cons_zero, List.set_cons_succ]
    rfl
   refine one_ (i := 10) (N := none) #[true, true, true, true, true, true, true, true, true, true, true, false] rfl rfl (one_of HT_.out (by kernel_rfl)) (by decide) (fun K hK => ?_)
   have hs43 : w41.cell? ⟨gb258, 0, none⟩ = some (.slice none 0 0) := (blk_cell BK258.out 0).trans rfl
   have hfs43 := blk_frozen BK258.out 0
   have hns43_0 := NB244_258.out
   have hns43_1 := NB245_258.out
   have hms43_0 := NB258_244.out
   have hms43_1 := NB258_245.out
   refine skip_ (w1 := ?_) (by rfl) rfl ?_ ?_
   rotate_left
   ·go_simp
    rfl
   refine hK.out _ _ ⟨((cell_far (p := ⟨gb258, _, none⟩) NB244_258.out _).trans (hHeld.1)), ((cell_far (p := ⟨gb258, _, none⟩) NB245_258.out _).trans (hHeld.2))⟩ (fun hHeld => ?_)
   clear hK K
   refine pure_ (i := 11) (N := some 9) (v := ?_) (a' := ?_) #[true, true, true, true, true, true, true, true, true, true, true, true] rfl rfl (any_of HT_.out (by kernel_rfl)) (fun _ _ _ h => h) (Or.inl ⟨by rfl, ?_⟩) ?_ ?_
   rotate_left
   ·intro w'
    go_simp
    with_reducible rfl
   rotate_left
   ·simp only [Act.put, List.setIfInBounds_toArray, List.set_cons_zero, List.set_cons_succ, i64_w, i32_w]
    rfl
   refine done_ (done_of HT_.out (by kernel_rfl)) ?_
   have hnb44 := NB244_258.out
   have hnc44 := NB258_244.out
   have hcz45_0 : w41.cell? ⟨gb244, 0, none⟩ = some (.slice A0_0 l0_0.length c0_0) := (blk_cell BK244.out 0).trans rfl
   have hfz45_0 := blk_frozen BK244.out 0
   go_upto_region 12 with (first | ((with_reducible refine gate_callee (f := 7) rfl ?_); refine goesL_ (some 39) rfl rfl Try.func7 (by kernel_rfl) rfl #[.agg #[.slice A0_0 l0_0.length c0_0]] rfl (by (try simp only [List.map_toArray, List.map_cons, List.map_nil]); first | done | rfl) ?_; (with_reducible refine (laws_toPicture.calls k _ _ l0_0 t259 _ ?side1 ?side2 A23.out).mono ?_); (case side1 => exact Kd.C_below HR0_0.out (sT HB)); (case side2 => exact HC0_0.out); rintro e w46 ⟨v260, rfl, ho0, hb⟩; refine ⟨_, rfl, ?_⟩; have HO261 := Aside0.mk (Kd.R_lower (Kd.R_new' (Kd.R_new' (Kd.R_new' ho0 (Kd.R_lt (by (with_reducible repeat (first | apply Kd.R_alloc | apply Kd.R_drewN | apply Kd.R_drew)); exact (Kd.R_mono (Kd.R_far (p := ⟨gb258, 0, none⟩) (Kd.R_types HO250.out BK258.out (by decide)) (fun _ hk => hk.2) (.slice Ao42 t254.length co42)) (fun _ h_ => h_.1))))) (Kd.R_lt (by (with_reducible repeat (first | apply Kd.R_alloc | apply Kd.R_drewN | apply Kd.R_drew)); exact (Kd.R_mono (Kd.R_far (p := ⟨gb258, 0, none⟩) (Kd.R_types HO253.out BK258.out (by decide)) (fun _ hk => hk.2) (.slice Ao42 t254.length co42)) (fun _ h_ => h_.1))))) (Kd.R_lt (by (with_reducible repeat (first | apply Kd.R_alloc | apply Kd.R_drewN | apply Kd.R_drew)); exact (Kd.R_mono (Kd.R_far (p := ⟨gb258, 0, none⟩) (Kd.R_types HO256.out BK258.out (by decide)) (fun _ hk => hk.2) (.slice Ao42 t254.length co42)) (fun _ h_ => h_.1))))) (below_size (sT HB))); replace HO250 := Aside0.mk (Kd.R_elder' (by (with_reducible repeat (first | apply Kd.R_alloc | apply Kd.R_drewN | apply Kd.R_drew)); exact (Kd.R_mono (Kd.R_far (p := ⟨gb258, 0, none⟩) (Kd.R_types HO250.out BK258.out (by decide)) (fun _ hk => hk.2) (.slice Ao42 t254.length co42)) (fun _ h_ => h_.1))) (Kd.R_base ho0) hb); replace HO253 := Aside0.mk (Kd.R_elder' (by (with_reducible repeat (first | apply Kd.R_alloc | apply Kd.R_drewN | apply Kd.R_drew)); exact (Kd.R_mono (Kd.R_far (p := ⟨gb258, 0, none⟩) (Kd.R_types HO253.out BK258.out (by decide)) (fun _ hk => hk.2) (.slice Ao42 t254.length co42)) (fun _ h_ => h_.1))) (Kd.R_base ho0) hb); replace HO256 := Aside0.mk (Kd.R_elder' (by (with_reducible repeat (first | apply Kd.R_alloc | apply Kd.R_drewN | apply Kd.R_drew)); exact (Kd.R_mono (Kd.R_far (p := ⟨gb258, 0, none⟩) (Kd.R_types HO256.out BK258.out (by decide)) (fun _ hk => hk.2) (.slice Ao42 t254.length co42)) (fun _ h_ => h_.1))) (Kd.R_base ho0) hb); replace BK244 := Aside0.mk (blk_below (g := gb244) (o := .cells #[.slice A0_0 l0_0.length c0_0] 24 (0, 0)) (by (with_reducible repeat (first | refine blk_drewN ?_ _ | refine blk_drew ?_ | refine blk_alloc ?_ _)); refine blk_far ?_ NB244_258.out _; (with_reducible repeat (first | refine blk_drewN ?_ _ | refine blk_drew ?_ | refine blk_alloc ?_ _)); exact BK244.out) hb); replace BK245 := Aside0.mk (blk_below (g := gb245) (o := .cells #[.slice A2_0 l2_0.length c2_0] 24 (0, 0)) (by (with_reducible repeat (first | refine blk_drewN ?_ _ | refine blk_drew ?_ | refine blk_alloc ?_ _)); refine blk_far ?_ NB245_258.out _; (with_reducible repeat (first | refine blk_drewN ?_ _ | refine blk_drew ?_ | refine blk_alloc ?_ _)); exact BK245.out) hb); replace BK258 := Aside0.mk (blk_below (g := gb258) (o := .cells #[.slice Ao42 t254.length co42] 28 (0, 0)) (by (with_reducible repeat (first | refine blk_drewN ?_ _ | refine blk_drew ?_ | refine blk_alloc ?_ _)); refine blk_put (cs := #[.slice none 0 0]) ?_ 0 _ rfl; (with_reducible repeat (first | refine blk_drewN ?_ _ | refine blk_drew ?_ | refine blk_alloc ?_ _)); exact BK258.out) hb); replace HB := sB HB hb; (try clear hb); (try clear hb2); (try clear hk); (try clear hi); (try clear ho0)) | ((with_reducible refine gate_dst (N := 10) rfl ?_); refine box_event ?hg (N := 10) ?hd (cs := #[.slice none 0 0]) (t := 28) ?hr ?_; (case hd => rfl); (case hg => rfl); (case hr => first | (go_simp; done) | (go_simp; rfl)); intro gb262 hg w47 hbox hb; replace HO250 := rA HO250 hb; replace HO253 := rA HO253 hb; replace HO256 := rA HO256 hb; replace HO261 := rA HO261 hb; have BK262 := Aside0.mk (hbox); have GW262 := zB HB hg; have GE262 := zB HB hg; replace HB := sB HB hb; have NB244_262 := lA BK244 hg; have NB262_244 := gA BK244 hg; replace BK244 := bA BK244 hb; have NB245_262 := lA BK245 hg; have NB262_245 := gA BK245 hg; replace BK245 := bA BK245 hb; have NB258_262 := lA BK258 hg; have NB262_258 := gA BK258 hg; replace BK258 := bA BK258 hb; clear hb hbox hg; obtain ⟨Ao48, co48, eo48⟩ := Kd.R_slice HO261.out; subst eo48; have hnb49 := NB262_244.out; have hnc49 := NB244_262.out; have hnb50 := NB262_245.out; have hnc50 := NB245_262.out; have hnb51 := NB262_258.out; have hnc51 := NB258_262.out; have hcz52_0 : w47.cell? ⟨gb262, 0, none⟩ = some (.slice none 0 0) := (blk_cell BK262.out 0).trans rfl; have hfz52_0 := blk_frozen BK262.out 0; have hnb53 := NB245_258.out; have hnc53 := NB258_245.out; have hcz54_0 : w47.cell? ⟨gb245, 0, none⟩ = some (.slice A2_0 l2_0.length c2_0) := (blk_cell BK245.out 0).trans rfl; have hfz54_0 := blk_frozen BK245.out 0) | ((with_reducible refine gate_callee (f := 7) rfl ?_); refine goesL_ (some 41) rfl rfl Try.func7 (by kernel_rfl) rfl #[.agg #[.slice A2_0 l2_0.length c2_0]] rfl (by (try simp only [List.map_toArray, List.map_cons, List.map_nil]); first | done | rfl) ?_; (with_reducible refine (laws_toPicture.calls k _ _ l2_0 t263 _ ?side1 ?side2 A24.out).mono ?_); (case side1 => exact Kd.C_below HR2_0.out (sT HB)); (case side2 => exact HC2_0.out); rintro e w55 ⟨v264, rfl, ho0, hb⟩; refine ⟨_, rfl, ?_⟩; have HO265 := Aside0.mk (Kd.R_lower (Kd.R_new' (Kd.R_new' (Kd.R_new' (Kd.R_new' ho0 (Kd.R_lt (by (with_reducible repeat (first | apply Kd.R_alloc | apply Kd.R_drewN | apply Kd.R_drew)); exact (Kd.R_mono (Kd.R_far (p := ⟨gb262, 0, none⟩) (Kd.R_types HO250.out BK262.out (by decide)) (fun _ hk => hk.2) (.slice Ao48 t259.length co48)) (fun _ h_ => h_.1))))) (Kd.R_lt (by (with_reducible repeat (first | apply Kd.R_alloc | apply Kd.R_drewN | apply Kd.R_drew)); exact (Kd.R_mono (Kd.R_far (p := ⟨gb262, 0, none⟩) (Kd.R_types HO253.out BK262.out (by decide)) (fun _ hk => hk.2) (.slice Ao48 t259.length co48)) (fun _ h_ => h_.1))))) (Kd.R_lt (by (with_reducible repeat (first | apply Kd.R_alloc | apply Kd.R_drewN | apply Kd.R_drew)); exact (Kd.R_mono (Kd.R_far (p := ⟨gb262, 0, none⟩) (Kd.R_types HO256.out BK262.out (by decide)) (fun _ hk => hk.2) (.slice Ao48 t259.length co48)) (fun _ h_ => h_.1))))) (Kd.R_lt (by (with_reducible repeat (first | apply Kd.R_alloc | apply Kd.R_drewN | apply Kd.R_drew)); exact (Kd.R_mono (Kd.R_far (p := ⟨gb262, 0, none⟩) (Kd.R_types HO261.out BK262.out (by decide)) (fun _ hk => hk.2) (.slice Ao48 t259.length co48)) (fun _ h_ => h_.1))))) (below_size (sT HB))); replace HO250 := Aside0.mk (Kd.R_elder' (by (with_reducible repeat (first | apply Kd.R_alloc | apply Kd.R_drewN | apply Kd.R_drew)); exact (Kd.R_mono (Kd.R_far (p := ⟨gb262, 0, none⟩) (Kd.R_types HO250.out BK262.out (by decide)) (fun _ hk => hk.2) (.slice Ao48 t259.length co48)) (fun _ h_ => h_.1))) (Kd.R_base ho0) hb); replace HO253 := Aside0.mk (Kd.R_elder' (by (with_reducible repeat (first | apply Kd.R_alloc | apply Kd.R_drewN | apply Kd.R_drew)); exact (Kd.R_mono (Kd.R_far (p := ⟨gb262, 0, none⟩) (Kd.R_types HO253.out BK262.out (by decide)) (fun _ hk => hk.2) (.slice Ao48 t259.length co48)) (fun _ h_ => h_.1))) (Kd.R_base ho0) hb); replace HO256 := Aside0.mk (Kd.R_elder' (by (with_reducible repeat (first | apply Kd.R_alloc | apply Kd.R_drewN | apply Kd.R_drew)); exact (Kd.R_mono (Kd.R_far (p := ⟨gb262, 0, none⟩) (Kd.R_types HO256.out BK262.out (by decide)) (fun _ hk => hk.2) (.slice Ao48 t259.length co48)) (fun _ h_ => h_.1))) (Kd.R_base ho0) hb); replace HO261 := Aside0.mk (Kd.R_elder' (by (with_reducible repeat (first | apply Kd.R_alloc | apply Kd.R_drewN | apply Kd.R_drew)); exact (Kd.R_mono (Kd.R_far (p := ⟨gb262, 0, none⟩) (Kd.R_types HO261.out BK262.out (by decide)) (fun _ hk => hk.2) (.slice Ao48 t259.length co48)) (fun _ h_ => h_.1))) (Kd.R_base ho0) hb); replace BK244 := Aside0.mk (blk_below (g := gb244) (o := .cells #[.slice A0_0 l0_0.length c0_0] 24 (0, 0)) (by (with_reducible repeat (first | refine blk_drewN ?_ _ | refine blk_drew ?_ | refine blk_alloc ?_ _)); refine blk_far ?_ NB244_262.out _; (with_reducible repeat (first | refine blk_drewN ?_ _ | refine blk_drew ?_ | refine blk_alloc ?_ _)); exact BK244.out) hb); replace BK245 := Aside0.mk (blk_below (g := gb245) (o := .cells #[.slice A2_0 l2_0.length c2_0] 24 (0, 0)) (by (with_reducible repeat (first | refine blk_drewN ?_ _ | refine blk_drew ?_ | refine blk_alloc ?_ _)); refine blk_far ?_ NB245_262.out _; (with_reducible repeat (first | refine blk_drewN ?_ _ | refine blk_drew ?_ | refine blk_alloc ?_ _)); exact BK245.out) hb); replace BK258 := Aside0.mk (blk_below (g := gb258) (o := .cells #[.slice Ao42 t254.length co42] 28 (0, 0)) (by (with_reducible repeat (first | refine blk_drewN ?_ _ | refine blk_drew ?_ | refine blk_alloc ?_ _)); refine blk_far ?_ NB258_262.out _; (with_reducible repeat (first | refine blk_drewN ?_ _ | refine blk_drew ?_ | refine blk_alloc ?_ _)); exact BK258.out) hb); replace BK262 := Aside0.mk (blk_below (g := gb262) (o := .cells #[.slice Ao48 t259.length co48] 28 (0, 0)) (by (with_reducible repeat (first | refine blk_drewN ?_ _ | refine blk_drew ?_ | refine blk_alloc ?_ _)); refine blk_put (cs := #[.slice none 0 0]) ?_ 0 _ rfl; (with_reducible repeat (first | refine blk_drewN ?_ _ | refine blk_drew ?_ | refine blk_alloc ?_ _)); exact BK262.out) hb); replace HB := sB HB hb; (try clear hb); (try clear hb2); (try clear hk); (try clear hi); (try clear ho0)) | ((with_reducible refine gate_dst (N := 11) rfl ?_); refine box_event ?hg (N := 11) ?hd (cs := #[.slice none 0 0]) (t := 28) ?hr ?_; (case hd => rfl); (case hg => rfl); (case hr => first | (go_simp; done) | (go_simp; rfl)); intro gb266 hg w56 hbox hb; replace HO250 := rA HO250 hb; replace HO253 := rA HO253 hb; replace HO256 := rA HO256 hb; replace HO261 := rA HO261 hb; replace HO265 := rA HO265 hb; have BK266 := Aside0.mk (hbox); have GW266 := zB HB hg; have GE266 := zB HB hg; replace HB := sB HB hb; have NB244_266 := lA BK244 hg; have NB266_244 := gA BK244 hg; replace BK244 := bA BK244 hb; have NB245_266 := lA BK245 hg; have NB266_245 := gA BK245 hg; replace BK245 := bA BK245 hb; have NB258_266 := lA BK258 hg; have NB266_258 := gA BK258 hg; replace BK258 := bA BK258 hb; have NB262_266 := lA BK262 hg; have NB266_262 := gA BK262 hg; replace BK262 := bA BK262 hb; clear hb hbox hg; obtain ⟨Ao57, co57, eo57⟩ := Kd.R_slice HO265.out; subst eo57; have hnb58 := NB266_244.out; have hnc58 := NB244_266.out; have hnb59 := NB266_245.out; have hnc59 := NB245_266.out; have hnb60 := NB266_258.out; have hnc60 := NB258_266.out; have hnb61 := NB266_262.out; have hnc61 := NB262_266.out; have hcz62_0 : w56.cell? ⟨gb266, 0, none⟩ = some (.slice none 0 0) := (blk_cell BK266.out 0).trans rfl; have hfz62_0 := blk_frozen BK266.out 0; have hcz63_0 : w56.cell? ⟨gb262, 0, none⟩ = some (.slice Ao48 t259.length co48) := (blk_cell BK262.out 0).trans rfl; have hfz63_0 := blk_frozen BK262.out 0) | ((with_reducible refine gate_callee (f := 8) rfl ?_); refine goesL_ (some 46) rfl rfl Try.func8 (by kernel_rfl) rfl #[.agg #[.slice Ao48 t259.length co48], .int .i64 a1, .agg #[.slice Ao57 t263.length co57]] rfl (by (try simp only [List.map_toArray, List.map_cons, List.map_nil]); first | done | rfl) ?_; (with_reducible refine (impl_GrowOn.calls k _ _ t259 a1 _ _ t263 t267 t270 _ ?side1 ?side2 ?side3 ?side4 A25.out).mono ?_); (case side1 => refine (Kd.R_reads' (e := 47) (base := w.heap.size) (ok := fun k_ => ((((True ∧ some k_ ≠ (v249 : Value).ownBlock) ∧ some k_ ≠ (v252 : Value).ownBlock) ∧ some k_ ≠ (.slice Ao42 t254.length co42 : Value).ownBlock) ∧ some k_ ≠ (.slice Ao57 t263.length co57 : Value).ownBlock)) (n := t259.length) (c := co48) ?_).2.2; exact (by (with_reducible repeat (first | apply Kd.R_alloc | apply Kd.R_drewN | apply Kd.R_drew)); exact (Kd.R_mono (Kd.R_far (p := ⟨gb266, 0, none⟩) (Kd.R_types HO261.out BK266.out (by decide)) (fun _ hk => hk.2) (.slice Ao57 t263.length co57)) (fun _ h_ => h_.1)))); (case side2 => exact (Kd.R_reads' HO261.out).2.1); (case side3 => refine (Kd.R_reads' (e := 47) (base := w.heap.size) (ok := fun k_ => ((((True ∧ some k_ ≠ (v249 : Value).ownBlock) ∧ some k_ ≠ (v252 : Value).ownBlock) ∧ some k_ ≠ (.slice Ao42 t254.length co42 : Value).ownBlock) ∧ some k_ ≠ (.slice Ao48 t259.length co48 : Value).ownBlock)) (n := t263.length) (c := co57) ?_).2.2; exact (by (with_reducible repeat (first | apply Kd.R_alloc | apply Kd.R_drewN | apply Kd.R_drew)); exact (Kd.R_mono (Kd.R_far (p := ⟨gb266, 0, none⟩) (Kd.R_types HO265.out BK266.out (by decide)) (fun _ hk => hk.2) (.slice Ao57 t263.length co57)) (fun _ h_ => h_.1)))); (case side4 => exact (Kd.R_reads' HO265.out).2.1); rintro e w64 ⟨v268, rfl, ho0, hb⟩; refine ⟨_, rfl, ?_⟩; have HO269 := Aside0.mk (Kd.R_lower (Kd.R_new' (Kd.R_new' (Kd.R_new' (Kd.R_new' (Kd.R_new' ho0 (Kd.R_lt (by (with_reducible repeat (first | apply Kd.R_alloc | apply Kd.R_drewN | apply Kd.R_drew)); exact (Kd.R_mono (Kd.R_far (p := ⟨gb266, 0, none⟩) (Kd.R_types HO250.out BK266.out (by decide)) (fun _ hk => hk.2) (.slice Ao57 t263.length co57)) (fun _ h_ => h_.1))))) (Kd.R_lt (by (with_reducible repeat (first | apply Kd.R_alloc | apply Kd.R_drewN | apply Kd.R_drew)); exact (Kd.R_mono (Kd.R_far (p := ⟨gb266, 0, none⟩) (Kd.R_types HO253.out BK266.out (by decide)) (fun _ hk => hk.2) (.slice Ao57 t263.length co57)) (fun _ h_ => h_.1))))) (Kd.R_lt (by (with_reducible repeat (first | apply Kd.R_alloc | apply Kd.R_drewN | apply Kd.R_drew)); exact (Kd.R_mono (Kd.R_far (p := ⟨gb266, 0, none⟩) (Kd.R_types HO256.out BK266.out (by decide)) (fun _ hk => hk.2) (.slice Ao57 t263.length co57)) (fun _ h_ => h_.1))))) (Kd.R_lt (by (with_reducible repeat (first | apply Kd.R_alloc | apply Kd.R_drewN | apply Kd.R_drew)); exact (Kd.R_mono (Kd.R_far (p := ⟨gb266, 0, none⟩) (Kd.R_types HO261.out BK266.out (by decide)) (fun _ hk => hk.2) (.slice Ao57 t263.length co57)) (fun _ h_ => h_.1))))) (Kd.R_lt (by (with_reducible repeat (first | apply Kd.R_alloc | apply Kd.R_drewN | apply Kd.R_drew)); exact (Kd.R_mono (Kd.R_far (p := ⟨gb266, 0, none⟩) (Kd.R_types HO265.out BK266.out (by decide)) (fun _ hk => hk.2) (.slice Ao57 t263.length co57)) (fun _ h_ => h_.1))))) (below_size (sT HB))); replace HO250 := Aside0.mk (Kd.R_elder' (by (with_reducible repeat (first | apply Kd.R_alloc | apply Kd.R_drewN | apply Kd.R_drew)); exact (Kd.R_mono (Kd.R_far (p := ⟨gb266, 0, none⟩) (Kd.R_types HO250.out BK266.out (by decide)) (fun _ hk => hk.2) (.slice Ao57 t263.length co57)) (fun _ h_ => h_.1))) (Kd.R_base ho0) hb); replace HO253 := Aside0.mk (Kd.R_elder' (by (with_reducible repeat (first | apply Kd.R_alloc | apply Kd.R_drewN | apply Kd.R_drew)); exact (Kd.R_mono (Kd.R_far (p := ⟨gb266, 0, none⟩) (Kd.R_types HO253.out BK266.out (by decide)) (fun _ hk => hk.2) (.slice Ao57 t263.length co57)) (fun _ h_ => h_.1))) (Kd.R_base ho0) hb); replace HO256 := Aside0.mk (Kd.R_elder' (by (with_reducible repeat (first | apply Kd.R_alloc | apply Kd.R_drewN | apply Kd.R_drew)); exact (Kd.R_mono (Kd.R_far (p := ⟨gb266, 0, none⟩) (Kd.R_types HO256.out BK266.out (by decide)) (fun _ hk => hk.2) (.slice Ao57 t263.length co57)) (fun _ h_ => h_.1))) (Kd.R_base ho0) hb); replace HO261 := Aside0.mk (Kd.R_elder' (by (with_reducible repeat (first | apply Kd.R_alloc | apply Kd.R_drewN | apply Kd.R_drew)); exact (Kd.R_mono (Kd.R_far (p := ⟨gb266, 0, none⟩) (Kd.R_types HO261.out BK266.out (by decide)) (fun _ hk => hk.2) (.slice Ao57 t263.length co57)) (fun _ h_ => h_.1))) (Kd.R_base ho0) hb); replace HO265 := Aside0.mk (Kd.R_elder' (by (with_reducible repeat (first | apply Kd.R_alloc | apply Kd.R_drewN | apply Kd.R_drew)); exact (Kd.R_mono (Kd.R_far (p := ⟨gb266, 0, none⟩) (Kd.R_types HO265.out BK266.out (by decide)) (fun _ hk => hk.2) (.slice Ao57 t263.length co57)) (fun _ h_ => h_.1))) (Kd.R_base ho0) hb); replace BK244 := Aside0.mk (blk_below (g := gb244) (o := .cells #[.slice A0_0 l0_0.length c0_0] 24 (0, 0)) (by (with_reducible repeat (first | refine blk_drewN ?_ _ | refine blk_drew ?_ | refine blk_alloc ?_ _)); refine blk_far ?_ NB244_266.out _; (with_reducible repeat (first | refine blk_drewN ?_ _ | refine blk_drew ?_ | refine blk_alloc ?_ _)); exact BK244.out) hb); replace BK245 := Aside0.mk (blk_below (g := gb245) (o := .cells #[.slice A2_0 l2_0.length c2_0] 24 (0, 0)) (by (with_reducible repeat (first | refine blk_drewN ?_ _ | refine blk_drew ?_ | refine blk_alloc ?_ _)); refine blk_far ?_ NB245_266.out _; (with_reducible repeat (first | refine blk_drewN ?_ _ | refine blk_drew ?_ | refine blk_alloc ?_ _)); exact BK245.out) hb); replace BK258 := Aside0.mk (blk_below (g := gb258) (o := .cells #[.slice Ao42 t254.length co42] 28 (0, 0)) (by (with_reducible repeat (first | refine blk_drewN ?_ _ | refine blk_drew ?_ | refine blk_alloc ?_ _)); refine blk_far ?_ NB258_266.out _; (with_reducible repeat (first | refine blk_drewN ?_ _ | refine blk_drew ?_ | refine blk_alloc ?_ _)); exact BK258.out) hb); replace BK262 := Aside0.mk (blk_below (g := gb262) (o := .cells #[.slice Ao48 t259.length co48] 28 (0, 0)) (by (with_reducible repeat (first | refine blk_drewN ?_ _ | refine blk_drew ?_ | refine blk_alloc ?_ _)); refine blk_far ?_ NB262_266.out _; (with_reducible repeat (first | refine blk_drewN ?_ _ | refine blk_drew ?_ | refine blk_alloc ?_ _)); exact BK262.out) hb); replace BK266 := Aside0.mk (blk_below (g := gb266) (o := .cells #[.slice Ao57 t263.length co57] 28 (0, 0)) (by (with_reducible repeat (first | refine blk_drewN ?_ _ | refine blk_drew ?_ | refine blk_alloc ?_ _)); refine blk_put (cs := #[.slice none 0 0]) ?_ 0 _ rfl; (with_reducible repeat (first | refine blk_drewN ?_ _ | refine blk_drew ?_ | refine blk_alloc ?_ _)); exact BK266.out) hb); replace HB := sB HB hb; (try clear hb); (try clear hb2); (try clear hk); (try clear hi); (try clear ho0)) | ((with_reducible refine gate_dst (N := 12) rfl ?_); refine box_event ?hg (N := 12) ?hd (cs := #[.slice none 0 0]) (t := 28) ?hr ?_; (case hd => rfl); (case hg => rfl); (case hr => first | (go_simp; done) | (go_simp; rfl)); intro gb271 hg w65 hbox hb; replace HO250 := rA HO250 hb; replace HO253 := rA HO253 hb; replace HO256 := rA HO256 hb; replace HO261 := rA HO261 hb; replace HO265 := rA HO265 hb; replace HO269 := rA HO269 hb; have BK271 := Aside0.mk (hbox); have GW271 := zB HB hg; have GE271 := zB HB hg; replace HB := sB HB hb; have NB244_271 := lA BK244 hg; have NB271_244 := gA BK244 hg; replace BK244 := bA BK244 hb; have NB245_271 := lA BK245 hg; have NB271_245 := gA BK245 hg; replace BK245 := bA BK245 hb; have NB258_271 := lA BK258 hg; have NB271_258 := gA BK258 hg; replace BK258 := bA BK258 hb; have NB262_271 := lA BK262 hg; have NB271_262 := gA BK262 hg; replace BK262 := bA BK262 hb; have NB266_271 := lA BK266 hg; have NB271_266 := gA BK266 hg; replace BK266 := bA BK266 hb; clear hb hbox hg; obtain ⟨Ao66, co66, eo66⟩ := Kd.R_slice HO269.out; subst eo66; have hnb67 := NB271_244.out; have hnc67 := NB244_271.out; have hnb68 := NB271_245.out; have hnc68 := NB245_271.out; have hnb69 := NB271_258.out; have hnc69 := NB258_271.out; have hnb70 := NB271_262.out; have hnc70 := NB262_271.out; have hnb71 := NB271_266.out; have hnc71 := NB266_271.out; have hcz72_0 : w65.cell? ⟨gb271, 0, none⟩ = some (.slice none 0 0) := (blk_cell BK271.out 0).trans rfl; have hfz72_0 := blk_frozen BK271.out 0))
   (try simp only [Act.put, List.setIfInBounds_toArray, List.set_cons_zero, List.set_cons_succ])
   go_cut [57] (fun v57 wc => ∃ (kq : Nat) (x57_25 : Bool), v57 = .bool x57_25 ∧ Aside0 (laws_FnExactGrowOn.j0 kq a1 t257 t270 x57_25 l0_0 l2_0 t254 t259 t263 t267 = some r) ∧ Aside0 (kq ≤ k) ∧ Aside0 (Kd.R k47 47 wc w.heap.size (fun k_ => some k_ ≠ ((.slice Ao48 t259.length co48) : Value).ownBlock ∧ some k_ ≠ ((.slice Ao57 t263.length co57) : Value).ownBlock ∧ some k_ ≠ ((.slice Ao66 t267.length co66) : Value).ownBlock) (.slice Ao42 t254.length co42) t254) ∧ Aside0 (Kd.R k47 47 wc w.heap.size (fun k_ => some k_ ≠ ((.slice Ao42 t254.length co42) : Value).ownBlock ∧ some k_ ≠ ((.slice Ao57 t263.length co57) : Value).ownBlock ∧ some k_ ≠ ((.slice Ao66 t267.length co66) : Value).ownBlock) (.slice Ao48 t259.length co48) t259) ∧ Aside0 (Kd.R k47 47 wc w.heap.size (fun k_ => some k_ ≠ ((.slice Ao42 t254.length co42) : Value).ownBlock ∧ some k_ ≠ ((.slice Ao48 t259.length co48) : Value).ownBlock ∧ some k_ ≠ ((.slice Ao66 t267.length co66) : Value).ownBlock) (.slice Ao57 t263.length co57) t263) ∧ Aside0 (Kd.R k47 47 wc w.heap.size (fun k_ => some k_ ≠ ((.slice Ao42 t254.length co42) : Value).ownBlock ∧ some k_ ≠ ((.slice Ao48 t259.length co48) : Value).ownBlock ∧ some k_ ≠ ((.slice Ao57 t263.length co57) : Value).ownBlock) (.slice Ao66 t267.length co66) t267) ∧ Aside0 (wc.heap[gb244]? = some (.cells #[(.slice A0_0 l0_0.length c0_0)] 24 (0, 0))) ∧ Aside0 (wc.heap[gb245]? = some (.cells #[(.slice A2_0 l2_0.length c2_0)] 24 (0, 0))) ∧ Aside0 (wc.heap[gb258]? = some (.cells #[(.slice Ao42 t254.length co42)] 28 (0, 0))) ∧ Aside0 (wc.heap[gb262]? = some (.cells #[(.slice Ao48 t259.length co48)] 28 (0, 0))) ∧ Aside0 (wc.heap[gb266]? = some (.cells #[(.slice Ao57 t263.length co57)] 28 (0, 0))) ∧ Aside0 (wc.heap[gb271]? = some (.cells #[(.slice Ao66 t267.length co66)] 28 (0, 0))) ∧ Aside0 (Below w.heap.size w wc))
   case first =>
    have H := HC26.out
    clear HC26
    replace H := Option.bind_eq_some_iff.mp H
    obtain ⟨t272, A730, H⟩ := H
    replace H : (if t272 = true then (laws_FnExactGrowOn.j0 k a1 t257 t270 (t270 != t257) l0_0 l2_0 t254 t259 t263 t267) else (laws_FnExactGrowOn.j0 k a1 t257 t270 true l0_0 l2_0 t254 t259 t263 t267)) = some r := H
    have A73 := Aside0.mk A730
    clear A730
    by_cases c74 : t272 = true
    ·subst c74
     have H1 : (laws_FnExactGrowOn.j0 k a1 t257 t270 (t270 != t257) l0_0 l2_0 t254 t259 t263 t267) = some r := by rw [if_pos rfl] at H; exact H
     clear H
     have H := H1
     clear H1
     have H' := Aside0.mk H
     clear H
     have hnb75 := NB271_244.out
     have hnc75 := NB244_271.out
     have hnb76 := NB271_245.out
     have hnc76 := NB245_271.out
     have hnb77 := NB271_258.out
     have hnc77 := NB258_271.out
     have hnb78 := NB271_262.out
     have hnc78 := NB262_271.out
     have hnb79 := NB271_266.out
     have hnc79 := NB266_271.out
     have hcz80_0 : w65.cell? ⟨gb271, 0, none⟩ = some (.slice none 0 0) := (blk_cell BK271.out 0).trans rfl
     have hfz80_0 := blk_frozen BK271.out 0
     have hnb81 := NB258_244.out
     have hnc81 := NB244_258.out
     have hnb82 := NB258_245.out
     have hnc82 := NB245_258.out
     have hnb83 := NB258_262.out
     have hnc83 := NB262_258.out
     have hnb84 := NB258_266.out
     have hnc84 := NB266_258.out
     have hcz85_0 : w65.cell? ⟨gb258, 0, none⟩ = some (.slice Ao42 t254.length co42) := (blk_cell BK258.out 0).trans rfl
     have hfz85_0 := blk_frozen BK258.out 0
     go_wp2_with (first | ((with_reducible refine gate_callee (f := 9) rfl ?_); refine goesL_ (some 51) rfl rfl Try.func9 (by kernel_rfl) rfl #[.agg #[.slice Ao66 t267.length co66], .agg #[.slice Ao42 t254.length co42]] rfl (by (try simp only [List.map_toArray, List.map_cons, List.map_nil]); first | done | rfl) ?_; (with_reducible refine (laws_eqPicture.calls k _ _ t267 _ _ t254 true _ ?side1 ?side2 ?side3 ?side4 A73.out).mono ?_); (case side1 => refine (Kd.R_reads' (e := 47) (base := w.heap.size) (ok := fun k_ => (((((True ∧ some k_ ≠ (v249 : Value).ownBlock) ∧ some k_ ≠ (v252 : Value).ownBlock) ∧ some k_ ≠ (.slice Ao42 t254.length co42 : Value).ownBlock) ∧ some k_ ≠ (.slice Ao48 t259.length co48 : Value).ownBlock) ∧ some k_ ≠ (.slice Ao57 t263.length co57 : Value).ownBlock)) (n := t267.length) (c := co66) ?_).2.2; exact (by (with_reducible repeat (first | apply Kd.R_alloc | apply Kd.R_drewN | apply Kd.R_drew)); exact (Kd.R_mono (Kd.R_far (p := ⟨gb271, 0, none⟩) (Kd.R_types HO269.out BK271.out (by decide)) (fun _ hk => hk.2) (.slice Ao66 t267.length co66)) (fun _ h_ => h_.1)))); (case side2 => exact (Kd.R_reads' HO269.out).2.1); (case side3 => refine (Kd.R_reads' (e := 47) (base := w.heap.size) (ok := fun k_ => ((((some k_ ≠ (v249 : Value).ownBlock ∧ some k_ ≠ (v252 : Value).ownBlock) ∧ some k_ ≠ (.slice Ao48 t259.length co48 : Value).ownBlock) ∧ some k_ ≠ (.slice Ao57 t263.length co57 : Value).ownBlock) ∧ some k_ ≠ (.slice Ao66 t267.length co66 : Value).ownBlock)) (n := t254.length) (c := co42) ?_).2.2; exact (by (with_reducible repeat (first | apply Kd.R_alloc | apply Kd.R_drewN | apply Kd.R_drew)); exact (Kd.R_mono (Kd.R_far (p := ⟨gb271, 0, none⟩) (Kd.R_types HO256.out BK271.out (by decide)) (fun _ hk => hk.2) (.slice Ao66 t267.length co66)) (fun _ h_ => h_.1)))); (case side4 => exact (Kd.R_reads' HO256.out).2.1); rintro e w86 ⟨rfl, hb⟩; refine ⟨_, rfl, ?_⟩; replace HO250 := Aside0.mk (Kd.R_below (by (with_reducible repeat (first | apply Kd.R_alloc | apply Kd.R_drewN | apply Kd.R_drew)); exact (Kd.R_mono (Kd.R_far (p := ⟨gb271, 0, none⟩) (Kd.R_types HO250.out BK271.out (by decide)) (fun _ hk => hk.2) (.slice Ao66 t267.length co66)) (fun _ h_ => h_.1))) hb); replace HO253 := Aside0.mk (Kd.R_below (by (with_reducible repeat (first | apply Kd.R_alloc | apply Kd.R_drewN | apply Kd.R_drew)); exact (Kd.R_mono (Kd.R_far (p := ⟨gb271, 0, none⟩) (Kd.R_types HO253.out BK271.out (by decide)) (fun _ hk => hk.2) (.slice Ao66 t267.length co66)) (fun _ h_ => h_.1))) hb); replace HO256 := Aside0.mk (Kd.R_below (by (with_reducible repeat (first | apply Kd.R_alloc | apply Kd.R_drewN | apply Kd.R_drew)); exact (Kd.R_mono (Kd.R_far (p := ⟨gb271, 0, none⟩) (Kd.R_types HO256.out BK271.out (by decide)) (fun _ hk => hk.2) (.slice Ao66 t267.length co66)) (fun _ h_ => h_.1))) hb); replace HO261 := Aside0.mk (Kd.R_below (by (with_reducible repeat (first | apply Kd.R_alloc | apply Kd.R_drewN | apply Kd.R_drew)); exact (Kd.R_mono (Kd.R_far (p := ⟨gb271, 0, none⟩) (Kd.R_types HO261.out BK271.out (by decide)) (fun _ hk => hk.2) (.slice Ao66 t267.length co66)) (fun _ h_ => h_.1))) hb); replace HO265 := Aside0.mk (Kd.R_below (by (with_reducible repeat (first | apply Kd.R_alloc | apply Kd.R_drewN | apply Kd.R_drew)); exact (Kd.R_mono (Kd.R_far (p := ⟨gb271, 0, none⟩) (Kd.R_types HO265.out BK271.out (by decide)) (fun _ hk => hk.2) (.slice Ao66 t267.length co66)) (fun _ h_ => h_.1))) hb); replace HO269 := Aside0.mk (Kd.R_below (by (with_reducible repeat (first | apply Kd.R_alloc | apply Kd.R_drewN | apply Kd.R_drew)); exact (Kd.R_mono (Kd.R_far (p := ⟨gb271, 0, none⟩) (Kd.R_types HO269.out BK271.out (by decide)) (fun _ hk => hk.2) (.slice Ao66 t267.length co66)) (fun _ h_ => h_.1))) hb); replace BK244 := Aside0.mk (blk_below (g := gb244) (o := .cells #[.slice A0_0 l0_0.length c0_0] 24 (0, 0)) (by (with_reducible repeat (first | refine blk_drewN ?_ _ | refine blk_drew ?_ | refine blk_alloc ?_ _)); refine blk_far ?_ NB244_271.out _; (with_reducible repeat (first | refine blk_drewN ?_ _ | refine blk_drew ?_ | refine blk_alloc ?_ _)); exact BK244.out) hb); replace BK245 := Aside0.mk (blk_below (g := gb245) (o := .cells #[.slice A2_0 l2_0.length c2_0] 24 (0, 0)) (by (with_reducible repeat (first | refine blk_drewN ?_ _ | refine blk_drew ?_ | refine blk_alloc ?_ _)); refine blk_far ?_ NB245_271.out _; (with_reducible repeat (first | refine blk_drewN ?_ _ | refine blk_drew ?_ | refine blk_alloc ?_ _)); exact BK245.out) hb); replace BK258 := Aside0.mk (blk_below (g := gb258) (o := .cells #[.slice Ao42 t254.length co42] 28 (0, 0)) (by (with_reducible repeat (first | refine blk_drewN ?_ _ | refine blk_drew ?_ | refine blk_alloc ?_ _)); refine blk_far ?_ NB258_271.out _; (with_reducible repeat (first | refine blk_drewN ?_ _ | refine blk_drew ?_ | refine blk_alloc ?_ _)); exact BK258.out) hb); replace BK262 := Aside0.mk (blk_below (g := gb262) (o := .cells #[.slice Ao48 t259.length co48] 28 (0, 0)) (by (with_reducible repeat (first | refine blk_drewN ?_ _ | refine blk_drew ?_ | refine blk_alloc ?_ _)); refine blk_far ?_ NB262_271.out _; (with_reducible repeat (first | refine blk_drewN ?_ _ | refine blk_drew ?_ | refine blk_alloc ?_ _)); exact BK262.out) hb); replace BK266 := Aside0.mk (blk_below (g := gb266) (o := .cells #[.slice Ao57 t263.length co57] 28 (0, 0)) (by (with_reducible repeat (first | refine blk_drewN ?_ _ | refine blk_drew ?_ | refine blk_alloc ?_ _)); refine blk_far ?_ NB266_271.out _; (with_reducible repeat (first | refine blk_drewN ?_ _ | refine blk_drew ?_ | refine blk_alloc ?_ _)); exact BK266.out) hb); replace BK271 := Aside0.mk (blk_below (g := gb271) (o := .cells #[.slice Ao66 t267.length co66] 28 (0, 0)) (by (with_reducible repeat (first | refine blk_drewN ?_ _ | refine blk_drew ?_ | refine blk_alloc ?_ _)); refine blk_put (cs := #[.slice none 0 0]) ?_ 0 _ rfl; (with_reducible repeat (first | refine blk_drewN ?_ _ | refine blk_drew ?_ | refine blk_alloc ?_ _)); exact BK271.out) hb); replace HB := sB HB hb; (try clear hb); (try clear hb2); (try clear hk); (try clear hi)))
     go_meet
     case rel => exact ⟨_, ((t270 != t257)), (by first | rfl | (simp; done) | (simp [*]; done)), H', ⟨by first | omega | exact Nat.le_refl _⟩, ⟨by (with_reducible repeat (first | apply Kd.R_alloc | apply Kd.R_drewN | apply Kd.R_drew)); exact Kd.R_mono HO256.out (fun _ hk => ⟨hk.1.1.2, ⟨hk.1.2, hk.2⟩⟩)⟩, ⟨by (with_reducible repeat (first | apply Kd.R_alloc | apply Kd.R_drewN | apply Kd.R_drew)); exact Kd.R_mono HO261.out (fun _ hk => ⟨hk.1.1.2, ⟨hk.1.2, hk.2⟩⟩)⟩, ⟨by (with_reducible repeat (first | apply Kd.R_alloc | apply Kd.R_drewN | apply Kd.R_drew)); exact Kd.R_mono HO265.out (fun _ hk => ⟨hk.1.1.2, ⟨hk.1.2, hk.2⟩⟩)⟩, ⟨by (with_reducible repeat (first | apply Kd.R_alloc | apply Kd.R_drewN | apply Kd.R_drew)); exact Kd.R_mono HO269.out (fun _ hk => ⟨hk.1.1.2, ⟨hk.1.2, hk.2⟩⟩)⟩, ⟨by (with_reducible repeat (first | refine blk_drewN ?_ _ | refine blk_drew ?_ | refine blk_alloc ?_ _)); exact BK244.out⟩, ⟨by (with_reducible repeat (first | refine blk_drewN ?_ _ | refine blk_drew ?_ | refine blk_alloc ?_ _)); exact BK245.out⟩, ⟨by (with_reducible repeat (first | refine blk_drewN ?_ _ | refine blk_drew ?_ | refine blk_alloc ?_ _)); exact BK258.out⟩, ⟨by (with_reducible repeat (first | refine blk_drewN ?_ _ | refine blk_drew ?_ | refine blk_alloc ?_ _)); exact BK262.out⟩, ⟨by (with_reducible repeat (first | refine blk_drewN ?_ _ | refine blk_drew ?_ | refine blk_alloc ?_ _)); exact BK266.out⟩, ⟨by (with_reducible repeat (first | refine blk_drewN ?_ _ | refine blk_drew ?_ | refine blk_alloc ?_ _)); exact BK271.out⟩, ⟨by repeat (first | (with_reducible first | exact HB.out | apply below_alloc | apply pw_below_drewN | apply below_drew1 | refine below_set ?_ GE244.out | refine below_set ?_ GE245.out | refine below_set ?_ GE258.out | refine below_set ?_ GE262.out | refine below_set ?_ GE266.out | refine below_set ?_ GE271.out) | exact HB.out)⟩⟩
    ·replace c74 := Bool.eq_false_iff.mpr c74
     subst c74
     have H1 : (laws_FnExactGrowOn.j0 k a1 t257 t270 true l0_0 l2_0 t254 t259 t263 t267) = some r := by rw [if_neg (show ¬ (false = true) by decide)] at H; exact H
     exfalso
     cases k with
     | zero => simp [laws_FnExactGrowOn.j0] at H1
     | succ n_ =>
      simp only [laws_FnExactGrowOn.j0, if_true] at H1
      exact absurd ((Option.some.inj H1).trans hr_.out) (by decide)
   case rest =>
    clear HC26
    try clear c2
    try clear p2
    try clear c4
    try clear c5
    try clear c6
    try clear c7
    try clear c8
    try clear c9
    try clear c44
    try clear c49
    try clear c50
    try clear c51
    try clear c53
    try clear c58
    try clear c59
    try clear c60
    try clear c61
    try clear c67
    try clear c68
    try clear c69
    try clear c70
    try clear c71
    try clear c74
    try clear c75
    try clear c76
    try clear c77
    try clear c78
    try clear c79
    try clear c81
    try clear c82
    try clear c83
    try clear c84
    try clear c87
    try clear c88
    try clear c89
    try clear c90
    try clear c91
    try clear c93
    try clear c94
    try clear c95
    try clear c96
    try clear hcz45_0
    try clear hcz52_0
    try clear hcz54_0
    try clear hcz62_0
    try clear hcz63_0
    try clear hcz72_0
    try clear hcz80_0
    try clear hcz85_0
    try clear hcz92_0
    try clear hcz97_0
    try clear hfz45_0
    try clear hfz52_0
    try clear hfz54_0
    try clear hfz62_0
    try clear hfz63_0
    try clear hfz72_0
    try clear hfz80_0
    try clear hfz85_0
    try clear hfz92_0
    try clear hfz97_0
    obtain ⟨kq, x57_25, rfl, HA, HJ25, HO_259000, HO_263000, HO_267000, HO_272000, BK244, BK245, BK258, BK262, BK266, BK271, HB⟩ := hcut
    cases kq with
    | zero => exact absurd HA.out (by simp [laws_FnExactGrowOn.j0])
    | succ kj25 =>
     have H := HA.out
     clear HA
     simp only [laws_FnExactGrowOn.j0] at H
     by_cases c99 : x57_25 = true
     ·subst c99
      have H1 : (some false) = some r := by rw [if_pos rfl] at H; exact H
      exact absurd ((Option.some.inj H1).trans hr_.out) (by decide)
     ·replace c99 := Bool.eq_false_iff.mpr c99
      subst c99
      have H1 : ((laws_toPicture.f kj25 l0_0).bind fun t273 => ((laws_eqPicture.f kj25 t259 t273).bind fun t276 => (if t276 = true then ((laws_toPicture.f kj25 l2_0).bind fun t277 => ((laws_eqPicture.f kj25 t263 t277).bind fun t280 => (if t280 = true then ((laws_markPicture.f kj25 t259 1).bind fun bt281 => ((laws_markPicture.f kj25 t263 bt281.1).bind fun bt283 => (if bt283.1 < 0 then (laws_FnExactGrowOn.j1 kj25 a1 t257 true l0_0 l2_0 t254 t267) else ((laws_eqPicture.f kj25 t267 t254).bind fun t285 => (if t285 = true then (laws_FnExactGrowOn.j1 kj25 a1 t257 (t270 != t257) l0_0 l2_0 t254 t267) else (laws_FnExactGrowOn.j1 kj25 a1 t257 true l0_0 l2_0 t254 t267)))))) else (some false)))) else (some false)))) = some r := by rw [if_neg (show ¬ (false = true) by decide)] at H; exact H
      clear H
      have H := H1
      clear H1
      replace H := Option.bind_eq_some_iff.mp H
      obtain ⟨t273, A1000, H⟩ := H
      replace H : ((laws_eqPicture.f kj25 t259 t273).bind fun t276 => (if t276 = true then ((laws_toPicture.f kj25 l2_0).bind fun t277 => ((laws_eqPicture.f kj25 t263 t277).bind fun t280 => (if t280 = true then ((laws_markPicture.f kj25 t259 1).bind fun bt281 => ((laws_markPicture.f kj25 t263 bt281.1).bind fun bt283 => (if bt283.1 < 0 then (laws_FnExactGrowOn.j1 kj25 a1 t257 true l0_0 l2_0 t254 t267) else ((laws_eqPicture.f kj25 t267 t254).bind fun t285 => (if t285 = true then (laws_FnExactGrowOn.j1 kj25 a1 t257 (t270 != t257) l0_0 l2_0 t254 t267) else (laws_FnExactGrowOn.j1 kj25 a1 t257 true l0_0 l2_0 t254 t267)))))) else (some false)))) else (some false))) = some r := H
      have A100 := Aside0.mk A1000
      clear A1000
      replace H := Option.bind_eq_some_iff.mp H
      obtain ⟨t276, A1010, H⟩ := H
      replace H : (if t276 = true then ((laws_toPicture.f kj25 l2_0).bind fun t277 => ((laws_eqPicture.f kj25 t263 t277).bind fun t280 => (if t280 = true then ((laws_markPicture.f kj25 t259 1).bind fun bt281 => ((laws_markPicture.f kj25 t263 bt281.1).bind fun bt283 => (if bt283.1 < 0 then (laws_FnExactGrowOn.j1 kj25 a1 t257 true l0_0 l2_0 t254 t267) else ((laws_eqPicture.f kj25 t267 t254).bind fun t285 => (if t285 = true then (laws_FnExactGrowOn.j1 kj25 a1 t257 (t270 != t257) l0_0 l2_0 t254 t267) else (laws_FnExactGrowOn.j1 kj25 a1 t257 true l0_0 l2_0 t254 t267)))))) else (some false)))) else (some false)) = some r := H
      have A101 := Aside0.mk A1010
      clear A1010
      by_cases c102 : t276 = true
      ·subst c102
       have H1 : ((laws_toPicture.f kj25 l2_0).bind fun t277 => ((laws_eqPicture.f kj25 t263 t277).bind fun t280 => (if t280 = true then ((laws_markPicture.f kj25 t259 1).bind fun bt281 => ((laws_markPicture.f kj25 t263 bt281.1).bind fun bt283 => (if bt283.1 < 0 then (laws_FnExactGrowOn.j1 kj25 a1 t257 true l0_0 l2_0 t254 t267) else ((laws_eqPicture.f kj25 t267 t254).bind fun t285 => (if t285 = true then (laws_FnExactGrowOn.j1 kj25 a1 t257 (t270 != t257) l0_0 l2_0 t254 t267) else (laws_FnExactGrowOn.j1 kj25 a1 t257 true l0_0 l2_0 t254 t267)))))) else (some false)))) = some r := by rw [if_pos rfl] at H; exact H
       clear H
       have H := H1
       clear H1
       replace H := Option.bind_eq_some_iff.mp H
       obtain ⟨t277, A1030, H⟩ := H
       replace H : ((laws_eqPicture.f kj25 t263 t277).bind fun t280 => (if t280 = true then ((laws_markPicture.f kj25 t259 1).bind fun bt281 => ((laws_markPicture.f kj25 t263 bt281.1).bind fun bt283 => (if bt283.1 < 0 then (laws_FnExactGrowOn.j1 kj25 a1 t257 true l0_0 l2_0 t254 t267) else ((laws_eqPicture.f kj25 t267 t254).bind fun t285 => (if t285 = true then (laws_FnExactGrowOn.j1 kj25 a1 t257 (t270 != t257) l0_0 l2_0 t254 t267) else (laws_FnExactGrowOn.j1 kj25 a1 t257 true l0_0 l2_0 t254 t267)))))) else (some false))) = some r := H
       have A103 := Aside0.mk A1030
       clear A1030
       replace H := Option.bind_eq_some_iff.mp H
       obtain ⟨t280, A1040, H⟩ := H
       replace H : (if t280 = true then ((laws_markPicture.f kj25 t259 1).bind fun bt281 => ((laws_markPicture.f kj25 t263 bt281.1).bind fun bt283 => (if bt283.1 < 0 then (laws_FnExactGrowOn.j1 kj25 a1 t257 true l0_0 l2_0 t254 t267) else ((laws_eqPicture.f kj25 t267 t254).bind fun t285 => (if t285 = true then (laws_FnExactGrowOn.j1 kj25 a1 t257 (t270 != t257) l0_0 l2_0 t254 t267) else (laws_FnExactGrowOn.j1 kj25 a1 t257 true l0_0 l2_0 t254 t267)))))) else (some false)) = some r := H
       have A104 := Aside0.mk A1040
       clear A1040
       by_cases c105 : t280 = true
       ·subst c105
        have H1 : ((laws_markPicture.f kj25 t259 1).bind fun bt281 => ((laws_markPicture.f kj25 t263 bt281.1).bind fun bt283 => (if bt283.1 < 0 then (laws_FnExactGrowOn.j1 kj25 a1 t257 true l0_0 l2_0 t254 t267) else ((laws_eqPicture.f kj25 t267 t254).bind fun t285 => (if t285 = true then (laws_FnExactGrowOn.j1 kj25 a1 t257 (t270 != t257) l0_0 l2_0 t254 t267) else (laws_FnExactGrowOn.j1 kj25 a1 t257 true l0_0 l2_0 t254 t267)))))) = some r := by rw [if_pos rfl] at H; exact H
        clear H
        have H := H1
        clear H1
        replace H := Option.bind_eq_some_iff.mp H
        obtain ⟨⟨t281, t282⟩, A1060, H⟩ := H
        replace H : ((laws_markPicture.f kj25 t263 t281).bind fun bt283 => (if bt283.1 < 0 then (laws_FnExactGrowOn.j1 kj25 a1 t257 true l0_0 l2_0 t254 t267) else ((laws_eqPicture.f kj25 t267 t254).bind fun t285 => (if t285 = true then (laws_FnExactGrowOn.j1 kj25 a1 t257 (t270 != t257) l0_0 l2_0 t254 t267) else (laws_FnExactGrowOn.j1 kj25 a1 t257 true l0_0 l2_0 t254 t267))))) = some r := H
        have A106 := Aside0.mk A1060
        clear A1060
        replace H := Option.bind_eq_some_iff.mp H
        obtain ⟨⟨t283, t284⟩, A1070, H⟩ := H
        replace H : (if t283 < 0 then (laws_FnExactGrowOn.j1 kj25 a1 t257 true l0_0 l2_0 t254 t267) else ((laws_eqPicture.f kj25 t267 t254).bind fun t285 => (if t285 = true then (laws_FnExactGrowOn.j1 kj25 a1 t257 (t270 != t257) l0_0 l2_0 t254 t267) else (laws_FnExactGrowOn.j1 kj25 a1 t257 true l0_0 l2_0 t254 t267)))) = some r := H
        have A107 := Aside0.mk A1070
        clear A1070
        have HC108 := Aside0.mk H
        clear H
        try go_wp2
        replace HO_259000 := Aside0.mk (Kd.R_drew HO_259000.out)
        replace HO_263000 := Aside0.mk (Kd.R_drew HO_263000.out)
        replace HO_267000 := Aside0.mk (Kd.R_drew HO_267000.out)
        replace HO_272000 := Aside0.mk (Kd.R_drew HO_272000.out)
        replace BK244 := Aside0.mk (blk_drew BK244.out)
        replace BK245 := Aside0.mk (blk_drew BK245.out)
        replace BK258 := Aside0.mk (blk_drew BK258.out)
        replace BK262 := Aside0.mk (blk_drew BK262.out)
        replace BK266 := Aside0.mk (blk_drew BK266.out)
        replace BK271 := Aside0.mk (blk_drew BK271.out)
        replace HB := Aside0.mk (below_drew1 HB.out)
        refine start_ (n := 5) (S := fun w' => w'.cell? ⟨gb262, 0, none⟩ = some (.slice Ao48 t259.length co48) ∧ w'.cell? ⟨gb244, 0, none⟩ = some (.slice A0_0 l0_0.length c0_0)) (ds := []) #[false, false, false, false, false] (by kernel_rfl) rfl rfl ⟨(blk_cell BK262.out 0).trans rfl, (blk_cell BK244.out 0).trans rfl⟩ (fun hHeld => ?_)
        generalize wc.drew = w109 at HO_259000 HO_263000 HO_267000 HO_272000 BK244 BK245 BK258 BK262 BK266 BK271 HB hHeld ⊢
        refine take_ (i := 0) (N := some 58) (v := ?_) (a' := ?_) #[true, false, false, false, false] rfl rfl (by kernel_rfl) (fun _ _ _ h => h) (Or.inl ⟨by rfl, ?_⟩) hHeld ?_ ?_
        rotate_left
        ·rintro w' ⟨s0, s1⟩
         go_simp
         with_reducible rfl
        rotate_left
        ·simp only [Act.put, List.setIfInBounds_toArray, List.set_cons_zero, List.set_cons_succ, i64_w, i32_w]
         rfl
        refine take_ (i := 1) (N := some 59) (v := ?_) (a' := ?_) #[true, true, false, false, false] rfl rfl (by kernel_rfl) (fun _ _ _ h => h) (Or.inl ⟨by rfl, ?_⟩) hHeld ?_ ?_
        rotate_left
        ·rintro w' ⟨s0, s1⟩
         go_simp
         with_reducible rfl
        rotate_left
        ·simp only [Act.put, List.setIfInBounds_toArray, List.set_cons_zero, List.set_cons_succ, i64_w, i32_w]
         rfl
        refine one_ (i := 2) (N := some 60) #[true, true, true, false, false] rfl rfl (by kernel_rfl) (by decide) (fun K hK => ?_)
        refine goes_ Try.func7 (by kernel_rfl) rfl #[.agg #[.slice A0_0 l0_0.length c0_0]] (by rfl) rfl rfl (by (try simp only [List.map_toArray, List.map_cons, List.map_nil]); first | done | rfl) ?_
        with_reducible refine (laws_toPicture.calls kj25 _ _ l0_0 t273 _ ?side1 ?side2 A100.out).mono ?_
        (case side1 => exact cT (Kd.C_below HR0_0.out HB.out))
        (case side2 => exact HC0_0.out)
        rintro e w110 ⟨v274, rfl, ho0, hb⟩
        refine ⟨_, rfl, ?_⟩
        have HO275 := Aside0.mk (Kd.R_lower (Kd.R_new' (Kd.R_new' (Kd.R_new' (Kd.R_new' ho0 (Kd.R_lt (rT HO_259000))) (Kd.R_lt (rT HO_263000))) (Kd.R_lt (rT HO_267000))) (Kd.R_lt (rT HO_272000))) (below_size (sT HB)))
        replace HO_259000 := Aside0.mk (Kd.R_elder' (rT HO_259000) (Kd.R_base ho0) hb)
        replace HO_263000 := Aside0.mk (Kd.R_elder' (rT HO_263000) (Kd.R_base ho0) hb)
        replace HO_267000 := Aside0.mk (Kd.R_elder' (rT HO_267000) (Kd.R_base ho0) hb)
        replace HO_272000 := Aside0.mk (Kd.R_elder' (rT HO_272000) (Kd.R_base ho0) hb)
        replace BK244 := bA BK244 hb
        replace BK245 := bA BK245 hb
        replace BK258 := bA BK258 hb
        replace BK262 := bA BK262 hb
        replace BK266 := bA BK266 hb
        replace BK271 := bA BK271 hb
        replace HB := sB HB hb
        (try clear hb)
        (try clear hb2)
        (try clear hk)
        (try clear hi)
        (try clear ho0)
        obtain ⟨Ao111, co111, eo111⟩ := Kd.R_slice HO275.out
        (first | subst eo111 | (injection eo111 with f1_ f2_ f3_; have f4_ := f1_.symm; have f5_ := f3_.symm; clear f1_ f2_ f3_; subst f4_; subst f5_))
        refine hK.out _ _ ⟨(blk_cell BK262.out 0).trans rfl, (blk_cell BK244.out 0).trans rfl⟩ (fun hHeld => ?_)
        clear hK K
        refine norm_ (a' := ?_) ?_ ?_
        rotate_left
        ·show Act.put _ (some 60) _ = _
         simp only [Act.put, List.setIfInBounds_toArray, List.set_cons_zero, List.set_cons_succ, i64_w, i32_w]
         rfl
        refine one_ (i := 3) (N := some 61) #[true, true, true, true, false] rfl rfl (by kernel_rfl) (by decide) (fun K hK => ?_)
        refine goes_ Try.func9 (by kernel_rfl) rfl #[.agg #[.slice Ao48 t259.length co48], .agg #[.slice Ao111 t273.length co111]] (by rfl) rfl rfl (by (try simp only [List.map_toArray, List.map_cons, List.map_nil]); first | done | rfl) ?_
        with_reducible refine (laws_eqPicture.calls kj25 _ _ t259 _ _ t273 true _ ?side1 ?side2 ?side3 ?side4 A101.out).mono ?_
        (case side1 => exact cT (Kd.R_reads' HO_263000.out).2.2)
        (case side2 => exact (Kd.R_reads' HO_263000.out).2.1)
        (case side3 => exact cT (Kd.R_reads' HO275.out).2.2)
        (case side4 => exact (Kd.R_reads' HO275.out).2.1)
        rintro e w112 ⟨rfl, hb⟩
        refine ⟨_, rfl, ?_⟩
        replace HO_259000 := rA HO_259000 hb
        replace HO_263000 := rA HO_263000 hb
        replace HO_267000 := rA HO_267000 hb
        replace HO_272000 := rA HO_272000 hb
        replace HO275 := rA HO275 hb
        replace BK244 := bA BK244 hb
        replace BK245 := bA BK245 hb
        replace BK258 := bA BK258 hb
        replace BK262 := bA BK262 hb
        replace BK266 := bA BK266 hb
        replace BK271 := bA BK271 hb
        replace HB := sB HB hb
        (try clear hb)
        (try clear hb2)
        (try clear hk)
        (try clear hi)
        refine hK.out _ _ ⟨(blk_cell BK262.out 0).trans rfl, (blk_cell BK244.out 0).trans rfl⟩ (fun hHeld => ?_)
        clear hK K
        refine norm_ (a' := ?_) ?_ ?_
        rotate_left
        ·show Act.put _ (some 61) _ = _
         simp only [Act.put, List.setIfInBounds_toArray, List.set_cons_zero, List.set_cons_succ, i64_w, i32_w]
         rfl
        refine pure_ (i := 4) (N := some 62) (v := ?_) (a' := ?_) #[true, true, true, true, true] rfl rfl (by kernel_rfl) (fun _ _ _ h => h) (Or.inl ⟨by rfl, ?_⟩) ?_ ?_
        rotate_left
        ·intro w'
         go_simp
         with_reducible rfl
        rotate_left
        ·simp only [Act.put, List.setIfInBounds_toArray, List.set_cons_zero, List.set_cons_succ, i64_w, i32_w]
         rfl
        refine done_ (by kernel_rfl) ?_
        try go_wp2
        replace HO_259000 := Aside0.mk (Kd.R_drew HO_259000.out)
        replace HO_263000 := Aside0.mk (Kd.R_drew HO_263000.out)
        replace HO_267000 := Aside0.mk (Kd.R_drew HO_267000.out)
        replace HO_272000 := Aside0.mk (Kd.R_drew HO_272000.out)
        replace HO275 := Aside0.mk (Kd.R_drew HO275.out)
        replace BK244 := Aside0.mk (blk_drew BK244.out)
        replace BK245 := Aside0.mk (blk_drew BK245.out)
        replace BK258 := Aside0.mk (blk_drew BK258.out)
        replace BK262 := Aside0.mk (blk_drew BK262.out)
        replace BK266 := Aside0.mk (blk_drew BK266.out)
        replace BK271 := Aside0.mk (blk_drew BK271.out)
        replace HB := Aside0.mk (below_drew1 HB.out)
        refine start_ (n := 5) (S := fun w' => w'.cell? ⟨gb266, 0, none⟩ = some (.slice Ao57 t263.length co57) ∧ w'.cell? ⟨gb245, 0, none⟩ = some (.slice A2_0 l2_0.length c2_0)) (ds := []) #[false, false, false, false, false] (by kernel_rfl) rfl rfl ⟨(blk_cell BK266.out 0).trans rfl, (blk_cell BK245.out 0).trans rfl⟩ (fun hHeld => ?_)
        generalize w112.drew = w113 at HO_259000 HO_263000 HO_267000 HO_272000 HO275 BK244 BK245 BK258 BK262 BK266 BK271 HB hHeld ⊢
        refine take_ (i := 0) (N := some 63) (v := ?_) (a' := ?_) #[true, false, false, false, false] rfl rfl (by kernel_rfl) (fun _ _ _ h => h) (Or.inl ⟨by rfl, ?_⟩) hHeld ?_ ?_
        rotate_left
        ·rintro w' ⟨s0, s1⟩
         go_simp
         with_reducible rfl
        rotate_left
        ·simp only [Act.put, List.setIfInBounds_toArray, List.set_cons_zero, List.set_cons_succ, i64_w, i32_w]
         rfl
        refine take_ (i := 1) (N := some 64) (v := ?_) (a' := ?_) #[true, true, false, false, false] rfl rfl (by kernel_rfl) (fun _ _ _ h => h) (Or.inl ⟨by rfl, ?_⟩) hHeld ?_ ?_
        rotate_left
        ·rintro w' ⟨s0, s1⟩
         go_simp
         with_reducible rfl
        rotate_left
        ·simp only [Act.put, List.setIfInBounds_toArray, List.set_cons_zero, List.set_cons_succ, i64_w, i32_w]
         rfl
        refine one_ (i := 2) (N := some 65) #[true, true, true, false, false] rfl rfl (by kernel_rfl) (by decide) (fun K hK => ?_)
        refine goes_ Try.func7 (by kernel_rfl) rfl #[.agg #[.slice A2_0 l2_0.length c2_0]] (by rfl) rfl rfl (by (try simp only [List.map_toArray, List.map_cons, List.map_nil]); first | done | rfl) ?_
        with_reducible refine (laws_toPicture.calls kj25 _ _ l2_0 t277 _ ?side1 ?side2 A103.out).mono ?_
        (case side1 => exact cT (Kd.C_below HR2_0.out HB.out))
        (case side2 => exact HC2_0.out)
        rintro e w114 ⟨v278, rfl, ho0, hb⟩
        refine ⟨_, rfl, ?_⟩
        have HO279 := Aside0.mk (Kd.R_lower (Kd.R_new' (Kd.R_new' (Kd.R_new' (Kd.R_new' (Kd.R_new' ho0 (Kd.R_lt (rT HO_259000))) (Kd.R_lt (rT HO_263000))) (Kd.R_lt (rT HO_267000))) (Kd.R_lt (rT HO_272000))) (Kd.R_lt (rT HO275))) (below_size (sT HB)))
        replace HO_259000 := Aside0.mk (Kd.R_elder' (rT HO_259000) (Kd.R_base ho0) hb)
        replace HO_263000 := Aside0.mk (Kd.R_elder' (rT HO_263000) (Kd.R_base ho0) hb)
        replace HO_267000 := Aside0.mk (Kd.R_elder' (rT HO_267000) (Kd.R_base ho0) hb)
        replace HO_272000 := Aside0.mk (Kd.R_elder' (rT HO_272000) (Kd.R_base ho0) hb)
        replace HO275 := Aside0.mk (Kd.R_elder' (rT HO275) (Kd.R_base ho0) hb)
        replace BK244 := bA BK244 hb
        replace BK245 := bA BK245 hb
        replace BK258 := bA BK258 hb
        replace BK262 := bA BK262 hb
        replace BK266 := bA BK266 hb
        replace BK271 := bA BK271 hb
        replace HB := sB HB hb
        (try clear hb)
        (try clear hb2)
        (try clear hk)
        (try clear hi)
        (try clear ho0)
        obtain ⟨Ao115, co115, eo115⟩ := Kd.R_slice HO279.out
        (first | subst eo115 | (injection eo115 with f1_ f2_ f3_; have f4_ := f1_.symm; have f5_ := f3_.symm; clear f1_ f2_ f3_; subst f4_; subst f5_))
        refine hK.out _ _ ⟨(blk_cell BK266.out 0).trans rfl, (blk_cell BK245.out 0).trans rfl⟩ (fun hHeld => ?_)
        clear hK K
        refine norm_ (a' := ?_) ?_ ?_
        rotate_left
        ·show Act.put _ (some 65) _ = _
         simp only [Act.put, List.setIfInBounds_toArray, List.set_cons_zero, List.set_cons_succ, i64_w, i32_w]
         rfl
        refine one_ (i := 3) (N := some 66) #[true, true, true, true, false] rfl rfl (by kernel_rfl) (by decide) (fun K hK => ?_)
        refine goes_ Try.func9 (by kernel_rfl) rfl #[.agg #[.slice Ao57 t263.length co57], .agg #[.slice Ao115 t277.length co115]] (by rfl) rfl rfl (by (try simp only [List.map_toArray, List.map_cons, List.map_nil]); first | done | rfl) ?_
        with_reducible refine (laws_eqPicture.calls kj25 _ _ t263 _ _ t277 true _ ?side1 ?side2 ?side3 ?side4 A104.out).mono ?_
        (case side1 => exact cT (Kd.R_reads' HO_267000.out).2.2)
        (case side2 => exact (Kd.R_reads' HO_267000.out).2.1)
        (case side3 => exact cT (Kd.R_reads' HO279.out).2.2)
        (case side4 => exact (Kd.R_reads' HO279.out).2.1)
        rintro e w116 ⟨rfl, hb⟩
        refine ⟨_, rfl, ?_⟩
        replace HO_259000 := rA HO_259000 hb
        replace HO_263000 := rA HO_263000 hb
        replace HO_267000 := rA HO_267000 hb
        replace HO_272000 := rA HO_272000 hb
        replace HO275 := rA HO275 hb
        replace HO279 := rA HO279 hb
        replace BK244 := bA BK244 hb
        replace BK245 := bA BK245 hb
        replace BK258 := bA BK258 hb
        replace BK262 := bA BK262 hb
        replace BK266 := bA BK266 hb
        replace BK271 := bA BK271 hb
        replace HB := sB HB hb
        (try clear hb)
        (try clear hb2)
        (try clear hk)
        (try clear hi)
        refine hK.out _ _ ⟨(blk_cell BK266.out 0).trans rfl, (blk_cell BK245.out 0).trans rfl⟩ (fun hHeld => ?_)
        clear hK K
        refine norm_ (a' := ?_) ?_ ?_
        rotate_left
        ·show Act.put _ (some 66) _ = _
         simp only [Act.put, List.setIfInBounds_toArray, List.set_cons_zero, List.set_cons_succ, i64_w, i32_w]
         rfl
        refine pure_ (i := 4) (N := some 67) (v := ?_) (a' := ?_) #[true, true, true, true, true] rfl rfl (by kernel_rfl) (fun _ _ _ h => h) (Or.inl ⟨by rfl, ?_⟩) ?_ ?_
        rotate_left
        ·intro w'
         go_simp
         with_reducible rfl
        rotate_left
        ·simp only [Act.put, List.setIfInBounds_toArray, List.set_cons_zero, List.set_cons_succ, i64_w, i32_w]
         rfl
        refine done_ (by kernel_rfl) ?_
        have hnb117 := NB262_244.out
        have hnc117 := NB244_262.out
        have hnb118 := NB262_245.out
        have hnc118 := NB245_262.out
        have hnb119 := NB262_258.out
        have hnc119 := NB258_262.out
        have hnb120 := NB262_266.out
        have hnc120 := NB266_262.out
        have hnb121 := NB262_271.out
        have hnc121 := NB271_262.out
        have hcz122_0 : w116.cell? ⟨gb262, 0, none⟩ = some (.slice Ao48 t259.length co48) := (blk_cell BK262.out 0).trans rfl
        have hfz122_0 := blk_frozen BK262.out 0
        go_upto_region 21 with (first | ((with_reducible refine gate_callee (f := 10) rfl ?_); refine goesL_ (some 70) rfl rfl Try.func10 (by kernel_rfl) rfl #[.agg #[.slice Ao48 t259.length co48], .int .i64 1] rfl (by (try simp only [List.map_toArray, List.map_cons, List.map_nil]); first | done | rfl) ?_; (with_reducible refine (laws_markPicture.calls kj25 (fun k_ => some k_ = (.slice Ao48 t259.length co48 : Value).ownBlock) (.slice Ao48 t259.length co48) t259 1 t281 t282 w _ ?side1 ?side2 A106.out).mono ?_); (case side1 => exact sT HB); (case side2 => exact Kd.R_tight rfl HO_263000.out); rintro e w123 ⟨rfl, hy0, hb, hkp⟩; refine ⟨_, rfl, ?_⟩; replace HO_259000 := Aside0.mk (Kd.R_mono (ok' := fun k_ => some k_ ≠ (.slice Ao48 t259.length co48 : Value).ownBlock ∧ some k_ ≠ (.slice Ao57 t263.length co57 : Value).ownBlock ∧ some k_ ≠ (.slice Ao66 t267.length co66 : Value).ownBlock ∧ some k_ ≠ (.slice Ao111 t273.length co111 : Value).ownBlock ∧ some k_ ≠ (.slice Ao115 t277.length co115 : Value).ownBlock) (Kd.R_keptB (HO_259000.out) hkp (fun k_ hk_ hs_ => (hk_.1.1.1) hs_)) (fun k_ hk_ => ⟨hk_.1.1.1.1, hk_.1.1.1.2.1, hk_.1.1.1.2.2, hk_.1.1.2, hk_.1.2⟩)); replace HO_267000 := Aside0.mk (Kd.R_mono (ok' := fun k_ => some k_ ≠ (.slice Ao42 t254.length co42 : Value).ownBlock ∧ some k_ ≠ (.slice Ao48 t259.length co48 : Value).ownBlock ∧ some k_ ≠ (.slice Ao66 t267.length co66 : Value).ownBlock ∧ some k_ ≠ (.slice Ao111 t273.length co111 : Value).ownBlock ∧ some k_ ≠ (.slice Ao115 t277.length co115 : Value).ownBlock) (Kd.R_keptB (HO_267000.out) hkp (fun k_ hk_ hs_ => (hk_.1.1.2.1) hs_)) (fun k_ hk_ => ⟨hk_.1.1.1.1, hk_.1.1.1.2.1, hk_.1.1.1.2.2, hk_.1.1.2, hk_.1.2⟩)); replace HO_272000 := Aside0.mk (Kd.R_mono (ok' := fun k_ => some k_ ≠ (.slice Ao42 t254.length co42 : Value).ownBlock ∧ some k_ ≠ (.slice Ao48 t259.length co48 : Value).ownBlock ∧ some k_ ≠ (.slice Ao57 t263.length co57 : Value).ownBlock ∧ some k_ ≠ (.slice Ao111 t273.length co111 : Value).ownBlock ∧ some k_ ≠ (.slice Ao115 t277.length co115 : Value).ownBlock) (Kd.R_keptB (HO_272000.out) hkp (fun k_ hk_ hs_ => (hk_.1.1.2.1) hs_)) (fun k_ hk_ => ⟨hk_.1.1.1.1, hk_.1.1.1.2.1, hk_.1.1.1.2.2, hk_.1.1.2, hk_.1.2⟩)); replace BK244 := Aside0.mk (blk_kept (by first | exact BK244.out | exact blk_alloc BK244.out _) hkp (fun hs_ => (fun e_ => (Kd.R_ne HO_263000.out BK244.out (by decide)) e_) hs_)); replace BK245 := Aside0.mk (blk_kept (by first | exact BK245.out | exact blk_alloc BK245.out _) hkp (fun hs_ => (fun e_ => (Kd.R_ne HO_263000.out BK245.out (by decide)) e_) hs_)); replace BK258 := Aside0.mk (blk_kept (by first | exact BK258.out | exact blk_alloc BK258.out _) hkp (fun hs_ => (fun e_ => (Kd.R_ne HO_263000.out BK258.out (by decide)) e_) hs_)); replace BK262 := Aside0.mk (blk_kept (by first | exact BK262.out | exact blk_alloc BK262.out _) hkp (fun hs_ => (fun e_ => (Kd.R_ne HO_263000.out BK262.out (by decide)) e_) hs_)); replace BK266 := Aside0.mk (blk_kept (by first | exact BK266.out | exact blk_alloc BK266.out _) hkp (fun hs_ => (fun e_ => (Kd.R_ne HO_263000.out BK266.out (by decide)) e_) hs_)); replace BK271 := Aside0.mk (blk_kept (by first | exact BK271.out | exact blk_alloc BK271.out _) hkp (fun hs_ => (fun e_ => (Kd.R_ne HO_263000.out BK271.out (by decide)) e_) hs_)); replace HO_263000 := Aside0.mk (Kd.R_reok rfl hy0 (fun k_ e_ => HO_263000.out.1 k_ e_)); replace HO275 := Aside0.mk (Kd.R_mono (ok' := fun k_ => some k_ ≠ (.slice Ao42 t254.length co42 : Value).ownBlock ∧ some k_ ≠ (.slice Ao48 t259.length co48 : Value).ownBlock ∧ some k_ ≠ (.slice Ao57 t263.length co57 : Value).ownBlock ∧ some k_ ≠ (.slice Ao66 t267.length co66 : Value).ownBlock ∧ some k_ ≠ (.slice Ao115 t277.length co115 : Value).ownBlock) (Kd.R_keptB (HO275.out) hkp (fun k_ hk_ hs_ => (hk_.1.1.1.2) hs_)) (fun k_ hk_ => ⟨hk_.1.1.1.1.1.2, hk_.1.1.1.1.2, hk_.1.1.1.2, hk_.1.1.2, hk_.1.2⟩)); replace HO279 := Aside0.mk (Kd.R_mono (ok' := fun k_ => some k_ ≠ (.slice Ao42 t254.length co42 : Value).ownBlock ∧ some k_ ≠ (.slice Ao48 t259.length co48 : Value).ownBlock ∧ some k_ ≠ (.slice Ao57 t263.length co57 : Value).ownBlock ∧ some k_ ≠ (.slice Ao66 t267.length co66 : Value).ownBlock ∧ some k_ ≠ (.slice Ao111 t273.length co111 : Value).ownBlock) (Kd.R_keptB (HO279.out) hkp (fun k_ hk_ hs_ => (hk_.1.1.1.2) hs_)) (fun k_ hk_ => ⟨hk_.1.1.1.1.1.2, hk_.1.1.1.1.2, hk_.1.1.1.2, hk_.1.1.2, hk_.1.2⟩)); replace HB := Aside0.mk (hb); (try clear hb); (try clear hkp); (try clear hy0); have hnb124 := NB266_244.out; have hnc124 := NB244_266.out; have hnb125 := NB266_245.out; have hnc125 := NB245_266.out; have hnb126 := NB266_258.out; have hnc126 := NB258_266.out; have hnb127 := NB266_271.out; have hnc127 := NB271_266.out; have hcz128_0 : w123.cell? ⟨gb266, 0, none⟩ = some (.slice Ao57 t263.length co57) := (blk_cell BK266.out 0).trans rfl; have hfz128_0 := blk_frozen BK266.out 0) | ((with_reducible refine gate_callee (f := 10) rfl ?_); refine goesL_ (some 73) rfl rfl Try.func10 (by kernel_rfl) rfl #[.agg #[.slice Ao57 t263.length co57], .int .i64 t281] rfl (by (try simp only [List.map_toArray, List.map_cons, List.map_nil]); first | done | rfl) ?_; (with_reducible refine (laws_markPicture.calls kj25 (fun k_ => some k_ = (.slice Ao57 t263.length co57 : Value).ownBlock) (.slice Ao57 t263.length co57) t263 t281 t283 t284 w _ ?side1 ?side2 A107.out).mono ?_); (case side1 => exact sT HB); (case side2 => exact Kd.R_tight rfl HO_267000.out); rintro e w129 ⟨rfl, hy0, hb, hkp⟩; refine ⟨_, rfl, ?_⟩; replace HO_259000 := Aside0.mk (Kd.R_mono (ok' := fun k_ => some k_ ≠ (.slice Ao48 t259.length co48 : Value).ownBlock ∧ some k_ ≠ (.slice Ao57 t263.length co57 : Value).ownBlock ∧ some k_ ≠ (.slice Ao66 t267.length co66 : Value).ownBlock ∧ some k_ ≠ (.slice Ao111 t273.length co111 : Value).ownBlock ∧ some k_ ≠ (.slice Ao115 t277.length co115 : Value).ownBlock) (Kd.R_keptB (HO_259000.out) hkp (fun k_ hk_ hs_ => (hk_.2.1) hs_)) (fun k_ hk_ => ⟨hk_.1.1, hk_.1.2.1, hk_.1.2.2.1, hk_.1.2.2.2.1, hk_.1.2.2.2.2⟩)); replace HO_263000 := Aside0.mk (Kd.R_mono (ok' := fun k_ => some k_ ≠ (.slice Ao42 t254.length co42 : Value).ownBlock ∧ some k_ ≠ (.slice Ao57 t263.length co57 : Value).ownBlock ∧ some k_ ≠ (.slice Ao66 t267.length co66 : Value).ownBlock ∧ some k_ ≠ (.slice Ao111 t273.length co111 : Value).ownBlock ∧ some k_ ≠ (.slice Ao115 t277.length co115 : Value).ownBlock) (Kd.R_keptB (HO_263000.out) hkp (fun k_ hk_ hs_ => (hk_.1.1.2.1) hs_)) (fun k_ hk_ => ⟨hk_.1.1.1.1, hk_.1.1.1.2.1, hk_.1.1.1.2.2, hk_.1.1.2, hk_.1.2⟩)); replace HO_272000 := Aside0.mk (Kd.R_mono (ok' := fun k_ => some k_ ≠ (.slice Ao42 t254.length co42 : Value).ownBlock ∧ some k_ ≠ (.slice Ao48 t259.length co48 : Value).ownBlock ∧ some k_ ≠ (.slice Ao57 t263.length co57 : Value).ownBlock ∧ some k_ ≠ (.slice Ao111 t273.length co111 : Value).ownBlock ∧ some k_ ≠ (.slice Ao115 t277.length co115 : Value).ownBlock) (Kd.R_keptB (HO_272000.out) hkp (fun k_ hk_ hs_ => (hk_.2.2.1) hs_)) (fun k_ hk_ => ⟨hk_.1.1, hk_.1.2.1, hk_.1.2.2.1, hk_.1.2.2.2.1, hk_.1.2.2.2.2⟩)); replace BK244 := Aside0.mk (blk_kept (by first | exact BK244.out | exact blk_alloc BK244.out _) hkp (fun hs_ => (fun e_ => (Kd.R_ne HO_267000.out BK244.out (by decide)) e_) hs_)); replace BK245 := Aside0.mk (blk_kept (by first | exact BK245.out | exact blk_alloc BK245.out _) hkp (fun hs_ => (fun e_ => (Kd.R_ne HO_267000.out BK245.out (by decide)) e_) hs_)); replace BK258 := Aside0.mk (blk_kept (by first | exact BK258.out | exact blk_alloc BK258.out _) hkp (fun hs_ => (fun e_ => (Kd.R_ne HO_267000.out BK258.out (by decide)) e_) hs_)); replace BK262 := Aside0.mk (blk_kept (by first | exact BK262.out | exact blk_alloc BK262.out _) hkp (fun hs_ => (fun e_ => (Kd.R_ne HO_267000.out BK262.out (by decide)) e_) hs_)); replace BK266 := Aside0.mk (blk_kept (by first | exact BK266.out | exact blk_alloc BK266.out _) hkp (fun hs_ => (fun e_ => (Kd.R_ne HO_267000.out BK266.out (by decide)) e_) hs_)); replace BK271 := Aside0.mk (blk_kept (by first | exact BK271.out | exact blk_alloc BK271.out _) hkp (fun hs_ => (fun e_ => (Kd.R_ne HO_267000.out BK271.out (by decide)) e_) hs_)); replace HO_267000 := Aside0.mk (Kd.R_reok rfl hy0 (fun k_ e_ => HO_267000.out.1 k_ e_)); replace HO275 := Aside0.mk (Kd.R_mono (ok' := fun k_ => some k_ ≠ (.slice Ao42 t254.length co42 : Value).ownBlock ∧ some k_ ≠ (.slice Ao48 t259.length co48 : Value).ownBlock ∧ some k_ ≠ (.slice Ao57 t263.length co57 : Value).ownBlock ∧ some k_ ≠ (.slice Ao66 t267.length co66 : Value).ownBlock ∧ some k_ ≠ (.slice Ao115 t277.length co115 : Value).ownBlock) (Kd.R_keptB (HO275.out) hkp (fun k_ hk_ hs_ => (hk_.2.2.1) hs_)) (fun k_ hk_ => ⟨hk_.1.1, hk_.1.2.1, hk_.1.2.2.1, hk_.1.2.2.2.1, hk_.1.2.2.2.2⟩)); replace HO279 := Aside0.mk (Kd.R_mono (ok' := fun k_ => some k_ ≠ (.slice Ao42 t254.length co42 : Value).ownBlock ∧ some k_ ≠ (.slice Ao48 t259.length co48 : Value).ownBlock ∧ some k_ ≠ (.slice Ao57 t263.length co57 : Value).ownBlock ∧ some k_ ≠ (.slice Ao66 t267.length co66 : Value).ownBlock ∧ some k_ ≠ (.slice Ao111 t273.length co111 : Value).ownBlock) (Kd.R_keptB (HO279.out) hkp (fun k_ hk_ hs_ => (hk_.2.2.1) hs_)) (fun k_ hk_ => ⟨hk_.1.1, hk_.1.2.1, hk_.1.2.2.1, hk_.1.2.2.2.1, hk_.1.2.2.2.2⟩)); replace HB := Aside0.mk (hb); (try clear hb); (try clear hkp); (try clear hy0)))
        (try simp only [Act.put, List.setIfInBounds_toArray, List.set_cons_zero, List.set_cons_succ])
        go_cut [86] (fun v86 wc => ∃ (kq : Nat) (x86_107 : Bool), v86 = .bool x86_107 ∧ Aside0 (laws_FnExactGrowOn.j1 kq a1 t257 x86_107 l0_0 l2_0 t254 t267 = some r) ∧ Aside0 (kq ≤ kj25) ∧ Aside0 (Kd.R k47 47 wc w.heap.size (fun k_ => some k_ ≠ ((.slice Ao48 t259.length co48) : Value).ownBlock ∧ some k_ ≠ ((.slice Ao57 t263.length co57) : Value).ownBlock ∧ some k_ ≠ ((.slice Ao66 t267.length co66) : Value).ownBlock) (.slice Ao42 t254.length co42) t254) ∧ Aside0 (Kd.R k47 47 wc w.heap.size (fun k_ => some k_ ≠ ((.slice Ao42 t254.length co42) : Value).ownBlock ∧ some k_ ≠ ((.slice Ao57 t263.length co57) : Value).ownBlock ∧ some k_ ≠ ((.slice Ao66 t267.length co66) : Value).ownBlock) (.slice Ao48 t259.length co48) t282) ∧ Aside0 (Kd.R k47 47 wc w.heap.size (fun k_ => some k_ ≠ ((.slice Ao42 t254.length co42) : Value).ownBlock ∧ some k_ ≠ ((.slice Ao48 t259.length co48) : Value).ownBlock ∧ some k_ ≠ ((.slice Ao66 t267.length co66) : Value).ownBlock) (.slice Ao57 t263.length co57) t284) ∧ Aside0 (Kd.R k47 47 wc w.heap.size (fun k_ => some k_ ≠ ((.slice Ao42 t254.length co42) : Value).ownBlock ∧ some k_ ≠ ((.slice Ao48 t259.length co48) : Value).ownBlock ∧ some k_ ≠ ((.slice Ao57 t263.length co57) : Value).ownBlock) (.slice Ao66 t267.length co66) t267) ∧ Aside0 (wc.heap[gb244]? = some (.cells #[(.slice A0_0 l0_0.length c0_0)] 24 (0, 0))) ∧ Aside0 (wc.heap[gb245]? = some (.cells #[(.slice A2_0 l2_0.length c2_0)] 24 (0, 0))) ∧ Aside0 (wc.heap[gb258]? = some (.cells #[(.slice Ao42 t254.length co42)] 28 (0, 0))) ∧ Aside0 (wc.heap[gb262]? = some (.cells #[(.slice Ao48 t259.length co48)] 28 (0, 0))) ∧ Aside0 (wc.heap[gb266]? = some (.cells #[(.slice Ao57 t263.length co57)] 28 (0, 0))) ∧ Aside0 (wc.heap[gb271]? = some (.cells #[(.slice Ao66 t267.length co66)] 28 (0, 0))) ∧ Aside0 (Below w.heap.size w wc))
        case first =>
         have H := HC108.out
         clear HC108
         by_cases c130 : t283 < 0
         ·rw [if_pos c130] at H
          have c130b0 : decide (t283 < 0) = true := decide_eq_true c130
          clear c130
          (first | rw [c130b0] | (simp only [i64_w, i32_w]; rw [c130b0]) | skip)
          have H' := Aside0.mk H
          clear H
          go_wp2
          go_meet
          case rel => exact ⟨_, (true), (by first | rfl | (simp; done) | (simp [*]; done)), H', ⟨by have := HJ25.out; first | omega | exact Nat.le_refl _⟩, ⟨by (with_reducible repeat (first | apply Kd.R_alloc | apply Kd.R_drewN | apply Kd.R_drew)); exact Kd.R_mono HO_259000.out (fun _ hk => ⟨hk.1, ⟨hk.2.1, hk.2.2.1⟩⟩)⟩, ⟨by (with_reducible repeat (first | apply Kd.R_alloc | apply Kd.R_drewN | apply Kd.R_drew)); exact Kd.R_mono HO_263000.out (fun _ hk => ⟨hk.1, ⟨hk.2.1, hk.2.2.1⟩⟩)⟩, ⟨by (with_reducible repeat (first | apply Kd.R_alloc | apply Kd.R_drewN | apply Kd.R_drew)); exact Kd.R_mono HO_267000.out (fun _ hk => ⟨hk.1, ⟨hk.2.1, hk.2.2.1⟩⟩)⟩, ⟨by (with_reducible repeat (first | apply Kd.R_alloc | apply Kd.R_drewN | apply Kd.R_drew)); exact Kd.R_mono HO_272000.out (fun _ hk => ⟨hk.1, ⟨hk.2.1, hk.2.2.1⟩⟩)⟩, ⟨by (with_reducible repeat (first | refine blk_drewN ?_ _ | refine blk_drew ?_ | refine blk_alloc ?_ _)); exact BK244.out⟩, ⟨by (with_reducible repeat (first | refine blk_drewN ?_ _ | refine blk_drew ?_ | refine blk_alloc ?_ _)); exact BK245.out⟩, ⟨by (with_reducible repeat (first | refine blk_drewN ?_ _ | refine blk_drew ?_ | refine blk_alloc ?_ _)); exact BK258.out⟩, ⟨by (with_reducible repeat (first | refine blk_drewN ?_ _ | refine blk_drew ?_ | refine blk_alloc ?_ _)); exact BK262.out⟩, ⟨by (with_reducible repeat (first | refine blk_drewN ?_ _ | refine blk_drew ?_ | refine blk_alloc ?_ _)); exact BK266.out⟩, ⟨by (with_reducible repeat (first | refine blk_drewN ?_ _ | refine blk_drew ?_ | refine blk_alloc ?_ _)); exact BK271.out⟩, ⟨by repeat (first | (with_reducible first | exact HB.out | apply below_alloc | apply pw_below_drewN | apply below_drew1 | refine below_set ?_ GE244.out | refine below_set ?_ GE245.out | refine below_set ?_ GE258.out | refine below_set ?_ GE262.out | refine below_set ?_ GE266.out | refine below_set ?_ GE271.out) | exact HB.out)⟩⟩
         ·rw [if_neg c130] at H
          have c130b0 : decide (t283 < 0) = false := decide_eq_false c130
          clear c130
          (first | rw [c130b0] | (simp only [i64_w, i32_w]; rw [c130b0]) | skip)
          replace H := Option.bind_eq_some_iff.mp H
          obtain ⟨t285, A1310, H⟩ := H
          replace H : (if t285 = true then (laws_FnExactGrowOn.j1 kj25 a1 t257 (t270 != t257) l0_0 l2_0 t254 t267) else (laws_FnExactGrowOn.j1 kj25 a1 t257 true l0_0 l2_0 t254 t267)) = some r := H
          have A131 := Aside0.mk A1310
          clear A1310
          by_cases c132 : t285 = true
          ·subst c132
           have H1 : (laws_FnExactGrowOn.j1 kj25 a1 t257 (t270 != t257) l0_0 l2_0 t254 t267) = some r := by rw [if_pos rfl] at H; exact H
           clear H
           have H := H1
           clear H1
           have H' := Aside0.mk H
           clear H
           have hnb133 := NB271_244.out
           have hnc133 := NB244_271.out
           have hnb134 := NB271_245.out
           have hnc134 := NB245_271.out
           have hnb135 := NB271_258.out
           have hnc135 := NB258_271.out
           have hnb136 := NB271_262.out
           have hnc136 := NB262_271.out
           have hnb137 := NB271_266.out
           have hnc137 := NB266_271.out
           have hcz138_0 : w129.cell? ⟨gb271, 0, none⟩ = some (.slice Ao66 t267.length co66) := (blk_cell BK271.out 0).trans rfl
           have hfz138_0 := blk_frozen BK271.out 0
           have hnb139 := NB258_244.out
           have hnc139 := NB244_258.out
           have hnb140 := NB258_245.out
           have hnc140 := NB245_258.out
           have hnb141 := NB258_262.out
           have hnc141 := NB262_258.out
           have hnb142 := NB258_266.out
           have hnc142 := NB266_258.out
           have hcz143_0 : w129.cell? ⟨gb258, 0, none⟩ = some (.slice Ao42 t254.length co42) := (blk_cell BK258.out 0).trans rfl
           have hfz143_0 := blk_frozen BK258.out 0
           go_wp2_with (first | (go_at_call 9; (with_reducible refine (laws_eqPicture.calls kj25 _ _ t267 _ _ t254 true _ ?side1 ?side2 ?side3 ?side4 A131.out).mono ?_); (case side1 => exact cT (Kd.R_reads' HO_272000.out).2.2); (case side2 => exact (Kd.R_reads' HO_272000.out).2.1); (case side3 => exact cT (Kd.R_reads' HO_259000.out).2.2); (case side4 => exact (Kd.R_reads' HO_259000.out).2.1); rintro e w144 ⟨rfl, hb⟩; replace HO_259000 := rA HO_259000 hb; replace HO_263000 := rA HO_263000 hb; replace HO_267000 := rA HO_267000 hb; replace HO_272000 := rA HO_272000 hb; replace HO275 := rA HO275 hb; replace HO279 := rA HO279 hb; replace BK244 := bA BK244 hb; replace BK245 := bA BK245 hb; replace BK258 := bA BK258 hb; replace BK262 := bA BK262 hb; replace BK266 := bA BK266 hb; replace BK271 := bA BK271 hb; replace HB := sB HB hb; (try clear hb); (try clear hb2); (try clear hk); (try clear hi)))
           go_meet
           case rel => exact ⟨_, ((t270 != t257)), (by first | rfl | (simp; done) | (simp [*]; done)), H', ⟨by have := HJ25.out; first | omega | exact Nat.le_refl _⟩, ⟨by (with_reducible repeat (first | apply Kd.R_alloc | apply Kd.R_drewN | apply Kd.R_drew)); exact Kd.R_mono HO_259000.out (fun _ hk => ⟨hk.1, ⟨hk.2.1, hk.2.2.1⟩⟩)⟩, ⟨by (with_reducible repeat (first | apply Kd.R_alloc | apply Kd.R_drewN | apply Kd.R_drew)); exact Kd.R_mono HO_263000.out (fun _ hk => ⟨hk.1, ⟨hk.2.1, hk.2.2.1⟩⟩)⟩, ⟨by (with_reducible repeat (first | apply Kd.R_alloc | apply Kd.R_drewN | apply Kd.R_drew)); exact Kd.R_mono HO_267000.out (fun _ hk => ⟨hk.1, ⟨hk.2.1, hk.2.2.1⟩⟩)⟩, ⟨by (with_reducible repeat (first | apply Kd.R_alloc | apply Kd.R_drewN | apply Kd.R_drew)); exact Kd.R_mono HO_272000.out (fun _ hk => ⟨hk.1, ⟨hk.2.1, hk.2.2.1⟩⟩)⟩, ⟨by (with_reducible repeat (first | refine blk_drewN ?_ _ | refine blk_drew ?_ | refine blk_alloc ?_ _)); exact BK244.out⟩, ⟨by (with_reducible repeat (first | refine blk_drewN ?_ _ | refine blk_drew ?_ | refine blk_alloc ?_ _)); exact BK245.out⟩, ⟨by (with_reducible repeat (first | refine blk_drewN ?_ _ | refine blk_drew ?_ | refine blk_alloc ?_ _)); exact BK258.out⟩, ⟨by (with_reducible repeat (first | refine blk_drewN ?_ _ | refine blk_drew ?_ | refine blk_alloc ?_ _)); exact BK262.out⟩, ⟨by (with_reducible repeat (first | refine blk_drewN ?_ _ | refine blk_drew ?_ | refine blk_alloc ?_ _)); exact BK266.out⟩, ⟨by (with_reducible repeat (first | refine blk_drewN ?_ _ | refine blk_drew ?_ | refine blk_alloc ?_ _)); exact BK271.out⟩, ⟨by repeat (first | (with_reducible first | exact HB.out | apply below_alloc | apply pw_below_drewN | apply below_drew1 | refine below_set ?_ GE244.out | refine below_set ?_ GE245.out | refine below_set ?_ GE258.out | refine below_set ?_ GE262.out | refine below_set ?_ GE266.out | refine below_set ?_ GE271.out) | exact HB.out)⟩⟩
          ·replace c132 := Bool.eq_false_iff.mpr c132
           subst c132
           have H1 : (laws_FnExactGrowOn.j1 kj25 a1 t257 true l0_0 l2_0 t254 t267) = some r := by rw [if_neg (show ¬ (false = true) by decide)] at H; exact H
           exfalso
           cases kj25 with
           | zero => simp [laws_FnExactGrowOn.j1] at H1
           | succ n_ =>
            simp only [laws_FnExactGrowOn.j1, if_true] at H1
            exact absurd ((Option.some.inj H1).trans hr_.out) (by decide)
        case rest =>
         clear HC108
         try clear c1
         try clear c2
         try clear p2
         try clear c4
         try clear c5
         try clear c6
         try clear c7
         try clear c8
         try clear c9
         try clear c10
         try clear c11
         try clear c12
         try clear c13
         try clear c14
         try clear c15
         try clear c44
         try clear c49
         try clear c50
         try clear c51
         try clear c53
         try clear c58
         try clear c59
         try clear c60
         try clear c61
         try clear c67
         try clear c68
         try clear c69
         try clear c70
         try clear c71
         try clear c74
         try clear c75
         try clear c76
         try clear c77
         try clear c78
         try clear c79
         try clear c81
         try clear c82
         try clear c83
         try clear c84
         try clear c87
         try clear c88
         try clear c89
         try clear c90
         try clear c91
         try clear c93
         try clear c94
         try clear c95
         try clear c96
         try clear c99
         try clear c102
         try clear c105
         try clear c117
         try clear c118
         try clear c119
         try clear c120
         try clear c121
         try clear c124
         try clear c125
         try clear c126
         try clear c127
         try clear c130
         try clear c130b0
         try clear c132
         try clear c133
         try clear c134
         try clear c135
         try clear c136
         try clear c137
         try clear c139
         try clear c140
         try clear c141
         try clear c142
         try clear c145
         try clear c146
         try clear c147
         try clear c148
         try clear c149
         try clear c151
         try clear c152
         try clear c153
         try clear c154
         try clear hcz122_0
         try clear hcz128_0
         try clear hcz138_0
         try clear hcz143_0
         try clear hcz150_0
         try clear hcz155_0
         try clear hcz45_0
         try clear hcz52_0
         try clear hcz54_0
         try clear hcz62_0
         try clear hcz63_0
         try clear hcz72_0
         try clear hcz80_0
         try clear hcz85_0
         try clear hcz92_0
         try clear hcz97_0
         try clear hfz122_0
         try clear hfz128_0
         try clear hfz138_0
         try clear hfz143_0
         try clear hfz150_0
         try clear hfz155_0
         try clear hfz45_0
         try clear hfz52_0
         try clear hfz54_0
         try clear hfz62_0
         try clear hfz63_0
         try clear hfz72_0
         try clear hfz80_0
         try clear hfz85_0
         try clear hfz92_0
         try clear hfz97_0
         try clear p2
         obtain ⟨kq, x86_107, rfl, HA, HJ107, HO_259000, HO_263000, HO_267000, HO_272000, BK244, BK245, BK258, BK262, BK266, BK271, HB⟩ := hcut
         have hl263000_107 := (Kd.R_reads' HO_263000.out).1
         rw [hl263000_107] at HO_263000
         (try simp only [hl263000_107])
         (try simp only [hl263000_107] at BK244)
         (try simp only [hl263000_107] at BK245)
         (try simp only [hl263000_107] at BK258)
         (try simp only [hl263000_107] at BK262)
         (try simp only [hl263000_107] at BK266)
         (try simp only [hl263000_107] at BK271)
         (try simp only [hl263000_107] at HO_259000)
         (try simp only [hl263000_107] at HO_267000)
         (try simp only [hl263000_107] at HO_272000)
         have hl267000_107 := (Kd.R_reads' HO_267000.out).1
         rw [hl267000_107] at HO_267000
         (try simp only [hl267000_107])
         (try simp only [hl267000_107] at BK244)
         (try simp only [hl267000_107] at BK245)
         (try simp only [hl267000_107] at BK258)
         (try simp only [hl267000_107] at BK262)
         (try simp only [hl267000_107] at BK266)
         (try simp only [hl267000_107] at BK271)
         (try simp only [hl267000_107] at HO_259000)
         (try simp only [hl267000_107] at HO_263000)
         (try simp only [hl267000_107] at HO_272000)
         cases kq with
         | zero => exact absurd HA.out (by simp [laws_FnExactGrowOn.j1])
         | succ kj107 =>
          have H := HA.out
          clear HA
          simp only [laws_FnExactGrowOn.j1] at H
          by_cases c157 : x86_107 = true
          ·subst c157
           have H1 : (some false) = some r := by rw [if_pos rfl] at H; exact H
           exact absurd ((Option.some.inj H1).trans hr_.out) (by decide)
          ·replace c157 := Bool.eq_false_iff.mpr c157
           subst c157
           have H1 : ((laws_markPicture.f kj107 t267 1).bind fun bt286 => ((laws_heldPicture.f kj107 bt286.2 1).bind fun t288 => (if t288 < 0 then (some false) else (if t288 = bt286.1 then ((laws_toPicture.f kj107 l0_0).bind fun t289 => ((laws_toPicture.f kj107 l2_0).bind fun t292 => ((impl_GrowOn.f kj107 t289 a1 t292).bind fun bt295 => ((laws_eqPicture.f kj107 bt295.1 t254).bind fun t300 => (if t300 = true then (laws_FnExactGrowOn.j2 kj107 bt286.1 (bt295.2 != t257) bt286.2) else (laws_FnExactGrowOn.j2 kj107 bt286.1 true bt286.2)))))) else (some false))))) = some r := by rw [if_neg (show ¬ (false = true) by decide)] at H; exact H
           clear H
           have H := H1
           clear H1
           replace H := Option.bind_eq_some_iff.mp H
           obtain ⟨⟨t286, t287⟩, A1580, H⟩ := H
           replace H : ((laws_heldPicture.f kj107 t287 1).bind fun t288 => (if t288 < 0 then (some false) else (if t288 = t286 then ((laws_toPicture.f kj107 l0_0).bind fun t289 => ((laws_toPicture.f kj107 l2_0).bind fun t292 => ((impl_GrowOn.f kj107 t289 a1 t292).bind fun bt295 => ((laws_eqPicture.f kj107 bt295.1 t254).bind fun t300 => (if t300 = true then (laws_FnExactGrowOn.j2 kj107 t286 (bt295.2 != t257) t287) else (laws_FnExactGrowOn.j2 kj107 t286 true t287)))))) else (some false)))) = some r := H
           have A158 := Aside0.mk A1580
           clear A1580
           replace H := Option.bind_eq_some_iff.mp H
           obtain ⟨t288, A1590, H⟩ := H
           replace H : (if t288 < 0 then (some false) else (if t288 = t286 then ((laws_toPicture.f kj107 l0_0).bind fun t289 => ((laws_toPicture.f kj107 l2_0).bind fun t292 => ((impl_GrowOn.f kj107 t289 a1 t292).bind fun bt295 => ((laws_eqPicture.f kj107 bt295.1 t254).bind fun t300 => (if t300 = true then (laws_FnExactGrowOn.j2 kj107 t286 (bt295.2 != t257) t287) else (laws_FnExactGrowOn.j2 kj107 t286 true t287)))))) else (some false))) = some r := H
           have A159 := Aside0.mk A1590
           clear A1590
           by_cases c160 : t288 < 0
           ·rw [if_pos c160] at H
            have c160b0 : decide (t288 < 0) = true := decide_eq_true c160
            clear c160
            try exact absurd ((Option.some.inj H).trans hr_.out) (by decide)
            all_goals
             obtain rfl := Option.some.inj H
             have hnb161 := NB271_244.out
             have hnc161 := NB244_271.out
             have hnb162 := NB271_245.out
             have hnc162 := NB245_271.out
             have hnb163 := NB271_258.out
             have hnc163 := NB258_271.out
             have hnb164 := NB271_262.out
             have hnc164 := NB262_271.out
             have hnb165 := NB271_266.out
             have hnc165 := NB266_271.out
             have hcz166_0 : wc.cell? ⟨gb271, 0, none⟩ = some (.slice Ao66 t267.length co66) := (blk_cell BK271.out 0).trans rfl
             have hfz166_0 := blk_frozen BK271.out 0
             go_wp2_with (first | ((with_reducible refine gate_callee (f := 10) rfl ?_); refine goesL_ (some 89) rfl rfl Try.func10 (by kernel_rfl) rfl #[.agg #[.slice Ao66 t267.length co66], .int .i64 1] rfl (by (try simp only [List.map_toArray, List.map_cons, List.map_nil]); first | done | rfl) ?_; (with_reducible refine (laws_markPicture.calls kj107 (fun k_ => some k_ = (.slice Ao66 t267.length co66 : Value).ownBlock) (.slice Ao66 t267.length co66) t267 1 t286 t287 w _ ?side1 ?side2 A158.out).mono ?_); (case side1 => exact sT HB); (case side2 => exact Kd.R_tight rfl HO_272000.out); rintro e w167 ⟨rfl, hy0, hb, hkp⟩; refine ⟨_, rfl, ?_⟩; replace HO_259000 := Aside0.mk (Kd.R_mono (ok' := fun k_ => some k_ ≠ (.slice Ao48 t282.length co48 : Value).ownBlock ∧ some k_ ≠ (.slice Ao57 t284.length co57 : Value).ownBlock ∧ some k_ ≠ (.slice Ao66 t267.length co66 : Value).ownBlock) (Kd.R_keptB (HO_259000.out) hkp (fun k_ hk_ hs_ => (hk_.2.2) hs_)) (fun k_ hk_ => ⟨hk_.1.1, hk_.1.2.1, hk_.1.2.2⟩)); replace HO_263000 := Aside0.mk (Kd.R_mono (ok' := fun k_ => some k_ ≠ (.slice Ao42 t254.length co42 : Value).ownBlock ∧ some k_ ≠ (.slice Ao57 t284.length co57 : Value).ownBlock ∧ some k_ ≠ (.slice Ao66 t267.length co66 : Value).ownBlock) (Kd.R_keptB (HO_263000.out) hkp (fun k_ hk_ hs_ => (hk_.2.2) hs_)) (fun k_ hk_ => ⟨hk_.1.1, hk_.1.2.1, hk_.1.2.2⟩)); replace HO_267000 := Aside0.mk (Kd.R_mono (ok' := fun k_ => some k_ ≠ (.slice Ao42 t254.length co42 : Value).ownBlock ∧ some k_ ≠ (.slice Ao48 t282.length co48 : Value).ownBlock ∧ some k_ ≠ (.slice Ao66 t267.length co66 : Value).ownBlock) (Kd.R_keptB (HO_267000.out) hkp (fun k_ hk_ hs_ => (hk_.2.2) hs_)) (fun k_ hk_ => ⟨hk_.1.1, hk_.1.2.1, hk_.1.2.2⟩)); replace BK244 := Aside0.mk (blk_kept (by first | exact BK244.out | exact blk_alloc BK244.out _) hkp (fun hs_ => (fun e_ => (Kd.R_ne HO_272000.out BK244.out (by decide)) e_) hs_)); replace BK245 := Aside0.mk (blk_kept (by first | exact BK245.out | exact blk_alloc BK245.out _) hkp (fun hs_ => (fun e_ => (Kd.R_ne HO_272000.out BK245.out (by decide)) e_) hs_)); replace BK258 := Aside0.mk (blk_kept (by first | exact BK258.out | exact blk_alloc BK258.out _) hkp (fun hs_ => (fun e_ => (Kd.R_ne HO_272000.out BK258.out (by decide)) e_) hs_)); replace BK262 := Aside0.mk (blk_kept (by first | exact BK262.out | exact blk_alloc BK262.out _) hkp (fun hs_ => (fun e_ => (Kd.R_ne HO_272000.out BK262.out (by decide)) e_) hs_)); replace BK266 := Aside0.mk (blk_kept (by first | exact BK266.out | exact blk_alloc BK266.out _) hkp (fun hs_ => (fun e_ => (Kd.R_ne HO_272000.out BK266.out (by decide)) e_) hs_)); replace BK271 := Aside0.mk (blk_kept (by first | exact BK271.out | exact blk_alloc BK271.out _) hkp (fun hs_ => (fun e_ => (Kd.R_ne HO_272000.out BK271.out (by decide)) e_) hs_)); replace HO_272000 := Aside0.mk (Kd.R_reok rfl hy0 (fun k_ e_ => HO_272000.out.1 k_ e_)); replace HB := Aside0.mk (hb); (try clear hb); (try clear hkp); (try clear hy0); have hcz168_0 : w167.cell? ⟨gb271, 0, none⟩ = some (.slice Ao66 t267.length co66) := (blk_cell BK271.out 0).trans rfl; have hfz168_0 := blk_frozen BK271.out 0) | ((with_reducible refine gate_callee (f := 11) rfl ?_); refine goesL_ (some 92) rfl rfl Try.func11 (by kernel_rfl) rfl #[.agg #[.slice Ao66 t287.length co66], .int .i64 1] rfl (by (try simp only [List.map_toArray, List.map_cons, List.map_nil]); first | done | (rw [show t287.length = t267.length from (Kd.R_reads' HO_272000.out).1.symm] <;> rfl) | rfl | (simp only [List.length_drop, List.length_take]; rfl)) ?_; (with_reducible refine (laws_heldPicture.calls kj107 _ _ t287 1 t288 _ ?side1 ?side2 A159.out).mono ?_); (case side1 => exact cT (Kd.R_reads' HO_272000.out).2.2); (case side2 => rw [show t287.length = t267.length from (Kd.R_reads' HO_272000.out).1.symm]; exact (Kd.R_reads' HO_272000.out).2.1); rintro e w169 ⟨rfl, hb⟩; refine ⟨_, rfl, ?_⟩; replace HO_259000 := rA HO_259000 hb; replace HO_263000 := rA HO_263000 hb; replace HO_267000 := rA HO_267000 hb; replace HO_272000 := rA HO_272000 hb; replace BK244 := bA BK244 hb; replace BK245 := bA BK245 hb; replace BK258 := bA BK258 hb; replace BK262 := bA BK262 hb; replace BK266 := bA BK266 hb; replace BK271 := bA BK271 hb; replace HB := sB HB hb; (try clear hb); (try clear hb2); (try clear hk); (try clear hi)))
             go_ret
             exact ⟨by first | rfl | (simp [errW_none, errW_some] <;> rfl) | (simp [*, errW_none, errW_some] <;> rfl), by repeat (first | (with_reducible first | exact HB.out | apply below_alloc | apply pw_below_drewN | apply below_drew1 | refine below_set ?_ GE244.out | refine below_set ?_ GE245.out | refine below_set ?_ GE258.out | refine below_set ?_ GE262.out | refine below_set ?_ GE266.out | refine below_set ?_ GE271.out) | exact HB.out)⟩
           ·rw [if_neg c160] at H
            have c160b0 : decide (t288 < 0) = false := decide_eq_false c160
            clear c160
            by_cases c170 : t288 = t286
            ·rw [if_pos c170] at H
             have c170b0 : (t288 == t286) = true := beq_iff_eq.mpr c170
             have c170b1 : (t288 != t286) = false := bne_eq_false_iff_eq.mpr c170
             clear c170
             replace H := Option.bind_eq_some_iff.mp H
             obtain ⟨t289, A1710, H⟩ := H
             replace H : ((laws_toPicture.f kj107 l2_0).bind fun t292 => ((impl_GrowOn.f kj107 t289 a1 t292).bind fun bt295 => ((laws_eqPicture.f kj107 bt295.1 t254).bind fun t300 => (if t300 = true then (laws_FnExactGrowOn.j2 kj107 t286 (bt295.2 != t257) t287) else (laws_FnExactGrowOn.j2 kj107 t286 true t287))))) = some r := H
             have A171 := Aside0.mk A1710
             clear A1710
             replace H := Option.bind_eq_some_iff.mp H
             obtain ⟨t292, A1720, H⟩ := H
             replace H : ((impl_GrowOn.f kj107 t289 a1 t292).bind fun bt295 => ((laws_eqPicture.f kj107 bt295.1 t254).bind fun t300 => (if t300 = true then (laws_FnExactGrowOn.j2 kj107 t286 (bt295.2 != t257) t287) else (laws_FnExactGrowOn.j2 kj107 t286 true t287)))) = some r := H
             have A172 := Aside0.mk A1720
             clear A1720
             replace H := Option.bind_eq_some_iff.mp H
             obtain ⟨⟨t295, t298⟩, A1730, H⟩ := H
             replace H : ((laws_eqPicture.f kj107 t295 t254).bind fun t300 => (if t300 = true then (laws_FnExactGrowOn.j2 kj107 t286 (t298 != t257) t287) else (laws_FnExactGrowOn.j2 kj107 t286 true t287))) = some r := H
             have A173 := Aside0.mk A1730
             clear A1730
             have HC174 := Aside0.mk H
             clear H
             have hnb175 := NB271_244.out
             have hnc175 := NB244_271.out
             have hnb176 := NB271_245.out
             have hnc176 := NB245_271.out
             have hnb177 := NB271_258.out
             have hnc177 := NB258_271.out
             have hnb178 := NB271_262.out
             have hnc178 := NB262_271.out
             have hnb179 := NB271_266.out
             have hnc179 := NB266_271.out
             have hcz180_0 : wc.cell? ⟨gb271, 0, none⟩ = some (.slice Ao66 t267.length co66) := (blk_cell BK271.out 0).trans rfl
             have hfz180_0 := blk_frozen BK271.out 0
             try go_wp2_with (first | ((with_reducible refine gate_callee (f := 10) rfl ?_); refine goesL_ (some 89) rfl rfl Try.func10 (by kernel_rfl) rfl #[.agg #[.slice Ao66 t267.length co66], .int .i64 1] rfl (by (try simp only [List.map_toArray, List.map_cons, List.map_nil]); first | done | rfl) ?_; (with_reducible refine (laws_markPicture.calls kj107 (fun k_ => some k_ = (.slice Ao66 t267.length co66 : Value).ownBlock) (.slice Ao66 t267.length co66) t267 1 t286 t287 w _ ?side1 ?side2 A158.out).mono ?_); (case side1 => exact sT HB); (case side2 => exact Kd.R_tight rfl HO_272000.out); rintro e w181 ⟨rfl, hy0, hb, hkp⟩; refine ⟨_, rfl, ?_⟩; replace HO_259000 := Aside0.mk (Kd.R_mono (ok' := fun k_ => some k_ ≠ (.slice Ao48 t282.length co48 : Value).ownBlock ∧ some k_ ≠ (.slice Ao57 t284.length co57 : Value).ownBlock ∧ some k_ ≠ (.slice Ao66 t267.length co66 : Value).ownBlock) (Kd.R_keptB (HO_259000.out) hkp (fun k_ hk_ hs_ => (hk_.2.2) hs_)) (fun k_ hk_ => ⟨hk_.1.1, hk_.1.2.1, hk_.1.2.2⟩)); replace HO_263000 := Aside0.mk (Kd.R_mono (ok' := fun k_ => some k_ ≠ (.slice Ao42 t254.length co42 : Value).ownBlock ∧ some k_ ≠ (.slice Ao57 t284.length co57 : Value).ownBlock ∧ some k_ ≠ (.slice Ao66 t267.length co66 : Value).ownBlock) (Kd.R_keptB (HO_263000.out) hkp (fun k_ hk_ hs_ => (hk_.2.2) hs_)) (fun k_ hk_ => ⟨hk_.1.1, hk_.1.2.1, hk_.1.2.2⟩)); replace HO_267000 := Aside0.mk (Kd.R_mono (ok' := fun k_ => some k_ ≠ (.slice Ao42 t254.length co42 : Value).ownBlock ∧ some k_ ≠ (.slice Ao48 t282.length co48 : Value).ownBlock ∧ some k_ ≠ (.slice Ao66 t267.length co66 : Value).ownBlock) (Kd.R_keptB (HO_267000.out) hkp (fun k_ hk_ hs_ => (hk_.2.2) hs_)) (fun k_ hk_ => ⟨hk_.1.1, hk_.1.2.1, hk_.1.2.2⟩)); replace BK244 := Aside0.mk (blk_kept (by first | exact BK244.out | exact blk_alloc BK244.out _) hkp (fun hs_ => (fun e_ => (Kd.R_ne HO_272000.out BK244.out (by decide)) e_) hs_)); replace BK245 := Aside0.mk (blk_kept (by first | exact BK245.out | exact blk_alloc BK245.out _) hkp (fun hs_ => (fun e_ => (Kd.R_ne HO_272000.out BK245.out (by decide)) e_) hs_)); replace BK258 := Aside0.mk (blk_kept (by first | exact BK258.out | exact blk_alloc BK258.out _) hkp (fun hs_ => (fun e_ => (Kd.R_ne HO_272000.out BK258.out (by decide)) e_) hs_)); replace BK262 := Aside0.mk (blk_kept (by first | exact BK262.out | exact blk_alloc BK262.out _) hkp (fun hs_ => (fun e_ => (Kd.R_ne HO_272000.out BK262.out (by decide)) e_) hs_)); replace BK266 := Aside0.mk (blk_kept (by first | exact BK266.out | exact blk_alloc BK266.out _) hkp (fun hs_ => (fun e_ => (Kd.R_ne HO_272000.out BK266.out (by decide)) e_) hs_)); replace BK271 := Aside0.mk (blk_kept (by first | exact BK271.out | exact blk_alloc BK271.out _) hkp (fun hs_ => (fun e_ => (Kd.R_ne HO_272000.out BK271.out (by decide)) e_) hs_)); replace HO_272000 := Aside0.mk (Kd.R_reok rfl hy0 (fun k_ e_ => HO_272000.out.1 k_ e_)); replace HB := Aside0.mk (hb); (try clear hb); (try clear hkp); (try clear hy0); have hcz182_0 : w181.cell? ⟨gb271, 0, none⟩ = some (.slice Ao66 t267.length co66) := (blk_cell BK271.out 0).trans rfl; have hfz182_0 := blk_frozen BK271.out 0) | ((with_reducible refine gate_callee (f := 11) rfl ?_); refine goesL_ (some 92) rfl rfl Try.func11 (by kernel_rfl) rfl #[.agg #[.slice Ao66 t287.length co66], .int .i64 1] rfl (by (try simp only [List.map_toArray, List.map_cons, List.map_nil]); first | done | (rw [show t287.length = t267.length from (Kd.R_reads' HO_272000.out).1.symm] <;> rfl) | rfl | (simp only [List.length_drop, List.length_take]; rfl)) ?_; (with_reducible refine (laws_heldPicture.calls kj107 _ _ t287 1 t288 _ ?side1 ?side2 A159.out).mono ?_); (case side1 => exact cT (Kd.R_reads' HO_272000.out).2.2); (case side2 => rw [show t287.length = t267.length from (Kd.R_reads' HO_272000.out).1.symm]; exact (Kd.R_reads' HO_272000.out).2.1); rintro e w183 ⟨rfl, hb⟩; refine ⟨_, rfl, ?_⟩; replace HO_259000 := rA HO_259000 hb; replace HO_263000 := rA HO_263000 hb; replace HO_267000 := rA HO_267000 hb; replace HO_272000 := rA HO_272000 hb; replace BK244 := bA BK244 hb; replace BK245 := bA BK245 hb; replace BK258 := bA BK258 hb; replace BK262 := bA BK262 hb; replace BK266 := bA BK266 hb; replace BK271 := bA BK271 hb; replace HB := sB HB hb; (try clear hb); (try clear hb2); (try clear hk); (try clear hi)))
             replace HO_259000 := Aside0.mk (Kd.R_drew HO_259000.out)
             replace HO_263000 := Aside0.mk (Kd.R_drew HO_263000.out)
             replace HO_267000 := Aside0.mk (Kd.R_drew HO_267000.out)
             replace HO_272000 := Aside0.mk (Kd.R_drew HO_272000.out)
             replace BK244 := Aside0.mk (blk_drew BK244.out)
             replace BK245 := Aside0.mk (blk_drew BK245.out)
             replace BK258 := Aside0.mk (blk_drew BK258.out)
             replace BK262 := Aside0.mk (blk_drew BK262.out)
             replace BK266 := Aside0.mk (blk_drew BK266.out)
             replace BK271 := Aside0.mk (blk_drew BK271.out)
             replace HB := Aside0.mk (below_drew1 HB.out)
             refine start_ (n := 12) (S := fun w' => w'.cell? ⟨gb244, 0, none⟩ = some (.slice A0_0 l0_0.length c0_0) ∧ w'.cell? ⟨gb245, 0, none⟩ = some (.slice A2_0 l2_0.length c2_0)) (ds := []) #[false, false, false, false, false, false, false, false, false, false, false, false] (by kernel_rfl) rfl rfl ⟨(blk_cell BK244.out 0).trans rfl, (blk_cell BK245.out 0).trans rfl⟩ (fun hHeld => ?_); refine with_tabW laws_FnExactGrowOn.tab31 laws_FnExactGrowOn.bits31 (fun HT_ HW_ => ?_)
             generalize w183.drew = w184 at HO_259000 HO_263000 HO_267000 HO_272000 BK244 BK245 BK258 BK262 BK266 BK271 HB hHeld ⊢
             refine pure_ (i := 2) (N := some 101) (v := ?_) (a' := ?_) #[false, false, true, false, false, false, false, false, false, false, false, false] rfl rfl (any_of HT_.out (by kernel_rfl)) (fun _ _ _ h => h) (Or.inl ⟨by rfl, ?_⟩) ?_ ?_
             rotate_left
             ·intro w'
              go_simp
              with_reducible rfl
             rotate_left
             ·simp only [Act.put, List.setIfInBounds_toArray, List.set_cons_zero, List.set_cons_succ, i64_w, i32_w]
              rfl
             refine take_ (i := 0) (N := some 99) (v := ?_) (a' := ?_) #[true, false, true, false, false, false, false, false, false, false, false, false] rfl rfl (take_ofW HT_.out HW_.out (by kernel_rfl)) (fun _ _ _ h => h) (Or.inl ⟨by rfl, ?_⟩) hHeld ?_ ?_
             rotate_left
             ·rintro w' ⟨s0, s1⟩
              go_simp
              with_reducible rfl
             rotate_left
             ·simp only [Act.put, List.setIfInBounds_toArray, List.set_cons_zero, List.set_cons_succ, i64_w, i32_w]
              rfl
             refine take_ (i := 3) (N := some 102) (v := ?_) (a' := ?_) #[true, false, true, true, false, false, false, false, false, false, false, false] rfl rfl (take_ofW HT_.out HW_.out (by kernel_rfl)) (fun _ _ _ h => h) (Or.inl ⟨by rfl, ?_⟩) hHeld ?_ ?_
             rotate_left
             ·rintro w' ⟨s0, s1⟩
              go_simp
              with_reducible rfl
             rotate_left
             ·simp only [Act.put, List.setIfInBounds_toArray, List.set_cons_zero, List.set_cons_succ, i64_w, i32_w]
              rfl
             refine join_ (σ := Value × Value × Value × Nat) 2 #[true, true, true, true, true, true, true, true, true, true, false, false] (fun s_ => [(100, .agg #[s_.1]), (103, .agg #[s_.2.1]), (104, .tuple #[.agg #[s_.2.2.1], .bool t298]), (17, .pointer (some ⟨s_.2.2.2, 0, none⟩)), (98, .tuple #[.agg #[s_.2.2.1], .bool t298]), (105, .agg #[s_.2.2.1]), (106, .bool t298)]) (fun s_ w' => (w'.cell? ⟨gb244, 0, none⟩ = some (.slice A0_0 l0_0.length c0_0) ∧ w'.cell? ⟨gb245, 0, none⟩ = some (.slice A2_0 l2_0.length c2_0)) ∧ (Kd.R k47 47 w' w.heap.size (fun k_ => some k_ ≠ (s_.2.1 : Value).ownBlock ∧ some k_ ≠ (s_.2.2.1 : Value).ownBlock ∧ some k_ ≠ (.slice Ao42 t254.length co42 : Value).ownBlock ∧ some k_ ≠ (.slice Ao48 t282.length co48 : Value).ownBlock ∧ some k_ ≠ (.slice Ao57 t284.length co57 : Value).ownBlock ∧ some k_ ≠ (.slice Ao66 t267.length co66 : Value).ownBlock) s_.1 t289) ∧ (Kd.R k47 47 w' w.heap.size (fun k_ => some k_ ≠ (s_.1 : Value).ownBlock ∧ some k_ ≠ (s_.2.2.1 : Value).ownBlock ∧ some k_ ≠ (.slice Ao42 t254.length co42 : Value).ownBlock ∧ some k_ ≠ (.slice Ao48 t282.length co48 : Value).ownBlock ∧ some k_ ≠ (.slice Ao57 t284.length co57 : Value).ownBlock ∧ some k_ ≠ (.slice Ao66 t267.length co66 : Value).ownBlock) s_.2.1 t292) ∧ (Kd.R k47 47 w' w.heap.size (fun k_ => some k_ ≠ (s_.1 : Value).ownBlock ∧ some k_ ≠ (s_.2.1 : Value).ownBlock ∧ some k_ ≠ (.slice Ao42 t254.length co42 : Value).ownBlock ∧ some k_ ≠ (.slice Ao48 t282.length co48 : Value).ownBlock ∧ some k_ ≠ (.slice Ao57 t284.length co57 : Value).ownBlock ∧ some k_ ≠ (.slice Ao66 t267.length co66 : Value).ownBlock) s_.2.2.1 t295) ∧ (Kd.R k47 47 w' w.heap.size (fun k_ => some k_ ≠ (s_.1 : Value).ownBlock ∧ some k_ ≠ (s_.2.1 : Value).ownBlock ∧ some k_ ≠ (s_.2.2.1 : Value).ownBlock ∧ some k_ ≠ (.slice Ao48 t282.length co48 : Value).ownBlock ∧ some k_ ≠ (.slice Ao57 t284.length co57 : Value).ownBlock ∧ some k_ ≠ (.slice Ao66 t267.length co66 : Value).ownBlock) (.slice Ao42 t254.length co42) t254) ∧ (Kd.R k47 47 w' w.heap.size (fun k_ => some k_ ≠ (s_.1 : Value).ownBlock ∧ some k_ ≠ (s_.2.1 : Value).ownBlock ∧ some k_ ≠ (s_.2.2.1 : Value).ownBlock ∧ some k_ ≠ (.slice Ao42 t254.length co42 : Value).ownBlock ∧ some k_ ≠ (.slice Ao57 t284.length co57 : Value).ownBlock ∧ some k_ ≠ (.slice Ao66 t267.length co66 : Value).ownBlock) (.slice Ao48 t282.length co48) t282) ∧ (Kd.R k47 47 w' w.heap.size (fun k_ => some k_ ≠ (s_.1 : Value).ownBlock ∧ some k_ ≠ (s_.2.1 : Value).ownBlock ∧ some k_ ≠ (s_.2.2.1 : Value).ownBlock ∧ some k_ ≠ (.slice Ao42 t254.length co42 : Value).ownBlock ∧ some k_ ≠ (.slice Ao48 t282.length co48 : Value).ownBlock ∧ some k_ ≠ (.slice Ao66 t267.length co66 : Value).ownBlock) (.slice Ao57 t284.length co57) t284) ∧ (Kd.R k47 47 w' w.heap.size (fun k_ => some k_ ≠ (s_.1 : Value).ownBlock ∧ some k_ ≠ (s_.2.1 : Value).ownBlock ∧ some k_ ≠ (s_.2.2.1 : Value).ownBlock ∧ some k_ ≠ (.slice Ao42 t254.length co42 : Value).ownBlock ∧ some k_ ≠ (.slice Ao48 t282.length co48 : Value).ownBlock ∧ some k_ ≠ (.slice Ao57 t284.length co57 : Value).ownBlock) (.slice Ao66 t267.length co66) t287) ∧ (w'.heap[gb244]? = some (.cells #[.slice A0_0 l0_0.length c0_0] 24 (0, 0))) ∧ (w'.heap[gb245]? = some (.cells #[.slice A2_0 l2_0.length c2_0] 24 (0, 0))) ∧ (w'.heap[gb258]? = some (.cells #[.slice Ao42 t254.length co42] 28 (0, 0))) ∧ (w'.heap[gb262]? = some (.cells #[.slice Ao48 t282.length co48] 28 (0, 0))) ∧ (w'.heap[gb266]? = some (.cells #[.slice Ao57 t284.length co57] 28 (0, 0))) ∧ (w'.heap[gb271]? = some (.cells #[.slice Ao66 t267.length co66] 28 (0, 0))) ∧ (w'.heap[s_.2.2.2]? = some (.cells #[.slice none 0 0] 28 (0, 0))) ∧ (w.heap.size ≤ s_.2.2.2) ∧ (w.heap.size ≤ s_.2.2.2) ∧ (gb244 ≠ s_.2.2.2) ∧ (s_.2.2.2 ≠ gb244) ∧ (gb245 ≠ s_.2.2.2) ∧ (s_.2.2.2 ≠ gb245) ∧ (gb258 ≠ s_.2.2.2) ∧ (s_.2.2.2 ≠ gb258) ∧ (gb262 ≠ s_.2.2.2) ∧ (s_.2.2.2 ≠ gb262) ∧ (gb266 ≠ s_.2.2.2) ∧ (s_.2.2.2 ≠ gb266) ∧ (gb271 ≠ s_.2.2.2) ∧ (s_.2.2.2 ≠ gb271) ∧ (Below w.heap.size w w')) ?_ ?_
             rotate_left
             ·intro hCont
              refine two_ (i := 1) (j := 9) (Ni := some 100) (Nj := some 17) #[true, true, true, true, false, false, false, false, false, false, false, false] #[true, false, true, true, false, false, false, false, false, true, false, false] rfl rfl rfl rfl (two_of HT_.out (by kernel_rfl)) (by decide) (by decide) (fun K hK => ?_) (fun K hK => ?_)
              ·skip
               refine goes_ Try.func7 (by kernel_rfl) rfl #[.agg #[.slice A0_0 l0_0.length c0_0]] (by rfl) rfl rfl (by (try simp only [List.map_toArray, List.map_cons, List.map_nil]); first | done | rfl) ?_
               with_reducible refine (laws_toPicture.calls kj107 _ _ l0_0 t289 _ ?side1 ?side2 A171.out).mono ?_
               (case side1 => exact cT (Kd.C_below HR0_0.out HB.out))
               (case side2 => exact HC0_0.out)
               rintro e w185 ⟨v290, rfl, ho0, hb⟩
               refine ⟨_, rfl, ?_⟩
               have HO291 := Aside0.mk (Kd.R_lower (Kd.R_new' (Kd.R_new' (Kd.R_new' (Kd.R_new' ho0 (Kd.R_lt (rT HO_259000))) (Kd.R_lt (rT HO_263000))) (Kd.R_lt (rT HO_267000))) (Kd.R_lt (rT HO_272000))) (below_size (sT HB)))
               replace HO_259000 := Aside0.mk (Kd.R_elder' (rT HO_259000) (Kd.R_base ho0) hb)
               replace HO_263000 := Aside0.mk (Kd.R_elder' (rT HO_263000) (Kd.R_base ho0) hb)
               replace HO_267000 := Aside0.mk (Kd.R_elder' (rT HO_267000) (Kd.R_base ho0) hb)
               replace HO_272000 := Aside0.mk (Kd.R_elder' (rT HO_272000) (Kd.R_base ho0) hb)
               replace BK244 := bA BK244 hb
               replace BK245 := bA BK245 hb
               replace BK258 := bA BK258 hb
               replace BK262 := bA BK262 hb
               replace BK266 := bA BK266 hb
               replace BK271 := bA BK271 hb
               replace HB := sB HB hb
               (try clear hb)
               (try clear hb2)
               (try clear hk)
               (try clear hi)
               (try clear ho0)
               refine hK.out _ _ ⟨(blk_cell BK244.out 0).trans rfl, (blk_cell BK245.out 0).trans rfl⟩ (fun hHeld => ?_)
               clear hK K
               refine norm_ (a' := ?_) ?_ ?_
               rotate_left
               ·show Act.put _ (some 100) _ = _
                simp only [Act.put, List.setIfInBounds_toArray, List.set_cons_zero, List.set_cons_succ, i64_w, i32_w]
                rfl
               refine two_ (i := 4) (j := 9) (Ni := some 103) (Nj := some 17) #[true, true, true, true, true, false, false, false, false, false, false, false] #[true, true, true, true, false, false, false, false, false, true, false, false] rfl rfl rfl rfl (two_of HT_.out (by kernel_rfl)) (by decide) (by decide) (fun K hK => ?_) (fun K hK => ?_)
               ·skip
                refine goes_ Try.func7 (by kernel_rfl) rfl #[.agg #[.slice A2_0 l2_0.length c2_0]] (by rfl) rfl rfl (by (try simp only [List.map_toArray, List.map_cons, List.map_nil]); first | done | rfl) ?_
                with_reducible refine (laws_toPicture.calls kj107 _ _ l2_0 t292 _ ?side1 ?side2 A172.out).mono ?_
                (case side1 => exact cT (Kd.C_below HR2_0.out HB.out))
                (case side2 => exact HC2_0.out)
                rintro e w186 ⟨v293, rfl, ho0, hb⟩
                refine ⟨_, rfl, ?_⟩
                have HO294 := Aside0.mk (Kd.R_lower (Kd.R_new' (Kd.R_new' (Kd.R_new' (Kd.R_new' (Kd.R_new' ho0 (Kd.R_lt (rT HO_259000))) (Kd.R_lt (rT HO_263000))) (Kd.R_lt (rT HO_267000))) (Kd.R_lt (rT HO_272000))) (Kd.R_lt (rT HO291))) (below_size (sT HB)))
                replace HO_259000 := Aside0.mk (Kd.R_elder' (rT HO_259000) (Kd.R_base ho0) hb)
                replace HO_263000 := Aside0.mk (Kd.R_elder' (rT HO_263000) (Kd.R_base ho0) hb)
                replace HO_267000 := Aside0.mk (Kd.R_elder' (rT HO_267000) (Kd.R_base ho0) hb)
                replace HO_272000 := Aside0.mk (Kd.R_elder' (rT HO_272000) (Kd.R_base ho0) hb)
                replace HO291 := Aside0.mk (Kd.R_elder' (rT HO291) (Kd.R_base ho0) hb)
                replace BK244 := bA BK244 hb
                replace BK245 := bA BK245 hb
                replace BK258 := bA BK258 hb
                replace BK262 := bA BK262 hb
                replace BK266 := bA BK266 hb
                replace BK271 := bA BK271 hb
                replace HB := sB HB hb
                (try clear hb)
                (try clear hb2)
                (try clear hk)
                (try clear hi)
                (try clear ho0)
                obtain ⟨Ao187, co187, eo187⟩ := Kd.R_slice HO291.out
                (first | subst eo187 | (injection eo187 with f1_ f2_ f3_; have f4_ := f1_.symm; have f5_ := f3_.symm; clear f1_ f2_ f3_; subst f4_; subst f5_))
                obtain ⟨Ao188, co188, eo188⟩ := Kd.R_slice HO294.out
                (first | subst eo188 | (injection eo188 with f1_ f2_ f3_; have f4_ := f1_.symm; have f5_ := f3_.symm; clear f1_ f2_ f3_; subst f4_; subst f5_))
                refine hK.out _ _ ⟨(blk_cell BK244.out 0).trans rfl, (blk_cell BK245.out 0).trans rfl⟩ (fun hHeld => ?_)
                clear hK K
                refine norm_ (a' := ?_) ?_ ?_
                rotate_left
                ·show Act.put _ (some 103) _ = _
                 simp only [Act.put, List.setIfInBounds_toArray, List.set_cons_zero, List.set_cons_succ, i64_w, i32_w]
                 rfl
                refine two_ (i := 5) (j := 9) (Ni := some 104) (Nj := some 17) #[true, true, true, true, true, true, false, false, false, false, false, false] #[true, true, true, true, true, false, false, false, false, true, false, false] rfl rfl rfl rfl (two_of HT_.out (by kernel_rfl)) (by decide) (by decide) (fun K hK => ?_) (fun K hK => ?_)
                ·skip
                 refine goes_ Try.func8 (by kernel_rfl) rfl #[.agg #[.slice Ao187 t289.length co187], .int .i64 a1, .agg #[.slice Ao188 t292.length co188]] (by rfl) rfl rfl (by (try simp only [List.map_toArray, List.map_cons, List.map_nil]); first | done | rfl) ?_
                 with_reducible refine (impl_GrowOn.calls kj107 _ _ t289 a1 _ _ t292 t295 t298 _ ?side1 ?side2 ?side3 ?side4 A173.out).mono ?_
                 (case side1 => exact cT (Kd.R_reads' HO291.out).2.2)
                 (case side2 => exact (Kd.R_reads' HO291.out).2.1)
                 (case side3 => exact cT (Kd.R_reads' HO294.out).2.2)
                 (case side4 => exact (Kd.R_reads' HO294.out).2.1)
                 rintro e w189 ⟨v296, rfl, ho0, hb⟩
                 refine ⟨_, rfl, ?_⟩
                 have HO297 := Aside0.mk (Kd.R_lower (Kd.R_new' (Kd.R_new' (Kd.R_new' (Kd.R_new' (Kd.R_new' (Kd.R_new' ho0 (Kd.R_lt (rT HO_259000))) (Kd.R_lt (rT HO_263000))) (Kd.R_lt (rT HO_267000))) (Kd.R_lt (rT HO_272000))) (Kd.R_lt (rT HO291))) (Kd.R_lt (rT HO294))) (below_size (sT HB)))
                 replace HO_259000 := Aside0.mk (Kd.R_elder' (rT HO_259000) (Kd.R_base ho0) hb)
                 replace HO_263000 := Aside0.mk (Kd.R_elder' (rT HO_263000) (Kd.R_base ho0) hb)
                 replace HO_267000 := Aside0.mk (Kd.R_elder' (rT HO_267000) (Kd.R_base ho0) hb)
                 replace HO_272000 := Aside0.mk (Kd.R_elder' (rT HO_272000) (Kd.R_base ho0) hb)
                 replace HO291 := Aside0.mk (Kd.R_elder' (rT HO291) (Kd.R_base ho0) hb)
                 replace HO294 := Aside0.mk (Kd.R_elder' (rT HO294) (Kd.R_base ho0) hb)
                 replace BK244 := bA BK244 hb
                 replace BK245 := bA BK245 hb
                 replace BK258 := bA BK258 hb
                 replace BK262 := bA BK262 hb
                 replace BK266 := bA BK266 hb
                 replace BK271 := bA BK271 hb
                 replace HB := sB HB hb
                 (try clear hb)
                 (try clear hb2)
                 (try clear hk)
                 (try clear hi)
                 (try clear ho0)
                 refine hK.out _ _ ⟨(blk_cell BK244.out 0).trans rfl, (blk_cell BK245.out 0).trans rfl⟩ (fun hHeld => ?_)
                 clear hK K
                 refine norm_ (a' := ?_) ?_ ?_
                 rotate_left
                 ·show Act.put _ (some 104) _ = _
                  simp only [Act.put, List.setIfInBounds_toArray, List.set_cons_zero, List.set_cons_succ, i64_w, i32_w]
                  rfl
                 refine pure_ (i := 6) (N := some 98) (v := ?_) (a' := ?_) #[true, true, true, true, true, true, true, false, false, false, false, false] rfl rfl (any_of HT_.out (by kernel_rfl)) (fun _ _ _ h => h) (Or.inl ⟨by rfl, ?_⟩) ?_ ?_
                 rotate_left
                 ·intro w'
                  go_simp
                  with_reducible rfl
                 rotate_left
                 ·simp only [Act.put, List.setIfInBounds_toArray, List.set_cons_zero, List.set_cons_succ, i64_w, i32_w]
                  rfl
                 refine pure_ (i := 7) (N := some 105) (v := ?_) (a' := ?_) #[true, true, true, true, true, true, true, true, false, false, false, false] rfl rfl (any_of HT_.out (by kernel_rfl)) (fun _ _ _ h => h) (Or.inl ⟨by rfl, ?_⟩) ?_ ?_
                 rotate_left
                 ·intro w'
                  go_simp
                  with_reducible rfl
                 rotate_left
                 ·simp only [Act.put, List.setIfInBounds_toArray, List.set_cons_zero, List.set_cons_succ, i64_w, i32_w]
                  rfl
                 refine pure_ (i := 8) (N := some 106) (v := ?_) (a' := ?_) #[true, true, true, true, true, true, true, true, true, false, false, false] rfl rfl (any_of HT_.out (by kernel_rfl)) (fun _ _ _ h => h) (Or.inl ⟨by rfl, ?_⟩) ?_ ?_
                 rotate_left
                 ·intro w'
                  go_simp
                  with_reducible rfl
                 rotate_left
                 ·simp only [Act.put, List.setIfInBounds_toArray, List.set_cons_zero, List.set_cons_succ, i64_w, i32_w]
                  rfl
                 refine one_ (i := 9) (N := some 17) #[true, true, true, true, true, true, true, true, true, true, false, false] rfl rfl (one_of HT_.out (by kernel_rfl)) (by decide) (fun K hK => ?_)
                 refine box_step ?hg (N := 17) ?hd (cs := #[.slice none 0 0]) (t := 28) ?hr ?_; (case hd => rfl); (case hg => rfl); (case hr => first | (go_simp; done) | (go_simp; rfl))
                 intro gb299 hg w190 hbox hb
                 replace HO_259000 := rA HO_259000 hb
                 replace HO_263000 := rA HO_263000 hb
                 replace HO_267000 := rA HO_267000 hb
                 replace HO_272000 := rA HO_272000 hb
                 replace HO291 := rA HO291 hb
                 replace HO294 := rA HO294 hb
                 replace HO297 := rA HO297 hb
                 have BK299 := Aside0.mk (hbox)
                 have GW299 := zB HB hg
                 have GE299 := zB HB hg
                 replace HB := sB HB hb
                 have NB244_299 := lA BK244 hg
                 have NB299_244 := gA BK244 hg
                 replace BK244 := bA BK244 hb
                 have NB245_299 := lA BK245 hg
                 have NB299_245 := gA BK245 hg
                 replace BK245 := bA BK245 hb
                 have NB258_299 := lA BK258 hg
                 have NB299_258 := gA BK258 hg
                 replace BK258 := bA BK258 hb
                 have NB262_299 := lA BK262 hg
                 have NB299_262 := gA BK262 hg
                 replace BK262 := bA BK262 hb
                 have NB266_299 := lA BK266 hg
                 have NB299_266 := gA BK266 hg
                 replace BK266 := bA BK266 hb
                 have NB271_299 := lA BK271 hg
                 have NB299_271 := gA BK271 hg
                 replace BK271 := bA BK271 hb
                 clear hb hbox hg
                 refine hK.out _ _ ⟨(blk_cell BK244.out 0).trans rfl, (blk_cell BK245.out 0).trans rfl⟩ (fun hHeld => ?_)
                 clear hK K
                 refine norm_ (a' := ?_) ?_ ?_
                 rotate_left
                 ·show Act.put _ (some 17) _ = _
                  simp only [Act.put, List.setIfInBounds_toArray, List.set_cons_zero, List.set_cons_succ, i64_w, i32_w]
                  rfl
                 exact norm_ (by simp only [putAll, Act.put, List.setIfInBounds_toArray, List.set_cons_zero, List.set_cons_succ]) (hCont (.slice Ao187 t289.length co187, .slice Ao188 t292.length co188, v296, gb299) _ ⟨hHeld, (by (with_reducible repeat (first | apply Kd.R_alloc | apply Kd.R_drewN | apply Kd.R_drew)); exact Kd.R_mono HO291.out (fun _ hk => ⟨hk.1.2, ⟨hk.2, ⟨hk.1.1.1.1.1.2, ⟨hk.1.1.1.1.2, ⟨hk.1.1.1.2, hk.1.1.2⟩⟩⟩⟩⟩)), (by (with_reducible repeat (first | apply Kd.R_alloc | apply Kd.R_drewN | apply Kd.R_drew)); exact Kd.R_mono HO294.out (fun _ hk => ⟨hk.1.2, ⟨hk.2, ⟨hk.1.1.1.1.1.2, ⟨hk.1.1.1.1.2, ⟨hk.1.1.1.2, hk.1.1.2⟩⟩⟩⟩⟩)), (by (with_reducible repeat (first | apply Kd.R_alloc | apply Kd.R_drewN | apply Kd.R_drew)); exact Kd.R_mono HO297.out (fun _ hk => ⟨hk.1.2, ⟨hk.2, ⟨hk.1.1.1.1.1.2, ⟨hk.1.1.1.1.2, ⟨hk.1.1.1.2, hk.1.1.2⟩⟩⟩⟩⟩)), (by (with_reducible repeat (first | apply Kd.R_alloc | apply Kd.R_drewN | apply Kd.R_drew)); exact Kd.R_mono HO_259000.out (fun _ hk => ⟨hk.1.1.2, ⟨hk.1.2, ⟨hk.2, ⟨hk.1.1.1.1, ⟨hk.1.1.1.2.1, hk.1.1.1.2.2⟩⟩⟩⟩⟩)), (by (with_reducible repeat (first | apply Kd.R_alloc | apply Kd.R_drewN | apply Kd.R_drew)); exact Kd.R_mono HO_263000.out (fun _ hk => ⟨hk.1.1.2, ⟨hk.1.2, ⟨hk.2, ⟨hk.1.1.1.1, ⟨hk.1.1.1.2.1, hk.1.1.1.2.2⟩⟩⟩⟩⟩)), (by (with_reducible repeat (first | apply Kd.R_alloc | apply Kd.R_drewN | apply Kd.R_drew)); exact Kd.R_mono HO_267000.out (fun _ hk => ⟨hk.1.1.2, ⟨hk.1.2, ⟨hk.2, ⟨hk.1.1.1.1, ⟨hk.1.1.1.2.1, hk.1.1.1.2.2⟩⟩⟩⟩⟩)), (by (with_reducible repeat (first | apply Kd.R_alloc | apply Kd.R_drewN | apply Kd.R_drew)); exact Kd.R_mono HO_272000.out (fun _ hk => ⟨hk.1.1.2, ⟨hk.1.2, ⟨hk.2, ⟨hk.1.1.1.1, ⟨hk.1.1.1.2.1, hk.1.1.1.2.2⟩⟩⟩⟩⟩)), (by first | exact BK244.out | exact blk_alloc BK244.out _), (by first | exact BK245.out | exact blk_alloc BK245.out _), (by first | exact BK258.out | exact blk_alloc BK258.out _), (by first | exact BK262.out | exact blk_alloc BK262.out _), (by first | exact BK266.out | exact blk_alloc BK266.out _), (by first | exact BK271.out | exact blk_alloc BK271.out _), (by first | exact BK299.out | exact blk_alloc BK299.out _), GW299.out, GE299.out, NB244_299.out, NB299_244.out, NB245_299.out, NB299_245.out, NB258_299.out, NB299_258.out, NB262_299.out, NB299_262.out, NB266_299.out, NB299_266.out, NB271_299.out, NB299_271.out, (sT HB)⟩)
                ·skip
                 refine box_step ?hg (N := 17) ?hd (cs := #[.slice none 0 0]) (t := 28) ?hr ?_; (case hd => rfl); (case hg => rfl); (case hr => first | (go_simp; done) | (go_simp; rfl))
                 intro gb299 hg w187 hbox hb
                 replace HO_259000 := rA HO_259000 hb
                 replace HO_263000 := rA HO_263000 hb
                 replace HO_267000 := rA HO_267000 hb
                 replace HO_272000 := rA HO_272000 hb
                 replace HO291 := rA HO291 hb
                 replace HO294 := rA HO294 hb
                 have BK299 := Aside0.mk (hbox)
                 have GW299 := zB HB hg
                 have GE299 := zB HB hg
                 replace HB := sB HB hb
                 have NB244_299 := lA BK244 hg
                 have NB299_244 := gA BK244 hg
                 replace BK244 := bA BK244 hb
                 have NB245_299 := lA BK245 hg
                 have NB299_245 := gA BK245 hg
                 replace BK245 := bA BK245 hb
                 have NB258_299 := lA BK258 hg
                 have NB299_258 := gA BK258 hg
                 replace BK258 := bA BK258 hb
                 have NB262_299 := lA BK262 hg
                 have NB299_262 := gA BK262 hg
                 replace BK262 := bA BK262 hb
                 have NB266_299 := lA BK266 hg
                 have NB299_266 := gA BK266 hg
                 replace BK266 := bA BK266 hb
                 have NB271_299 := lA BK271 hg
                 have NB299_271 := gA BK271 hg
                 replace BK271 := bA BK271 hb
                 clear hb hbox hg
                 obtain ⟨Ao188, co188, eo188⟩ := Kd.R_slice HO291.out
                 (first | subst eo188 | (injection eo188 with f1_ f2_ f3_; have f4_ := f1_.symm; have f5_ := f3_.symm; clear f1_ f2_ f3_; subst f4_; subst f5_))
                 obtain ⟨Ao189, co189, eo189⟩ := Kd.R_slice HO294.out
                 (first | subst eo189 | (injection eo189 with f1_ f2_ f3_; have f4_ := f1_.symm; have f5_ := f3_.symm; clear f1_ f2_ f3_; subst f4_; subst f5_))
                 refine hK.out _ _ ⟨(blk_cell BK244.out 0).trans rfl, (blk_cell BK245.out 0).trans rfl⟩ (fun hHeld => ?_)
                 clear hK K
                 refine norm_ (a' := ?_) ?_ ?_
                 rotate_left
                 ·show Act.put _ (some 17) _ = _
                  simp only [Act.put, List.setIfInBounds_toArray, List.set_cons_zero, List.set_cons_succ, i64_w, i32_w]
                  rfl
                 refine one_ (i := 5) (N := some 104) #[true, true, true, true, true, true, false, false, false, true, false, false] rfl rfl (one_of HT_.out (by kernel_rfl)) (by decide) (fun K hK => ?_)
                 refine goes_ Try.func8 (by kernel_rfl) rfl #[.agg #[.slice Ao188 t289.length co188], .int .i64 a1, .agg #[.slice Ao189 t292.length co189]] (by rfl) rfl rfl (by (try simp only [List.map_toArray, List.map_cons, List.map_nil]); first | done | rfl) ?_
                 with_reducible refine (impl_GrowOn.calls kj107 _ _ t289 a1 _ _ t292 t295 t298 _ ?side1 ?side2 ?side3 ?side4 A173.out).mono ?_
                 (case side1 => exact cT (Kd.R_reads' HO291.out).2.2)
                 (case side2 => exact (Kd.R_reads' HO291.out).2.1)
                 (case side3 => exact cT (Kd.R_reads' HO294.out).2.2)
                 (case side4 => exact (Kd.R_reads' HO294.out).2.1)
                 rintro e w190 ⟨v296, rfl, ho0, hb⟩
                 refine ⟨_, rfl, ?_⟩
                 have HO297 := Aside0.mk (Kd.R_lower (Kd.R_new' (Kd.R_new' (Kd.R_new' (Kd.R_new' (Kd.R_new' (Kd.R_new' ho0 (Kd.R_lt (rT HO_259000))) (Kd.R_lt (rT HO_263000))) (Kd.R_lt (rT HO_267000))) (Kd.R_lt (rT HO_272000))) (Kd.R_lt (rT HO291))) (Kd.R_lt (rT HO294))) (below_size (sT HB)))
                 replace HO_259000 := Aside0.mk (Kd.R_elder' (rT HO_259000) (Kd.R_base ho0) hb)
                 replace HO_263000 := Aside0.mk (Kd.R_elder' (rT HO_263000) (Kd.R_base ho0) hb)
                 replace HO_267000 := Aside0.mk (Kd.R_elder' (rT HO_267000) (Kd.R_base ho0) hb)
                 replace HO_272000 := Aside0.mk (Kd.R_elder' (rT HO_272000) (Kd.R_base ho0) hb)
                 replace HO291 := Aside0.mk (Kd.R_elder' (rT HO291) (Kd.R_base ho0) hb)
                 replace HO294 := Aside0.mk (Kd.R_elder' (rT HO294) (Kd.R_base ho0) hb)
                 replace BK244 := bA BK244 hb
                 replace BK245 := bA BK245 hb
                 replace BK258 := bA BK258 hb
                 replace BK262 := bA BK262 hb
                 replace BK266 := bA BK266 hb
                 replace BK271 := bA BK271 hb
                 replace BK299 := bA BK299 hb
                 replace HB := sB HB hb
                 (try clear hb)
                 (try clear hb2)
                 (try clear hk)
                 (try clear hi)
                 (try clear ho0)
                 refine hK.out _ _ ⟨(blk_cell BK244.out 0).trans rfl, (blk_cell BK245.out 0).trans rfl⟩ (fun hHeld => ?_)
                 clear hK K
                 refine norm_ (a' := ?_) ?_ ?_
                 rotate_left
                 ·show Act.put _ (some 104) _ = _
                  simp only [Act.put, List.setIfInBounds_toArray, List.set_cons_zero, List.set_cons_succ, i64_w, i32_w]
                  rfl
                 refine pure_ (i := 6) (N := some 98) (v := ?_) (a' := ?_) #[true, true, true, true, true, true, true, false, false, true, false, false] rfl rfl (any_of HT_.out (by kernel_rfl)) (fun _ _ _ h => h) (Or.inl ⟨by rfl, ?_⟩) ?_ ?_
                 rotate_left
                 ·intro w'
                  go_simp
                  with_reducible rfl
                 rotate_left
                 ·simp only [Act.put, List.setIfInBounds_toArray, List.set_cons_zero, List.set_cons_succ, i64_w, i32_w]
                  rfl
                 refine pure_ (i := 7) (N := some 105) (v := ?_) (a' := ?_) #[true, true, true, true, true, true, true, true, false, true, false, false] rfl rfl (any_of HT_.out (by kernel_rfl)) (fun _ _ _ h => h) (Or.inl ⟨by rfl, ?_⟩) ?_ ?_
                 rotate_left
                 ·intro w'
                  go_simp
                  with_reducible rfl
                 rotate_left
                 ·simp only [Act.put, List.setIfInBounds_toArray, List.set_cons_zero, List.set_cons_succ, i64_w, i32_w]
                  rfl
                 refine pure_ (i := 8) (N := some 106) (v := ?_) (a' := ?_) #[true, true, true, true, true, true, true, true, true, true, false, false] rfl rfl (any_of HT_.out (by kernel_rfl)) (fun _ _ _ h => h) (Or.inl ⟨by rfl, ?_⟩) ?_ ?_
                 rotate_left
                 ·intro w'
                  go_simp
                  with_reducible rfl
                 rotate_left
                 ·simp only [Act.put, List.setIfInBounds_toArray, List.set_cons_zero, List.set_cons_succ, i64_w, i32_w]
                  rfl
                 exact norm_ (by simp only [putAll, Act.put, List.setIfInBounds_toArray, List.set_cons_zero, List.set_cons_succ]) (hCont (.slice Ao188 t289.length co188, .slice Ao189 t292.length co189, v296, gb299) _ ⟨hHeld, (by (with_reducible repeat (first | apply Kd.R_alloc | apply Kd.R_drewN | apply Kd.R_drew)); exact Kd.R_mono HO291.out (fun _ hk => ⟨hk.1.2, ⟨hk.2, ⟨hk.1.1.1.1.1.2, ⟨hk.1.1.1.1.2, ⟨hk.1.1.1.2, hk.1.1.2⟩⟩⟩⟩⟩)), (by (with_reducible repeat (first | apply Kd.R_alloc | apply Kd.R_drewN | apply Kd.R_drew)); exact Kd.R_mono HO294.out (fun _ hk => ⟨hk.1.2, ⟨hk.2, ⟨hk.1.1.1.1.1.2, ⟨hk.1.1.1.1.2, ⟨hk.1.1.1.2, hk.1.1.2⟩⟩⟩⟩⟩)), (by (with_reducible repeat (first | apply Kd.R_alloc | apply Kd.R_drewN | apply Kd.R_drew)); exact Kd.R_mono HO297.out (fun _ hk => ⟨hk.1.2, ⟨hk.2, ⟨hk.1.1.1.1.1.2, ⟨hk.1.1.1.1.2, ⟨hk.1.1.1.2, hk.1.1.2⟩⟩⟩⟩⟩)), (by (with_reducible repeat (first | apply Kd.R_alloc | apply Kd.R_drewN | apply Kd.R_drew)); exact Kd.R_mono HO_259000.out (fun _ hk => ⟨hk.1.1.2, ⟨hk.1.2, ⟨hk.2, ⟨hk.1.1.1.1, ⟨hk.1.1.1.2.1, hk.1.1.1.2.2⟩⟩⟩⟩⟩)), (by (with_reducible repeat (first | apply Kd.R_alloc | apply Kd.R_drewN | apply Kd.R_drew)); exact Kd.R_mono HO_263000.out (fun _ hk => ⟨hk.1.1.2, ⟨hk.1.2, ⟨hk.2, ⟨hk.1.1.1.1, ⟨hk.1.1.1.2.1, hk.1.1.1.2.2⟩⟩⟩⟩⟩)), (by (with_reducible repeat (first | apply Kd.R_alloc | apply Kd.R_drewN | apply Kd.R_drew)); exact Kd.R_mono HO_267000.out (fun _ hk => ⟨hk.1.1.2, ⟨hk.1.2, ⟨hk.2, ⟨hk.1.1.1.1, ⟨hk.1.1.1.2.1, hk.1.1.1.2.2⟩⟩⟩⟩⟩)), (by (with_reducible repeat (first | apply Kd.R_alloc | apply Kd.R_drewN | apply Kd.R_drew)); exact Kd.R_mono HO_272000.out (fun _ hk => ⟨hk.1.1.2, ⟨hk.1.2, ⟨hk.2, ⟨hk.1.1.1.1, ⟨hk.1.1.1.2.1, hk.1.1.1.2.2⟩⟩⟩⟩⟩)), (by first | exact BK244.out | exact blk_alloc BK244.out _), (by first | exact BK245.out | exact blk_alloc BK245.out _), (by first | exact BK258.out | exact blk_alloc BK258.out _), (by first | exact BK262.out | exact blk_alloc BK262.out _), (by first | exact BK266.out | exact blk_alloc BK266.out _), (by first | exact BK271.out | exact blk_alloc BK271.out _), (by first | exact BK299.out | exact blk_alloc BK299.out _), GW299.out, GE299.out, NB244_299.out, NB299_244.out, NB245_299.out, NB299_245.out, NB258_299.out, NB299_258.out, NB262_299.out, NB299_262.out, NB266_299.out, NB299_266.out, NB271_299.out, NB299_271.out, (sT HB)⟩)
               ·skip
                refine box_step ?hg (N := 17) ?hd (cs := #[.slice none 0 0]) (t := 28) ?hr ?_; (case hd => rfl); (case hg => rfl); (case hr => first | (go_simp; done) | (go_simp; rfl))
                intro gb299 hg w186 hbox hb
                replace HO_259000 := rA HO_259000 hb
                replace HO_263000 := rA HO_263000 hb
                replace HO_267000 := rA HO_267000 hb
                replace HO_272000 := rA HO_272000 hb
                replace HO291 := rA HO291 hb
                have BK299 := Aside0.mk (hbox)
                have GW299 := zB HB hg
                have GE299 := zB HB hg
                replace HB := sB HB hb
                have NB244_299 := lA BK244 hg
                have NB299_244 := gA BK244 hg
                replace BK244 := bA BK244 hb
                have NB245_299 := lA BK245 hg
                have NB299_245 := gA BK245 hg
                replace BK245 := bA BK245 hb
                have NB258_299 := lA BK258 hg
                have NB299_258 := gA BK258 hg
                replace BK258 := bA BK258 hb
                have NB262_299 := lA BK262 hg
                have NB299_262 := gA BK262 hg
                replace BK262 := bA BK262 hb
                have NB266_299 := lA BK266 hg
                have NB299_266 := gA BK266 hg
                replace BK266 := bA BK266 hb
                have NB271_299 := lA BK271 hg
                have NB299_271 := gA BK271 hg
                replace BK271 := bA BK271 hb
                clear hb hbox hg
                refine hK.out _ _ ⟨(blk_cell BK244.out 0).trans rfl, (blk_cell BK245.out 0).trans rfl⟩ (fun hHeld => ?_)
                clear hK K
                refine norm_ (a' := ?_) ?_ ?_
                rotate_left
                ·show Act.put _ (some 17) _ = _
                 simp only [Act.put, List.setIfInBounds_toArray, List.set_cons_zero, List.set_cons_succ, i64_w, i32_w]
                 rfl
                refine one_ (i := 4) (N := some 103) #[true, true, true, true, true, false, false, false, false, true, false, false] rfl rfl (one_of HT_.out (by kernel_rfl)) (by decide) (fun K hK => ?_)
                refine goes_ Try.func7 (by kernel_rfl) rfl #[.agg #[.slice A2_0 l2_0.length c2_0]] (by rfl) rfl rfl (by (try simp only [List.map_toArray, List.map_cons, List.map_nil]); first | done | rfl) ?_
                with_reducible refine (laws_toPicture.calls kj107 _ _ l2_0 t292 _ ?side1 ?side2 A172.out).mono ?_
                (case side1 => exact cT (Kd.C_below HR2_0.out HB.out))
                (case side2 => exact HC2_0.out)
                rintro e w187 ⟨v293, rfl, ho0, hb⟩
                refine ⟨_, rfl, ?_⟩
                have HO294 := Aside0.mk (Kd.R_lower (Kd.R_new' (Kd.R_new' (Kd.R_new' (Kd.R_new' (Kd.R_new' ho0 (Kd.R_lt (rT HO_259000))) (Kd.R_lt (rT HO_263000))) (Kd.R_lt (rT HO_267000))) (Kd.R_lt (rT HO_272000))) (Kd.R_lt (rT HO291))) (below_size (sT HB)))
                replace HO_259000 := Aside0.mk (Kd.R_elder' (rT HO_259000) (Kd.R_base ho0) hb)
                replace HO_263000 := Aside0.mk (Kd.R_elder' (rT HO_263000) (Kd.R_base ho0) hb)
                replace HO_267000 := Aside0.mk (Kd.R_elder' (rT HO_267000) (Kd.R_base ho0) hb)
                replace HO_272000 := Aside0.mk (Kd.R_elder' (rT HO_272000) (Kd.R_base ho0) hb)
                replace HO291 := Aside0.mk (Kd.R_elder' (rT HO291) (Kd.R_base ho0) hb)
                replace BK244 := bA BK244 hb
                replace BK245 := bA BK245 hb
                replace BK258 := bA BK258 hb
                replace BK262 := bA BK262 hb
                replace BK266 := bA BK266 hb
                replace BK271 := bA BK271 hb
                replace BK299 := bA BK299 hb
                replace HB := sB HB hb
                (try clear hb)
                (try clear hb2)
                (try clear hk)
                (try clear hi)
                (try clear ho0)
                obtain ⟨Ao188, co188, eo188⟩ := Kd.R_slice HO291.out
                (first | subst eo188 | (injection eo188 with f1_ f2_ f3_; have f4_ := f1_.symm; have f5_ := f3_.symm; clear f1_ f2_ f3_; subst f4_; subst f5_))
                obtain ⟨Ao189, co189, eo189⟩ := Kd.R_slice HO294.out
                (first | subst eo189 | (injection eo189 with f1_ f2_ f3_; have f4_ := f1_.symm; have f5_ := f3_.symm; clear f1_ f2_ f3_; subst f4_; subst f5_))
                refine hK.out _ _ ⟨(blk_cell BK244.out 0).trans rfl, (blk_cell BK245.out 0).trans rfl⟩ (fun hHeld => ?_)
                clear hK K
                refine norm_ (a' := ?_) ?_ ?_
                rotate_left
                ·show Act.put _ (some 103) _ = _
                 simp only [Act.put, List.setIfInBounds_toArray, List.set_cons_zero, List.set_cons_succ, i64_w, i32_w]
                 rfl
                refine one_ (i := 5) (N := some 104) #[true, true, true, true, true, true, false, false, false, true, false, false] rfl rfl (one_of HT_.out (by kernel_rfl)) (by decide) (fun K hK => ?_)
                refine goes_ Try.func8 (by kernel_rfl) rfl #[.agg #[.slice Ao188 t289.length co188], .int .i64 a1, .agg #[.slice Ao189 t292.length co189]] (by rfl) rfl rfl (by (try simp only [List.map_toArray, List.map_cons, List.map_nil]); first | done | rfl) ?_
                with_reducible refine (impl_GrowOn.calls kj107 _ _ t289 a1 _ _ t292 t295 t298 _ ?side1 ?side2 ?side3 ?side4 A173.out).mono ?_
                (case side1 => exact cT (Kd.R_reads' HO291.out).2.2)
                (case side2 => exact (Kd.R_reads' HO291.out).2.1)
                (case side3 => exact cT (Kd.R_reads' HO294.out).2.2)
                (case side4 => exact (Kd.R_reads' HO294.out).2.1)
                rintro e w190 ⟨v296, rfl, ho0, hb⟩
                refine ⟨_, rfl, ?_⟩
                have HO297 := Aside0.mk (Kd.R_lower (Kd.R_new' (Kd.R_new' (Kd.R_new' (Kd.R_new' (Kd.R_new' (Kd.R_new' ho0 (Kd.R_lt (rT HO_259000))) (Kd.R_lt (rT HO_263000))) (Kd.R_lt (rT HO_267000))) (Kd.R_lt (rT HO_272000))) (Kd.R_lt (rT HO291))) (Kd.R_lt (rT HO294))) (below_size (sT HB)))
                replace HO_259000 := Aside0.mk (Kd.R_elder' (rT HO_259000) (Kd.R_base ho0) hb)
                replace HO_263000 := Aside0.mk (Kd.R_elder' (rT HO_263000) (Kd.R_base ho0) hb)
                replace HO_267000 := Aside0.mk (Kd.R_elder' (rT HO_267000) (Kd.R_base ho0) hb)
                replace HO_272000 := Aside0.mk (Kd.R_elder' (rT HO_272000) (Kd.R_base ho0) hb)
                replace HO291 := Aside0.mk (Kd.R_elder' (rT HO291) (Kd.R_base ho0) hb)
                replace HO294 := Aside0.mk (Kd.R_elder' (rT HO294) (Kd.R_base ho0) hb)
                replace BK244 := bA BK244 hb
                replace BK245 := bA BK245 hb
                replace BK258 := bA BK258 hb
                replace BK262 := bA BK262 hb
                replace BK266 := bA BK266 hb
                replace BK271 := bA BK271 hb
                replace BK299 := bA BK299 hb
                replace HB := sB HB hb
                (try clear hb)
                (try clear hb2)
                (try clear hk)
                (try clear hi)
                (try clear ho0)
                refine hK.out _ _ ⟨(blk_cell BK244.out 0).trans rfl, (blk_cell BK245.out 0).trans rfl⟩ (fun hHeld => ?_)
                clear hK K
                refine norm_ (a' := ?_) ?_ ?_
                rotate_left
                ·show Act.put _ (some 104) _ = _
                 simp only [Act.put, List.setIfInBounds_toArray, List.set_cons_zero, List.set_cons_succ, i64_w, i32_w]
                 rfl
                refine pure_ (i := 6) (N := some 98) (v := ?_) (a' := ?_) #[true, true, true, true, true, true, true, false, false, true, false, false] rfl rfl (any_of HT_.out (by kernel_rfl)) (fun _ _ _ h => h) (Or.inl ⟨by rfl, ?_⟩) ?_ ?_
                rotate_left
                ·intro w'
                 go_simp
                 with_reducible rfl
                rotate_left
                ·simp only [Act.put, List.setIfInBounds_toArray, List.set_cons_zero, List.set_cons_succ, i64_w, i32_w]
                 rfl
                refine pure_ (i := 7) (N := some 105) (v := ?_) (a' := ?_) #[true, true, true, true, true, true, true, true, false, true, false, false] rfl rfl (any_of HT_.out (by kernel_rfl)) (fun _ _ _ h => h) (Or.inl ⟨by rfl, ?_⟩) ?_ ?_
                rotate_left
                ·intro w'
                 go_simp
                 with_reducible rfl
                rotate_left
                ·simp only [Act.put, List.setIfInBounds_toArray, List.set_cons_zero, List.set_cons_succ, i64_w, i32_w]
                 rfl
                refine pure_ (i := 8) (N := some 106) (v := ?_) (a' := ?_) #[true, true, true, true, true, true, true, true, true, true, false, false] rfl rfl (any_of HT_.out (by kernel_rfl)) (fun _ _ _ h => h) (Or.inl ⟨by rfl, ?_⟩) ?_ ?_
                rotate_left
                ·intro w'
                 go_simp
                 with_reducible rfl
                rotate_left
                ·simp only [Act.put, List.setIfInBounds_toArray, List.set_cons_zero, List.set_cons_succ, i64_w, i32_w]
                 rfl
                exact norm_ (by simp only [putAll, Act.put, List.setIfInBounds_toArray, List.set_cons_zero, List.set_cons_succ]) (hCont (.slice Ao188 t289.length co188, .slice Ao189 t292.length co189, v296, gb299) _ ⟨hHeld, (by (with_reducible repeat (first | apply Kd.R_alloc | apply Kd.R_drewN | apply Kd.R_drew)); exact Kd.R_mono HO291.out (fun _ hk => ⟨hk.1.2, ⟨hk.2, ⟨hk.1.1.1.1.1.2, ⟨hk.1.1.1.1.2, ⟨hk.1.1.1.2, hk.1.1.2⟩⟩⟩⟩⟩)), (by (with_reducible repeat (first | apply Kd.R_alloc | apply Kd.R_drewN | apply Kd.R_drew)); exact Kd.R_mono HO294.out (fun _ hk => ⟨hk.1.2, ⟨hk.2, ⟨hk.1.1.1.1.1.2, ⟨hk.1.1.1.1.2, ⟨hk.1.1.1.2, hk.1.1.2⟩⟩⟩⟩⟩)), (by (with_reducible repeat (first | apply Kd.R_alloc | apply Kd.R_drewN | apply Kd.R_drew)); exact Kd.R_mono HO297.out (fun _ hk => ⟨hk.1.2, ⟨hk.2, ⟨hk.1.1.1.1.1.2, ⟨hk.1.1.1.1.2, ⟨hk.1.1.1.2, hk.1.1.2⟩⟩⟩⟩⟩)), (by (with_reducible repeat (first | apply Kd.R_alloc | apply Kd.R_drewN | apply Kd.R_drew)); exact Kd.R_mono HO_259000.out (fun _ hk => ⟨hk.1.1.2, ⟨hk.1.2, ⟨hk.2, ⟨hk.1.1.1.1, ⟨hk.1.1.1.2.1, hk.1.1.1.2.2⟩⟩⟩⟩⟩)), (by (with_reducible repeat (first | apply Kd.R_alloc | apply Kd.R_drewN | apply Kd.R_drew)); exact Kd.R_mono HO_263000.out (fun _ hk => ⟨hk.1.1.2, ⟨hk.1.2, ⟨hk.2, ⟨hk.1.1.1.1, ⟨hk.1.1.1.2.1, hk.1.1.1.2.2⟩⟩⟩⟩⟩)), (by (with_reducible repeat (first | apply Kd.R_alloc | apply Kd.R_drewN | apply Kd.R_drew)); exact Kd.R_mono HO_267000.out (fun _ hk => ⟨hk.1.1.2, ⟨hk.1.2, ⟨hk.2, ⟨hk.1.1.1.1, ⟨hk.1.1.1.2.1, hk.1.1.1.2.2⟩⟩⟩⟩⟩)), (by (with_reducible repeat (first | apply Kd.R_alloc | apply Kd.R_drewN | apply Kd.R_drew)); exact Kd.R_mono HO_272000.out (fun _ hk => ⟨hk.1.1.2, ⟨hk.1.2, ⟨hk.2, ⟨hk.1.1.1.1, ⟨hk.1.1.1.2.1, hk.1.1.1.2.2⟩⟩⟩⟩⟩)), (by first | exact BK244.out | exact blk_alloc BK244.out _), (by first | exact BK245.out | exact blk_alloc BK245.out _), (by first | exact BK258.out | exact blk_alloc BK258.out _), (by first | exact BK262.out | exact blk_alloc BK262.out _), (by first | exact BK266.out | exact blk_alloc BK266.out _), (by first | exact BK271.out | exact blk_alloc BK271.out _), (by first | exact BK299.out | exact blk_alloc BK299.out _), GW299.out, GE299.out, NB244_299.out, NB299_244.out, NB245_299.out, NB299_245.out, NB258_299.out, NB299_258.out, NB262_299.out, NB299_262.out, NB266_299.out, NB299_266.out, NB271_299.out, NB299_271.out, (sT HB)⟩)
              ·skip
               refine box_step ?hg (N := 17) ?hd (cs := #[.slice none 0 0]) (t := 28) ?hr ?_; (case hd => rfl); (case hg => rfl); (case hr => first | (go_simp; done) | (go_simp; rfl))
               intro gb299 hg w185 hbox hb
               replace HO_259000 := rA HO_259000 hb
               replace HO_263000 := rA HO_263000 hb
               replace HO_267000 := rA HO_267000 hb
               replace HO_272000 := rA HO_272000 hb
               have BK299 := Aside0.mk (hbox)
               have GW299 := zB HB hg
               have GE299 := zB HB hg
               replace HB := sB HB hb
               have NB244_299 := lA BK244 hg
               have NB299_244 := gA BK244 hg
               replace BK244 := bA BK244 hb
               have NB245_299 := lA BK245 hg
               have NB299_245 := gA BK245 hg
               replace BK245 := bA BK245 hb
               have NB258_299 := lA BK258 hg
               have NB299_258 := gA BK258 hg
               replace BK258 := bA BK258 hb
               have NB262_299 := lA BK262 hg
               have NB299_262 := gA BK262 hg
               replace BK262 := bA BK262 hb
               have NB266_299 := lA BK266 hg
               have NB299_266 := gA BK266 hg
               replace BK266 := bA BK266 hb
               have NB271_299 := lA BK271 hg
               have NB299_271 := gA BK271 hg
               replace BK271 := bA BK271 hb
               clear hb hbox hg
               refine hK.out _ _ ⟨(blk_cell BK244.out 0).trans rfl, (blk_cell BK245.out 0).trans rfl⟩ (fun hHeld => ?_)
               clear hK K
               refine norm_ (a' := ?_) ?_ ?_
               rotate_left
               ·show Act.put _ (some 17) _ = _
                simp only [Act.put, List.setIfInBounds_toArray, List.set_cons_zero, List.set_cons_succ, i64_w, i32_w]
                rfl
               refine one_ (i := 1) (N := some 100) #[true, true, true, true, false, false, false, false, false, true, false, false] rfl rfl (one_of HT_.out (by kernel_rfl)) (by decide) (fun K hK => ?_)
               refine goes_ Try.func7 (by kernel_rfl) rfl #[.agg #[.slice A0_0 l0_0.length c0_0]] (by rfl) rfl rfl (by (try simp only [List.map_toArray, List.map_cons, List.map_nil]); first | done | rfl) ?_
               with_reducible refine (laws_toPicture.calls kj107 _ _ l0_0 t289 _ ?side1 ?side2 A171.out).mono ?_
               (case side1 => exact cT (Kd.C_below HR0_0.out HB.out))
               (case side2 => exact HC0_0.out)
               rintro e w186 ⟨v290, rfl, ho0, hb⟩
               refine ⟨_, rfl, ?_⟩
               have HO291 := Aside0.mk (Kd.R_lower (Kd.R_new' (Kd.R_new' (Kd.R_new' (Kd.R_new' ho0 (Kd.R_lt (rT HO_259000))) (Kd.R_lt (rT HO_263000))) (Kd.R_lt (rT HO_267000))) (Kd.R_lt (rT HO_272000))) (below_size (sT HB)))
               replace HO_259000 := Aside0.mk (Kd.R_elder' (rT HO_259000) (Kd.R_base ho0) hb)
               replace HO_263000 := Aside0.mk (Kd.R_elder' (rT HO_263000) (Kd.R_base ho0) hb)
               replace HO_267000 := Aside0.mk (Kd.R_elder' (rT HO_267000) (Kd.R_base ho0) hb)
               replace HO_272000 := Aside0.mk (Kd.R_elder' (rT HO_272000) (Kd.R_base ho0) hb)
               replace BK244 := bA BK244 hb
               replace BK245 := bA BK245 hb
               replace BK258 := bA BK258 hb
               replace BK262 := bA BK262 hb
               replace BK266 := bA BK266 hb
               replace BK271 := bA BK271 hb
               replace BK299 := bA BK299 hb
               replace HB := sB HB hb
               (try clear hb)
               (try clear hb2)
               (try clear hk)
               (try clear hi)
               (try clear ho0)
               refine hK.out _ _ ⟨(blk_cell BK244.out 0).trans rfl, (blk_cell BK245.out 0).trans rfl⟩ (fun hHeld => ?_)
               clear hK K
               refine norm_ (a' := ?_) ?_ ?_
               rotate_left
               ·show Act.put _ (some 100) _ = _
                simp only [Act.put, List.setIfInBounds_toArray, List.set_cons_zero, List.set_cons_succ, i64_w, i32_w]
                rfl
               refine one_ (i := 4) (N := some 103) #[true, true, true, true, true, false, false, false, false, true, false, false] rfl rfl (one_of HT_.out (by kernel_rfl)) (by decide) (fun K hK => ?_)
               refine goes_ Try.func7 (by kernel_rfl) rfl #[.agg #[.slice A2_0 l2_0.length c2_0]] (by rfl) rfl rfl (by (try simp only [List.map_toArray, List.map_cons, List.map_nil]); first | done | rfl) ?_
               with_reducible refine (laws_toPicture.calls kj107 _ _ l2_0 t292 _ ?side1 ?side2 A172.out).mono ?_
               (case side1 => exact cT (Kd.C_below HR2_0.out HB.out))
               (case side2 => exact HC2_0.out)
               rintro e w187 ⟨v293, rfl, ho0, hb⟩
               refine ⟨_, rfl, ?_⟩
               have HO294 := Aside0.mk (Kd.R_lower (Kd.R_new' (Kd.R_new' (Kd.R_new' (Kd.R_new' (Kd.R_new' ho0 (Kd.R_lt (rT HO_259000))) (Kd.R_lt (rT HO_263000))) (Kd.R_lt (rT HO_267000))) (Kd.R_lt (rT HO_272000))) (Kd.R_lt (rT HO291))) (below_size (sT HB)))
               replace HO_259000 := Aside0.mk (Kd.R_elder' (rT HO_259000) (Kd.R_base ho0) hb)
               replace HO_263000 := Aside0.mk (Kd.R_elder' (rT HO_263000) (Kd.R_base ho0) hb)
               replace HO_267000 := Aside0.mk (Kd.R_elder' (rT HO_267000) (Kd.R_base ho0) hb)
               replace HO_272000 := Aside0.mk (Kd.R_elder' (rT HO_272000) (Kd.R_base ho0) hb)
               replace HO291 := Aside0.mk (Kd.R_elder' (rT HO291) (Kd.R_base ho0) hb)
               replace BK244 := bA BK244 hb
               replace BK245 := bA BK245 hb
               replace BK258 := bA BK258 hb
               replace BK262 := bA BK262 hb
               replace BK266 := bA BK266 hb
               replace BK271 := bA BK271 hb
               replace BK299 := bA BK299 hb
               replace HB := sB HB hb
               (try clear hb)
               (try clear hb2)
               (try clear hk)
               (try clear hi)
               (try clear ho0)
               obtain ⟨Ao188, co188, eo188⟩ := Kd.R_slice HO291.out
               (first | subst eo188 | (injection eo188 with f1_ f2_ f3_; have f4_ := f1_.symm; have f5_ := f3_.symm; clear f1_ f2_ f3_; subst f4_; subst f5_))
               obtain ⟨Ao189, co189, eo189⟩ := Kd.R_slice HO294.out
               (first | subst eo189 | (injection eo189 with f1_ f2_ f3_; have f4_ := f1_.symm; have f5_ := f3_.symm; clear f1_ f2_ f3_; subst f4_; subst f5_))
               refine hK.out _ _ ⟨(blk_cell BK244.out 0).trans rfl, (blk_cell BK245.out 0).trans rfl⟩ (fun hHeld => ?_)
               clear hK K
               refine norm_ (a' := ?_) ?_ ?_
               rotate_left
               ·show Act.put _ (some 103) _ = _
                simp only [Act.put, List.setIfInBounds_toArray, List.set_cons_zero, List.set_cons_succ, i64_w, i32_w]
                rfl
               refine one_ (i := 5) (N := some 104) #[true, true, true, true, true, true, false, false, false, true, false, false] rfl rfl (one_of HT_.out (by kernel_rfl)) (by decide) (fun K hK => ?_)
               refine goes_ Try.func8 (by kernel_rfl) rfl #[.agg #[.slice Ao188 t289.length co188], .int .i64 a1, .agg #[.slice Ao189 t292.length co189]] (by rfl) rfl rfl (by (try simp only [List.map_toArray, List.map_cons, List.map_nil]); first | done | rfl) ?_
               with_reducible refine (impl_GrowOn.calls kj107 _ _ t289 a1 _ _ t292 t295 t298 _ ?side1 ?side2 ?side3 ?side4 A173.out).mono ?_
               (case side1 => exact cT (Kd.R_reads' HO291.out).2.2)
               (case side2 => exact (Kd.R_reads' HO291.out).2.1)
               (case side3 => exact cT (Kd.R_reads' HO294.out).2.2)
               (case side4 => exact (Kd.R_reads' HO294.out).2.1)
               rintro e w190 ⟨v296, rfl, ho0, hb⟩
               refine ⟨_, rfl, ?_⟩
               have HO297 := Aside0.mk (Kd.R_lower (Kd.R_new' (Kd.R_new' (Kd.R_new' (Kd.R_new' (Kd.R_new' (Kd.R_new' ho0 (Kd.R_lt (rT HO_259000))) (Kd.R_lt (rT HO_263000))) (Kd.R_lt (rT HO_267000))) (Kd.R_lt (rT HO_272000))) (Kd.R_lt (rT HO291))) (Kd.R_lt (rT HO294))) (below_size (sT HB)))
               replace HO_259000 := Aside0.mk (Kd.R_elder' (rT HO_259000) (Kd.R_base ho0) hb)
               replace HO_263000 := Aside0.mk (Kd.R_elder' (rT HO_263000) (Kd.R_base ho0) hb)
               replace HO_267000 := Aside0.mk (Kd.R_elder' (rT HO_267000) (Kd.R_base ho0) hb)
               replace HO_272000 := Aside0.mk (Kd.R_elder' (rT HO_272000) (Kd.R_base ho0) hb)
               replace HO291 := Aside0.mk (Kd.R_elder' (rT HO291) (Kd.R_base ho0) hb)
               replace HO294 := Aside0.mk (Kd.R_elder' (rT HO294) (Kd.R_base ho0) hb)
               replace BK244 := bA BK244 hb
               replace BK245 := bA BK245 hb
               replace BK258 := bA BK258 hb
               replace BK262 := bA BK262 hb
               replace BK266 := bA BK266 hb
               replace BK271 := bA BK271 hb
               replace BK299 := bA BK299 hb
               replace HB := sB HB hb
               (try clear hb)
               (try clear hb2)
               (try clear hk)
               (try clear hi)
               (try clear ho0)
               refine hK.out _ _ ⟨(blk_cell BK244.out 0).trans rfl, (blk_cell BK245.out 0).trans rfl⟩ (fun hHeld => ?_)
               clear hK K
               refine norm_ (a' := ?_) ?_ ?_
               rotate_left
               ·show Act.put _ (some 104) _ = _
                simp only [Act.put, List.setIfInBounds_toArray, List.set_cons_zero, List.set_cons_succ, i64_w, i32_w]
                rfl
               refine pure_ (i := 6) (N := some 98) (v := ?_) (a' := ?_) #[true, true, true, true, true, true, true, false, false, true, false, false] rfl rfl (any_of HT_.out (by kernel_rfl)) (fun _ _ _ h => h) (Or.inl ⟨by rfl, ?_⟩) ?_ ?_
               rotate_left
               ·intro w'
                go_simp
                with_reducible rfl
               rotate_left
               ·simp only [Act.put, List.setIfInBounds_toArray, List.set_cons_zero, List.set_cons_succ, i64_w, i32_w]
                rfl
               refine pure_ (i := 7) (N := some 105) (v := ?_) (a' := ?_) #[true, true, true, true, true, true, true, true, false, true, false, false] rfl rfl (any_of HT_.out (by kernel_rfl)) (fun _ _ _ h => h) (Or.inl ⟨by rfl, ?_⟩) ?_ ?_
               rotate_left
               ·intro w'
                go_simp
                with_reducible rfl
               rotate_left
               ·simp only [Act.put, List.setIfInBounds_toArray, List.set_cons_zero, List.set_cons_succ, i64_w, i32_w]
                rfl
               refine pure_ (i := 8) (N := some 106) (v := ?_) (a' := ?_) #[true, true, true, true, true, true, true, true, true, true, false, false] rfl rfl (any_of HT_.out (by kernel_rfl)) (fun _ _ _ h => h) (Or.inl ⟨by rfl, ?_⟩) ?_ ?_
               rotate_left
               ·intro w'
                go_simp
                with_reducible rfl
               rotate_left
               ·simp only [Act.put, List.setIfInBounds_toArray, List.set_cons_zero, List.set_cons_succ, i64_w, i32_w]
                rfl
               exact norm_ (by simp only [putAll, Act.put, List.setIfInBounds_toArray, List.set_cons_zero, List.set_cons_succ]) (hCont (.slice Ao188 t289.length co188, .slice Ao189 t292.length co189, v296, gb299) _ ⟨hHeld, (by (with_reducible repeat (first | apply Kd.R_alloc | apply Kd.R_drewN | apply Kd.R_drew)); exact Kd.R_mono HO291.out (fun _ hk => ⟨hk.1.2, ⟨hk.2, ⟨hk.1.1.1.1.1.2, ⟨hk.1.1.1.1.2, ⟨hk.1.1.1.2, hk.1.1.2⟩⟩⟩⟩⟩)), (by (with_reducible repeat (first | apply Kd.R_alloc | apply Kd.R_drewN | apply Kd.R_drew)); exact Kd.R_mono HO294.out (fun _ hk => ⟨hk.1.2, ⟨hk.2, ⟨hk.1.1.1.1.1.2, ⟨hk.1.1.1.1.2, ⟨hk.1.1.1.2, hk.1.1.2⟩⟩⟩⟩⟩)), (by (with_reducible repeat (first | apply Kd.R_alloc | apply Kd.R_drewN | apply Kd.R_drew)); exact Kd.R_mono HO297.out (fun _ hk => ⟨hk.1.2, ⟨hk.2, ⟨hk.1.1.1.1.1.2, ⟨hk.1.1.1.1.2, ⟨hk.1.1.1.2, hk.1.1.2⟩⟩⟩⟩⟩)), (by (with_reducible repeat (first | apply Kd.R_alloc | apply Kd.R_drewN | apply Kd.R_drew)); exact Kd.R_mono HO_259000.out (fun _ hk => ⟨hk.1.1.2, ⟨hk.1.2, ⟨hk.2, ⟨hk.1.1.1.1, ⟨hk.1.1.1.2.1, hk.1.1.1.2.2⟩⟩⟩⟩⟩)), (by (with_reducible repeat (first | apply Kd.R_alloc | apply Kd.R_drewN | apply Kd.R_drew)); exact Kd.R_mono HO_263000.out (fun _ hk => ⟨hk.1.1.2, ⟨hk.1.2, ⟨hk.2, ⟨hk.1.1.1.1, ⟨hk.1.1.1.2.1, hk.1.1.1.2.2⟩⟩⟩⟩⟩)), (by (with_reducible repeat (first | apply Kd.R_alloc | apply Kd.R_drewN | apply Kd.R_drew)); exact Kd.R_mono HO_267000.out (fun _ hk => ⟨hk.1.1.2, ⟨hk.1.2, ⟨hk.2, ⟨hk.1.1.1.1, ⟨hk.1.1.1.2.1, hk.1.1.1.2.2⟩⟩⟩⟩⟩)), (by (with_reducible repeat (first | apply Kd.R_alloc | apply Kd.R_drewN | apply Kd.R_drew)); exact Kd.R_mono HO_272000.out (fun _ hk => ⟨hk.1.1.2, ⟨hk.1.2, ⟨hk.2, ⟨hk.1.1.1.1, ⟨hk.1.1.1.2.1, hk.1.1.1.2.2⟩⟩⟩⟩⟩)), (by first | exact BK244.out | exact blk_alloc BK244.out _), (by first | exact BK245.out | exact blk_alloc BK245.out _), (by first | exact BK258.out | exact blk_alloc BK258.out _), (by first | exact BK262.out | exact blk_alloc BK262.out _), (by first | exact BK266.out | exact blk_alloc BK266.out _), (by first | exact BK271.out | exact blk_alloc BK271.out _), (by first | exact BK299.out | exact blk_alloc BK299.out _), GW299.out, GE299.out, NB244_299.out, NB299_244.out, NB245_299.out, NB299_245.out, NB258_299.out, NB299_258.out, NB262_299.out, NB299_262.out, NB266_299.out, NB299_266.out, NB271_299.out, NB299_271.out, (sT HB)⟩)
             rintro ⟨v290, v293, v296, gb299⟩ w191 ⟨hS_, h0_, h1_, h2_, h3_, h4_, h5_, h6_, h7_, h8_, h9_, h10_, h11_, h12_, h13_, h14_, h15_, h16_, h17_, h18_, h19_, h20_, h21_, h22_, h23_, h24_, h25_, h26_, h27_, h28_⟩
             have n0_ : Aside0 (Kd.R k47 47 w191 w.heap.size (fun k_ => some k_ ≠ (v293 : Value).ownBlock ∧ some k_ ≠ (v296 : Value).ownBlock ∧ some k_ ≠ (.slice Ao42 t254.length co42 : Value).ownBlock ∧ some k_ ≠ (.slice Ao48 t282.length co48 : Value).ownBlock ∧ some k_ ≠ (.slice Ao57 t284.length co57 : Value).ownBlock ∧ some k_ ≠ (.slice Ao66 t267.length co66 : Value).ownBlock) v290 t289) := ⟨h0_⟩
             have n1_ : Aside0 (Kd.R k47 47 w191 w.heap.size (fun k_ => some k_ ≠ (v290 : Value).ownBlock ∧ some k_ ≠ (v296 : Value).ownBlock ∧ some k_ ≠ (.slice Ao42 t254.length co42 : Value).ownBlock ∧ some k_ ≠ (.slice Ao48 t282.length co48 : Value).ownBlock ∧ some k_ ≠ (.slice Ao57 t284.length co57 : Value).ownBlock ∧ some k_ ≠ (.slice Ao66 t267.length co66 : Value).ownBlock) v293 t292) := ⟨h1_⟩
             have n2_ : Aside0 (Kd.R k47 47 w191 w.heap.size (fun k_ => some k_ ≠ (v290 : Value).ownBlock ∧ some k_ ≠ (v293 : Value).ownBlock ∧ some k_ ≠ (.slice Ao42 t254.length co42 : Value).ownBlock ∧ some k_ ≠ (.slice Ao48 t282.length co48 : Value).ownBlock ∧ some k_ ≠ (.slice Ao57 t284.length co57 : Value).ownBlock ∧ some k_ ≠ (.slice Ao66 t267.length co66 : Value).ownBlock) v296 t295) := ⟨h2_⟩
             have n3_ : Aside0 (Kd.R k47 47 w191 w.heap.size (fun k_ => some k_ ≠ (v290 : Value).ownBlock ∧ some k_ ≠ (v293 : Value).ownBlock ∧ some k_ ≠ (v296 : Value).ownBlock ∧ some k_ ≠ (.slice Ao48 t282.length co48 : Value).ownBlock ∧ some k_ ≠ (.slice Ao57 t284.length co57 : Value).ownBlock ∧ some k_ ≠ (.slice Ao66 t267.length co66 : Value).ownBlock) (.slice Ao42 t254.length co42) t254) := ⟨h3_⟩
             have n4_ : Aside0 (Kd.R k47 47 w191 w.heap.size (fun k_ => some k_ ≠ (v290 : Value).ownBlock ∧ some k_ ≠ (v293 : Value).ownBlock ∧ some k_ ≠ (v296 : Value).ownBlock ∧ some k_ ≠ (.slice Ao42 t254.length co42 : Value).ownBlock ∧ some k_ ≠ (.slice Ao57 t284.length co57 : Value).ownBlock ∧ some k_ ≠ (.slice Ao66 t267.length co66 : Value).ownBlock) (.slice Ao48 t282.length co48) t282) := ⟨h4_⟩
             have n5_ : Aside0 (Kd.R k47 47 w191 w.heap.size (fun k_ => some k_ ≠ (v290 : Value).ownBlock ∧ some k_ ≠ (v293 : Value).ownBlock ∧ some k_ ≠ (v296 : Value).ownBlock ∧ some k_ ≠ (.slice Ao42 t254.length co42 : Value).ownBlock ∧ some k_ ≠ (.slice Ao48 t282.length co48 : Value).ownBlock ∧ some k_ ≠ (.slice Ao66 t267.length co66 : Value).ownBlock) (.slice Ao57 t284.length co57) t284) := ⟨h5_⟩
             have n6_ : Aside0 (Kd.R k47 47 w191 w.heap.size (fun k_ => some k_ ≠ (v290 : Value).ownBlock ∧ some k_ ≠ (v293 : Value).ownBlock ∧ some k_ ≠ (v296 : Value).ownBlock ∧ some k_ ≠ (.slice Ao42 t254.length co42 : Value).ownBlock ∧ some k_ ≠ (.slice Ao48 t282.length co48 : Value).ownBlock ∧ some k_ ≠ (.slice Ao57 t284.length co57 : Value).ownBlock) (.slice Ao66 t267.length co66) t287) := ⟨h6_⟩
             have n7_ : Aside0 (w191.heap[gb244]? = some (.cells #[.slice A0_0 l0_0.length c0_0] 24 (0, 0))) := ⟨h7_⟩
             have n8_ : Aside0 (w191.heap[gb245]? = some (.cells #[.slice A2_0 l2_0.length c2_0] 24 (0, 0))) := ⟨h8_⟩
             have n9_ : Aside0 (w191.heap[gb258]? = some (.cells #[.slice Ao42 t254.length co42] 28 (0, 0))) := ⟨h9_⟩
             have n10_ : Aside0 (w191.heap[gb262]? = some (.cells #[.slice Ao48 t282.length co48] 28 (0, 0))) := ⟨h10_⟩
             have n11_ : Aside0 (w191.heap[gb266]? = some (.cells #[.slice Ao57 t284.length co57] 28 (0, 0))) := ⟨h11_⟩
             have n12_ : Aside0 (w191.heap[gb271]? = some (.cells #[.slice Ao66 t267.length co66] 28 (0, 0))) := ⟨h12_⟩
             have n13_ : Aside0 (w191.heap[gb299]? = some (.cells #[.slice none 0 0] 28 (0, 0))) := ⟨h13_⟩
             have n14_ : Aside0 (w.heap.size ≤ gb299) := ⟨h14_⟩
             have n15_ : Aside0 (w.heap.size ≤ gb299) := ⟨h15_⟩
             have n16_ : Aside0 (gb244 ≠ gb299) := ⟨h16_⟩
             have n17_ : Aside0 (gb299 ≠ gb244) := ⟨h17_⟩
             have n18_ : Aside0 (gb245 ≠ gb299) := ⟨h18_⟩
             have n19_ : Aside0 (gb299 ≠ gb245) := ⟨h19_⟩
             have n20_ : Aside0 (gb258 ≠ gb299) := ⟨h20_⟩
             have n21_ : Aside0 (gb299 ≠ gb258) := ⟨h21_⟩
             have n22_ : Aside0 (gb262 ≠ gb299) := ⟨h22_⟩
             have n23_ : Aside0 (gb299 ≠ gb262) := ⟨h23_⟩
             have n24_ : Aside0 (gb266 ≠ gb299) := ⟨h24_⟩
             have n25_ : Aside0 (gb299 ≠ gb266) := ⟨h25_⟩
             have n26_ : Aside0 (gb271 ≠ gb299) := ⟨h26_⟩
             have n27_ : Aside0 (gb299 ≠ gb271) := ⟨h27_⟩
             have n28_ : Aside0 (Below w.heap.size w w191) := ⟨h28_⟩
             clear HO_259000
             clear HO_263000
             clear HO_267000
             clear HO_272000
             clear BK244
             clear BK245
             clear BK258
             clear BK262
             clear BK266
             clear BK271
             clear HB
             clear h0_ h1_ h2_ h3_ h4_ h5_ h6_ h7_ h8_ h9_ h10_ h11_ h12_ h13_ h14_ h15_ h16_ h17_ h18_ h19_ h20_ h21_ h22_ h23_ h24_ h25_ h26_ h27_ h28_
             have HO291 := n0_
             have HO294 := n1_
             have HO297 := n2_
             have HO_259000 := n3_
             have HO_263000 := n4_
             have HO_267000 := n5_
             have HO_272000 := n6_
             have BK244 := n7_
             have BK245 := n8_
             have BK258 := n9_
             have BK262 := n10_
             have BK266 := n11_
             have BK271 := n12_
             have BK299 := n13_
             have GW299 := n14_
             have GE299 := n15_
             have NB244_299 := n16_
             have NB299_244 := n17_
             have NB245_299 := n18_
             have NB299_245 := n19_
             have NB258_299 := n20_
             have NB299_258 := n21_
             have NB262_299 := n22_
             have NB299_262 := n23_
             have NB266_299 := n24_
             have NB299_266 := n25_
             have NB271_299 := n26_
             have NB299_271 := n27_
             have HB := n28_
             clear n0_ n1_ n2_ n3_ n4_ n5_ n6_ n7_ n8_ n9_ n10_ n11_ n12_ n13_ n14_ n15_ n16_ n17_ n18_ n19_ n20_ n21_ n22_ n23_ n24_ n25_ n26_ n27_ n28_
             have hHeld : w191.cell? ⟨gb244, 0, none⟩ = some (.slice A0_0 l0_0.length c0_0) ∧ w191.cell? ⟨gb245, 0, none⟩ = some (.slice A2_0 l2_0.length c2_0) := hS_
             obtain ⟨Ao192, co192, eo192⟩ := Kd.R_slice HO297.out
             (first | subst eo192 | (injection eo192 with f1_ f2_ f3_; have f4_ := f1_.symm; have f5_ := f3_.symm; clear f1_ f2_ f3_; subst f4_; subst f5_))
             refine norm_ (a' := ?_) ?_ ?_
             rotate_left
             ·simp only [putAll, Act.put, List.setIfInBounds_toArray, List.set_cons_zero, List.set_cons_succ]
              rfl
             refine one_ (i := 10) (N := none) #[true, true, true, true, true, true, true, true, true, true, true, false] rfl rfl (one_of HT_.out (by kernel_rfl)) (by decide) (fun K hK => ?_)
             have hs193 : w191.cell? ⟨gb299, 0, none⟩ = some (.slice none 0 0) := (blk_cell BK299.out 0).trans rfl
             have hfs193 := blk_frozen BK299.out 0
             have hns193_0 := NB244_299.out
             have hns193_1 := NB245_299.out
             have hns193_2 := NB258_299.out
             have hns193_3 := NB262_299.out
             have hns193_4 := NB266_299.out
             have hns193_5 := NB271_299.out
             have hms193_0 := NB299_244.out
             have hms193_1 := NB299_245.out
             have hms193_2 := NB299_258.out
             have hms193_3 := NB299_262.out
             have hms193_4 := NB299_266.out
             have hms193_5 := NB299_271.out
             refine skip_ (w1 := ?_) (by rfl) rfl ?_ ?_
             rotate_left
             ·go_simp
              rfl
             refine hK.out _ _ ⟨((cell_far (p := ⟨gb299, _, none⟩) NB244_299.out _).trans (hHeld.1)), ((cell_far (p := ⟨gb299, _, none⟩) NB245_299.out _).trans (hHeld.2))⟩ (fun hHeld => ?_)
             clear hK K
             refine pure_ (i := 11) (N := some 18) (v := ?_) (a' := ?_) #[true, true, true, true, true, true, true, true, true, true, true, true] rfl rfl (any_of HT_.out (by kernel_rfl)) (fun _ _ _ h => h) (Or.inl ⟨by rfl, ?_⟩) ?_ ?_
             rotate_left
             ·intro w'
              go_simp
              with_reducible rfl
             rotate_left
             ·simp only [Act.put, List.setIfInBounds_toArray, List.set_cons_zero, List.set_cons_succ, i64_w, i32_w]
              rfl
             refine done_ (done_of HT_.out (by kernel_rfl)) ?_
             go_upto_region 32 with (fail)
             go_cut [115] (fun v115 wc => ∃ (kq : Nat) (x115_173 : Bool), v115 = .bool x115_173 ∧ Aside0 (laws_FnExactGrowOn.j2 kq t286 x115_173 t287 = some r) ∧ Aside0 (kq ≤ kj107) ∧ Aside0 (Kd.R k47 47 wc w.heap.size (fun k_ => some k_ ≠ ((.slice Ao48 t282.length co48) : Value).ownBlock ∧ some k_ ≠ ((.slice Ao57 t284.length co57) : Value).ownBlock ∧ some k_ ≠ ((.slice Ao66 t267.length co66) : Value).ownBlock ∧ some k_ ≠ ((.slice Ao192 t295.length co192) : Value).ownBlock) (.slice Ao42 t254.length co42) t254) ∧ Aside0 (Kd.R k47 47 wc w.heap.size (fun k_ => some k_ ≠ ((.slice Ao42 t254.length co42) : Value).ownBlock ∧ some k_ ≠ ((.slice Ao57 t284.length co57) : Value).ownBlock ∧ some k_ ≠ ((.slice Ao66 t267.length co66) : Value).ownBlock ∧ some k_ ≠ ((.slice Ao192 t295.length co192) : Value).ownBlock) (.slice Ao48 t282.length co48) t282) ∧ Aside0 (Kd.R k47 47 wc w.heap.size (fun k_ => some k_ ≠ ((.slice Ao42 t254.length co42) : Value).ownBlock ∧ some k_ ≠ ((.slice Ao48 t282.length co48) : Value).ownBlock ∧ some k_ ≠ ((.slice Ao66 t267.length co66) : Value).ownBlock ∧ some k_ ≠ ((.slice Ao192 t295.length co192) : Value).ownBlock) (.slice Ao57 t284.length co57) t284) ∧ Aside0 (Kd.R k47 47 wc w.heap.size (fun k_ => some k_ ≠ ((.slice Ao42 t254.length co42) : Value).ownBlock ∧ some k_ ≠ ((.slice Ao48 t282.length co48) : Value).ownBlock ∧ some k_ ≠ ((.slice Ao57 t284.length co57) : Value).ownBlock ∧ some k_ ≠ ((.slice Ao192 t295.length co192) : Value).ownBlock) (.slice Ao66 t267.length co66) t287) ∧ Aside0 (Kd.R k47 47 wc w.heap.size (fun k_ => some k_ ≠ ((.slice Ao42 t254.length co42) : Value).ownBlock ∧ some k_ ≠ ((.slice Ao48 t282.length co48) : Value).ownBlock ∧ some k_ ≠ ((.slice Ao57 t284.length co57) : Value).ownBlock ∧ some k_ ≠ ((.slice Ao66 t267.length co66) : Value).ownBlock) (.slice Ao192 t295.length co192) t295) ∧ Aside0 (wc.heap[gb244]? = some (.cells #[(.slice A0_0 l0_0.length c0_0)] 24 (0, 0))) ∧ Aside0 (wc.heap[gb245]? = some (.cells #[(.slice A2_0 l2_0.length c2_0)] 24 (0, 0))) ∧ Aside0 (wc.heap[gb258]? = some (.cells #[(.slice Ao42 t254.length co42)] 28 (0, 0))) ∧ Aside0 (wc.heap[gb262]? = some (.cells #[(.slice Ao48 t282.length co48)] 28 (0, 0))) ∧ Aside0 (wc.heap[gb266]? = some (.cells #[(.slice Ao57 t284.length co57)] 28 (0, 0))) ∧ Aside0 (wc.heap[gb271]? = some (.cells #[(.slice Ao66 t267.length co66)] 28 (0, 0))) ∧ Aside0 (wc.heap[gb299]? = some (.cells #[(.slice Ao192 t295.length co192)] 28 (0, 0))) ∧ Aside0 (Below w.heap.size w wc))
             case first =>
              have H := HC174.out
              clear HC174
              replace H := Option.bind_eq_some_iff.mp H
              obtain ⟨t300, A1940, H⟩ := H
              replace H : (if t300 = true then (laws_FnExactGrowOn.j2 kj107 t286 (t298 != t257) t287) else (laws_FnExactGrowOn.j2 kj107 t286 true t287)) = some r := H
              have A194 := Aside0.mk A1940
              clear A1940
              by_cases c195 : t300 = true
              ·subst c195
               have H1 : (laws_FnExactGrowOn.j2 kj107 t286 (t298 != t257) t287) = some r := by rw [if_pos rfl] at H; exact H
               clear H
               have H := H1
               clear H1
               have H' := Aside0.mk H
               clear H
               have hnb196 := NB299_244.out
               have hnc196 := NB244_299.out
               have hnb197 := NB299_245.out
               have hnc197 := NB245_299.out
               have hnb198 := NB299_258.out
               have hnc198 := NB258_299.out
               have hnb199 := NB299_262.out
               have hnc199 := NB262_299.out
               have hnb200 := NB299_266.out
               have hnc200 := NB266_299.out
               have hnb201 := NB299_271.out
               have hnc201 := NB271_299.out
               have hcz202_0 : w191.cell? ⟨gb299, 0, none⟩ = some (.slice none 0 0) := (blk_cell BK299.out 0).trans rfl
               have hfz202_0 := blk_frozen BK299.out 0
               have hnb203 := NB258_244.out
               have hnc203 := NB244_258.out
               have hnb204 := NB258_245.out
               have hnc204 := NB245_258.out
               have hnb205 := NB258_262.out
               have hnc205 := NB262_258.out
               have hnb206 := NB258_266.out
               have hnc206 := NB266_258.out
               have hnb207 := NB258_271.out
               have hnc207 := NB271_258.out
               have hcz208_0 : w191.cell? ⟨gb258, 0, none⟩ = some (.slice Ao42 t254.length co42) := (blk_cell BK258.out 0).trans rfl
               have hfz208_0 := blk_frozen BK258.out 0
               go_wp2_with (first | ((with_reducible refine gate_callee (f := 9) rfl ?_); refine goesL_ (some 109) rfl rfl Try.func9 (by kernel_rfl) rfl #[.agg #[.slice Ao192 t295.length co192], .agg #[.slice Ao42 t254.length co42]] rfl (by (try simp only [List.map_toArray, List.map_cons, List.map_nil]); first | done | rfl) ?_; (with_reducible refine (laws_eqPicture.calls kj107 _ _ t295 _ _ t254 true _ ?side1 ?side2 ?side3 ?side4 A194.out).mono ?_); (case side1 => refine (Kd.R_reads' (e := 47) (base := w.heap.size) (ok := fun k_ => (some k_ ≠ (v290 : Value).ownBlock ∧ (some k_ ≠ (v293 : Value).ownBlock ∧ (some k_ ≠ (.slice Ao42 t254.length co42 : Value).ownBlock ∧ (some k_ ≠ (.slice Ao48 t282.length co48 : Value).ownBlock ∧ (some k_ ≠ (.slice Ao57 t284.length co57 : Value).ownBlock ∧ some k_ ≠ (.slice Ao66 t267.length co66 : Value).ownBlock)))))) (n := t295.length) (c := co192) ?_).2.2; exact (by (with_reducible repeat (first | apply Kd.R_alloc | apply Kd.R_drewN | apply Kd.R_drew)); exact (Kd.R_mono (Kd.R_far (p := ⟨gb299, 0, none⟩) (Kd.R_types HO297.out BK299.out (by decide)) (fun _ hk => hk.2) (.slice Ao192 t295.length co192)) (fun _ h_ => h_.1)))); (case side2 => exact (Kd.R_reads' HO297.out).2.1); (case side3 => refine (Kd.R_reads' (e := 47) (base := w.heap.size) (ok := fun k_ => (some k_ ≠ (v290 : Value).ownBlock ∧ (some k_ ≠ (v293 : Value).ownBlock ∧ (some k_ ≠ (.slice Ao192 t295.length co192 : Value).ownBlock ∧ (some k_ ≠ (.slice Ao48 t282.length co48 : Value).ownBlock ∧ (some k_ ≠ (.slice Ao57 t284.length co57 : Value).ownBlock ∧ some k_ ≠ (.slice Ao66 t267.length co66 : Value).ownBlock)))))) (n := t254.length) (c := co42) ?_).2.2; exact (by (with_reducible repeat (first | apply Kd.R_alloc | apply Kd.R_drewN | apply Kd.R_drew)); exact (Kd.R_mono (Kd.R_far (p := ⟨gb299, 0, none⟩) (Kd.R_types HO_259000.out BK299.out (by decide)) (fun _ hk => hk.2) (.slice Ao192 t295.length co192)) (fun _ h_ => h_.1)))); (case side4 => exact (Kd.R_reads' HO_259000.out).2.1); rintro e w209 ⟨rfl, hb⟩; refine ⟨_, rfl, ?_⟩; replace HO_259000 := Aside0.mk (Kd.R_below (by (with_reducible repeat (first | apply Kd.R_alloc | apply Kd.R_drewN | apply Kd.R_drew)); exact (Kd.R_mono (Kd.R_far (p := ⟨gb299, 0, none⟩) (Kd.R_types HO_259000.out BK299.out (by decide)) (fun _ hk => hk.2) (.slice Ao192 t295.length co192)) (fun _ h_ => h_.1))) hb); replace HO_263000 := Aside0.mk (Kd.R_below (by (with_reducible repeat (first | apply Kd.R_alloc | apply Kd.R_drewN | apply Kd.R_drew)); exact (Kd.R_mono (Kd.R_far (p := ⟨gb299, 0, none⟩) (Kd.R_types HO_263000.out BK299.out (by decide)) (fun _ hk => hk.2) (.slice Ao192 t295.length co192)) (fun _ h_ => h_.1))) hb); replace HO_267000 := Aside0.mk (Kd.R_below (by (with_reducible repeat (first | apply Kd.R_alloc | apply Kd.R_drewN | apply Kd.R_drew)); exact (Kd.R_mono (Kd.R_far (p := ⟨gb299, 0, none⟩) (Kd.R_types HO_267000.out BK299.out (by decide)) (fun _ hk => hk.2) (.slice Ao192 t295.length co192)) (fun _ h_ => h_.1))) hb); replace HO_272000 := Aside0.mk (Kd.R_below (by (with_reducible repeat (first | apply Kd.R_alloc | apply Kd.R_drewN | apply Kd.R_drew)); exact (Kd.R_mono (Kd.R_far (p := ⟨gb299, 0, none⟩) (Kd.R_types HO_272000.out BK299.out (by decide)) (fun _ hk => hk.2) (.slice Ao192 t295.length co192)) (fun _ h_ => h_.1))) hb); replace HO291 := Aside0.mk (Kd.R_below (by (with_reducible repeat (first | apply Kd.R_alloc | apply Kd.R_drewN | apply Kd.R_drew)); exact (Kd.R_mono (Kd.R_far (p := ⟨gb299, 0, none⟩) (Kd.R_types HO291.out BK299.out (by decide)) (fun _ hk => hk.2) (.slice Ao192 t295.length co192)) (fun _ h_ => h_.1))) hb); replace HO294 := Aside0.mk (Kd.R_below (by (with_reducible repeat (first | apply Kd.R_alloc | apply Kd.R_drewN | apply Kd.R_drew)); exact (Kd.R_mono (Kd.R_far (p := ⟨gb299, 0, none⟩) (Kd.R_types HO294.out BK299.out (by decide)) (fun _ hk => hk.2) (.slice Ao192 t295.length co192)) (fun _ h_ => h_.1))) hb); replace HO297 := Aside0.mk (Kd.R_below (by (with_reducible repeat (first | apply Kd.R_alloc | apply Kd.R_drewN | apply Kd.R_drew)); exact (Kd.R_mono (Kd.R_far (p := ⟨gb299, 0, none⟩) (Kd.R_types HO297.out BK299.out (by decide)) (fun _ hk => hk.2) (.slice Ao192 t295.length co192)) (fun _ h_ => h_.1))) hb); replace BK244 := Aside0.mk (blk_below (g := gb244) (o := .cells #[.slice A0_0 l0_0.length c0_0] 24 (0, 0)) (by (with_reducible repeat (first | refine blk_drewN ?_ _ | refine blk_drew ?_ | refine blk_alloc ?_ _)); refine blk_far ?_ NB244_299.out _; (with_reducible repeat (first | refine blk_drewN ?_ _ | refine blk_drew ?_ | refine blk_alloc ?_ _)); exact BK244.out) hb); replace BK245 := Aside0.mk (blk_below (g := gb245) (o := .cells #[.slice A2_0 l2_0.length c2_0] 24 (0, 0)) (by (with_reducible repeat (first | refine blk_drewN ?_ _ | refine blk_drew ?_ | refine blk_alloc ?_ _)); refine blk_far ?_ NB245_299.out _; (with_reducible repeat (first | refine blk_drewN ?_ _ | refine blk_drew ?_ | refine blk_alloc ?_ _)); exact BK245.out) hb); replace BK258 := Aside0.mk (blk_below (g := gb258) (o := .cells #[.slice Ao42 t254.length co42] 28 (0, 0)) (by (with_reducible repeat (first | refine blk_drewN ?_ _ | refine blk_drew ?_ | refine blk_alloc ?_ _)); refine blk_far ?_ NB258_299.out _; (with_reducible repeat (first | refine blk_drewN ?_ _ | refine blk_drew ?_ | refine blk_alloc ?_ _)); exact BK258.out) hb); replace BK262 := Aside0.mk (blk_below (g := gb262) (o := .cells #[.slice Ao48 t282.length co48] 28 (0, 0)) (by (with_reducible repeat (first | refine blk_drewN ?_ _ | refine blk_drew ?_ | refine blk_alloc ?_ _)); refine blk_far ?_ NB262_299.out _; (with_reducible repeat (first | refine blk_drewN ?_ _ | refine blk_drew ?_ | refine blk_alloc ?_ _)); exact BK262.out) hb); replace BK266 := Aside0.mk (blk_below (g := gb266) (o := .cells #[.slice Ao57 t284.length co57] 28 (0, 0)) (by (with_reducible repeat (first | refine blk_drewN ?_ _ | refine blk_drew ?_ | refine blk_alloc ?_ _)); refine blk_far ?_ NB266_299.out _; (with_reducible repeat (first | refine blk_drewN ?_ _ | refine blk_drew ?_ | refine blk_alloc ?_ _)); exact BK266.out) hb); replace BK271 := Aside0.mk (blk_below (g := gb271) (o := .cells #[.slice Ao66 t267.length co66] 28 (0, 0)) (by (with_reducible repeat (first | refine blk_drewN ?_ _ | refine blk_drew ?_ | refine blk_alloc ?_ _)); refine blk_far ?_ NB271_299.out _; (with_reducible repeat (first | refine blk_drewN ?_ _ | refine blk_drew ?_ | refine blk_alloc ?_ _)); exact BK271.out) hb); replace BK299 := Aside0.mk (blk_below (g := gb299) (o := .cells #[.slice Ao192 t295.length co192] 28 (0, 0)) (by (with_reducible repeat (first | refine blk_drewN ?_ _ | refine blk_drew ?_ | refine blk_alloc ?_ _)); refine blk_put (cs := #[.slice none 0 0]) ?_ 0 _ rfl; (with_reducible repeat (first | refine blk_drewN ?_ _ | refine blk_drew ?_ | refine blk_alloc ?_ _)); exact BK299.out) hb); replace HB := sB HB hb; (try clear hb); (try clear hb2); (try clear hk); (try clear hi)))
               go_meet
               case rel => exact ⟨_, ((t298 != t257)), (by first | rfl | (simp; done) | (simp [*]; done)), H', ⟨by have := HJ25.out; have := HJ107.out; first | omega | exact Nat.le_refl _⟩, ⟨by (try simp only [hl263000_107]); (try simp only [hl267000_107]); (with_reducible repeat (first | apply Kd.R_alloc | apply Kd.R_drewN | apply Kd.R_drew)); exact Kd.R_mono HO_259000.out (fun _ hk => ⟨hk.2.2.2.1, ⟨hk.2.2.2.2.1, ⟨hk.2.2.2.2.2, hk.2.2.1⟩⟩⟩)⟩, ⟨by (try simp only [hl263000_107]); (try simp only [hl267000_107]); (with_reducible repeat (first | apply Kd.R_alloc | apply Kd.R_drewN | apply Kd.R_drew)); exact Kd.R_mono HO_263000.out (fun _ hk => ⟨hk.2.2.2.1, ⟨hk.2.2.2.2.1, ⟨hk.2.2.2.2.2, hk.2.2.1⟩⟩⟩)⟩, ⟨by (try simp only [hl263000_107]); (try simp only [hl267000_107]); (with_reducible repeat (first | apply Kd.R_alloc | apply Kd.R_drewN | apply Kd.R_drew)); exact Kd.R_mono HO_267000.out (fun _ hk => ⟨hk.2.2.2.1, ⟨hk.2.2.2.2.1, ⟨hk.2.2.2.2.2, hk.2.2.1⟩⟩⟩)⟩, ⟨by (try simp only [hl263000_107]); (try simp only [hl267000_107]); (with_reducible repeat (first | apply Kd.R_alloc | apply Kd.R_drewN | apply Kd.R_drew)); exact Kd.R_mono HO_272000.out (fun _ hk => ⟨hk.2.2.2.1, ⟨hk.2.2.2.2.1, ⟨hk.2.2.2.2.2, hk.2.2.1⟩⟩⟩)⟩, ⟨by (try simp only [hl263000_107]); (try simp only [hl267000_107]); (with_reducible repeat (first | apply Kd.R_alloc | apply Kd.R_drewN | apply Kd.R_drew)); exact Kd.R_mono HO297.out (fun _ hk => ⟨hk.2.2.1, ⟨hk.2.2.2.1, ⟨hk.2.2.2.2.1, hk.2.2.2.2.2⟩⟩⟩)⟩, ⟨by (try simp only [hl263000_107]); (try simp only [hl267000_107]); (with_reducible repeat (first | refine blk_drewN ?_ _ | refine blk_drew ?_ | refine blk_alloc ?_ _)); exact BK244.out⟩, ⟨by (try simp only [hl263000_107]); (try simp only [hl267000_107]); (with_reducible repeat (first | refine blk_drewN ?_ _ | refine blk_drew ?_ | refine blk_alloc ?_ _)); exact BK245.out⟩, ⟨by (try simp only [hl263000_107]); (try simp only [hl267000_107]); (with_reducible repeat (first | refine blk_drewN ?_ _ | refine blk_drew ?_ | refine blk_alloc ?_ _)); exact BK258.out⟩, ⟨by (try simp only [hl263000_107]); (try simp only [hl267000_107]); (with_reducible repeat (first | refine blk_drewN ?_ _ | refine blk_drew ?_ | refine blk_alloc ?_ _)); exact BK262.out⟩, ⟨by (try simp only [hl263000_107]); (try simp only [hl267000_107]); (with_reducible repeat (first | refine blk_drewN ?_ _ | refine blk_drew ?_ | refine blk_alloc ?_ _)); exact BK266.out⟩, ⟨by (try simp only [hl263000_107]); (try simp only [hl267000_107]); (with_reducible repeat (first | refine blk_drewN ?_ _ | refine blk_drew ?_ | refine blk_alloc ?_ _)); exact BK271.out⟩, ⟨by (try simp only [hl263000_107]); (try simp only [hl267000_107]); (with_reducible repeat (first | refine blk_drewN ?_ _ | refine blk_drew ?_ | refine blk_alloc ?_ _)); exact BK299.out⟩, ⟨by repeat (first | (with_reducible first | exact HB.out | apply below_alloc | apply pw_below_drewN | apply below_drew1 | refine below_set ?_ GE244.out | refine below_set ?_ GE245.out | refine below_set ?_ GE258.out | refine below_set ?_ GE262.out | refine below_set ?_ GE266.out | refine below_set ?_ GE271.out | refine below_set ?_ GE299.out) | exact HB.out)⟩⟩
              ·replace c195 := Bool.eq_false_iff.mpr c195
               subst c195
               have H1 : (laws_FnExactGrowOn.j2 kj107 t286 true t287) = some r := by rw [if_neg (show ¬ (false = true) by decide)] at H; exact H
               exfalso
               cases kj107 with
               | zero => simp [laws_FnExactGrowOn.j2] at H1
               | succ n_ =>
                simp only [laws_FnExactGrowOn.j2, if_true] at H1
                exact absurd ((Option.some.inj H1).trans hr_.out) (by decide)
             case rest =>
              clear HC174
              try clear c1
              try clear c2
              try clear p2
              try clear c7
              try clear c8
              try clear c9
              try clear c19
              try clear c20
              try clear c21
              try clear c22
              try clear c195
              try clear c196
              try clear c197
              try clear c198
              try clear c199
              try clear c200
              try clear c201
              try clear c203
              try clear c204
              try clear c205
              try clear c206
              try clear c207
              try clear c210
              try clear c211
              try clear c212
              try clear c213
              try clear c214
              try clear c215
              try clear c217
              try clear c218
              try clear c219
              try clear c220
              try clear c221
              try clear hcz202_0
              try clear hcz208_0
              try clear hcz216_0
              try clear hcz222_0
              try clear hfz202_0
              try clear hfz208_0
              try clear hfz216_0
              try clear hfz222_0
              obtain ⟨kq, x115_173, rfl, HA, HJ173, HO_259000, HO_263000, HO_267000, HO_272000, HO_300000, BK244, BK245, BK258, BK262, BK266, BK271, BK299, HB⟩ := hcut
              have hl272000_173 := (Kd.R_reads' HO_272000.out).1
              rw [hl272000_173] at HO_272000
              (try simp only [hl272000_173])
              (try simp only [hl272000_173] at BK244)
              (try simp only [hl272000_173] at BK245)
              (try simp only [hl272000_173] at BK258)
              (try simp only [hl272000_173] at BK262)
              (try simp only [hl272000_173] at BK266)
              (try simp only [hl272000_173] at BK271)
              (try simp only [hl272000_173] at BK299)
              (try simp only [hl272000_173] at HO_259000)
              (try simp only [hl272000_173] at HO_263000)
              (try simp only [hl272000_173] at HO_267000)
              (try simp only [hl272000_173] at HO_300000)
              cases kq with
              | zero => exact absurd HA.out (by simp [laws_FnExactGrowOn.j2])
              | succ kj173 =>
               have H := HA.out
               clear HA
               simp only [laws_FnExactGrowOn.j2] at H
               by_cases c224 : x115_173 = true
               ·subst c224
                have H1 : (some false) = some r := by rw [if_pos rfl] at H; exact H
                exact absurd ((Option.some.inj H1).trans hr_.out) (by decide)
               ·replace c224 := Bool.eq_false_iff.mpr c224
                subst c224
                have H1 : ((laws_heldPicture.f kj173 t287 1).bind fun t301 => (if t301 < 0 then (some false) else (if t301 = t286 then (some true) else (some false)))) = some r := by rw [if_neg (show ¬ (false = true) by decide)] at H; exact H
                clear H
                have H := H1
                clear H1
                replace H := Option.bind_eq_some_iff.mp H
                obtain ⟨t301, A2250, H⟩ := H
                replace H : (if t301 < 0 then (some false) else (if t301 = t286 then (some true) else (some false))) = some r := H
                have A225 := Aside0.mk A2250
                clear A2250
                by_cases c226 : t301 < 0
                ·rw [if_pos c226] at H
                 have c226b0 : decide (t301 < 0) = true := decide_eq_true c226
                 clear c226
                 try exact absurd ((Option.some.inj H).trans hr_.out) (by decide)
                 all_goals
                  obtain rfl := Option.some.inj H
                  have hnb227 := NB271_244.out
                  have hnc227 := NB244_271.out
                  have hnb228 := NB271_245.out
                  have hnc228 := NB245_271.out
                  have hnb229 := NB271_258.out
                  have hnc229 := NB258_271.out
                  have hnb230 := NB271_262.out
                  have hnc230 := NB262_271.out
                  have hnb231 := NB271_266.out
                  have hnc231 := NB266_271.out
                  have hnb232 := NB271_299.out
                  have hnc232 := NB299_271.out
                  have hcz233_0 : wc.cell? ⟨gb271, 0, none⟩ = some (.slice Ao66 t287.length co66) := (blk_cell BK271.out 0).trans rfl
                  have hfz233_0 := blk_frozen BK271.out 0
                  go_wp2_with (first | ((with_reducible refine gate_callee (f := 11) rfl ?_); refine goesL_ (some 118) rfl rfl Try.func11 (by kernel_rfl) rfl #[.agg #[.slice Ao66 t287.length co66], .int .i64 1] rfl (by (try simp only [List.map_toArray, List.map_cons, List.map_nil]); first | done | rfl) ?_; (with_reducible refine (laws_heldPicture.calls kj173 _ _ t287 1 t301 _ ?side1 ?side2 A225.out).mono ?_); (case side1 => exact cT (Kd.R_reads' HO_272000.out).2.2); (case side2 => exact (Kd.R_reads' HO_272000.out).2.1); rintro e w234 ⟨rfl, hb⟩; refine ⟨_, rfl, ?_⟩; replace HO_259000 := rA HO_259000 hb; replace HO_263000 := rA HO_263000 hb; replace HO_267000 := rA HO_267000 hb; replace HO_272000 := rA HO_272000 hb; replace HO_300000 := rA HO_300000 hb; replace BK244 := bA BK244 hb; replace BK245 := bA BK245 hb; replace BK258 := bA BK258 hb; replace BK262 := bA BK262 hb; replace BK266 := bA BK266 hb; replace BK271 := bA BK271 hb; replace BK299 := bA BK299 hb; replace HB := sB HB hb; (try clear hb); (try clear hb2); (try clear hk); (try clear hi)))
                  go_ret
                  exact ⟨by first | rfl | (simp [errW_none, errW_some] <;> rfl) | (simp [*, errW_none, errW_some] <;> rfl), by repeat (first | (with_reducible first | exact HB.out | apply below_alloc | apply pw_below_drewN | apply below_drew1 | refine below_set ?_ GE244.out | refine below_set ?_ GE245.out | refine below_set ?_ GE258.out | refine below_set ?_ GE262.out | refine below_set ?_ GE266.out | refine below_set ?_ GE271.out | refine below_set ?_ GE299.out) | exact HB.out)⟩
                ·rw [if_neg c226] at H
                 have c226b0 : decide (t301 < 0) = false := decide_eq_false c226
                 clear c226
                 by_cases c235 : t301 = t286
                 ·rw [if_pos c235] at H
                  have c235b0 : (t301 == t286) = true := beq_iff_eq.mpr c235
                  have c235b1 : (t301 != t286) = false := bne_eq_false_iff_eq.mpr c235
                  clear c235
                  try exact absurd ((Option.some.inj H).trans hr_.out) (by decide)
                  all_goals
                   obtain rfl := Option.some.inj H
                   have hnb236 := NB271_244.out
                   have hnc236 := NB244_271.out
                   have hnb237 := NB271_245.out
                   have hnc237 := NB245_271.out
                   have hnb238 := NB271_258.out
                   have hnc238 := NB258_271.out
                   have hnb239 := NB271_262.out
                   have hnc239 := NB262_271.out
                   have hnb240 := NB271_266.out
                   have hnc240 := NB266_271.out
                   have hnb241 := NB271_299.out
                   have hnc241 := NB299_271.out
                   have hcz242_0 : wc.cell? ⟨gb271, 0, none⟩ = some (.slice Ao66 t287.length co66) := (blk_cell BK271.out 0).trans rfl
                   have hfz242_0 := blk_frozen BK271.out 0
                   go_wp2_with (first | ((with_reducible refine gate_callee (f := 11) rfl ?_); refine goesL_ (some 118) rfl rfl Try.func11 (by kernel_rfl) rfl #[.agg #[.slice Ao66 t287.length co66], .int .i64 1] rfl (by (try simp only [List.map_toArray, List.map_cons, List.map_nil]); first | done | rfl) ?_; (with_reducible refine (laws_heldPicture.calls kj173 _ _ t287 1 t301 _ ?side1 ?side2 A225.out).mono ?_); (case side1 => exact cT (Kd.R_reads' HO_272000.out).2.2); (case side2 => exact (Kd.R_reads' HO_272000.out).2.1); rintro e w243 ⟨rfl, hb⟩; refine ⟨_, rfl, ?_⟩; replace HO_259000 := rA HO_259000 hb; replace HO_263000 := rA HO_263000 hb; replace HO_267000 := rA HO_267000 hb; replace HO_272000 := rA HO_272000 hb; replace HO_300000 := rA HO_300000 hb; replace BK244 := bA BK244 hb; replace BK245 := bA BK245 hb; replace BK258 := bA BK258 hb; replace BK262 := bA BK262 hb; replace BK266 := bA BK266 hb; replace BK271 := bA BK271 hb; replace BK299 := bA BK299 hb; replace HB := sB HB hb; (try clear hb); (try clear hb2); (try clear hk); (try clear hi)))
                   go_ret
                   exact ⟨by first | rfl | (simp [errW_none, errW_some] <;> rfl) | (simp [*, errW_none, errW_some] <;> rfl), by repeat (first | (with_reducible first | exact HB.out | apply below_alloc | apply pw_below_drewN | apply below_drew1 | refine below_set ?_ GE244.out | refine below_set ?_ GE245.out | refine below_set ?_ GE258.out | refine below_set ?_ GE262.out | refine below_set ?_ GE266.out | refine below_set ?_ GE271.out | refine below_set ?_ GE299.out) | exact HB.out)⟩
                 ·rw [if_neg c235] at H
                  have c235b0 : (t301 == t286) = false := beq_eq_false_iff_ne.mpr c235
                  have c235b1 : (t301 != t286) = true := bne_iff_ne.mpr c235
                  try exact absurd ((Option.some.inj H).trans hr_.out) (by decide)
                  all_goals
                   obtain rfl := Option.some.inj H
                   have hnb244 := NB271_244.out
                   have hnc244 := NB244_271.out
                   have hnb245 := NB271_245.out
                   have hnc245 := NB245_271.out
                   have hnb246 := NB271_258.out
                   have hnc246 := NB258_271.out
                   have hnb247 := NB271_262.out
                   have hnc247 := NB262_271.out
                   have hnb248 := NB271_266.out
                   have hnc248 := NB266_271.out
                   have hnb249 := NB271_299.out
                   have hnc249 := NB299_271.out
                   have hcz250_0 : wc.cell? ⟨gb271, 0, none⟩ = some (.slice Ao66 t287.length co66) := (blk_cell BK271.out 0).trans rfl
                   have hfz250_0 := blk_frozen BK271.out 0
                   go_wp2_with (first | ((with_reducible refine gate_callee (f := 11) rfl ?_); refine goesL_ (some 118) rfl rfl Try.func11 (by kernel_rfl) rfl #[.agg #[.slice Ao66 t287.length co66], .int .i64 1] rfl (by (try simp only [List.map_toArray, List.map_cons, List.map_nil]); first | done | rfl) ?_; (with_reducible refine (laws_heldPicture.calls kj173 _ _ t287 1 t301 _ ?side1 ?side2 A225.out).mono ?_); (case side1 => exact cT (Kd.R_reads' HO_272000.out).2.2); (case side2 => exact (Kd.R_reads' HO_272000.out).2.1); rintro e w251 ⟨rfl, hb⟩; refine ⟨_, rfl, ?_⟩; replace HO_259000 := rA HO_259000 hb; replace HO_263000 := rA HO_263000 hb; replace HO_267000 := rA HO_267000 hb; replace HO_272000 := rA HO_272000 hb; replace HO_300000 := rA HO_300000 hb; replace BK244 := bA BK244 hb; replace BK245 := bA BK245 hb; replace BK258 := bA BK258 hb; replace BK262 := bA BK262 hb; replace BK266 := bA BK266 hb; replace BK271 := bA BK271 hb; replace BK299 := bA BK299 hb; replace HB := sB HB hb; (try clear hb); (try clear hb2); (try clear hk); (try clear hi)))
                   go_ret
                   exact ⟨by first | rfl | (simp [errW_none, errW_some] <;> rfl) | (simp [*, errW_none, errW_some] <;> rfl), by repeat (first | (with_reducible first | exact HB.out | apply below_alloc | apply pw_below_drewN | apply below_drew1 | refine below_set ?_ GE244.out | refine below_set ?_ GE245.out | refine below_set ?_ GE258.out | refine below_set ?_ GE262.out | refine below_set ?_ GE266.out | refine below_set ?_ GE271.out | refine below_set ?_ GE299.out) | exact HB.out)⟩
            ·rw [if_neg c170] at H
             have c170b0 : (t288 == t286) = false := beq_eq_false_iff_ne.mpr c170
             have c170b1 : (t288 != t286) = true := bne_iff_ne.mpr c170
             try exact absurd ((Option.some.inj H).trans hr_.out) (by decide)
             all_goals
              obtain rfl := Option.some.inj H
              have hnb252 := NB271_244.out
              have hnc252 := NB244_271.out
              have hnb253 := NB271_245.out
              have hnc253 := NB245_271.out
              have hnb254 := NB271_258.out
              have hnc254 := NB258_271.out
              have hnb255 := NB271_262.out
              have hnc255 := NB262_271.out
              have hnb256 := NB271_266.out
              have hnc256 := NB266_271.out
              have hcz257_0 : wc.cell? ⟨gb271, 0, none⟩ = some (.slice Ao66 t267.length co66) := (blk_cell BK271.out 0).trans rfl
              have hfz257_0 := blk_frozen BK271.out 0
              go_wp2_with (first | ((with_reducible refine gate_callee (f := 10) rfl ?_); refine goesL_ (some 89) rfl rfl Try.func10 (by kernel_rfl) rfl #[.agg #[.slice Ao66 t267.length co66], .int .i64 1] rfl (by (try simp only [List.map_toArray, List.map_cons, List.map_nil]); first | done | rfl) ?_; (with_reducible refine (laws_markPicture.calls kj107 (fun k_ => some k_ = (.slice Ao66 t267.length co66 : Value).ownBlock) (.slice Ao66 t267.length co66) t267 1 t286 t287 w _ ?side1 ?side2 A158.out).mono ?_); (case side1 => exact sT HB); (case side2 => exact Kd.R_tight rfl HO_272000.out); rintro e w258 ⟨rfl, hy0, hb, hkp⟩; refine ⟨_, rfl, ?_⟩; replace HO_259000 := Aside0.mk (Kd.R_mono (ok' := fun k_ => some k_ ≠ (.slice Ao48 t282.length co48 : Value).ownBlock ∧ some k_ ≠ (.slice Ao57 t284.length co57 : Value).ownBlock ∧ some k_ ≠ (.slice Ao66 t267.length co66 : Value).ownBlock) (Kd.R_keptB (HO_259000.out) hkp (fun k_ hk_ hs_ => (hk_.2.2) hs_)) (fun k_ hk_ => ⟨hk_.1.1, hk_.1.2.1, hk_.1.2.2⟩)); replace HO_263000 := Aside0.mk (Kd.R_mono (ok' := fun k_ => some k_ ≠ (.slice Ao42 t254.length co42 : Value).ownBlock ∧ some k_ ≠ (.slice Ao57 t284.length co57 : Value).ownBlock ∧ some k_ ≠ (.slice Ao66 t267.length co66 : Value).ownBlock) (Kd.R_keptB (HO_263000.out) hkp (fun k_ hk_ hs_ => (hk_.2.2) hs_)) (fun k_ hk_ => ⟨hk_.1.1, hk_.1.2.1, hk_.1.2.2⟩)); replace HO_267000 := Aside0.mk (Kd.R_mono (ok' := fun k_ => some k_ ≠ (.slice Ao42 t254.length co42 : Value).ownBlock ∧ some k_ ≠ (.slice Ao48 t282.length co48 : Value).ownBlock ∧ some k_ ≠ (.slice Ao66 t267.length co66 : Value).ownBlock) (Kd.R_keptB (HO_267000.out) hkp (fun k_ hk_ hs_ => (hk_.2.2) hs_)) (fun k_ hk_ => ⟨hk_.1.1, hk_.1.2.1, hk_.1.2.2⟩)); replace BK244 := Aside0.mk (blk_kept (by first | exact BK244.out | exact blk_alloc BK244.out _) hkp (fun hs_ => (fun e_ => (Kd.R_ne HO_272000.out BK244.out (by decide)) e_) hs_)); replace BK245 := Aside0.mk (blk_kept (by first | exact BK245.out | exact blk_alloc BK245.out _) hkp (fun hs_ => (fun e_ => (Kd.R_ne HO_272000.out BK245.out (by decide)) e_) hs_)); replace BK258 := Aside0.mk (blk_kept (by first | exact BK258.out | exact blk_alloc BK258.out _) hkp (fun hs_ => (fun e_ => (Kd.R_ne HO_272000.out BK258.out (by decide)) e_) hs_)); replace BK262 := Aside0.mk (blk_kept (by first | exact BK262.out | exact blk_alloc BK262.out _) hkp (fun hs_ => (fun e_ => (Kd.R_ne HO_272000.out BK262.out (by decide)) e_) hs_)); replace BK266 := Aside0.mk (blk_kept (by first | exact BK266.out | exact blk_alloc BK266.out _) hkp (fun hs_ => (fun e_ => (Kd.R_ne HO_272000.out BK266.out (by decide)) e_) hs_)); replace BK271 := Aside0.mk (blk_kept (by first | exact BK271.out | exact blk_alloc BK271.out _) hkp (fun hs_ => (fun e_ => (Kd.R_ne HO_272000.out BK271.out (by decide)) e_) hs_)); replace HO_272000 := Aside0.mk (Kd.R_reok rfl hy0 (fun k_ e_ => HO_272000.out.1 k_ e_)); replace HB := Aside0.mk (hb); (try clear hb); (try clear hkp); (try clear hy0); have hcz259_0 : w258.cell? ⟨gb271, 0, none⟩ = some (.slice Ao66 t267.length co66) := (blk_cell BK271.out 0).trans rfl; have hfz259_0 := blk_frozen BK271.out 0) | ((with_reducible refine gate_callee (f := 11) rfl ?_); refine goesL_ (some 92) rfl rfl Try.func11 (by kernel_rfl) rfl #[.agg #[.slice Ao66 t287.length co66], .int .i64 1] rfl (by (try simp only [List.map_toArray, List.map_cons, List.map_nil]); first | done | (rw [show t287.length = t267.length from (Kd.R_reads' HO_272000.out).1.symm] <;> rfl) | rfl | (simp only [List.length_drop, List.length_take]; rfl)) ?_; (with_reducible refine (laws_heldPicture.calls kj107 _ _ t287 1 t288 _ ?side1 ?side2 A159.out).mono ?_); (case side1 => exact cT (Kd.R_reads' HO_272000.out).2.2); (case side2 => rw [show t287.length = t267.length from (Kd.R_reads' HO_272000.out).1.symm]; exact (Kd.R_reads' HO_272000.out).2.1); rintro e w260 ⟨rfl, hb⟩; refine ⟨_, rfl, ?_⟩; replace HO_259000 := rA HO_259000 hb; replace HO_263000 := rA HO_263000 hb; replace HO_267000 := rA HO_267000 hb; replace HO_272000 := rA HO_272000 hb; replace BK244 := bA BK244 hb; replace BK245 := bA BK245 hb; replace BK258 := bA BK258 hb; replace BK262 := bA BK262 hb; replace BK266 := bA BK266 hb; replace BK271 := bA BK271 hb; replace HB := sB HB hb; (try clear hb); (try clear hb2); (try clear hk); (try clear hi)))
              go_ret
              exact ⟨by first | rfl | (simp [errW_none, errW_some] <;> rfl) | (simp [*, errW_none, errW_some] <;> rfl), by repeat (first | (with_reducible first | exact HB.out | apply below_alloc | apply pw_below_drewN | apply below_drew1 | refine below_set ?_ GE244.out | refine below_set ?_ GE245.out | refine below_set ?_ GE258.out | refine below_set ?_ GE262.out | refine below_set ?_ GE266.out | refine below_set ?_ GE271.out) | exact HB.out)⟩
       ·replace c105 := Bool.eq_false_iff.mpr c105
        subst c105
        have H1 : (some false) = some r := by rw [if_neg (show ¬ (false = true) by decide)] at H; exact H
        exact absurd ((Option.some.inj H1).trans hr_.out) (by decide)
      ·replace c102 := Bool.eq_false_iff.mpr c102
       subst c102
       have H1 : (some false) = some r := by rw [if_neg (show ¬ (false = true) by decide)] at H; exact H
       exact absurd ((Option.some.inj H1).trans hr_.out) (by decide)
end Go.Proofs.Ytnabbkaipfhmdaa.QFnExactGrowOn
