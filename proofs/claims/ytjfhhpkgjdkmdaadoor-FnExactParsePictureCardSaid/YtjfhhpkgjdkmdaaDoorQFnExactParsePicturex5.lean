/- The Go functions that the law FnExactParsePicture reaches, as Lean functions, and what their calls do. Written by a program of this session. -/
import Derived.Test.YtjfhhpkgjdkmdaaDoorQFnExactParsePicturex0
import Derived.Test.YtjfhhpkgjdkmdaaDoorQFnExactParsePicturex1
import Derived.Test.YtjfhhpkgjdkmdaaDoorQFnExactParsePicturex3
import Derived.Test.YtjfhhpkgjdkmdaaDoorQFnExactParsePicturex4
namespace Go.Proofs.YtjfhhpkgjdkmdaaDoor.QFnExactParsePicture
open Go.RowKit Go.Proofs.YtjfhhpkgjdkmdaaDoorW.PrintWords Go.Proofs.YtjfhhpkgjdkmdaaDoorW.PrintLast Go.Proofs.YtjfhhpkgjdkmdaaDoorW.PrintMore
attribute [local go_sem] max2_int min2_int max_two min_two max_three min_three max_four min_four   -- for this text's walks alone
set_option linter.unusedVariables false
set_option linter.unusedSimpArgs false

/-! ### spec_ParsePicture: function 14 -/
def spec_ParsePicture.l0 : Nat → List ByteArray → Int → Int → List (S56) → Option ((List (S56)) × Bool)
 | 0, _, _, _, _ => none
 | k + 1, x14, x15, x16, x153000 => if x16 < x15 then (if 0 ≤ x16 then (if x16 < (x14.length : Int) then ((spec_piEdge.f k (rdOf ByteArray.empty x14 x16)).bind fun bt157 => (if bt157.2.2.2 = true then (if x153000.length < 5864062014805 then (spec_ParsePicture.l0 k x14 x15 (wrap64 (x16 + 1)) (x153000 ++ [(⟨bt157.1, bt157.2.1, bt157.2.2.1⟩ : S56)])) else (none)) else (some (([] : List (S56)), false)))) else (none)) else (none)) else ((spec_piIf.f k x153000).bind fun bt165 => (some (bt165.1, bt165.2)))
def spec_ParsePicture.f (k : Nat) (a0 : ByteArray) : Option ((List (S56)) × Bool) := if a0.toList = ([] : List UInt8) then (some (([] : List (S56)), true)) else ((spec_l1Split.f k a0 32).bind fun t153 => (spec_ParsePicture.l0 k t153 (t153.length : Int) 0 ([] : List (S56))))
theorem spec_ParsePicture.mono_l : ∀ k, (∀ y0 y1 y2 y3, LeO (spec_ParsePicture.l0 k y0 y1 y2 y3) (spec_ParsePicture.l0 (k + 1) y0 y1 y2 y3))
 | 0 => fun _ _ _ _ r h => by simp [spec_ParsePicture.l0] at h
 | k + 1 => by
  have ih0 := spec_ParsePicture.mono_l k
  ·intro y0 y1 y2 y3
   unfold spec_ParsePicture.l0
   repeat' first
   | (with_reducible exact ih0 _ _ _ _)
   | (with_reducible exact spec_l1Split.mono _ _ _)
   | (with_reducible exact spec_piEdge.mono _ _)
   | (with_reducible exact spec_piIf.mono _ _)
   | (with_reducible exact LeO.refl _)
   | (with_reducible exact LeO.none _)
   | (with_reducible refine LeO.ite ?_ ?_)
   | (with_reducible refine LeO.bind ?_ (fun _ => ?_))
   | exact ih0 _ _ _ _
   | exact spec_l1Split.mono _ _ _
   | exact spec_piEdge.mono _ _
   | exact spec_piIf.mono _ _
   | exact LeO.none _
   | refine LeO.ite ?_ ?_
   | refine LeO.bind ?_ (fun _ => ?_)
theorem spec_ParsePicture.mono : ∀ a0 k, LeO (spec_ParsePicture.f k a0) (spec_ParsePicture.f (k + 1) a0) := by
 intro a0 k
 have ih0 := spec_ParsePicture.mono_l k
 unfold spec_ParsePicture.f
 repeat' first
   | (with_reducible exact ih0 _ _ _ _)
   | (with_reducible exact spec_l1Split.mono _ _ _)
   | (with_reducible exact spec_piEdge.mono _ _)
   | (with_reducible exact spec_piIf.mono _ _)
   | (with_reducible exact LeO.refl _)
   | (with_reducible exact LeO.none _)
   | (with_reducible refine LeO.ite ?_ ?_)
   | (with_reducible refine LeO.bind ?_ (fun _ => ?_))
   | exact ih0 _ _ _ _
   | exact spec_l1Split.mono _ _ _
   | exact spec_piEdge.mono _ _
   | exact spec_piIf.mono _ _
   | exact LeO.none _
   | refine LeO.ite ?_ ?_
   | refine LeO.bind ?_ (fun _ => ?_)
set_option maxHeartbeats 8000000 in
set_option maxRecDepth 100000 in
theorem spec_ParsePicture.calls (k : Nat) (a0 : ByteArray) (r1 : List (S56)) (r2 : Bool) (w : World) (h : spec_ParsePicture.f k a0 = some (r1, r2)) :
  Calls Tryd.prog 14 #[.string a0] w fun e w' => ∃ v0_ : Value, e = .returned (.tuple #[.agg #[v0_], .bool r2]) ∧ Kd.R k56 56 w' w.heap.size (fun _ => True) v0_ r1 ∧ Below w.heap.size w w' := by
 have hu30 := Tryd.underlying30
 have hu56 := Tryd.underlying56
 have HB := Aside0.mk (Below.refl w.heap.size w)
 have H : (if a0.toList = ([] : List UInt8) then (some (([] : List (S56)), true)) else ((spec_l1Split.f k a0 32).bind fun t153 => (spec_ParsePicture.l0 k t153 (t153.length : Int) 0 ([] : List (S56))))) = some (r1, r2) := h
 clear h
 by_cases c2 : a0.toList = ([] : List UInt8)
 ·rw [if_pos c2] at H
  have c2b0 : (a0.toList == ([] : List UInt8)) = true := beq_iff_eq.mpr c2
  have c2b1 : (a0.toList != ([] : List UInt8)) = false := bne_eq_false_iff_eq.mpr c2
  clear c2
  simp only [Option.some.injEq, Prod.mk.injEq] at H
  obtain ⟨rfl, rfl⟩ := H
  go_enter Tryd.func14, Tryd.ntmps14
  go_wp2_with (first | ((with_reducible refine gate_dst (N := 2) rfl ?_); refine box_event ?hg (N := 2) ?hd (cs := #[.slice none 0 0]) (t := 30) ?hr ?_; (case hd => rfl); (case hg => rfl); (case hr => first | (go_simp; done) | (go_simp; rfl)); intro gb151 hg w3 hbox hb; have n0_ := Aside0.mk (below_step (by repeat (first | (with_reducible first | exact HB.out | apply below_alloc | apply pw_below_drewN | apply below_drew1) | exact HB.out)) hb); have n1_ := Aside0.mk (hbox); have n2_ := Aside0.mk ((by rw [hg]; exact (below_size (by repeat (first | (with_reducible first | exact HB.out | apply below_alloc | apply pw_below_drewN | apply below_drew1) | exact HB.out))) : w.heap.size ≤ gb151)); have n3_ := Aside0.mk ((by rw [hg]; exact (below_size (by repeat (first | (with_reducible first | exact HB.out | apply below_alloc | apply pw_below_drewN | apply below_drew1) | exact HB.out))) : w.heap.size ≤ gb151)); clear HB; have HB := n0_; have BK151 := n1_; have GW151 := n2_; have GE151 := n3_; clear n0_ n1_ n2_ n3_; clear hb hbox hg) | ((with_reducible refine gate_dst (N := 4) rfl ?_); refine box_event ?hg (N := 4) ?hd (cs := #[.slice none 0 0]) (t := 30) ?hr ?_; (case hd => rfl); (case hg => rfl); (case hr => first | (go_simp; done) | (go_simp; rfl)); intro gb152 hg w4 hbox hb; have n0_ := Aside0.mk (blk_below (g := gb151) (o := .cells #[.slice none 0 0] 30 (0, 0)) (by (with_reducible repeat (first | refine blk_drewN ?_ _ | refine blk_drew ?_ | refine blk_alloc ?_ _)); exact BK151.out) hb); have n1_ := Aside0.mk (below_step (by repeat (first | (with_reducible first | exact HB.out | apply below_alloc | apply pw_below_drewN | apply below_drew1 | refine below_set ?_ GE151.out) | exact HB.out)) hb); have n2_ := Aside0.mk (hbox); have n3_ := Aside0.mk ((by rw [hg]; exact (below_size (by repeat (first | (with_reducible first | exact HB.out | apply below_alloc | apply pw_below_drewN | apply below_drew1 | refine below_set ?_ GE151.out) | exact HB.out))) : w.heap.size ≤ gb152)); have n4_ := Aside0.mk ((by rw [hg]; exact (below_size (by repeat (first | (with_reducible first | exact HB.out | apply below_alloc | apply pw_below_drewN | apply below_drew1 | refine below_set ?_ GE151.out) | exact HB.out))) : w.heap.size ≤ gb152)); have n5_ := Aside0.mk ((by rw [hg]; exact Nat.ne_of_lt (blk_lt (g := gb151) (o := .cells #[.slice none 0 0] 30 (0, 0)) (by (with_reducible repeat (first | refine blk_drewN ?_ _ | refine blk_drew ?_ | refine blk_alloc ?_ _)); exact BK151.out)) : gb151 ≠ gb152)); have n6_ := Aside0.mk ((by rw [hg]; exact Nat.ne_of_gt (blk_lt (g := gb151) (o := .cells #[.slice none 0 0] 30 (0, 0)) (by (with_reducible repeat (first | refine blk_drewN ?_ _ | refine blk_drew ?_ | refine blk_alloc ?_ _)); exact BK151.out)) : gb152 ≠ gb151)); clear BK151; clear HB; have BK151 := n0_; have HB := n1_; have BK152 := n2_; have GW152 := n3_; have GE152 := n4_; have NB151_152 := n5_; have NB152_151 := n6_; clear n0_ n1_ n2_ n3_ n4_ n5_ n6_; clear hb hbox hg; have hnb5 := NB152_151.out; have hnc5 := NB151_152.out; have hcz6_0 : w4.cell? ⟨gb152, 0, none⟩ = some (.slice none 0 0) := (blk_cell BK152.out 0).trans rfl; have hfz6_0 := blk_frozen BK152.out 0; have hcz7_0 : w4.cell? ⟨gb151, 0, none⟩ = some (.slice none 0 0) := (blk_cell BK151.out 0).trans rfl; have hfz7_0 := blk_frozen BK151.out 0))
  refine bodyPost_ret (results_ct rfl _ _ gb151 30 #[.slice none 0 0] (0, 0) _ rfl (by (with_reducible repeat (first | refine blk_drewN ?_ _ | refine blk_drew ?_ | refine blk_alloc ?_ _)); refine blk_put (cs := #[.slice none 0 0]) ?_ 0 _ rfl; (with_reducible repeat (first | refine blk_drewN ?_ _ | refine blk_drew ?_ | refine blk_alloc ?_ _)); refine blk_far ?_ NB151_152.out _; (with_reducible repeat (first | refine blk_drewN ?_ _ | refine blk_drew ?_ | refine blk_alloc ?_ _)); exact BK151.out) Tryd.underlying30 rfl (by kernel_rfl)) rfl ?_
  exact ⟨_, by first | rfl | (simp [errW_none, errW_some] <;> rfl) | (simp [*, errW_none, errW_some] <;> rfl), by first | exact Kd.R_nil _ _ _ _ _ | exact Kd.N_nil _ _ _ _ _ | exact Kd.V_nil _ _ _ _ _ | exact Kd.Q_nil _ _ _ _ _ | exact Kd.S_nil _ _ _ _ _, by repeat (first | (with_reducible first | exact HB.out | apply below_alloc | apply pw_below_drewN | apply below_drew1 | refine below_set ?_ GE151.out | refine below_set ?_ GE152.out) | exact HB.out)⟩
 ·rw [if_neg c2] at H
  have c2b0 : (a0.toList == ([] : List UInt8)) = false := beq_eq_false_iff_ne.mpr c2
  have c2b1 : (a0.toList != ([] : List UInt8)) = true := bne_iff_ne.mpr c2
  replace H := Option.bind_eq_some_iff.mp H
  obtain ⟨t153, A80, H⟩ := H
  replace H : (spec_ParsePicture.l0 k t153 (t153.length : Int) 0 ([] : List (S56))) = some (r1, r2) := H
  have A8 := Aside0.mk A80
  clear A80
  have H' := Aside0.mk H
  clear H
  go_enter Tryd.func14, Tryd.ntmps14
  go_wp2_with (first | ((with_reducible refine gate_dst (N := 2) rfl ?_); refine box_event ?hg (N := 2) ?hd (cs := #[.slice none 0 0]) (t := 30) ?hr ?_; (case hd => rfl); (case hg => rfl); (case hr => first | (go_simp; done) | (go_simp; rfl)); intro gb151 hg w9 hbox hb; have n0_ := Aside0.mk (below_step (by repeat (first | (with_reducible first | exact HB.out | apply below_alloc | apply pw_below_drewN | apply below_drew1) | exact HB.out)) hb); have n1_ := Aside0.mk (hbox); have n2_ := Aside0.mk ((by rw [hg]; exact (below_size (by repeat (first | (with_reducible first | exact HB.out | apply below_alloc | apply pw_below_drewN | apply below_drew1) | exact HB.out))) : w.heap.size ≤ gb151)); have n3_ := Aside0.mk ((by rw [hg]; exact (below_size (by repeat (first | (with_reducible first | exact HB.out | apply below_alloc | apply pw_below_drewN | apply below_drew1) | exact HB.out))) : w.heap.size ≤ gb151)); clear HB; have HB := n0_; have BK151 := n1_; have GW151 := n2_; have GE151 := n3_; clear n0_ n1_ n2_ n3_; clear hb hbox hg) | ((with_reducible refine gate_dst (N := 4) rfl ?_); refine box_event ?hg (N := 4) ?hd (cs := #[.slice none 0 0]) (t := 30) ?hr ?_; (case hd => rfl); (case hg => rfl); (case hr => first | (go_simp; done) | (go_simp; rfl)); intro gb152 hg w10 hbox hb; have n0_ := Aside0.mk (blk_below (g := gb151) (o := .cells #[.slice none 0 0] 30 (0, 0)) (by (with_reducible repeat (first | refine blk_drewN ?_ _ | refine blk_drew ?_ | refine blk_alloc ?_ _)); exact BK151.out) hb); have n1_ := Aside0.mk (below_step (by repeat (first | (with_reducible first | exact HB.out | apply below_alloc | apply pw_below_drewN | apply below_drew1 | refine below_set ?_ GE151.out) | exact HB.out)) hb); have n2_ := Aside0.mk (hbox); have n3_ := Aside0.mk ((by rw [hg]; exact (below_size (by repeat (first | (with_reducible first | exact HB.out | apply below_alloc | apply pw_below_drewN | apply below_drew1 | refine below_set ?_ GE151.out) | exact HB.out))) : w.heap.size ≤ gb152)); have n4_ := Aside0.mk ((by rw [hg]; exact (below_size (by repeat (first | (with_reducible first | exact HB.out | apply below_alloc | apply pw_below_drewN | apply below_drew1 | refine below_set ?_ GE151.out) | exact HB.out))) : w.heap.size ≤ gb152)); have n5_ := Aside0.mk ((by rw [hg]; exact Nat.ne_of_lt (blk_lt (g := gb151) (o := .cells #[.slice none 0 0] 30 (0, 0)) (by (with_reducible repeat (first | refine blk_drewN ?_ _ | refine blk_drew ?_ | refine blk_alloc ?_ _)); exact BK151.out)) : gb151 ≠ gb152)); have n6_ := Aside0.mk ((by rw [hg]; exact Nat.ne_of_gt (blk_lt (g := gb151) (o := .cells #[.slice none 0 0] 30 (0, 0)) (by (with_reducible repeat (first | refine blk_drewN ?_ _ | refine blk_drew ?_ | refine blk_alloc ?_ _)); exact BK151.out)) : gb152 ≠ gb151)); clear BK151; clear HB; have BK151 := n0_; have HB := n1_; have BK152 := n2_; have GW152 := n3_; have GE152 := n4_; have NB151_152 := n5_; have NB152_151 := n6_; clear n0_ n1_ n2_ n3_ n4_ n5_ n6_; clear hb hbox hg; have hnb11 := NB152_151.out; have hnc11 := NB151_152.out; have hcz12_0 : w10.cell? ⟨gb152, 0, none⟩ = some (.slice none 0 0) := (blk_cell BK152.out 0).trans rfl; have hfz12_0 := blk_frozen BK152.out 0) | ((with_reducible refine gate_callee (f := 35) rfl ?_); refine goesL_ (some 14) rfl rfl Tryd.func35 (by kernel_rfl) rfl #[.string a0, .int .u8 32] rfl (by (try simp only [List.map_toArray, List.map_cons, List.map_nil]); first | done | rfl | (simp only [List.length_drop, List.length_take]; rfl)) ?_; (with_reducible refine (spec_l1Split.calls k a0 32 t153 _ A8.out).mono ?_); rintro e w13 ⟨v154, rfl, ho0, hb⟩; refine ⟨_, rfl, ?_⟩; have n0_ := Aside0.mk (Kd.R_lower ho0 (below_size (by repeat (first | (with_reducible first | exact HB.out | apply below_alloc | apply pw_below_drewN | apply below_drew1 | refine below_set ?_ GE151.out | refine below_set ?_ GE152.out) | exact HB.out)))); have n1_ := Aside0.mk (blk_below (g := gb151) (o := .cells #[.slice none 0 0] 30 (0, 0)) (by (with_reducible repeat (first | refine blk_drewN ?_ _ | refine blk_drew ?_ | refine blk_alloc ?_ _)); refine blk_far ?_ NB151_152.out _; (with_reducible repeat (first | refine blk_drewN ?_ _ | refine blk_drew ?_ | refine blk_alloc ?_ _)); exact BK151.out) hb); have n2_ := Aside0.mk (blk_below (g := gb152) (o := .cells #[.slice none 0 0] 30 (0, 0)) (by (with_reducible repeat (first | refine blk_drewN ?_ _ | refine blk_drew ?_ | refine blk_alloc ?_ _)); refine blk_put (cs := #[.slice none 0 0]) ?_ 0 _ rfl; (with_reducible repeat (first | refine blk_drewN ?_ _ | refine blk_drew ?_ | refine blk_alloc ?_ _)); exact BK152.out) hb); have n3_ := Aside0.mk (below_step (by repeat (first | (with_reducible first | exact HB.out | apply below_alloc | apply pw_below_drewN | apply below_drew1 | refine below_set ?_ GE151.out | refine below_set ?_ GE152.out) | exact HB.out)) hb); clear BK151; clear BK152; clear HB; have HO155 := n0_; have BK151 := n1_; have BK152 := n2_; have HB := n3_; clear n0_ n1_ n2_ n3_; (try clear hb); (try clear hb2); (try clear hk); (try clear hi); (try clear ho0); obtain ⟨Ao14, co14, eo14⟩ := Kd.R_slice HO155.out; subst eo14))
  go_loopg [16] k (fun kq v16 w' => ∃ (x16_1 : Int) (x153000_1 : List (S56)) (u153000 : Value), v16 = .int .i64 x16_1 ∧ Aside0 (spec_ParsePicture.l0 kq t153 (t153.length : Int) x16_1 x153000_1 = some (r1, r2)) ∧ Aside0 (kq ≤ k) ∧ Aside0 (Kd.R Kd.string 9 w' w.heap.size (fun _ => True) (.slice Ao14 t153.length co14) t153) ∧ Aside0 (Kd.R k56 56 w' w.heap.size (fun _ => True) u153000 x153000_1) ∧ Aside0 (w'.heap[gb151]? = some (.cells #[(.slice none 0 0)] 30 (0, 0))) ∧ Aside0 (w'.heap[gb152]? = some (.cells #[u153000] 30 (0, 0))) ∧ Aside0 (Below w.heap.size w w'))
  case atStart => exact ⟨(0), (([] : List (S56))), (.slice none 0 0), (by first | rfl | (simp; done) | (simp [*]; done)), H', ⟨Nat.le_refl _⟩, ⟨by (with_reducible repeat (first | apply Kd.R_alloc | apply Kd.R_drewN | apply Kd.R_drew)); exact HO155.out⟩, ⟨by first | exact Kd.R_nil _ _ _ _ _ | exact Kd.N_nil _ _ _ _ _ | exact Kd.V_nil _ _ _ _ _ | exact Kd.Q_nil _ _ _ _ _ | exact Kd.S_nil _ _ _ _ _⟩, ⟨by (with_reducible repeat (first | refine blk_drewN ?_ _ | refine blk_drew ?_ | refine blk_alloc ?_ _)); exact BK151.out⟩, ⟨by (with_reducible repeat (first | refine blk_drewN ?_ _ | refine blk_drew ?_ | refine blk_alloc ?_ _)); exact BK152.out⟩, ⟨by repeat (first | (with_reducible first | exact HB.out | apply below_alloc | apply pw_below_drewN | apply below_drew1 | refine below_set ?_ GE151.out | refine below_set ?_ GE152.out) | exact HB.out)⟩⟩
  case round =>
   clear H'
   try clear c1
   try clear c2
   try clear c2b0
   try clear c2b1
   try clear p2
   try clear c3
   try clear c5
   try clear c11
   try clear c14
   try clear hcz12_0
   try clear hcz6_0
   try clear hcz7_0
   try clear hfz12_0
   try clear hfz6_0
   try clear hfz7_0
   obtain ⟨x16_1, x153000_1, u153000, rfl, HA, HK1, HO_14, HO_153000, BK151, BK152, HB⟩ := hrel
   cases gk with
   | zero => exact absurd HA.out (by simp [spec_ParsePicture.l0])
   | succ k1 =>
    have H := HA.out
    clear HA
    simp only [spec_ParsePicture.l0] at H
    by_cases c15 : x16_1 < (t153.length : Int)
    ·rw [if_pos c15] at H
     have c15b0 : decide (x16_1 < (t153.length : Int)) = true := decide_eq_true c15
     clear c15
     by_cases c16 : 0 ≤ x16_1
     ·rw [if_pos c16] at H
      have c16b0 : decide (0 ≤ x16_1) = true := decide_eq_true c16
      clear c16
      by_cases c17 : x16_1 < (t153.length : Int)
      ·rw [if_pos c17] at H
       have c17b0 : decide (x16_1 < (t153.length : Int)) = true := decide_eq_true c17
       clear c17
       replace H := Option.bind_eq_some_iff.mp H
       obtain ⟨⟨t157, t158, t159, t160⟩, A180, H⟩ := H
       replace H : (if t160 = true then (if x153000_1.length < 5864062014805 then (spec_ParsePicture.l0 k1 t153 (t153.length : Int) (wrap64 (x16_1 + 1)) (x153000_1 ++ [(⟨t157, t158, t159⟩ : S56)])) else (none)) else (some (([] : List (S56)), false))) = some (r1, r2) := H
       have A18 := Aside0.mk A180
       clear A180
       by_cases c19 : t160 = true
       ·subst c19
        have H1 : (if x153000_1.length < 5864062014805 then (spec_ParsePicture.l0 k1 t153 (t153.length : Int) (wrap64 (x16_1 + 1)) (x153000_1 ++ [(⟨t157, t158, t159⟩ : S56)])) else (none)) = some (r1, r2) := by rw [if_pos rfl] at H; exact H
        clear H
        have H := H1
        clear H1
        by_cases c20 : x153000_1.length < 5864062014805
        ·rw [if_pos c20] at H
         have LMc20 := Aside0.mk c20
         clear c20
         obtain ⟨y162, hy162⟩ : ∃ y_ : List (S56), y_ = (x153000_1 ++ [(⟨t157, t158, t159⟩ : S56)]) := ⟨_, rfl⟩
         replace H : (spec_ParsePicture.l0 k1 t153 (t153.length : Int) (wrap64 (x16_1 + 1)) y162) = some (r1, r2) := by first | (rw [hy162]; with_reducible exact H) | (have H2_ := (Option.bind_some _ _).symm.trans H; rw [hy162]; with_reducible exact H2_) | (have H2_ := (Option.bind_some _ _).symm.trans H; with_reducible exact H2_) | with_reducible exact H | (rw [hy162]; exact H) | exact H
         have Ny162 := Aside0.mk hy162
         clear hy162
         have H' := Aside0.mk H
         clear H
         have p156 : 0 ≤ (x16_1 : Int) := of_decide_eq_true (by first | (with_reducible assumption) | assumption)
         have q156 : x16_1 < (t153.length : Int) := of_decide_eq_true (by first | (with_reducible assumption) | assumption)
         obtain ⟨ad156, e156, hx156_0⟩ := Kd.at_string (Kd.R_reads' HO_14.out).2.2 x16_1 p156 q156
         cases e156
         replace p156 := eq_true p156
         replace q156 := eq_true q156
         go_wp2_with (first | ((with_reducible refine gate_callee (f := 36) rfl ?_); refine goesL_ (some 22) rfl rfl Tryd.func36 (by kernel_rfl) rfl #[.string (rdOf ByteArray.empty t153 x16_1)] rfl (by (try simp only [List.map_toArray, List.map_cons, List.map_nil]); first | done | rfl | (simp only [List.length_drop, List.length_take]; rfl)) ?_; (with_reducible refine (spec_piEdge.calls k1 (rdOf ByteArray.empty t153 x16_1) t157 t158 t159 true _ A18.out).mono ?_); rintro e w21 ⟨rfl, hb⟩; refine ⟨_, rfl, ?_⟩; have n0_ := Aside0.mk (Kd.R_below (by (with_reducible repeat (first | apply Kd.R_alloc | apply Kd.R_drewN | apply Kd.R_drew)); exact HO_14.out) hb); have n1_ := Aside0.mk (Kd.R_below (by (with_reducible repeat (first | apply Kd.R_alloc | apply Kd.R_drewN | apply Kd.R_drew)); exact HO_153000.out) hb); have n2_ := Aside0.mk (blk_below (g := gb151) (o := .cells #[.slice none 0 0] 30 (0, 0)) (by (with_reducible repeat (first | refine blk_drewN ?_ _ | refine blk_drew ?_ | refine blk_alloc ?_ _)); exact BK151.out) hb); have n3_ := Aside0.mk (blk_below (g := gb152) (o := .cells #[u153000] 30 (0, 0)) (by (with_reducible repeat (first | refine blk_drewN ?_ _ | refine blk_drew ?_ | refine blk_alloc ?_ _)); exact BK152.out) hb); have n4_ := Aside0.mk (below_step (by repeat (first | (with_reducible first | exact HB.out | apply below_alloc | apply pw_below_drewN | apply below_drew1 | refine below_set ?_ GE151.out | refine below_set ?_ GE152.out) | exact HB.out)) hb); clear HO_14; clear HO_153000; clear BK151; clear BK152; clear HB; have HO_14 := n0_; have HO_153000 := n1_; have BK151 := n2_; have BK152 := n3_; have HB := n4_; clear n0_ n1_ n2_ n3_ n4_; (try clear hb); (try clear hb2); (try clear hk); (try clear hi)) | ((with_reducible refine gate_dst (N := 7) rfl ?_); refine box_event ?hg (N := 7) ?hd (cs := #[.int .i64 0, .int .i64 0, .bool false]) (t := 56) ?hr ?_; (case hd => rfl); (case hg => rfl); (case hr => first | (go_simp; done) | (go_simp; rfl)); intro gb161 hg w22 hbox hb; have n0_ := Aside0.mk (Kd.R_below (by (with_reducible repeat (first | apply Kd.R_alloc | apply Kd.R_drewN | apply Kd.R_drew)); exact HO_14.out) hb); have n1_ := Aside0.mk (Kd.R_below (Kd.R_elderB (by (with_reducible repeat (first | apply Kd.R_alloc | apply Kd.R_drewN | apply Kd.R_drew)); exact HO_153000.out) gb161 (Nat.le_of_eq hg.symm)) hb); have n2_ := Aside0.mk (blk_below (g := gb151) (o := .cells #[.slice none 0 0] 30 (0, 0)) (by (with_reducible repeat (first | refine blk_drewN ?_ _ | refine blk_drew ?_ | refine blk_alloc ?_ _)); exact BK151.out) hb); have n3_ := Aside0.mk (blk_below (g := gb152) (o := .cells #[u153000] 30 (0, 0)) (by (with_reducible repeat (first | refine blk_drewN ?_ _ | refine blk_drew ?_ | refine blk_alloc ?_ _)); exact BK152.out) hb); have n4_ := Aside0.mk (below_step (by repeat (first | (with_reducible first | exact HB.out | apply below_alloc | apply pw_below_drewN | apply below_drew1 | refine below_set ?_ GE151.out | refine below_set ?_ GE152.out) | exact HB.out)) hb); have n5_ := Aside0.mk (hbox); have n6_ := Aside0.mk ((by rw [hg]; exact (below_size (by repeat (first | (with_reducible first | exact HB.out | apply below_alloc | apply pw_below_drewN | apply below_drew1 | refine below_set ?_ GE151.out | refine below_set ?_ GE152.out) | exact HB.out))) : w.heap.size ≤ gb161)); have n7_ := Aside0.mk ((by rw [hg]; exact (below_size (by repeat (first | (with_reducible first | exact HB.out | apply below_alloc | apply pw_below_drewN | apply below_drew1 | refine below_set ?_ GE151.out | refine below_set ?_ GE152.out) | exact HB.out))) : w.heap.size ≤ gb161)); have n8_ := Aside0.mk ((by rw [hg]; exact Nat.ne_of_lt (blk_lt (g := gb151) (o := .cells #[.slice none 0 0] 30 (0, 0)) (by (with_reducible repeat (first | refine blk_drewN ?_ _ | refine blk_drew ?_ | refine blk_alloc ?_ _)); exact BK151.out)) : gb151 ≠ gb161)); have n9_ := Aside0.mk ((by rw [hg]; exact Nat.ne_of_gt (blk_lt (g := gb151) (o := .cells #[.slice none 0 0] 30 (0, 0)) (by (with_reducible repeat (first | refine blk_drewN ?_ _ | refine blk_drew ?_ | refine blk_alloc ?_ _)); exact BK151.out)) : gb161 ≠ gb151)); have n10_ := Aside0.mk ((by rw [hg]; exact Nat.ne_of_lt (blk_lt (g := gb152) (o := .cells #[u153000] 30 (0, 0)) (by (with_reducible repeat (first | refine blk_drewN ?_ _ | refine blk_drew ?_ | refine blk_alloc ?_ _)); exact BK152.out)) : gb152 ≠ gb161)); have n11_ := Aside0.mk ((by rw [hg]; exact Nat.ne_of_gt (blk_lt (g := gb152) (o := .cells #[u153000] 30 (0, 0)) (by (with_reducible repeat (first | refine blk_drewN ?_ _ | refine blk_drew ?_ | refine blk_alloc ?_ _)); exact BK152.out)) : gb161 ≠ gb152)); clear HO_14; clear HO_153000; clear BK151; clear BK152; clear HB; have HO_14 := n0_; have HO_153000 := n1_; have BK151 := n2_; have BK152 := n3_; have HB := n4_; have BK161 := n5_; have GW161 := n6_; have GE161 := n7_; have NB151_161 := n8_; have NB161_151 := n9_; have NB152_161 := n10_; have NB161_152 := n11_; clear n0_ n1_ n2_ n3_ n4_ n5_ n6_ n7_ n8_ n9_ n10_ n11_; clear hb hbox hg; have hnb23 := NB161_151.out; have hnc23 := NB151_161.out; have hnb24 := NB161_152.out; have hnc24 := NB152_161.out; have hcz25_0 : w22.cell? ⟨gb161, 0, none⟩ = some (.int .i64 0) := (blk_cell BK161.out 0).trans rfl; have hcz25_1 : w22.cell? ⟨gb161, 1, none⟩ = some (.int .i64 0) := (blk_cell BK161.out 1).trans rfl; have hcz25_2 : w22.cell? ⟨gb161, 2, none⟩ = some (.bool false) := (blk_cell BK161.out 2).trans rfl; have hfz25_0 := blk_frozen BK161.out 0; have hfz25_1 := blk_frozen BK161.out 1; have hfz25_2 := blk_frozen BK161.out 2; have hnb26 := NB152_151.out; have hnc26 := NB151_152.out; have hcz27_0 : w22.cell? ⟨gb152, 0, none⟩ = some (u153000) := (blk_cell BK152.out 0).trans rfl; have hfz27_0 := blk_frozen BK152.out 0) | ((with_reducible refine gate_builtin (b := .append) (xs := #[.tmp 29, .tmp 31]) rfl ?_); at_builtin; refine Kd.R_append k56 (w0 := w) w.heap.size rfl (.tmp 29) (.tmp 31) 28 56 (.agg #[(.int .i64 0), (.int .i64 0), (.bool false)]) 24 rfl Tryd.underlying28 info56 rfl (by decide) (by omega) u153000 x153000_1 (⟨t157, t158, t159⟩ : S56) [.int .i64 t157, .int .i64 t158, .bool t159] (fun k_ => k_ ≠ gb161) (fun _ => False) rfl (by first | (go_simp; done) | (go_simp; rfl)) ?aP (fun _ hk => hk.elim) ?aF ?aO ?aB ?aS ?aL ?_; (case aP => exact k56_mkM _ _ _ (⟨t157, t158, t159⟩ : S56)); (case aB => exact (by repeat (first | (with_reducible first | exact HB.out | apply below_alloc | apply pw_below_drewN | apply below_drew1 | refine below_set ?_ GE151.out | refine below_set ?_ GE152.out | refine below_set ?_ GE161.out) | exact HB.out))); (case aF => exact (fun k_ hk => Kd.freshB (g := gb161) (o := .cells #[.int .i64 t157, .int .i64 t158, .bool t159] 56 (0, 0)) (by (with_reducible repeat (first | refine blk_drewN ?_ _ | refine blk_drew ?_ | refine blk_alloc ?_ _)); refine blk_put (cs := #[.int .i64 t157, .int .i64 t158, .bool false]) ?_ 2 _ rfl; (with_reducible repeat (first | refine blk_drewN ?_ _ | refine blk_drew ?_ | refine blk_alloc ?_ _)); refine blk_put (cs := #[.int .i64 t157, .int .i64 0, .bool false]) ?_ 1 _ rfl; (with_reducible repeat (first | refine blk_drewN ?_ _ | refine blk_drew ?_ | refine blk_alloc ?_ _)); refine blk_put (cs := #[.int .i64 0, .int .i64 0, .bool false]) ?_ 0 _ rfl; (with_reducible repeat (first | refine blk_drewN ?_ _ | refine blk_drew ?_ | refine blk_alloc ?_ _)); exact BK161.out) k_ hk)); (case aO => exact (by (with_reducible repeat (first | apply Kd.R_alloc | apply Kd.R_drewN | apply Kd.R_drew)); exact Kd.R_mono (Kd.R_far (p := ⟨gb161, 2, none⟩) (Kd.R_far (p := ⟨gb161, 1, none⟩) (Kd.R_far (p := ⟨gb161, 0, none⟩) (Kd.R_mono HO_153000.out (fun k_ hk => (⟨hk, hk.2⟩ : _ ∧ k_ ≠ gb161))) (fun _ hk => hk.2) (.int .i64 t157)) (fun _ hk => hk.2) (.int .i64 t158)) (fun _ hk => hk.2) (.bool t159)) (fun _ hk => hk.1.2))); (case aS => exact (below_size (by repeat (first | (with_reducible first | exact HB.out | apply below_alloc | apply pw_below_drewN | apply below_drew1 | refine below_set ?_ GE151.out | refine below_set ?_ GE152.out | refine below_set ?_ GE161.out) | exact HB.out)))); (case aL => have := LMc20.out; omega); intro v163 w28 ho hb hg hat; rw [← Ny162.out] at ho; have n0_ := Aside0.mk (Kd.R_over' (by (with_reducible repeat (first | apply Kd.R_alloc | apply Kd.R_drewN | apply Kd.R_drew)); exact (Kd.R_mono (Kd.R_far (p := ⟨gb161, 2, none⟩) (Kd.R_far (p := ⟨gb161, 1, none⟩) (Kd.R_far (p := ⟨gb161, 0, none⟩) (Kd.R_types HO_14.out BK161.out (by decide)) (fun _ hk => hk.2) (.int .i64 t157)) (fun _ hk => hk.2) (.int .i64 t158)) (fun _ hk => hk.2) (.bool t159)) (fun _ h_ => h_.1))) (Kd.R_typed (by (with_reducible repeat (first | apply Kd.R_alloc | apply Kd.R_drewN | apply Kd.R_drew)); exact (Kd.R_mono (Kd.R_far (p := ⟨gb161, 2, none⟩) (Kd.R_far (p := ⟨gb161, 1, none⟩) (Kd.R_far (p := ⟨gb161, 0, none⟩) (Kd.R_mono HO_153000.out (fun k_ hk => (⟨hk, hk.2⟩ : _ ∧ k_ ≠ gb161))) (fun _ hk => hk.2) (.int .i64 t157)) (fun _ hk => hk.2) (.int .i64 t158)) (fun _ hk => hk.2) (.bool t159)) (fun _ h_ => h_.1)))) (by decide) hg); have n1_ := Aside0.mk (blk_grown (g := gb151) (o := .cells #[.slice none 0 0] 30 (0, 0)) (by (with_reducible repeat (first | refine blk_drewN ?_ _ | refine blk_drew ?_ | refine blk_alloc ?_ _)); refine blk_far ?_ NB151_161.out _; (with_reducible repeat (first | refine blk_drewN ?_ _ | refine blk_drew ?_ | refine blk_alloc ?_ _)); refine blk_far ?_ NB151_161.out _; (with_reducible repeat (first | refine blk_drewN ?_ _ | refine blk_drew ?_ | refine blk_alloc ?_ _)); refine blk_far ?_ NB151_161.out _; (with_reducible repeat (first | refine blk_drewN ?_ _ | refine blk_drew ?_ | refine blk_alloc ?_ _)); exact BK151.out) hg (Kd.R_ne HO_153000.out BK151.out (by decide))); have n2_ := Aside0.mk (blk_grown (g := gb152) (o := .cells #[u153000] 30 (0, 0)) (by (with_reducible repeat (first | refine blk_drewN ?_ _ | refine blk_drew ?_ | refine blk_alloc ?_ _)); refine blk_far ?_ NB152_161.out _; (with_reducible repeat (first | refine blk_drewN ?_ _ | refine blk_drew ?_ | refine blk_alloc ?_ _)); refine blk_far ?_ NB152_161.out _; (with_reducible repeat (first | refine blk_drewN ?_ _ | refine blk_drew ?_ | refine blk_alloc ?_ _)); refine blk_far ?_ NB152_161.out _; (with_reducible repeat (first | refine blk_drewN ?_ _ | refine blk_drew ?_ | refine blk_alloc ?_ _)); exact BK152.out) hg (Kd.R_ne HO_153000.out BK152.out (by decide))); have n3_ := Aside0.mk (blk_grown (g := gb161) (o := .cells #[.int .i64 t157, .int .i64 t158, .bool t159] 56 (0, 0)) (by (with_reducible repeat (first | refine blk_drewN ?_ _ | refine blk_drew ?_ | refine blk_alloc ?_ _)); refine blk_put (cs := #[.int .i64 t157, .int .i64 t158, .bool false]) ?_ 2 _ rfl; (with_reducible repeat (first | refine blk_drewN ?_ _ | refine blk_drew ?_ | refine blk_alloc ?_ _)); refine blk_put (cs := #[.int .i64 t157, .int .i64 0, .bool false]) ?_ 1 _ rfl; (with_reducible repeat (first | refine blk_drewN ?_ _ | refine blk_drew ?_ | refine blk_alloc ?_ _)); refine blk_put (cs := #[.int .i64 0, .int .i64 0, .bool false]) ?_ 0 _ rfl; (with_reducible repeat (first | refine blk_drewN ?_ _ | refine blk_drew ?_ | refine blk_alloc ?_ _)); exact BK161.out) hg (Kd.R_away HO_153000.out (fun _ hk => hk.2))); have n4_ := Aside0.mk (hb); have n5_ := Aside0.mk (ho); clear HO_14; clear BK151; clear BK152; clear BK161; clear HB; clear HO_153000; have HO_14 := n0_; have BK151 := n1_; have BK152 := n2_; have BK161 := n3_; have HB := n4_; have HO164 := n5_; clear n0_ n1_ n2_ n3_ n4_ n5_; clear ho hb hg hat; obtain ⟨Ao29, co29, eo29⟩ := Kd.R_slice HO164.out; subst eo29; have hcz30_0 : w28.cell? ⟨gb152, 0, none⟩ = some (u153000) := (blk_cell BK152.out 0).trans rfl; have hfz30_0 := blk_frozen BK152.out 0))
         go_roundg k1
         case measure => have := HK1.out; omega
         case rel => exact ⟨(wrap64 (x16_1 + 1)), (y162), (.slice Ao29 y162.length co29), (by first | rfl | (simp; done) | (simp [*]; done)), H', ⟨by have := HK1.out; omega⟩, ⟨by (with_reducible repeat (first | apply Kd.R_alloc | apply Kd.R_drewN | apply Kd.R_drew)); exact Kd.R_mono (Kd.R_far (p := ⟨gb152, 0, none⟩) (Kd.R_types HO_14.out BK152.out (by decide)) (fun _ hk => hk.2) (.slice Ao29 y162.length co29)) (fun _ hk => trivial)⟩, ⟨by (with_reducible repeat (first | apply Kd.R_alloc | apply Kd.R_drewN | apply Kd.R_drew)); exact Kd.R_mono (Kd.R_far (p := ⟨gb152, 0, none⟩) (Kd.R_types HO164.out BK152.out (by decide)) (fun _ hk => hk.2) (.slice Ao29 y162.length co29)) (fun _ hk => trivial)⟩, ⟨by (with_reducible repeat (first | refine blk_drewN ?_ _ | refine blk_drew ?_ | refine blk_alloc ?_ _)); refine blk_far ?_ NB151_152.out _; (with_reducible repeat (first | refine blk_drewN ?_ _ | refine blk_drew ?_ | refine blk_alloc ?_ _)); exact BK151.out⟩, ⟨by (with_reducible repeat (first | refine blk_drewN ?_ _ | refine blk_drew ?_ | refine blk_alloc ?_ _)); refine blk_put (cs := #[u153000]) ?_ 0 _ rfl; (with_reducible repeat (first | refine blk_drewN ?_ _ | refine blk_drew ?_ | refine blk_alloc ?_ _)); exact BK152.out⟩, ⟨by repeat (first | (with_reducible first | exact HB.out | apply below_alloc | apply pw_below_drewN | apply below_drew1 | refine below_set ?_ GE151.out | refine below_set ?_ GE152.out | refine below_set ?_ GE161.out) | exact HB.out)⟩⟩
        ·rw [if_neg c20] at H
         exact absurd H (by simp)
       ·replace c19 := Bool.eq_false_iff.mpr c19
        subst c19
        have H1 : (some (([] : List (S56)), false)) = some (r1, r2) := by rw [if_neg (show ¬ (false = true) by decide)] at H; exact H
        clear H
        have H := H1
        clear H1
        simp only [Option.some.injEq, Prod.mk.injEq] at H
        obtain ⟨rfl, rfl⟩ := H
        have p156 : 0 ≤ (x16_1 : Int) := of_decide_eq_true (by first | (with_reducible assumption) | assumption)
        have q156 : x16_1 < (t153.length : Int) := of_decide_eq_true (by first | (with_reducible assumption) | assumption)
        obtain ⟨ad156, e156, hx156_0⟩ := Kd.at_string (Kd.R_reads' HO_14.out).2.2 x16_1 p156 q156
        cases e156
        replace p156 := eq_true p156
        replace q156 := eq_true q156
        go_wp2_with (first | ((with_reducible refine gate_callee (f := 36) rfl ?_); refine goesL_ (some 22) rfl rfl Tryd.func36 (by kernel_rfl) rfl #[.string (rdOf ByteArray.empty t153 x16_1)] rfl (by (try simp only [List.map_toArray, List.map_cons, List.map_nil]); first | done | rfl | (simp only [List.length_drop, List.length_take]; rfl)) ?_; (with_reducible refine (spec_piEdge.calls k1 (rdOf ByteArray.empty t153 x16_1) t157 t158 t159 false _ A18.out).mono ?_); rintro e w31 ⟨rfl, hb⟩; refine ⟨_, rfl, ?_⟩; have n0_ := Aside0.mk (Kd.R_below (by (with_reducible repeat (first | apply Kd.R_alloc | apply Kd.R_drewN | apply Kd.R_drew)); exact HO_14.out) hb); have n1_ := Aside0.mk (Kd.R_below (by (with_reducible repeat (first | apply Kd.R_alloc | apply Kd.R_drewN | apply Kd.R_drew)); exact HO_153000.out) hb); have n2_ := Aside0.mk (blk_below (g := gb151) (o := .cells #[.slice none 0 0] 30 (0, 0)) (by (with_reducible repeat (first | refine blk_drewN ?_ _ | refine blk_drew ?_ | refine blk_alloc ?_ _)); exact BK151.out) hb); have n3_ := Aside0.mk (blk_below (g := gb152) (o := .cells #[u153000] 30 (0, 0)) (by (with_reducible repeat (first | refine blk_drewN ?_ _ | refine blk_drew ?_ | refine blk_alloc ?_ _)); exact BK152.out) hb); have n4_ := Aside0.mk (below_step (by repeat (first | (with_reducible first | exact HB.out | apply below_alloc | apply pw_below_drewN | apply below_drew1 | refine below_set ?_ GE151.out | refine below_set ?_ GE152.out) | exact HB.out)) hb); clear HO_14; clear HO_153000; clear BK151; clear BK152; clear HB; have HO_14 := n0_; have HO_153000 := n1_; have BK151 := n2_; have BK152 := n3_; have HB := n4_; clear n0_ n1_ n2_ n3_ n4_; (try clear hb); (try clear hb2); (try clear hk); (try clear hi)) | ((with_reducible refine gate_dst (N := 7) rfl ?_); refine box_event ?hg (N := 7) ?hd (cs := #[.int .i64 0, .int .i64 0, .bool false]) (t := 56) ?hr ?_; (case hd => rfl); (case hg => rfl); (case hr => first | (go_simp; done) | (go_simp; rfl)); intro gb161 hg w32 hbox hb; have n0_ := Aside0.mk (Kd.R_below (by (with_reducible repeat (first | apply Kd.R_alloc | apply Kd.R_drewN | apply Kd.R_drew)); exact HO_14.out) hb); have n1_ := Aside0.mk (Kd.R_below (Kd.R_elderB (by (with_reducible repeat (first | apply Kd.R_alloc | apply Kd.R_drewN | apply Kd.R_drew)); exact HO_153000.out) gb161 (Nat.le_of_eq hg.symm)) hb); have n2_ := Aside0.mk (blk_below (g := gb151) (o := .cells #[.slice none 0 0] 30 (0, 0)) (by (with_reducible repeat (first | refine blk_drewN ?_ _ | refine blk_drew ?_ | refine blk_alloc ?_ _)); exact BK151.out) hb); have n3_ := Aside0.mk (blk_below (g := gb152) (o := .cells #[u153000] 30 (0, 0)) (by (with_reducible repeat (first | refine blk_drewN ?_ _ | refine blk_drew ?_ | refine blk_alloc ?_ _)); exact BK152.out) hb); have n4_ := Aside0.mk (below_step (by repeat (first | (with_reducible first | exact HB.out | apply below_alloc | apply pw_below_drewN | apply below_drew1 | refine below_set ?_ GE151.out | refine below_set ?_ GE152.out) | exact HB.out)) hb); have n5_ := Aside0.mk (hbox); have n6_ := Aside0.mk ((by rw [hg]; exact (below_size (by repeat (first | (with_reducible first | exact HB.out | apply below_alloc | apply pw_below_drewN | apply below_drew1 | refine below_set ?_ GE151.out | refine below_set ?_ GE152.out) | exact HB.out))) : w.heap.size ≤ gb161)); have n7_ := Aside0.mk ((by rw [hg]; exact (below_size (by repeat (first | (with_reducible first | exact HB.out | apply below_alloc | apply pw_below_drewN | apply below_drew1 | refine below_set ?_ GE151.out | refine below_set ?_ GE152.out) | exact HB.out))) : w.heap.size ≤ gb161)); have n8_ := Aside0.mk ((by rw [hg]; exact Nat.ne_of_lt (blk_lt (g := gb151) (o := .cells #[.slice none 0 0] 30 (0, 0)) (by (with_reducible repeat (first | refine blk_drewN ?_ _ | refine blk_drew ?_ | refine blk_alloc ?_ _)); exact BK151.out)) : gb151 ≠ gb161)); have n9_ := Aside0.mk ((by rw [hg]; exact Nat.ne_of_gt (blk_lt (g := gb151) (o := .cells #[.slice none 0 0] 30 (0, 0)) (by (with_reducible repeat (first | refine blk_drewN ?_ _ | refine blk_drew ?_ | refine blk_alloc ?_ _)); exact BK151.out)) : gb161 ≠ gb151)); have n10_ := Aside0.mk ((by rw [hg]; exact Nat.ne_of_lt (blk_lt (g := gb152) (o := .cells #[u153000] 30 (0, 0)) (by (with_reducible repeat (first | refine blk_drewN ?_ _ | refine blk_drew ?_ | refine blk_alloc ?_ _)); exact BK152.out)) : gb152 ≠ gb161)); have n11_ := Aside0.mk ((by rw [hg]; exact Nat.ne_of_gt (blk_lt (g := gb152) (o := .cells #[u153000] 30 (0, 0)) (by (with_reducible repeat (first | refine blk_drewN ?_ _ | refine blk_drew ?_ | refine blk_alloc ?_ _)); exact BK152.out)) : gb161 ≠ gb152)); clear HO_14; clear HO_153000; clear BK151; clear BK152; clear HB; have HO_14 := n0_; have HO_153000 := n1_; have BK151 := n2_; have BK152 := n3_; have HB := n4_; have BK161 := n5_; have GW161 := n6_; have GE161 := n7_; have NB151_161 := n8_; have NB161_151 := n9_; have NB152_161 := n10_; have NB161_152 := n11_; clear n0_ n1_ n2_ n3_ n4_ n5_ n6_ n7_ n8_ n9_ n10_ n11_; clear hb hbox hg; have hnb33 := NB161_151.out; have hnc33 := NB151_161.out; have hnb34 := NB161_152.out; have hnc34 := NB152_161.out; have hcz35_0 : w32.cell? ⟨gb161, 0, none⟩ = some (.int .i64 0) := (blk_cell BK161.out 0).trans rfl; have hcz35_1 : w32.cell? ⟨gb161, 1, none⟩ = some (.int .i64 0) := (blk_cell BK161.out 1).trans rfl; have hcz35_2 : w32.cell? ⟨gb161, 2, none⟩ = some (.bool false) := (blk_cell BK161.out 2).trans rfl; have hfz35_0 := blk_frozen BK161.out 0; have hfz35_1 := blk_frozen BK161.out 1; have hfz35_2 := blk_frozen BK161.out 2; have hnb36 := NB151_152.out; have hnc36 := NB152_151.out; have hcz37_0 : w32.cell? ⟨gb151, 0, none⟩ = some (.slice none 0 0) := (blk_cell BK151.out 0).trans rfl; have hfz37_0 := blk_frozen BK151.out 0))
        refine bodyPost_ret (results_ct rfl _ _ gb151 30 #[.slice none 0 0] (0, 0) _ rfl (by (with_reducible repeat (first | refine blk_drewN ?_ _ | refine blk_drew ?_ | refine blk_alloc ?_ _)); refine blk_put (cs := #[.slice none 0 0]) ?_ 0 _ rfl; (with_reducible repeat (first | refine blk_drewN ?_ _ | refine blk_drew ?_ | refine blk_alloc ?_ _)); refine blk_far ?_ NB151_161.out _; (with_reducible repeat (first | refine blk_drewN ?_ _ | refine blk_drew ?_ | refine blk_alloc ?_ _)); refine blk_far ?_ NB151_161.out _; (with_reducible repeat (first | refine blk_drewN ?_ _ | refine blk_drew ?_ | refine blk_alloc ?_ _)); refine blk_far ?_ NB151_161.out _; (with_reducible repeat (first | refine blk_drewN ?_ _ | refine blk_drew ?_ | refine blk_alloc ?_ _)); exact BK151.out) Tryd.underlying30 rfl (by kernel_rfl)) rfl ?_
        exact ⟨_, by first | rfl | (simp [errW_none, errW_some] <;> rfl) | (simp [*, errW_none, errW_some] <;> rfl), by first | exact Kd.R_nil _ _ _ _ _ | exact Kd.N_nil _ _ _ _ _ | exact Kd.V_nil _ _ _ _ _ | exact Kd.Q_nil _ _ _ _ _ | exact Kd.S_nil _ _ _ _ _, by repeat (first | (with_reducible first | exact HB.out | apply below_alloc | apply pw_below_drewN | apply below_drew1 | refine below_set ?_ GE151.out | refine below_set ?_ GE152.out | refine below_set ?_ GE161.out) | exact HB.out)⟩
      ·rw [if_neg c17] at H
       exact absurd H (by simp)
     ·rw [if_neg c16] at H
      exact absurd H (by simp)
    ·rw [if_neg c15] at H
     have c15b0 : decide (x16_1 < (t153.length : Int)) = false := decide_eq_false c15
     clear c15
     replace H := Option.bind_eq_some_iff.mp H
     obtain ⟨⟨t165, t168⟩, A380, H⟩ := H
     replace H : (some (t165, t168)) = some (r1, r2) := H
     have A38 := Aside0.mk A380
     clear A380
     simp only [Option.some.injEq, Prod.mk.injEq] at H
     obtain ⟨rfl, rfl⟩ := H
     have hnb39 := NB152_151.out
     have hnc39 := NB151_152.out
     have hcz40_0 : wr.cell? ⟨gb152, 0, none⟩ = some (u153000) := (blk_cell BK152.out 0).trans rfl
     have hfz40_0 := blk_frozen BK152.out 0
     obtain ⟨Ao41, co41, eo41⟩ := Kd.R_slice HO_153000.out
     subst eo41
     go_wp2_with (first | ((with_reducible refine gate_callee (f := 37) rfl ?_); refine goesL_ (some 36) rfl rfl Tryd.func37 (by kernel_rfl) rfl #[.agg #[.slice Ao41 x153000_1.length co41]] rfl (by (try simp only [List.map_toArray, List.map_cons, List.map_nil]); first | done | rfl | (simp only [List.length_drop, List.length_take]; rfl)) ?_; (with_reducible refine (spec_piIf.calls k1 (fun k_ => some k_ = (.slice Ao41 x153000_1.length co41 : Value).ownBlock) (.slice Ao41 x153000_1.length co41) x153000_1 t165 t168 w _ ?side1 ?side2 A38.out).mono ?_); (case side1 => repeat (first | (with_reducible first | exact HB.out | apply below_alloc | apply pw_below_drewN | apply below_drew1 | refine below_set ?_ GE151.out | refine below_set ?_ GE152.out) | exact HB.out)); (case side2 => exact Kd.R_tight rfl HO_153000.out); rintro e w42 ⟨v166, rfl, ho0, hb, hkp⟩; refine ⟨_, rfl, ?_⟩; have n0_ := Aside0.mk (Kd.R_mono (ok' := fun k_ => True) (Kd.R_keptB ((Kd.R_apart' HO_14.out (Kd.R_typed HO_153000.out) (by decide))) hkp (fun k_ hk_ hs_ => (hk_.2) hs_)) (fun k_ hk_ => trivial)); have n1_ := Aside0.mk (blk_kept (by (with_reducible repeat (first | refine blk_drewN ?_ _ | refine blk_drew ?_ | refine blk_alloc ?_ _)); exact BK151.out) hkp (fun hs_ => (fun e_ => (Kd.R_ne HO_153000.out BK151.out (by decide)) e_) hs_)); have n2_ := Aside0.mk (blk_kept (by (with_reducible repeat (first | refine blk_drewN ?_ _ | refine blk_drew ?_ | refine blk_alloc ?_ _)); exact BK152.out) hkp (fun hs_ => (fun e_ => (Kd.R_ne HO_153000.out BK152.out (by decide)) e_) hs_)); have n3_ := Aside0.mk (Kd.R_mono (ok' := fun k_ => True) ho0 (fun k_ hk_ => trivial)); have n4_ := Aside0.mk (hb); clear HO_14; clear BK151; clear BK152; clear HB; clear HO_153000; have HO_14 := n0_; have BK151 := n1_; have BK152 := n2_; have HO167 := n3_; have HB := n4_; clear n0_ n1_ n2_ n3_ n4_; (try clear hb); (try clear hkp); (try clear ho0); obtain ⟨Ao43, co43, eo43⟩ := Kd.R_slice HO167.out; subst eo43; have hcz44_0 : w42.cell? ⟨gb151, 0, none⟩ = some (.slice none 0 0) := (blk_cell BK151.out 0).trans rfl; have hfz44_0 := blk_frozen BK151.out 0))
     refine bodyPost_ret (results_ct rfl _ _ gb151 30 #[.slice Ao43 t165.length co43] (0, 0) _ rfl (by (with_reducible repeat (first | refine blk_drewN ?_ _ | refine blk_drew ?_ | refine blk_alloc ?_ _)); refine blk_put (cs := #[.slice none 0 0]) ?_ 0 _ rfl; (with_reducible repeat (first | refine blk_drewN ?_ _ | refine blk_drew ?_ | refine blk_alloc ?_ _)); exact BK151.out) Tryd.underlying30 rfl (by kernel_rfl)) rfl ?_
     exact ⟨_, by first | rfl | (simp [errW_none, errW_some] <;> rfl) | (simp [*, errW_none, errW_some] <;> rfl), by (with_reducible repeat (first | apply Kd.R_alloc | apply Kd.R_drewN | apply Kd.R_drew)); exact Kd.R_mono (Kd.R_far (p := ⟨gb151, 0, none⟩) (Kd.R_types HO167.out BK151.out (by decide)) (fun _ hk => hk.2) (.slice Ao43 t165.length co43)) (fun _ hk => trivial), by repeat (first | (with_reducible first | exact HB.out | apply below_alloc | apply pw_below_drewN | apply below_drew1 | refine below_set ?_ GE151.out | refine below_set ?_ GE152.out) | exact HB.out)⟩

/-! ### impl_in: function 58 -/
def impl_in.f (a0 : Int) (a1 : Int) (a2 : Int) : Option (Bool) := if a0 ≥ a1 then (some (decide (a0 ≤ a2))) else (some false)
set_option maxHeartbeats 8000000 in
set_option maxRecDepth 100000 in
theorem impl_in.calls (a0 : Int) (a1 : Int) (a2 : Int) (r : Bool) (w : World) (h : impl_in.f a0 a1 a2 = some r) :
  Calls Tryd.prog 58 #[.int .i64 a0, .int .i64 a1, .int .i64 a2] w fun e w' => e = .returned (.bool r) ∧ Drawn0 w w' := by
 have H : (if a0 ≥ a1 then (some (decide (a0 ≤ a2))) else (some false)) = some r := h
 clear h
 by_cases c4 : a0 ≥ a1
 ·rw [if_pos c4] at H
  have c4b0 : decide (a1 ≤ a0) = true := decide_eq_true c4
  clear c4
  obtain rfl := Option.some.inj H
  go_enter Tryd.func58, Tryd.ntmps58
  go_wp2
  go_ret
  exact ⟨by first | rfl | (simp; done) | (simp [*]; done), by repeat (first | exact Drawn0.refl _ | apply Drawn0.step)⟩
 ·rw [if_neg c4] at H
  have c4b0 : decide (a1 ≤ a0) = false := decide_eq_false c4
  clear c4
  obtain rfl := Option.some.inj H
  go_enter Tryd.func58, Tryd.ntmps58
  go_wp2
  go_ret
  exact ⟨by first | rfl | (simp; done) | (simp [*]; done), by repeat (first | exact Drawn0.refl _ | apply Drawn0.step)⟩

-- NOT PRINTED: function 108 (impl_Edge_108)

-- NOT PRINTED: function 77 (impl_Edge_77)

/-! ### impl_Edge_78: function 78 -/
def impl_Edge_78.f (l0 : List (S56)) : Option ((List (S56))) := (some (([] : List (S56)) : List (S56))).bind fun y169 => (if y169.length + l0.length < 5864062014805 then (some (y169 ++ l0)) else (none))
set_option maxHeartbeats 400000 in
set_option maxRecDepth 100000 in
theorem stand.clone (A0 : Option Addr) (c0 : Nat) (l0 : List S56) (w : World) (hr0 : Kd.C k56 w A0 l0.length l0) (hl : l0.length < 5864062014805) :
  Calls Tryd.prog 78 #[.slice A0 l0.length c0] w fun e w' => ∃ v0_ : Value, e = .returned v0_ ∧ Kd.R k56 56 w' w.heap.size (fun _ => True) v0_ l0 ∧ Below w.heap.size w w' := by
 have q27 : ∀ (w : World) (a : Option Addr) (n c n' c' : Nat), (binOp .eql 28 (.slice a n c) (.slice none n' c')).run Tryd.prog w = .ok (.bool a.isNone) w := fun w a n c n' c' => Lib.run_eql_slice_nil w _ _ a n c n' c' Tryd.underlying28
 have u27 : ∀ w, Sem.run Tryd.prog (underlying 28) w = .ok (TypeDesc.slice 56) w := run_underlying Tryd.underlying28
 have HR0 := Aside0.mk hr0
 have HL := Aside0.mk hl
 have HB := Aside0.mk (Below.refl w.heap.size w)
 clear hl
 cases A0 with
 | none =>
  have hn : l0.length = 0 := by
   rcases Nat.eq_zero_or_pos l0.length with e | e
   ·exact e
   ·obtain ⟨ad, e1, _⟩ := hr0.2.2 e
    cases e1
  obtain rfl := List.eq_nil_of_length_eq_zero hn
  clear hr0 hn
  go_enter Tryd.func78, Tryd.ntmps78
  go_wp2
  go_ret
  exact ⟨_, rfl, Kd.R_nil _ _ _ _ _, HB.out⟩
 | some ad0 =>
  clear hr0
  obtain ⟨y145, hy145⟩ : ∃ y_ : List (S56), y_ = (([] : List (S56))) := ⟨_, rfl⟩
  have Ny145 := Aside0.mk hy145
  clear hy145
  go_enter Tryd.func78, Tryd.ntmps78
  go_wp2_with (first | ((with_reducible refine gate_dst (N := 5) rfl ?_); refine Kd.R_lit k56 _ 56 ?hg (N := 5) ?hd (xs := ([] : List (S56))) (inner := []) (ok := fun _ => True) (okp := fun _ => True) ?hr ?hp (fun _ hk => hk) trivial (Below.refl _ _) (Nat.le_refl _) (by simp) ?_; (case hd => rfl); (case hg => rfl); (case hr => first | (go_simp; done) | (go_simp; rfl)); (case hp => exact (Reps.none _ _)); intro v146 w3 ho4 hb hg_ hnew_; clear hg_ hnew_; (first | rw [← Ny145.out] at ho4 | (simp only [Int.reduceToNat] at ho4; rw [← Ny145.out] at ho4)); have n0_ := Aside0.mk (Kd.R_lower ho4 (below_size (by repeat (first | (with_reducible first | exact HB.out | apply below_alloc | apply pw_below_drewN | apply below_drew1) | exact HB.out)))); have n1_ := Aside0.mk (below_step (by repeat (first | (with_reducible first | exact HB.out | apply below_alloc | apply pw_below_drewN | apply below_drew1) | exact HB.out)) hb); clear HB; have HO147 := n0_; have HB := n1_; clear n0_ n1_; clear hb ho4) | ((with_reducible refine gate_builtin (b := .append) (xs := #[.tmp 5, .tmp 6]) rfl ?_); at_builtin; refine Kd.R_append_rows k56 (w0 := w) w.heap.size rfl (.tmp 5) (.tmp 6) 28 56 (.agg #[(.int .i64 0), (.int .i64 0), (.bool false)]) 24 rfl Tryd.underlying28 info56 rfl (by decide) (by omega) v146 y145 l0 _ _ _ (fun _ => True) (fun _ => False) rfl rfl ?aO ?aR (fun _ _ h => h) (fun _ h => h.elim) ?aF ?aB ?aS ?aL ?_; (case aR => repeat (first | exact (Kd.C_below HR0.out HB.out) | (with_reducible refine Kd.C_alloc ?_ _) | (with_reducible refine Kd.C_drewN ?_ _) | (with_reducible refine Kd.C_drew ?_))); (case aB => exact (by repeat (first | (with_reducible first | exact HB.out | apply below_alloc | apply pw_below_drewN | apply below_drew1) | exact HB.out))); (case aF => exact (fun _ _ => trivial)); (case aO => exact (by (with_reducible repeat (first | apply Kd.R_alloc | apply Kd.R_drewN | apply Kd.R_drew)); exact HO147.out)); (case aS => exact (below_size (by repeat (first | (with_reducible first | exact HB.out | apply below_alloc | apply pw_below_drewN | apply below_drew1) | exact HB.out)))); (case aL => have := HL.out; have e_ : y145.length = 0 := (by simp [Ny145.out]); omega); intro v149 w5 ho hb hg hat; have n0_ := Aside0.mk (hb); have n1_ := Aside0.mk (ho); clear HB; clear HO147; have HB := n0_; have HO150 := n1_; clear n0_ n1_; clear ho hb hg hat))
  go_ret
  have ho := HO150.out
  rw [Ny145.out, List.nil_append] at ho
  exact ⟨_, rfl, by (with_reducible repeat (first | apply Kd.R_alloc | apply Kd.R_drewN | apply Kd.R_drew)); exact ho, by repeat (first | (with_reducible first | exact HB.out | apply below_alloc | apply pw_below_drewN | apply below_drew1) | exact HB.out)⟩
theorem impl_Edge_78.calls (A0 : Option Addr) (c0 : Nat) (l0 : List (S56)) (r : List (S56)) (w : World) (hr0 : Kd.C k56 w A0 l0.length l0) (hc0 : l0.length ≤ c0) (h : impl_Edge_78.f l0 = some r) :
  Calls Tryd.prog 78 #[.slice A0 l0.length c0] w fun e w' => ∃ v0_ : Value, e = .returned (v0_) ∧ Kd.R k56 56 w' w.heap.size (fun _ => True) v0_ r ∧ Below w.heap.size w w' := by
 unfold impl_Edge_78.f at h
 simp only [Option.bind_some, List.nil_append] at h
 split at h
 ·rename_i hl
  obtain rfl := Option.some.inj h
  exact stand.clone A0 c0 l0 w hr0 (by simpa using hl)
 ·cases h

/-! ### impl_standing: function 59 -/
/-- A predicate handed over: what it tells in whatever world that keeps what lay there. -/
def stand.Pred (g : Nat) (lb : Array Value) (p : S56 → Bool) (l : List S56) (w0 : World) : Prop :=
 ∀ (W : World) (x : S56), x ∈ l → Below w0.heap.size w0 W → Calls Tryd.prog g (#[.agg #[.int .i64 x.f0, .int .i64 x.f1, .bool x.f2]] ++ lb) W fun e w' => e = .returned (.bool (p x)) ∧ Below W.heap.size W w'
set_option maxHeartbeats 400000 in
set_option maxRecDepth 100000 in
theorem stand.indexFunc (g : Nat) (lb : Array Value) (eg : ∀ args w, (callFunc g args).run Tryd.prog w = .ok (.enter g args) w) (p : S56 → Bool) (l : List S56) (A : Option Addr) (c : Nat) (w0 w : World) (h0 : Below w0.heap.size w0 w)
  (hr : Kd.C k56 w A l.length l) (hp : stand.Pred g lb p l w0) :
  Calls Tryd.prog 108 #[.slice A l.length c, .func (.func g) #[] lb] w fun e w' => ∃ r : Int, e = .returned (.int .i64 r) ∧ Below w.heap.size w w' ∧
   ((r = -1 ∧ ∀ x ∈ l, p x = false) ∨ ∃ k : Nat, ∃ hk : k < l.length, r = (k : Int) ∧ p l[k] = true ∧ ∀ j, j < k → ∀ hj : j < l.length, p l[j] = false) := by
 have hbig : l.length ≤ 9223372036854775807 := hr.2.1
 have hu56 := Tryd.underlying56
 have HR := Aside0.mk hr
 have HP := Aside0.mk hp
 have H0 := Aside0.mk h0
 clear hr hp h0
 go_enter Tryd.func108, Tryd.ntmps108
 go_wp2
 go_loopg [5, 8] l.length (fun gg _ s8 wr => ∃ kk : Nat, kk ≤ l.length ∧ l.length - kk ≤ gg ∧ s8 = .int .i64 kk ∧ Aside0 (Below w.heap.size w wr) ∧ Aside0 (∀ j, j < kk → ∀ hj : j < l.length, p l[j] = false))
 case atStart => exact ⟨0, Nat.zero_le _, by omega, rfl, ⟨Below.refl _ w⟩, ⟨fun j hj => absurd hj (Nat.not_lt_zero _)⟩⟩
 case round =>
  obtain ⟨kk, hkk, hg, rfl, BW, AF⟩ := hrel
  by_cases hlt : kk < l.length
  ·have hltz : (kk : Int) < (l.length : Int) := by omega
   obtain ⟨ad, e0, hx0, hx1, hx2⟩ := at_T56 HR.out (kk : Int) (by omega) hltz
   cases e0
   replace hx0 := (BW.out.cell (World.block_lt_of_cell? w _ hx0)).trans hx0
   replace hx1 := (BW.out.cell (World.block_lt_of_cell? w _ hx1)).trans hx1
   replace hx2 := (BW.out.cell (World.block_lt_of_cell? w _ hx2)).trans hx2
   have hcall := HP.out wr l[kk] (List.getElem_mem hlt) (below_then H0.out H0.out.size BW.out)
   have hrd : rd_T56 l (kk : Int) = l[kk] := by simp [rd_T56, List.getD_eq_getElem?_getD, List.getElem?_eq_getElem hlt]
   rw [hrd] at hx0 hx1 hx2
   clear hrd
   simp only [Int.toNat_natCast] at hx0 hx1 hx2
   generalize hy : l[kk] = y at hx0 hx1 hx2 hcall
   have B : Aside0 (l[kk] = y) := ⟨hy⟩
   clear hy
   cases hq : p y with
   | true =>
    rw [hq] at hcall
    go_wp2_with (go_at_fn g; refine hcall.mono ?_; rintro e w' ⟨rfl, hb'⟩)
    go_ret
    exact ⟨_, rfl, below_then BW.out BW.out.size hb', Or.inr ⟨kk, hlt, rfl, by rw [B.out]; exact hq, AF.out⟩⟩
   | false =>
    rw [hq] at hcall
    go_wp2_with (go_at_fn g; refine hcall.mono ?_; rintro e w' ⟨rfl, hb'⟩)
    go_roundg (l.length - (kk + 1))
    case measure => omega
    case rel =>
     refine ⟨kk + 1, by omega, by omega, by go_num, ⟨below_then BW.out BW.out.size hb'⟩, ⟨fun j hj hjl => ?_⟩⟩
     by_cases e : j = kk
     ·subst e
      rw [B.out]; exact hq
     ·exact AF.out j (by omega) hjl
  ·have hltz : ¬ (kk : Int) < (l.length : Int) := by omega
   have : kk = l.length := by omega
   go_wp2
   go_ret
   refine ⟨_, rfl, BW.out, Or.inl ⟨rfl, fun x hx => ?_⟩⟩
   obtain ⟨j, hj, rfl⟩ := List.mem_iff_getElem.1 hx
   exact AF.out j (by omega) hj
/-- 'clear(s)': what lies there is zero values; nothing else turns. -/
theorem stand.clear (w : World) (b o n c : Nat) (hn : 0 < n)
  (hc : ∀ j, j < n * 3 → (w.cell? ⟨b, o + j, none⟩).isSome = true) (hf : ∀ j, j < n * 3 → w.frozen? ⟨b, o + j, none⟩ = false) :
  ∃ L : List Value, L.length = n * 3 ∧ ∀ ty : TypeId, (Builtin.clear_ #[28] ty #[.slice (some ⟨b, o, none⟩) n c]).run Tryd.prog w = .ok (.tuple #[]) (w.setCells b o L) := by
 have hv : ∀ w : World, (zeroValue 56).run Tryd.prog w = .ok (.agg #[.int .i64 0, .int .i64 0, .bool false]) w := fun w => by kernel_rfl
 have hu := run_underlying Tryd.underlying28
 obtain ⟨L, hL⟩ : ∃ L, (Builtin.zeroCells (Value.agg #[.int .i64 0, .int .i64 0, .bool false]).cells n).toList = L := ⟨_, rfl⟩
 have hlen : L.length = n * 3 := by
  rw [← hL]
  simp [Builtin.zeroCells, Value.cells]
 have hone : ∀ v ∈ L, v.oneCell' = true := by
  intro v hv'
  rw [← hL] at hv'
  simp only [Builtin.zeroCells, Array.toList_map, List.mem_map] at hv'
  obtain ⟨i, _, rfl⟩ := hv'
  have hs : (Value.agg #[.int .i64 0, .int .i64 0, .bool false]).cells.size = 3 := by simp [Value.cells]
  rw [hs]
  have hi : i % 3 < 3 := Nat.mod_lt _ (by decide)
  generalize i % 3 = q at hi
  rcases (by omega : q = 0 ∨ q = 1 ∨ q = 2) with rfl | rfl | rfl <;> (simp [Value.cells]; try rfl)
 have hst := run_storeCells_cells (P := Tryd.prog) b o L 0 w (by rw [hlen]; simpa using hc) (by rw [hlen]; simpa using hf) hone
 simp only [Nat.add_zero] at hst
 obtain ⟨m, rfl⟩ : ∃ m, n = m + 1 := ⟨n - 1, by omega⟩
 refine ⟨L, hlen, fun ty => ?_⟩
 simp [Builtin.clear_, hu, hv, hL, hst]
/-- A row cut at i, and what lies behind it written over. -/
theorem stand.past {w : World} {B g n cap i : Nat} {ok : Nat → Prop} {xs : List S56} (h : Kd.R k56 56 w B ok (.slice (some ⟨g, 0, none⟩) n cap) xs) (hi : i ≤ n) (L : List Value) (hL : L.length = (n - i) * 3) :
  Kd.R k56 56 (w.setCells g (i * 3) L) B ok (.slice (some ⟨g, 0, none⟩) i cap) (xs.take i) ∧ w.grownBy (w.setCells g (i * 3) L) (some g) := by
 have hn := (Kd.R_reads' h).1
 have h' := Kd.R_take h (m := i) (by omega)
 have hil : (xs.take i).length = i := by rw [List.length_take]; omega
 obtain ⟨hok, inner, ho, hr⟩ := h'
 obtain ⟨_, inner0, ho0, _⟩ := h
 obtain ⟨s1, s2, s3, s4⟩ := setCells_same g L (i * 3) w
 have hfar : ∀ k, k ≠ g → (w.setCells g (i * 3) L).heap[k]? = w.heap[k]? := fun k hk => setCells_far L _ k hk
 refine ⟨⟨hok, inner, ?_, ?_⟩, ⟨s1, s2, s3, by rw [s4]; exact Nat.le_refl _, fun k _ hk => hfar k (fun he => hk (by rw [he]))⟩⟩
 ·obtain ⟨ho1, ho2⟩ := ho
  refine ⟨ho1, ?_⟩
  rcases ho2 with ⟨hv, _⟩ | ⟨g', cap', cur, hv, hb, hh, hnc, hcm, hcs, ht⟩
  ·cases hv
  injection hv with ha hl hc
  injection ha with ha
  injection ha with hg
  subst hg; subst hc
  have hcapn : n ≤ cap := by
   rcases ho0.2 with ⟨hv0, _⟩ | ⟨g0, cap0, cur0, hv0, _, _, hnc0, _⟩
   ·cases hv0
   ·injection hv0 with _ q1 q2
    omega
  have hsz : (k56).sz = 3 := rfl
  rw [hsz] at hcs ht ⊢
  obtain ⟨cur', h3, h4, h5⟩ := setCells_row L (i * 3) w cur hh (by rw [hL, hcs]; omega)
  refine .inr ⟨g, cap, cur', by rw [hil], hb, h3, hnc, hcm, by rw [h4, hcs], ?_⟩
  rw [h5, ← ht, hil]
  have hle : i * 3 ≤ cur.toList.length := by rw [Array.length_toList, hcs]; omega
  rw [List.append_assoc, List.take_append_of_le_length (by rw [List.length_take]; omega), List.take_take, Nat.min_self]
 ·refine hr.imp_ (fun p c hp => (k56).M_move (fun k hk => hfar k (fun e => ?_)) hp)
  subst e
  exact hk.2 (by simp [Value.ownBlock])
theorem stand.taken {p : S56 → Bool} {l : List S56} {j : Nat} (hj : j < l.length) : (l.take (j + 1)).filter (fun x => !p x) = (l.take j).filter (fun x => !p x) ++ if p l[j] = true then [] else [l[j]] := by
 rw [List.take_succ_eq_append_getElem hj, List.filter_append]
 congr 1
 cases h : p l[j] <;> simp [h]
theorem stand.setTake {l : List S56} {i : Nat} (x : S56) (h : i < l.length) : (l.set i x).take (i + 1) = l.take i ++ [x] := by
 rw [List.take_set, List.take_succ_eq_append_getElem h, List.set_append_right _ _ (by rw [List.length_take]; omega)]
 have : min i l.length = i := by omega
 simp [this]
set_option maxHeartbeats 2000000 in
set_option maxRecDepth 100000 in
theorem stand.deleteFunc (g : Nat) (lb : Array Value) (eg : ∀ args w, (callFunc g args).run Tryd.prog w = .ok (.enter g args) w) (p : S56 → Bool) (l : List S56) (v : Value) (w0 w : World) (B : Nat) (hB : w0.heap.size ≤ B) (h0 : Below w0.heap.size w0 w) (hBw : B ≤ w.heap.size)
  (ho : Kd.R k56 56 w B (fun _ => True) v l) (hp : stand.Pred g lb p l w0) :
  Calls Tryd.prog 77 #[v, .func (.func g) #[] lb] w fun e w' => ∃ v' : Value, e = .returned v' ∧ Kd.R k56 56 w' B (fun _ => True) v' (l.filter fun x => !p x) ∧ Below B w w' := by
 obtain ⟨A, c, rfl, hAc, hrd⟩ := Kd.R_reads ho
 have eIF : ∀ args w, (callFunc 108 args).run Tryd.prog w = .ok (.enter 108 args) w := fun args w => enters_ Tryd.func108 rfl rfl args w
 have hIF := stand.indexFunc g lb eg p l A c w0 w h0 hrd hp
 have hu56 := Tryd.underlying56
 have HO := Aside0.mk ho
 have HP := Aside0.mk hp
 have H0 := Aside0.mk h0
 have HBW := Aside0.mk hBw
 clear ho hp h0 hrd
 go_enter Tryd.func77, Tryd.ntmps77
 go_upto_region 2 with (first | (go_at_fn 108; refine hIF.mono ?_; rintro e w1 ⟨r, rfl, hb1, hh⟩))
 rcases hh with ⟨rfl, hall⟩ | ⟨k, hk, rfl, hpk, hall⟩
 ·go_wp2
  go_ret
  refine ⟨_, rfl, ?_, hb1.block |> fun _ => ?_⟩
  ·have e : (l.filter fun x => !p x) = l := List.filter_eq_self.2 (fun x hx => by rw [hall x hx]; rfl)
   rw [e]
   exact Kd.R_below HO.out hb1
  ·exact Below.trans (Below.refl B w) ⟨hb1.os, hb1.tape, hb1.output, hb1.size, fun i hi => hb1.block i (by have := HBW.out; omega)⟩
 ·have hne : ((k : Int) == -1) = false := beq_eq_false_iff_ne.2 (by omega)
  obtain ⟨g1, cap, e1, hg1, hg2, _⟩ := Kd.R_form HO.out (by omega)
  injection e1 with e1 _ e2
  subst e1; subst e2
  have n0_ := Aside0.mk (Kd.R_below HO.out hb1)
  have n1_ := Aside0.mk (show Below B w w1 from ⟨hb1.os, hb1.tape, hb1.output, hb1.size, fun i hi => hb1.block i (by have := HBW.out; omega)⟩)
  clear HO hIF hb1
  have HO := n0_
  have HB := n1_
  clear n0_ n1_
  have hbig := (Kd.R_reads' HO.out).2.2.2.1
  have HALL := Aside0.mk hall
  have HPK := Aside0.mk hpk
  clear hall hpk
  go_wp2
  go_loopg [5, 6] l.length (fun gg s5 s6 wr => ∃ (i j : Nat) (dk : List S56), s5 = .int .i64 i ∧ s6 = .int .i64 j ∧ j ≤ l.length ∧ l.length - j ≤ gg ∧ i < j ∧ dk.length = l.length ∧ Aside0 (dk.take i = (l.take j).filter fun x => !p x) ∧ Aside0 (dk.drop j = l.drop j) ∧ Aside0 (Kd.R k56 56 wr B (fun _ => True) (.slice (some ⟨g1, 0, none⟩) l.length c) dk) ∧ Aside0 (Below B w wr))
  case atStart =>
   refine ⟨k, k + 1, l, rfl, by go_num, by omega, by omega, by omega, rfl, ⟨?_⟩, ⟨rfl⟩, ⟨by first | exact HO.out | exact Kd.R_drew HO.out⟩, ⟨by first | exact HB.out | exact below_drew HB.out⟩⟩
   rw [stand.taken hk, if_pos HPK.out, List.append_nil]
   refine (List.filter_eq_self.2 (fun x hx => ?_)).symm
   obtain ⟨q, hq, rfl⟩ := List.mem_iff_getElem.1 hx
   rw [List.length_take] at hq
   rw [List.getElem_take, HALL.out q (by omega) (by omega)]
   rfl
  case round =>
   clear HO HB
   obtain ⟨i, j, dk, rfl, rfl, hj, hgg, hij, hdl, HT, HD, HO, HB⟩ := hrel
   have hwB : B ≤ wr.heap.size := Nat.le_trans HBW.out HB.out.size
   by_cases hlt : j < l.length
   ·have hltz : (j : Int) < (l.length : Int) := by omega
    have hltz2 : (i : Int) < (l.length : Int) := by omega
    have hjd : j < dk.length := by omega
    have hdj : dk[j] = l[j] := by
     have := congrArg (fun m : List S56 => m[0]?) HD.out
     simp only [List.getElem?_drop, Nat.add_zero, List.getElem?_eq_getElem hjd, List.getElem?_eq_getElem hlt, Option.some.injEq] at this
     exact this
    obtain ⟨ce, _, hM, hcc, _⟩ := Kd.R_elem HO.out z56 (j : Int) (by omega) hltz
    obtain rfl := k56_openM hM
    have hx0 := hcc 0 _ rfl
    have hx1 := hcc 1 _ rfl
    have hx2 := hcc 2 _ rfl
    have hsz : (k56).sz = 3 := rfl
    have hget : dk.getD j z56 = l[j] := by rw [List.getD_eq_getElem?_getD, List.getElem?_eq_getElem hjd, Option.getD_some, hdj]
    simp only [hsz, Int.toNat_natCast, Nat.add_zero, hget] at hx0 hx1 hx2
    clear hcc hM
    have hym := List.getElem_mem hlt
    obtain ⟨y, hy⟩ : ∃ y, l[j] = y := ⟨_, rfl⟩
    rw [hy] at hx0 hx1 hx2 hym
    have HY := Aside0.mk hy
    have hBW0 : Below w0.heap.size w0 wr := below_weaken H0.out hB HB.out
    have HW0 := Aside0.mk hBW0
    have hcall := fun W hb => HP.out W y hym hb
    clear hy hget hdj hBW0 hym
    cases hq : p y with
    | true =>
     simp only [hq] at hcall
     go_wp2_with (go_at_fn g; refine (hcall _ (by repeat (first | exact HW0.out | apply below_alloc | apply pw_below_drewN | apply below_drew1))).mono ?_; rintro e w5 ⟨rfl, hb5⟩; have n0_ := Aside0.mk (Kd.R_below (by (with_reducible repeat (first | apply Kd.R_alloc | apply Kd.R_drewN | apply Kd.R_drew)); exact HO.out) hb5); have n1_ := Aside0.mk (below_then (by first | exact HB.out.alloc hwB _ | exact below_drew (HB.out.alloc hwB _)) (by simp; omega) hb5); clear HO HB; have HO := n0_; have HB := n1_; clear n0_ n1_ hb5)
     go_roundg (l.length - (j + 1))
     case measure => omega
     case rel =>
      refine ⟨i, j + 1, dk, rfl, by go_num, by omega, by omega, by omega, hdl, ⟨?_⟩, ⟨?_⟩, HO, HB⟩
      ·rw [stand.taken hlt, HY.out, hq, if_pos rfl, List.append_nil]
       exact HT.out
      ·have := congrArg (List.drop 1) HD.out
       simpa [List.drop_drop] using this
    | false =>
     simp only [hq] at hcall
     go_wp2_with (first
      | (go_at_fn g; refine (hcall _ (by repeat (first | exact HW0.out | apply below_alloc | apply pw_below_drewN | apply below_drew1))).mono ?_; rintro e w5 ⟨rfl, hb5⟩; have hbx : w5.heap[wr.heap.size]? = some (.cells #[.int .i64 y.f0, .int .i64 y.f1, .bool y.f2] 56 (0, 0)) := blk_below (by first | exact heap_alloc_new wr _ | simpa using heap_alloc_new wr _) hb5; have n0_ := Aside0.mk (Kd.R_below (by (with_reducible repeat (first | apply Kd.R_alloc | apply Kd.R_drewN | apply Kd.R_drew)); exact HO.out) hb5); have n1_ := Aside0.mk (below_then (by first | exact HB.out.alloc hwB _ | exact below_drew (HB.out.alloc hwB _)) (by simp; omega) hb5); clear HO HB; have HO := n0_; have HB := n1_; clear n0_ n1_ hb5; have hz0 := (blk_cell hbx 0).trans rfl; have hz1 := (blk_cell hbx 1).trans rfl; have hz2 := (blk_cell hbx 2).trans rfl; obtain ⟨ci, hcl, hMi, hcci, hfri⟩ := Kd.R_elem HO.out z56 (i : Int) (by omega) hltz2; obtain rfl := k56_openM hMi; have HSEG := Kd.R_seg HO.out (i : Int) (by omega) hltz2 (seg := [.int .i64 y.f0, .int .i64 y.f1, .bool y.f2]) (j := 0) hcl hcci (show 3 ≤ 3 from by decide) (x' := y) (k56_mkM _ _ _ y) (fun _ hk => hk); have hc0 := hcci 0 _ rfl; have hc1 := hcci 1 _ rfl; have hc2 := hcci 2 _ rfl; have hf0 := hfri 0; have hf1 := hfri 1; have hf2 := hfri 2; simp only [hsz, Int.toNat_natCast, Nat.add_zero] at hc0 hc1 hc2 hf0 hf1 hf2 HSEG; clear hcl hcci hfri hMi hbx)
      | ((with_reducible refine gate_store (t := 56) (p := 33) rfl ?_); refine store_event (t := 56) (p := 33) (v := ?vo) (w1 := (((w5.setCell ⟨g1, i * 3, none⟩ (.int .i64 y.f0)).setCell ⟨g1, i * 3 + 1, none⟩ (.int .i64 y.f1)).setCell ⟨g1, i * 3 + 2, none⟩ (.bool y.f2))) ?hg ?ho ?hn ?hr ?_; (case ho => rfl); (case hg => rfl); (case hn => rfl); (case hr => first | (go_simp; done) | (go_simp; rfl)); intro w13 hw; have hp_ : Kd.R k56 56 w13 B (fun _ => True) (.slice (some ⟨g1, 0, none⟩) l.length c) (dk.set i y) := (by rw [hw]; exact HSEG.1); have hb_ : Below B w w13 := (by rw [hw]; exact ((HB.out.setCell hg1 _).setCell hg1 _).setCell hg1 _); clear HSEG HO HB; have HO := Aside0.mk hp_; have HB := Aside0.mk hb_; clear hw hp_ hb_))
     go_roundg (l.length - (j + 1))
     case measure => omega
     case rel =>
      refine ⟨i + 1, j + 1, dk.set i y, by go_num, by go_num, by omega, by omega, by omega, by rw [List.length_set]; exact hdl, ⟨?_⟩, ⟨?_⟩, HO, HB⟩
      ·rw [stand.taken hlt, HY.out, hq, if_neg (by decide), stand.setTake y (by omega), HT.out]
      ·rw [List.drop_set_of_lt (by omega)]
       have := congrArg (List.drop 1) HD.out
       simpa [List.drop_drop] using this
   ·obtain rfl : j = l.length := by omega
    have hltz : ¬ (l.length : Int) < (l.length : Int) := by omega
    have hile : (i : Int) ≤ (l.length : Int) := by omega
    have hil2 : i ≤ l.length := by omega
    have hcz : (l.length : Int) ≤ (c : Int) := by omega
    have hiz : (0 : Int) ≤ (i : Int) := Int.natCast_nonneg _
    obtain ⟨L, hL, hcl⟩ := stand.clear wr g1 (i * 3) (l.length - i) (c - i) (by omega) (fun q hq => by
     obtain ⟨ce, hcl_, _, hcc, _⟩ := Kd.R_elem HO.out z56 ((i + q / 3 : Nat) : Int) (by omega) (by omega)
     have hq3 : q % 3 < 3 := Nat.mod_lt _ (by decide)
     have hcq : q % 3 < ce.length := by rw [hcl_]; exact hq3
     have := hcc (q % 3) _ (List.getElem?_eq_getElem hcq)
     have hsz : (k56).sz = 3 := rfl
     rw [hsz, Int.toNat_natCast, show (i + q / 3) * 3 + q % 3 = i * 3 + q by omega] at this
     rw [this]
     rfl) (fun q hq => by
     obtain ⟨_, _, _, _, hfr⟩ := Kd.R_elem HO.out z56 ((i : Nat) : Int) (by omega) (by omega)
     have := hfr q
     have hsz : (k56).sz = 3 := rfl
     rwa [hsz, Int.toNat_natCast] at this)
    have hpast := stand.past HO.out hil2 L hL
    go_wp2
    go_ret
    have hfin := HT.out
    rw [List.take_length] at hfin
    rw [hfin] at hpast
    refine ⟨_, rfl, hpast.1, ?_⟩
    exact HB.out.grown hpast.2 hwB (by intro k_ hk_; injection hk_ with hk_; omega)
def impl_standing.ok (e : S56) : Bool := decide (0 ≤ e.f0 ∧ e.f0 ≤ 10 ∧ 0 ≤ e.f1 ∧ e.f1 ≤ 10)
/-- What is reached behind an edge. -/
def impl_standing.add (R : Int → Bool) (e : S56) : Int → Bool := if (R e.f0 || R e.f1) = true then (fun y => if y = e.f1 then true else if y = e.f0 then true else R y) else R
def impl_standing.reach (l : List S56) : Nat → Int → Bool
 | 0 => fun y => if y = 0 then true else false
 | m + 1 => l.foldl impl_standing.add (impl_standing.reach l m)
def impl_standing.f (l0 : List S56) : Option (List S56) := if l0.length ≤ 10 ∧ l0.all impl_standing.ok = true then some (l0.filter fun e => !!impl_standing.reach l0 l0.length e.f0) else none
theorem stand.keyI : Maps.Keyed Tryd.prog 3 := Maps.int_keyed Tryd.underlying3
theorem stand.zB (w : World) : (zeroValue 4).run Tryd.prog w = .ok (.bool false) w := by kernel_rfl
theorem stand.wf10 (x : Int) (h : 0 ≤ x ∧ x ≤ 10) : (Lit.int .i64 x).wf = true := by
 obtain ⟨n, rfl⟩ := Int.eq_ofNat_of_zero_le h.1
 exact Go.Proofs.YtjfhhpkgjdkmdaaDoor.Mp.wfN n (by omega)
set_option maxHeartbeats 400000 in
set_option maxRecDepth 100000 in
theorem stand.one (gc b n : Nat) (R : Int → Bool) (x : S56) (W : World) (hc : W.heap[gc]? = some (.cells #[.map (some b)] 94 (0, 0))) (ho : Go.Proofs.YtjfhhpkgjdkmdaaDoor.Mp.OwnB W Tryd.prog 3 4 .i64 b n R) (hx : (Lit.int .i64 x.f0).wf = true) :
  Calls Tryd.prog 79 (#[.agg #[.int .i64 x.f0, .int .i64 x.f1, .bool x.f2]] ++ #[.pointer (some ⟨gc, 0, none⟩)]) W fun e w' => e = .returned (.bool (!R x.f0)) ∧ Below W.heap.size W w' := by
 have hu56 := Tryd.underlying56
 have HO := Aside0.mk ho
 have HB := Aside0.mk (Below.refl W.heap.size W)
 have hcc := (blk_cell hc 0).trans rfl
 have hcc2 := (blk_cell (blk_alloc hc (.cells #[.int .i64 x.f0, .int .i64 x.f1, .bool x.f2] 56)) 0).trans rfl
 clear hc ho
 show Calls _ _ #[.agg #[.int .i64 x.f0, .int .i64 x.f1, .bool x.f2], .pointer (some ⟨gc, 0, none⟩)] W _
 go_enter Tryd.func79, Tryd.ntmps79
 go_wp2_with (first | (at_lookup; refine Go.Proofs.YtjfhhpkgjdkmdaaDoor.Mp.step_lookB (by first | exact HO.out.alloc _ | exact (HO.out.alloc _).drew) stand.keyI Tryd.underlying94 Tryd.underlying4 Tryd.underlying3 (stand.zB _) (.tmp 4) (.tmp 6) x.f0 rfl rfl rfl rfl hx ?_))
 go_ret
 exact ⟨rfl, by first | exact below_alloc HB.out _ | exact below_drew (below_alloc HB.out _)⟩
theorem stand.snoc {l : List S56} {R : Int → Bool} {j : Nat} (hj : j < l.length) : (l.take (j + 1)).foldl impl_standing.add R = impl_standing.add ((l.take j).foldl impl_standing.add R) l[j] := by
 rw [List.take_succ_eq_append_getElem hj, List.foldl_append]
 rfl
theorem stand.okAt {l : List S56} (h : l.all impl_standing.ok = true) {j : Nat} (hj : j < l.length) : (0 ≤ l[j].f0 ∧ l[j].f0 ≤ 10) ∧ (0 ≤ l[j].f1 ∧ l[j].f1 ≤ 10) := by
 have := List.all_eq_true.1 h _ (List.getElem_mem hj)
 simp only [impl_standing.ok, decide_eq_true_eq] at this
 exact ⟨⟨this.1, this.2.1⟩, this.2.2⟩
set_option maxHeartbeats 4000000 in
set_option maxRecDepth 100000 in
theorem impl_standing.calls (A0 : Option Addr) (c0 : Nat) (l0 : List (S56)) (r : List (S56)) (w : World) (hr0 : Kd.C k56 w A0 l0.length l0) (hc0 : l0.length ≤ c0) (h : impl_standing.f l0 = some r) :
  Calls Tryd.prog 59 #[.slice A0 l0.length c0] w fun e w' => ∃ v0_ : Value, e = .returned (v0_) ∧ Kd.R k56 56 w' w.heap.size (fun _ => True) v0_ r ∧ Below w.heap.size w w' := by
 have hu56 := Tryd.underlying56
 have hmm := @run_makeMap Tryd.prog
 have hcd : l0.length ≤ 10 ∧ l0.all impl_standing.ok = true := by
  by_cases c : l0.length ≤ 10 ∧ l0.all impl_standing.ok = true
  ·exact c
  ·unfold impl_standing.f at h; rw [if_neg c] at h; cases h
 obtain rfl : (l0.filter fun e => !!impl_standing.reach l0 l0.length e.f0) = r := by
  unfold impl_standing.f at h; rw [if_pos hcd] at h; exact Option.some.inj h
 clear h
 have hlen := hcd.1
 have HOK := Aside0.mk hcd.2
 have HR := Aside0.mk hr0
 have HB := Aside0.mk (Below.refl w.heap.size w)
 clear hr0 hcd
 go_enter Tryd.func59, Tryd.ntmps59
 go_upto_region 2 with (first | ((with_reducible refine gate_ (.insert 94 (.tmp 6) (.const (.int .i64 0)) (.const (.bool true))) rfl ?_); refine Go.Proofs.YtjfhhpkgjdkmdaaDoor.Mp.step_insB (Go.Proofs.YtjfhhpkgjdkmdaaDoor.Mp.OwnB.made w Tryd.prog 3 4 .i64) stand.keyI Tryd.underlying94 Tryd.underlying4 Tryd.underlying3 (by decide) (.tmp 6) (.const (.int .i64 0)) (.const (.bool true)) 0 true rfl rfl rfl rfl rfl (by decide) ?_; intro w1 ho1 ht1))
 obtain ⟨b, hb⟩ : ∃ b, w.heap.size = b := ⟨_, rfl⟩
 obtain ⟨gc, hgc⟩ : ∃ gc, w1.heap.size = gc := ⟨_, rfl⟩
 have hgrow1 : (w.alloc (.map #[] 0)).grownBy w1 (some w.heap.size) := ht1.grown
 have hsz1 : w.heap.size + 1 ≤ gc := by have := hgrow1.size; simp at this; omega
 have hB1 : Below w.heap.size w w1 := (below_alloc HB.out _).grown hgrow1 (by simp) (by intro k_ hk_; injection hk_ with hk_; omega)
 have HC1 : Aside0 ((w1.alloc (.cells #[.map (some w.heap.size)] 94)).heap[gc]? = some (.cells #[.map (some w.heap.size)] 94 (0, 0))) := ⟨by rw [← hgc]; exact heap_alloc_new w1 _⟩
 have HO1 : Aside0 (Go.Proofs.YtjfhhpkgjdkmdaaDoor.Mp.OwnB (w1.alloc (.cells #[.map (some w.heap.size)] 94)) Tryd.prog 3 4 .i64 w.heap.size 1 (impl_standing.reach l0 0)) := ⟨ho1.alloc _⟩
 have HBB1 : Aside0 (Below w.heap.size w (w1.alloc (.cells #[.map (some b)] 94))) := ⟨below_alloc hB1 _⟩
 have HSZ := Aside0.mk hsz1
 have HBQ := Aside0.mk hb
 have hbc : b ≠ gc := by omega
 clear hgrow1 hB1 ho1 ht1 hsz1 HB
 rw [hb, hgc]
 rw [hb] at HC1 HO1
 clear hb hgc
 go_wp2
 go_loopg [10] l0.length (fun gg v10 wr => ∃ (m n : Nat), m ≤ l0.length ∧ l0.length - m ≤ gg ∧ v10 = .int .i64 m ∧ n ≤ 1 + 20 * m ∧ Aside0 (Go.Proofs.YtjfhhpkgjdkmdaaDoor.Mp.OwnB wr Tryd.prog 3 4 .i64 b n (impl_standing.reach l0 m)) ∧ Aside0 (wr.heap[gc]? = some (.cells #[.map (some b)] 94 (0, 0))) ∧ Aside0 (Below w.heap.size w wr))
 case atStart => exact ⟨0, 1, Nat.zero_le _, by omega, rfl, by omega, HO1, HC1, HBB1⟩
 case round =>
  clear HC1 HO1 HBB1
  obtain ⟨m, n, hm, hgg, rfl, hn, HO, HCC, HB⟩ := hrel
  by_cases hml : m < l0.length
  ·have c1 : decide ((m : Int) < (l0.length : Int)) = true := decide_eq_true (by omega)
   go_wp2
   go_loopg [14] l0.length (fun gg2 v14 wr => ∃ (j n2 : Nat), j ≤ l0.length ∧ l0.length - j ≤ gg2 ∧ v14 = .int .i64 j ∧ n2 ≤ 1 + 20 * m + 2 * j ∧ Aside0 (Go.Proofs.YtjfhhpkgjdkmdaaDoor.Mp.OwnB wr Tryd.prog 3 4 .i64 b n2 ((l0.take j).foldl impl_standing.add (impl_standing.reach l0 m))) ∧ Aside0 (wr.heap[gc]? = some (.cells #[.map (some b)] 94 (0, 0))) ∧ Aside0 (Below w.heap.size w wr))
   case atStart => exact ⟨0, n, Nat.zero_le _, by omega, rfl, by omega, HO, HCC, HB⟩
   case round =>
    clear HO HCC HB
    obtain ⟨j, n2, hj, hgg2, rfl, hn2, HO, HCC, HB⟩ := hrel
    by_cases hjl : j < l0.length
    ·have hltz : (j : Int) < (l0.length : Int) := by omega
     have d1 : decide ((j : Int) < (l0.length : Int)) = true := decide_eq_true hltz
     obtain ⟨ad, e0, hx0, hx1, hx2⟩ := at_T56 HR.out (j : Int) (by omega) hltz
     cases e0
     replace hx0 := (HB.out.cell (World.block_lt_of_cell? w _ hx0)).trans hx0
     replace hx1 := (HB.out.cell (World.block_lt_of_cell? w _ hx1)).trans hx1
     replace hx2 := (HB.out.cell (World.block_lt_of_cell? w _ hx2)).trans hx2
     have hrd : rd_T56 l0 (j : Int) = l0[j] := by simp [rd_T56, List.getD_eq_getElem?_getD, List.getElem?_eq_getElem hjl]
     rw [hrd] at hx0 hx1 hx2
     clear hrd
     simp only [Int.toNat_natCast] at hx0 hx1 hx2
     obtain ⟨hk0, hk1⟩ := stand.okAt HOK.out hjl
     obtain ⟨R, hR⟩ : ∃ R, (l0.take j).foldl impl_standing.add (impl_standing.reach l0 m) = R := ⟨_, rfl⟩
     have hnext := stand.snoc (R := impl_standing.reach l0 m) hjl
     rw [hR] at hnext HO
     obtain ⟨y, hy⟩ : ∃ y, l0[j] = y := ⟨_, rfl⟩
     rw [hy] at hx0 hx1 hx2 hk0 hk1 hnext
     have hw0 := stand.wf10 y.f0 hk0
     have hw1 := stand.wf10 y.f1 hk1
     have HNX := Aside0.mk hnext
     have HOA := Aside0.mk (HO.out.alloc (.cells #[.int .i64 y.f0, .int .i64 y.f1, .bool y.f2] 56))
     have HCA := Aside0.mk (blk_alloc HCC.out (.cells #[.int .i64 y.f0, .int .i64 y.f1, .bool y.f2] 56))
     have HBA := Aside0.mk (below_alloc HB.out (.cells #[.int .i64 y.f0, .int .i64 y.f1, .bool y.f2] 56))
     have hcA := (blk_cell HCA.out 0).trans rfl
     have hcW := (blk_cell HCC.out 0).trans rfl
     have hn3 : n2 + 1 < maxLen := by unfold maxLen; omega
     have HWS := Aside0.mk HB.out.size
     have HOB := HO
     clear hnext hR hy HO HCC HB hk0 hk1
     cases hA : R y.f0 with
     | true =>
      go_upto_region 8 with (first | (at_lookup; refine Go.Proofs.YtjfhhpkgjdkmdaaDoor.Mp.step_lookB (by first | exact HOA.out | exact HOA.out.drew) stand.keyI Tryd.underlying94 Tryd.underlying4 Tryd.underlying3 (stand.zB _) (.tmp 18) (.tmp 20) y.f0 rfl rfl rfl rfl hw0 ?_; rw [hA]))
      have hbx : (wr.alloc (.cells #[.int .i64 y.f0, .int .i64 y.f1, .bool y.f2] 56)).heap[wr.heap.size]? = some (.cells #[.int .i64 y.f0, .int .i64 y.f1, .bool y.f2] 56 (0, 0)) := heap_alloc_new wr _
      have q0 : (wr.alloc (.cells #[.int .i64 y.f0, .int .i64 y.f1, .bool y.f2] 56)).drew.cell? ⟨gc, 0, none⟩ = some (.map (some b)) := hcA
      have q1 : (wr.alloc (.cells #[.int .i64 y.f0, .int .i64 y.f1, .bool y.f2] 56)).drew.cell? ⟨wr.heap.size, 0, none⟩ = some (.int .i64 y.f0) := (blk_cell hbx 0).trans rfl
      have q2 : (wr.alloc (.cells #[.int .i64 y.f0, .int .i64 y.f1, .bool y.f2] 56)).drew.cell? ⟨wr.heap.size, 1, none⟩ = some (.int .i64 y.f1) := (blk_cell hbx 1).trans rfl
      have hbb : b < wr.heap.size := HOB.out.lt
      obtain ⟨bx, hbxx⟩ : ∃ bx, wr.heap.size = bx := ⟨_, rfl⟩
      have n1 : some gc ≠ some b := fun e => hbc (by injection e with e; exact e.symm)
      have n2_ : some bx ≠ some b := fun e => by injection e; omega
      rw [hbxx] at q1 q2
      obtain ⟨w2, hr2, ho2, ht2⟩ := (HOA.out.drew).put stand.keyI Tryd.underlying94 Tryd.underlying4 (by omega) Tryd.underlying3 hw0 true
      obtain ⟨w3, hr3, ho3, ht3⟩ := ho2.put stand.keyI Tryd.underlying94 Tryd.underlying4 hn3 Tryd.underlying3 hw1 true
      have r0 := ht2.grown.cell q0 n1
      have r1 := ht2.grown.cell q1 n2_
      have r2 := ht2.grown.cell q2 n2_
      have t0 := ht3.grown.cell r0 n1
      have t1 := ht3.grown.cell r1 n2_
      have t2 := ht3.grown.cell r2 n2_
      have HO3 := Aside0.mk ho3
      have HB3 := Aside0.mk ((below_drew HBA.out).grown ht2.grown HBA.out.size (by intro k_ hk_; injection hk_ with hk_; have := HBQ.out; omega) |>.grown ht3.grown (Nat.le_trans HBA.out.size ht2.grown.size) (by intro k_ hk_; injection hk_ with hk_; have := HBQ.out; omega))
      have HC3 := Aside0.mk ((ht3.grown.block gc (blk_lt (blk_grown (row := some b) (show (wr.alloc (.cells #[.int .i64 y.f0, .int .i64 y.f1, .bool y.f2] 56)).drew.heap[gc]? = _ from HCA.out) ht2.grown n1)) n1).trans (blk_grown (row := some b) (show (wr.alloc (.cells #[.int .i64 y.f0, .int .i64 y.f1, .bool y.f2] 56)).drew.heap[gc]? = _ from HCA.out) ht2.grown n1))
      clear ho2 ho3 ht2 ht3 hcA hcW hbx
      generalize hW8 : wr.alloc (.cells #[.int .i64 y.f0, .int .i64 y.f1, .bool y.f2] 56) = W8 at *
      rw [hbxx]
      go_region_held3 (fun W => W.cell? ⟨gc, 0, none⟩ = some (.map (some b)) ∧ W.cell? ⟨bx, 0, none⟩ = some (.int .i64 y.f0) ∧ W.cell? ⟨bx, 1, none⟩ = some (.int .i64 y.f1)) (go_keep) (fail)
      go_wp2
      go_roundg (l0.length - (j + 1))
      case measure => omega
      case rel =>
       refine ⟨j + 1, n2 + 1 + 1, by omega, by omega, by go_num, by omega, ⟨?_⟩, ⟨HC3.out⟩, HB3⟩
       rw [HNX.out]
       unfold impl_standing.add
       rw [if_pos (by simp [hA])]
       exact HO3.out
     | false =>
      cases hA2 : R y.f1 with
      | true =>
       go_upto_region 8 with (first | (at_lookup; refine Go.Proofs.YtjfhhpkgjdkmdaaDoor.Mp.step_lookB (by first | exact HOA.out | exact HOA.out.drew) stand.keyI Tryd.underlying94 Tryd.underlying4 Tryd.underlying3 (stand.zB _) (.tmp 18) (.tmp 20) y.f0 rfl rfl rfl rfl hw0 ?_; rw [hA]) | ((with_reducible refine gate_dst (N := 26) rfl ?_); (try (refine gate_guard (by rfl) ?_; dsimp only)); refine Go.Proofs.YtjfhhpkgjdkmdaaDoor.Mp.step_lookB (by first | exact HOA.out | exact HOA.out.drew) stand.keyI Tryd.underlying94 Tryd.underlying4 Tryd.underlying3 (stand.zB _) (.tmp 23) (.tmp 25) y.f1 rfl rfl rfl rfl hw1 ?_; rw [hA2]))
       have hbx : (wr.alloc (.cells #[.int .i64 y.f0, .int .i64 y.f1, .bool y.f2] 56)).heap[wr.heap.size]? = some (.cells #[.int .i64 y.f0, .int .i64 y.f1, .bool y.f2] 56 (0, 0)) := heap_alloc_new wr _
       have q0 : (wr.alloc (.cells #[.int .i64 y.f0, .int .i64 y.f1, .bool y.f2] 56)).drew.cell? ⟨gc, 0, none⟩ = some (.map (some b)) := hcA
       have q1 : (wr.alloc (.cells #[.int .i64 y.f0, .int .i64 y.f1, .bool y.f2] 56)).drew.cell? ⟨wr.heap.size, 0, none⟩ = some (.int .i64 y.f0) := (blk_cell hbx 0).trans rfl
       have q2 : (wr.alloc (.cells #[.int .i64 y.f0, .int .i64 y.f1, .bool y.f2] 56)).drew.cell? ⟨wr.heap.size, 1, none⟩ = some (.int .i64 y.f1) := (blk_cell hbx 1).trans rfl
       have hbb : b < wr.heap.size := HOB.out.lt
       obtain ⟨bx, hbxx⟩ : ∃ bx, wr.heap.size = bx := ⟨_, rfl⟩
       have n1 : some gc ≠ some b := fun e => hbc (by injection e with e; exact e.symm)
       have n2_ : some bx ≠ some b := fun e => by injection e; omega
       rw [hbxx] at q1 q2
       obtain ⟨w2, hr2, ho2, ht2⟩ := (HOA.out.drew).put stand.keyI Tryd.underlying94 Tryd.underlying4 (by omega) Tryd.underlying3 hw0 true
       obtain ⟨w3, hr3, ho3, ht3⟩ := ho2.put stand.keyI Tryd.underlying94 Tryd.underlying4 hn3 Tryd.underlying3 hw1 true
       have r0 := ht2.grown.cell q0 n1
       have r1 := ht2.grown.cell q1 n2_
       have r2 := ht2.grown.cell q2 n2_
       have t0 := ht3.grown.cell r0 n1
       have t1 := ht3.grown.cell r1 n2_
       have t2 := ht3.grown.cell r2 n2_
       have HO3 := Aside0.mk ho3
       have HB3 := Aside0.mk ((below_drew HBA.out).grown ht2.grown HBA.out.size (by intro k_ hk_; injection hk_ with hk_; have := HBQ.out; omega) |>.grown ht3.grown (Nat.le_trans HBA.out.size ht2.grown.size) (by intro k_ hk_; injection hk_ with hk_; have := HBQ.out; omega))
       have HC3 := Aside0.mk ((ht3.grown.block gc (blk_lt (blk_grown (row := some b) (show (wr.alloc (.cells #[.int .i64 y.f0, .int .i64 y.f1, .bool y.f2] 56)).drew.heap[gc]? = _ from HCA.out) ht2.grown n1)) n1).trans (blk_grown (row := some b) (show (wr.alloc (.cells #[.int .i64 y.f0, .int .i64 y.f1, .bool y.f2] 56)).drew.heap[gc]? = _ from HCA.out) ht2.grown n1))
       clear ho2 ho3 ht2 ht3 hcA hcW hbx
       generalize hW8 : wr.alloc (.cells #[.int .i64 y.f0, .int .i64 y.f1, .bool y.f2] 56) = W8 at *
       rw [hbxx]
       go_region_held3 (fun W => W.cell? ⟨gc, 0, none⟩ = some (.map (some b)) ∧ W.cell? ⟨bx, 0, none⟩ = some (.int .i64 y.f0) ∧ W.cell? ⟨bx, 1, none⟩ = some (.int .i64 y.f1)) (go_keep) (fail)
       go_wp2
       go_roundg (l0.length - (j + 1))
       case measure => omega
       case rel =>
        refine ⟨j + 1, n2 + 1 + 1, by omega, by omega, by go_num, by omega, ⟨?_⟩, ⟨HC3.out⟩, HB3⟩
        rw [HNX.out]
        unfold impl_standing.add
        rw [if_pos (by simp [hA, hA2])]
        exact HO3.out
      | false =>
       go_wp2_with (first | (at_lookup; refine Go.Proofs.YtjfhhpkgjdkmdaaDoor.Mp.step_lookB (by first | exact HOA.out | exact HOA.out.drew) stand.keyI Tryd.underlying94 Tryd.underlying4 Tryd.underlying3 (stand.zB _) (.tmp 18) (.tmp 20) y.f0 rfl rfl rfl rfl hw0 ?_; rw [hA]) | ((with_reducible refine gate_dst (N := 26) rfl ?_); (try (refine gate_guard (by rfl) ?_; dsimp only)); refine Go.Proofs.YtjfhhpkgjdkmdaaDoor.Mp.step_lookB (by first | exact HOA.out | exact HOA.out.drew) stand.keyI Tryd.underlying94 Tryd.underlying4 Tryd.underlying3 (stand.zB _) (.tmp 23) (.tmp 25) y.f1 rfl rfl rfl rfl hw1 ?_; rw [hA2]))
       go_roundg (l0.length - (j + 1))
       case measure => omega
       case rel =>
        refine ⟨j + 1, n2, by omega, by omega, by go_num, by omega, ⟨?_⟩, HCA, HBA⟩
        rw [HNX.out]
        unfold impl_standing.add
        rw [hA, hA2, if_neg (by decide)]
        exact HOA.out
    ·obtain rfl : j = l0.length := by omega
     have d1 : decide ((l0.length : Int) < (l0.length : Int)) = false := decide_eq_false (by omega)
     go_wp2
     go_roundg (l0.length - (m + 1))
     case measure => omega
     case rel =>
      refine ⟨m + 1, n2, by omega, by omega, by go_num, by omega, ⟨?_⟩, HCC, HB⟩
      have := HO.out
      rw [List.take_length] at this
      exact this
  ·obtain rfl : m = l0.length := by omega
   have c1 : decide ((l0.length : Int) < (l0.length : Int)) = false := decide_eq_false (by omega)
   have eg : ∀ args w, (callFunc 79 args).run Tryd.prog w = .ok (.enter 79 args) w := fun args w => enters_ Tryd.func79 rfl rfl args w
   have HP := Aside0.mk (show stand.Pred 79 #[.pointer (some ⟨gc, 0, none⟩)] (fun e => !impl_standing.reach l0 l0.length e.f0) l0 wr from fun W x hx hBW => by
    obtain ⟨q, hq, rfl⟩ := List.mem_iff_getElem.1 hx
    exact stand.one gc b n _ _ W ((hBW.block gc (blk_lt HCC.out)).trans HCC.out) (HO.out.kept (grown_of_below hBW none) (by simp)) (stand.wf10 _ (stand.okAt HOK.out hq).1))
   have HEG := Aside0.mk eg
   clear eg
   go_wp2_with (first
    | (go_at_call 78; refine (stand.clone A0 c0 l0 _ (Kd.C_below HR.out HB.out) (by omega)).mono ?_; rintro e w5 ⟨v5, rfl, ho5, hb5⟩; have HO5 := Aside0.mk ho5; have HB5 := Aside0.mk hb5; clear ho5 hb5)
    | (go_at_call 77; refine (stand.deleteFunc 79 #[.pointer (some ⟨gc, 0, none⟩)] HEG.out (fun e => !impl_standing.reach l0 l0.length e.f0) l0 v5 wr _ wr.heap.size (Nat.le_refl _) HB5.out HB5.out.size HO5.out HP.out).mono ?_; rintro e w6 ⟨v6, rfl, ho6, hb6⟩; have HO6 := Aside0.mk ho6; have HB6 := Aside0.mk hb6; clear ho6 hb6))
   go_ret
   exact ⟨_, rfl, Kd.R_lower HO6.out HB.out.size, below_weaken (below_then HB.out HB.out.size HB5.out) HB.out.size HB6.out⟩

end Go.Proofs.YtjfhhpkgjdkmdaaDoor.QFnExactParsePicture
