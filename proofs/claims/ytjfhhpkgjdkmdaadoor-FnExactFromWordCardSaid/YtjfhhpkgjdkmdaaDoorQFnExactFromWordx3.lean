/- The Go functions that the law FnExactFromWord reaches, as Lean functions, and what their calls do. Written by a program of this session. -/
import Derived.Test.YtjfhhpkgjdkmdaaDoorQFnExactFromWordx0
import Derived.Test.YtjfhhpkgjdkmdaaDoorQFnExactFromWordx1
import Derived.Test.YtjfhhpkgjdkmdaaDoorQFnExactFromWordx2
namespace Go.Proofs.YtjfhhpkgjdkmdaaDoor.QFnExactFromWord
open Go.RowKit Go.Proofs.YtjfhhpkgjdkmdaaDoorW.PrintWords Go.Proofs.YtjfhhpkgjdkmdaaDoorW.PrintLast Go.Proofs.YtjfhhpkgjdkmdaaDoorW.PrintMore
attribute [local go_sem] max2_int min2_int max_two min_two max_three min_three max_four min_four   -- for this text's walks alone
set_option linter.unusedVariables false
set_option linter.unusedSimpArgs false

/-! ### spec_shValue: function 52 -/
def spec_shValue.l0 : Nat → ByteArray → Int → Int → Int → Int → Int → Int → Int → Bool → Bool → Option (Int × Int)
  | 0, _, _, _, _, _, _, _, _, _, _ => none
  | k + 1, x0, x4, x146000, x146001, x146002, x146003, x146004, x146005, x146006, x146007 => if x4 < (x0.size : Int) then (if 0 ≤ x4 then ((spec_shWalk_step.f k x146000 x146001 x146002 x146003 x146004 x146005 x146006 x146007 ((bt x0 x4) == 43)).bind fun bt146 => (spec_shValue.l0 k x0 (wrap64 (x4 + 1)) bt146.1 bt146.2.1 bt146.2.2.1 bt146.2.2.2.1 bt146.2.2.2.2.1 bt146.2.2.2.2.2.1 bt146.2.2.2.2.2.2.1 bt146.2.2.2.2.2.2.2)) else (none)) else (some (x146000, x146001))
def spec_shValue.f (k : Nat) (a0 : ByteArray) : Option (Int × Int) := (spec_shStart.f).bind fun bt137 => (spec_shValue.l0 k a0 0 bt137.1 bt137.2.1 bt137.2.2.1 bt137.2.2.2.1 bt137.2.2.2.2.1 bt137.2.2.2.2.2.1 bt137.2.2.2.2.2.2.1 bt137.2.2.2.2.2.2.2)
theorem spec_shValue.mono_l : ∀ k, (∀ y0 y1 y2 y3 y4 y5 y6 y7 y8 y9, LeO (spec_shValue.l0 k y0 y1 y2 y3 y4 y5 y6 y7 y8 y9) (spec_shValue.l0 (k + 1) y0 y1 y2 y3 y4 y5 y6 y7 y8 y9))
  | 0 => fun _ _ _ _ _ _ _ _ _ _ r h => by simp [spec_shValue.l0] at h
  | k + 1 => by
    have ih0 := spec_shValue.mono_l k
    · intro y0 y1 y2 y3 y4 y5 y6 y7 y8 y9
      unfold spec_shValue.l0
      repeat' first
      | (with_reducible exact ih0 _ _ _ _ _ _ _ _ _ _)
      | (with_reducible exact spec_shWalk_step.mono _ _ _ _ _ _ _ _ _ _)
      | (with_reducible exact LeO.refl _)
      | (with_reducible exact LeO.none _)
      | (with_reducible refine LeO.ite ?_ ?_)
      | (with_reducible refine LeO.bind ?_ (fun _ => ?_))
      | exact ih0 _ _ _ _ _ _ _ _ _ _
      | exact spec_shWalk_step.mono _ _ _ _ _ _ _ _ _ _
      | exact LeO.none _
      | refine LeO.ite ?_ ?_
      | refine LeO.bind ?_ (fun _ => ?_)
theorem spec_shValue.mono : ∀ a0 k, LeO (spec_shValue.f k a0) (spec_shValue.f (k + 1) a0) := by
  intro a0 k
  have ih0 := spec_shValue.mono_l k
  unfold spec_shValue.f
  repeat' first
      | (with_reducible exact ih0 _ _ _ _ _ _ _ _ _ _)
      | (with_reducible exact spec_shWalk_step.mono _ _ _ _ _ _ _ _ _ _)
      | (with_reducible exact LeO.refl _)
      | (with_reducible exact LeO.none _)
      | (with_reducible refine LeO.ite ?_ ?_)
      | (with_reducible refine LeO.bind ?_ (fun _ => ?_))
      | exact ih0 _ _ _ _ _ _ _ _ _ _
      | exact spec_shWalk_step.mono _ _ _ _ _ _ _ _ _ _
      | exact LeO.none _
      | refine LeO.ite ?_ ?_
      | refine LeO.bind ?_ (fun _ => ?_)
set_option maxHeartbeats 8000000 in
set_option maxRecDepth 100000 in
theorem spec_shValue.calls (k : Nat) (a0 : ByteArray) (r1 : Int) (r2 : Int) (w : World) (h : spec_shValue.f k a0 = some (r1, r2)) :
    Calls Tryd.prog 52 #[.string a0] w fun e w' => e = .returned (.agg #[.int .i64 r1, .int .i64 r2]) ∧ Below w.heap.size w w' := by
  have hu39 := Tryd.underlying39
  have hu87 := Tryd.underlying87
  have HB := Aside0.mk (Below.refl w.heap.size w)
  have H : ((spec_shStart.f).bind fun bt137 => (spec_shValue.l0 k a0 0 bt137.1 bt137.2.1 bt137.2.2.1 bt137.2.2.2.1 bt137.2.2.2.2.1 bt137.2.2.2.2.2.1 bt137.2.2.2.2.2.2.1 bt137.2.2.2.2.2.2.2)) = some (r1, r2) := h
  clear h
  replace H := Option.bind_eq_some_iff.mp H
  obtain ⟨⟨t137, t138, t139, t140, t141, t142, t143, t144⟩, A20, H⟩ := H
  replace H : (spec_shValue.l0 k a0 0 t137 t138 t139 t140 t141 t142 t143 t144) = some (r1, r2) := H
  have A2 := Aside0.mk A20
  clear A20
  have H' := Aside0.mk H
  clear H
  go_enter Tryd.func52, Tryd.ntmps52
  go_wp2_with (first | ((with_reducible refine gate_dst (N := 2) rfl ?_); refine box_event ?hg (N := 2) ?hd (cs := #[.int .i64 0, .int .i64 0]) (t := 39) ?hr ?_; (case hd => rfl); (case hg => rfl); (case hr => first | (go_simp; done) | (go_simp; rfl)); intro gb136 hg w3 hbox hb; have n0_ := Aside0.mk (below_step (by repeat (first | (with_reducible first | exact HB.out | apply below_alloc | apply pw_below_drewN | apply below_drew1) | exact HB.out)) hb); have n1_ := Aside0.mk (hbox); have n2_ := Aside0.mk ((by rw [hg]; exact (below_size (by repeat (first | (with_reducible first | exact HB.out | apply below_alloc | apply pw_below_drewN | apply below_drew1) | exact HB.out))) : w.heap.size ≤ gb136)); have n3_ := Aside0.mk ((by rw [hg]; exact (below_size (by repeat (first | (with_reducible first | exact HB.out | apply below_alloc | apply pw_below_drewN | apply below_drew1) | exact HB.out))) : w.heap.size ≤ gb136)); clear HB; have HB := n0_; have BK136 := n1_; have GW136 := n2_; have GE136 := n3_; clear n0_ n1_ n2_ n3_; clear hb hbox hg) | ((with_reducible refine gate_callee (f := 73) rfl ?_); refine goesL_ (some 5) rfl rfl Tryd.func73 (by kernel_rfl) rfl #[] rfl (by (try simp only [List.map_toArray, List.map_cons, List.map_nil]); first | done | rfl | (simp only [List.length_drop, List.length_take]; rfl)) ?_; (with_reducible refine (spec_shStart.calls  t137 t138 t139 t140 t141 t142 t143 t144 _ A2.out).mono ?_); rintro e w4 ⟨rfl, hb⟩; refine ⟨_, rfl, ?_⟩; have n0_ := Aside0.mk (blk_below (g := gb136) (o := .cells #[.int .i64 0, .int .i64 0] 39 (0, 0)) (by (with_reducible repeat (first | refine blk_drewN ?_ _ | refine blk_drew ?_ | refine blk_alloc ?_ _)); exact BK136.out) hb); have n1_ := Aside0.mk (below_step (by repeat (first | (with_reducible first | exact HB.out | apply below_alloc | apply pw_below_drewN | apply below_drew1 | refine below_set ?_ GE136.out) | exact HB.out)) hb); clear BK136; clear HB; have BK136 := n0_; have HB := n1_; clear n0_ n1_; (try clear hb); (try clear hb2); (try clear hk); (try clear hi)) | ((with_reducible refine gate_dst (N := 3) rfl ?_); refine box_event ?hg (N := 3) ?hd (cs := #[.int .i64 0, .int .i64 0, .int .i64 0, .int .i64 0, .int .i64 0, .int .i64 0, .bool false, .bool false]) (t := 87) ?hr ?_; (case hd => rfl); (case hg => rfl); (case hr => first | (go_simp; done) | (go_simp; rfl)); intro gb145 hg w5 hbox hb; have n0_ := Aside0.mk (blk_below (g := gb136) (o := .cells #[.int .i64 0, .int .i64 0] 39 (0, 0)) (by (with_reducible repeat (first | refine blk_drewN ?_ _ | refine blk_drew ?_ | refine blk_alloc ?_ _)); exact BK136.out) hb); have n1_ := Aside0.mk (below_step (by repeat (first | (with_reducible first | exact HB.out | apply below_alloc | apply pw_below_drewN | apply below_drew1 | refine below_set ?_ GE136.out) | exact HB.out)) hb); have n2_ := Aside0.mk (hbox); have n3_ := Aside0.mk ((by rw [hg]; exact (below_size (by repeat (first | (with_reducible first | exact HB.out | apply below_alloc | apply pw_below_drewN | apply below_drew1 | refine below_set ?_ GE136.out) | exact HB.out))) : w.heap.size ≤ gb145)); have n4_ := Aside0.mk ((by rw [hg]; exact (below_size (by repeat (first | (with_reducible first | exact HB.out | apply below_alloc | apply pw_below_drewN | apply below_drew1 | refine below_set ?_ GE136.out) | exact HB.out))) : w.heap.size ≤ gb145)); have n5_ := Aside0.mk ((by rw [hg]; exact Nat.ne_of_lt (blk_lt (g := gb136) (o := .cells #[.int .i64 0, .int .i64 0] 39 (0, 0)) (by (with_reducible repeat (first | refine blk_drewN ?_ _ | refine blk_drew ?_ | refine blk_alloc ?_ _)); exact BK136.out)) : gb136 ≠ gb145)); have n6_ := Aside0.mk ((by rw [hg]; exact Nat.ne_of_gt (blk_lt (g := gb136) (o := .cells #[.int .i64 0, .int .i64 0] 39 (0, 0)) (by (with_reducible repeat (first | refine blk_drewN ?_ _ | refine blk_drew ?_ | refine blk_alloc ?_ _)); exact BK136.out)) : gb145 ≠ gb136)); clear BK136; clear HB; have BK136 := n0_; have HB := n1_; have BK145 := n2_; have GW145 := n3_; have GE145 := n4_; have NB136_145 := n5_; have NB145_136 := n6_; clear n0_ n1_ n2_ n3_ n4_ n5_ n6_; clear hb hbox hg; have hnb6 := NB145_136.out; have hnc6 := NB136_145.out; have hcz7_0 : w5.cell? ⟨gb145, 0, none⟩ = some (.int .i64 0) := (blk_cell BK145.out 0).trans rfl; have hcz7_1 : w5.cell? ⟨gb145, 1, none⟩ = some (.int .i64 0) := (blk_cell BK145.out 1).trans rfl; have hcz7_2 : w5.cell? ⟨gb145, 2, none⟩ = some (.int .i64 0) := (blk_cell BK145.out 2).trans rfl; have hcz7_3 : w5.cell? ⟨gb145, 3, none⟩ = some (.int .i64 0) := (blk_cell BK145.out 3).trans rfl; have hcz7_4 : w5.cell? ⟨gb145, 4, none⟩ = some (.int .i64 0) := (blk_cell BK145.out 4).trans rfl; have hcz7_5 : w5.cell? ⟨gb145, 5, none⟩ = some (.int .i64 0) := (blk_cell BK145.out 5).trans rfl; have hcz7_6 : w5.cell? ⟨gb145, 6, none⟩ = some (.bool false) := (blk_cell BK145.out 6).trans rfl; have hcz7_7 : w5.cell? ⟨gb145, 7, none⟩ = some (.bool false) := (blk_cell BK145.out 7).trans rfl; have hfz7_0 := blk_frozen BK145.out 0; have hfz7_1 := blk_frozen BK145.out 1; have hfz7_2 := blk_frozen BK145.out 2; have hfz7_3 := blk_frozen BK145.out 3; have hfz7_4 := blk_frozen BK145.out 4; have hfz7_5 := blk_frozen BK145.out 5; have hfz7_6 := blk_frozen BK145.out 6; have hfz7_7 := blk_frozen BK145.out 7))
  go_loopg [4] k (fun kq v4 w' => ∃ (x4_1 : Int) (x146000_1 : Int) (x146001_1 : Int) (x146002_1 : Int) (x146003_1 : Int) (x146004_1 : Int) (x146005_1 : Int) (x146006_1 : Bool) (x146007_1 : Bool), v4 = .int .i64 x4_1 ∧ Aside0 (spec_shValue.l0 kq a0 x4_1 x146000_1 x146001_1 x146002_1 x146003_1 x146004_1 x146005_1 x146006_1 x146007_1 = some (r1, r2)) ∧ Aside0 (kq ≤ k) ∧ Aside0 (w'.heap[gb136]? = some (.cells #[.int .i64 0, .int .i64 0] 39 (0, 0))) ∧ Aside0 (w'.heap[gb145]? = some (.cells #[.int .i64 x146000_1, .int .i64 x146001_1, .int .i64 x146002_1, .int .i64 x146003_1, .int .i64 x146004_1, .int .i64 x146005_1, .bool x146006_1, .bool x146007_1] 87 (0, 0))) ∧ Aside0 (Below w.heap.size w w'))
  case atStart => exact ⟨(0), (t137), (t138), (t139), (t140), (t141), (t142), (t143), (t144), (by first | rfl | (simp; done) | (simp [*]; done)), H', ⟨Nat.le_refl _⟩, ⟨by (with_reducible repeat (first | refine blk_drewN ?_ _ | refine blk_drew ?_ | refine blk_alloc ?_ _)); refine blk_far ?_ NB136_145.out _; (with_reducible repeat (first | refine blk_drewN ?_ _ | refine blk_drew ?_ | refine blk_alloc ?_ _)); refine blk_far ?_ NB136_145.out _; (with_reducible repeat (first | refine blk_drewN ?_ _ | refine blk_drew ?_ | refine blk_alloc ?_ _)); refine blk_far ?_ NB136_145.out _; (with_reducible repeat (first | refine blk_drewN ?_ _ | refine blk_drew ?_ | refine blk_alloc ?_ _)); refine blk_far ?_ NB136_145.out _; (with_reducible repeat (first | refine blk_drewN ?_ _ | refine blk_drew ?_ | refine blk_alloc ?_ _)); refine blk_far ?_ NB136_145.out _; (with_reducible repeat (first | refine blk_drewN ?_ _ | refine blk_drew ?_ | refine blk_alloc ?_ _)); refine blk_far ?_ NB136_145.out _; (with_reducible repeat (first | refine blk_drewN ?_ _ | refine blk_drew ?_ | refine blk_alloc ?_ _)); refine blk_far ?_ NB136_145.out _; (with_reducible repeat (first | refine blk_drewN ?_ _ | refine blk_drew ?_ | refine blk_alloc ?_ _)); refine blk_far ?_ NB136_145.out _; (with_reducible repeat (first | refine blk_drewN ?_ _ | refine blk_drew ?_ | refine blk_alloc ?_ _)); exact BK136.out⟩, ⟨by (with_reducible repeat (first | refine blk_drewN ?_ _ | refine blk_drew ?_ | refine blk_alloc ?_ _)); refine blk_put (cs := #[.int .i64 t137, .int .i64 t138, .int .i64 t139, .int .i64 t140, .int .i64 t141, .int .i64 t142, .bool t143, .bool false]) ?_ 7 _ rfl; (with_reducible repeat (first | refine blk_drewN ?_ _ | refine blk_drew ?_ | refine blk_alloc ?_ _)); refine blk_put (cs := #[.int .i64 t137, .int .i64 t138, .int .i64 t139, .int .i64 t140, .int .i64 t141, .int .i64 t142, .bool false, .bool false]) ?_ 6 _ rfl; (with_reducible repeat (first | refine blk_drewN ?_ _ | refine blk_drew ?_ | refine blk_alloc ?_ _)); refine blk_put (cs := #[.int .i64 t137, .int .i64 t138, .int .i64 t139, .int .i64 t140, .int .i64 t141, .int .i64 0, .bool false, .bool false]) ?_ 5 _ rfl; (with_reducible repeat (first | refine blk_drewN ?_ _ | refine blk_drew ?_ | refine blk_alloc ?_ _)); refine blk_put (cs := #[.int .i64 t137, .int .i64 t138, .int .i64 t139, .int .i64 t140, .int .i64 0, .int .i64 0, .bool false, .bool false]) ?_ 4 _ rfl; (with_reducible repeat (first | refine blk_drewN ?_ _ | refine blk_drew ?_ | refine blk_alloc ?_ _)); refine blk_put (cs := #[.int .i64 t137, .int .i64 t138, .int .i64 t139, .int .i64 0, .int .i64 0, .int .i64 0, .bool false, .bool false]) ?_ 3 _ rfl; (with_reducible repeat (first | refine blk_drewN ?_ _ | refine blk_drew ?_ | refine blk_alloc ?_ _)); refine blk_put (cs := #[.int .i64 t137, .int .i64 t138, .int .i64 0, .int .i64 0, .int .i64 0, .int .i64 0, .bool false, .bool false]) ?_ 2 _ rfl; (with_reducible repeat (first | refine blk_drewN ?_ _ | refine blk_drew ?_ | refine blk_alloc ?_ _)); refine blk_put (cs := #[.int .i64 t137, .int .i64 0, .int .i64 0, .int .i64 0, .int .i64 0, .int .i64 0, .bool false, .bool false]) ?_ 1 _ rfl; (with_reducible repeat (first | refine blk_drewN ?_ _ | refine blk_drew ?_ | refine blk_alloc ?_ _)); refine blk_put (cs := #[.int .i64 0, .int .i64 0, .int .i64 0, .int .i64 0, .int .i64 0, .int .i64 0, .bool false, .bool false]) ?_ 0 _ rfl; (with_reducible repeat (first | refine blk_drewN ?_ _ | refine blk_drew ?_ | refine blk_alloc ?_ _)); exact BK145.out⟩, ⟨by repeat (first | (with_reducible first | exact HB.out | apply below_alloc | apply pw_below_drewN | apply below_drew1 | refine below_set ?_ GE136.out | refine below_set ?_ GE145.out) | exact HB.out)⟩⟩
  case round =>
    clear H'
    try clear p2
    try clear c5
    try clear c6
    try clear c7
    try clear hcz7_0
    try clear hcz7_1
    try clear hcz7_2
    try clear hcz7_3
    try clear hcz7_4
    try clear hcz7_5
    try clear hcz7_6
    try clear hcz7_7
    try clear hfz7_0
    try clear hfz7_1
    try clear hfz7_2
    try clear hfz7_3
    try clear hfz7_4
    try clear hfz7_5
    try clear hfz7_6
    try clear hfz7_7
    obtain ⟨x4_1, x146000_1, x146001_1, x146002_1, x146003_1, x146004_1, x146005_1, x146006_1, x146007_1, rfl, HA, HK1, BK136, BK145, HB⟩ := hrel
    cases gk with
    | zero => exact absurd HA.out (by simp [spec_shValue.l0])
    | succ k1 =>
      have H := HA.out
      clear HA
      simp only [spec_shValue.l0] at H
      by_cases c8 : x4_1 < (a0.size : Int)
      · rw [if_pos c8] at H
        have c8b0 : decide (x4_1 < (a0.size : Int)) = true := decide_eq_true c8
        clear c8
        by_cases c9 : 0 ≤ x4_1
        · rw [if_pos c9] at H
          have c9b0 : decide (0 ≤ x4_1) = true := decide_eq_true c9
          clear c9
          replace H := Option.bind_eq_some_iff.mp H
          obtain ⟨⟨t146, t147, t148, t149, t150, t151, t152, t153⟩, A110, H⟩ := H
          replace H : (spec_shValue.l0 k1 a0 (wrap64 (x4_1 + 1)) t146 t147 t148 t149 t150 t151 t152 t153) = some (r1, r2) := H
          have A11 := Aside0.mk A110
          clear A110
          have H' := Aside0.mk H
          clear H
          try go_wp2
          have n0_ := Aside0.mk (blk_drew BK136.out)
          have n1_ := Aside0.mk (blk_drew BK145.out)
          have n2_ := Aside0.mk (below_drew1 HB.out)
          clear BK136
          clear BK145
          clear HB
          have BK136 := n0_
          have BK145 := n1_
          have HB := n2_
          clear n0_ n1_ n2_
          have p10 : 0 ≤ (x4_1 : Int) := of_decide_eq_true (by first | (with_reducible assumption) | assumption)
          have q10 : x4_1 < (a0.size : Int) := of_decide_eq_true (by first | (with_reducible assumption) | assumption)
          have hx10 := bt_at a0 x4_1
          replace p10 := eq_true p10
          replace q10 := eq_true q10
          refine start_ (n := 7) (S := fun w' => w'.cell? ⟨gb145, 0, none⟩ = some (.int .i64 x146000_1) ∧ w'.cell? ⟨gb145, 1, none⟩ = some (.int .i64 x146001_1) ∧ w'.cell? ⟨gb145, 2, none⟩ = some (.int .i64 x146002_1) ∧ w'.cell? ⟨gb145, 3, none⟩ = some (.int .i64 x146003_1) ∧ w'.cell? ⟨gb145, 4, none⟩ = some (.int .i64 x146004_1) ∧ w'.cell? ⟨gb145, 5, none⟩ = some (.int .i64 x146005_1) ∧ w'.cell? ⟨gb145, 6, none⟩ = some (.bool x146006_1) ∧ w'.cell? ⟨gb145, 7, none⟩ = some (.bool x146007_1)) (ds := [6]) #[false, false, false, false, false, false, false] (by kernel_rfl) rfl rfl ⟨(blk_cell BK145.out 0).trans rfl, (blk_cell BK145.out 1).trans rfl, (blk_cell BK145.out 2).trans rfl, (blk_cell BK145.out 3).trans rfl, (blk_cell BK145.out 4).trans rfl, (blk_cell BK145.out 5).trans rfl, (blk_cell BK145.out 6).trans rfl, (blk_cell BK145.out 7).trans rfl⟩ (fun hHeld => ?_)
          generalize wr.drew = w12 at BK136 BK145 HB hHeld ⊢
          refine pure_ (i := 1) (N := some 13) (v := ?_) (a' := ?_) #[false, true, false, false, false, false, false] rfl rfl (by kernel_rfl) (fun _ _ _ h => h) (Or.inl ⟨by rfl, ?_⟩) ?_ ?_
          rotate_left
          · intro w'
            go_simp
            with_reducible rfl
          rotate_left
          · simp only [Act.put, List.setIfInBounds_toArray, List.set_cons_zero, List.set_cons_succ, i64_w, i32_w]
            rfl
          refine pure_ (i := 2) (N := some 14) (v := ?_) (a' := ?_) #[false, true, true, false, false, false, false] rfl rfl (by kernel_rfl) (fun _ _ _ h => h) (Or.inl ⟨by rfl, ?_⟩) ?_ ?_
          rotate_left
          · intro w'
            go_simp
            with_reducible rfl
          rotate_left
          · simp only [Act.put, List.setIfInBounds_toArray, List.set_cons_zero, List.set_cons_succ, i64_w, i32_w]
            rfl
          refine take_ (i := 0) (N := some 12) (v := ?_) (a' := ?_) #[true, true, true, false, false, false, false] rfl rfl (by kernel_rfl) (fun _ _ _ h => h) (Or.inl ⟨by rfl, ?_⟩) hHeld ?_ ?_
          rotate_left
          · rintro w' ⟨s0, s1, s2, s3, s4, s5, s6, s7⟩
            go_simp
            with_reducible rfl
          rotate_left
          · simp only [Act.put, List.setIfInBounds_toArray, List.set_cons_zero, List.set_cons_succ, i64_w, i32_w]
            rfl
          refine take_ (i := 3) (N := some 15) (v := ?_) (a' := ?_) #[true, true, true, true, false, false, false] rfl rfl (by kernel_rfl) (fun _ _ _ h => h) (Or.inl ⟨by rfl, ?_⟩) hHeld ?_ ?_
          rotate_left
          · rintro w' ⟨s0, s1, s2, s3, s4, s5, s6, s7⟩
            go_simp
            with_reducible rfl
          rotate_left
          · simp only [Act.put, List.setIfInBounds_toArray, List.set_cons_zero, List.set_cons_succ, i64_w, i32_w]
            rfl
          refine pure_ (i := 4) (N := some 16) (v := ?_) (a' := ?_) #[true, true, true, true, true, false, false] rfl rfl (by kernel_rfl) (fun _ _ _ h => h) (Or.inl ⟨by rfl, ?_⟩) ?_ ?_
          rotate_left
          · intro w'
            go_simp
            with_reducible rfl
          rotate_left
          · simp only [Act.put, List.setIfInBounds_toArray, List.set_cons_zero, List.set_cons_succ, i64_w, i32_w]
            rfl
          refine one_ (i := 5) (N := some 17) #[true, true, true, true, true, true, false] rfl rfl (by kernel_rfl) (by decide) (fun K hK => ?_)
          refine goes_ Tryd.func74 (by kernel_rfl) rfl #[.agg #[.int .i64 x146000_1, .int .i64 x146001_1, .int .i64 x146002_1, .int .i64 x146003_1, .int .i64 x146004_1, .int .i64 x146005_1, .bool x146006_1, .bool x146007_1], .bool ((bt a0 x4_1) == 43)] (by rfl) rfl rfl (by (try simp only [List.map_toArray, List.map_cons, List.map_nil]); first | done | rfl | (simp only [List.length_drop, List.length_take]; rfl)) ?_
          with_reducible refine (spec_shWalk_step.calls k1 x146000_1 x146001_1 x146002_1 x146003_1 x146004_1 x146005_1 x146006_1 x146007_1 ((bt a0 x4_1) == 43) t146 t147 t148 t149 t150 t151 t152 t153 _ A11.out).mono ?_
          rintro e w13 ⟨rfl, hb⟩
          refine ⟨_, rfl, ?_⟩
          have n0_ := Aside0.mk (blk_below (g := gb136) (o := .cells #[.int .i64 0, .int .i64 0] 39 (0, 0)) (by (with_reducible repeat (first | refine blk_drewN ?_ _ | refine blk_drew ?_ | refine blk_alloc ?_ _)); exact BK136.out) hb)
          have n1_ := Aside0.mk (blk_below (g := gb145) (o := .cells #[.int .i64 x146000_1, .int .i64 x146001_1, .int .i64 x146002_1, .int .i64 x146003_1, .int .i64 x146004_1, .int .i64 x146005_1, .bool x146006_1, .bool x146007_1] 87 (0, 0)) (by (with_reducible repeat (first | refine blk_drewN ?_ _ | refine blk_drew ?_ | refine blk_alloc ?_ _)); exact BK145.out) hb)
          have n2_ := Aside0.mk (below_step (by repeat (first | (with_reducible first | exact HB.out | apply below_alloc | apply pw_below_drewN | apply below_drew1 | refine below_set ?_ GE136.out | refine below_set ?_ GE145.out) | exact HB.out)) hb)
          clear BK136
          clear BK145
          clear HB
          have BK136 := n0_
          have BK145 := n1_
          have HB := n2_
          clear n0_ n1_ n2_
          (try clear hb)
          (try clear hb2)
          (try clear hk)
          (try clear hi)
          refine hK.out _ _ ⟨(blk_cell BK145.out 0).trans rfl, (blk_cell BK145.out 1).trans rfl, (blk_cell BK145.out 2).trans rfl, (blk_cell BK145.out 3).trans rfl, (blk_cell BK145.out 4).trans rfl, (blk_cell BK145.out 5).trans rfl, (blk_cell BK145.out 6).trans rfl, (blk_cell BK145.out 7).trans rfl⟩ (fun hHeld => ?_)
          clear hK K
          refine norm_ (a' := ?_) ?_ ?_
          rotate_left
          · show Act.put _ (some 17) _ = _
            simp only [Act.put, List.setIfInBounds_toArray, List.set_cons_zero, List.set_cons_succ, i64_w, i32_w]
            rfl
          refine last_ (i := 6) (N := none) #[true, true, true, true, true, true, true] rfl rfl (by kernel_rfl) (by decide) (fun K hK => ?_)
          have hs14 : w13.cell? ⟨gb145, 0, none⟩ = some (.int .i64 x146000_1) := (blk_cell BK145.out 0).trans rfl
          have hfs14 := blk_frozen BK145.out 0
          have hns14_0 := NB136_145.out
          have hms14_0 := NB145_136.out
          have hs15 : w13.cell? ⟨gb145, 1, none⟩ = some (.int .i64 x146001_1) := (blk_cell BK145.out 1).trans rfl
          have hfs15 := blk_frozen BK145.out 1
          have hns15_0 := NB136_145.out
          have hms15_0 := NB145_136.out
          have hs16 : w13.cell? ⟨gb145, 2, none⟩ = some (.int .i64 x146002_1) := (blk_cell BK145.out 2).trans rfl
          have hfs16 := blk_frozen BK145.out 2
          have hns16_0 := NB136_145.out
          have hms16_0 := NB145_136.out
          have hs17 : w13.cell? ⟨gb145, 3, none⟩ = some (.int .i64 x146003_1) := (blk_cell BK145.out 3).trans rfl
          have hfs17 := blk_frozen BK145.out 3
          have hns17_0 := NB136_145.out
          have hms17_0 := NB145_136.out
          have hs18 : w13.cell? ⟨gb145, 4, none⟩ = some (.int .i64 x146004_1) := (blk_cell BK145.out 4).trans rfl
          have hfs18 := blk_frozen BK145.out 4
          have hns18_0 := NB136_145.out
          have hms18_0 := NB145_136.out
          have hs19 : w13.cell? ⟨gb145, 5, none⟩ = some (.int .i64 x146005_1) := (blk_cell BK145.out 5).trans rfl
          have hfs19 := blk_frozen BK145.out 5
          have hns19_0 := NB136_145.out
          have hms19_0 := NB145_136.out
          have hs20 : w13.cell? ⟨gb145, 6, none⟩ = some (.bool x146006_1) := (blk_cell BK145.out 6).trans rfl
          have hfs20 := blk_frozen BK145.out 6
          have hns20_0 := NB136_145.out
          have hms20_0 := NB145_136.out
          have hs21 : w13.cell? ⟨gb145, 7, none⟩ = some (.bool x146007_1) := (blk_cell BK145.out 7).trans rfl
          have hfs21 := blk_frozen BK145.out 7
          have hns21_0 := NB136_145.out
          have hms21_0 := NB145_136.out
          refine skip_ (w1 := ?_) (by rfl) rfl ?_ ?_
          rotate_left
          · go_simp
            rfl
          refine hK.out _ _ ?_
          clear hK K
          refine done_ (by kernel_rfl) ?_
          try go_wp2
          go_roundg k1
          case measure => have := HK1.out; omega
          case rel => exact ⟨(wrap64 (x4_1 + 1)), (t146), (t147), (t148), (t149), (t150), (t151), (t152), (t153), (by first | rfl | (simp; done) | (simp [*]; done)), H', ⟨by have := HK1.out; omega⟩, ⟨by (with_reducible repeat (first | refine blk_drewN ?_ _ | refine blk_drew ?_ | refine blk_alloc ?_ _)); refine blk_far ?_ NB136_145.out _; (with_reducible repeat (first | refine blk_drewN ?_ _ | refine blk_drew ?_ | refine blk_alloc ?_ _)); refine blk_far ?_ NB136_145.out _; (with_reducible repeat (first | refine blk_drewN ?_ _ | refine blk_drew ?_ | refine blk_alloc ?_ _)); refine blk_far ?_ NB136_145.out _; (with_reducible repeat (first | refine blk_drewN ?_ _ | refine blk_drew ?_ | refine blk_alloc ?_ _)); refine blk_far ?_ NB136_145.out _; (with_reducible repeat (first | refine blk_drewN ?_ _ | refine blk_drew ?_ | refine blk_alloc ?_ _)); refine blk_far ?_ NB136_145.out _; (with_reducible repeat (first | refine blk_drewN ?_ _ | refine blk_drew ?_ | refine blk_alloc ?_ _)); refine blk_far ?_ NB136_145.out _; (with_reducible repeat (first | refine blk_drewN ?_ _ | refine blk_drew ?_ | refine blk_alloc ?_ _)); refine blk_far ?_ NB136_145.out _; (with_reducible repeat (first | refine blk_drewN ?_ _ | refine blk_drew ?_ | refine blk_alloc ?_ _)); refine blk_far ?_ NB136_145.out _; (with_reducible repeat (first | refine blk_drewN ?_ _ | refine blk_drew ?_ | refine blk_alloc ?_ _)); exact BK136.out⟩, ⟨by (with_reducible repeat (first | refine blk_drewN ?_ _ | refine blk_drew ?_ | refine blk_alloc ?_ _)); refine blk_put (cs := #[.int .i64 t146, .int .i64 t147, .int .i64 t148, .int .i64 t149, .int .i64 t150, .int .i64 t151, .bool t152, .bool x146007_1]) ?_ 7 _ rfl; (with_reducible repeat (first | refine blk_drewN ?_ _ | refine blk_drew ?_ | refine blk_alloc ?_ _)); refine blk_put (cs := #[.int .i64 t146, .int .i64 t147, .int .i64 t148, .int .i64 t149, .int .i64 t150, .int .i64 t151, .bool x146006_1, .bool x146007_1]) ?_ 6 _ rfl; (with_reducible repeat (first | refine blk_drewN ?_ _ | refine blk_drew ?_ | refine blk_alloc ?_ _)); refine blk_put (cs := #[.int .i64 t146, .int .i64 t147, .int .i64 t148, .int .i64 t149, .int .i64 t150, .int .i64 x146005_1, .bool x146006_1, .bool x146007_1]) ?_ 5 _ rfl; (with_reducible repeat (first | refine blk_drewN ?_ _ | refine blk_drew ?_ | refine blk_alloc ?_ _)); refine blk_put (cs := #[.int .i64 t146, .int .i64 t147, .int .i64 t148, .int .i64 t149, .int .i64 x146004_1, .int .i64 x146005_1, .bool x146006_1, .bool x146007_1]) ?_ 4 _ rfl; (with_reducible repeat (first | refine blk_drewN ?_ _ | refine blk_drew ?_ | refine blk_alloc ?_ _)); refine blk_put (cs := #[.int .i64 t146, .int .i64 t147, .int .i64 t148, .int .i64 x146003_1, .int .i64 x146004_1, .int .i64 x146005_1, .bool x146006_1, .bool x146007_1]) ?_ 3 _ rfl; (with_reducible repeat (first | refine blk_drewN ?_ _ | refine blk_drew ?_ | refine blk_alloc ?_ _)); refine blk_put (cs := #[.int .i64 t146, .int .i64 t147, .int .i64 x146002_1, .int .i64 x146003_1, .int .i64 x146004_1, .int .i64 x146005_1, .bool x146006_1, .bool x146007_1]) ?_ 2 _ rfl; (with_reducible repeat (first | refine blk_drewN ?_ _ | refine blk_drew ?_ | refine blk_alloc ?_ _)); refine blk_put (cs := #[.int .i64 t146, .int .i64 x146001_1, .int .i64 x146002_1, .int .i64 x146003_1, .int .i64 x146004_1, .int .i64 x146005_1, .bool x146006_1, .bool x146007_1]) ?_ 1 _ rfl; (with_reducible repeat (first | refine blk_drewN ?_ _ | refine blk_drew ?_ | refine blk_alloc ?_ _)); refine blk_put (cs := #[.int .i64 x146000_1, .int .i64 x146001_1, .int .i64 x146002_1, .int .i64 x146003_1, .int .i64 x146004_1, .int .i64 x146005_1, .bool x146006_1, .bool x146007_1]) ?_ 0 _ rfl; (with_reducible repeat (first | refine blk_drewN ?_ _ | refine blk_drew ?_ | refine blk_alloc ?_ _)); exact BK145.out⟩, ⟨by repeat (first | (with_reducible first | exact HB.out | apply below_alloc | apply pw_below_drewN | apply below_drew1 | refine below_set ?_ GE136.out | refine below_set ?_ GE145.out) | exact HB.out)⟩⟩
        · rw [if_neg c9] at H
          exact absurd H (by simp)
      · rw [if_neg c8] at H
        have c8b0 : decide (x4_1 < (a0.size : Int)) = false := decide_eq_false c8
        clear c8
        simp only [Option.some.injEq, Prod.mk.injEq] at H
        obtain ⟨rfl, rfl⟩ := H
        have hnb22 := NB145_136.out
        have hnc22 := NB136_145.out
        have hcz23_0 : wr.cell? ⟨gb145, 0, none⟩ = some (.int .i64 x146000_1) := (blk_cell BK145.out 0).trans rfl
        have hcz23_1 : wr.cell? ⟨gb145, 1, none⟩ = some (.int .i64 x146001_1) := (blk_cell BK145.out 1).trans rfl
        have hcz23_2 : wr.cell? ⟨gb145, 2, none⟩ = some (.int .i64 x146002_1) := (blk_cell BK145.out 2).trans rfl
        have hcz23_3 : wr.cell? ⟨gb145, 3, none⟩ = some (.int .i64 x146003_1) := (blk_cell BK145.out 3).trans rfl
        have hcz23_4 : wr.cell? ⟨gb145, 4, none⟩ = some (.int .i64 x146004_1) := (blk_cell BK145.out 4).trans rfl
        have hcz23_5 : wr.cell? ⟨gb145, 5, none⟩ = some (.int .i64 x146005_1) := (blk_cell BK145.out 5).trans rfl
        have hcz23_6 : wr.cell? ⟨gb145, 6, none⟩ = some (.bool x146006_1) := (blk_cell BK145.out 6).trans rfl
        have hcz23_7 : wr.cell? ⟨gb145, 7, none⟩ = some (.bool x146007_1) := (blk_cell BK145.out 7).trans rfl
        have hfz23_0 := blk_frozen BK145.out 0
        have hfz23_1 := blk_frozen BK145.out 1
        have hfz23_2 := blk_frozen BK145.out 2
        have hfz23_3 := blk_frozen BK145.out 3
        have hfz23_4 := blk_frozen BK145.out 4
        have hfz23_5 := blk_frozen BK145.out 5
        have hfz23_6 := blk_frozen BK145.out 6
        have hfz23_7 := blk_frozen BK145.out 7
        have hcz24_0 : wr.cell? ⟨gb136, 0, none⟩ = some (.int .i64 0) := (blk_cell BK136.out 0).trans rfl
        have hcz24_1 : wr.cell? ⟨gb136, 1, none⟩ = some (.int .i64 0) := (blk_cell BK136.out 1).trans rfl
        have hfz24_0 := blk_frozen BK136.out 0
        have hfz24_1 := blk_frozen BK136.out 1
        go_wp2
        refine bodyPost_ret (results_cell_row rfl _ _ gb136 39 #[.int .i64 x146000_1, .int .i64 x146001_1] (0, 0) _ rfl (by (with_reducible repeat (first | refine blk_drewN ?_ _ | refine blk_drew ?_ | refine blk_alloc ?_ _)); refine blk_put (cs := #[.int .i64 x146000_1, .int .i64 0]) ?_ 1 _ rfl; (with_reducible repeat (first | refine blk_drewN ?_ _ | refine blk_drew ?_ | refine blk_alloc ?_ _)); refine blk_put (cs := #[.int .i64 0, .int .i64 0]) ?_ 0 _ rfl; (with_reducible repeat (first | refine blk_drewN ?_ _ | refine blk_drew ?_ | refine blk_alloc ?_ _)); exact BK136.out) Tryd.underlying39 rfl (by kernel_rfl)) rfl ?_
        exact ⟨by first | rfl | (simp [errW_none, errW_some] <;> rfl) | (simp [*, errW_none, errW_some] <;> rfl), by repeat (first | (with_reducible first | exact HB.out | apply below_alloc | apply pw_below_drewN | apply below_drew1 | refine below_set ?_ GE136.out | refine below_set ?_ GE145.out) | exact HB.out)⟩

/-! ### spec_FromWord: function 26 -/
def spec_FromWord.f (k : Nat) (a0 : ByteArray) : Option (Int × Int × Bool) := (spec_shIsWord.f k a0).bind fun t155 => (if t155 = true then ((spec_shValue.f k a0).bind fun bt156 => (some (bt156.1, bt156.2, true))) else (some (0, 0, false)))
theorem spec_FromWord.mono : ∀ a0 k, LeO (spec_FromWord.f k a0) (spec_FromWord.f (k + 1) a0) := by
  intro a0 k
  unfold spec_FromWord.f
  repeat' first
      | (with_reducible exact spec_shIsWord.mono _ _)
      | (with_reducible exact spec_shValue.mono _ _)
      | (with_reducible exact LeO.refl _)
      | (with_reducible exact LeO.none _)
      | (with_reducible refine LeO.ite ?_ ?_)
      | (with_reducible refine LeO.bind ?_ (fun _ => ?_))
      | exact spec_shIsWord.mono _ _
      | exact spec_shValue.mono _ _
      | exact LeO.none _
      | refine LeO.ite ?_ ?_
      | refine LeO.bind ?_ (fun _ => ?_)
set_option maxHeartbeats 8000000 in
set_option maxRecDepth 100000 in
theorem spec_FromWord.calls (k : Nat) (a0 : ByteArray) (r1 : Int) (r2 : Int) (r3 : Bool) (w : World) (h : spec_FromWord.f k a0 = some (r1, r2, r3)) :
    Calls Tryd.prog 26 #[.string a0] w fun e w' => e = .returned (.tuple #[.agg #[.int .i64 r1, .int .i64 r2], .bool r3]) ∧ Below w.heap.size w w' := by
  have hu39 := Tryd.underlying39
  have HB := Aside0.mk (Below.refl w.heap.size w)
  have H : ((spec_shIsWord.f k a0).bind fun t155 => (if t155 = true then ((spec_shValue.f k a0).bind fun bt156 => (some (bt156.1, bt156.2, true))) else (some (0, 0, false)))) = some (r1, r2, r3) := h
  clear h
  replace H := Option.bind_eq_some_iff.mp H
  obtain ⟨t155, A20, H⟩ := H
  replace H : (if t155 = true then ((spec_shValue.f k a0).bind fun bt156 => (some (bt156.1, bt156.2, true))) else (some (0, 0, false))) = some (r1, r2, r3) := H
  have A2 := Aside0.mk A20
  clear A20
  by_cases c3 : t155 = true
  · subst c3
    have H1 : ((spec_shValue.f k a0).bind fun bt156 => (some (bt156.1, bt156.2, true))) = some (r1, r2, r3) := by rw [if_pos rfl] at H; exact H
    clear H
    have H := H1
    clear H1
    replace H := Option.bind_eq_some_iff.mp H
    obtain ⟨⟨t156, t157⟩, A40, H⟩ := H
    replace H : (some (t156, t157, true)) = some (r1, r2, r3) := H
    have A4 := Aside0.mk A40
    clear A40
    simp only [Option.some.injEq, Prod.mk.injEq] at H
    obtain ⟨rfl, rfl, rfl⟩ := H
    go_enter Tryd.func26, Tryd.ntmps26
    go_wp2_with (first | ((with_reducible refine gate_dst (N := 2) rfl ?_); refine box_event ?hg (N := 2) ?hd (cs := #[.int .i64 0, .int .i64 0]) (t := 39) ?hr ?_; (case hd => rfl); (case hg => rfl); (case hr => first | (go_simp; done) | (go_simp; rfl)); intro gb154 hg w5 hbox hb; have n0_ := Aside0.mk (below_step (by repeat (first | (with_reducible first | exact HB.out | apply below_alloc | apply pw_below_drewN | apply below_drew1) | exact HB.out)) hb); have n1_ := Aside0.mk (hbox); have n2_ := Aside0.mk ((by rw [hg]; exact (below_size (by repeat (first | (with_reducible first | exact HB.out | apply below_alloc | apply pw_below_drewN | apply below_drew1) | exact HB.out))) : w.heap.size ≤ gb154)); have n3_ := Aside0.mk ((by rw [hg]; exact (below_size (by repeat (first | (with_reducible first | exact HB.out | apply below_alloc | apply pw_below_drewN | apply below_drew1) | exact HB.out))) : w.heap.size ≤ gb154)); clear HB; have HB := n0_; have BK154 := n1_; have GW154 := n2_; have GE154 := n3_; clear n0_ n1_ n2_ n3_; clear hb hbox hg) | ((with_reducible refine gate_callee (f := 49) rfl ?_); refine goesL_ (some 5) rfl rfl Tryd.func49 (by kernel_rfl) rfl #[.string a0] rfl (by (try simp only [List.map_toArray, List.map_cons, List.map_nil]); first | done | rfl | (simp only [List.length_drop, List.length_take]; rfl)) ?_; (with_reducible refine (spec_shIsWord.calls k a0 true _ A2.out).mono ?_); rintro e w' ⟨rfl, ⟨nd, rfl⟩⟩; refine ⟨_, rfl, ?_⟩; (try (rw [drewN_self w5]; generalize hq_ : World.drewN w5 _ = w5; have n0_ : Aside0 (w5.heap[gb154]? = some (.cells #[.int .i64 0, .int .i64 0] 39 (0, 0))) := ⟨by rw [← hq_]; exact (by (with_reducible repeat (first | refine blk_drewN ?_ _ | refine blk_drew ?_ | refine blk_alloc ?_ _)); exact BK154.out)⟩; have n1_ : Aside0 (Below w.heap.size w w5) := ⟨by rw [← hq_]; exact (by repeat (first | (with_reducible first | exact HB.out | apply below_alloc | apply pw_below_drewN | apply below_drew1 | refine below_set ?_ GE154.out) | exact HB.out))⟩; clear BK154 HB hq_; have BK154 := n0_; have HB := n1_; clear n0_ n1_))) | ((with_reducible refine gate_callee (f := 52) rfl ?_); refine goesL_ (some 9) rfl rfl Tryd.func52 (by kernel_rfl) rfl #[.string a0] rfl (by (try simp only [List.map_toArray, List.map_cons, List.map_nil]); first | done | rfl | (simp only [List.length_drop, List.length_take]; rfl)) ?_; (with_reducible refine (spec_shValue.calls k a0 t156 t157 _ A4.out).mono ?_); rintro e w6 ⟨rfl, hb⟩; refine ⟨_, rfl, ?_⟩; have n0_ := Aside0.mk (blk_below (g := gb154) (o := .cells #[.int .i64 0, .int .i64 0] 39 (0, 0)) (by (with_reducible repeat (first | refine blk_drewN ?_ _ | refine blk_drew ?_ | refine blk_alloc ?_ _)); exact BK154.out) hb); have n1_ := Aside0.mk (below_step (by repeat (first | (with_reducible first | exact HB.out | apply below_alloc | apply pw_below_drewN | apply below_drew1 | refine below_set ?_ GE154.out) | exact HB.out)) hb); clear BK154; clear HB; have BK154 := n0_; have HB := n1_; clear n0_ n1_; (try clear hb); (try clear hb2); (try clear hk); (try clear hi); have hcz7_0 : w6.cell? ⟨gb154, 0, none⟩ = some (.int .i64 0) := (blk_cell BK154.out 0).trans rfl; have hcz7_1 : w6.cell? ⟨gb154, 1, none⟩ = some (.int .i64 0) := (blk_cell BK154.out 1).trans rfl; have hfz7_0 := blk_frozen BK154.out 0; have hfz7_1 := blk_frozen BK154.out 1))
    refine bodyPost_ret (results_ct rfl _ _ gb154 39 #[.int .i64 t156, .int .i64 t157] (0, 0) _ rfl (by (with_reducible repeat (first | refine blk_drewN ?_ _ | refine blk_drew ?_ | refine blk_alloc ?_ _)); refine blk_put (cs := #[.int .i64 t156, .int .i64 0]) ?_ 1 _ rfl; (with_reducible repeat (first | refine blk_drewN ?_ _ | refine blk_drew ?_ | refine blk_alloc ?_ _)); refine blk_put (cs := #[.int .i64 0, .int .i64 0]) ?_ 0 _ rfl; (with_reducible repeat (first | refine blk_drewN ?_ _ | refine blk_drew ?_ | refine blk_alloc ?_ _)); exact BK154.out) Tryd.underlying39 rfl (by kernel_rfl)) rfl ?_
    exact ⟨by first | rfl | (simp [errW_none, errW_some] <;> rfl) | (simp [*, errW_none, errW_some] <;> rfl), by repeat (first | (with_reducible first | exact HB.out | apply below_alloc | apply pw_below_drewN | apply below_drew1 | refine below_set ?_ GE154.out) | exact HB.out)⟩
  · replace c3 := Bool.eq_false_iff.mpr c3
    subst c3
    have H1 : (some (0, 0, false)) = some (r1, r2, r3) := by rw [if_neg (show ¬ (false = true) by decide)] at H; exact H
    clear H
    have H := H1
    clear H1
    simp only [Option.some.injEq, Prod.mk.injEq] at H
    obtain ⟨rfl, rfl, rfl⟩ := H
    go_enter Tryd.func26, Tryd.ntmps26
    go_wp2_with (first | ((with_reducible refine gate_dst (N := 2) rfl ?_); refine box_event ?hg (N := 2) ?hd (cs := #[.int .i64 0, .int .i64 0]) (t := 39) ?hr ?_; (case hd => rfl); (case hg => rfl); (case hr => first | (go_simp; done) | (go_simp; rfl)); intro gb154 hg w8 hbox hb; have n0_ := Aside0.mk (below_step (by repeat (first | (with_reducible first | exact HB.out | apply below_alloc | apply pw_below_drewN | apply below_drew1) | exact HB.out)) hb); have n1_ := Aside0.mk (hbox); have n2_ := Aside0.mk ((by rw [hg]; exact (below_size (by repeat (first | (with_reducible first | exact HB.out | apply below_alloc | apply pw_below_drewN | apply below_drew1) | exact HB.out))) : w.heap.size ≤ gb154)); have n3_ := Aside0.mk ((by rw [hg]; exact (below_size (by repeat (first | (with_reducible first | exact HB.out | apply below_alloc | apply pw_below_drewN | apply below_drew1) | exact HB.out))) : w.heap.size ≤ gb154)); clear HB; have HB := n0_; have BK154 := n1_; have GW154 := n2_; have GE154 := n3_; clear n0_ n1_ n2_ n3_; clear hb hbox hg) | ((with_reducible refine gate_callee (f := 49) rfl ?_); refine goesL_ (some 5) rfl rfl Tryd.func49 (by kernel_rfl) rfl #[.string a0] rfl (by (try simp only [List.map_toArray, List.map_cons, List.map_nil]); first | done | rfl | (simp only [List.length_drop, List.length_take]; rfl)) ?_; (with_reducible refine (spec_shIsWord.calls k a0 false _ A2.out).mono ?_); rintro e w' ⟨rfl, ⟨nd, rfl⟩⟩; refine ⟨_, rfl, ?_⟩; (try (rw [drewN_self w8]; generalize hq_ : World.drewN w8 _ = w8; have n0_ : Aside0 (w8.heap[gb154]? = some (.cells #[.int .i64 0, .int .i64 0] 39 (0, 0))) := ⟨by rw [← hq_]; exact (by (with_reducible repeat (first | refine blk_drewN ?_ _ | refine blk_drew ?_ | refine blk_alloc ?_ _)); exact BK154.out)⟩; have n1_ : Aside0 (Below w.heap.size w w8) := ⟨by rw [← hq_]; exact (by repeat (first | (with_reducible first | exact HB.out | apply below_alloc | apply pw_below_drewN | apply below_drew1 | refine below_set ?_ GE154.out) | exact HB.out))⟩; clear BK154 HB hq_; have BK154 := n0_; have HB := n1_; clear n0_ n1_)); have hcz9_0 : w8.cell? ⟨gb154, 0, none⟩ = some (.int .i64 0) := (blk_cell BK154.out 0).trans rfl; have hcz9_1 : w8.cell? ⟨gb154, 1, none⟩ = some (.int .i64 0) := (blk_cell BK154.out 1).trans rfl; have hfz9_0 := blk_frozen BK154.out 0; have hfz9_1 := blk_frozen BK154.out 1))
    refine bodyPost_ret (results_ct rfl _ _ gb154 39 #[.int .i64 0, .int .i64 0] (0, 0) _ rfl (by (with_reducible repeat (first | refine blk_drewN ?_ _ | refine blk_drew ?_ | refine blk_alloc ?_ _)); refine blk_put (cs := #[.int .i64 0, .int .i64 0]) ?_ 1 _ rfl; (with_reducible repeat (first | refine blk_drewN ?_ _ | refine blk_drew ?_ | refine blk_alloc ?_ _)); refine blk_put (cs := #[.int .i64 0, .int .i64 0]) ?_ 0 _ rfl; (with_reducible repeat (first | refine blk_drewN ?_ _ | refine blk_drew ?_ | refine blk_alloc ?_ _)); exact BK154.out) Tryd.underlying39 rfl (by kernel_rfl)) rfl ?_
    exact ⟨by first | rfl | (simp [errW_none, errW_some] <;> rfl) | (simp [*, errW_none, errW_some] <;> rfl), by repeat (first | (with_reducible first | exact HB.out | apply below_alloc | apply pw_below_drewN | apply below_drew1 | refine below_set ?_ GE154.out) | exact HB.out)⟩

-- NOT PRINTED: function 95 (strings_trimLeftByte)

-- NOT PRINTED: function 96 (strings_trimRightByte)

-- NOT PRINTED: function 97 (strings_makeASCIISet)

-- NOT PRINTED: function 123 (strings_asciiSet_contains)

-- NOT PRINTED: function 98 (strings_trimLeftASCII)

-- NOT PRINTED: function 99 (strings_trimRightASCII)

-- NOT PRINTED: function 134 (utf8_decodeRuneInStringSlow)

-- NOT PRINTED: function 113 (utf8_DecodeRuneInString)

-- NOT PRINTED: function 116 (bytealg_IndexString)

-- NOT PRINTED: function 117 (bytealg_Cutover)

-- NOT PRINTED: function 135 (bytealg_IndexByteString)

-- NOT PRINTED: function 115 (stringslite_IndexByte)

-- NOT PRINTED: function 146 (strings_IndexByte)

-- NOT PRINTED: function 147 (utf8_ValidRune)

-- NOT PRINTED: function 139 (strings_IndexRune)

-- NOT PRINTED: function 124 (strings_ContainsRune)

-- NOT PRINTED: function 100 (strings_trimLeftUnicode)

-- NOT PRINTED: function 140 (utf8_RuneStart)

-- NOT PRINTED: function 125 (utf8_DecodeLastRuneInString)

-- NOT PRINTED: function 101 (strings_trimRightUnicode)

-- NOT PRINTED: function 72 (strings_Trim)

/-! ### impl_isShortWord: function 51 -/
/-! #### impl.isShortWord by the shelf's contract for strings.Trim -/
def sw.isW (b : UInt8) : Bool := b == 43 || b == 45
theorem sw.dw (p : UInt8 → Bool) : ∀ l : List UInt8, l.dropWhile p = [] ↔ ∀ x ∈ l, p x = true
  | [] => by simp
  | a :: l => by
    rw [List.dropWhile_cons]
    cases h : p a with
    | false => simp [h]
    | true => simp [h, sw.dw p l]
theorem sw.trim (l : List UInt8) : (Lib.trimS l [43, 45] = []) ↔ l.all sw.isW = true := by
  have e : ∀ b : UInt8, ([43, 45] : List UInt8).contains b = sw.isW b := fun b => by
    rw [List.contains_cons, List.contains_cons, List.contains_nil, Bool.or_false]
    rfl
  unfold Lib.trimS Lib.trimLeftS Lib.trimRightS
  simp only [e]
  rw [sw.dw, List.all_eq_true]
  constructor
  · intro h x hx
    by_cases c : x ∈ (l.reverse.dropWhile (sw.isW ·)).reverse
    · exact h x c
    · have hx' : x ∈ l.reverse := List.mem_reverse.2 hx
      rw [← List.takeWhile_append_dropWhile (p := (sw.isW ·)) (l := l.reverse), List.mem_append] at hx'
      rcases hx' with a | a
      · exact (List.all_eq_true.1 (List.all_takeWhile (p := (sw.isW ·)) (l := l.reverse))) x a
      · exact absurd (List.mem_reverse.2 a) c
  · intro h x hx
    have := List.mem_reverse.1 hx
    exact h x (List.mem_reverse.1 ((List.dropWhile_sublist _).mem this))
set_option maxHeartbeats 1000000 in
set_option maxRecDepth 100000 in
theorem sw.walk (s : ByteArray) (w : World) :
    Calls Tryd.prog 51 #[.string s] w fun e w' => e = .returned (.bool (decide (s.size ≤ 20) && s.data.toList.all sw.isW)) ∧ Below w.heap.size w w' := by
  by_cases h : s.size ≤ 20
  · have hcon := Any.strings_Trim_laid Tryd.lays160 (by kernel_rfl) s ⟨#[43, 45]⟩ w (by omega) (by decide) (ascii_of_all (by decide))
    change Calls Tryd.prog 72 _ _ (fun e w' => e = .returned (.string ⟨(Lib.trimS s.data.toList [43, 45]).toArray⟩) ∧ Below w.heap.size w w') at hcon
    have c1 : decide ((s.size : Int) ≤ 20) = true := decide_eq_true (by omega)
    have hz : (Lib.trimS s.data.toList [43, 45] = []) = (s.data.toList.all sw.isW = true) := propext (sw.trim s.data.toList)
    have hb : (⟨(Lib.trimS s.data.toList [43, 45]).toArray⟩ : ByteArray).toList.isEmpty = s.data.toList.all sw.isW := by
      rw [Bool.eq_iff_iff, ← hz, Lib.toList_data, List.isEmpty_iff]
    have hb2 : ((⟨(Lib.trimS s.data.toList [43, 45]).toArray⟩ : ByteArray).toList = []) = (s.data.toList.all sw.isW = true) := by
      rw [← hz, Lib.toList_data]
    rw [show decide (s.size ≤ 20) = true from decide_eq_true h, Bool.true_and]
    generalize (⟨(Lib.trimS s.data.toList [43, 45]).toArray⟩ : ByteArray) = r at hcon hb hb2 ⊢
    go_enter Tryd.func51, Tryd.ntmps51
    go_wp2_with (go_at_call 72; refine hcon.mono ?_; rintro e w' ⟨rfl, hB⟩)
    go_ret
    exact ⟨by first | rfl | simp [hb] | simp [hb2], hB⟩
  · have c1 : decide ((s.size : Int) ≤ 20) = false := decide_eq_false (by omega)
    rw [show decide (s.size ≤ 20) = false from decide_eq_false h, Bool.false_and]
    go_enter Tryd.func51, Tryd.ntmps51
    go_wp2
    go_ret
    exact ⟨rfl, Below.refl _ _⟩
def impl_isShortWord.f (s0 : ByteArray) : Option (Bool) := some (decide (s0.size ≤ 20) && s0.data.toList.all sw.isW)
theorem impl_isShortWord.calls (a0 : ByteArray) (r : Bool) (w : World) (h : impl_isShortWord.f a0 = some r) :
    Calls Tryd.prog 51 #[.string a0] w fun e w' => e = .returned (.bool r) ∧ Below w.heap.size w w' := by
  obtain rfl := Option.some.inj h
  exact sw.walk _ w

/-! ### impl_between: function 127 -/
def impl_between.f (a0 : Int) (a1 : Int) (l2 : List Int) (l3 : List Int) : Option (Int) := if a1 > 0 then (if (l3.length : Int) = 0 then (some (wrap64 (a0 + (wrap64 (a1 * 1048576))))) else (if 0 ≤ (wrap64 ((l3.length : Int) - 1)) then (if (wrap64 ((l3.length : Int) - 1)) < (l3.length : Int) then (some (wrap64 (Int.tdiv (wrap64 (a0 + (rd l3 (wrap64 ((l3.length : Int) - 1))))) 2))) else (none)) else (none))) else (if (l2.length : Int) = 0 then (some (wrap64 (a0 + (wrap64 (a1 * 1048576))))) else (if 0 ≤ (wrap64 ((l2.length : Int) - 1)) then (if (wrap64 ((l2.length : Int) - 1)) < (l2.length : Int) then (some (wrap64 (Int.tdiv (wrap64 (a0 + (rd l2 (wrap64 ((l2.length : Int) - 1))))) 2))) else (none)) else (none)))
set_option maxHeartbeats 8000000 in
set_option maxRecDepth 100000 in
theorem impl_between.calls (a0 : Int) (a1 : Int) (A2 : Option Addr) (c2 : Nat) (l2 : List Int) (A3 : Option Addr) (c3 : Nat) (l3 : List Int) (r : Int) (w : World) (hr2 : Kd.C (Kd.int .i64) w A2 l2.length l2) (hc2 : l2.length ≤ c2) (hr3 : Kd.C (Kd.int .i64) w A3 l3.length l3) (hc3 : l3.length ≤ c3) (h : impl_between.f a0 a1 l2 l3 = some r) :
    Calls Tryd.prog 127 #[.int .i64 a0, .int .i64 a1, .slice A2 l2.length c2, .slice A3 l3.length c3] w fun e w' => e = .returned (.int .i64 r) ∧ Drawn0 w w' := by
  have HR2 := Aside0.mk hr2
  have HC2 := Aside0.mk hc2
  clear hr2 hc2
  have HR3 := Aside0.mk hr3
  have HC3 := Aside0.mk hc3
  clear hr3 hc3
  have H : (if a1 > 0 then (if (l3.length : Int) = 0 then (some (wrap64 (a0 + (wrap64 (a1 * 1048576))))) else (if 0 ≤ (wrap64 ((l3.length : Int) - 1)) then (if (wrap64 ((l3.length : Int) - 1)) < (l3.length : Int) then (some (wrap64 (Int.tdiv (wrap64 (a0 + (rd l3 (wrap64 ((l3.length : Int) - 1))))) 2))) else (none)) else (none))) else (if (l2.length : Int) = 0 then (some (wrap64 (a0 + (wrap64 (a1 * 1048576))))) else (if 0 ≤ (wrap64 ((l2.length : Int) - 1)) then (if (wrap64 ((l2.length : Int) - 1)) < (l2.length : Int) then (some (wrap64 (Int.tdiv (wrap64 (a0 + (rd l2 (wrap64 ((l2.length : Int) - 1))))) 2))) else (none)) else (none)))) = some r := h
  clear h
  by_cases c5 : a1 > 0
  · rw [if_pos c5] at H
    have c5b0 : decide (0 < a1) = true := decide_eq_true c5
    clear c5
    by_cases c6 : (l3.length : Int) = 0
    · rw [if_pos c6] at H
      have c6b0 : ((l3.length : Int) == 0) = true := beq_iff_eq.mpr c6
      have c6b1 : ((l3.length : Int) != 0) = false := bne_eq_false_iff_eq.mpr c6
      clear c6
      obtain rfl := Option.some.inj H
      go_enter Tryd.func127, Tryd.ntmps127
      go_wp2
      go_ret
      exact ⟨by first | rfl | (simp; done) | (simp [*]; done), by repeat (first | exact Drawn0.refl _ | apply Drawn0.step)⟩
    · rw [if_neg c6] at H
      have c6b0 : ((l3.length : Int) == 0) = false := beq_eq_false_iff_ne.mpr c6
      have c6b1 : ((l3.length : Int) != 0) = true := bne_iff_ne.mpr c6
      have c6b2 : ¬ (l3 = []) := fun h_ => c6 (by rw [h_]; rfl)
      obtain ⟨ji7, hji7⟩ : ∃ j_ : Int, (wrap64 ((l3.length : Int) - 1)) = j_ := ⟨_, rfl⟩
      replace H : (if 0 ≤ (ji7) then (if (ji7) < (l3.length : Int) then (some (wrap64 (Int.tdiv (wrap64 (a0 + (rd l3 (ji7)))) 2))) else (none)) else (none)) = some r := by first | (rw [hji7] at H; exact H) | (simp only [hji7] at H ⊢; exact H)
      have hji7w : (IntKind.i64.wrap ((l3.length : Int) - 1)) = ji7 := (i64_w _).trans hji7
      by_cases c8 : 0 ≤ (ji7)
      · rw [if_pos c8] at H
        have c8b0 : decide (0 ≤ (ji7)) = true := decide_eq_true c8
        clear c8
        by_cases c9 : (ji7) < (l3.length : Int)
        · rw [if_pos c9] at H
          have c9b0 : decide ((ji7) < (l3.length : Int)) = true := decide_eq_true c9
          clear c9
          obtain rfl := Option.some.inj H
          have p160 : 0 ≤ ((ji7) : Int) := of_decide_eq_true (by first | (with_reducible assumption) | assumption)
          have q160 : (ji7) < (l3.length : Int) := of_decide_eq_true (by first | (with_reducible assumption) | assumption)
          obtain ⟨ad160, e160, hx160_0⟩ := Kd.at_int HR3.out (ji7) p160 q160
          cases e160
          replace p160 := eq_true p160
          replace q160 := eq_true q160
          go_enter Tryd.func127, Tryd.ntmps127
          go_wp2
          go_ret
          exact ⟨by first | rfl | (simp; done) | (simp only [← hji7] <;> (first | rfl | simp)) | (simp [*]; done), by repeat (first | exact Drawn0.refl _ | apply Drawn0.step)⟩
        · rw [if_neg c9] at H
          exact absurd H (by simp)
      · rw [if_neg c8] at H
        exact absurd H (by simp)
  · rw [if_neg c5] at H
    have c5b0 : decide (0 < a1) = false := decide_eq_false c5
    clear c5
    by_cases c10 : (l2.length : Int) = 0
    · rw [if_pos c10] at H
      have c10b0 : ((l2.length : Int) == 0) = true := beq_iff_eq.mpr c10
      have c10b1 : ((l2.length : Int) != 0) = false := bne_eq_false_iff_eq.mpr c10
      clear c10
      obtain rfl := Option.some.inj H
      go_enter Tryd.func127, Tryd.ntmps127
      go_wp2
      go_ret
      exact ⟨by first | rfl | (simp; done) | (simp [*]; done), by repeat (first | exact Drawn0.refl _ | apply Drawn0.step)⟩
    · rw [if_neg c10] at H
      have c10b0 : ((l2.length : Int) == 0) = false := beq_eq_false_iff_ne.mpr c10
      have c10b1 : ((l2.length : Int) != 0) = true := bne_iff_ne.mpr c10
      have c10b2 : ¬ (l2 = []) := fun h_ => c10 (by rw [h_]; rfl)
      obtain ⟨ji11, hji11⟩ : ∃ j_ : Int, (wrap64 ((l2.length : Int) - 1)) = j_ := ⟨_, rfl⟩
      replace H : (if 0 ≤ (ji11) then (if (ji11) < (l2.length : Int) then (some (wrap64 (Int.tdiv (wrap64 (a0 + (rd l2 (ji11)))) 2))) else (none)) else (none)) = some r := by first | (rw [hji11] at H; exact H) | (simp only [hji11] at H ⊢; exact H)
      have hji11w : (IntKind.i64.wrap ((l2.length : Int) - 1)) = ji11 := (i64_w _).trans hji11
      by_cases c12 : 0 ≤ (ji11)
      · rw [if_pos c12] at H
        have c12b0 : decide (0 ≤ (ji11)) = true := decide_eq_true c12
        clear c12
        by_cases c13 : (ji11) < (l2.length : Int)
        · rw [if_pos c13] at H
          have c13b0 : decide ((ji11) < (l2.length : Int)) = true := decide_eq_true c13
          clear c13
          obtain rfl := Option.some.inj H
          have p161 : 0 ≤ ((ji11) : Int) := of_decide_eq_true (by first | (with_reducible assumption) | assumption)
          have q161 : (ji11) < (l2.length : Int) := of_decide_eq_true (by first | (with_reducible assumption) | assumption)
          obtain ⟨ad161, e161, hx161_0⟩ := Kd.at_int HR2.out (ji11) p161 q161
          cases e161
          replace p161 := eq_true p161
          replace q161 := eq_true q161
          go_enter Tryd.func127, Tryd.ntmps127
          go_wp2
          go_ret
          exact ⟨by first | rfl | (simp; done) | (simp only [← hji11] <;> (first | rfl | simp)) | (simp [*]; done), by repeat (first | exact Drawn0.refl _ | apply Drawn0.step)⟩
        · rw [if_neg c13] at H
          exact absurd H (by simp)
      · rw [if_neg c12] at H
        exact absurd H (by simp)

/-! ### impl_walk: function 105 -/
theorem wr_base {α : Type} {d : Kd α} {e : Nat} {w : World} {a b : Nat} {ok : Nat → Prop} {v : Value} {xs : List α} (h : a = b) (hr : Kd.R d e w a ok v xs) : Kd.R d e w b ok v xs := h ▸ hr
theorem wr_over {α : Type} {d : Kd α} {e : Nat} {w W W2 : World} {ok : Nat → Prop} {v : Value} {xs : List α} (_ : Below w.heap.size w W) (hr : Kd.R d e W w.heap.size ok v xs) {W1 : World} (h : W1.heap.size ≤ W2.heap.size ∧ ∀ k, w.heap.size ≤ k → k < W1.heap.size → W2.heap[k]? = W1.heap[k]?) (he : W1 = W := by rfl) : Kd.R d e W2 w.heap.size ok v xs := by
  subst he
  exact Kd.R_mono (Kd.R_move (Kd.R_bound hr) (fun k hk => h.2 k hk.2.1 hk.2.2.1)) (fun _ hk => hk.1)
theorem wr_end {n0 : Nat} {w_ w W : World} (h0 : n0 ≤ w_.heap.size) (h1 : w.heap.size = w_.heap.size) (h2 : Below n0 w_ w) (h3 : Below w.heap.size w W) : Below n0 w_ W := h2.trans (h3.mono (by omega))
mutual
def impl_walk.l0 (sd : Nat → Int → Int) : Nat → List Int → ByteArray → List Int → List Int → Int → Option (List Int × ByteArray × List Int × List Int)
  | 0, _, _, _, _, _ => none
  | k + 1, x2, x3, x4, x5, x6 => if x2.length < 17592186044416 then ((some (x2 ++ [x6] : List Int)).bind fun y162 => ((some (sd x2.length x6)).bind fun t165 => (if t165 = 0 then (impl_walk.j1 sd k y162 x3 x4 x5 x6 t165 true) else (impl_walk.j1 sd k y162 x3 x4 x5 x6 t165 ((x3.size : Int) == 20))))) else (none)
def impl_walk.j1 (sd : Nat → Int → Int) : Nat → List Int → ByteArray → List Int → List Int → Int → Int → Bool → Option (List Int × ByteArray × List Int × List Int)
  | 0, _, _, _, _, _, _, _ => none
  | k + 1, x2, x3, x4, x5, x6, x7, x21 => if x21 = true then (some (x2, x3, x4, x5)) else (if x7 > 0 then (if x3.size + 1 ≤ 9223372036854775807 then (if x4.length < 17592186044416 then ((some (x4 ++ [x6] : List Int)).bind fun y166 => ((impl_between.f x6 x7 y166 x5).bind fun t169 => (impl_walk.l0 sd k x2 (x3 ++ (⟨#[43]⟩ : ByteArray)) y166 x5 t169))) else (none)) else (none)) else (if x3.size + 1 ≤ 9223372036854775807 then (if x5.length < 17592186044416 then ((some (x5 ++ [x6] : List Int)).bind fun y170 => ((impl_between.f x6 x7 x4 y170).bind fun t173 => (impl_walk.l0 sd k x2 (x3 ++ (⟨#[45]⟩ : ByteArray)) x4 y170 t173))) else (none)) else (none)))
end
def impl_walk.f (k : Nat) (sd : Nat → Int → Int) : Option (List Int × ByteArray × List Int × List Int) := impl_walk.l0 sd k ([] : List Int) (⟨#[]⟩ : ByteArray) ([] : List Int) ([] : List Int) 0
theorem impl_walk.mono_l (sd : Nat → Int → Int) : ∀ k, (∀ y0 y1 y2 y3 y4, LeO (impl_walk.l0 sd k y0 y1 y2 y3 y4) (impl_walk.l0 sd (k + 1) y0 y1 y2 y3 y4)) ∧ (∀ y0 y1 y2 y3 y4 y5 y6, LeO (impl_walk.j1 sd k y0 y1 y2 y3 y4 y5 y6) (impl_walk.j1 sd (k + 1) y0 y1 y2 y3 y4 y5 y6))
  | 0 => ⟨fun _ _ _ _ _ r h => by simp [impl_walk.l0] at h, fun _ _ _ _ _ _ _ r h => by simp [impl_walk.j1] at h⟩
  | k + 1 => by
    obtain ⟨ih0, ih1⟩ := impl_walk.mono_l sd k
    refine ⟨?_, ?_⟩
    · intro y0 y1 y2 y3 y4
      unfold impl_walk.l0
      repeat' first
      | (with_reducible exact ih0 _ _ _ _ _)
      | (with_reducible exact ih1 _ _ _ _ _ _ _)
      | (with_reducible exact LeO.refl _)
      | (with_reducible exact LeO.none _)
      | (with_reducible refine LeO.ite ?_ ?_)
      | (with_reducible refine LeO.bind ?_ (fun _ => ?_))
      | exact ih0 _ _ _ _ _
      | exact ih1 _ _ _ _ _ _ _
      | exact LeO.none _
      | refine LeO.ite ?_ ?_
      | refine LeO.bind ?_ (fun _ => ?_)
    · intro y0 y1 y2 y3 y4 y5 y6
      unfold impl_walk.j1
      repeat' first
      | (with_reducible exact ih0 _ _ _ _ _)
      | (with_reducible exact ih1 _ _ _ _ _ _ _)
      | (with_reducible exact LeO.refl _)
      | (with_reducible exact LeO.none _)
      | (with_reducible refine LeO.ite ?_ ?_)
      | (with_reducible refine LeO.bind ?_ (fun _ => ?_))
      | exact ih0 _ _ _ _ _
      | exact ih1 _ _ _ _ _ _ _
      | exact LeO.none _
      | refine LeO.ite ?_ ?_
      | refine LeO.bind ?_ (fun _ => ?_)
theorem impl_walk.mono : ∀ sd k, LeO (impl_walk.f k sd) (impl_walk.f (k + 1) sd) := by
  intro sd k
  obtain ⟨ih0, ih1⟩ := impl_walk.mono_l sd k
  unfold impl_walk.f
  repeat' first
      | (with_reducible exact ih0 _ _ _ _ _)
      | (with_reducible exact ih1 _ _ _ _ _ _ _)
      | (with_reducible exact LeO.refl _)
      | (with_reducible exact LeO.none _)
      | (with_reducible refine LeO.ite ?_ ?_)
      | (with_reducible refine LeO.bind ?_ (fun _ => ?_))
      | exact ih0 _ _ _ _ _
      | exact ih1 _ _ _ _ _ _ _
      | exact LeO.none _
      | refine LeO.ite ?_ ?_
      | refine LeO.bind ?_ (fun _ => ?_)
set_option maxHeartbeats 8000000 in
set_option maxRecDepth 100000 in
theorem impl_walk.calls (k : Nat) (sd : Nat → Int → Int) (g : Nat) (lb : Array Value) (eg : ∀ args w, (callFunc g args).run Tryd.prog w = .ok (.enter g args) w) (n0 : Nat) (Inv : Nat → World → Prop) (r1 : List Int) (r2 : ByteArray) (r3 : List Int) (r4 : List Int) (w_ : World) (hn0 : n0 ≤ w_.heap.size) (hi0 : Inv 0 w_)
    (hcl : ∀ (i : Nat) (x : Int) (w W : World), w.heap.size = w_.heap.size → Inv i w → Below w.heap.size w W → Calls Tryd.prog g (#[.int .i64 x] ++ lb) W fun e W2 => e = .returned (.int .i64 (sd i x)) ∧ ∃ w2 : World, w2.heap.size = w.heap.size ∧ Inv (i + 1) w2 ∧ Below n0 w w2 ∧ Below w2.heap.size w2 W2 ∧ (W.heap.size ≤ W2.heap.size ∧ ∀ k, w.heap.size ≤ k → k < W.heap.size → W2.heap[k]? = W.heap[k]?))
    (h : impl_walk.f k sd = some (r1, r2, r3, r4)) :
    Calls Tryd.prog 105 #[.func (.func g) #[] lb] w_ fun e w' => ∃ v0_ v2_ v3_ : Value, e = .returned (.tuple #[v0_, .string r2, v2_, v3_]) ∧ Kd.R (Kd.int .i64) 3 w' w_.heap.size (fun k_ => some k_ ≠ (v2_ : Value).ownBlock ∧ some k_ ≠ (v3_ : Value).ownBlock) v0_ r1 ∧ Kd.R (Kd.int .i64) 3 w' w_.heap.size (fun k_ => some k_ ≠ (v0_ : Value).ownBlock ∧ some k_ ≠ (v3_ : Value).ownBlock) v2_ r3 ∧ Kd.R (Kd.int .i64) 3 w' w_.heap.size (fun k_ => some k_ ≠ (v0_ : Value).ownBlock ∧ some k_ ≠ (v2_ : Value).ownBlock) v3_ r4 ∧ Below n0 w_ w' := by
  have HN0 := Aside0.mk hn0
  have HI0 := Aside0.mk hi0
  have HCL := Aside0.mk hcl
  clear hn0 hi0 hcl
  have H : (impl_walk.l0 sd k ([] : List Int) (⟨#[]⟩ : ByteArray) ([] : List Int) ([] : List Int) 0) = some (r1, r2, r3, r4) := h
  clear h
  have H' := Aside0.mk H
  clear H
  go_enter Tryd.func105, Tryd.ntmps105
  go_wp2
  go_loopg [2, 3, 4, 5, 6] k (fun kq v2 v3 v4 v5 v6 w' => ∃ (w : World) (x2_1 : List Int) (x3_1 : ByteArray) (x4_1 : List Int) (x5_1 : List Int) (x6_1 : Int), v3 = .string x3_1 ∧ v6 = .int .i64 x6_1 ∧ Aside0 (impl_walk.l0 sd kq x2_1 x3_1 x4_1 x5_1 x6_1 = some (r1, r2, r3, r4)) ∧ Aside0 (kq ≤ k) ∧ Aside0 (w.heap.size = w_.heap.size) ∧ Aside0 (Inv x2_1.length w) ∧ Aside0 (Below n0 w_ w) ∧ Aside0 (Kd.R (Kd.int .i64) 3 w' w.heap.size (fun k_ => some k_ ≠ (v4 : Value).ownBlock ∧ some k_ ≠ (v5 : Value).ownBlock) v2 x2_1) ∧ Aside0 (Kd.R (Kd.int .i64) 3 w' w.heap.size (fun k_ => some k_ ≠ (v2 : Value).ownBlock ∧ some k_ ≠ (v5 : Value).ownBlock) v4 x4_1) ∧ Aside0 (Kd.R (Kd.int .i64) 3 w' w.heap.size (fun k_ => some k_ ≠ (v2 : Value).ownBlock ∧ some k_ ≠ (v4 : Value).ownBlock) v5 x5_1) ∧ Aside0 (Below w.heap.size w w'))
  case atStart => exact ⟨w_, (([] : List Int)), ((⟨#[]⟩ : ByteArray)), (([] : List Int)), (([] : List Int)), (0), (by first | rfl | (simp; done) | (simp [*]; done)), (by first | rfl | (simp; done) | (simp [*]; done)), H', ⟨Nat.le_refl _⟩, ⟨rfl⟩, ⟨HI0.out⟩, ⟨Below.refl _ _⟩, ⟨by first | exact Kd.R_nil _ _ _ _ _ | exact Kd.N_nil _ _ _ _ _ | exact Kd.V_nil _ _ _ _ _ | exact Kd.Q_nil _ _ _ _ _ | exact Kd.S_nil _ _ _ _ _⟩, ⟨by first | exact Kd.R_nil _ _ _ _ _ | exact Kd.N_nil _ _ _ _ _ | exact Kd.V_nil _ _ _ _ _ | exact Kd.Q_nil _ _ _ _ _ | exact Kd.S_nil _ _ _ _ _⟩, ⟨by first | exact Kd.R_nil _ _ _ _ _ | exact Kd.N_nil _ _ _ _ _ | exact Kd.V_nil _ _ _ _ _ | exact Kd.Q_nil _ _ _ _ _ | exact Kd.S_nil _ _ _ _ _⟩, ⟨Below.refl _ _⟩⟩
  case round =>
    clear H'
    try clear c1
    obtain ⟨w, x2_1, x3_1, x4_1, x5_1, x6_1, rfl, rfl, HA, HK1, HW1, HI1, HN1, HO_2, HO_4, HO_5, HB⟩ := hrel
    cases gk with
    | zero => exact absurd HA.out (by simp [impl_walk.l0])
    | succ k1 =>
      have H := HA.out
      clear HA
      simp only [impl_walk.l0] at H
      by_cases c2 : x2_1.length < 17592186044416
      · rw [if_pos c2] at H
        have LMc2 := Aside0.mk c2
        clear c2
        obtain ⟨y162, hy162⟩ : ∃ y_ : List Int, y_ = (x2_1 ++ [x6_1]) := ⟨_, rfl⟩
        replace H : ((some (sd x2_1.length x6_1)).bind fun t165 => (if t165 = 0 then (impl_walk.j1 sd k1 y162 x3_1 x4_1 x5_1 x6_1 t165 true) else (impl_walk.j1 sd k1 y162 x3_1 x4_1 x5_1 x6_1 t165 ((x3_1.size : Int) == 20)))) = some (r1, r2, r3, r4) := by first | (rw [hy162]; with_reducible exact H) | (have H2_ := (Option.bind_some _ _).symm.trans H; rw [hy162]; with_reducible exact H2_) | (have H2_ := (Option.bind_some _ _).symm.trans H; with_reducible exact H2_) | with_reducible exact H | (rw [hy162]; exact H) | exact H
        have Ny162 := Aside0.mk hy162
        clear hy162
        replace H := Option.bind_eq_some_iff.mp H
        obtain ⟨t165, A30, H⟩ := H
        replace H : (if t165 = 0 then (impl_walk.j1 sd k1 y162 x3_1 x4_1 x5_1 x6_1 t165 true) else (impl_walk.j1 sd k1 y162 x3_1 x4_1 x5_1 x6_1 t165 ((x3_1.size : Int) == 20))) = some (r1, r2, r3, r4) := H
        have A3e := Aside0.mk (Option.some.inj A30)
        clear A30
        have HC4 := Aside0.mk H
        clear H
        go_upto_region 4 with (first | ((with_reducible refine gate_builtin (b := .append) (xs := #[.tmp 8, .tmp 10]) rfl ?_); (try (refine gate_guard (by rfl) ?_; dsimp only)); at_builtin; refine Kd.R_append (Kd.int .i64) (w0 := w) w.heap.size rfl (.tmp 8) (.tmp 10) 90 3 (.int .i64 0) 8 rfl Tryd.underlying90 info3 rfl (by decide) (by omega) u2 x2_1 x6_1 [.int .i64 x6_1] (fun k_ => some k_ ≠ (u4 : Value).ownBlock ∧ some k_ ≠ (u5 : Value).ownBlock) (fun _ => False) rfl rfl ?aP (fun _ hk => hk.elim) ?aF ?aO ?aB ?aS ?aL ?_; (case aP => exact rfl); (case aB => exact (by repeat (first | (with_reducible first | exact HB.out | apply below_alloc | apply pw_below_drewN | apply below_drew1) | exact HB.out))); (case aF => exact (fun k_ hk => ⟨Kd.fresh' (Kd.R_lt (by (with_reducible repeat (first | apply Kd.R_alloc | apply Kd.R_drewN | apply Kd.R_drew)); exact HO_4.out)) k_ hk, Kd.fresh' (Kd.R_lt (by (with_reducible repeat (first | apply Kd.R_alloc | apply Kd.R_drewN | apply Kd.R_drew)); exact HO_5.out)) k_ hk⟩)); (case aO => exact (by (with_reducible repeat (first | apply Kd.R_alloc | apply Kd.R_drewN | apply Kd.R_drew)); exact HO_2.out)); (case aS => exact (below_size (by repeat (first | (with_reducible first | exact HB.out | apply below_alloc | apply pw_below_drewN | apply below_drew1) | exact HB.out)))); (case aL => have := LMc2.out; omega); intro v163 w5 ho hb hg hat; rw [← Ny162.out] at ho; have n0_ := Aside0.mk (Kd.R_after (ok := (fun k_ => some k_ ≠ (u5 : Value).ownBlock)) (by (with_reducible repeat (first | apply Kd.R_alloc | apply Kd.R_drewN | apply Kd.R_drew)); exact Kd.R_mono HO_4.out (fun _ hk => ⟨hk.2, hk.1⟩)) hg hat); have n1_ := Aside0.mk (Kd.R_after (ok := (fun k_ => some k_ ≠ (u4 : Value).ownBlock)) (by (with_reducible repeat (first | apply Kd.R_alloc | apply Kd.R_drewN | apply Kd.R_drew)); exact Kd.R_mono HO_5.out (fun _ hk => ⟨hk.2, hk.1⟩)) hg hat); have n2_ := Aside0.mk (hb); have n3_ := Aside0.mk (ho); clear HO_4; clear HO_5; clear HB; clear HO_2; have HO_4 := n0_; have HO_5 := n1_; have HB := n2_; have HO164 := n3_; clear n0_ n1_ n2_ n3_; clear ho hb hg hat) | (go_at_fn g; have HB_ := HB.out; refine (HCL.out x2_1.length x6_1 w _ HW1.out HI1.out (by repeat (first | exact HB.out | apply below_alloc | apply pw_below_drewN | apply below_drew1))).mono ?_; rintro e w6 ⟨rfl, wn, q1, q2, q3, q4, q6⟩; have n0_ := Aside0.mk (wr_base q1.symm (wr_over HB_ (by (with_reducible repeat (first | apply Kd.R_alloc | apply Kd.R_drewN | apply Kd.R_drew)); exact HO_4.out) q6)); have n1_ := Aside0.mk (wr_base q1.symm (wr_over HB_ (by (with_reducible repeat (first | apply Kd.R_alloc | apply Kd.R_drewN | apply Kd.R_drew)); exact HO_5.out) q6)); have n3_ := Aside0.mk (wr_base q1.symm (wr_over HB_ (by (with_reducible repeat (first | apply Kd.R_alloc | apply Kd.R_drewN | apply Kd.R_drew)); exact HO164.out) q6)); have n4_ := Aside0.mk (show Inv y162.length wn by rw [Ny162.out, List.length_append]; exact q2); have n5_ := Aside0.mk (q1.trans HW1.out); have n6_ := Aside0.mk (HN1.out.trans q3); have n2_ := Aside0.mk q4; clear HO_4 HO_5 HO164 HB HI1 HW1 HN1 HB_ q1 q2 q3 q4 q6; have HO_4 := n0_; have HO_5 := n1_; have HB := n2_; have HO164 := n3_; have HI1 := n4_; have HW1 := n5_; have HN1 := n6_; clear n0_ n1_ n2_ n3_ n4_ n5_ n6_; rw [A3e.out]))
        (try simp only [Act.put, List.setIfInBounds_toArray, List.set_cons_zero, List.set_cons_succ])
        go_cut [21] (fun v21 wc => ∃ (kq : Nat) (x21_3 : Bool), v21 = .bool x21_3 ∧ Aside0 (impl_walk.j1 sd kq y162 x3_1 x4_1 x5_1 x6_1 t165 x21_3 = some (r1, r2, r3, r4)) ∧ Aside0 (kq ≤ k1) ∧ Aside0 (Kd.R (Kd.int .i64) 3 wc wn.heap.size (fun k_ => some k_ ≠ (u4 : Value).ownBlock ∧ some k_ ≠ (u5 : Value).ownBlock) v163 y162) ∧ Aside0 (Kd.R (Kd.int .i64) 3 wc wn.heap.size (fun k_ => some k_ ≠ (v163 : Value).ownBlock ∧ some k_ ≠ (u5 : Value).ownBlock) u4 x4_1) ∧ Aside0 (Kd.R (Kd.int .i64) 3 wc wn.heap.size (fun k_ => some k_ ≠ (v163 : Value).ownBlock ∧ some k_ ≠ (u4 : Value).ownBlock) u5 x5_1) ∧ Aside0 (Below wn.heap.size wn wc))
        case first =>
          have H := HC4.out
          clear HC4
          by_cases c6 : t165 = 0
          · rw [if_pos c6] at H
            have c6b0 : (t165 == 0) = true := beq_iff_eq.mpr c6
            have c6b1 : (t165 != 0) = false := bne_eq_false_iff_eq.mpr c6
            clear c6
            (first | rw [c6b0] | (simp only [i64_w, i32_w]; rw [c6b0]) | skip)
            have H' := Aside0.mk H
            clear H
            go_wp2
            go_meet
            case rel => exact ⟨_, (true), (by first | rfl | (simp; done) | (simp [*]; done)), H', ⟨by have := HK1.out; first | omega | exact Nat.le_refl _⟩, ⟨by (with_reducible repeat (first | apply Kd.R_alloc | apply Kd.R_drewN | apply Kd.R_drew)); exact HO164.out⟩, ⟨by (with_reducible repeat (first | apply Kd.R_alloc | apply Kd.R_drewN | apply Kd.R_drew)); exact Kd.R_mono HO_4.out (fun _ hk => ⟨hk.2, hk.1⟩)⟩, ⟨by (with_reducible repeat (first | apply Kd.R_alloc | apply Kd.R_drewN | apply Kd.R_drew)); exact Kd.R_mono HO_5.out (fun _ hk => ⟨hk.2, hk.1⟩)⟩, ⟨by repeat (first | (with_reducible first | exact HB.out | apply below_alloc | apply pw_below_drewN | apply below_drew1) | exact HB.out)⟩⟩
          · rw [if_neg c6] at H
            have c6b0 : (t165 == 0) = false := beq_eq_false_iff_ne.mpr c6
            have c6b1 : (t165 != 0) = true := bne_iff_ne.mpr c6
            (first | rw [c6b0] | (simp only [i64_w, i32_w]; rw [c6b0]) | skip)
            have H' := Aside0.mk H
            clear H
            go_wp2
            go_meet
            case rel => exact ⟨_, (((x3_1.size : Int) == 20)), (by first | rfl | (simp; done) | (simp [*]; done)), H', ⟨by have := HK1.out; first | omega | exact Nat.le_refl _⟩, ⟨by (with_reducible repeat (first | apply Kd.R_alloc | apply Kd.R_drewN | apply Kd.R_drew)); exact HO164.out⟩, ⟨by (with_reducible repeat (first | apply Kd.R_alloc | apply Kd.R_drewN | apply Kd.R_drew)); exact Kd.R_mono HO_4.out (fun _ hk => ⟨hk.2, hk.1⟩)⟩, ⟨by (with_reducible repeat (first | apply Kd.R_alloc | apply Kd.R_drewN | apply Kd.R_drew)); exact Kd.R_mono HO_5.out (fun _ hk => ⟨hk.2, hk.1⟩)⟩, ⟨by repeat (first | (with_reducible first | exact HB.out | apply below_alloc | apply pw_below_drewN | apply below_drew1) | exact HB.out)⟩⟩
        case rest =>
          clear HC4
          try clear c1
          try clear c2
          try clear p2
          try clear c6
          try clear c6b0
          try clear c6b1
          obtain ⟨kq, x21_3, rfl, HA, HJ3, HO_2, HO_4, HO_5, HB⟩ := hcut
          cases kq with
          | zero => exact absurd HA.out (by simp [impl_walk.j1])
          | succ kj3 =>
            have H := HA.out
            clear HA
            simp only [impl_walk.j1] at H
            by_cases c7 : x21_3 = true
            · subst c7
              have H1 : (some (y162, x3_1, x4_1, x5_1)) = some (r1, r2, r3, r4) := by rw [if_pos rfl] at H; exact H
              clear H
              have H := H1
              clear H1
              simp only [Option.some.injEq, Prod.mk.injEq] at H
              obtain ⟨rfl, rfl, rfl, rfl⟩ := H
              go_wp2
              refine bodyPost_ret (results_list (rs := [.tmp 2, .tmp 3, .tmp 4, .tmp 5]) rfl (by simp) (.tmp (.tmp (.tmp (.tmp .nil))))) rfl ?_
              exact ⟨_, _, _, by first | rfl | (simp [errW_none, errW_some] <;> rfl) | (simp [*, errW_none, errW_some] <;> rfl), by (with_reducible repeat (first | apply Kd.R_alloc | apply Kd.R_drewN | apply Kd.R_drew)); exact wr_base HW1.out HO_2.out, by (with_reducible repeat (first | apply Kd.R_alloc | apply Kd.R_drewN | apply Kd.R_drew)); exact wr_base HW1.out HO_4.out, by (with_reducible repeat (first | apply Kd.R_alloc | apply Kd.R_drewN | apply Kd.R_drew)); exact wr_base HW1.out HO_5.out, wr_end HN0.out HW1.out HN1.out (by repeat (first | exact HB.out | apply below_alloc | apply pw_below_drewN | apply below_drew1))⟩
            · replace c7 := Bool.eq_false_iff.mpr c7
              subst c7
              have H1 : (if t165 > 0 then (if x3_1.size + 1 ≤ 9223372036854775807 then (if x4_1.length < 17592186044416 then ((some (x4_1 ++ [x6_1] : List Int)).bind fun y166 => ((impl_between.f x6_1 t165 y166 x5_1).bind fun t169 => (impl_walk.l0 sd kj3 y162 (x3_1 ++ (⟨#[43]⟩ : ByteArray)) y166 x5_1 t169))) else (none)) else (none)) else (if x3_1.size + 1 ≤ 9223372036854775807 then (if x5_1.length < 17592186044416 then ((some (x5_1 ++ [x6_1] : List Int)).bind fun y170 => ((impl_between.f x6_1 t165 x4_1 y170).bind fun t173 => (impl_walk.l0 sd kj3 y162 (x3_1 ++ (⟨#[45]⟩ : ByteArray)) x4_1 y170 t173))) else (none)) else (none))) = some (r1, r2, r3, r4) := by rw [if_neg (show ¬ (false = true) by decide)] at H; exact H
              clear H
              have H := H1
              clear H1
              by_cases c8 : t165 > 0
              · rw [if_pos c8] at H
                have c8b0 : decide (0 < t165) = true := decide_eq_true c8
                clear c8
                by_cases c9 : x3_1.size + 1 ≤ 9223372036854775807
                · rw [if_pos c9] at H
                  have c9b0 := eq_true c9
                  have c9b1 : decide (x3_1.size + 1 ≤ 9223372036854775807) = true := decide_eq_true c9
                  try have c9b2 : (9223372036854775807 < x3_1.size + 1) = False := eq_false (Nat.not_lt.2 c9)
                  by_cases c10 : x4_1.length < 17592186044416
                  · rw [if_pos c10] at H
                    have LMc10 := Aside0.mk c10
                    clear c10
                    obtain ⟨y166, hy166⟩ : ∃ y_ : List Int, y_ = (x4_1 ++ [x6_1]) := ⟨_, rfl⟩
                    replace H : ((impl_between.f x6_1 t165 y166 x5_1).bind fun t169 => (impl_walk.l0 sd kj3 y162 (x3_1 ++ (⟨#[43]⟩ : ByteArray)) y166 x5_1 t169)) = some (r1, r2, r3, r4) := by first | (rw [hy166]; with_reducible exact H) | (have H2_ := (Option.bind_some _ _).symm.trans H; rw [hy166]; with_reducible exact H2_) | (have H2_ := (Option.bind_some _ _).symm.trans H; with_reducible exact H2_) | with_reducible exact H | (rw [hy166]; exact H) | exact H
                    have Ny166 := Aside0.mk hy166
                    clear hy166
                    replace H := Option.bind_eq_some_iff.mp H
                    obtain ⟨t169, A110, H⟩ := H
                    replace H : (impl_walk.l0 sd kj3 y162 (x3_1 ++ (⟨#[43]⟩ : ByteArray)) y166 x5_1 t169) = some (r1, r2, r3, r4) := H
                    have A11 := Aside0.mk A110
                    clear A110
                    have H' := Aside0.mk H
                    clear H
                    go_wp2_with (first | ((with_reducible refine gate_builtin (b := .append) (xs := #[.tmp 30, .tmp 32]) rfl ?_); (try (refine gate_guard (by rfl) ?_; dsimp only)); at_builtin; refine Kd.R_append (Kd.int .i64) (w0 := wn) wn.heap.size rfl (.tmp 30) (.tmp 32) 90 3 (.int .i64 0) 8 rfl Tryd.underlying90 info3 rfl (by decide) (by omega) u4 x4_1 x6_1 [.int .i64 x6_1] (fun k_ => some k_ ≠ (v163 : Value).ownBlock ∧ some k_ ≠ (u5 : Value).ownBlock) (fun _ => False) rfl rfl ?aP (fun _ hk => hk.elim) ?aF ?aO ?aB ?aS ?aL ?_; (case aP => exact rfl); (case aB => exact (by repeat (first | (with_reducible first | exact HB.out | apply below_alloc | apply pw_below_drewN | apply below_drew1) | exact HB.out))); (case aF => exact (fun k_ hk => ⟨Kd.fresh' (Kd.R_lt (by (with_reducible repeat (first | apply Kd.R_alloc | apply Kd.R_drewN | apply Kd.R_drew)); exact HO_2.out)) k_ hk, Kd.fresh' (Kd.R_lt (by (with_reducible repeat (first | apply Kd.R_alloc | apply Kd.R_drewN | apply Kd.R_drew)); exact HO_5.out)) k_ hk⟩)); (case aO => exact (by (with_reducible repeat (first | apply Kd.R_alloc | apply Kd.R_drewN | apply Kd.R_drew)); exact HO_4.out)); (case aS => exact (below_size (by repeat (first | (with_reducible first | exact HB.out | apply below_alloc | apply pw_below_drewN | apply below_drew1) | exact HB.out)))); (case aL => have := LMc10.out; omega); intro v167 w12 ho hb hg hat; rw [← Ny166.out] at ho; have n0_ := Aside0.mk (Kd.R_after (ok := (fun k_ => some k_ ≠ (u5 : Value).ownBlock)) (by (with_reducible repeat (first | apply Kd.R_alloc | apply Kd.R_drewN | apply Kd.R_drew)); exact Kd.R_mono HO_2.out (fun _ hk => ⟨hk.2, hk.1⟩)) hg hat); have n1_ := Aside0.mk (Kd.R_after (ok := (fun k_ => some k_ ≠ (v163 : Value).ownBlock)) (by (with_reducible repeat (first | apply Kd.R_alloc | apply Kd.R_drewN | apply Kd.R_drew)); exact HO_5.out) hg hat); have n2_ := Aside0.mk (hb); have n3_ := Aside0.mk (ho); clear HO_2; clear HO_5; clear HB; clear HO_4; have HO_2 := n0_; have HO_5 := n1_; have HB := n2_; have HO168 := n3_; clear n0_ n1_ n2_ n3_; clear ho hb hg hat; obtain ⟨Ao13, co13, eo13⟩ := Kd.R_slice HO168.out; subst eo13; obtain ⟨Ao14, co14, eo14⟩ := Kd.R_slice HO_5.out; subst eo14) | ((with_reducible refine gate_callee (f := 127) rfl ?_); refine goesL_ (some 44) rfl rfl Tryd.func127 (by kernel_rfl) rfl #[.int .i64 x6_1, .int .i64 t165, .slice Ao13 y166.length co13, .slice Ao14 x5_1.length co14] rfl (by (try simp only [List.map_toArray, List.map_cons, List.map_nil]); first | done | rfl | (simp only [List.length_drop, List.length_take]; rfl)) ?_; (with_reducible refine (impl_between.calls x6_1 t165 _ _ y166 _ _ x5_1 t169 _ ?side1 ?side2 ?side3 ?side4 A11.out).mono ?_); (case side1 => repeat (first | exact (Kd.R_reads' HO168.out).2.2 | (with_reducible refine Kd.C_alloc ?_ _) | (with_reducible refine Kd.C_drewN ?_ _) | (with_reducible refine Kd.C_drew ?_))); (case side2 => exact (Kd.R_reads' HO168.out).2.1); (case side3 => repeat (first | exact (Kd.R_reads' HO_5.out).2.2 | (with_reducible refine Kd.C_alloc ?_ _) | (with_reducible refine Kd.C_drewN ?_ _) | (with_reducible refine Kd.C_drew ?_))); (case side4 => exact (Kd.R_reads' HO_5.out).2.1); rintro e w' ⟨rfl, ⟨nd, rfl⟩⟩; refine ⟨_, rfl, ?_⟩))
                    go_roundg kj3
                    case measure => have := HK1.out; have := HJ3.out; omega
                    case rel => exact ⟨wn, (y162), (x3_1 ++ (⟨#[43]⟩ : ByteArray)), (y166), (x5_1), (t169), (by first | rfl | (simp; done) | (simp [*]; done)), (by first | rfl | (simp; done) | (simp [*]; done)), H', ⟨by have := HK1.out; have := HJ3.out; omega⟩, HW1, HI1, HN1, ⟨by (with_reducible repeat (first | apply Kd.R_alloc | apply Kd.R_drewN | apply Kd.R_drew)); exact Kd.R_mono HO_2.out (fun _ hk => ⟨hk.2, hk.1⟩)⟩, ⟨by (with_reducible repeat (first | apply Kd.R_alloc | apply Kd.R_drewN | apply Kd.R_drew)); exact HO168.out⟩, ⟨by (with_reducible repeat (first | apply Kd.R_alloc | apply Kd.R_drewN | apply Kd.R_drew)); exact HO_5.out⟩, ⟨by repeat (first | (with_reducible first | exact HB.out | apply below_alloc | apply pw_below_drewN | apply below_drew1) | exact HB.out)⟩⟩
                  · rw [if_neg c10] at H
                    exact absurd H (by simp)
                · rw [if_neg c9] at H
                  exact absurd H (by simp)
              · rw [if_neg c8] at H
                have c8b0 : decide (0 < t165) = false := decide_eq_false c8
                clear c8
                by_cases c15 : x3_1.size + 1 ≤ 9223372036854775807
                · rw [if_pos c15] at H
                  have c15b0 := eq_true c15
                  have c15b1 : decide (x3_1.size + 1 ≤ 9223372036854775807) = true := decide_eq_true c15
                  try have c15b2 : (9223372036854775807 < x3_1.size + 1) = False := eq_false (Nat.not_lt.2 c15)
                  by_cases c16 : x5_1.length < 17592186044416
                  · rw [if_pos c16] at H
                    have LMc16 := Aside0.mk c16
                    clear c16
                    obtain ⟨y170, hy170⟩ : ∃ y_ : List Int, y_ = (x5_1 ++ [x6_1]) := ⟨_, rfl⟩
                    replace H : ((impl_between.f x6_1 t165 x4_1 y170).bind fun t173 => (impl_walk.l0 sd kj3 y162 (x3_1 ++ (⟨#[45]⟩ : ByteArray)) x4_1 y170 t173)) = some (r1, r2, r3, r4) := by first | (rw [hy170]; with_reducible exact H) | (have H2_ := (Option.bind_some _ _).symm.trans H; rw [hy170]; with_reducible exact H2_) | (have H2_ := (Option.bind_some _ _).symm.trans H; with_reducible exact H2_) | with_reducible exact H | (rw [hy170]; exact H) | exact H
                    have Ny170 := Aside0.mk hy170
                    clear hy170
                    replace H := Option.bind_eq_some_iff.mp H
                    obtain ⟨t173, A170, H⟩ := H
                    replace H : (impl_walk.l0 sd kj3 y162 (x3_1 ++ (⟨#[45]⟩ : ByteArray)) x4_1 y170 t173) = some (r1, r2, r3, r4) := H
                    have A17 := Aside0.mk A170
                    clear A170
                    have H' := Aside0.mk H
                    clear H
                    go_wp2_with (first | ((with_reducible refine gate_builtin (b := .append) (xs := #[.tmp 36, .tmp 38]) rfl ?_); (try (refine gate_guard (by rfl) ?_; dsimp only)); at_builtin; refine Kd.R_append (Kd.int .i64) (w0 := wn) wn.heap.size rfl (.tmp 36) (.tmp 38) 90 3 (.int .i64 0) 8 rfl Tryd.underlying90 info3 rfl (by decide) (by omega) u5 x5_1 x6_1 [.int .i64 x6_1] (fun k_ => some k_ ≠ (v163 : Value).ownBlock ∧ some k_ ≠ (u4 : Value).ownBlock) (fun _ => False) rfl rfl ?aP (fun _ hk => hk.elim) ?aF ?aO ?aB ?aS ?aL ?_; (case aP => exact rfl); (case aB => exact (by repeat (first | (with_reducible first | exact HB.out | apply below_alloc | apply pw_below_drewN | apply below_drew1) | exact HB.out))); (case aF => exact (fun k_ hk => ⟨Kd.fresh' (Kd.R_lt (by (with_reducible repeat (first | apply Kd.R_alloc | apply Kd.R_drewN | apply Kd.R_drew)); exact HO_2.out)) k_ hk, Kd.fresh' (Kd.R_lt (by (with_reducible repeat (first | apply Kd.R_alloc | apply Kd.R_drewN | apply Kd.R_drew)); exact HO_4.out)) k_ hk⟩)); (case aO => exact (by (with_reducible repeat (first | apply Kd.R_alloc | apply Kd.R_drewN | apply Kd.R_drew)); exact HO_5.out)); (case aS => exact (below_size (by repeat (first | (with_reducible first | exact HB.out | apply below_alloc | apply pw_below_drewN | apply below_drew1) | exact HB.out)))); (case aL => have := LMc16.out; omega); intro v171 w18 ho hb hg hat; rw [← Ny170.out] at ho; have n0_ := Aside0.mk (Kd.R_after (ok := (fun k_ => some k_ ≠ (u4 : Value).ownBlock)) (by (with_reducible repeat (first | apply Kd.R_alloc | apply Kd.R_drewN | apply Kd.R_drew)); exact HO_2.out) hg hat); have n1_ := Aside0.mk (Kd.R_after (ok := (fun k_ => some k_ ≠ (v163 : Value).ownBlock)) (by (with_reducible repeat (first | apply Kd.R_alloc | apply Kd.R_drewN | apply Kd.R_drew)); exact HO_4.out) hg hat); have n2_ := Aside0.mk (hb); have n3_ := Aside0.mk (ho); clear HO_2; clear HO_4; clear HB; clear HO_5; have HO_2 := n0_; have HO_4 := n1_; have HB := n2_; have HO172 := n3_; clear n0_ n1_ n2_ n3_; clear ho hb hg hat; obtain ⟨Ao19, co19, eo19⟩ := Kd.R_slice HO_4.out; subst eo19; obtain ⟨Ao20, co20, eo20⟩ := Kd.R_slice HO172.out; subst eo20) | ((with_reducible refine gate_callee (f := 127) rfl ?_); refine goesL_ (some 44) rfl rfl Tryd.func127 (by kernel_rfl) rfl #[.int .i64 x6_1, .int .i64 t165, .slice Ao19 x4_1.length co19, .slice Ao20 y170.length co20] rfl (by (try simp only [List.map_toArray, List.map_cons, List.map_nil]); first | done | rfl | (simp only [List.length_drop, List.length_take]; rfl)) ?_; (with_reducible refine (impl_between.calls x6_1 t165 _ _ x4_1 _ _ y170 t173 _ ?side1 ?side2 ?side3 ?side4 A17.out).mono ?_); (case side1 => repeat (first | exact (Kd.R_reads' HO_4.out).2.2 | (with_reducible refine Kd.C_alloc ?_ _) | (with_reducible refine Kd.C_drewN ?_ _) | (with_reducible refine Kd.C_drew ?_))); (case side2 => exact (Kd.R_reads' HO_4.out).2.1); (case side3 => repeat (first | exact (Kd.R_reads' HO172.out).2.2 | (with_reducible refine Kd.C_alloc ?_ _) | (with_reducible refine Kd.C_drewN ?_ _) | (with_reducible refine Kd.C_drew ?_))); (case side4 => exact (Kd.R_reads' HO172.out).2.1); rintro e w' ⟨rfl, ⟨nd, rfl⟩⟩; refine ⟨_, rfl, ?_⟩))
                    go_roundg kj3
                    case measure => have := HK1.out; have := HJ3.out; omega
                    case rel => exact ⟨wn, (y162), (x3_1 ++ (⟨#[45]⟩ : ByteArray)), (x4_1), (y170), (t173), (by first | rfl | (simp; done) | (simp [*]; done)), (by first | rfl | (simp; done) | (simp [*]; done)), H', ⟨by have := HK1.out; have := HJ3.out; omega⟩, HW1, HI1, HN1, ⟨by (with_reducible repeat (first | apply Kd.R_alloc | apply Kd.R_drewN | apply Kd.R_drew)); exact HO_2.out⟩, ⟨by (with_reducible repeat (first | apply Kd.R_alloc | apply Kd.R_drewN | apply Kd.R_drew)); exact HO_4.out⟩, ⟨by (with_reducible repeat (first | apply Kd.R_alloc | apply Kd.R_drewN | apply Kd.R_drew)); exact HO172.out⟩, ⟨by repeat (first | (with_reducible first | exact HB.out | apply below_alloc | apply pw_below_drewN | apply below_drew1) | exact HB.out)⟩⟩
                  · rw [if_neg c16] at H
                    exact absurd H (by simp)
                · rw [if_neg c15] at H
                  exact absurd H (by simp)
      · rw [if_neg c2] at H
        exact absurd H (by simp)

/-! ### impl_ofWord: function 75 -/
/-! #### ofWord's closure: it tells a word's letters, one after another -/
def ow.sd (s : ByteArray) (i : Nat) (_ : Int) : Int := if i < s.size then (if bt s (i : Int) = 43 then 1 else -1) else 0
def ow.Inv (s : ByteArray) (ba bs : Nat) (i : Nat) (w : World) : Prop := ba ≠ bs ∧ w.heap[ba]? = some (.cells #[.int .i64 ((min i s.size : Nat) : Int)] 3 (0, 0)) ∧ w.heap[bs]? = some (.cells #[.string s] 9 (0, 0))
set_option maxHeartbeats 1000000 in
set_option maxRecDepth 100000 in
theorem ow.cl (s : ByteArray) (hs : s.size ≤ 20) (ba bs n0 : Nat) (hn : n0 ≤ ba) (hn' : n0 ≤ bs) (i : Nat) (x : Int) (w W : World) (hI : ow.Inv s ba bs i w) (hB : Below w.heap.size w W) :
    Calls Tryd.prog 106 (#[.int .i64 x] ++ #[.pointer (some ⟨ba, 0, none⟩), .pointer (some ⟨bs, 0, none⟩)]) W fun e W2 => e = .returned (.int .i64 (ow.sd s i x)) ∧ ∃ w2 : World, w2.heap.size = w.heap.size ∧ ow.Inv s ba bs (i + 1) w2 ∧ Below n0 w w2 ∧ Below w2.heap.size w2 W2 ∧ (W.heap.size ≤ W2.heap.size ∧ ∀ k, w.heap.size ≤ k → k < W.heap.size → W2.heap[k]? = W.heap[k]?) := by
  obtain ⟨hne, ha, hb⟩ := hI
  have hA := blk_below ha hB
  have hS := blk_below hb hB
  by_cases hi : i < s.size
  · have e1 : min i s.size = i := by omega
    have e2 : min (i + 1) s.size = i + 1 := by omega
    rw [e1] at ha hA
    have hca := (blk_cell hA 0).trans rfl
    have hfa := blk_frozen hA 0
    have hcs := (blk_cell hS 0).trans rfl
    have d1 : ((i : Int) == (s.size : Int)) = false := beq_eq_false_iff_ne.2 (by omega)
    have hx : ((i : Int) + 1).toNat = i + 1 := by omega
    have hbq : ((s[i]'hi).toNat : Int) = bt s (i : Int) := by
      unfold bt
      rw [dif_pos (by rw [Int.toNat_natCast]; exact hi)]
      rfl
    have post : ∀ u : Int, u = (i : Int) + 1 → ∃ w2 : World, w2.heap.size = w.heap.size ∧ ow.Inv s ba bs (i + 1) w2 ∧ Below n0 w w2 ∧ Below w2.heap.size w2 (W.setCell ⟨ba, 0, none⟩ (.int .i64 u)) ∧ (W.heap.size ≤ (W.setCell ⟨ba, 0, none⟩ (.int .i64 u)).heap.size ∧ ∀ k, w.heap.size ≤ k → k < W.heap.size → (W.setCell ⟨ba, 0, none⟩ (.int .i64 u)).heap[k]? = W.heap[k]?) := by
      rintro u rfl
      refine ⟨w.setCell ⟨ba, 0, none⟩ (.int .i64 ((i : Int) + 1)), by simp [World.setCell], ⟨hne, ?_, blk_far hb (Ne.symm hne) _⟩, (Below.refl n0 w).setCell hn _, ⟨hB.os, hB.tape, hB.output, by simp only [World.size_setCell]; exact hB.size, ?_⟩, by simp only [World.size_setCell]; exact Nat.le_refl _, ?_⟩
      · rw [e2]
        exact blk_put ha 0 _ rfl
      · intro k hk
        rw [World.size_setCell] at hk
        by_cases c : k = ba
        · subst c
          exact (blk_put hA 0 _ rfl).trans (blk_put ha 0 _ rfl).symm
        · rw [Below.heap_setCell _ _ _ _ c, Below.heap_setCell _ _ _ _ c]
          exact hB.block k hk
      · intro k hk _
        have := blk_lt ha
        exact Below.heap_setCell _ _ _ _ (by show k ≠ ba; omega)
    unfold ow.sd
    rw [if_pos hi, ← hbq]
    clear hbq
    by_cases c : (((s[i]'hi).toNat : Int)) = 43
    · have c1 : ((((s[i]'hi).toNat : Int)) == 43) = true := beq_iff_eq.2 c
      rw [if_pos c]
      clear c
      go_enter Tryd.func106, Tryd.ntmps106
      go_wp2
      go_ret
      exact ⟨rfl, post _ rfl⟩
    · have c1 : ((((s[i]'hi).toNat : Int)) == 43) = false := beq_eq_false_iff_ne.2 c
      rw [if_neg c]
      clear c
      go_enter Tryd.func106, Tryd.ntmps106
      go_wp2
      go_ret
      exact ⟨rfl, post _ rfl⟩
  · have e1 : min i s.size = s.size := by omega
    have e2 : min (i + 1) s.size = s.size := by omega
    rw [e1] at ha hA
    have hca := (blk_cell hA 0).trans rfl
    have hcs := (blk_cell hS 0).trans rfl
    have d1 : ((s.size : Int) == (s.size : Int)) = true := beq_self_eq_true _
    unfold ow.sd
    rw [if_neg hi]
    clear hi
    go_enter Tryd.func106, Tryd.ntmps106
    go_wp2
    go_ret
    exact ⟨rfl, w, rfl, ⟨hne, by rw [e2]; exact ha, hb⟩, Below.refl _ _, hB, Nat.le_refl _, fun _ _ _ => rfl⟩
def impl_ofWord.f (k : Nat) (a0 : ByteArray) : Option (List Int) := if a0.size ≤ 20 then ((impl_walk.f k (ow.sd a0)).bind fun bt174 => (some bt174.1)) else none
theorem impl_ofWord.mono : ∀ a0 k, LeO (impl_ofWord.f k a0) (impl_ofWord.f (k + 1) a0) := by
  intro a0 k
  unfold impl_ofWord.f
  repeat' first
      | (with_reducible exact impl_walk.mono _ _)
      | (with_reducible exact LeO.refl _)
      | (with_reducible exact LeO.none _)
      | (with_reducible refine LeO.ite ?_ ?_)
      | (with_reducible refine LeO.bind ?_ (fun _ => ?_))
      | exact impl_walk.mono _ _
      | exact LeO.none _
      | refine LeO.ite ?_ ?_
      | refine LeO.bind ?_ (fun _ => ?_)
set_option maxHeartbeats 8000000 in
set_option maxRecDepth 100000 in
theorem impl_ofWord.calls (k : Nat) (a0 : ByteArray) (r : List Int) (w : World) (h : impl_ofWord.f k a0 = some r) :
    Calls Tryd.prog 75 #[.string a0] w fun e w' => ∃ v0_ : Value, e = .returned (v0_) ∧ Kd.R (Kd.int .i64) 3 w' w.heap.size (fun _ => True) v0_ r ∧ Below w.heap.size w w' := by
  have hs : a0.size ≤ 20 := by
    by_cases c : a0.size ≤ 20
    · exact c
    · unfold impl_ofWord.f at h
      rw [if_neg c] at h
      cases h
  have h1 : ((impl_walk.f k (ow.sd a0)).bind fun bt => (some bt.1)) = some r := by
    unfold impl_ofWord.f at h
    rw [if_pos hs] at h
    exact h
  clear h
  obtain ⟨⟨t1, t2, t3, t4⟩, A2, H⟩ := Option.bind_eq_some_iff.mp h1
  obtain rfl : t1 = r := Option.some.inj H
  have A3 := Aside0.mk A2
  have EG := Aside0.mk (show ∀ args w, (callFunc 106 args).run Tryd.prog w = .ok (.enter 106 args) w from fun args w => enters_ Tryd.func106 rfl rfl args w)
  clear A2 H h1
  go_enter Tryd.func75, Tryd.ntmps75
  go_wp2_with (go_at_call 105; ((refine (impl_walk.calls k (ow.sd a0) 106 #[.pointer (some ⟨w.heap.size + 1, 0, none⟩), .pointer (some ⟨w.heap.size, 0, none⟩)] EG.out w.heap.size (ow.Inv a0 (w.heap.size + 1) w.heap.size) t1 t2 t3 t4 _ ?owA ?owB (fun i x w1 W _ hI hB => ow.cl a0 hs _ _ _ (Nat.le_succ _) (Nat.le_refl _) i x w1 W hI hB) A3.out).mono ?_); (case owA => simp; omega); (case owB => exact ⟨Nat.succ_ne_self _, by first | (have z := heap_alloc_new (w.alloc (.cells #[.string a0] 9)) (.cells #[.int .i64 0] 3); rw [World.size_alloc] at z; exact z), blk_alloc (heap_alloc_new w (.cells #[.string a0] 9)) _⟩); rintro e w3 ⟨v1, v2, v3, rfl, ho1, ho2, ho3, hb⟩))
  go_ret
  refine ⟨_, rfl, ?_, (((Below.refl _ _).alloc (Nat.le_refl _) _).alloc (by simp) _).trans hb⟩
  exact Kd.R_mono (Kd.R_lower ho1 (by simp; omega)) (fun _ _ => trivial)

/-! ### impl_in: function 58 -/
def impl_in.f (a0 : Int) (a1 : Int) (a2 : Int) : Option (Bool) := if a0 ≥ a1 then (some (decide (a0 ≤ a2))) else (some false)
set_option maxHeartbeats 8000000 in
set_option maxRecDepth 100000 in
theorem impl_in.calls (a0 : Int) (a1 : Int) (a2 : Int) (r : Bool) (w : World) (h : impl_in.f a0 a1 a2 = some r) :
    Calls Tryd.prog 58 #[.int .i64 a0, .int .i64 a1, .int .i64 a2] w fun e w' => e = .returned (.bool r) ∧ Drawn0 w w' := by
  have H : (if a0 ≥ a1 then (some (decide (a0 ≤ a2))) else (some false)) = some r := h
  clear h
  by_cases c4 : a0 ≥ a1
  · rw [if_pos c4] at H
    have c4b0 : decide (a1 ≤ a0) = true := decide_eq_true c4
    clear c4
    obtain rfl := Option.some.inj H
    go_enter Tryd.func58, Tryd.ntmps58
    go_wp2
    go_ret
    exact ⟨by first | rfl | (simp; done) | (simp [*]; done), by repeat (first | exact Drawn0.refl _ | apply Drawn0.step)⟩
  · rw [if_neg c4] at H
    have c4b0 : decide (a1 ≤ a0) = false := decide_eq_false c4
    clear c4
    obtain rfl := Option.some.inj H
    go_enter Tryd.func58, Tryd.ntmps58
    go_wp2
    go_ret
    exact ⟨by first | rfl | (simp; done) | (simp [*]; done), by repeat (first | exact Drawn0.refl _ | apply Drawn0.step)⟩

/-! ### impl_size: function 93 -/
def impl_size.f (a0 : Int) : Option (Int) := some (mx a0 (wrap64 (-a0)))
set_option maxHeartbeats 8000000 in
set_option maxRecDepth 100000 in
theorem impl_size.calls (a0 : Int) (r : Int) (w : World) (h : impl_size.f a0 = some r) :
    Calls Tryd.prog 93 #[.int .i64 a0] w fun e w' => e = .returned (.int .i64 r) ∧ Below w.heap.size w w' := by
  have HB := Aside0.mk (Below.refl w.heap.size w)
  have H : (some (mx a0 (wrap64 (-a0)))) = some r := h
  clear h
  obtain ⟨ji2, hji2⟩ : ∃ j_ : Int, (mx a0 (wrap64 (-a0))) = j_ := ⟨_, rfl⟩
  replace H : (some ji2) = some r := by first | (rw [hji2] at H; exact H) | (simp only [hji2] at H ⊢; exact H)
  have hji2_ : (if a0 < (wrap64 (-a0)) then (wrap64 (-a0)) else a0) = ji2 := hji2
  obtain rfl := Option.some.inj H
  go_enter Tryd.func93, Tryd.ntmps93
  go_wp2
  go_ret
  exact ⟨by first | rfl | (simp [errW_none, errW_some] <;> rfl) | (simp only [← hji2]; first | rfl | (simp [errW_none, errW_some] <;> rfl)) | (simp [*, errW_none, errW_some] <;> rfl), by repeat (first | (with_reducible first | exact HB.out | apply below_alloc | apply pw_below_drewN | apply below_drew1) | exact HB.out)⟩

end Go.Proofs.YtjfhhpkgjdkmdaaDoor.QFnExactFromWord
