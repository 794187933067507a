/- The Go functions that the law FnExactSumOfPictures reaches, as Lean functions, and what their calls do. Written by a program of this session. -/
import Derived.Test.YtnabbkaipfhmdaaQFnExactSumOfPicturesx0
import Derived.Test.YtnabbkaipfhmdaaQFnExactSumOfPicturesx4
import Derived.Test.YtnabbkaipfhmdaaQFnExactSumOfPicturesx5
import Derived.Test.YtnabbkaipfhmdaaQFnExactSumOfPicturesx6
namespace Go.Proofs.Ytnabbkaipfhmdaa.QFnExactSumOfPictures
open Go.RowKit Go.Proofs.YtnabbkaipfhmdaaW.PrintWords Go.Proofs.YtnabbkaipfhmdaaW.PrintLast Go.Proofs.YtnabbkaipfhmdaaW.PrintMore
attribute [local go_sem] max2_int min2_int max_two min_two max_three min_three max_four min_four   -- for this text's walks alone
set_option linter.unusedVariables false
set_option linter.unusedSimpArgs false

/-! ### impl_GrowOn: function 8 -/
set_option maxHeartbeats 400000 in
set_option maxRecDepth 100000 in
theorem grow.containsFunc (g : Nat) (lb : Array Value) (eg : ∀ args w, (callFunc g args).run Try.prog w = .ok (.enter g args) w) (p : S47 → Bool) (l : List S47) (A : Option Addr) (c : Nat) (w : World)
    (hr : Kd.C k47 w A l.length l) (hp : stand.Pred g lb p l w) :
    Calls Try.prog 21 #[.slice A l.length c, .func (.func g) #[] lb] w fun e w' => e = .returned (.bool (l.any p)) ∧ Below w.heap.size w w' := by
  have hIF := (stand.indexFunc g lb eg p l A c w w (Below.refl _ w) hr hp).mono (R' := fun e w' => ∃ r : Int, e = .returned (.int .i64 r) ∧ decide (0 ≤ r) = l.any p ∧ Below w.heap.size w w') (by
    rintro e w1 ⟨r, rfl, hb, hh⟩
    refine ⟨r, rfl, ?_, hb⟩
    rcases hh with ⟨rfl, hall⟩ | ⟨k, hk, rfl, hpk, _⟩
    · have : l.any p = false := by
        rw [List.any_eq_false]
        intro x hx
        rw [hall x hx]
        decide
      rw [this]
      rfl
    · have : l.any p = true := List.any_eq_true.2 ⟨_, List.getElem_mem hk, hpk⟩
      rw [this]
      exact decide_eq_true (Int.natCast_nonneg k))
  clear hr hp
  go_enter Try.func21, Try.ntmps21
  go_wp2_with (first | (go_at_call 33; refine hIF.mono ?_; rintro e w1 ⟨r, rfl, hd, hb⟩; have HD := Aside0.mk hd; have HB := Aside0.mk hb; clear hd hb))
  go_ret
  exact ⟨by rw [← HD.out]; rfl, HB.out⟩
set_option maxHeartbeats 400000 in
set_option maxRecDepth 100000 in
theorem grow.has (gn : Nat) (node : Int) (x : S47) (W : World) (hc : W.heap[gn]? = some (.cells #[.int .i64 node] 3 (0, 0))) :
    Calls Try.prog 22 (#[.agg #[.int .i64 x.f0, .int .i64 x.f1, .bool x.f2]] ++ #[.pointer (some ⟨gn, 0, none⟩)]) W fun e w' => e = .returned (.bool (x.f0 == node || x.f1 == node)) ∧ Below W.heap.size W w' := by
  have hu47 := Try.underlying47
  have HB := Aside0.mk (Below.refl W.heap.size W)
  have hcc := (blk_cell hc 0).trans rfl
  have hcc2 := (blk_cell (blk_alloc hc (.cells #[.int .i64 x.f0, .int .i64 x.f1, .bool x.f2] 47)) 0).trans rfl
  clear hc
  show Calls _ _ #[.agg #[.int .i64 x.f0, .int .i64 x.f1, .bool x.f2], .pointer (some ⟨gn, 0, none⟩)] W _
  cases h0 : (x.f0 == node) with
  | true =>
    go_enter Try.func22, Try.ntmps22
    go_wp2
    go_ret
    exact ⟨rfl, by first | exact below_alloc HB.out _ | exact below_drew (below_alloc HB.out _)⟩
  | false =>
    go_enter Try.func22, Try.ntmps22
    go_wp2
    go_ret
    exact ⟨rfl, by first | exact below_alloc HB.out _ | exact below_drew (below_alloc HB.out _)⟩
def impl_GrowOn.put (node b n : Int) : Int := if n = 0 then node else wrap64 (n + b)
set_option maxHeartbeats 400000 in
set_option maxRecDepth 100000 in
theorem grow.put (gn gb : Nat) (node b n : Int) (W : World) (hc : W.heap[gn]? = some (.cells #[.int .i64 node] 3 (0, 0))) (hd : W.heap[gb]? = some (.cells #[.int .i64 b] 3 (0, 0))) :
    Calls Try.prog 25 #[.int .i64 n, .pointer (some ⟨gn, 0, none⟩), .pointer (some ⟨gb, 0, none⟩)] W fun e w' => e = .returned (.int .i64 (impl_GrowOn.put node b n)) ∧ Below W.heap.size W w' := by
  have HB := Aside0.mk (Below.refl W.heap.size W)
  have hcc := (blk_cell hc 0).trans rfl
  have hdd := (blk_cell hd 0).trans rfl
  clear hc hd
  unfold impl_GrowOn.put
  by_cases h : n = 0
  · rw [if_pos h]
    have hq : (n == 0) = true := beq_iff_eq.2 h
    go_enter Try.func25, Try.ntmps25
    go_wp2
    go_ret
    exact ⟨rfl, by first | exact HB.out | exact below_drew HB.out⟩
  · rw [if_neg h]
    have hq : (n == 0) = false := beq_eq_false_iff_ne.2 h
    go_enter Try.func25, Try.ntmps25
    go_wp2
    go_ret
    exact ⟨rfl, by first | exact HB.out | exact below_drew HB.out⟩
def impl_GrowOn.has (node : Int) (l : List S47) : Bool := l.any fun x => x.f0 == node || x.f1 == node
def impl_GrowOn.mv (node b : Int) (e : S47) : S47 := ⟨impl_GrowOn.put node b e.f0, impl_GrowOn.put node b e.f1, e.f2⟩
def impl_GrowOn.f (k : Nat) (l : List S47) (node : Int) (q : List S47) : Option (List S47 × Bool) :=
  (impl_IsPicture.f k l).bind fun a => if a = true then ((impl_IsPicture.f k q).bind fun b => if b = true then (if node = 0 ∨ impl_GrowOn.has node l = true then ((impl_greatest.f k l).bind fun t => if l.length ≤ 10 ∧ q.length ≤ 10 then ((impl_IsPicture.f k (l ++ q.map (impl_GrowOn.mv node t))).bind fun c => some (if c = true then (l ++ q.map (impl_GrowOn.mv node t), true) else ([], false))) else none) else some ([], false)) else some ([], false)) else some ([], false)
theorem impl_GrowOn.mono : ∀ a0 a1 a2 k, LeO (impl_GrowOn.f k a0 a1 a2) (impl_GrowOn.f (k + 1) a0 a1 a2) := by
  intro a0 a1 a2 k
  unfold impl_GrowOn.f
  repeat' first
    | exact impl_IsPicture.mono _ _
    | exact impl_greatest.mono _ _
    | exact LeO.refl _
    | exact LeO.none _
    | refine LeO.ite ?_ ?_
    | refine LeO.bind ?_ (fun _ => ?_)
def impl_GrowOn.T10 : Bool × List (List Nat × List Nat) := (true, [([], []), ([0], [0]), ([], []), ([], []), ([3], [3]), ([2, 4], [2, 4]), ([], []), ([], []), ([7], [7]), ([6, 8, 5], [6, 8]), ([], []), ([10], [10]), ([5, 9, 11], [5, 9, 11]), ([12], [12]), ([1, 13, 9], [1, 13]), ([0, 1, 2, 3, 4, 5, 6, 7, 8, 9, 10, 11, 12, 13, 14], []), ([15, 14, 14, 0, 1, 2, 3, 4, 5, 6, 7, 8, 9, 10, 11, 12, 13, 14], [14, 15])])
def impl_GrowOn.B10 : List Nat := [0, 1, 0, 0, 8, 28, 0, 0, 128, 508, 0, 1024, 4092, 8188, 16383, 32767, 65535]
theorem impl_GrowOn.tab10 : rtab .any (opsOf Try.f8 10) = impl_GrowOn.T10 := by kernel_rfl
theorem impl_GrowOn.bits10 : waitsOk impl_GrowOn.T10.2 impl_GrowOn.B10 = true := by kernel_rfl
set_option maxHeartbeats 4000000 in
set_option maxRecDepth 100000 in
theorem impl_GrowOn.calls (k : Nat) (A0_0 : Option Addr) (c0_0 : Nat) (l0_0 : List (S47)) (a1 : Int) (A2_0 : Option Addr) (c2_0 : Nat) (l2_0 : List (S47)) (r1 : List (S47)) (r2 : Bool) (w : World) (hr0_0 : Kd.C k47 w A0_0 l0_0.length l0_0) (hc0_0 : l0_0.length ≤ c0_0) (hr2_0 : Kd.C k47 w A2_0 l2_0.length l2_0) (hc2_0 : l2_0.length ≤ c2_0) (h : impl_GrowOn.f k l0_0 a1 l2_0 = some (r1, r2)) :
    Calls Try.prog 8 #[.agg #[.slice A0_0 l0_0.length c0_0], .int .i64 a1, .agg #[.slice A2_0 l2_0.length c2_0]] w fun e w' => ∃ v0_ : Value, e = .returned (.tuple #[.agg #[v0_], .bool r2]) ∧ Kd.R k47 47 w' w.heap.size (fun _ => True) v0_ r1 ∧ Below w.heap.size w w' := by
  have hu28 := Try.underlying28
  have hu47 := Try.underlying47
  have HR0 := Aside0.mk hr0_0
  have HC0 := Aside0.mk hc0_0
  have HR2 := Aside0.mk hr2_0
  have HC2 := Aside0.mk hc2_0
  have HH := Aside0.mk h
  have HB := Aside0.mk (Below.refl w.heap.size w)
  clear hr0_0 hc0_0 hr2_0 hc2_0 h
  have eg : ∀ args w, (callFunc 22 args).run Try.prog w = .ok (.enter 22 args) w := fun args w => enters_ Try.func22 rfl rfl args w
  have EG := Aside0.mk eg
  have eput : ∀ args w, (callFunc 25 args).run Try.prog w = .ok (.enter 25 args) w := fun args w => enters_ Try.func25 rfl rfl args w
  have EP := Aside0.mk eput
  clear eg eput
  go_enter Try.func8, Try.ntmps8
  go_upto_region 2 with (first
    | ((with_reducible refine gate_dst (N := 3) rfl ?_); refine box_event ?hg (N := 3) ?hd (cs := #[.slice A0_0 l0_0.length c0_0]) (t := 28) ?hr ?_; (case hd => rfl); (case hg => rfl); (case hr => first | (go_simp; done) | (go_simp; rfl)); intro g3 hg w3 hbox hb; have B3 := Aside0.mk hbox; have S3 := Aside0.mk ((by rw [hg]; exact below_size HB.out) : w.heap.size ≤ g3); have n0_ := Aside0.mk (below_step HB.out hb); clear HB; have HB := n0_; clear n0_ hg hbox hb)
    | ((with_reducible refine gate_dst (N := 4) rfl ?_); refine box_event ?hg (N := 4) ?hd (cs := #[.int .i64 a1]) (t := 3) ?hr ?_; (case hd => rfl); (case hg => rfl); (case hr => first | (go_simp; done) | (go_simp; rfl)); intro g4 hg w4 hbox hb; have B4 := Aside0.mk hbox; have n1_ := Aside0.mk (blk_below B3.out hb); have n0_ := Aside0.mk (below_step HB.out hb); clear HB B3; have HB := n0_; have B3 := n1_; clear n0_ n1_ hg hbox hb)
    | ((with_reducible refine gate_dst (N := 5) rfl ?_); refine box_event ?hg (N := 5) ?hd (cs := #[.slice A2_0 l2_0.length c2_0]) (t := 28) ?hr ?_; (case hd => rfl); (case hg => rfl); (case hr => first | (go_simp; done) | (go_simp; rfl)); intro g5 hg w5 hbox hb; have B5 := Aside0.mk hbox; have n1_ := Aside0.mk (blk_below B3.out hb); have n2_ := Aside0.mk (blk_below B4.out hb); have n0_ := Aside0.mk (below_step HB.out hb); clear HB B3 B4; have HB := n0_; have B3 := n1_; have B4 := n2_; clear n0_ n1_ n2_ hg hbox hb)
    | ((with_reducible refine gate_dst (N := 6) rfl ?_); refine box_event ?hg (N := 6) ?hd (cs := #[.slice none 0 0]) (t := 28) ?hr ?_; (case hd => rfl); (case hg => rfl); (case hr => first | (go_simp; done) | (go_simp; rfl)); intro g6 hg w6 hbox hb; have B6 := Aside0.mk hbox; have S6 := Aside0.mk ((by rw [hg]; exact below_size HB.out) : w.heap.size ≤ g6); have N3 := Aside0.mk ((by rw [hg]; exact Nat.ne_of_lt (blk_lt B3.out)) : g3 ≠ g6); have N4 := Aside0.mk ((by rw [hg]; exact Nat.ne_of_lt (blk_lt B4.out)) : g4 ≠ g6); have N5 := Aside0.mk ((by rw [hg]; exact Nat.ne_of_lt (blk_lt B5.out)) : g5 ≠ g6); have n1_ := Aside0.mk (blk_below B3.out hb); have n2_ := Aside0.mk (blk_below B4.out hb); have n3_ := Aside0.mk (blk_below B5.out hb); have n0_ := Aside0.mk (below_step HB.out hb); clear HB B3 B4 B5; have HB := n0_; have B3 := n1_; have B4 := n2_; have B5 := n3_; clear n0_ n1_ n2_ n3_ hg hbox hb; have hc3 : w6.cell? ⟨g3, 0, none⟩ = some (.slice A0_0 l0_0.length c0_0) := (blk_cell B3.out 0).trans rfl)
    | (go_at_call 21; refine (grow.containsFunc 22 #[.pointer (some ⟨g4, 0, none⟩)] EG.out (fun x => x.f0 == a1 || x.f1 == a1) l0_0 A0_0 c0_0 _ (Kd.C_below HR0.out HB.out) (fun W x hx hb => grow.has g4 a1 x W (blk_below B4.out hb))).mono ?_; rintro e w7 ⟨rfl, hb⟩; have n1_ := Aside0.mk (blk_below B3.out hb); have n2_ := Aside0.mk (blk_below B4.out hb); have n3_ := Aside0.mk (blk_below B5.out hb); have n4_ := Aside0.mk (blk_below B6.out hb); have n0_ := Aside0.mk (below_step HB.out hb); clear HB B3 B4 B5 B6 hc3; have HB := n0_; have B3 := n1_; have B4 := n2_; have B5 := n3_; have B6 := n4_; clear n0_ n1_ n2_ n3_ n4_ hb; have hc3 : w7.cell? ⟨g3, 0, none⟩ = some (.slice A0_0 l0_0.length c0_0) := (blk_cell B3.out 0).trans rfl))
  have hc4 : w7.cell? ⟨g4, 0, none⟩ = some (.int .i64 a1) := (blk_cell B4.out 0).trans rfl
  have hc5 : w7.cell? ⟨g5, 0, none⟩ = some (.slice A2_0 l2_0.length c2_0) := (blk_cell B5.out 0).trans rfl
  have hc6 : w7.cell? ⟨g6, 0, none⟩ = some (.slice none 0 0) := (blk_cell B6.out 0).trans rfl
  have hf6 := blk_frozen B6.out 0
  have H := HH.out
  clear HH
  unfold impl_GrowOn.f impl_GrowOn.has at H
  generalize hhs : (l0_0.any fun x => x.f0 == a1 || x.f1 == a1) = hs at H ⊢
  clear hhs
  obtain ⟨a, hA, H⟩ := Option.bind_eq_some_iff.mp H
  have A1 := Aside0.mk hA
  clear hA
  cases a with
  | false =>
    rw [if_neg (by decide)] at H
    obtain ⟨rfl, rfl⟩ := Prod.mk.inj (Option.some.inj H)
    clear H
    go_wp2_with (first | ((with_reducible refine gate_callee (f := 23) rfl ?_); refine goesL_ (some 19) rfl rfl Try.func23 (by kernel_rfl) rfl #[.agg #[.slice A0_0 l0_0.length c0_0]] rfl (by (try simp only [List.map_toArray, List.map_cons, List.map_nil]); first | done | rfl) ?_; refine (impl_IsPicture.calls k A0_0 c0_0 l0_0 false _ (Kd.C_below HR0.out HB.out) HC0.out A1.out).mono ?_; rintro e w8 ⟨rfl, hb⟩; refine ⟨_, rfl, ?_⟩; have n1_ := Aside0.mk (blk_below B3.out hb); have n2_ := Aside0.mk (blk_below B4.out hb); have n3_ := Aside0.mk (blk_below B5.out hb); have n4_ := Aside0.mk (blk_below B6.out hb); have n0_ := Aside0.mk (below_step HB.out hb); clear HB B3 B4 B5 B6 hc3 hc4 hc5 hc6 hf6; have HB := n0_; have B3 := n1_; have B4 := n2_; have B5 := n3_; have B6 := n4_; clear n0_ n1_ n2_ n3_ n4_ hb; have hc3 : w8.cell? ⟨g3, 0, none⟩ = some (.slice A0_0 l0_0.length c0_0) := (blk_cell B3.out 0).trans rfl; have hc4 : w8.cell? ⟨g4, 0, none⟩ = some (.int .i64 a1) := (blk_cell B4.out 0).trans rfl; have hc5 : w8.cell? ⟨g5, 0, none⟩ = some (.slice A2_0 l2_0.length c2_0) := (blk_cell B5.out 0).trans rfl; have hc6 : w8.cell? ⟨g6, 0, none⟩ = some (.slice none 0 0) := (blk_cell B6.out 0).trans rfl; have hf6 := blk_frozen B6.out 0))
    refine bodyPost_ret (results_ct rfl _ _ g6 28 #[.slice none 0 0] (0, 0) _ rfl (blk_put (cs := #[.slice none 0 0]) B6.out 0 _ rfl) Try.underlying28 rfl (by kernel_rfl)) rfl ?_
    exact ⟨_, rfl, Kd.R_nil _ _ _ _ _, below_set HB.out S6.out⟩
  | true =>
    rw [if_pos rfl] at H
    obtain ⟨b, hB, H⟩ := Option.bind_eq_some_iff.mp H
    have A2 := Aside0.mk hB
    clear hB
    cases b with
    | false =>
      rw [if_neg (by decide)] at H
      obtain ⟨rfl, rfl⟩ := Prod.mk.inj (Option.some.inj H)
      clear H
      go_wp2_with (first | ((with_reducible refine gate_callee (f := 23) rfl ?_); refine goesL_ (some 19) rfl rfl Try.func23 (by kernel_rfl) rfl #[.agg #[.slice A0_0 l0_0.length c0_0]] rfl (by (try simp only [List.map_toArray, List.map_cons, List.map_nil]); first | done | rfl) ?_; refine (impl_IsPicture.calls k A0_0 c0_0 l0_0 true _ (Kd.C_below HR0.out HB.out) HC0.out A1.out).mono ?_; rintro e w8 ⟨rfl, hb⟩; refine ⟨_, rfl, ?_⟩; have n1_ := Aside0.mk (blk_below B3.out hb); have n2_ := Aside0.mk (blk_below B4.out hb); have n3_ := Aside0.mk (blk_below B5.out hb); have n4_ := Aside0.mk (blk_below B6.out hb); have n0_ := Aside0.mk (below_step HB.out hb); clear HB B3 B4 B5 B6 hc3 hc4 hc5 hc6 hf6; have HB := n0_; have B3 := n1_; have B4 := n2_; have B5 := n3_; have B6 := n4_; clear n0_ n1_ n2_ n3_ n4_ hb; have hc3 : w8.cell? ⟨g3, 0, none⟩ = some (.slice A0_0 l0_0.length c0_0) := (blk_cell B3.out 0).trans rfl; have hc4 : w8.cell? ⟨g4, 0, none⟩ = some (.int .i64 a1) := (blk_cell B4.out 0).trans rfl; have hc5 : w8.cell? ⟨g5, 0, none⟩ = some (.slice A2_0 l2_0.length c2_0) := (blk_cell B5.out 0).trans rfl; have hc6 : w8.cell? ⟨g6, 0, none⟩ = some (.slice none 0 0) := (blk_cell B6.out 0).trans rfl; have hf6 := blk_frozen B6.out 0) | (go_at_call 23; refine (impl_IsPicture.calls k A2_0 c2_0 l2_0 false _ (Kd.C_below HR2.out HB.out) HC2.out A2.out).mono ?_; rintro e w9 ⟨rfl, hb⟩; have n1_ := Aside0.mk (blk_below B3.out hb); have n2_ := Aside0.mk (blk_below B4.out hb); have n3_ := Aside0.mk (blk_below B5.out hb); have n4_ := Aside0.mk (blk_below B6.out hb); have n0_ := Aside0.mk (below_step HB.out hb); clear HB B3 B4 B5 B6 hc3 hc4 hc5 hc6 hf6; have HB := n0_; have B3 := n1_; have B4 := n2_; have B5 := n3_; have B6 := n4_; clear n0_ n1_ n2_ n3_ n4_ hb; have hc3 : w9.cell? ⟨g3, 0, none⟩ = some (.slice A0_0 l0_0.length c0_0) := (blk_cell B3.out 0).trans rfl; have hc4 : w9.cell? ⟨g4, 0, none⟩ = some (.int .i64 a1) := (blk_cell B4.out 0).trans rfl; have hc5 : w9.cell? ⟨g5, 0, none⟩ = some (.slice A2_0 l2_0.length c2_0) := (blk_cell B5.out 0).trans rfl; have hc6 : w9.cell? ⟨g6, 0, none⟩ = some (.slice none 0 0) := (blk_cell B6.out 0).trans rfl; have hf6 := blk_frozen B6.out 0))
      refine bodyPost_ret (results_ct rfl _ _ g6 28 #[.slice none 0 0] (0, 0) _ rfl (blk_put (cs := #[.slice none 0 0]) B6.out 0 _ rfl) Try.underlying28 rfl (by kernel_rfl)) rfl ?_
      exact ⟨_, rfl, Kd.R_nil _ _ _ _ _, below_set HB.out S6.out⟩
    | true =>
      rw [if_pos rfl] at H
      by_cases hn : a1 = 0 ∨ hs = true
      · rw [if_pos hn] at H
        obtain ⟨t, hT, H⟩ := Option.bind_eq_some_iff.mp H
        have A3 := Aside0.mk hT
        clear hT
        by_cases hle : l0_0.length ≤ 10 ∧ l2_0.length ≤ 10
        · rw [if_pos hle] at H
          obtain ⟨cc, hC, H⟩ := Option.bind_eq_some_iff.mp H
          have A4 := Aside0.mk hC
          have HL := Aside0.mk hle
          have HF := Aside0.mk (Option.some.inj H)
          clear hC H hle
          have key : (a1 != 0) = false ∨ ((a1 != 0) = true ∧ hs = true) := by
            by_cases e : a1 = 0
            · left; rw [e]; rfl
            · right; exact ⟨bne_iff_ne.2 e, hn.resolve_left e⟩
          rcases key with hk | ⟨hk, rfl⟩
          all_goals
            go_upto_region 5 with (first
              | ((with_reducible refine gate_callee (f := 23) rfl ?_); refine goesL_ (some 19) rfl rfl Try.func23 (by kernel_rfl) rfl #[.agg #[.slice A0_0 l0_0.length c0_0]] rfl (by (try simp only [List.map_toArray, List.map_cons, List.map_nil]); first | done | rfl) ?_; refine (impl_IsPicture.calls k A0_0 c0_0 l0_0 true _ (Kd.C_below HR0.out HB.out) HC0.out A1.out).mono ?_; rintro e w8 ⟨rfl, hb⟩; refine ⟨_, rfl, ?_⟩; have n1_ := Aside0.mk (blk_below B3.out hb); have n2_ := Aside0.mk (blk_below B4.out hb); have n3_ := Aside0.mk (blk_below B5.out hb); have n4_ := Aside0.mk (blk_below B6.out hb); have n0_ := Aside0.mk (below_step HB.out hb); clear HB B3 B4 B5 B6 hc3 hc4 hc5 hc6 hf6; have HB := n0_; have B3 := n1_; have B4 := n2_; have B5 := n3_; have B6 := n4_; clear n0_ n1_ n2_ n3_ n4_ hb; have hc3 : w8.cell? ⟨g3, 0, none⟩ = some (.slice A0_0 l0_0.length c0_0) := (blk_cell B3.out 0).trans rfl; have hc4 : w8.cell? ⟨g4, 0, none⟩ = some (.int .i64 a1) := (blk_cell B4.out 0).trans rfl; have hc5 : w8.cell? ⟨g5, 0, none⟩ = some (.slice A2_0 l2_0.length c2_0) := (blk_cell B5.out 0).trans rfl; have hc6 : w8.cell? ⟨g6, 0, none⟩ = some (.slice none 0 0) := (blk_cell B6.out 0).trans rfl; have hf6 := blk_frozen B6.out 0)
              | (go_at_call 23; refine (impl_IsPicture.calls k A2_0 c2_0 l2_0 true _ (Kd.C_below HR2.out HB.out) HC2.out A2.out).mono ?_; rintro e w9 ⟨rfl, hb⟩; have n1_ := Aside0.mk (blk_below B3.out hb); have n2_ := Aside0.mk (blk_below B4.out hb); have n3_ := Aside0.mk (blk_below B5.out hb); have n4_ := Aside0.mk (blk_below B6.out hb); have n0_ := Aside0.mk (below_step HB.out hb); clear HB B3 B4 B5 B6 hc3 hc4 hc5 hc6 hf6; have HB := n0_; have B3 := n1_; have B4 := n2_; have B5 := n3_; have B6 := n4_; clear n0_ n1_ n2_ n3_ n4_ hb; have hc3 : w9.cell? ⟨g3, 0, none⟩ = some (.slice A0_0 l0_0.length c0_0) := (blk_cell B3.out 0).trans rfl; have hc4 : w9.cell? ⟨g4, 0, none⟩ = some (.int .i64 a1) := (blk_cell B4.out 0).trans rfl; have hc5 : w9.cell? ⟨g5, 0, none⟩ = some (.slice A2_0 l2_0.length c2_0) := (blk_cell B5.out 0).trans rfl; have hc6 : w9.cell? ⟨g6, 0, none⟩ = some (.slice none 0 0) := (blk_cell B6.out 0).trans rfl; have hf6 := blk_frozen B6.out 0)
              | (go_at_call 24; refine (impl_greatest.calls k A0_0 c0_0 l0_0 t _ (Kd.C_below HR0.out HB.out) HC0.out A3.out).mono ?_; rintro e w10 ⟨rfl, hb⟩; have n1_ := Aside0.mk (blk_below B3.out hb); have n2_ := Aside0.mk (blk_below B4.out hb); have n3_ := Aside0.mk (blk_below B5.out hb); have n4_ := Aside0.mk (blk_below B6.out hb); have n0_ := Aside0.mk (below_step HB.out hb); clear HB B3 B4 B5 B6 hc3 hc4 hc5 hc6 hf6; have HB := n0_; have B3 := n1_; have B4 := n2_; have B5 := n3_; have B6 := n4_; clear n0_ n1_ n2_ n3_ n4_; clear hb; have hc3 : w10.cell? ⟨g3, 0, none⟩ = some (.slice A0_0 l0_0.length c0_0) := (blk_cell B3.out 0).trans rfl; have hc4 : w10.cell? ⟨g4, 0, none⟩ = some (.int .i64 a1) := (blk_cell B4.out 0).trans rfl; have hc5 : w10.cell? ⟨g5, 0, none⟩ = some (.slice A2_0 l2_0.length c2_0) := (blk_cell B5.out 0).trans rfl; have hc6 : w10.cell? ⟨g6, 0, none⟩ = some (.slice none 0 0) := (blk_cell B6.out 0).trans rfl; have hf6 := blk_frozen B6.out 0)
              | ((with_reducible refine gate_dst (N := 9) rfl ?_); refine box_event ?hg (N := 9) ?hd (cs := #[.int .i64 0]) (t := 3) ?hr ?_; (case hd => rfl); (case hg => rfl); (case hr => first | (go_simp; done) | (go_simp; rfl)); intro g9 hg w11 hbox hb; have M39 := Aside0.mk ((by rw [hg]; exact Nat.ne_of_lt (blk_lt B3.out)) : g3 ≠ g9); have M49 := Aside0.mk ((by rw [hg]; exact Nat.ne_of_lt (blk_lt B4.out)) : g4 ≠ g9); have M59 := Aside0.mk ((by rw [hg]; exact Nat.ne_of_lt (blk_lt B5.out)) : g5 ≠ g9); have M69 := Aside0.mk ((by rw [hg]; exact Nat.ne_of_lt (blk_lt B6.out)) : g6 ≠ g9); have S9 := Aside0.mk ((by rw [hg]; exact below_size HB.out) : w.heap.size ≤ g9); have B9 := Aside0.mk hbox; clear hg hbox; have n1_ := Aside0.mk (blk_below B3.out hb); have n2_ := Aside0.mk (blk_below B4.out hb); have n3_ := Aside0.mk (blk_below B5.out hb); have n4_ := Aside0.mk (blk_below B6.out hb); have n0_ := Aside0.mk (below_step HB.out hb); clear HB B3 B4 B5 B6 hc3 hc4 hc5 hc6 hf6; have HB := n0_; have B3 := n1_; have B4 := n2_; have B5 := n3_; have B6 := n4_; clear n0_ n1_ n2_ n3_ n4_; clear hb; have hc3 : w11.cell? ⟨g3, 0, none⟩ = some (.slice A0_0 l0_0.length c0_0) := (blk_cell B3.out 0).trans rfl; have hc4 : w11.cell? ⟨g4, 0, none⟩ = some (.int .i64 a1) := (blk_cell B4.out 0).trans rfl; have hc5 : w11.cell? ⟨g5, 0, none⟩ = some (.slice A2_0 l2_0.length c2_0) := (blk_cell B5.out 0).trans rfl; have hc6 : w11.cell? ⟨g6, 0, none⟩ = some (.slice none 0 0) := (blk_cell B6.out 0).trans rfl; have hf6 := blk_frozen B6.out 0; have hc9 : w11.cell? ⟨g9, 0, none⟩ = some (.int .i64 0) := (blk_cell B9.out 0).trans rfl; have hf9 := blk_frozen B9.out 0))
            have n3_ := Aside0.mk (blk_far (p := ⟨g9, 0, none⟩) B3.out M39.out (.int .i64 t))
            have n4_ := Aside0.mk (blk_far (p := ⟨g9, 0, none⟩) B4.out M49.out (.int .i64 t))
            have n5_ := Aside0.mk (blk_far (p := ⟨g9, 0, none⟩) B5.out M59.out (.int .i64 t))
            have n6_ := Aside0.mk (blk_far (p := ⟨g9, 0, none⟩) B6.out M69.out (.int .i64 t))
            have n0_ := Aside0.mk (below_set (g := g9) (j := 0) (v := .int .i64 t) HB.out S9.out)
            have n9_ : Aside0 ((w11.setCell ⟨g9, 0, none⟩ (.int .i64 t)).heap[g9]? = some (.cells #[.int .i64 t] 3 (0, 0))) := ⟨blk_put (cs := #[.int .i64 0]) B9.out 0 _ rfl⟩
            clear HB B3 B4 B5 B6 B9 hc3 hc4 hc5 hc6 hf6 hc9 hf9
            generalize w11.setCell ⟨g9, 0, none⟩ (.int .i64 t) = w12 at n0_ n3_ n4_ n5_ n6_ n9_ ⊢
            have HB := n0_
            have B3 := n3_
            have B4 := n4_
            have B5 := n5_
            have B6 := n6_
            have B9 := n9_
            clear n0_ n3_ n4_ n5_ n6_ n9_
            have hc3 : w12.cell? ⟨g3, 0, none⟩ = some (.slice A0_0 l0_0.length c0_0) := (blk_cell B3.out 0).trans rfl
            have hc4 : w12.cell? ⟨g4, 0, none⟩ = some (.int .i64 a1) := (blk_cell B4.out 0).trans rfl
            have hc5 : w12.cell? ⟨g5, 0, none⟩ = some (.slice A2_0 l2_0.length c2_0) := (blk_cell B5.out 0).trans rfl
            have hc6 : w12.cell? ⟨g6, 0, none⟩ = some (.slice none 0 0) := (blk_cell B6.out 0).trans rfl
            have hf6 := blk_frozen B6.out 0
            go_upto_region 7 with (first
              | (go_at_call 26; refine (stand.clone A0_0 c0_0 l0_0 _ (Kd.C_below HR0.out HB.out) (by have := HL.out; omega)).mono ?_; rintro e w13 ⟨v13, rfl, ho, hb⟩; have HO := Aside0.mk (Kd.R_lower ho (below_size HB.out)); clear ho; have n1_ := Aside0.mk (blk_below B3.out hb); have n2_ := Aside0.mk (blk_below B4.out hb); have n3_ := Aside0.mk (blk_below B5.out hb); have n4_ := Aside0.mk (blk_below B6.out hb); have n0_ := Aside0.mk (below_step HB.out hb); clear HB B3 B4 B5 B6 hc3 hc4 hc5 hc6 hf6; have HB := n0_; have B3 := n1_; have B4 := n2_; have B5 := n3_; have B6 := n4_; clear n0_ n1_ n2_ n3_ n4_; have n9_ := Aside0.mk (blk_below B9.out hb); clear B9; have B9 := n9_; clear n9_; clear hb; have hc3 : w13.cell? ⟨g3, 0, none⟩ = some (.slice A0_0 l0_0.length c0_0) := (blk_cell B3.out 0).trans rfl; have hc4 : w13.cell? ⟨g4, 0, none⟩ = some (.int .i64 a1) := (blk_cell B4.out 0).trans rfl; have hc5 : w13.cell? ⟨g5, 0, none⟩ = some (.slice A2_0 l2_0.length c2_0) := (blk_cell B5.out 0).trans rfl; have hc6 : w13.cell? ⟨g6, 0, none⟩ = some (.slice none 0 0) := (blk_cell B6.out 0).trans rfl; have hf6 := blk_frozen B6.out 0; obtain ⟨A13, c13, eo⟩ := Kd.R_slice HO.out; subst eo)
              | ((with_reducible refine gate_dst (N := 11) rfl ?_); refine box_event ?hg (N := 11) ?hd (cs := #[.slice none 0 0]) (t := 28) ?hr ?_; (case hd => rfl); (case hg => rfl); (case hr => first | (go_simp; done) | (go_simp; rfl)); intro g11 hg w14 hbox hb; have M311 := Aside0.mk ((by rw [hg]; exact Nat.ne_of_lt (blk_lt B3.out)) : g3 ≠ g11); have M411 := Aside0.mk ((by rw [hg]; exact Nat.ne_of_lt (blk_lt B4.out)) : g4 ≠ g11); have M511 := Aside0.mk ((by rw [hg]; exact Nat.ne_of_lt (blk_lt B5.out)) : g5 ≠ g11); have M611 := Aside0.mk ((by rw [hg]; exact Nat.ne_of_lt (blk_lt B6.out)) : g6 ≠ g11); have S11 := Aside0.mk ((by rw [hg]; exact below_size HB.out) : w.heap.size ≤ g11); have M911 := Aside0.mk ((by rw [hg]; exact Nat.ne_of_lt (blk_lt B9.out)) : g9 ≠ g11); have B11 := Aside0.mk hbox; clear hg hbox; have n1_ := Aside0.mk (blk_below B3.out hb); have n2_ := Aside0.mk (blk_below B4.out hb); have n3_ := Aside0.mk (blk_below B5.out hb); have n4_ := Aside0.mk (blk_below B6.out hb); have n0_ := Aside0.mk (below_step HB.out hb); clear HB B3 B4 B5 B6 hc3 hc4 hc5 hc6 hf6; have HB := n0_; have B3 := n1_; have B4 := n2_; have B5 := n3_; have B6 := n4_; clear n0_ n1_ n2_ n3_ n4_; have n9_ := Aside0.mk (blk_below B9.out hb); clear B9; have B9 := n9_; clear n9_; have n9_ := Aside0.mk (Kd.R_below HO.out hb); clear HO; have HO := n9_; clear n9_; clear hb; have hc3 : w14.cell? ⟨g3, 0, none⟩ = some (.slice A0_0 l0_0.length c0_0) := (blk_cell B3.out 0).trans rfl; have hc4 : w14.cell? ⟨g4, 0, none⟩ = some (.int .i64 a1) := (blk_cell B4.out 0).trans rfl; have hc5 : w14.cell? ⟨g5, 0, none⟩ = some (.slice A2_0 l2_0.length c2_0) := (blk_cell B5.out 0).trans rfl; have hc6 : w14.cell? ⟨g6, 0, none⟩ = some (.slice none 0 0) := (blk_cell B6.out 0).trans rfl; have hf6 := blk_frozen B6.out 0; have hc11 : w14.cell? ⟨g11, 0, none⟩ = some (.slice none 0 0) := (blk_cell B11.out 0).trans rfl; have hf11 := blk_frozen B11.out 0))
            have n3_ := Aside0.mk (blk_far (p := ⟨g11, 0, none⟩) B3.out M311.out (.slice A13 l0_0.length c13))
            have n4_ := Aside0.mk (blk_far (p := ⟨g11, 0, none⟩) B4.out M411.out (.slice A13 l0_0.length c13))
            have n5_ := Aside0.mk (blk_far (p := ⟨g11, 0, none⟩) B5.out M511.out (.slice A13 l0_0.length c13))
            have n6_ := Aside0.mk (blk_far (p := ⟨g11, 0, none⟩) B6.out M611.out (.slice A13 l0_0.length c13))
            have n0_ := Aside0.mk (below_set (g := g11) (j := 0) (v := .slice A13 l0_0.length c13) HB.out S11.out)
            have n9_ := Aside0.mk (blk_far (p := ⟨g11, 0, none⟩) B9.out M911.out (.slice A13 l0_0.length c13))
            have n11_ : Aside0 ((w14.setCell ⟨g11, 0, none⟩ (.slice A13 l0_0.length c13)).heap[g11]? = some (.cells #[.slice A13 l0_0.length c13] 28 (0, 0))) := ⟨blk_put (cs := #[.slice none 0 0]) B11.out 0 _ rfl⟩
            have nO_ : Aside0 (Kd.R k47 47 (w14.setCell ⟨g11, 0, none⟩ (.slice A13 l0_0.length c13)) w.heap.size (fun _ => True) (.slice A13 l0_0.length c13) l0_0) := ⟨Kd.R_mono (Kd.R_far (p := ⟨g11, 0, none⟩) (Kd.R_types HO.out B11.out (by decide)) (fun _ hk => hk.2) (.slice A13 l0_0.length c13)) (fun _ hk => trivial)⟩
            clear HB B3 B4 B5 B6 B9 B11 HO hc3 hc4 hc5 hc6 hf6 hc11 hf11
            generalize w14.setCell ⟨g11, 0, none⟩ (.slice A13 l0_0.length c13) = w15 at n0_ n3_ n4_ n5_ n6_ n9_ n11_ nO_ ⊢
            have HB := n0_
            have B3 := n3_
            have B4 := n4_
            have B5 := n5_
            have B6 := n6_
            have B9 := n9_
            have B11 := n11_
            have HO := nO_
            clear n0_ n3_ n4_ n5_ n6_ n9_ n11_ nO_
            have hc5 : w15.cell? ⟨g5, 0, none⟩ = some (.slice A2_0 l2_0.length c2_0) := (blk_cell B5.out 0).trans rfl
            go_wp2
            go_loopg [46] l2_0.length (fun gg v46 wr => ∃ (j : Nat) (v : Value), j ≤ l2_0.length ∧ l2_0.length - j ≤ gg ∧ v46 = .int .i64 j ∧ Aside0 (Kd.R k47 47 wr w.heap.size (fun _ => True) v (l0_0 ++ (l2_0.take j).map (impl_GrowOn.mv a1 t))) ∧ Aside0 (wr.heap[g11]? = some (.cells #[v] 28 (0, 0))) ∧ Aside0 (wr.heap[g4]? = some (.cells #[.int .i64 a1] 3 (0, 0))) ∧ Aside0 (wr.heap[g9]? = some (.cells #[.int .i64 t] 3 (0, 0))) ∧ Aside0 (wr.heap[g6]? = some (.cells #[.slice none 0 0] 28 (0, 0))) ∧ Aside0 (Below w.heap.size w wr))
            case atStart => exact ⟨0, _, Nat.zero_le _, by omega, rfl, ⟨by simpa using HO.out⟩, B11, B4, B9, B6, HB⟩
            case round =>
              clear HB B3 B4 B5 B6 B9 B11 HO hc5
              obtain ⟨j, v, hj, hgg, rfl, HO, B11, B4, B9, B6, HB⟩ := hrel
              by_cases hjl : j < l2_0.length
              · have hltz : (j : Int) < (l2_0.length : Int) := by omega
                have hjz : (0 : Int) ≤ (j : Int) := Int.natCast_nonneg _
                obtain ⟨ad, e0, hx0, hx1, hx2⟩ := at_T47 HR2.out (j : Int) hjz hltz
                cases e0
                replace hx0 := (HB.out.cell (World.block_lt_of_cell? w _ hx0)).trans hx0
                replace hx1 := (HB.out.cell (World.block_lt_of_cell? w _ hx1)).trans hx1
                replace hx2 := (HB.out.cell (World.block_lt_of_cell? w _ hx2)).trans hx2
                have hrd : rd_T47 l2_0 (j : Int) = l2_0[j] := by simp [rd_T47, List.getD_eq_getElem?_getD, List.getElem?_eq_getElem hjl]
                rw [hrd] at hx0 hx1 hx2
                clear hrd
                simp only [Int.toNat_natCast] at hx0 hx1 hx2
                obtain ⟨x, hx⟩ : ∃ x, l0_0 ++ (l2_0.take j).map (impl_GrowOn.mv a1 t) = x := ⟨_, rfl⟩
                have hxl : x.length ≤ 20 := by rw [← hx, List.length_append, List.length_map, List.length_take]; have := HL.out; omega
                have hnext : l0_0 ++ (l2_0.take (j + 1)).map (impl_GrowOn.mv a1 t) = x ++ [⟨impl_GrowOn.put a1 t l2_0[j].f0, impl_GrowOn.put a1 t l2_0[j].f1, l2_0[j].f2⟩] := by
                  rw [List.take_succ_eq_append_getElem hjl, List.map_append, ← List.append_assoc, hx]
                  rfl
                rw [hx] at HO
                obtain ⟨y, hy⟩ : ∃ y, l2_0[j] = y := ⟨_, rfl⟩
                rw [hy] at hx0 hx1 hx2 hnext
                have HNX := Aside0.mk hnext
                have HXL := Aside0.mk hxl
                obtain ⟨z, hz⟩ : ∃ z, z = x ++ [(⟨impl_GrowOn.put a1 t y.f0, impl_GrowOn.put a1 t y.f1, y.f2⟩ : S47)] := ⟨_, rfl⟩
                have NZ := Aside0.mk hz
                clear hnext hy hx hxl hz
                obtain ⟨Av, cv, ev⟩ := Kd.R_slice HO.out
                subst ev
                have dd : decide ((j : Int) < (l2_0.length : Int)) = true := decide_eq_true hltz
                try go_wp2_with (first | ((with_reducible refine gate_dst (N := 13) rfl ?_); refine box_event ?hg (N := 13) ?hd (cs := #[.int .i64 0, .int .i64 0, .bool false]) (t := 47) ?hr ?_; (case hd => rfl); (case hg => rfl); (case hr => first | (go_simp; done) | (go_simp; rfl)); intro gx hg wx hbox hb; have M11 := Aside0.mk ((by rw [hg]; exact Nat.ne_of_lt (blk_lt B11.out)) : g11 ≠ gx); have M4 := Aside0.mk ((by rw [hg]; exact Nat.ne_of_lt (blk_lt B4.out)) : g4 ≠ gx); have M9 := Aside0.mk ((by rw [hg]; exact Nat.ne_of_lt (blk_lt B9.out)) : g9 ≠ gx); have M6 := Aside0.mk ((by rw [hg]; exact Nat.ne_of_lt (blk_lt B6.out)) : g6 ≠ gx); have n0_ := Aside0.mk (Kd.R_below (Kd.R_elderB HO.out gx (Nat.le_of_eq hg.symm)) hb); have n1_ := Aside0.mk (below_step HB.out hb); have BX := Aside0.mk hbox; have GX := Aside0.mk ((by rw [hg]; exact (below_size HB.out)) : w.heap.size ≤ gx); have n2_ := Aside0.mk (blk_below B11.out hb); have n3_ := Aside0.mk (blk_below B4.out hb); have n4_ := Aside0.mk (blk_below B9.out hb); have n5_ := Aside0.mk (blk_below B6.out hb); clear HO HB B11 B4 B9 B6; have HO := n0_; have HB := n1_; have B11 := n2_; have B4 := n3_; have B9 := n4_; have B6 := n5_; clear n0_ n1_ n2_ n3_ n4_ n5_; clear hb hbox hg; have hcz0 : wx.cell? ⟨gx, 0, none⟩ = some (.int .i64 0) := (blk_cell BX.out 0).trans rfl; have hcz1 : wx.cell? ⟨gx, 1, none⟩ = some (.int .i64 0) := (blk_cell BX.out 1).trans rfl; have hcz2 : wx.cell? ⟨gx, 2, none⟩ = some (.bool false) := (blk_cell BX.out 2).trans rfl; have hfz0 := blk_frozen BX.out 0; have hfz1 := blk_frozen BX.out 1; have hfz2 := blk_frozen BX.out 2))
                have n0_ : Aside0 (Kd.R k47 47 (((wx.setCell ⟨gx, 0, none⟩ (.int .i64 y.f0)).setCell ⟨gx, 1, none⟩ (.int .i64 y.f1)).setCell ⟨gx, 2, none⟩ (.bool y.f2)) w.heap.size (fun k_ => k_ ≠ gx) (.slice Av x.length cv) x) := ⟨Kd.R_mono (Kd.R_far (p := ⟨gx, 2, none⟩) (Kd.R_far (p := ⟨gx, 1, none⟩) (Kd.R_far (p := ⟨gx, 0, none⟩) (Kd.R_mono HO.out (fun k_ hk => (⟨⟨hk, hk.2⟩, hk.2⟩ : (_ ∧ k_ ≠ gx) ∧ k_ ≠ gx))) (fun _ hk => hk.2) (.int .i64 y.f0)) (fun _ hk => hk.2) (.int .i64 y.f1)) (fun _ hk => hk.2) (.bool y.f2)) (fun _ hk => hk.2)⟩
                have n1_ : Aside0 ((((wx.setCell ⟨gx, 0, none⟩ (.int .i64 y.f0)).setCell ⟨gx, 1, none⟩ (.int .i64 y.f1)).setCell ⟨gx, 2, none⟩ (.bool y.f2)).heap[gx]? = some (.cells #[.int .i64 y.f0, .int .i64 y.f1, .bool y.f2] 47 (0, 0))) := ⟨blk_put (cs := #[.int .i64 y.f0, .int .i64 y.f1, .bool false]) (blk_put (cs := #[.int .i64 y.f0, .int .i64 0, .bool false]) (blk_put (cs := #[.int .i64 0, .int .i64 0, .bool false]) BX.out 0 _ rfl) 1 _ rfl) 2 _ rfl⟩
                have n2_ : Aside0 (Below w.heap.size w (((wx.setCell ⟨gx, 0, none⟩ (.int .i64 y.f0)).setCell ⟨gx, 1, none⟩ (.int .i64 y.f1)).setCell ⟨gx, 2, none⟩ (.bool y.f2))) := ⟨below_set (below_set (below_set HB.out GX.out) GX.out) GX.out⟩
                have n3_ : Aside0 ((((wx.setCell ⟨gx, 0, none⟩ (.int .i64 y.f0)).setCell ⟨gx, 1, none⟩ (.int .i64 y.f1)).setCell ⟨gx, 2, none⟩ (.bool y.f2)).heap[g4]? = some (.cells #[.int .i64 a1] 3 (0, 0))) := ⟨blk_far (p := ⟨gx, 2, none⟩) (blk_far (p := ⟨gx, 1, none⟩) (blk_far (p := ⟨gx, 0, none⟩) B4.out M4.out _) M4.out _) M4.out _⟩
                have n4_ : Aside0 ((((wx.setCell ⟨gx, 0, none⟩ (.int .i64 y.f0)).setCell ⟨gx, 1, none⟩ (.int .i64 y.f1)).setCell ⟨gx, 2, none⟩ (.bool y.f2)).heap[g9]? = some (.cells #[.int .i64 t] 3 (0, 0))) := ⟨blk_far (p := ⟨gx, 2, none⟩) (blk_far (p := ⟨gx, 1, none⟩) (blk_far (p := ⟨gx, 0, none⟩) B9.out M9.out _) M9.out _) M9.out _⟩
                have n5_ : Aside0 ((((wx.setCell ⟨gx, 0, none⟩ (.int .i64 y.f0)).setCell ⟨gx, 1, none⟩ (.int .i64 y.f1)).setCell ⟨gx, 2, none⟩ (.bool y.f2)).heap[g6]? = some (.cells #[.slice none 0 0] 28 (0, 0))) := ⟨blk_far (p := ⟨gx, 2, none⟩) (blk_far (p := ⟨gx, 1, none⟩) (blk_far (p := ⟨gx, 0, none⟩) B6.out M6.out _) M6.out _) M6.out _⟩
                have n6_ : Aside0 ((((wx.setCell ⟨gx, 0, none⟩ (.int .i64 y.f0)).setCell ⟨gx, 1, none⟩ (.int .i64 y.f1)).setCell ⟨gx, 2, none⟩ (.bool y.f2)).heap[g11]? = some (.cells #[.slice Av x.length cv] 28 (0, 0))) := ⟨blk_far (p := ⟨gx, 2, none⟩) (blk_far (p := ⟨gx, 1, none⟩) (blk_far (p := ⟨gx, 0, none⟩) B11.out M11.out _) M11.out _) M11.out _⟩
                clear HO BX HB B4 B9 B6 B11 hcz0 hcz1 hcz2 hfz0 hfz1 hfz2
                generalize (((wx.setCell ⟨gx, 0, none⟩ (.int .i64 y.f0)).setCell ⟨gx, 1, none⟩ (.int .i64 y.f1)).setCell ⟨gx, 2, none⟩ (.bool y.f2)) = w28 at n0_ n1_ n2_ n3_ n4_ n5_ n6_ ⊢
                have HO := Aside0.mk (Kd.R_drew n0_.out)
                have BX := Aside0.mk (blk_drew n1_.out)
                have HB := Aside0.mk (below_drew1 n2_.out)
                have B4 := Aside0.mk (blk_drew n3_.out)
                have B9 := Aside0.mk (blk_drew n4_.out)
                have B6 := Aside0.mk (blk_drew n5_.out)
                have B11 := Aside0.mk (blk_drew n6_.out)
                clear n0_ n1_ n2_ n3_ n4_ n5_ n6_
                refine start_ (n := 17) (S := fun w' => w'.cell? ⟨gx, 0, none⟩ = some (.int .i64 y.f0) ∧ w'.cell? ⟨gx, 1, none⟩ = some (.int .i64 y.f1) ∧ w'.cell? ⟨gx, 2, none⟩ = some (.bool y.f2) ∧ w'.cell? ⟨g11, 0, none⟩ = some (.slice Av x.length cv)) (ds := [16]) #[false, false, false, false, false, false, false, false, false, false, false, false, false, false, false, false, false] (by kernel_rfl) rfl rfl ⟨(blk_cell BX.out 0).trans rfl, (blk_cell BX.out 1).trans rfl, (blk_cell BX.out 2).trans rfl, (blk_cell B11.out 0).trans rfl⟩ (fun hHeld => ?_); refine with_tabW impl_GrowOn.tab10 impl_GrowOn.bits10 (fun HT_ HW_ => ?_)
                generalize w28.drew = w29 at HO BX HB B4 B9 B6 B11 hHeld ⊢
                refine pure_ (i := 0) (N := some 50) (v := ?_) (a' := ?_) #[true, false, false, false, false, false, false, false, false, false, false, false, false, false, false, false, false] rfl rfl (any_of HT_.out (by kernel_rfl)) (fun _ _ _ h => h) (Or.inl ⟨by rfl, ?_⟩) ?_ ?_
                rotate_left
                · intro w'
                  go_simp
                  with_reducible rfl
                rotate_left
                · simp only [Act.put, List.setIfInBounds_toArray, List.set_cons_zero, List.set_cons_succ, i64_w, i32_w]
                  rfl
                refine pure_ (i := 2) (N := some 52) (v := ?_) (a' := ?_) #[true, false, true, false, false, false, false, false, false, false, false, false, false, false, false, false, false] rfl rfl (any_of HT_.out (by kernel_rfl)) (fun _ _ _ h => h) (Or.inl ⟨by rfl, ?_⟩) ?_ ?_
                rotate_left
                · intro w'
                  go_simp
                  with_reducible rfl
                rotate_left
                · simp only [Act.put, List.setIfInBounds_toArray, List.set_cons_zero, List.set_cons_succ, i64_w, i32_w]
                  rfl
                refine pure_ (i := 3) (N := some 53) (v := ?_) (a' := ?_) #[true, false, true, true, false, false, false, false, false, false, false, false, false, false, false, false, false] rfl rfl (any_of HT_.out (by kernel_rfl)) (fun _ _ _ h => h) (Or.inl ⟨by rfl, ?_⟩) ?_ ?_
                rotate_left
                · intro w'
                  go_simp
                  with_reducible rfl
                rotate_left
                · simp only [Act.put, List.setIfInBounds_toArray, List.set_cons_zero, List.set_cons_succ, i64_w, i32_w]
                  rfl
                refine pure_ (i := 6) (N := some 56) (v := ?_) (a' := ?_) #[true, false, true, true, false, false, true, false, false, false, false, false, false, false, false, false, false] rfl rfl (any_of HT_.out (by kernel_rfl)) (fun _ _ _ h => h) (Or.inl ⟨by rfl, ?_⟩) ?_ ?_
                rotate_left
                · intro w'
                  go_simp
                  with_reducible rfl
                rotate_left
                · simp only [Act.put, List.setIfInBounds_toArray, List.set_cons_zero, List.set_cons_succ, i64_w, i32_w]
                  rfl
                refine pure_ (i := 7) (N := some 57) (v := ?_) (a' := ?_) #[true, false, true, true, false, false, true, true, false, false, false, false, false, false, false, false, false] rfl rfl (any_of HT_.out (by kernel_rfl)) (fun _ _ _ h => h) (Or.inl ⟨by rfl, ?_⟩) ?_ ?_
                rotate_left
                · intro w'
                  go_simp
                  with_reducible rfl
                rotate_left
                · simp only [Act.put, List.setIfInBounds_toArray, List.set_cons_zero, List.set_cons_succ, i64_w, i32_w]
                  rfl
                refine pure_ (i := 10) (N := some 60) (v := ?_) (a' := ?_) #[true, false, true, true, false, false, true, true, false, false, true, false, false, false, false, false, false] rfl rfl (any_of HT_.out (by kernel_rfl)) (fun _ _ _ h => h) (Or.inl ⟨by rfl, ?_⟩) ?_ ?_
                rotate_left
                · intro w'
                  go_simp
                  with_reducible rfl
                rotate_left
                · simp only [Act.put, List.setIfInBounds_toArray, List.set_cons_zero, List.set_cons_succ, i64_w, i32_w]
                  rfl
                refine take_ (i := 1) (N := some 51) (v := ?_) (a' := ?_) #[true, true, true, true, false, false, true, true, false, false, true, false, false, false, false, false, false] rfl rfl (take_ofW HT_.out HW_.out (by kernel_rfl)) (fun _ _ _ h => h) (Or.inl ⟨by rfl, ?_⟩) hHeld ?_ ?_
                rotate_left
                · rintro w' ⟨s0, s1, s2, s3⟩
                  go_simp
                  with_reducible rfl
                rotate_left
                · simp only [Act.put, List.setIfInBounds_toArray, List.set_cons_zero, List.set_cons_succ, i64_w, i32_w]
                  rfl
                refine take_ (i := 4) (N := some 54) (v := ?_) (a' := ?_) #[true, true, true, true, true, false, true, true, false, false, true, false, false, false, false, false, false] rfl rfl (take_ofW HT_.out HW_.out (by kernel_rfl)) (fun _ _ _ h => h) (Or.inl ⟨by rfl, ?_⟩) hHeld ?_ ?_
                rotate_left
                · rintro w' ⟨s0, s1, s2, s3⟩
                  go_simp
                  with_reducible rfl
                rotate_left
                · simp only [Act.put, List.setIfInBounds_toArray, List.set_cons_zero, List.set_cons_succ, i64_w, i32_w]
                  rfl
                refine take_ (i := 8) (N := some 58) (v := ?_) (a' := ?_) #[true, true, true, true, true, false, true, true, true, false, true, false, false, false, false, false, false] rfl rfl (take_ofW HT_.out HW_.out (by kernel_rfl)) (fun _ _ _ h => h) (Or.inl ⟨by rfl, ?_⟩) hHeld ?_ ?_
                rotate_left
                · rintro w' ⟨s0, s1, s2, s3⟩
                  go_simp
                  with_reducible rfl
                rotate_left
                · simp only [Act.put, List.setIfInBounds_toArray, List.set_cons_zero, List.set_cons_succ, i64_w, i32_w]
                  rfl
                refine take_ (i := 11) (N := some 61) (v := ?_) (a' := ?_) #[true, true, true, true, true, false, true, true, true, false, true, true, false, false, false, false, false] rfl rfl (take_ofW HT_.out HW_.out (by kernel_rfl)) (fun _ _ _ h => h) (Or.inl ⟨by rfl, ?_⟩) hHeld ?_ ?_
                rotate_left
                · rintro w' ⟨s0, s1, s2, s3⟩
                  go_simp
                  with_reducible rfl
                rotate_left
                · simp only [Act.put, List.setIfInBounds_toArray, List.set_cons_zero, List.set_cons_succ, i64_w, i32_w]
                  rfl
                refine one_ (i := 5) (N := some 55) #[true, true, true, true, true, true, true, true, true, false, true, true, false, false, false, false, false] rfl rfl (one_of HT_.out (by kernel_rfl)) (by decide) (fun K hK => ?_)
                refine call_ 25 #[.int .i64 y.f0, .pointer (some ⟨g4, 0, none⟩), .pointer (some ⟨g9, 0, none⟩)] (by rfl) rfl ?hrun ?_
                (case hrun => have he := EP.out #[.int .i64 y.f0, .pointer (some ⟨g4, 0, none⟩), .pointer (some ⟨g9, 0, none⟩)]; unfold execOp; simp [resolve, Deferred.ofValue, invoke, Act.eval, he])
                refine (grow.put g4 g9 a1 t y.f0 _ B4.out B9.out).mono ?_
                rintro e w30 ⟨rfl, hb⟩
                refine ⟨_, rfl, ?_⟩
                have n0_ := Aside0.mk (Kd.R_below HO.out hb)
                have n1_ := Aside0.mk (blk_below BX.out hb)
                have n2_ := Aside0.mk (below_step HB.out hb)
                have n3_ := Aside0.mk (blk_below B4.out hb)
                have n4_ := Aside0.mk (blk_below B9.out hb)
                have n5_ := Aside0.mk (blk_below B6.out hb)
                have n6_ := Aside0.mk (blk_below B11.out hb)
                clear HO BX HB B4 B9 B6 B11 hb
                have HO := n0_
                have BX := n1_
                have HB := n2_
                have B4 := n3_
                have B9 := n4_
                have B6 := n5_
                have B11 := n6_
                clear n0_ n1_ n2_ n3_ n4_ n5_ n6_
                refine hK.out _ _ ⟨(blk_cell BX.out 0).trans rfl, (blk_cell BX.out 1).trans rfl, (blk_cell BX.out 2).trans rfl, (blk_cell B11.out 0).trans rfl⟩ (fun hHeld => ?_)
                clear hK K
                refine norm_ (a' := ?_) ?_ ?_
                rotate_left
                · show Act.put _ (some 55) _ = _
                  simp only [Act.put, List.setIfInBounds_toArray, List.set_cons_zero, List.set_cons_succ, i64_w, i32_w]
                  rfl
                refine one_ (i := 9) (N := some 59) #[true, true, true, true, true, true, true, true, true, true, true, true, false, false, false, false, false] rfl rfl (one_of HT_.out (by kernel_rfl)) (by decide) (fun K hK => ?_)
                refine call_ 25 #[.int .i64 y.f1, .pointer (some ⟨g4, 0, none⟩), .pointer (some ⟨g9, 0, none⟩)] (by rfl) rfl ?hrun ?_
                (case hrun => have he := EP.out #[.int .i64 y.f1, .pointer (some ⟨g4, 0, none⟩), .pointer (some ⟨g9, 0, none⟩)]; unfold execOp; simp [resolve, Deferred.ofValue, invoke, Act.eval, he])
                refine (grow.put g4 g9 a1 t y.f1 _ B4.out B9.out).mono ?_
                rintro e w31 ⟨rfl, hb⟩
                refine ⟨_, rfl, ?_⟩
                have n0_ := Aside0.mk (Kd.R_below HO.out hb)
                have n1_ := Aside0.mk (blk_below BX.out hb)
                have n2_ := Aside0.mk (below_step HB.out hb)
                have n3_ := Aside0.mk (blk_below B4.out hb)
                have n4_ := Aside0.mk (blk_below B9.out hb)
                have n5_ := Aside0.mk (blk_below B6.out hb)
                have n6_ := Aside0.mk (blk_below B11.out hb)
                clear HO BX HB B4 B9 B6 B11 hb
                have HO := n0_
                have BX := n1_
                have HB := n2_
                have B4 := n3_
                have B9 := n4_
                have B6 := n5_
                have B11 := n6_
                clear n0_ n1_ n2_ n3_ n4_ n5_ n6_
                refine hK.out _ _ ⟨(blk_cell BX.out 0).trans rfl, (blk_cell BX.out 1).trans rfl, (blk_cell BX.out 2).trans rfl, (blk_cell B11.out 0).trans rfl⟩ (fun hHeld => ?_)
                clear hK K
                refine norm_ (a' := ?_) ?_ ?_
                rotate_left
                · show Act.put _ (some 59) _ = _
                  simp only [Act.put, List.setIfInBounds_toArray, List.set_cons_zero, List.set_cons_succ, i64_w, i32_w]
                  rfl
                refine pure_ (i := 12) (N := some 62) (v := ?_) (a' := ?_) #[true, true, true, true, true, true, true, true, true, true, true, true, true, false, false, false, false] rfl rfl (any_of HT_.out (by kernel_rfl)) (fun _ _ _ h => h) (Or.inl ⟨by rfl, ?_⟩) ?_ ?_
                rotate_left
                · intro w'
                  go_simp
                  with_reducible rfl
                rotate_left
                · simp only [Act.put, List.setIfInBounds_toArray, List.set_cons_zero, List.set_cons_succ, i64_w, i32_w]
                  rfl
                refine one_ (i := 13) (N := some 63) #[true, true, true, true, true, true, true, true, true, true, true, true, true, true, false, false, false] rfl rfl (one_of HT_.out (by kernel_rfl)) (by decide) (fun K hK => ?_)
                refine value_ (w1 := ?_) (v := ?_) (by rfl) rfl ?_ ?_
                rotate_left 2
                · go_simp
                  constructor
                  · rfl
                  · rfl
                refine hK.out _ _ ⟨(blk_cell (blk_alloc BX.out _) 0).trans rfl, (blk_cell (blk_alloc BX.out _) 1).trans rfl, (blk_cell (blk_alloc BX.out _) 2).trans rfl, (blk_cell (blk_alloc B11.out _) 0).trans rfl⟩ (fun hHeld => ?_)
                clear hK K
                refine norm_ (a' := ?_) ?_ ?_
                rotate_left
                · show Act.put _ (some 63) _ = _
                  simp only [Act.put, List.setIfInBounds_toArray, List.set_cons_zero, List.set_cons_succ, i64_w, i32_w]
                  rfl
                refine one_ (i := 14) (N := some 64) #[true, true, true, true, true, true, true, true, true, true, true, true, true, true, true, false, false] rfl rfl (one_of HT_.out (by kernel_rfl)) (by decide) (fun K hK => ?_)
                refine Kd.R_append_step k47 (w0 := w) w.heap.size (by rfl) (.tmp 51) (.tmp 63) 26 47 (.agg #[(.int .i64 0), (.int .i64 0), (.bool false)]) 24 rfl Try.underlying26 info47 rfl (by decide) (by omega) (.slice Av x.length cv) x (⟨impl_GrowOn.put a1 t y.f0, impl_GrowOn.put a1 t y.f1, y.f2⟩ : S47) [.int .i64 (impl_GrowOn.put a1 t y.f0), .int .i64 (impl_GrowOn.put a1 t y.f1), .bool y.f2] (fun k_ => k_ ≠ gx) (fun _ => False) rfl rfl ?aP (fun _ hk => hk.elim) ?aF ?aO ?aB ?aS ?aL ?_
                (case aP => exact k47_mkM _ _ _ (⟨impl_GrowOn.put a1 t y.f0, impl_GrowOn.put a1 t y.f1, y.f2⟩ : S47))
                (case aB => exact HB.out)
                (case aF => exact (fun k_ hk => Kd.freshB (g := gx) (o := .cells #[.int .i64 y.f0, .int .i64 y.f1, .bool y.f2] 47 (0, 0)) BX.out k_ hk))
                (case aO => exact (by (with_reducible repeat (first | apply Kd.R_alloc | apply Kd.R_drewN | apply Kd.R_drew)); exact HO.out))
                (case aS => exact below_size HB.out)
                (case aL => have := HXL.out; omega)
                intro v32 w32 ho hb hg hat
                rw [← NZ.out] at ho
                have n1_ := Aside0.mk (blk_grown (g := gx) (o := .cells #[.int .i64 y.f0, .int .i64 y.f1, .bool y.f2] 47 (0, 0)) BX.out hg (Kd.R_away HO.out (fun _ hk => hk)))
                have n3_ := Aside0.mk (blk_grown (g := g4) (o := .cells #[.int .i64 a1] 3 (0, 0)) B4.out hg (Kd.R_ne HO.out B4.out (by decide)))
                have n4_ := Aside0.mk (blk_grown (g := g9) (o := .cells #[.int .i64 t] 3 (0, 0)) B9.out hg (Kd.R_ne HO.out B9.out (by decide)))
                have n5_ := Aside0.mk (blk_grown (g := g6) (o := .cells #[.slice none 0 0] 28 (0, 0)) B6.out hg (Kd.R_ne HO.out B6.out (by decide)))
                have n6_ := Aside0.mk (blk_grown (g := g11) (o := .cells #[.slice Av x.length cv] 28 (0, 0)) B11.out hg (Kd.R_ne HO.out B11.out (by decide)))
                have n2_ := Aside0.mk hb
                have n0_ := Aside0.mk ho
                clear BX HB HO B4 B9 B6 B11 ho hb hg hat
                have HO := n0_
                have BX := n1_
                have HB := n2_
                have B4 := n3_
                have B9 := n4_
                have B6 := n5_
                have B11 := n6_
                clear n0_ n1_ n2_ n3_ n4_ n5_ n6_
                refine hK.out _ _ ⟨(blk_cell BX.out 0).trans rfl, (blk_cell BX.out 1).trans rfl, (blk_cell BX.out 2).trans rfl, (blk_cell B11.out 0).trans rfl⟩ (fun hHeld => ?_)
                clear hK K
                refine norm_ (a' := ?_) ?_ ?_
                rotate_left
                · show Act.put _ (some 64) _ = _
                  simp only [Act.put, List.setIfInBounds_toArray, List.set_cons_zero, List.set_cons_succ, i64_w, i32_w]
                  rfl
                refine pure_ (i := 15) (N := some 65) (v := ?_) (a' := ?_) #[true, true, true, true, true, true, true, true, true, true, true, true, true, true, true, true, false] rfl rfl (any_of HT_.out (by kernel_rfl)) (fun _ _ _ h => h) (Or.inl ⟨by rfl, ?_⟩) ?_ ?_
                rotate_left
                · intro w'
                  go_simp
                  with_reducible rfl
                rotate_left
                · simp only [Act.put, List.setIfInBounds_toArray, List.set_cons_zero, List.set_cons_succ, i64_w, i32_w]
                  rfl
                refine last_ (i := 16) (N := none) #[true, true, true, true, true, true, true, true, true, true, true, true, true, true, true, true, true] rfl rfl (one_of HT_.out (by kernel_rfl)) (by decide) (fun K hK => ?_)
                obtain ⟨A32, c32, e32⟩ := Kd.R_slice HO.out
                subst e32
                have hs11 : w32.cell? ⟨g11, 0, none⟩ = some (.slice Av x.length cv) := (blk_cell B11.out 0).trans rfl
                have hfs11 := blk_frozen B11.out 0
                refine skip_ (w1 := ?_) (by rfl) rfl ?_ ?_
                rotate_left
                · go_simp
                  rfl
                refine hK.out _ _ ?_
                clear hK K
                refine done_ (done_of HT_.out (by kernel_rfl)) ?_
                try go_wp2
                go_roundg (l2_0.length - (j + 1))
                case measure => omega
                case rel =>
                  have HG11 : w.heap.size ≤ g11 := S11.out
                  have hj10 : j < 1000 := by have := HL.out; omega
                  refine ⟨j + 1, .slice A32 z.length c32, by omega, ?_, by first | go_num | (rw [show wrap64 ((j : Int) + 1) = ((j + 1 : Nat) : Int) by unfold wrap64; omega]), ⟨?_⟩, ⟨?_⟩, ⟨?_⟩, ⟨?_⟩, ⟨?_⟩, ⟨below_set HB.out HG11⟩⟩
                  · exact Nat.le_refl _
                  · rw [HNX.out, ← NZ.out]
                    exact Kd.R_mono (Kd.R_far (p := ⟨g11, 0, none⟩) (Kd.R_types (Kd.R_mono HO.out (fun _ _ => trivial)) B11.out (by decide)) (fun _ hk => hk.2) _) (fun _ hk => trivial)
                  · exact blk_put (cs := #[.slice Av x.length cv]) B11.out 0 _ rfl
                  · exact blk_far (p := ⟨g11, 0, none⟩) B4.out M411.out _
                  · exact blk_far (p := ⟨g11, 0, none⟩) B9.out M911.out _
                  · exact blk_far (p := ⟨g11, 0, none⟩) B6.out M611.out _
              · obtain rfl : j = l2_0.length := by omega
                have dd : decide ((l2_0.length : Int) < (l2_0.length : Int)) = false := decide_eq_false (by omega)
                rw [List.take_length] at HO
                obtain ⟨Ao, co, eo⟩ := Kd.R_slice HO.out
                subst eo
                have HQ := Aside0.mk (Kd.R_reads' HO.out).2.1
                have hf := HF.out
                clear HF
                generalize l0_0 ++ l2_0.map (impl_GrowOn.mv a1 t) = o at *
                have hc11 : wr.cell? ⟨g11, 0, none⟩ = some (.slice Ao o.length co) := (blk_cell B11.out 0).trans rfl
                cases cc with
                | false =>
                  rw [if_neg (by decide)] at hf
                  obtain ⟨rfl, rfl⟩ := Prod.mk.inj hf
                  go_wp2_with (first | (go_at_call 23; refine (impl_IsPicture.calls k Ao co o false _ (Kd.R_reads' HO.out).2.2 HQ.out A4.out).mono ?_; rintro e w33 ⟨rfl, hb⟩; have n0_ := Aside0.mk (below_step HB.out hb); have n6_ := Aside0.mk (blk_below B6.out hb); clear HB B6 hb; have HB := n0_; have B6 := n6_; clear n0_ n6_; have hc6 : w33.cell? ⟨g6, 0, none⟩ = some (.slice none 0 0) := (blk_cell B6.out 0).trans rfl; have hf6 := blk_frozen B6.out 0))
                  refine bodyPost_ret (results_ct rfl _ _ g6 28 #[.slice none 0 0] (0, 0) _ rfl (blk_put (cs := #[.slice none 0 0]) B6.out 0 _ rfl) Try.underlying28 rfl (by kernel_rfl)) rfl ?_
                  exact ⟨_, rfl, Kd.R_nil _ _ _ _ _, below_set HB.out S6.out⟩
                | true =>
                  rw [if_pos rfl] at hf
                  obtain ⟨rfl, rfl⟩ := Prod.mk.inj hf
                  go_wp2_with (first | (go_at_call 23; refine (impl_IsPicture.calls k Ao co o true _ (Kd.R_reads' HO.out).2.2 HQ.out A4.out).mono ?_; rintro e w33 ⟨rfl, hb⟩; have n0_ := Aside0.mk (below_step HB.out hb); have n6_ := Aside0.mk (blk_below B6.out hb); have n1_ := Aside0.mk (blk_below B11.out hb); have n2_ := Aside0.mk (Kd.R_below HO.out hb); clear HB B6 B11 HO hc11 hb; have HB := n0_; have B6 := n6_; have B11 := n1_; have HO := n2_; clear n0_ n6_ n1_ n2_; have hc6 : w33.cell? ⟨g6, 0, none⟩ = some (.slice none 0 0) := (blk_cell B6.out 0).trans rfl; have hc11 : w33.cell? ⟨g11, 0, none⟩ = some (.slice Ao o.length co) := (blk_cell B11.out 0).trans rfl; have hf6 := blk_frozen B6.out 0))
                  refine bodyPost_ret (results_ct rfl _ _ g6 28 #[.slice Ao o.length co] (0, 0) _ rfl (blk_put (cs := #[.slice none 0 0]) B6.out 0 _ rfl) Try.underlying28 rfl (by kernel_rfl)) rfl ?_
                  exact ⟨_, rfl, Kd.R_mono (Kd.R_far (p := ⟨g6, 0, none⟩) (Kd.R_types HO.out B6.out (by decide)) (fun _ hk => hk.2) (.slice Ao o.length co)) (fun _ hk => trivial), below_set HB.out S6.out⟩
        · rw [if_neg hle] at H
          cases H
      · rw [if_neg hn] at H
        obtain ⟨rfl, rfl⟩ := Prod.mk.inj (Option.some.inj H)
        clear H
        rw [not_or] at hn
        have hn1 : (a1 != 0) = true := bne_iff_ne.2 hn.1
        have hn2 : hs = false := Bool.eq_false_iff.2 hn.2
        subst hn2
        clear hn
        go_wp2_with (first | ((with_reducible refine gate_callee (f := 23) rfl ?_); refine goesL_ (some 19) rfl rfl Try.func23 (by kernel_rfl) rfl #[.agg #[.slice A0_0 l0_0.length c0_0]] rfl (by (try simp only [List.map_toArray, List.map_cons, List.map_nil]); first | done | rfl) ?_; refine (impl_IsPicture.calls k A0_0 c0_0 l0_0 true _ (Kd.C_below HR0.out HB.out) HC0.out A1.out).mono ?_; rintro e w8 ⟨rfl, hb⟩; refine ⟨_, rfl, ?_⟩; have n1_ := Aside0.mk (blk_below B3.out hb); have n2_ := Aside0.mk (blk_below B4.out hb); have n3_ := Aside0.mk (blk_below B5.out hb); have n4_ := Aside0.mk (blk_below B6.out hb); have n0_ := Aside0.mk (below_step HB.out hb); clear HB B3 B4 B5 B6 hc3 hc4 hc5 hc6 hf6; have HB := n0_; have B3 := n1_; have B4 := n2_; have B5 := n3_; have B6 := n4_; clear n0_ n1_ n2_ n3_ n4_ hb; have hc3 : w8.cell? ⟨g3, 0, none⟩ = some (.slice A0_0 l0_0.length c0_0) := (blk_cell B3.out 0).trans rfl; have hc4 : w8.cell? ⟨g4, 0, none⟩ = some (.int .i64 a1) := (blk_cell B4.out 0).trans rfl; have hc5 : w8.cell? ⟨g5, 0, none⟩ = some (.slice A2_0 l2_0.length c2_0) := (blk_cell B5.out 0).trans rfl; have hc6 : w8.cell? ⟨g6, 0, none⟩ = some (.slice none 0 0) := (blk_cell B6.out 0).trans rfl; have hf6 := blk_frozen B6.out 0) | (go_at_call 23; refine (impl_IsPicture.calls k A2_0 c2_0 l2_0 true _ (Kd.C_below HR2.out HB.out) HC2.out A2.out).mono ?_; rintro e w9 ⟨rfl, hb⟩; have n1_ := Aside0.mk (blk_below B3.out hb); have n2_ := Aside0.mk (blk_below B4.out hb); have n3_ := Aside0.mk (blk_below B5.out hb); have n4_ := Aside0.mk (blk_below B6.out hb); have n0_ := Aside0.mk (below_step HB.out hb); clear HB B3 B4 B5 B6 hc3 hc4 hc5 hc6 hf6; have HB := n0_; have B3 := n1_; have B4 := n2_; have B5 := n3_; have B6 := n4_; clear n0_ n1_ n2_ n3_ n4_ hb; have hc3 : w9.cell? ⟨g3, 0, none⟩ = some (.slice A0_0 l0_0.length c0_0) := (blk_cell B3.out 0).trans rfl; have hc4 : w9.cell? ⟨g4, 0, none⟩ = some (.int .i64 a1) := (blk_cell B4.out 0).trans rfl; have hc5 : w9.cell? ⟨g5, 0, none⟩ = some (.slice A2_0 l2_0.length c2_0) := (blk_cell B5.out 0).trans rfl; have hc6 : w9.cell? ⟨g6, 0, none⟩ = some (.slice none 0 0) := (blk_cell B6.out 0).trans rfl; have hf6 := blk_frozen B6.out 0))
        refine bodyPost_ret (results_ct rfl _ _ g6 28 #[.slice none 0 0] (0, 0) _ rfl (blk_put (cs := #[.slice none 0 0]) B6.out 0 _ rfl) Try.underlying28 rfl (by kernel_rfl)) rfl ?_
        exact ⟨_, rfl, Kd.R_nil _ _ _ _ _, below_set HB.out S6.out⟩

/-! ### impl_SumOfPictures: function 13 -/
def impl_SumOfPictures.f (k : Nat) (l0_0 : List (S47)) (l1_0 : List (S47)) : Option ((List (S47)) × Bool) := (impl_GrowOn.f k l0_0 0 l1_0).bind fun bt242 => (some (bt242.1, bt242.2))
theorem impl_SumOfPictures.mono : ∀ a0 a1 k, LeO (impl_SumOfPictures.f k a0 a1) (impl_SumOfPictures.f (k + 1) a0 a1) := by
  intro a0 a1 k
  unfold impl_SumOfPictures.f
  repeat' first
      | (with_reducible exact impl_GrowOn.mono _ _ _ _)
      | (with_reducible exact LeO.refl _)
      | (with_reducible exact LeO.none _)
      | (with_reducible refine LeO.ite ?_ ?_)
      | (with_reducible refine LeO.bind ?_ (fun _ => ?_))
      | exact impl_GrowOn.mono _ _ _ _
      | exact LeO.none _
      | refine LeO.ite ?_ ?_
      | refine LeO.bind ?_ (fun _ => ?_)
set_option maxHeartbeats 8000000 in
set_option maxRecDepth 100000 in
theorem impl_SumOfPictures.calls (k : Nat) (A0_0 : Option Addr) (c0_0 : Nat) (l0_0 : List (S47)) (A1_0 : Option Addr) (c1_0 : Nat) (l1_0 : List (S47)) (r1 : List (S47)) (r2 : Bool) (w : World) (hr0_0 : Kd.C k47 w A0_0 l0_0.length l0_0) (hc0_0 : l0_0.length ≤ c0_0) (hr1_0 : Kd.C k47 w A1_0 l1_0.length l1_0) (hc1_0 : l1_0.length ≤ c1_0) (h : impl_SumOfPictures.f k l0_0 l1_0 = some (r1, r2)) :
    Calls Try.prog 13 #[.agg #[.slice A0_0 l0_0.length c0_0], .agg #[.slice A1_0 l1_0.length c1_0]] w fun e w' => ∃ v0_ : Value, e = .returned (.tuple #[.agg #[v0_], .bool r2]) ∧ Kd.R k47 47 w' w.heap.size (fun _ => True) v0_ r1 ∧ Below w.heap.size w w' := by
  have hu28 := Try.underlying28
  have HR0_0 := Aside0.mk hr0_0
  have HC0_0 := Aside0.mk hc0_0
  clear hr0_0 hc0_0
  have HR1_0 := Aside0.mk hr1_0
  have HC1_0 := Aside0.mk hc1_0
  clear hr1_0 hc1_0
  have HB := Aside0.mk (Below.refl w.heap.size w)
  have H : ((impl_GrowOn.f k l0_0 0 l1_0).bind fun bt242 => (some (bt242.1, bt242.2))) = some (r1, r2) := h
  clear h
  replace H := Option.bind_eq_some_iff.mp H
  obtain ⟨⟨t242, t245⟩, A30, H⟩ := H
  replace H : (some (t242, t245)) = some (r1, r2) := H
  have A3 := Aside0.mk A30
  clear A30
  simp only [Option.some.injEq, Prod.mk.injEq] at H
  obtain ⟨rfl, rfl⟩ := H
  go_enter Try.func13, Try.ntmps13
  go_wp2_with (first | ((with_reducible refine gate_dst (N := 2) rfl ?_); refine box_event ?hg (N := 2) ?hd (cs := #[.slice A0_0 l0_0.length c0_0]) (t := 28) ?hr ?_; (case hd => rfl); (case hg => rfl); (case hr => first | (go_simp; done) | (go_simp; rfl)); intro gb239 hg w4 hbox hb; have n0_ := Aside0.mk (below_step (by repeat (first | (with_reducible first | exact HB.out | apply below_alloc | apply pw_below_drewN | apply below_drew1) | exact HB.out)) hb); have n1_ := Aside0.mk (hbox); have n2_ := Aside0.mk ((by rw [hg]; exact (below_size (by repeat (first | (with_reducible first | exact HB.out | apply below_alloc | apply pw_below_drewN | apply below_drew1) | exact HB.out))) : w.heap.size ≤ gb239)); have n3_ := Aside0.mk ((by rw [hg]; exact (below_size (by repeat (first | (with_reducible first | exact HB.out | apply below_alloc | apply pw_below_drewN | apply below_drew1) | exact HB.out))) : w.heap.size ≤ gb239)); clear HB; have HB := n0_; have BK239 := n1_; have GW239 := n2_; have GE239 := n3_; clear n0_ n1_ n2_ n3_; clear hb hbox hg) | ((with_reducible refine gate_dst (N := 3) rfl ?_); refine box_event ?hg (N := 3) ?hd (cs := #[.slice A1_0 l1_0.length c1_0]) (t := 28) ?hr ?_; (case hd => rfl); (case hg => rfl); (case hr => first | (go_simp; done) | (go_simp; rfl)); intro gb240 hg w5 hbox hb; have n0_ := Aside0.mk (blk_below (g := gb239) (o := .cells #[.slice A0_0 l0_0.length c0_0] 28 (0, 0)) (by (with_reducible repeat (first | refine blk_drewN ?_ _ | refine blk_drew ?_ | refine blk_alloc ?_ _)); exact BK239.out) hb); have n1_ := Aside0.mk (below_step (by repeat (first | (with_reducible first | exact HB.out | apply below_alloc | apply pw_below_drewN | apply below_drew1 | refine below_set ?_ GE239.out) | exact HB.out)) hb); have n2_ := Aside0.mk (hbox); have n3_ := Aside0.mk ((by rw [hg]; exact (below_size (by repeat (first | (with_reducible first | exact HB.out | apply below_alloc | apply pw_below_drewN | apply below_drew1 | refine below_set ?_ GE239.out) | exact HB.out))) : w.heap.size ≤ gb240)); have n4_ := Aside0.mk ((by rw [hg]; exact (below_size (by repeat (first | (with_reducible first | exact HB.out | apply below_alloc | apply pw_below_drewN | apply below_drew1 | refine below_set ?_ GE239.out) | exact HB.out))) : w.heap.size ≤ gb240)); have n5_ := Aside0.mk ((by rw [hg]; exact Nat.ne_of_lt (blk_lt (g := gb239) (o := .cells #[.slice A0_0 l0_0.length c0_0] 28 (0, 0)) (by (with_reducible repeat (first | refine blk_drewN ?_ _ | refine blk_drew ?_ | refine blk_alloc ?_ _)); exact BK239.out)) : gb239 ≠ gb240)); have n6_ := Aside0.mk ((by rw [hg]; exact Nat.ne_of_gt (blk_lt (g := gb239) (o := .cells #[.slice A0_0 l0_0.length c0_0] 28 (0, 0)) (by (with_reducible repeat (first | refine blk_drewN ?_ _ | refine blk_drew ?_ | refine blk_alloc ?_ _)); exact BK239.out)) : gb240 ≠ gb239)); clear BK239; clear HB; have BK239 := n0_; have HB := n1_; have BK240 := n2_; have GW240 := n3_; have GE240 := n4_; have NB239_240 := n5_; have NB240_239 := n6_; clear n0_ n1_ n2_ n3_ n4_ n5_ n6_; clear hb hbox hg) | ((with_reducible refine gate_dst (N := 4) rfl ?_); refine box_event ?hg (N := 4) ?hd (cs := #[.slice none 0 0]) (t := 28) ?hr ?_; (case hd => rfl); (case hg => rfl); (case hr => first | (go_simp; done) | (go_simp; rfl)); intro gb241 hg w6 hbox hb; have n0_ := Aside0.mk (blk_below (g := gb239) (o := .cells #[.slice A0_0 l0_0.length c0_0] 28 (0, 0)) (by (with_reducible repeat (first | refine blk_drewN ?_ _ | refine blk_drew ?_ | refine blk_alloc ?_ _)); exact BK239.out) hb); have n1_ := Aside0.mk (blk_below (g := gb240) (o := .cells #[.slice A1_0 l1_0.length c1_0] 28 (0, 0)) (by (with_reducible repeat (first | refine blk_drewN ?_ _ | refine blk_drew ?_ | refine blk_alloc ?_ _)); exact BK240.out) hb); have n2_ := Aside0.mk (below_step (by repeat (first | (with_reducible first | exact HB.out | apply below_alloc | apply pw_below_drewN | apply below_drew1 | refine below_set ?_ GE239.out | refine below_set ?_ GE240.out) | exact HB.out)) hb); have n3_ := Aside0.mk (hbox); have n4_ := Aside0.mk ((by rw [hg]; exact (below_size (by repeat (first | (with_reducible first | exact HB.out | apply below_alloc | apply pw_below_drewN | apply below_drew1 | refine below_set ?_ GE239.out | refine below_set ?_ GE240.out) | exact HB.out))) : w.heap.size ≤ gb241)); have n5_ := Aside0.mk ((by rw [hg]; exact (below_size (by repeat (first | (with_reducible first | exact HB.out | apply below_alloc | apply pw_below_drewN | apply below_drew1 | refine below_set ?_ GE239.out | refine below_set ?_ GE240.out) | exact HB.out))) : w.heap.size ≤ gb241)); have n6_ := Aside0.mk ((by rw [hg]; exact Nat.ne_of_lt (blk_lt (g := gb239) (o := .cells #[.slice A0_0 l0_0.length c0_0] 28 (0, 0)) (by (with_reducible repeat (first | refine blk_drewN ?_ _ | refine blk_drew ?_ | refine blk_alloc ?_ _)); exact BK239.out)) : gb239 ≠ gb241)); have n7_ := Aside0.mk ((by rw [hg]; exact Nat.ne_of_gt (blk_lt (g := gb239) (o := .cells #[.slice A0_0 l0_0.length c0_0] 28 (0, 0)) (by (with_reducible repeat (first | refine blk_drewN ?_ _ | refine blk_drew ?_ | refine blk_alloc ?_ _)); exact BK239.out)) : gb241 ≠ gb239)); have n8_ := Aside0.mk ((by rw [hg]; exact Nat.ne_of_lt (blk_lt (g := gb240) (o := .cells #[.slice A1_0 l1_0.length c1_0] 28 (0, 0)) (by (with_reducible repeat (first | refine blk_drewN ?_ _ | refine blk_drew ?_ | refine blk_alloc ?_ _)); exact BK240.out)) : gb240 ≠ gb241)); have n9_ := Aside0.mk ((by rw [hg]; exact Nat.ne_of_gt (blk_lt (g := gb240) (o := .cells #[.slice A1_0 l1_0.length c1_0] 28 (0, 0)) (by (with_reducible repeat (first | refine blk_drewN ?_ _ | refine blk_drew ?_ | refine blk_alloc ?_ _)); exact BK240.out)) : gb241 ≠ gb240)); clear BK239; clear BK240; clear HB; have BK239 := n0_; have BK240 := n1_; have HB := n2_; have BK241 := n3_; have GW241 := n4_; have GE241 := n5_; have NB239_241 := n6_; have NB241_239 := n7_; have NB240_241 := n8_; have NB241_240 := n9_; clear n0_ n1_ n2_ n3_ n4_ n5_ n6_ n7_ n8_ n9_; clear hb hbox hg; have hnb7 := NB239_240.out; have hnc7 := NB240_239.out; have hnb8 := NB239_241.out; have hnc8 := NB241_239.out; have hcz9_0 : w6.cell? ⟨gb239, 0, none⟩ = some (.slice A0_0 l0_0.length c0_0) := (blk_cell BK239.out 0).trans rfl; have hfz9_0 := blk_frozen BK239.out 0; have hnb10 := NB240_241.out; have hnc10 := NB241_240.out; have hcz11_0 : w6.cell? ⟨gb240, 0, none⟩ = some (.slice A1_0 l1_0.length c1_0) := (blk_cell BK240.out 0).trans rfl; have hfz11_0 := blk_frozen BK240.out 0) | ((with_reducible refine gate_callee (f := 8) rfl ?_); refine goesL_ (some 8) rfl rfl Try.func8 (by kernel_rfl) rfl #[.agg #[.slice A0_0 l0_0.length c0_0], .int .i64 0, .agg #[.slice A1_0 l1_0.length c1_0]] rfl (by (try simp only [List.map_toArray, List.map_cons, List.map_nil]); first | done | rfl | (simp only [List.length_drop, List.length_take]; rfl)) ?_; (with_reducible refine (impl_GrowOn.calls k _ _ l0_0 0 _ _ l1_0 t242 t245 _ ?side1 ?side2 ?side3 ?side4 A3.out).mono ?_); (case side1 => repeat (first | exact (Kd.C_below HR0_0.out HB.out) | (with_reducible refine Kd.C_alloc ?_ _) | (with_reducible refine Kd.C_drewN ?_ _) | (with_reducible refine Kd.C_drew ?_))); (case side2 => exact HC0_0.out); (case side3 => repeat (first | exact (Kd.C_below HR1_0.out HB.out) | (with_reducible refine Kd.C_alloc ?_ _) | (with_reducible refine Kd.C_drewN ?_ _) | (with_reducible refine Kd.C_drew ?_))); (case side4 => exact HC1_0.out); rintro e w12 ⟨v243, rfl, ho0, hb⟩; refine ⟨_, rfl, ?_⟩; have n0_ := Aside0.mk (Kd.R_lower ho0 (below_size (by repeat (first | (with_reducible first | exact HB.out | apply below_alloc | apply pw_below_drewN | apply below_drew1 | refine below_set ?_ GE239.out | refine below_set ?_ GE240.out | refine below_set ?_ GE241.out) | exact HB.out)))); have n1_ := Aside0.mk (blk_below (g := gb239) (o := .cells #[.slice A0_0 l0_0.length c0_0] 28 (0, 0)) (by (with_reducible repeat (first | refine blk_drewN ?_ _ | refine blk_drew ?_ | refine blk_alloc ?_ _)); exact BK239.out) hb); have n2_ := Aside0.mk (blk_below (g := gb240) (o := .cells #[.slice A1_0 l1_0.length c1_0] 28 (0, 0)) (by (with_reducible repeat (first | refine blk_drewN ?_ _ | refine blk_drew ?_ | refine blk_alloc ?_ _)); exact BK240.out) hb); have n3_ := Aside0.mk (blk_below (g := gb241) (o := .cells #[.slice none 0 0] 28 (0, 0)) (by (with_reducible repeat (first | refine blk_drewN ?_ _ | refine blk_drew ?_ | refine blk_alloc ?_ _)); exact BK241.out) hb); have n4_ := Aside0.mk (below_step (by repeat (first | (with_reducible first | exact HB.out | apply below_alloc | apply pw_below_drewN | apply below_drew1 | refine below_set ?_ GE239.out | refine below_set ?_ GE240.out | refine below_set ?_ GE241.out) | exact HB.out)) hb); clear BK239; clear BK240; clear BK241; clear HB; have HO244 := n0_; have BK239 := n1_; have BK240 := n2_; have BK241 := n3_; have HB := n4_; clear n0_ n1_ n2_ n3_ n4_; (try clear hb); (try clear hb2); (try clear hk); (try clear hi); (try clear ho0); obtain ⟨Ao13, co13, eo13⟩ := Kd.R_slice HO244.out; subst eo13; have hcz14_0 : w12.cell? ⟨gb241, 0, none⟩ = some (.slice none 0 0) := (blk_cell BK241.out 0).trans rfl; have hfz14_0 := blk_frozen BK241.out 0))
  refine bodyPost_ret (results_ct rfl _ _ gb241 28 #[.slice Ao13 t242.length co13] (0, 0) _ rfl (by (with_reducible repeat (first | refine blk_drewN ?_ _ | refine blk_drew ?_ | refine blk_alloc ?_ _)); refine blk_put (cs := #[.slice none 0 0]) ?_ 0 _ rfl; (with_reducible repeat (first | refine blk_drewN ?_ _ | refine blk_drew ?_ | refine blk_alloc ?_ _)); exact BK241.out) Try.underlying28 rfl (by kernel_rfl)) rfl ?_
  exact ⟨_, by first | rfl | (simp [errW_none, errW_some] <;> rfl) | (simp [*, errW_none, errW_some] <;> rfl), by (with_reducible repeat (first | apply Kd.R_alloc | apply Kd.R_drewN | apply Kd.R_drew)); exact Kd.R_mono (Kd.R_far (p := ⟨gb241, 0, none⟩) (Kd.R_types HO244.out BK241.out (by decide)) (fun _ hk => hk.2) (.slice Ao13 t242.length co13)) (fun _ hk => trivial), by repeat (first | (with_reducible first | exact HB.out | apply below_alloc | apply pw_below_drewN | apply below_drew1 | refine below_set ?_ GE239.out | refine below_set ?_ GE240.out | refine below_set ?_ GE241.out) | exact HB.out)⟩

end Go.Proofs.Ytnabbkaipfhmdaa.QFnExactSumOfPictures
