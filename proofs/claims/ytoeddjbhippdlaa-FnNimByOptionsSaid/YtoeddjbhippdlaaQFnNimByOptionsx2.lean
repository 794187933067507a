/- The Go functions that the law FnNimByOptions reaches, as Lean functions, and what their calls do. Written by a program of this session. -/
import Derived.Test.YtoeddjbhippdlaaQFnNimByOptionsx0
import Derived.Test.YtoeddjbhippdlaaQFnNimByOptionsx1
namespace Go.Proofs.Ytoeddjbhippdlaa.QFnNimByOptions
open Go.RowKit Go.Proofs.YtoeddjbhippdlaaW.PrintWords Go.Proofs.YtoeddjbhippdlaaW.PrintLast Go.Proofs.YtoeddjbhippdlaaW.PrintMore
attribute [local go_sem] max2_int min2_int max_two min_two max_three min_three max_four min_four   -- for this text's walks alone
set_option linter.unusedVariables false
set_option linter.unusedSimpArgs false

/-! ### spec_l1Cur_pick: function 29 -/
def spec_l1Cur_pick.f (s0_0 : List Int) (s0_1 : Int) (s0_2 : Int) (a1 : Int) : Option (Int × Int × Int) := if a1 ≤ 1 then (some (0, s0_1, s0_2)) else ((spec_l1Cur_next.f s0_0 s0_1 s0_2).bind fun bt111 => (if a1 > 200 then ((spec_l1Cur_next.f s0_0 bt111.2.1 bt111.2.2).bind fun bt114 => (if a1 = 0 then (none) else (some (Int.tmod (wrap64 ((wrap64 (bt111.1 * 256)) + bt114.1)) a1, bt114.2.1, bt114.2.2)))) else (if a1 = 0 then (none) else (some (Int.tmod bt111.1 a1, bt111.2.1, bt111.2.2)))))
set_option maxHeartbeats 8000000 in
set_option maxRecDepth 100000 in
theorem spec_l1Cur_pick.calls (g : Nat) (s0_0 : List Int) (s0_1 : Int) (s0_2 : Int) (a1 : Int) (r1 : Int) (r2 : Int) (r3 : Int) (w0 w : World) (hI : IsS41 w0 w g s0_0 s0_1 s0_2) (hB : Below w0.heap.size w0 w) (h : spec_l1Cur_pick.f s0_0 s0_1 s0_2 a1 = some (r1, r2, r3)) :
    Calls Try.prog 29 #[.pointer (some ⟨g, 0, none⟩), .int .i64 a1] w fun e w' => e = .returned (.int .i64 r1) ∧ IsS41 w0 w' g s0_0 r2 r3 ∧ Below w0.heap.size w0 w' ∧ KeepBut w w' g none := by
  have HI0 := Aside0.mk hI
  have HK := Aside0.mk (KeepBut.refl w g none)
  have HL := Aside0.mk hB.size
  clear hI
  have HW0 := Aside0.mk hB.size
  have HB := Aside0.mk hB
  clear hB
  have H : (if a1 ≤ 1 then (some (0, s0_1, s0_2)) else ((spec_l1Cur_next.f s0_0 s0_1 s0_2).bind fun bt111 => (if a1 > 200 then ((spec_l1Cur_next.f s0_0 bt111.2.1 bt111.2.2).bind fun bt114 => (if a1 = 0 then (none) else (some (Int.tmod (wrap64 ((wrap64 (bt111.1 * 256)) + bt114.1)) a1, bt114.2.1, bt114.2.2)))) else (if a1 = 0 then (none) else (some (Int.tmod bt111.1 a1, bt111.2.1, bt111.2.2)))))) = some (r1, r2, r3) := h
  clear h
  by_cases c3 : a1 ≤ 1
  · rw [if_pos c3] at H
    have c3b0 : decide (a1 ≤ 1) = true := decide_eq_true c3
    clear c3
    simp only [Option.some.injEq, Prod.mk.injEq] at H
    obtain ⟨rfl, rfl, rfl⟩ := H
    go_enter Try.func29, Try.ntmps29
    go_wp2
    go_ret
    exact ⟨by first | rfl | (simp [errW_none, errW_some] <;> rfl) | (simp [*, errW_none, errW_some] <;> rfl), by repeat (first | (with_reducible first | exact HI0.out | apply IsS41.alloc | apply IsS41.drewN | apply IsS41.drew | apply IsS41.set_1 | apply IsS41.set_2) | exact HI0.out), by repeat (first | (with_reducible first | exact HB.out | apply below_alloc | apply pw_below_drewN | apply below_drew1 | refine below_set ?_ (IsS41.ge HI0.out)) | exact HB.out), by repeat (first | (with_reducible first | exact HK.out | apply KeepBut.set_ | apply keep_drewN | apply keep_drew | apply keep_alloc) | exact HK.out)⟩
  · rw [if_neg c3] at H
    have c3b0 : decide (a1 ≤ 1) = false := decide_eq_false c3
    clear c3
    replace H := Option.bind_eq_some_iff.mp H
    obtain ⟨⟨t111, t112, t113⟩, A40, H⟩ := H
    replace H : (if a1 > 200 then ((spec_l1Cur_next.f s0_0 t112 t113).bind fun bt114 => (if a1 = 0 then (none) else (some (Int.tmod (wrap64 ((wrap64 (t111 * 256)) + bt114.1)) a1, bt114.2.1, bt114.2.2)))) else (if a1 = 0 then (none) else (some (Int.tmod t111 a1, t112, t113)))) = some (r1, r2, r3) := H
    have A4 := Aside0.mk A40
    clear A40
    by_cases c5 : a1 > 200
    · rw [if_pos c5] at H
      have c5b0 : decide (200 < a1) = true := decide_eq_true c5
      clear c5
      replace H := Option.bind_eq_some_iff.mp H
      obtain ⟨⟨t114, t115, t116⟩, A60, H⟩ := H
      replace H : (if a1 = 0 then (none) else (some (Int.tmod (wrap64 ((wrap64 (t111 * 256)) + t114)) a1, t115, t116))) = some (r1, r2, r3) := H
      have A6 := Aside0.mk A60
      clear A60
      by_cases c7 : a1 = 0
      · rw [if_pos c7] at H
        exact absurd H (by simp)
      · rw [if_neg c7] at H
        have c7b0 : (a1 == 0) = false := beq_eq_false_iff_ne.mpr c7
        have c7b1 : (a1 != 0) = true := bne_iff_ne.mpr c7
        simp only [Option.some.injEq, Prod.mk.injEq] at H
        obtain ⟨rfl, rfl, rfl⟩ := H
        go_enter Try.func29, Try.ntmps29
        go_wp2_with (first | ((with_reducible refine gate_callee (f := 41) rfl ?_); refine goesL_ (some 9) rfl rfl Try.func41 (by kernel_rfl) rfl #[.pointer (some ⟨g, 0, none⟩)] rfl (by (try simp only [List.map_toArray, List.map_cons, List.map_nil]); first | done | rfl | (simp only [List.length_drop, List.length_take]; rfl)) ?_; (with_reducible refine (spec_l1Cur_next.calls g s0_0 s0_1 s0_2 t111 t112 t113 w0 _ ?side1 ?side2 A4.out).mono ?_); (case side1 => repeat (first | (with_reducible first | exact HI0.out | apply IsS41.alloc | apply IsS41.drewN | apply IsS41.drew | apply IsS41.set_1 | apply IsS41.set_2) | exact HI0.out)); (case side2 => repeat (first | (with_reducible first | exact HB.out | apply below_alloc | apply pw_below_drewN | apply below_drew1 | refine below_set ?_ (IsS41.ge HI0.out)) | exact HB.out)); rintro e w8 ⟨rfl, hi, hb, hk⟩; refine ⟨_, rfl, ?_⟩; have n0_ := Aside0.mk (KeepBut.trans (by repeat (first | (with_reducible first | exact HK.out | apply KeepBut.set_ | apply keep_drewN | apply keep_drew | apply keep_alloc) | exact HK.out)) hk (.inl rfl)); have n1_ := Aside0.mk (hb); have n2_ := Aside0.mk (hi); clear HK; clear HB; clear HI0; have HK := n0_; have HB := n1_; have HI0 := n2_; clear n0_ n1_ n2_; (try clear hb); (try clear hb2); (try clear hk); (try clear hi)) | ((with_reducible refine gate_callee (f := 41) rfl ?_); refine goesL_ (some 15) rfl rfl Try.func41 (by kernel_rfl) rfl #[.pointer (some ⟨g, 0, none⟩)] rfl (by (try simp only [List.map_toArray, List.map_cons, List.map_nil]); first | done | rfl | (simp only [List.length_drop, List.length_take]; rfl)) ?_; (with_reducible refine (spec_l1Cur_next.calls g s0_0 t112 t113 t114 t115 t116 w0 _ ?side1 ?side2 A6.out).mono ?_); (case side1 => repeat (first | (with_reducible first | exact HI0.out | apply IsS41.alloc | apply IsS41.drewN | apply IsS41.drew | apply IsS41.set_1 | apply IsS41.set_2) | exact HI0.out)); (case side2 => repeat (first | (with_reducible first | exact HB.out | apply below_alloc | apply pw_below_drewN | apply below_drew1 | refine below_set ?_ (IsS41.ge HI0.out)) | exact HB.out)); rintro e w9 ⟨rfl, hi, hb, hk⟩; refine ⟨_, rfl, ?_⟩; have n0_ := Aside0.mk (KeepBut.trans (by repeat (first | (with_reducible first | exact HK.out | apply KeepBut.set_ | apply keep_drewN | apply keep_drew | apply keep_alloc) | exact HK.out)) hk (.inl rfl)); have n1_ := Aside0.mk (hb); have n2_ := Aside0.mk (hi); clear HK; clear HB; clear HI0; have HK := n0_; have HB := n1_; have HI0 := n2_; clear n0_ n1_ n2_; (try clear hb); (try clear hb2); (try clear hk); (try clear hi)))
        go_ret
        exact ⟨by first | rfl | (simp [errW_none, errW_some] <;> rfl) | (simp [*, errW_none, errW_some] <;> rfl), by repeat (first | (with_reducible first | exact HI0.out | apply IsS41.alloc | apply IsS41.drewN | apply IsS41.drew | apply IsS41.set_1 | apply IsS41.set_2) | exact HI0.out), by repeat (first | (with_reducible first | exact HB.out | apply below_alloc | apply pw_below_drewN | apply below_drew1 | refine below_set ?_ (IsS41.ge HI0.out)) | exact HB.out), by repeat (first | (with_reducible first | exact HK.out | apply KeepBut.set_ | apply keep_drewN | apply keep_drew | apply keep_alloc) | exact HK.out)⟩
    · rw [if_neg c5] at H
      have c5b0 : decide (200 < a1) = false := decide_eq_false c5
      clear c5
      by_cases c10 : a1 = 0
      · rw [if_pos c10] at H
        exact absurd H (by simp)
      · rw [if_neg c10] at H
        have c10b0 : (a1 == 0) = false := beq_eq_false_iff_ne.mpr c10
        have c10b1 : (a1 != 0) = true := bne_iff_ne.mpr c10
        simp only [Option.some.injEq, Prod.mk.injEq] at H
        obtain ⟨rfl, rfl, rfl⟩ := H
        go_enter Try.func29, Try.ntmps29
        go_wp2_with (first | ((with_reducible refine gate_callee (f := 41) rfl ?_); refine goesL_ (some 9) rfl rfl Try.func41 (by kernel_rfl) rfl #[.pointer (some ⟨g, 0, none⟩)] rfl (by (try simp only [List.map_toArray, List.map_cons, List.map_nil]); first | done | rfl | (simp only [List.length_drop, List.length_take]; rfl)) ?_; (with_reducible refine (spec_l1Cur_next.calls g s0_0 s0_1 s0_2 t111 t112 t113 w0 _ ?side1 ?side2 A4.out).mono ?_); (case side1 => repeat (first | (with_reducible first | exact HI0.out | apply IsS41.alloc | apply IsS41.drewN | apply IsS41.drew | apply IsS41.set_1 | apply IsS41.set_2) | exact HI0.out)); (case side2 => repeat (first | (with_reducible first | exact HB.out | apply below_alloc | apply pw_below_drewN | apply below_drew1 | refine below_set ?_ (IsS41.ge HI0.out)) | exact HB.out)); rintro e w11 ⟨rfl, hi, hb, hk⟩; refine ⟨_, rfl, ?_⟩; have n0_ := Aside0.mk (KeepBut.trans (by repeat (first | (with_reducible first | exact HK.out | apply KeepBut.set_ | apply keep_drewN | apply keep_drew | apply keep_alloc) | exact HK.out)) hk (.inl rfl)); have n1_ := Aside0.mk (hb); have n2_ := Aside0.mk (hi); clear HK; clear HB; clear HI0; have HK := n0_; have HB := n1_; have HI0 := n2_; clear n0_ n1_ n2_; (try clear hb); (try clear hb2); (try clear hk); (try clear hi)))
        go_ret
        exact ⟨by first | rfl | (simp [errW_none, errW_some] <;> rfl) | (simp [*, errW_none, errW_some] <;> rfl), by repeat (first | (with_reducible first | exact HI0.out | apply IsS41.alloc | apply IsS41.drewN | apply IsS41.drew | apply IsS41.set_1 | apply IsS41.set_2) | exact HI0.out), by repeat (first | (with_reducible first | exact HB.out | apply below_alloc | apply pw_below_drewN | apply below_drew1 | refine below_set ?_ (IsS41.ge HI0.out)) | exact HB.out), by repeat (first | (with_reducible first | exact HK.out | apply KeepBut.set_ | apply keep_drewN | apply keep_drew | apply keep_alloc) | exact HK.out)⟩

/-! ### spec_DrawNimByOptions: function 19 -/
def spec_DrawNimByOptions.f (l0 : List Int) : Option (Int × Int) := (spec_l1Cur_pick.f l0 0 0 18).bind fun x => (spec_l1Cur_pick.f l0 x.2.1 x.2.2 18).bind fun y => some (wrap64 (x.1 - 1), wrap64 (y.1 - 1))
theorem spec_DrawNimByOptions.calls (A0 : Option Addr) (c0 : Nat) (l0 : List Int) (r1 : Int) (r2 : Int) (w : World) (hr0 : Kd.C (Kd.int .u8) w A0 l0.length l0) (hc0 : l0.length ≤ c0) (h : spec_DrawNimByOptions.f l0 = some (r1, r2)) :
    Calls Try.prog 19 #[.slice A0 l0.length c0] w fun e w' => e = .returned (.tuple #[.int .i64 r1, .int .i64 r2]) ∧ Below w.heap.size w w' := by
  have hu41 := Try.underlying41
  obtain ⟨⟨x0, x1, x2⟩, hx, h⟩ := Option.bind_eq_some_iff.mp h
  obtain ⟨⟨y0, y1, y2⟩, hy, h⟩ := Option.bind_eq_some_iff.mp h
  simp only [Option.some.injEq, Prod.mk.injEq] at h
  obtain ⟨rfl, rfl⟩ := h
  have HX := Aside0.mk hx
  have HY := Aside0.mk hy
  have HR0 := Aside0.mk hr0
  clear hx hy hr0
  have HB := Aside0.mk (Below.refl w.heap.size w)
  go_enter Try.func19, Try.ntmps19
  go_wp2_with (first | ((with_reducible refine gate_dst (N := 7) rfl ?_); refine box_event ?hg (N := 7) ?hd (cs := #[.slice A0 l0.length c0, .int .i64 0, .int .u64 0]) (t := 41) ?hr ?_; (case hd => rfl); (case hg => rfl); (case hr => first | (go_simp; done) | (go_simp; rfl)); intro gb hg w2 hbox hb; have n0_ := Aside0.mk (below_step (by repeat (first | (with_reducible first | exact HB.out | apply below_alloc | apply pw_below_drewN | apply below_drew1) | exact HB.out)) hb); have n1_ : IsS41 w w2 gb l0 0 0 := ⟨A0, c0, hbox, (by rw [hg]; exact (below_size (by repeat (first | (with_reducible first | exact HB.out | apply below_alloc | apply pw_below_drewN | apply below_drew1) | exact HB.out))) : w.heap.size ≤ gb), HR0.out⟩; clear HB; have HB := n0_; have HI0 := Aside0.mk n1_; clear n0_ n1_; clear hb hbox hg) | ((with_reducible refine gate_callee (f := 29) rfl ?_); refine goesL_ (some 9) rfl rfl Try.func29 (by kernel_rfl) rfl #[.pointer (some ⟨gb, 0, none⟩), .int .i64 18] rfl (by (try simp only [List.map_toArray, List.map_cons, List.map_nil]); first | done | rfl | (simp only [List.length_drop, List.length_take]; rfl)) ?_; (with_reducible refine (spec_l1Cur_pick.calls gb l0 0 0 18 x0 x1 x2 w _ ?side1 ?side2 HX.out).mono ?_); (case side1 => repeat (first | (with_reducible first | exact HI0.out | apply IsS41.alloc | apply IsS41.drewN | apply IsS41.drew | apply IsS41.set_1 | apply IsS41.set_2) | exact HI0.out)); (case side2 => repeat (first | (with_reducible first | exact HB.out | apply below_alloc | apply pw_below_drewN | apply below_drew1 | refine below_set ?_ (IsS41.ge HI0.out)) | exact HB.out)); rintro e w5 ⟨rfl, hi, hb, hk⟩; refine ⟨_, rfl, ?_⟩; have n1_ := Aside0.mk (hb); have n2_ := Aside0.mk (hi); clear HB; clear HI0; have HB := n1_; have HI0 := n2_; clear n1_ n2_; (try clear hb); (try clear hk); (try clear hi)) | ((with_reducible refine gate_callee (f := 29) rfl ?_); refine goesL_ (some 12) rfl rfl Try.func29 (by kernel_rfl) rfl #[.pointer (some ⟨gb, 0, none⟩), .int .i64 18] rfl (by (try simp only [List.map_toArray, List.map_cons, List.map_nil]); first | done | rfl | (simp only [List.length_drop, List.length_take]; rfl)) ?_; (with_reducible refine (spec_l1Cur_pick.calls gb l0 x1 x2 18 y0 y1 y2 w _ ?side1 ?side2 HY.out).mono ?_); (case side1 => repeat (first | (with_reducible first | exact HI0.out | apply IsS41.alloc | apply IsS41.drewN | apply IsS41.drew | apply IsS41.set_1 | apply IsS41.set_2) | exact HI0.out)); (case side2 => repeat (first | (with_reducible first | exact HB.out | apply below_alloc | apply pw_below_drewN | apply below_drew1 | refine below_set ?_ (IsS41.ge HI0.out)) | exact HB.out)); rintro e w5 ⟨rfl, hi, hb, hk⟩; refine ⟨_, rfl, ?_⟩; have n1_ := Aside0.mk (hb); have n2_ := Aside0.mk (hi); clear HB; clear HI0; have HB := n1_; have HI0 := n2_; clear n1_ n2_; (try clear hb); (try clear hk); (try clear hi)))
  go_ret2
  exact ⟨by first | rfl | (simp [errW_none, errW_some] <;> rfl), by repeat (first | (with_reducible first | exact HB.out | apply below_alloc | apply pw_below_drewN | apply below_drew1) | exact HB.out)⟩

-- NOT PRINTED: function 31 (impl_mex)

/-! ### impl_NimByOptions: function 20 -/
section
open Go.Proofs.Ytoeddjbhippdlaa.Mp
theorem mexK : Maps.Keyed Try.prog 3 := Maps.int_keyed Try.underlying3
theorem mexZ (w : World) : (zeroValue 4).run Try.prog w = .ok (.bool false) w := by kernel_rfl
set_option maxHeartbeats 1000000 in
set_option maxRecDepth 100000 in
/-- The least number of at least 0 that is not there. -/
theorem impl_mex.calls (b n m : Nat) (S : Int → Bool) (w : World) (hm : m < 2 ^ 60) (h0 : S (m : Int) = false) (h1 : ∀ j : Nat, j < m → S (j : Int) = true) (ho : OwnB w Try.prog 3 4 .i64 b n S) :
    Calls Try.prog 31 #[.map (some b)] w fun e w' => e = .returned (.int .i64 (m : Int)) ∧ Below w.heap.size w w' := by
  have HO := Aside0.mk ho
  have HB := Aside0.mk (Below.refl w.heap.size w)
  have H0 := Aside0.mk h0
  have H1 := Aside0.mk h1
  clear ho h0 h1
  go_enter Try.func31, Try.ntmps31
  go_wp2
  go_loopg [3] (m + 1) (fun gg v3 wr => ∃ j : Nat, j ≤ m ∧ m + 1 - j ≤ gg ∧ v3 = .int .i64 j ∧ Aside0 (OwnB wr Try.prog 3 4 .i64 b n S) ∧ Aside0 (Below w.heap.size w wr))
  case atStart => exact ⟨0, Nat.zero_le _, by omega, rfl, ⟨by first | exact HO.out | exact HO.out.drew⟩, ⟨by first | exact HB.out | exact below_drew1 HB.out⟩⟩
  case round =>
    obtain ⟨j, hj, hg, rfl, HO, HB⟩ := hrel
    have hw := wfN j (by omega)
    by_cases hlt : j < m
    · have e1 : S (j : Int) = true := H1.out j hlt
      go_wp2_with (first | (at_lookup; refine step_lookB HO.out mexK Try.underlying48 Try.underlying4 Try.underlying3 (mexZ _) (.tmp 4) (.tmp 5) (j : Int) rfl rfl rfl rfl hw ?_; rw [e1]))
      go_roundg (m + 1 - (j + 1))
      case measure => omega
      case rel => exact ⟨j + 1, by omega, by omega, by go_num, ⟨by first | exact HO.out | exact HO.out.drew⟩, ⟨by first | exact HB.out | exact below_drew1 HB.out⟩⟩
    · obtain rfl : j = m := by omega
      have e1 : S (j : Int) = false := H0.out
      go_wp2_with (first | (at_lookup; refine step_lookB HO.out mexK Try.underlying48 Try.underlying4 Try.underlying3 (mexZ _) (.tmp 4) (.tmp 5) (j : Int) rfl rfl rfl rfl hw ?_; rw [e1]))
      go_ret
      exact ⟨rfl, HB.out⟩
/-- The table so far: rows ahead of x up to column b, and row x ahead of column y. -/
def nopt.Tab (T : Nat → Nat → Nat) (b x y : Nat) (C : Array Value) : Prop := C.size = 256 ∧ ∀ u v, u < 16 → v < 16 → (u < x ∧ v ≤ b ∨ u = x ∧ v < y) → C[u * 16 + v]? = some (.int .i64 ((T u v : Nat) : Int))
theorem nopt.Tab.set {T : Nat → Nat → Nat} {b x y : Nat} {C : Array Value} (h : nopt.Tab T b x y C) (hx : x < 16) (hy : y < 16) : nopt.Tab T b x (y + 1) (C.setIfInBounds (x * 16 + y) (.int .i64 ((T x y : Nat) : Int))) := by
  refine ⟨by rw [Array.size_setIfInBounds]; exact h.1, fun u v hu hv huv => ?_⟩
  rw [Array.getElem?_setIfInBounds]
  by_cases e : x * 16 + y = u * 16 + v
  · obtain rfl : x = u := by omega
    obtain rfl : y = v := by omega
    rw [if_pos rfl, if_pos (by rw [h.1]; omega)]
  · rw [if_neg e]
    exact h.2 u v hu hv (by omega)
theorem nopt.Tab.next {T : Nat → Nat → Nat} {b x : Nat} {C : Array Value} (h : nopt.Tab T b x (b + 1) C) : nopt.Tab T b (x + 1) 0 C :=
  ⟨h.1, fun u v hu hv huv => h.2 u v hu hv (by omega)⟩
theorem nopt.xor (a b : Nat) (ha : a < 16) (hb : b < 16) : bits .xor .i64 (a : Int) (b : Int) = ((a ^^^ b : Nat) : Int) ∧ a ^^^ b < 16 := by
  have h : ∀ a b : Fin 16, bits .xor .i64 ((a : Nat) : Int) ((b : Nat) : Int) = (((a : Nat) ^^^ (b : Nat) : Nat) : Int) ∧ (a : Nat) ^^^ (b : Nat) < 16 := by decide
  exact h ⟨a, ha⟩ ⟨b, hb⟩
set_option maxHeartbeats 4000000 in
set_option maxRecDepth 100000 in
theorem nopt.walk (T : Nat → Nat → Nat) (hT : ∀ x y, T x y < 16) (h1 : ∀ x y u v, x < 16 → y < 16 → u < x → v < y → T u y ^^^ T x v ^^^ T u v ≠ T x y) (h2 : ∀ x y n, x < 16 → y < 16 → n < T x y → ∃ u v, u < x ∧ v < y ∧ T u y ^^^ T x v ^^^ T u v = n)
    (a b : Nat) (ha : a ≤ 15) (hb : b ≤ 15) (w : World) : Calls Try.prog 20 #[.int .i64 (a : Int), .int .i64 (b : Int)] w fun e w' => e = .returned (.tuple #[.int .i64 ((T a b : Nat) : Int), .bool true]) ∧ Below w.heap.size w w' := by
  have hu47 := Try.underlying47
  have hu46 := Try.underlying46
  have hu3 := Try.underlying3
  have hmm := @run_makeMap Try.prog
  obtain ⟨Z, hz47, hZs, hZ1⟩ : ∃ Z : Array Value, (∀ w, (zeroValue 47).run Try.prog w = .ok (.agg Z) w) ∧ Z.size = 256 ∧ ∀ q ∈ Z.toList, q.oneCell' = true :=
    ⟨Array.replicate 256 (.int .i64 0), fun w => by kernel_rfl, by kernel_rfl, by
      intro q hq
      rw [Array.toList_replicate, List.mem_replicate] at hq
      rw [hq.2]
      rfl⟩
  have hnew : ∀ n, ((w.drewN n).alloc (.cells Z 47)).heap[w.heap.size]? = some (.cells Z 47 (0, 0)) := fun n => heap_alloc_new (w.drewN n) _
  have hst : ∀ n, (storeCells ⟨w.heap.size, 0, none⟩ Z.toList).run Try.prog ((w.drewN n).alloc (.cells Z 47)) = .ok () (((w.drewN n).alloc (.cells Z 47)).setCells w.heap.size 0 Z.toList) := fun n => by
    have h := run_storeCells_cells (P := Try.prog) w.heap.size 0 Z.toList 0 ((w.drewN n).alloc (.cells Z 47)) (fun j hj => by rw [Array.length_toList] at hj; rw [blk_cell (hnew n)]; simp [hj]) (fun j hj => blk_frozen (hnew n) _) hZ1
    simpa using h
  have hW : ∀ n, ∃ C, (((w.drewN n).alloc (.cells Z 47)).setCells w.heap.size 0 Z.toList).heap[w.heap.size]? = some (.cells C 47 (0, 0)) ∧ nopt.Tab T b 0 0 C := fun n => by
    obtain ⟨C1, q1, q2, q3⟩ := setCells_row Z.toList 0 ((w.drewN n).alloc (.cells Z 47)) Z (hnew n) (by rw [Array.length_toList]; omega)
    exact ⟨C1, q1, by rw [q2, hZs], fun u v _ _ h => by omega⟩
  have hBW : ∀ n, Below w.heap.size w (((w.drewN n).alloc (.cells Z 47)).setCells w.heap.size 0 Z.toList) := fun n => by
    have hb := below_alloc (pw_below_drewN (Below.refl w.heap.size w) n) (.cells Z 47 (0, 0))
    obtain ⟨s1, s2, s3, s4⟩ := setCells_same w.heap.size Z.toList 0 ((w.drewN n).alloc (.cells Z 47))
    exact hb.grown (row := some w.heap.size) ⟨s1, s2, s3, by rw [s4]; exact Nat.le_refl _, fun k _ hk => setCells_far Z.toList _ k (fun e => hk (by rw [e]))⟩ (below_size hb) (by intro k_ hk_; injection hk_ with hk_; omega)
  have I0 : Aside0 (impl_in.f (a : Int) 0 15 = some true) := ⟨by unfold impl_in.f; rw [if_pos (by omega)]; simp; omega⟩
  have I1 : Aside0 (impl_in.f (b : Int) 0 15 = some true) := ⟨by unfold impl_in.f; rw [if_pos (by omega)]; simp; omega⟩
  have HB := Aside0.mk (Below.refl w.heap.size w)
  go_enter Try.func20, Try.ntmps20
  go_upto_region 4 with (first
    | ((with_reducible refine gate_callee (f := 30) rfl ?_); refine goesL_ (some 13) rfl rfl Try.func30 (by kernel_rfl) rfl #[.int .i64 (a : Int), .int .i64 0, .int .i64 15] rfl (by (try simp only [List.map_toArray, List.map_cons, List.map_nil]); first | done | rfl) ?_; refine (impl_in.calls (a : Int) 0 15 true _ I0.out).mono ?_; rintro e w' ⟨rfl, ⟨nd1, rfl⟩⟩; refine ⟨_, rfl, ?_⟩)
    | (go_at_call 30; refine (impl_in.calls (b : Int) 0 15 true _ I1.out).mono ?_; rintro e w' ⟨rfl, ⟨nd2, rfl⟩⟩))
  have hwa : IntKind.i64.wrap ((a : Int) + 1) = (a : Int) + 1 := by simp only [i64_w]; unfold wrap64; omega
  have hwb : IntKind.i64.wrap ((b : Int) + 1) = (b : Int) + 1 := by simp only [i64_w]; unfold wrap64; omega
  have BK := Aside0.mk (hW (nd1 + nd2))
  have n0_ := Aside0.mk (hBW (nd1 + nd2))
  clear hW hBW hst hnew HB hz47 I0 I1
  have HB := n0_
  clear n0_
  generalize ((w.drewN (nd1 + nd2)).alloc (.cells Z 47)).setCells w.heap.size 0 Z.toList = W4 at BK HB ⊢
  go_wp2
  go_loopg [23] (a + 1) (fun gg v23 wr => ∃ x : Nat, x ≤ a + 1 ∧ a + 1 - x ≤ gg ∧ v23 = .int .i64 x ∧ Aside0 (∃ C, wr.heap[w.heap.size]? = some (.cells C 47 (0, 0)) ∧ nopt.Tab T b x 0 C) ∧ Aside0 (Below w.heap.size w wr))
  case atStart => exact ⟨0, Nat.zero_le _, by omega, rfl, BK, HB⟩
  case round =>
    clear BK HB
    obtain ⟨x, hx, hgg, rfl, BK, HB⟩ := hrel
    by_cases hxl : x < a + 1
    · have c1 : decide ((x : Int) < (a : Int) + 1) = true := decide_eq_true (by omega)
      go_wp2
      go_loopg [28] (b + 1) (fun gg v28 wr => ∃ y : Nat, y ≤ b + 1 ∧ b + 1 - y ≤ gg ∧ v28 = .int .i64 y ∧ Aside0 (∃ C, wr.heap[w.heap.size]? = some (.cells C 47 (0, 0)) ∧ nopt.Tab T b x y C) ∧ Aside0 (Below w.heap.size w wr))
      case atStart => exact ⟨0, Nat.zero_le _, by omega, rfl, BK, HB⟩
      case round =>
        clear BK HB
        obtain ⟨y, hy, hgg2, rfl, BK, HB⟩ := hrel
        by_cases hyl : y < b + 1
        · have c2 : decide ((y : Int) < (b : Int) + 1) = true := decide_eq_true (by omega)
          obtain ⟨C, hC, hCT⟩ := BK.out
          have HT := Aside0.mk hCT
          have HM := Aside0.mk (OwnB.made wr Try.prog 3 4 .i64)
          have n0_ := Aside0.mk (blk_alloc hC (.map #[] 0))
          have n1_ := Aside0.mk (below_alloc HB.out (.map #[] 0))
          have hgb : w.heap.size ≠ wr.heap.size := Nat.ne_of_lt (blk_lt hC)
          have HGB : Aside0 (w.heap.size ≤ wr.heap.size) := ⟨below_size HB.out⟩
          clear BK HB hC hCT
          go_upto_region 11 with (fail)
          obtain ⟨bm, hbm⟩ : ∃ bm, wr.heap.size = bm := ⟨_, rfl⟩
          rw [hbm] at HM hgb HGB
          rw [hbm]
          generalize wr.alloc (.map #[] 0) = W5 at HM n0_ n1_ ⊢
          have BK := n0_
          have HB := n1_
          clear n0_ n1_ hbm
          have hyb : y ≤ b := by omega
          have hxa : x ≤ a := by omega
          go_wp2
          go_loopg [33] x (fun gg v33 wr => ∃ (u n : Nat) (S : Int → Bool), u ≤ x ∧ x - u ≤ gg ∧ v33 = .int .i64 u ∧ n ≤ 16 * u ∧ Aside0 (OwnB wr Try.prog 3 4 .i64 bm n S) ∧ Aside0 (∀ z, S z = true ↔ ∃ u' v', u' < u ∧ v' < y ∧ ((T u' y ^^^ T x v' ^^^ T u' v' : Nat) : Int) = z) ∧ Aside0 (wr.heap[w.heap.size]? = some (.cells C 47 (0, 0))) ∧ Aside0 (Below w.heap.size w wr))
          case atStart =>
            refine ⟨0, 0, _, Nat.zero_le _, by omega, rfl, Nat.le_refl _, HM, ⟨fun z => ⟨fun h => (by cases h), fun h => ?_⟩⟩, BK, HB⟩
            obtain ⟨u', v', h, _⟩ := h
            exact absurd h (Nat.not_lt_zero _)
          case round =>
            clear HM BK HB
            obtain ⟨u, n, S, hu, hgg3, rfl, hn, HO, HS, BK, HB⟩ := hrel
            by_cases hul : u < x
            · have c3 : decide ((u : Int) < (x : Int)) = true := decide_eq_true (by omega)
              go_wp2
              go_loopg [37] y (fun gg v37 wr => ∃ (v n : Nat) (S : Int → Bool), v ≤ y ∧ y - v ≤ gg ∧ v37 = .int .i64 v ∧ n ≤ 16 * u + v ∧ Aside0 (OwnB wr Try.prog 3 4 .i64 bm n S) ∧ Aside0 (∀ z, S z = true ↔ ∃ u' v', (u' < u ∧ v' < y ∨ u' = u ∧ v' < v) ∧ ((T u' y ^^^ T x v' ^^^ T u' v' : Nat) : Int) = z) ∧ Aside0 (wr.heap[w.heap.size]? = some (.cells C 47 (0, 0))) ∧ Aside0 (Below w.heap.size w wr))
              case atStart =>
                refine ⟨0, n, S, Nat.zero_le _, by omega, rfl, hn, HO, ⟨fun z => ?_⟩, BK, HB⟩
                rw [HS.out z]
                constructor
                · rintro ⟨u', v', h1, h2, h3⟩
                  exact ⟨u', v', Or.inl ⟨h1, h2⟩, h3⟩
                · rintro ⟨u', v', h1 | h1, h3⟩
                  · exact ⟨u', v', h1.1, h1.2, h3⟩
                  · exact absurd h1.2 (Nat.not_lt_zero _)
              case round =>
                clear HO HS BK HB hn
                clear S n
                obtain ⟨v, n, S, hv, hgg4, rfl, hn, HO, HS, BK, HB⟩ := hrel
                by_cases hvl : v < y
                · have c4 : decide ((v : Int) < (y : Int)) = true := decide_eq_true (by omega)
                  have hcA : wr.drew.cell? ⟨w.heap.size, u * 16 + y, none⟩ = some (.int .i64 ((T u y : Nat) : Int)) := (blk_cell BK.out _).trans (HT.out.2 u y (by omega) (by omega) (by omega))
                  have hcB : wr.drew.cell? ⟨w.heap.size, x * 16 + v, none⟩ = some (.int .i64 ((T x v : Nat) : Int)) := (blk_cell BK.out _).trans (HT.out.2 x v (by omega) (by omega) (by omega))
                  have hcD : wr.drew.cell? ⟨w.heap.size, u * 16 + v, none⟩ = some (.int .i64 ((T u v : Nat) : Int)) := (blk_cell BK.out _).trans (HT.out.2 u v (by omega) (by omega) (by omega))
                  obtain ⟨x1, x2⟩ := nopt.xor (T u y) (T x v) (hT _ _) (hT _ _)
                  obtain ⟨x3, x4⟩ := nopt.xor (T u y ^^^ T x v) (T u v) x2 (hT _ _)
                  have hw := wfN (T u y ^^^ T x v ^^^ T u v) (by omega)
                  obtain ⟨w2, hr2, ho2, ht2⟩ := HO.out.drew.put mexK Try.underlying48 Try.underlying4 (by unfold maxLen; omega) Try.underlying3 hw true
                  have hne : some w.heap.size ≠ some bm := fun e => hgb (by injection e)
                  have rA := ht2.grown.cell hcA hne
                  have rB := ht2.grown.cell hcB hne
                  have rD := ht2.grown.cell hcD hne
                  have BK2 := Aside0.mk (blk_grown (row := some bm) (show wr.drew.heap[w.heap.size]? = _ from BK.out) ht2.grown hne)
                  have HB2 := Aside0.mk ((below_drew HB.out).grown ht2.grown HB.out.size (by intro k_ hk_; injection hk_ with hk_; have := HGB.out; omega))
                  have HO2 := Aside0.mk ho2
                  have i1 : (0 : Int) ≤ (u : Int) := Int.natCast_nonneg _
                  have i2 : (u : Int) < 16 := by omega
                  have i3 : (0 : Int) ≤ (y : Int) := Int.natCast_nonneg _
                  have i4 : (y : Int) < 16 := by omega
                  have i5 : (0 : Int) ≤ (x : Int) := Int.natCast_nonneg _
                  have i6 : (x : Int) < 16 := by omega
                  have i7 : (0 : Int) ≤ (v : Int) := Int.natCast_nonneg _
                  have i8 : (v : Int) < 16 := by omega
                  clear ho2 ht2 x2 x4
                  go_upto_region 17 with (fail)
                  go_region_held3 (fun W => W.cell? ⟨w.heap.size, u * 16 + y, none⟩ = some (.int .i64 ((T u y : Nat) : Int)) ∧ W.cell? ⟨w.heap.size, x * 16 + v, none⟩ = some (.int .i64 ((T x v : Nat) : Int)) ∧ W.cell? ⟨w.heap.size, u * 16 + v, none⟩ = some (.int .i64 ((T u v : Nat) : Int))) (go_keep) (fail)
                  all_goals go_wp2
                  all_goals go_roundg (y - (v + 1))
                  all_goals first | (case measure => omega) | skip
                  all_goals
                    refine ⟨v + 1, n + 1, _, by omega, by omega, by go_num, by omega, HO2, ⟨fun z => ?_⟩, BK2, HB2⟩
                    by_cases e : z = ((T u y ^^^ T x v ^^^ T u v : Nat) : Int)
                    · rw [if_pos e]
                      exact ⟨fun _ => ⟨u, v, Or.inr ⟨rfl, Nat.lt_succ_self v⟩, e.symm⟩, fun _ => rfl⟩
                    · rw [if_neg e, HS.out z]
                      constructor
                      · rintro ⟨u', v', h, h3⟩
                        exact ⟨u', v', h.imp id (fun h => ⟨h.1, by omega⟩), h3⟩
                      · rintro ⟨u', v', h | ⟨rfl, h⟩, h3⟩
                        · exact ⟨u', v', Or.inl h, h3⟩
                        · refine ⟨u', v', Or.inr ⟨rfl, ?_⟩, h3⟩
                          have : v' ≠ v := fun e' => e (by rw [← h3, e'])
                          omega
                · obtain rfl : v = y := by omega
                  have c4 : decide ((v : Int) < (v : Int)) = false := decide_eq_false (by omega)
                  go_wp2
                  go_roundg (x - (u + 1))
                  case measure => omega
                  case rel =>
                    refine ⟨u + 1, n, S, by omega, by omega, by go_num, by omega, HO, ⟨fun z => ?_⟩, BK, HB⟩
                    rw [HS.out z]
                    constructor
                    · rintro ⟨u', v', h, h3⟩
                      exact ⟨u', v', by omega, by omega, h3⟩
                    · rintro ⟨u', v', h1, h2, h3⟩
                      exact ⟨u', v', by omega, h3⟩
            · obtain rfl : u = x := by omega
              have c3 : decide ((u : Int) < (u : Int)) = false := decide_eq_false (by omega)
              have m0 : S ((T u y : Nat) : Int) = false := by
                cases hc : S ((T u y : Nat) : Int) with
                | false => rfl
                | true =>
                  obtain ⟨u', v', k1, k2, k3⟩ := (HS.out _).1 hc
                  exact absurd (Int.ofNat_inj.1 k3) (h1 u y u' v' (by omega) (by omega) k1 k2)
              have m1 : ∀ j : Nat, j < T u y → S (j : Int) = true := fun j hj => by
                obtain ⟨u', v', k1, k2, k3⟩ := h2 u y j (by omega) (by omega) hj
                exact (HS.out _).2 ⟨u', v', k1, k2, by rw [k3]⟩
              have M0 := Aside0.mk m0
              have M1 := Aside0.mk m1
              have hix : u * 16 + y < C.size := by rw [HT.out.1]; omega
              obtain ⟨q0, hq0⟩ : ∃ q0, C[u * 16 + y]? = some q0 := ⟨_, Array.getElem?_eq_getElem hix⟩
              have hcX : wr.drew.cell? ⟨w.heap.size, u * 16 + y, none⟩ = some q0 := (blk_cell BK.out _).trans hq0
              have hfX : wr.drew.frozen? ⟨w.heap.size, u * 16 + y, none⟩ = false := blk_frozen BK.out _
              have HTX := Aside0.mk (hT u y)
              have i3 : (0 : Int) ≤ (y : Int) := Int.natCast_nonneg _
              have i4 : (y : Int) < 16 := by omega
              have i5 : (0 : Int) ≤ (u : Int) := Int.natCast_nonneg _
              have i6 : (u : Int) < 16 := by omega
              clear m0 m1 hix hq0
              go_upto_region 20 with (fail)
              go_region_held3 (fun W => W.frozen? ⟨w.heap.size, u * 16 + y, none⟩ = false) (go_keep) (first | (go_at_call 31; refine (impl_mex.calls bm n (T u y) S _ (by have := HTX.out; omega) M0.out M1.out (by first | exact HO.out | exact HO.out.drew)).mono ?_; rintro e w6 ⟨rfl, hb6⟩; have k1 := (hb6.cell (World.block_lt_of_cell? _ _ hcX)).trans hcX; have k2 := blk_frozen (blk_below (blk_drew BK.out) hb6) (u * 16 + y); have HB6 := Aside0.mk hb6))
              go_wp2
              go_roundg (b + 1 - (y + 1))
              case measure => omega
              case rel =>
                exact ⟨y + 1, by omega, by omega, by go_num, ⟨⟨_, blk_set (blk_below (blk_drew BK.out) HB6.out) _ _, HT.out.set (by omega) (by omega)⟩⟩, ⟨below_set (below_step (below_drew HB.out) HB6.out) (Nat.le_refl _)⟩⟩
        · have c2 : decide ((y : Int) < (b : Int) + 1) = false := decide_eq_false (by omega)
          go_wp2
          go_roundg (a + 1 - (x + 1))
          case measure => omega
          case rel =>
            obtain ⟨C, hC, hCT⟩ := BK.out
            obtain rfl : y = b + 1 := by omega
            exact ⟨x + 1, by omega, by omega, by go_num, ⟨⟨C, hC, hCT.next⟩⟩, HB⟩
    · have c1 : decide ((x : Int) < (a : Int) + 1) = false := decide_eq_false (by omega)
      obtain ⟨C, hC, hCT⟩ := BK.out
      have hxe : x = a + 1 := by omega
      have hcE : wr.cell? ⟨w.heap.size, a * 16 + b, none⟩ = some (.int .i64 ((T a b : Nat) : Int)) := (blk_cell hC _).trans (hCT.2 a b (by omega) (by omega) (by omega))
      clear hxe hCT
      have i3 : (0 : Int) ≤ (a : Int) := Int.natCast_nonneg _
      have i4 : (a : Int) < 16 := by omega
      have i5 : (0 : Int) ≤ (b : Int) := Int.natCast_nonneg _
      have i6 : (b : Int) < 16 := by omega
      go_wp2
      go_ret2
      exact ⟨rfl, HB.out⟩
/-- The products of numbers less than 16, four bits each. -/
def impl_NimByOptions.N : Nat := 105869934573458929506328375061315679171845852290158294152364606998566138674788542437607012108590681290039201854413661647678221215878256740644142704492826533379271178812567475734100749217218550151073389438700294400309340617321998747341553871339115878427482513263866732641709495414604747141407345988080972595200
def impl_NimByOptions.tb (x y : Nat) : Nat := (impl_NimByOptions.N >>> (64 * x + 4 * y)) % 16
theorem impl_NimByOptions.tb_lt (x y : Nat) : impl_NimByOptions.tb x y < 16 := Nat.mod_lt _ (by decide)
theorem impl_NimByOptions.chk1 : ((List.range 16).all fun x => (List.range 16).all fun y => (List.range x).all fun u => (List.range y).all fun v => !Nat.beq (impl_NimByOptions.tb u y ^^^ impl_NimByOptions.tb x v ^^^ impl_NimByOptions.tb u v) (impl_NimByOptions.tb x y)) = true := by kernel_rfl
theorem impl_NimByOptions.chk2 : ((List.range 16).all fun x => (List.range 16).all fun y => (List.range (impl_NimByOptions.tb x y)).all fun n => (List.range x).any fun u => (List.range y).any fun v => Nat.beq (impl_NimByOptions.tb u y ^^^ impl_NimByOptions.tb x v ^^^ impl_NimByOptions.tb u v) n) = true := by kernel_rfl
theorem impl_NimByOptions.free (x y u v : Nat) (hx : x < 16) (hy : y < 16) (hu : u < x) (hv : v < y) : impl_NimByOptions.tb u y ^^^ impl_NimByOptions.tb x v ^^^ impl_NimByOptions.tb u v ≠ impl_NimByOptions.tb x y := by
  have h := impl_NimByOptions.chk1
  simp only [List.all_eq_true, List.mem_range] at h
  have := h x hx y hy u hu v hv
  intro e
  rw [e, Nat.beq_refl] at this
  cases this
theorem impl_NimByOptions.hit (x y n : Nat) (hx : x < 16) (hy : y < 16) (hn : n < impl_NimByOptions.tb x y) : ∃ u v, u < x ∧ v < y ∧ impl_NimByOptions.tb u y ^^^ impl_NimByOptions.tb x v ^^^ impl_NimByOptions.tb u v = n := by
  have h := impl_NimByOptions.chk2
  simp only [List.all_eq_true, List.any_eq_true, List.mem_range] at h
  obtain ⟨u, hu, v, hv, e⟩ := h x hx y hy n hn
  exact ⟨u, v, hu, hv, Nat.eq_of_beq_eq_true e⟩
def impl_NimByOptions.f (a0 a1 : Int) : Option (Int × Bool) := some (if (0 ≤ a0 ∧ a0 ≤ 15) ∧ 0 ≤ a1 ∧ a1 ≤ 15 then (((impl_NimByOptions.tb a0.toNat a1.toNat : Nat) : Int), true) else (0, false))
theorem nopt.in_ (e a b : Int) : impl_in.f e a b = some (decide (a ≤ e ∧ e ≤ b)) := by
  unfold impl_in.f
  by_cases h : e ≥ a
  · rw [if_pos h]; simp [show a ≤ e from h]
  · rw [if_neg h]; simp [show ¬ a ≤ e from h]
set_option maxHeartbeats 1000000 in
set_option maxRecDepth 100000 in
theorem impl_NimByOptions.calls (a0 : Int) (a1 : Int) (r1 : Int) (r2 : Bool) (w : World) (h : impl_NimByOptions.f a0 a1 = some (r1, r2)) :
    Calls Try.prog 20 #[.int .i64 a0, .int .i64 a1] w fun e w' => e = .returned (.tuple #[.int .i64 r1, .bool r2]) ∧ Below w.heap.size w w' := by
  have H := Option.some.inj h
  clear h
  by_cases c0 : 0 ≤ a0 ∧ a0 ≤ 15
  · by_cases c1 : 0 ≤ a1 ∧ a1 ≤ 15
    · rw [if_pos ⟨c0, c1⟩, Prod.mk.injEq] at H
      obtain ⟨rfl, rfl⟩ := H
      obtain ⟨a, rfl⟩ := Int.eq_ofNat_of_zero_le c0.1
      obtain ⟨b, rfl⟩ := Int.eq_ofNat_of_zero_le c1.1
      exact nopt.walk impl_NimByOptions.tb impl_NimByOptions.tb_lt impl_NimByOptions.free impl_NimByOptions.hit a b (by omega) (by omega) w
    · rw [if_neg (fun q => c1 q.2), Prod.mk.injEq] at H
      obtain ⟨rfl, rfl⟩ := H
      have I0 : Aside0 (impl_in.f a0 0 15 = some true) := ⟨by rw [nopt.in_, decide_eq_true c0]⟩
      have I1 : Aside0 (impl_in.f a1 0 15 = some false) := ⟨by rw [nopt.in_, decide_eq_false c1]⟩
      have HB := Aside0.mk (Below.refl w.heap.size w)
      clear c0 c1
      go_enter Try.func20, Try.ntmps20
      go_wp2_with (first
        | ((with_reducible refine gate_callee (f := 30) rfl ?_); refine goesL_ (some 13) rfl rfl Try.func30 (by kernel_rfl) rfl #[.int .i64 a0, .int .i64 0, .int .i64 15] rfl (by (try simp only [List.map_toArray, List.map_cons, List.map_nil]); first | done | rfl) ?_; refine (impl_in.calls a0 0 15 true _ I0.out).mono ?_; rintro e w' ⟨rfl, ⟨nd1, rfl⟩⟩; refine ⟨_, rfl, ?_⟩)
        | (go_at_call 30; refine (impl_in.calls a1 0 15 false _ I1.out).mono ?_; rintro e w' ⟨rfl, ⟨nd2, rfl⟩⟩))
      go_ret2
      exact ⟨rfl, by repeat (first | exact HB.out | apply below_alloc | apply pw_below_drewN | apply below_drew1)⟩
  · rw [if_neg (fun q => c0 q.1), Prod.mk.injEq] at H
    obtain ⟨rfl, rfl⟩ := H
    have I0 : Aside0 (impl_in.f a0 0 15 = some false) := ⟨by rw [nopt.in_, decide_eq_false c0]⟩
    have HB := Aside0.mk (Below.refl w.heap.size w)
    clear c0
    go_enter Try.func20, Try.ntmps20
    go_wp2_with (first
      | ((with_reducible refine gate_callee (f := 30) rfl ?_); refine goesL_ (some 13) rfl rfl Try.func30 (by kernel_rfl) rfl #[.int .i64 a0, .int .i64 0, .int .i64 15] rfl (by (try simp only [List.map_toArray, List.map_cons, List.map_nil]); first | done | rfl) ?_; refine (impl_in.calls a0 0 15 false _ I0.out).mono ?_; rintro e w' ⟨rfl, ⟨nd1, rfl⟩⟩; refine ⟨_, rfl, ?_⟩))
    go_ret2
    exact ⟨rfl, by repeat (first | exact HB.out | apply below_alloc | apply pw_below_drewN | apply below_drew1)⟩

end

/-! ### spec_l1In: function 32 -/
def spec_l1In.f (a0 : Int) (a1 : Int) (a2 : Int) : Option (Bool) := if a0 ≥ a1 then (some (decide (a0 ≤ a2))) else (some false)
set_option maxHeartbeats 8000000 in
set_option maxRecDepth 100000 in
theorem spec_l1In.calls (a0 : Int) (a1 : Int) (a2 : Int) (r : Bool) (w : World) (h : spec_l1In.f a0 a1 a2 = some r) :
    Calls Try.prog 32 #[.int .i64 a0, .int .i64 a1, .int .i64 a2] w fun e w' => e = .returned (.bool r) ∧ Drawn0 w w' := by
  have H : (if a0 ≥ a1 then (some (decide (a0 ≤ a2))) else (some false)) = some r := h
  clear h
  by_cases c4 : a0 ≥ a1
  · rw [if_pos c4] at H
    have c4b0 : decide (a1 ≤ a0) = true := decide_eq_true c4
    clear c4
    obtain rfl := Option.some.inj H
    go_enter Try.func32, Try.ntmps32
    go_wp2
    go_ret
    exact ⟨by first | rfl | (simp; done) | (simp [*]; done), by repeat (first | exact Drawn0.refl _ | apply Drawn0.step)⟩
  · rw [if_neg c4] at H
    have c4b0 : decide (a1 ≤ a0) = false := decide_eq_false c4
    clear c4
    obtain rfl := Option.some.inj H
    go_enter Try.func32, Try.ntmps32
    go_wp2
    go_ret
    exact ⟨by first | rfl | (simp; done) | (simp [*]; done), by repeat (first | exact Drawn0.refl _ | apply Drawn0.step)⟩

/-! ### spec_l1Has: function 44 -/
def spec_l1Has.l0 : Nat → Int → List Int → Int → Int → Option (Bool)
  | 0, _, _, _, _ => none
  | k + 1, x1, x7, x8, x9 => if x9 < x8 then (if 0 ≤ x9 then (if x9 < (x7.length : Int) then (if (rd x7 x9) = x1 then (some true) else (spec_l1Has.l0 k x1 x7 x8 (wrap64 (x9 + 1)))) else (none)) else (none)) else (some false)
def spec_l1Has.f (k : Nat) (l0 : List Int) (a1 : Int) : Option (Bool) := spec_l1Has.l0 k a1 l0 (l0.length : Int) 0
theorem spec_l1Has.mono_l : ∀ k, (∀ y0 y1 y2 y3, LeO (spec_l1Has.l0 k y0 y1 y2 y3) (spec_l1Has.l0 (k + 1) y0 y1 y2 y3))
  | 0 => fun _ _ _ _ r h => by simp [spec_l1Has.l0] at h
  | k + 1 => by
    have ih0 := spec_l1Has.mono_l k
    · intro y0 y1 y2 y3
      unfold spec_l1Has.l0
      repeat' first
      | (with_reducible exact ih0 _ _ _ _)
      | (with_reducible exact LeO.refl _)
      | (with_reducible exact LeO.none _)
      | (with_reducible refine LeO.ite ?_ ?_)
      | (with_reducible refine LeO.bind ?_ (fun _ => ?_))
      | exact ih0 _ _ _ _
      | exact LeO.none _
      | refine LeO.ite ?_ ?_
      | refine LeO.bind ?_ (fun _ => ?_)
theorem spec_l1Has.mono : ∀ a0 a1 k, LeO (spec_l1Has.f k a0 a1) (spec_l1Has.f (k + 1) a0 a1) := by
  intro a0 a1 k
  have ih0 := spec_l1Has.mono_l k
  unfold spec_l1Has.f
  repeat' first
      | (with_reducible exact ih0 _ _ _ _)
      | (with_reducible exact LeO.refl _)
      | (with_reducible exact LeO.none _)
      | (with_reducible refine LeO.ite ?_ ?_)
      | (with_reducible refine LeO.bind ?_ (fun _ => ?_))
      | exact ih0 _ _ _ _
      | exact LeO.none _
      | refine LeO.ite ?_ ?_
      | refine LeO.bind ?_ (fun _ => ?_)
set_option maxHeartbeats 8000000 in
set_option maxRecDepth 100000 in
theorem spec_l1Has.calls (k : Nat) (A0 : Option Addr) (c0 : Nat) (l0 : List Int) (a1 : Int) (r : Bool) (w : World) (hr0 : Kd.C (Kd.int .i64) w A0 l0.length l0) (hc0 : l0.length ≤ c0) (h : spec_l1Has.f k l0 a1 = some r) :
    Calls Try.prog 44 #[.slice A0 l0.length c0, .int .i64 a1] w fun e w' => e = .returned (.bool r) ∧ Drawn0 w w' := by
  have HR0 := Aside0.mk hr0
  have HC0 := Aside0.mk hc0
  clear hr0 hc0
  have H : (spec_l1Has.l0 k a1 l0 (l0.length : Int) 0) = some r := h
  clear h
  have H' := Aside0.mk H
  clear H
  go_enter Try.func44, Try.ntmps44
  go_wp2
  go_loopg [9] k (fun kq v9 w' => ∃ (x9_1 : Int), v9 = .int .i64 x9_1 ∧ Aside0 (spec_l1Has.l0 kq a1 l0 (l0.length : Int) x9_1 = some r) ∧ Aside0 (kq ≤ k) ∧ Drawn0 w w')
  case atStart => exact ⟨(0), (by first | rfl | (simp; done) | (simp [*]; done)), H', ⟨Nat.le_refl _⟩, by repeat (first | exact Drawn0.refl _ | apply Drawn0.step)⟩
  case round =>
    clear H'
    try clear p2
    obtain ⟨x9_1, rfl, HA, HK1, ⟨m1, rfl⟩⟩ := hrel
    cases gk with
    | zero => exact absurd HA.out (by simp [spec_l1Has.l0])
    | succ k1 =>
      have H := HA.out
      clear HA
      simp only [spec_l1Has.l0] at H
      by_cases c3 : x9_1 < (l0.length : Int)
      · rw [if_pos c3] at H
        have c3b0 : decide (x9_1 < (l0.length : Int)) = true := decide_eq_true c3
        clear c3
        by_cases c4 : 0 ≤ x9_1
        · rw [if_pos c4] at H
          have c4b0 : decide (0 ≤ x9_1) = true := decide_eq_true c4
          clear c4
          by_cases c5 : x9_1 < (l0.length : Int)
          · rw [if_pos c5] at H
            have c5b0 : decide (x9_1 < (l0.length : Int)) = true := decide_eq_true c5
            clear c5
            by_cases c6 : (rd l0 x9_1) = a1
            · rw [if_pos c6] at H
              have c6b0 : ((rd l0 x9_1) == a1) = true := beq_iff_eq.mpr c6
              have c6b1 : ((rd l0 x9_1) != a1) = false := bne_eq_false_iff_eq.mpr c6
              clear c6
              obtain rfl := Option.some.inj H
              have p123 : 0 ≤ (x9_1 : Int) := of_decide_eq_true (by first | (with_reducible assumption) | assumption)
              have q123 : x9_1 < (l0.length : Int) := of_decide_eq_true (by first | (with_reducible assumption) | assumption)
              obtain ⟨ad123, e123, hx123_0⟩ := Kd.at_int HR0.out x9_1 p123 q123
              cases e123
              replace p123 := eq_true p123
              replace q123 := eq_true q123
              go_wp2
              go_ret
              exact ⟨by first | rfl | (simp; done) | (simp [*]; done), by repeat (first | exact Drawn0.refl _ | apply Drawn0.step)⟩
            · rw [if_neg c6] at H
              have c6b0 : ((rd l0 x9_1) == a1) = false := beq_eq_false_iff_ne.mpr c6
              have c6b1 : ((rd l0 x9_1) != a1) = true := bne_iff_ne.mpr c6
              have H' := Aside0.mk H
              clear H
              have p123 : 0 ≤ (x9_1 : Int) := of_decide_eq_true (by first | (with_reducible assumption) | assumption)
              have q123 : x9_1 < (l0.length : Int) := of_decide_eq_true (by first | (with_reducible assumption) | assumption)
              obtain ⟨ad123, e123, hx123_0⟩ := Kd.at_int HR0.out x9_1 p123 q123
              cases e123
              replace p123 := eq_true p123
              replace q123 := eq_true q123
              go_wp2
              go_roundg k1
              case measure => have := HK1.out; omega
              case rel => exact ⟨(wrap64 (x9_1 + 1)), (by first | rfl | (simp; done) | (simp [*]; done)), H', ⟨by have := HK1.out; omega⟩, by repeat (first | exact Drawn0.refl _ | apply Drawn0.step)⟩
          · rw [if_neg c5] at H
            exact absurd H (by simp)
        · rw [if_neg c4] at H
          exact absurd H (by simp)
      · rw [if_neg c3] at H
        have c3b0 : decide (x9_1 < (l0.length : Int)) = false := decide_eq_false c3
        clear c3
        obtain rfl := Option.some.inj H
        go_wp2
        go_ret
        exact ⟨by first | rfl | (simp; done) | (simp [*]; done), by repeat (first | exact Drawn0.refl _ | apply Drawn0.step)⟩

/-! ### spec_grMex: function 42 -/
def spec_grMex.l0 : Nat → List Int → Int → Option (Int)
  | 0, _, _ => none
  | k + 1, x0, x3 => (spec_l1Has.f k x0 x3).bind fun t124 => (if t124 = true then (spec_grMex.l0 k x0 (wrap64 (x3 + 1))) else (some x3))
def spec_grMex.f (k : Nat) (l0 : List Int) : Option (Int) := spec_grMex.l0 k l0 0
theorem spec_grMex.mono_l : ∀ k, (∀ y0 y1, LeO (spec_grMex.l0 k y0 y1) (spec_grMex.l0 (k + 1) y0 y1))
  | 0 => fun _ _ r h => by simp [spec_grMex.l0] at h
  | k + 1 => by
    have ih0 := spec_grMex.mono_l k
    · intro y0 y1
      unfold spec_grMex.l0
      repeat' first
      | (with_reducible exact ih0 _ _)
      | (with_reducible exact spec_l1Has.mono _ _ _)
      | (with_reducible exact LeO.refl _)
      | (with_reducible exact LeO.none _)
      | (with_reducible refine LeO.ite ?_ ?_)
      | (with_reducible refine LeO.bind ?_ (fun _ => ?_))
      | exact ih0 _ _
      | exact spec_l1Has.mono _ _ _
      | exact LeO.none _
      | refine LeO.ite ?_ ?_
      | refine LeO.bind ?_ (fun _ => ?_)
theorem spec_grMex.mono : ∀ a0 k, LeO (spec_grMex.f k a0) (spec_grMex.f (k + 1) a0) := by
  intro a0 k
  have ih0 := spec_grMex.mono_l k
  unfold spec_grMex.f
  repeat' first
      | (with_reducible exact ih0 _ _)
      | (with_reducible exact spec_l1Has.mono _ _ _)
      | (with_reducible exact LeO.refl _)
      | (with_reducible exact LeO.none _)
      | (with_reducible refine LeO.ite ?_ ?_)
      | (with_reducible refine LeO.bind ?_ (fun _ => ?_))
      | exact ih0 _ _
      | exact spec_l1Has.mono _ _ _
      | exact LeO.none _
      | refine LeO.ite ?_ ?_
      | refine LeO.bind ?_ (fun _ => ?_)
set_option maxHeartbeats 8000000 in
set_option maxRecDepth 100000 in
theorem spec_grMex.calls (k : Nat) (A0 : Option Addr) (c0 : Nat) (l0 : List Int) (r : Int) (w : World) (hr0 : Kd.C (Kd.int .i64) w A0 l0.length l0) (hc0 : l0.length ≤ c0) (h : spec_grMex.f k l0 = some r) :
    Calls Try.prog 42 #[.slice A0 l0.length c0] w fun e w' => e = .returned (.int .i64 r) ∧ Drawn0 w w' := by
  have HR0 := Aside0.mk hr0
  have HC0 := Aside0.mk hc0
  clear hr0 hc0
  have H : (spec_grMex.l0 k l0 0) = some r := h
  clear h
  have H' := Aside0.mk H
  clear H
  go_enter Try.func42, Try.ntmps42
  go_wp2
  go_loopg [3] k (fun kq v3 w' => ∃ (x3_1 : Int), v3 = .int .i64 x3_1 ∧ Aside0 (spec_grMex.l0 kq l0 x3_1 = some r) ∧ Aside0 (kq ≤ k) ∧ Drawn0 w w')
  case atStart => exact ⟨(0), (by first | rfl | (simp; done) | (simp [*]; done)), H', ⟨Nat.le_refl _⟩, by repeat (first | exact Drawn0.refl _ | apply Drawn0.step)⟩
  case round =>
    clear H'
    obtain ⟨x3_1, rfl, HA, HK1, ⟨m1, rfl⟩⟩ := hrel
    cases gk with
    | zero => exact absurd HA.out (by simp [spec_grMex.l0])
    | succ k1 =>
      have H := HA.out
      clear HA
      simp only [spec_grMex.l0] at H
      replace H := Option.bind_eq_some_iff.mp H
      obtain ⟨t124, A20, H⟩ := H
      replace H : (if t124 = true then (spec_grMex.l0 k1 l0 (wrap64 (x3_1 + 1))) else (some x3_1)) = some r := H
      have A2 := Aside0.mk A20
      clear A20
      by_cases c3 : t124 = true
      · subst c3
        have H1 : (spec_grMex.l0 k1 l0 (wrap64 (x3_1 + 1))) = some r := by rw [if_pos rfl] at H; exact H
        clear H
        have H := H1
        clear H1
        have H' := Aside0.mk H
        clear H
        go_wp2_with (first | ((with_reducible refine gate_callee (f := 44) rfl ?_); refine goesL_ (some 6) rfl rfl Try.func44 (by kernel_rfl) rfl #[.slice A0 l0.length c0, .int .i64 x3_1] rfl (by (try simp only [List.map_toArray, List.map_cons, List.map_nil]); first | done | rfl | (simp only [List.length_drop, List.length_take]; rfl)) ?_; (with_reducible refine (spec_l1Has.calls k1 _ _ l0 x3_1 true _ ?side1 ?side2 A2.out).mono ?_); (case side1 => repeat (first | exact HR0.out | (with_reducible refine Kd.C_alloc ?_ _) | (with_reducible refine Kd.C_drewN ?_ _) | (with_reducible refine Kd.C_drew ?_))); (case side2 => exact HC0.out); rintro e w' ⟨rfl, ⟨nd, rfl⟩⟩; refine ⟨_, rfl, ?_⟩))
        go_roundg k1
        case measure => have := HK1.out; omega
        case rel => exact ⟨(wrap64 (x3_1 + 1)), (by first | rfl | (simp; done) | (simp [*]; done)), H', ⟨by have := HK1.out; omega⟩, by repeat (first | exact Drawn0.refl _ | apply Drawn0.step)⟩
      · replace c3 := Bool.eq_false_iff.mpr c3
        subst c3
        have H1 : (some x3_1) = some r := by rw [if_neg (show ¬ (false = true) by decide)] at H; exact H
        clear H
        have H := H1
        clear H1
        obtain rfl := Option.some.inj H
        go_wp2_with (first | ((with_reducible refine gate_callee (f := 44) rfl ?_); refine goesL_ (some 6) rfl rfl Try.func44 (by kernel_rfl) rfl #[.slice A0 l0.length c0, .int .i64 x3_1] rfl (by (try simp only [List.map_toArray, List.map_cons, List.map_nil]); first | done | rfl | (simp only [List.length_drop, List.length_take]; rfl)) ?_; (with_reducible refine (spec_l1Has.calls k1 _ _ l0 x3_1 false _ ?side1 ?side2 A2.out).mono ?_); (case side1 => repeat (first | exact HR0.out | (with_reducible refine Kd.C_alloc ?_ _) | (with_reducible refine Kd.C_drewN ?_ _) | (with_reducible refine Kd.C_drew ?_))); (case side2 => exact HC0.out); rintro e w' ⟨rfl, ⟨nd, rfl⟩⟩; refine ⟨_, rfl, ?_⟩))
        go_ret
        exact ⟨by first | rfl | (simp; done) | (simp [*]; done), by repeat (first | exact Drawn0.refl _ | apply Drawn0.step)⟩

end Go.Proofs.Ytoeddjbhippdlaa.QFnNimByOptions
