/- The Go functions that the law FnExactFiniteOrdinal reaches, as Lean functions, and what their calls do. Written by a program of this session. -/
import Derived.Test.YtgjpfhedhehmdaaQFnExactFiniteOrdinalx0
namespace Go.Proofs.Ytgjpfhedhehmdaa.QFnExactFiniteOrdinal
open Go.RowKit Go.Proofs.YtgjpfhedhehmdaaW.PrintWords Go.Proofs.YtgjpfhedhehmdaaW.PrintLast Go.Proofs.YtgjpfhedhehmdaaW.PrintMore
attribute [local go_sem] max2_int min2_int max_two min_two max_three min_three max_four min_four   -- for this text's walks alone
set_option linter.unusedVariables false
set_option linter.unusedSimpArgs false

/-! ### spec_l1In: function 36 -/
def spec_l1In.f (a0 : Int) (a1 : Int) (a2 : Int) : Option (Bool) := if a0 ≥ a1 then (some (decide (a0 ≤ a2))) else (some false)
set_option maxHeartbeats 8000000 in
set_option maxRecDepth 100000 in
theorem spec_l1In.calls (a0 : Int) (a1 : Int) (a2 : Int) (r : Bool) (w : World) (h : spec_l1In.f a0 a1 a2 = some r) :
    Calls Try.prog 36 #[.int .i64 a0, .int .i64 a1, .int .i64 a2] w fun e w' => e = .returned (.bool r) ∧ Drawn0 w w' := by
  have H : (if a0 ≥ a1 then (some (decide (a0 ≤ a2))) else (some false)) = some r := h
  clear h
  by_cases c4 : a0 ≥ a1
  · rw [if_pos c4] at H
    have c4b0 : decide (a1 ≤ a0) = true := decide_eq_true c4
    clear c4
    obtain rfl := Option.some.inj H
    go_enter Try.func36, Try.ntmps36
    go_wp2
    go_ret
    exact ⟨by first | rfl | (simp; done) | (simp [*]; done), by repeat (first | exact Drawn0.refl _ | apply Drawn0.step)⟩
  · rw [if_neg c4] at H
    have c4b0 : decide (a1 ≤ a0) = false := decide_eq_false c4
    clear c4
    obtain rfl := Option.some.inj H
    go_enter Try.func36, Try.ntmps36
    go_wp2
    go_ret
    exact ⟨by first | rfl | (simp; done) | (simp [*]; done), by repeat (first | exact Drawn0.refl _ | apply Drawn0.step)⟩

-- NOT PRINTED: function 64 (spec_odTerm)

-- NOT PRINTED: function 37 (spec_odInt)

-- NOT PRINTED: function 9 (spec_FiniteOrdinal)

/-! ### impl_in: function 38 -/
def impl_in.f (a0 : Int) (a1 : Int) (a2 : Int) : Option (Bool) := if a0 ≥ a1 then (some (decide (a0 ≤ a2))) else (some false)
set_option maxHeartbeats 8000000 in
set_option maxRecDepth 100000 in
theorem impl_in.calls (a0 : Int) (a1 : Int) (a2 : Int) (r : Bool) (w : World) (h : impl_in.f a0 a1 a2 = some r) :
    Calls Try.prog 38 #[.int .i64 a0, .int .i64 a1, .int .i64 a2] w fun e w' => e = .returned (.bool r) ∧ Drawn0 w w' := by
  have H : (if a0 ≥ a1 then (some (decide (a0 ≤ a2))) else (some false)) = some r := h
  clear h
  by_cases c4 : a0 ≥ a1
  · rw [if_pos c4] at H
    have c4b0 : decide (a1 ≤ a0) = true := decide_eq_true c4
    clear c4
    obtain rfl := Option.some.inj H
    go_enter Try.func38, Try.ntmps38
    go_wp2
    go_ret
    exact ⟨by first | rfl | (simp; done) | (simp [*]; done), by repeat (first | exact Drawn0.refl _ | apply Drawn0.step)⟩
  · rw [if_neg c4] at H
    have c4b0 : decide (a1 ≤ a0) = false := decide_eq_false c4
    clear c4
    obtain rfl := Option.some.inj H
    go_enter Try.func38, Try.ntmps38
    go_wp2
    go_ret
    exact ⟨by first | rfl | (simp; done) | (simp [*]; done), by repeat (first | exact Drawn0.refl _ | apply Drawn0.step)⟩

-- NOT PRINTED: function 39 (impl_finite)

-- NOT PRINTED: function 10 (impl_FiniteOrdinal)

-- NOT PRINTED: function 65 (laws_eqOrdinalTerm)

-- NOT PRINTED: function 40 (laws_eqOrdinalTermS)

-- NOT PRINTED: function 11 (laws_eqOrdinal)

-- NOT PRINTED: function 41 (laws_markOrdinalTermS)

-- NOT PRINTED: function 12 (laws_markOrdinal)

-- NOT PRINTED: function 42 (laws_heldOrdinalTermS)

-- NOT PRINTED: function 13 (laws_heldOrdinal)

/-! ### laws_FnExactFiniteOrdinal: function 3 -/
/-! #### an ordinal that is a finite number, in memory -/
def fo.V (w : World) (lo : Nat) (v : Value) (n : Int) : Prop := (n = 0 ∧ v = .slice none 0 0) ∨ (n ≠ 0 ∧ ∃ g, lo ≤ g ∧ v = .slice (some ⟨g, 0, none⟩) 1 1 ∧ w.heap[g]? = some (.cells #[.slice none 0 0, .int .i64 n] 69 (0, 0)))
theorem fo.V.below {w w' : World} {lo : Nat} {v : Value} {n : Int} (h : fo.V w lo v n) (hb : Below w.heap.size w w') : fo.V w' lo v n := by
  rcases h with h | ⟨h0, g, h1, h2, h3⟩
  · exact .inl h
  · exact .inr ⟨h0, g, h1, h2, blk_below h3 hb⟩
theorem fo.V.low {w : World} {lo lo' : Nat} {v : Value} {n : Int} (h : fo.V w lo v n) (hl : lo' ≤ lo) : fo.V w lo' v n := by
  rcases h with h | ⟨h0, g, h1, h2, h3⟩
  · exact .inl h
  · exact .inr ⟨h0, g, Nat.le_trans hl h1, h2, h3⟩
theorem fo.V.form {w : World} {lo : Nat} {v : Value} {n : Int} (h : fo.V w lo v n) : ∃ A m c, v = .slice A m c := by
  rcases h with ⟨_, rfl⟩ | ⟨_, g, _, rfl, _⟩
  · exact ⟨_, _, _, rfl⟩
  · exact ⟨_, _, _, rfl⟩
theorem fo.grown_set (w : World) (p : Addr) (u : Value) : w.grownBy (w.setCell p u) (some p.block) := ⟨rfl, rfl, rfl, by simp [World.setCell], fun k _ hk => Below.heap_setCell w p u k (fun e => hk (by rw [e]))⟩
theorem fo.V.set {w : World} {lo : Nat} {v : Value} {n : Int} (h : fo.V w lo v n) {k : Nat} (hk : k < lo) (j : Nat) (u : Value) : fo.V (w.setCell ⟨k, j, none⟩ u) lo v n := by
  rcases h with h | ⟨h0, g, h1, h2, h3⟩
  · exact .inl h
  · exact .inr ⟨h0, g, h1, h2, blk_grown h3 (fo.grown_set w _ u) (fun e => by have := Option.some.inj e; simp only at this; omega)⟩
theorem fo.zero24 (w : World) : (zeroValue 24).run Try.prog w = .ok (.agg #[.slice none 0 0]) w := by kernel_rfl
theorem fo.info24 : (Try.prog.info? 24).map (·.size) = some 1 := by kernel_rfl
set_option maxHeartbeats 1000000 in
set_option maxRecDepth 100000 in
theorem fo.finite (n : Int) (w : World) : Calls Try.prog 39 #[.int .i64 n] w fun e w' => ∃ v, e = .returned (.agg #[v]) ∧ fo.V w' w.heap.size v n ∧ Below w.heap.size w w' := by
  have hz := fo.zero24
  by_cases h : n = 0
  · subst h
    go_enter Try.func39, Try.ntmps39
    go_wp2
    have z := heap_alloc_new w (.cells #[.slice none 0 0] 24)
    refine bodyPost_ret (results_single (r := .cell 2 24) rfl (.cell _ 24 _ (0, 0) _ rfl z Try.underlying24 rfl fo.info24 .nil)) rfl ?_
    exact ⟨_, rfl, .inl ⟨rfl, rfl⟩, (Below.refl _ w).alloc (Nat.le_refl _) _⟩
  · have hd' : (n == 0) = false := by simpa using h
    go_enter Try.func39, Try.ntmps39
    go_wp2
    have z := heap_alloc_new (w.alloc (.cells #[.slice (some ⟨w.heap.size + 1, 0, none⟩) 1 1] 24)) (.cells #[.slice none 0 0, .int .i64 n] 69)
    rw [World.size_alloc] at z
    have z1 := blk_alloc (heap_alloc_new w (.cells #[.slice (some ⟨w.heap.size + 1, 0, none⟩) 1 1] 24)) (.cells #[.slice none 0 0, .int .i64 n] 69)
    refine bodyPost_ret (results_single (r := .cell 2 24) rfl (.cell _ 24 _ (0, 0) _ rfl z1 Try.underlying24 rfl fo.info24 .nil)) rfl ?_
    exact ⟨_, rfl, .inr ⟨h, _, Nat.le_succ _, rfl, z⟩, ((Below.refl _ w).alloc (Nat.le_refl _) _).alloc (by simp) _⟩
set_option maxHeartbeats 1000000 in
set_option maxRecDepth 100000 in
theorem fo.odTerm (n : Int) (w : World) : Calls Try.prog 64 #[.agg #[.slice none 0 0], .int .i64 n] w fun e w' => ∃ v, e = .returned (.agg #[v]) ∧ fo.V w' w.heap.size v n ∧ Below w.heap.size w w' := by
  have hz := fo.zero24
  by_cases h : n = 0
  · subst h
    go_enter Try.func64, Try.ntmps64
    go_wp2
    have z := heap_alloc_new (w.alloc (.cells #[.slice none 0 0] 24)) (.cells #[.slice none 0 0] 24)
    rw [World.size_alloc] at z
    refine bodyPost_ret (results_single (r := .cell 4 24) rfl (.cell _ 24 _ (0, 0) _ rfl z Try.underlying24 rfl fo.info24 .nil)) rfl ?_
    exact ⟨_, rfl, .inl ⟨rfl, rfl⟩, ((Below.refl _ w).alloc (Nat.le_refl _) _).alloc (by simp) _⟩
  · have hd' : (n == 0) = false := by simpa using h
    go_enter Try.func64, Try.ntmps64
    go_wp2
    have z := heap_alloc_new ((w.alloc (.cells #[.slice none 0 0] 24)).alloc (.cells #[.slice (some ⟨w.heap.size + 1 + 1, 0, none⟩) 1 1] 24)) (.cells #[.slice none 0 0, .int .i64 n] 69)
    rw [World.size_alloc, World.size_alloc] at z
    have z1 := blk_alloc (heap_alloc_new (w.alloc (.cells #[.slice none 0 0] 24)) (.cells #[.slice (some ⟨w.heap.size + 1 + 1, 0, none⟩) 1 1] 24)) (.cells #[.slice none 0 0, .int .i64 n] 69)
    rw [World.size_alloc] at z1
    refine bodyPost_ret (results_single (r := .cell 4 24) rfl (.cell _ 24 _ (0, 0) _ rfl z1 Try.underlying24 rfl fo.info24 .nil)) rfl ?_
    exact ⟨_, rfl, .inr ⟨h, _, by omega, rfl, z⟩, (((Below.refl _ w).alloc (Nat.le_refl _) _).alloc (by simp) _).alloc (by simp only [World.size_alloc]; omega) _⟩
set_option maxHeartbeats 1000000 in
set_option maxRecDepth 100000 in
theorem fo.odInt (n : Int) (w : World) : Calls Try.prog 37 #[.int .i64 n] w fun e w' => ∃ v, e = .returned (.agg #[v]) ∧ fo.V w' w.heap.size v n ∧ Below w.heap.size w w' := by
  have hz := fo.zero24
  go_enter Try.func37, Try.ntmps37
  go_wp2_with (go_at_call 64; refine (fo.odTerm n _).mono ?_; rintro e w1 ⟨v, rfl, hv, hb⟩; have z1 := blk_below (heap_alloc_new w (.cells #[.slice none 0 0] 24)) hb; have c0 := (blk_cell z1 0).trans rfl; have f0 := blk_frozen z1 0; obtain ⟨Av, nv, cv, rfl⟩ := fo.V.form hv)
  rw [World.size_alloc] at hv
  refine bodyPost_ret (results_single (r := .cell 2 24) rfl (.cell _ 24 #[.slice Av nv cv] (0, 0) _ rfl (blk_put z1 0 _ rfl) Try.underlying24 rfl fo.info24 .nil)) rfl ?_
  exact ⟨_, rfl, (hv.set (Nat.lt_succ_self _) 0 _).low (Nat.le_succ _), below_set (below_step ((Below.refl _ w).alloc (Nat.le_refl _) _) hb) (Nat.le_refl _)⟩
theorem fo.in (a b c : Int) : impl_in.f a b c = some (decide (b ≤ a ∧ a ≤ c)) := by
  unfold impl_in.f
  by_cases h : a ≥ b
  · rw [if_pos h]; congr 1; simp; omega
  · rw [if_neg h]; congr 1; simp; omega
theorem fo.l1In (a b c : Int) : spec_l1In.f a b c = some (decide (b ≤ a ∧ a ≤ c)) := fo.in a b c
def fo.val (n : Int) : Int := if 0 ≤ n ∧ n ≤ 1000000 then n else 0
set_option maxHeartbeats 1000000 in
set_option maxRecDepth 100000 in
theorem fo.impl (n : Int) (w : World) : Calls Try.prog 10 #[.int .i64 n] w fun e w' => ∃ v, e = .returned (.tuple #[.agg #[v], .bool (decide (0 ≤ n ∧ n ≤ 1000000))]) ∧ fo.V w' w.heap.size v (fo.val n) ∧ Below w.heap.size w w' := by
  have hz := fo.zero24
  by_cases h : 0 ≤ n ∧ n ≤ 1000000
  · have hv : fo.val n = n := by unfold fo.val; rw [if_pos h]
    rw [hv, decide_eq_true h]
    go_enter Try.func10, Try.ntmps10
    go_wp2_with (first | (go_at_call 38; refine (impl_in.calls n 0 1000000 true _ (by rw [fo.in, decide_eq_true h])).mono ?_; rintro e w1 ⟨rfl, hd⟩; have HD := Aside0.mk hd.below; have z0 := blk_below (heap_alloc_new w (.cells #[.slice none 0 0] 24)) hd.below; clear hd) | (go_at_call 39; refine (fo.finite n _).mono ?_; rintro e w2 ⟨v, rfl, hv, hb⟩; have z1 := blk_below z0 hb; have c0 := (blk_cell z1 0).trans rfl; have f0 := blk_frozen z1 0; obtain ⟨Av, nv, cv, rfl⟩ := fo.V.form hv))
    have hs : w.heap.size < w1.heap.size := by have := HD.out.size; rw [World.size_alloc] at this; omega
    refine bodyPost_ret (results_list (rs := [.cell 2 24, .tmp 3]) rfl (by simp) (.cell _ 24 #[.slice Av nv cv] (0, 0) _ rfl (blk_put z1 0 _ rfl) Try.underlying24 rfl fo.info24 (.tmp .nil))) rfl ?_
    exact ⟨_, rfl, (hv.set hs 0 _).low (Nat.le_of_lt hs), below_set (below_step (below_step ((Below.refl _ w).alloc (Nat.le_refl _) _) HD.out) hb) (Nat.le_refl _)⟩
  · have hv : fo.val n = 0 := by unfold fo.val; rw [if_neg h]
    rw [hv, decide_eq_false h]
    go_enter Try.func10, Try.ntmps10
    go_wp2_with (go_at_call 38; refine (impl_in.calls n 0 1000000 false _ (by rw [fo.in, decide_eq_false h])).mono ?_; rintro e w1 ⟨rfl, hd⟩; have HD := Aside0.mk hd.below; have z1 := blk_below (heap_alloc_new w (.cells #[.slice none 0 0] 24)) hd.below; have c0 := (blk_cell z1 0).trans rfl; have f0 := blk_frozen z1 0; clear hd)
    refine bodyPost_ret (results_list (rs := [.cell 2 24, .tmp 3]) rfl (by simp) (.cell _ 24 #[.slice none 0 0] (0, 0) _ rfl (blk_put z1 0 _ rfl) Try.underlying24 rfl fo.info24 (.tmp .nil))) rfl ?_
    exact ⟨_, rfl, .inl ⟨rfl, rfl⟩, below_set (below_step ((Below.refl _ w).alloc (Nat.le_refl _) _) HD.out) (Nat.le_refl _)⟩
set_option maxHeartbeats 1000000 in
set_option maxRecDepth 100000 in
theorem fo.spec (n : Int) (w : World) : Calls Try.prog 9 #[.int .i64 n] w fun e w' => ∃ v, e = .returned (.tuple #[.agg #[v], .bool (decide (0 ≤ n ∧ n ≤ 1000000))]) ∧ fo.V w' w.heap.size v (fo.val n) ∧ Below w.heap.size w w' := by
  have hz := fo.zero24
  by_cases h : 0 ≤ n ∧ n ≤ 1000000
  · have hv : fo.val n = n := by unfold fo.val; rw [if_pos h]
    rw [hv, decide_eq_true h]
    go_enter Try.func9, Try.ntmps9
    go_wp2_with (first | (go_at_call 36; refine (spec_l1In.calls n 0 1000000 true _ (by rw [fo.l1In, decide_eq_true h])).mono ?_; rintro e w1 ⟨rfl, hd⟩; have HD := Aside0.mk hd.below; have z0 := blk_below (heap_alloc_new w (.cells #[.slice none 0 0] 24)) hd.below; clear hd) | (go_at_call 37; refine (fo.odInt n _).mono ?_; rintro e w2 ⟨v, rfl, hv, hb⟩; have z1 := blk_below z0 hb; have c0 := (blk_cell z1 0).trans rfl; have f0 := blk_frozen z1 0; obtain ⟨Av, nv, cv, rfl⟩ := fo.V.form hv))
    have hs : w.heap.size < w1.heap.size := by have := HD.out.size; rw [World.size_alloc] at this; omega
    refine bodyPost_ret (results_list (rs := [.cell 2 24, .tmp 3]) rfl (by simp) (.cell _ 24 #[.slice Av nv cv] (0, 0) _ rfl (blk_put z1 0 _ rfl) Try.underlying24 rfl fo.info24 (.tmp .nil))) rfl ?_
    exact ⟨_, rfl, (hv.set hs 0 _).low (Nat.le_of_lt hs), below_set (below_step (below_step ((Below.refl _ w).alloc (Nat.le_refl _) _) HD.out) hb) (Nat.le_refl _)⟩
  · have hv : fo.val n = 0 := by unfold fo.val; rw [if_neg h]
    rw [hv, decide_eq_false h]
    go_enter Try.func9, Try.ntmps9
    go_wp2_with (go_at_call 36; refine (spec_l1In.calls n 0 1000000 false _ (by rw [fo.l1In, decide_eq_false h])).mono ?_; rintro e w1 ⟨rfl, hd⟩; have HD := Aside0.mk hd.below; have z1 := blk_below (heap_alloc_new w (.cells #[.slice none 0 0] 24)) hd.below; have c0 := (blk_cell z1 0).trans rfl; have f0 := blk_frozen z1 0; clear hd)
    refine bodyPost_ret (results_list (rs := [.cell 2 24, .tmp 3]) rfl (by simp) (.cell _ 24 #[.slice none 0 0] (0, 0) _ rfl (blk_put z1 0 _ rfl) Try.underlying24 rfl fo.info24 (.tmp .nil))) rfl ?_
    exact ⟨_, rfl, .inl ⟨rfl, rfl⟩, below_set (below_step ((Below.refl _ w).alloc (Nat.le_refl _) _) HD.out) (Nat.le_refl _)⟩
set_option maxHeartbeats 1000000 in
set_option maxRecDepth 100000 in
theorem fo.eqS0 (w : World) : Calls Try.prog 40 #[.slice none 0 0, .slice none 0 0] w fun e w' => e = .returned (.bool true) ∧ Below w.heap.size w w' := by
  go_enter Try.func40, Try.ntmps40
  go_wp2
  go_loopg [5] 0 (fun gg s5 wr => s5 = .int .i64 0 ∧ Aside0 (Below w.heap.size w wr))
  case atStart => exact ⟨rfl, ⟨Below.refl _ _⟩⟩
  case round =>
    obtain ⟨rfl, HB⟩ := hrel
    go_wp2
    go_ret
    exact ⟨rfl, HB.out⟩
set_option maxHeartbeats 1000000 in
set_option maxRecDepth 100000 in
theorem fo.eqO0 (w : World) : Calls Try.prog 11 #[.agg #[.slice none 0 0], .agg #[.slice none 0 0]] w fun e w' => e = .returned (.bool true) ∧ Below w.heap.size w w' := by
  have hu24 := Try.underlying24
  go_enter Try.func11, Try.ntmps11
  go_wp2_with (go_at_call 40; refine (fo.eqS0 _).mono ?_; rintro e w1 ⟨rfl, hb⟩)
  go_ret
  exact ⟨rfl, below_step (((Below.refl _ w).alloc (Nat.le_refl _) _).alloc (by simp) _) hb⟩
set_option maxHeartbeats 1000000 in
set_option maxRecDepth 100000 in
theorem fo.eqT (n : Int) (w : World) : Calls Try.prog 65 #[.agg #[.slice none 0 0, .int .i64 n], .agg #[.slice none 0 0, .int .i64 n]] w fun e w' => e = .returned (.bool true) ∧ Below w.heap.size w w' := by
  have hu24 := Try.underlying24
  have hu69 := Try.underlying69
  go_enter Try.func65, Try.ntmps65
  go_wp2_with (go_at_call 11; refine (fo.eqO0 _).mono ?_; rintro e w1 ⟨rfl, hb⟩; have z0 := blk_below (blk_alloc (heap_alloc_new w (.cells #[.slice none 0 0, .int .i64 n] 69)) (.cells #[.slice none 0 0, .int .i64 n] 69)) hb; have z1 := heap_alloc_new (w.alloc (.cells #[.slice none 0 0, .int .i64 n] 69)) (.cells #[.slice none 0 0, .int .i64 n] 69); rw [World.size_alloc] at z1; replace z1 := blk_below z1 hb; have c0 := (blk_cell z0 1).trans rfl; have c1 := (blk_cell z1 1).trans rfl)
  go_ret
  exact ⟨rfl, below_step (((Below.refl _ w).alloc (Nat.le_refl _) _).alloc (by simp) _) hb⟩
def fo.eqS.T : Bool × List (List Nat × List Nat) := (true, [([], []), ([], []), ([0, 1], [0, 1]), ([2], [2]), ([], []), ([], []), ([4, 5], [4, 5]), ([6], [6]), ([3, 7], [3, 7]), ([8], [8])])
def fo.eqS.B : List Nat := [0, 0, 3, 7, 0, 0, 48, 112, 255, 511]
theorem fo.eqS.tab : rtab .any (opsOf Try.f40 6) = fo.eqS.T := by kernel_rfl
theorem fo.eqS.bits : waitsOk fo.eqS.T.2 fo.eqS.B = true := by kernel_rfl
set_option maxHeartbeats 1000000 in
set_option maxRecDepth 100000 in
theorem fo.eqS1 (n : Int) (g h : Nat) (w : World) (hg : w.heap[g]? = some (.cells #[.slice none 0 0, .int .i64 n] 69 (0, 0))) (hh : w.heap[h]? = some (.cells #[.slice none 0 0, .int .i64 n] 69 (0, 0))) : Calls Try.prog 40 #[.slice (some ⟨g, 0, none⟩) 1 1, .slice (some ⟨h, 0, none⟩) 1 1] w fun e w' => e = .returned (.bool true) ∧ Below w.heap.size w w' := by
  have hu69 := Try.underlying69
  have HG := Aside0.mk hg
  have HH := Aside0.mk hh
  clear hg hh
  go_enter Try.func40, Try.ntmps40
  go_wp2
  go_loopg [5] 1 (fun gg s5 wr => (s5 = .int .i64 0 ∧ gg = 1 ∨ s5 = .int .i64 1) ∧ Aside0 (Below w.heap.size w wr) ∧ Aside0 (wr.heap[g]? = some (.cells #[.slice none 0 0, .int .i64 n] 69 (0, 0))) ∧ Aside0 (wr.heap[h]? = some (.cells #[.slice none 0 0, .int .i64 n] 69 (0, 0))))
  case atStart => exact ⟨.inl ⟨rfl, rfl⟩, ⟨Below.refl _ _⟩, HG, HH⟩
  case round =>
    clear HG HH
    obtain ⟨hs, HB, HG, HH⟩ := hrel
    rcases hs with ⟨rfl, rfl⟩ | rfl
    · go_upto_region 6 with (fail)
      have gd_ := grown_of_below (below_drew (Below.refl wr.heap.size wr)) none
      have n1_ := Aside0.mk (blk_grown HG.out gd_ (by simp))
      have n2_ := Aside0.mk (blk_grown HH.out gd_ (by simp))
      have n3_ := Aside0.mk (below_drew1 HB.out)
      clear gd_ HG HH HB
      have HG := n1_
      have HH := n2_
      have HB := n3_
      clear n1_ n2_ n3_
      refine start_ (n := 10) (S := fun w' => w'.cell? ⟨g, 0, none⟩ = some (.slice none 0 0) ∧ w'.cell? ⟨g, 1, none⟩ = some (.int .i64 n) ∧ w'.cell? ⟨h, 0, none⟩ = some (.slice none 0 0) ∧ w'.cell? ⟨h, 1, none⟩ = some (.int .i64 n)) (ds := []) #[false, false, false, false, false, false, false, false, false, false] (by kernel_rfl) rfl rfl ⟨(blk_cell HG.out 0).trans rfl, (blk_cell HG.out 1).trans rfl, (blk_cell HH.out 0).trans rfl, (blk_cell HH.out 1).trans rfl⟩ (fun hHeld => ?_); refine with_tabW fo.eqS.tab fo.eqS.bits (fun HT_ HW_ => ?_)
      generalize wr.drew = w4 at HG HH HB hHeld ⊢
      refine pure_ (i := 0) (N := (some 17)) (v := ?_) (a' := ?_) #[true, false, false, false, false, false, false, false, false, false] rfl rfl (any_of HT_.out (by kernel_rfl)) (fun _ _ _ h => h) (Or.inl ⟨by rfl, ?_⟩) ?_ ?_
      rotate_left
      · intro w'
        go_simp
        with_reducible rfl
      rotate_left
      · simp only [Act.put, List.setIfInBounds_toArray, List.set_cons_zero, List.set_cons_succ, i64_w, i32_w]
        rfl
      refine pure_ (i := 1) (N := (some 18)) (v := ?_) (a' := ?_) #[true, true, false, false, false, false, false, false, false, false] rfl rfl (any_of HT_.out (by kernel_rfl)) (fun _ _ _ h => h) (Or.inl ⟨by rfl, ?_⟩) ?_ ?_
      rotate_left
      · intro w'
        go_simp
        with_reducible rfl
      rotate_left
      · simp only [Act.put, List.setIfInBounds_toArray, List.set_cons_zero, List.set_cons_succ, i64_w, i32_w]
        rfl
      refine pure_ (i := 2) (N := (some 19)) (v := ?_) (a' := ?_) #[true, true, true, false, false, false, false, false, false, false] rfl rfl (any_of HT_.out (by kernel_rfl)) (fun _ _ _ h => h) (Or.inl ⟨by rfl, ?_⟩) ?_ ?_
      rotate_left
      · intro w'
        go_simp
        with_reducible rfl
      rotate_left
      · simp only [Act.put, List.setIfInBounds_toArray, List.set_cons_zero, List.set_cons_succ, i64_w, i32_w]
        rfl
      refine pure_ (i := 4) (N := (some 21)) (v := ?_) (a' := ?_) #[true, true, true, false, true, false, false, false, false, false] rfl rfl (any_of HT_.out (by kernel_rfl)) (fun _ _ _ h => h) (Or.inl ⟨by rfl, ?_⟩) ?_ ?_
      rotate_left
      · intro w'
        go_simp
        with_reducible rfl
      rotate_left
      · simp only [Act.put, List.setIfInBounds_toArray, List.set_cons_zero, List.set_cons_succ, i64_w, i32_w]
        rfl
      refine pure_ (i := 5) (N := (some 22)) (v := ?_) (a' := ?_) #[true, true, true, false, true, true, false, false, false, false] rfl rfl (any_of HT_.out (by kernel_rfl)) (fun _ _ _ h => h) (Or.inl ⟨by rfl, ?_⟩) ?_ ?_
      rotate_left
      · intro w'
        go_simp
        with_reducible rfl
      rotate_left
      · simp only [Act.put, List.setIfInBounds_toArray, List.set_cons_zero, List.set_cons_succ, i64_w, i32_w]
        rfl
      refine pure_ (i := 6) (N := (some 23)) (v := ?_) (a' := ?_) #[true, true, true, false, true, true, true, false, false, false] rfl rfl (any_of HT_.out (by kernel_rfl)) (fun _ _ _ h => h) (Or.inl ⟨by rfl, ?_⟩) ?_ ?_
      rotate_left
      · intro w'
        go_simp
        with_reducible rfl
      rotate_left
      · simp only [Act.put, List.setIfInBounds_toArray, List.set_cons_zero, List.set_cons_succ, i64_w, i32_w]
        rfl
      refine take_ (i := 3) (N := (some 20)) (v := ?_) (a' := ?_) #[true, true, true, true, true, true, true, false, false, false] rfl rfl (take_ofW HT_.out HW_.out (by kernel_rfl)) (fun _ _ _ h => h) (Or.inl ⟨by rfl, ?_⟩) hHeld ?_ ?_
      rotate_left
      · rintro w' ⟨s0, s1, s2, s3⟩
        go_simp
        with_reducible rfl
      rotate_left
      · simp only [Act.put, List.setIfInBounds_toArray, List.set_cons_zero, List.set_cons_succ, i64_w, i32_w]
        rfl
      refine take_ (i := 7) (N := (some 24)) (v := ?_) (a' := ?_) #[true, true, true, true, true, true, true, true, false, false] rfl rfl (take_ofW HT_.out HW_.out (by kernel_rfl)) (fun _ _ _ h => h) (Or.inl ⟨by rfl, ?_⟩) hHeld ?_ ?_
      rotate_left
      · rintro w' ⟨s0, s1, s2, s3⟩
        go_simp
        with_reducible rfl
      rotate_left
      · simp only [Act.put, List.setIfInBounds_toArray, List.set_cons_zero, List.set_cons_succ, i64_w, i32_w]
        rfl
      refine one_ (i := 8) (N := (some 25)) #[true, true, true, true, true, true, true, true, true, false] rfl rfl (one_of HT_.out (by kernel_rfl)) (by decide) (fun K hK => ?_)
      refine goes_ Try.func65 (by kernel_rfl) rfl #[.agg #[.slice none 0 0, .int .i64 n], .agg #[.slice none 0 0, .int .i64 n]] (by rfl) rfl rfl (by (try simp only [List.map_toArray, List.map_cons, List.map_nil]); first | done | rfl) ?_
      refine (fo.eqT n _).mono ?_
      rintro e w5 ⟨rfl, hb5⟩
      refine ⟨_, rfl, ?_⟩
      have n1_ := Aside0.mk (blk_below HG.out hb5)
      have n2_ := Aside0.mk (blk_below HH.out hb5)
      have n3_ := Aside0.mk (below_step HB.out hb5)
      clear HG HH HB hb5
      have HG := n1_
      have HH := n2_
      have HB := n3_
      clear n1_ n2_ n3_
      refine hK.out _ _ ⟨(blk_cell HG.out 0).trans rfl, (blk_cell HG.out 1).trans rfl, (blk_cell HH.out 0).trans rfl, (blk_cell HH.out 1).trans rfl⟩ (fun hHeld => ?_)
      clear hK K
      refine norm_ (a' := ?_) ?_ ?_
      rotate_left
      · show Act.put _ (some 25) _ = _
        simp only [Act.put, List.setIfInBounds_toArray, List.set_cons_zero, List.set_cons_succ, i64_w, i32_w]
        rfl
      refine pure_ (i := 9) (N := (some 26)) (v := ?_) (a' := ?_) #[true, true, true, true, true, true, true, true, true, true] rfl rfl (any_of HT_.out (by kernel_rfl)) (fun _ _ _ h => h) (Or.inl ⟨by rfl, ?_⟩) ?_ ?_
      rotate_left
      · intro w'
        go_simp
        with_reducible rfl
      rotate_left
      · simp only [Act.put, List.setIfInBounds_toArray, List.set_cons_zero, List.set_cons_succ, i64_w, i32_w]
        rfl
      refine done_ (done_of HT_.out (by kernel_rfl)) ?_
      clear HT_ HW_ hHeld
      try go_wp2
      go_roundg 0
      case measure => omega
      case rel => exact ⟨.inr rfl, HB, HG, HH⟩
    · go_wp2
      go_ret
      exact ⟨rfl, HB.out⟩
set_option maxHeartbeats 1000000 in
set_option maxRecDepth 100000 in
theorem fo.eqO (n : Int) (v u : Value) (lo lo' : Nat) (w : World) (hv : fo.V w lo v n) (hu : fo.V w lo' u n) : Calls Try.prog 11 #[.agg #[v], .agg #[u]] w fun e w' => e = .returned (.bool true) ∧ Below w.heap.size w w' := by
  have hu24 := Try.underlying24
  rcases hv with ⟨rfl, rfl⟩ | ⟨h0, g, hg, rfl, hv⟩
  · rcases hu with ⟨_, rfl⟩ | ⟨h0, _⟩
    · exact fo.eqO0 w
    · exact absurd rfl h0
  · rcases hu with ⟨h1, _⟩ | ⟨_, h, hh, rfl, hu⟩
    · exact absurd h1 h0
    · have HV := Aside0.mk hv
      have HU := Aside0.mk hu
      clear hv hu h0 hg hh
      go_enter Try.func11, Try.ntmps11
      go_wp2_with (go_at_call 40; refine (fo.eqS1 n g h _ (blk_alloc (blk_alloc HV.out _) _) (blk_alloc (blk_alloc HU.out _) _)).mono ?_; rintro e w1 ⟨rfl, hb⟩)
      go_ret
      exact ⟨rfl, below_step (((Below.refl _ w).alloc (Nat.le_refl _) _).alloc (by simp) _) hb⟩
/-! #### the same, within bounds; marks -/
def fo.W (w : World) (lo hi : Nat) (v : Value) (n : Int) : Prop := hi ≤ w.heap.size ∧ ((n = 0 ∧ v = .slice none 0 0) ∨ (n ≠ 0 ∧ ∃ g, lo ≤ g ∧ g < hi ∧ v = .slice (some ⟨g, 0, none⟩) 1 1 ∧ w.heap[g]? = some (.cells #[.slice none 0 0, .int .i64 n] 69 (0, 0))))
theorem fo.W.of {w : World} {lo : Nat} {v : Value} {n : Int} (h : fo.V w lo v n) : fo.W w lo w.heap.size v n := by
  refine ⟨Nat.le_refl _, ?_⟩
  rcases h with h | ⟨h0, g, h1, h2, h3⟩
  · exact .inl h
  · exact .inr ⟨h0, g, h1, blk_lt h3, h2, h3⟩
theorem fo.W.v {w : World} {lo hi : Nat} {v : Value} {n : Int} (h : fo.W w lo hi v n) : fo.V w lo v n := by
  rcases h.2 with h | ⟨h0, g, h1, h2, h3, h4⟩
  · exact .inl h
  · exact .inr ⟨h0, g, h1, h3, h4⟩
theorem fo.W.below {w w' : World} {lo hi : Nat} {v : Value} {n : Int} (h : fo.W w lo hi v n) (hb : Below w.heap.size w w') : fo.W w' lo hi v n := by
  refine ⟨Nat.le_trans h.1 hb.size, ?_⟩
  rcases h.2 with h | ⟨h0, g, h1, h2, h3, h4⟩
  · exact .inl h
  · exact .inr ⟨h0, g, h1, h2, h3, blk_below h4 hb⟩
theorem fo.W.kept {w w' : World} {lo hi a b : Nat} {v : Value} {n : Int} (h : fo.W w lo hi v n) (hk : Kept w w' (fun k => a ≤ k ∧ k < b)) (hd : hi ≤ a ∨ b ≤ lo) : fo.W w' lo hi v n := by
  refine ⟨Nat.le_trans h.1 hk.1, ?_⟩
  rcases h.2 with h | ⟨h0, g, h1, h2, h3, h4⟩
  · exact .inl h
  · exact .inr ⟨h0, g, h1, h2, h3, blk_kept h4 hk (by omega)⟩
def fo.one (n : Int) : Int := if n = 0 then 0 else 1
set_option maxHeartbeats 1000000 in
set_option maxRecDepth 100000 in
theorem fo.markS0 (k : Int) (w : World) : Calls Try.prog 41 #[.slice none 0 0, .int .i64 k] w fun e w' => e = .returned (.int .i64 k) ∧ Below w.heap.size w w' := by
  go_enter Try.func41, Try.ntmps41
  go_wp2
  go_loopg [1, 5] 0 (fun gg s1 s5 wr => s1 = .int .i64 k ∧ s5 = .int .i64 0 ∧ Aside0 (Below w.heap.size w wr))
  case atStart => exact ⟨rfl, rfl, ⟨Below.refl _ _⟩⟩
  case round =>
    obtain ⟨rfl, rfl, HB⟩ := hrel
    go_wp2
    go_ret
    exact ⟨rfl, HB.out⟩
set_option maxHeartbeats 1000000 in
set_option maxRecDepth 100000 in
theorem fo.heldS0 (k : Int) (w : World) : Calls Try.prog 42 #[.slice none 0 0, .int .i64 k] w fun e w' => e = .returned (.int .i64 k) ∧ Below w.heap.size w w' := by
  go_enter Try.func42, Try.ntmps42
  go_wp2
  go_loopg [1, 5] 0 (fun gg s1 s5 wr => s1 = .int .i64 k ∧ s5 = .int .i64 0 ∧ Aside0 (Below w.heap.size w wr))
  case atStart => exact ⟨rfl, rfl, ⟨Below.refl _ _⟩⟩
  case round =>
    obtain ⟨rfl, rfl, HB⟩ := hrel
    go_wp2
    go_ret
    exact ⟨rfl, HB.out⟩
set_option maxHeartbeats 1000000 in
set_option maxRecDepth 100000 in
theorem fo.markS1 (n : Int) (g : Nat) (w : World) (hg : w.heap[g]? = some (.cells #[.slice none 0 0, .int .i64 n] 69 (0, 0))) : Calls Try.prog 41 #[.slice (some ⟨g, 0, none⟩) 1 1, .int .i64 1] w fun e w' => e = .returned (.int .i64 2) ∧ w'.heap[g]? = some (.cells #[.slice none 0 0, .int .i64 1] 69 (0, 0)) ∧ w.grownBy w' (some g) := by
  have HG := Aside0.mk hg
  clear hg
  go_enter Try.func41, Try.ntmps41
  go_wp2
  go_loopg [1, 5] 1 (fun gg s1 s5 wr => ∃ m : Int, (s5 = .int .i64 0 ∧ s1 = .int .i64 1 ∧ gg = 1 ∧ m = n ∨ s5 = .int .i64 1 ∧ s1 = .int .i64 2 ∧ m = 1) ∧ Aside0 (w.grownBy wr (some g)) ∧ Aside0 (wr.heap[g]? = some (.cells #[.slice none 0 0, .int .i64 m] 69 (0, 0))))
  case atStart => exact ⟨n, .inl ⟨rfl, rfl, rfl, rfl⟩, ⟨⟨rfl, rfl, rfl, Nat.le_refl _, fun _ _ _ => rfl⟩⟩, HG⟩
  case round =>
    clear HG
    obtain ⟨m, hs, HB, HG⟩ := hrel
    rcases hs with ⟨rfl, rfl, rfl, rfl⟩ | ⟨rfl, rfl, rfl⟩
    · have c0 := (blk_cell HG.out 0).trans rfl
      go_wp2_with (go_at_call 41; refine (fo.markS0 1 _).mono ?_; rintro e w5 ⟨rfl, hb5⟩; have z0 := blk_below HG.out hb5; have HB5 := Aside0.mk (HB.out.trans (grown_of_below hb5 (some g))); have c1 := (blk_cell z0 1).trans rfl; have f1 := blk_frozen z0 1; clear hb5)
      go_roundg 0
      case measure => omega
      case rel => exact ⟨1, .inr ⟨rfl, rfl, rfl⟩, ⟨HB5.out.trans (fo.grown_set _ ⟨g, 1, none⟩ _)⟩, ⟨blk_put z0 1 _ rfl⟩⟩
    · go_wp2
      go_ret
      exact ⟨rfl, HG.out, HB.out⟩
set_option maxHeartbeats 1000000 in
set_option maxRecDepth 100000 in
theorem fo.heldS1 (g : Nat) (w : World) (hg : w.heap[g]? = some (.cells #[.slice none 0 0, .int .i64 1] 69 (0, 0))) : Calls Try.prog 42 #[.slice (some ⟨g, 0, none⟩) 1 1, .int .i64 1] w fun e w' => e = .returned (.int .i64 2) ∧ Below w.heap.size w w' := by
  have HG := Aside0.mk hg
  clear hg
  go_enter Try.func42, Try.ntmps42
  go_wp2
  go_loopg [1, 5] 1 (fun gg s1 s5 wr => (s5 = .int .i64 0 ∧ s1 = .int .i64 1 ∧ gg = 1 ∨ s5 = .int .i64 1 ∧ s1 = .int .i64 2) ∧ Aside0 (Below w.heap.size w wr) ∧ Aside0 (wr.heap[g]? = some (.cells #[.slice none 0 0, .int .i64 1] 69 (0, 0))))
  case atStart => exact ⟨.inl ⟨rfl, rfl, rfl⟩, ⟨Below.refl _ _⟩, HG⟩
  case round =>
    clear HG
    obtain ⟨hs, HB, HG⟩ := hrel
    rcases hs with ⟨rfl, rfl, rfl⟩ | ⟨rfl, rfl⟩
    · have c0 := (blk_cell HG.out 0).trans rfl
      go_wp2_with (go_at_call 42; refine (fo.heldS0 1 _).mono ?_; rintro e w5 ⟨rfl, hb5⟩; have z0 := blk_below HG.out hb5; have HB5 := Aside0.mk (below_step HB.out hb5); have c1 := (blk_cell z0 1).trans rfl; clear hb5)
      go_roundg 0
      case measure => omega
      case rel => exact ⟨.inr ⟨rfl, rfl⟩, HB5, ⟨z0⟩⟩
    · go_wp2
      go_ret
      exact ⟨rfl, HB.out⟩
set_option maxHeartbeats 1000000 in
set_option maxRecDepth 100000 in
theorem fo.markO (n : Int) (v : Value) (lo hi : Nat) (w0 w : World) (hB : Below w0.heap.size w0 w) (h0 : w0.heap.size ≤ lo) (hv : fo.W w lo hi v n) : Calls Try.prog 12 #[.agg #[v], .int .i64 1] w fun e w' => e = .returned (.int .i64 (1 + fo.one n)) ∧ fo.W w' lo hi v (fo.one n) ∧ Below w0.heap.size w0 w' ∧ Kept w w' (fun k => lo ≤ k ∧ k < hi) := by
  have hu24 := Try.underlying24
  have hs := hB.size
  obtain ⟨hhi, hv⟩ := hv
  rcases hv with ⟨rfl, rfl⟩ | ⟨hn, g, hlo, hlt, rfl, hg⟩
  · have e1 : fo.one 0 = 0 := rfl
    rw [e1]
    go_enter Try.func12, Try.ntmps12
    go_wp2_with (go_at_call 41; refine (fo.markS0 1 _).mono ?_; rintro e w1 ⟨rfl, hb⟩)
    go_ret
    have hb1 : Below w.heap.size w w1 := below_step ((Below.refl _ w).alloc (Nat.le_refl _) _) hb
    exact ⟨rfl, ⟨Nat.le_trans hhi hb1.size, .inl ⟨rfl, rfl⟩⟩, below_step hB hb1, Kept.of_below hb1 _⟩
  · have e1 : fo.one n = 1 := by unfold fo.one; rw [if_neg hn]
    rw [e1]
    have HG := Aside0.mk hg
    have HBB := Aside0.mk hB
    clear hg hB
    go_enter Try.func12, Try.ntmps12
    go_wp2_with (go_at_call 41; refine (fo.markS1 n g _ (blk_alloc HG.out _)).mono ?_; rintro e w1 ⟨rfl, hz, hgr⟩)
    go_ret
    have G1 : w.grownBy w1 (some g) := (show w.grownBy (w.alloc (.cells #[.slice (some ⟨g, 0, none⟩) 1 1] 24)) (some g) from World.grownBy_alloc w _ _).trans hgr
    refine ⟨rfl, ⟨Nat.le_trans hhi G1.size, .inr ⟨by decide, g, hlo, hlt, rfl, hz⟩⟩, HBB.out.grown G1 hs (fun k e => by injection e with e; omega), Kept.of_grown G1 (Kept.refl _ _) (fun k e => by injection e with e; exact .inl (by omega))⟩
set_option maxHeartbeats 1000000 in
set_option maxRecDepth 100000 in
theorem fo.heldO (n : Int) (v : Value) (lo hi : Nat) (w : World) (hv : fo.W w lo hi v (fo.one n)) : Calls Try.prog 13 #[.agg #[v], .int .i64 1] w fun e w' => e = .returned (.int .i64 (1 + fo.one n)) ∧ Below w.heap.size w w' := by
  have hu24 := Try.underlying24
  by_cases hn : n = 0
  · have e1 : fo.one n = 0 := by unfold fo.one; rw [if_pos hn]
    rw [e1] at hv ⊢
    rcases hv.2 with ⟨_, rfl⟩ | ⟨h, _⟩
    · clear hv e1 hn
      go_enter Try.func13, Try.ntmps13
      go_wp2_with (go_at_call 42; refine (fo.heldS0 1 _).mono ?_; rintro e w1 ⟨rfl, hb⟩)
      go_ret
      exact ⟨rfl, below_step ((Below.refl _ w).alloc (Nat.le_refl _) _) hb⟩
    · exact absurd rfl h
  · have e1 : fo.one n = 1 := by unfold fo.one; rw [if_neg hn]
    rw [e1] at hv ⊢
    rcases hv.2 with ⟨h, _⟩ | ⟨_, g, _, _, rfl, hg⟩
    · exact absurd h (by decide)
    · have HG := Aside0.mk hg
      clear hg hv e1 hn
      go_enter Try.func13, Try.ntmps13
      go_wp2_with (go_at_call 42; refine (fo.heldS1 g _ (blk_alloc HG.out _)).mono ?_; rintro e w1 ⟨rfl, hb⟩)
      go_ret
      exact ⟨rfl, below_step ((Below.refl _ w).alloc (Nat.le_refl _) _) hb⟩
/-- The law's f: it always holds. -/
def laws_FnExactFiniteOrdinal.f (_ : Nat) (_ : Int) : Option Bool := some true
set_option maxHeartbeats 1000000 in
set_option maxRecDepth 100000 in
theorem fo.law (n : Int) (w : World) : Calls Try.prog 3 #[.int .i64 n] w fun e w' => e = .returned (.bool true) ∧ Below w.heap.size w w' := by
  have hu24 := Try.underlying24
  have hz := fo.zero24
  have hB0 := Aside0.mk (Below.refl w.heap.size w)
  generalize hq : decide (0 ≤ n ∧ n ≤ 1000000) = q
  have HQ := Aside0.mk hq
  have d3_ : (q != q) = false := by simp
  obtain ⟨m, hm⟩ : ∃ m : Int, m = 1 + fo.one (fo.val n) := ⟨_, rfl⟩
  have HM := Aside0.mk hm
  have hm1 : m = 1 ∨ m = 2 := by rw [hm]; unfold fo.one; split <;> omega
  have d1_ : decide (m < 0) = false := decide_eq_false (by omega)
  clear hq hm hm1
  go_enter Try.func3, Try.ntmps3
  go_wp2_with (first
    | (go_at_call 9; (with_reducible refine (fo.spec n _).mono ?_); rintro e w1 ⟨vs, rfl, hv, hb⟩; rw [HQ.out]; have S := Aside0.mk (fo.W.of hv); have HB := Aside0.mk hb; obtain ⟨As, ns, cs, rfl⟩ := fo.V.form hv; clear hv hb hB0)
    | (go_at_call 10; (with_reducible refine (fo.impl n _).mono ?_); first
        | (have t_ := HX5; rintro e w6 ⟨vh, rfl, hv, hb⟩; rw [HQ.out]; have H := Aside0.mk (fo.W.of hv); obtain ⟨Ah, nh, ch, rfl⟩ := fo.V.form hv; clear c3 c5; have n0_ := Aside0.mk (S.out.below hb); have n1_ := Aside0.mk (G.out.below hb); have n2_ := Aside0.mk (blk_below HX3.out hb); have n3_ := Aside0.mk (blk_below HX5.out hb); have n4_ := Aside0.mk (below_step HB.out hb); clear S G HX3 HX5 HB; have S := n0_; have G := n1_; have HX3 := n2_; have HX5 := n3_; have HB := n4_; clear n0_ n1_ n2_ n3_ n4_; clear hv hb; have c3 := (blk_cell (blk_alloc HX3.out (.cells #[.slice Ah nh ch] 24)) 0).trans rfl)
        | (rintro e w2 ⟨vg, rfl, hv, hb⟩; rw [HQ.out]; have G := Aside0.mk (fo.W.of hv); obtain ⟨Ag, ng, cg, rfl⟩ := fo.V.form hv; have HLO := Aside0.mk (show w.heap.size ≤ (w1.alloc (.cells #[.slice As ns cs] 24)).heap.size by rw [World.size_alloc]; exact Nat.le_succ_of_le HB.out.size); have HX3 := Aside0.mk (blk_below (heap_alloc_new w1 (.cells #[.slice As ns cs] 24)) hb); have n1_ := Aside0.mk ((S.out.below (below_alloc (Below.refl _ _) (.cells #[.slice As ns cs] 24))).below hb); have n5_ := Aside0.mk (below_step (HB.out.alloc HB.out.size _) hb); clear S HB hv hb; have S := n1_; have HB := n5_; clear n1_ n5_; have HX5 := Aside0.mk (heap_alloc_new w2 (.cells #[.slice Ag ng cg] 24)); have c3 := (blk_cell (blk_alloc HX3.out (.cells #[.slice Ag ng cg] 24)) 0).trans rfl))
    | (go_at_call 11; first
        | (have t_ := H; (with_reducible refine (fo.eqO (fo.val n) _ _ _ _ _ (H.out.below (below_alloc (Below.refl _ _) (.cells #[.slice Ah nh ch] 24))).v (S.out.below (below_alloc (Below.refl _ _) (.cells #[.slice Ah nh ch] 24))).v).mono ?_); rintro e w7 ⟨rfl, hb⟩; clear c3; have n0_ := Aside0.mk ((S.out.below (below_alloc (Below.refl _ _) (.cells #[.slice Ah nh ch] 24))).below hb); have n1_ := Aside0.mk ((G.out.below (below_alloc (Below.refl _ _) (.cells #[.slice Ah nh ch] 24))).below hb); have n2_ := Aside0.mk (blk_below (blk_alloc HX3.out (.cells #[.slice Ah nh ch] 24)) hb); have n3_ := Aside0.mk (blk_below (blk_alloc HX5.out (.cells #[.slice Ah nh ch] 24)) hb); have n4_ := Aside0.mk (below_step (HB.out.alloc HB.out.size _) hb); clear S G HX3 HX5 HB; have S := n0_; have G := n1_; have HX3 := n2_; have HX5 := n3_; have HB := n4_; clear n0_ n1_ n2_ n3_ n4_; clear H hb; have c3 := (blk_cell HX3.out 0).trans rfl; have c5 := (blk_cell HX5.out 0).trans rfl)
        | ((with_reducible refine (fo.eqO (fo.val n) _ _ _ _ _ (G.out.below (below_alloc (Below.refl _ _) (.cells #[.slice Ag ng cg] 24))).v (S.out.below (below_alloc (Below.refl _ _) (.cells #[.slice Ag ng cg] 24))).v).mono ?_); rintro e w3 ⟨rfl, hb⟩; clear c3; have n0_ := Aside0.mk ((S.out.below (below_alloc (Below.refl _ _) (.cells #[.slice Ag ng cg] 24))).below hb); have n1_ := Aside0.mk ((G.out.below (below_alloc (Below.refl _ _) (.cells #[.slice Ag ng cg] 24))).below hb); have n2_ := Aside0.mk (blk_below (blk_alloc HX3.out (.cells #[.slice Ag ng cg] 24)) hb); have n3_ := Aside0.mk (blk_below HX5.out hb); have n4_ := Aside0.mk (below_step (HB.out.alloc HB.out.size _) hb); clear S G HX3 HX5 HB; have S := n0_; have G := n1_; have HX3 := n2_; have HX5 := n3_; have HB := n4_; clear n0_ n1_ n2_ n3_ n4_; clear hb; have c3 := (blk_cell HX3.out 0).trans rfl; have c5 := (blk_cell HX5.out 0).trans rfl))
    | (go_at_call 12; (with_reducible refine (fo.markO (fo.val n) _ _ _ w _ HB.out HLO.out G.out).mono ?_); rintro e w4 ⟨rfl, hg, hb, hk⟩; rw [← HM.out]; clear c3 c5; have n0_ := Aside0.mk (S.out.kept hk (.inl (by rw [World.size_alloc]; exact Nat.le_succ _))); have n1_ := Aside0.mk (blk_kept HX3.out hk (by rw [World.size_alloc]; omega)); have n2_ := Aside0.mk (blk_kept HX5.out hk (by omega)); have n3_ := Aside0.mk (hg); have n4_ := Aside0.mk (hb); clear S HX3 HX5 G HB; have S := n0_; have HX3 := n1_; have HX5 := n2_; have G := n3_; have HB := n4_; clear n0_ n1_ n2_ n3_ n4_; clear hb hk hg; have c3 := (blk_cell HX3.out 0).trans rfl; have c5 := (blk_cell HX5.out 0).trans rfl)
    | (go_at_call 13; (with_reducible refine (fo.heldO (fo.val n) _ _ _ _ G.out).mono ?_); rintro e w5 ⟨rfl, hb⟩; rw [← HM.out]; clear c3 c5; have n0_ := Aside0.mk (S.out.below hb); have n1_ := Aside0.mk (G.out.below hb); have n2_ := Aside0.mk (blk_below HX3.out hb); have n3_ := Aside0.mk (blk_below HX5.out hb); have n4_ := Aside0.mk (below_step HB.out hb); clear S G HX3 HX5 HB; have S := n0_; have G := n1_; have HX3 := n2_; have HX5 := n3_; have HB := n4_; clear n0_ n1_ n2_ n3_ n4_; clear hb; have c3 := (blk_cell HX3.out 0).trans rfl; have c5 := (blk_cell HX5.out 0).trans rfl))
  go_ret
  exact ⟨rfl, HB.out⟩
theorem laws_FnExactFiniteOrdinal.calls (k : Nat) (a0 : Int) (r : Bool) (hr_ : Aside0 (r = true)) (w : World) (h : laws_FnExactFiniteOrdinal.f k a0 = some r) :
    Calls Try.prog 3 #[.int .i64 a0] w fun e w' => e = .returned (.bool r) ∧ Below w.heap.size w w' := by
  obtain rfl := hr_.out
  exact fo.law a0 w

end Go.Proofs.Ytgjpfhedhehmdaa.QFnExactFiniteOrdinal
