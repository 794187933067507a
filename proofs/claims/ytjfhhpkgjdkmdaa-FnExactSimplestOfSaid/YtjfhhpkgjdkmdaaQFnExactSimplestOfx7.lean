/- The Go functions that the law FnExactSimplestOf reaches, as Lean functions, and what their calls do. Written by a program of this session. -/
import Derived.Test.YtjfhhpkgjdkmdaaQFnExactSimplestOfx0
import Derived.Test.YtjfhhpkgjdkmdaaQFnExactSimplestOfx5
import Derived.Test.YtjfhhpkgjdkmdaaQFnExactSimplestOfx6
namespace Go.Proofs.Ytjfhhpkgjdkmdaa.QFnExactSimplestOf
open Go.RowKit Go.Proofs.YtjfhhpkgjdkmdaaW.PrintWords Go.Proofs.YtjfhhpkgjdkmdaaW.PrintLast Go.Proofs.YtjfhhpkgjdkmdaaW.PrintMore
attribute [local go_sem] max2_int min2_int max_two min_two max_three min_three max_four min_four   -- for this text's walks alone
set_option linter.unusedVariables false
set_option linter.unusedSimpArgs false

/-! ### impl_fractionsOk: function 13 -/
/-- A predicate handed over: what it tells in whatever world that keeps what lay there. -/
def fr.Pred (g : Nat) (lb : Array Value) (p : S25 → Bool) (l : List S25) (w0 : World) : Prop :=
  ∀ (W : World) (x : S25), x ∈ l → Below w0.heap.size w0 W → Calls Try.prog g (#[.agg #[.int .i64 x.f0, .int .i64 x.f1]] ++ lb) W fun e w' => e = .returned (.bool (p x)) ∧ Below W.heap.size W w'
set_option maxHeartbeats 400000 in
set_option maxRecDepth 100000 in
theorem fr.indexFunc (g : Nat) (lb : Array Value) (eg : ∀ args w, (callFunc g args).run Try.prog w = .ok (.enter g args) w) (p : S25 → Bool) (l : List S25) (A : Option Addr) (c : Nat) (w0 w : World) (h0 : Below w0.heap.size w0 w)
    (hr : Kd.C k25 w A l.length l) (hp : fr.Pred g lb p l w0) :
    Calls Try.prog 36 #[.slice A l.length c, .func (.func g) #[] lb] w fun e w' => ∃ r : Int, e = .returned (.int .i64 r) ∧ Below w.heap.size w w' ∧
      ((r = -1 ∧ ∀ x ∈ l, p x = false) ∨ ∃ k : Nat, ∃ hk : k < l.length, r = (k : Int) ∧ p l[k] = true ∧ ∀ j, j < k → ∀ hj : j < l.length, p l[j] = false) := by
  have hbig : l.length ≤ 9223372036854775807 := hr.2.1
  have hu25 := Try.underlying25
  have HR := Aside0.mk hr
  have HP := Aside0.mk hp
  have H0 := Aside0.mk h0
  clear hr hp h0
  go_enter Try.func36, Try.ntmps36
  go_wp2
  go_loopg [5, 8] l.length (fun gg _ s8 wr => ∃ kk : Nat, kk ≤ l.length ∧ l.length - kk ≤ gg ∧ s8 = .int .i64 kk ∧ Aside0 (Below w.heap.size w wr) ∧ Aside0 (∀ j, j < kk → ∀ hj : j < l.length, p l[j] = false))
  case atStart => exact ⟨0, Nat.zero_le _, by omega, rfl, ⟨Below.refl _ w⟩, ⟨fun j hj => absurd hj (Nat.not_lt_zero _)⟩⟩
  case round =>
    obtain ⟨kk, hkk, hg, rfl, BW, AF⟩ := hrel
    by_cases hlt : kk < l.length
    · have hltz : (kk : Int) < (l.length : Int) := by omega
      obtain ⟨ad, e0, hx0, hx1⟩ := at_T25 HR.out (kk : Int) (by omega) hltz
      cases e0
      replace hx0 := (BW.out.cell (World.block_lt_of_cell? w _ hx0)).trans hx0
      replace hx1 := (BW.out.cell (World.block_lt_of_cell? w _ hx1)).trans hx1
      have hcall := HP.out wr l[kk] (List.getElem_mem hlt) (below_then H0.out H0.out.size BW.out)
      have hrd : rd_T25 l (kk : Int) = l[kk] := by simp [rd_T25, List.getD_eq_getElem?_getD, List.getElem?_eq_getElem hlt]
      rw [hrd] at hx0 hx1
      clear hrd
      simp only [Int.toNat_natCast] at hx0 hx1
      generalize hy : l[kk] = y at hx0 hx1 hcall
      have B : Aside0 (l[kk] = y) := ⟨hy⟩
      clear hy
      cases hq : p y with
      | true =>
        rw [hq] at hcall
        go_wp2_with (go_at_fn g; refine hcall.mono ?_; rintro e w' ⟨rfl, hb'⟩)
        go_ret
        exact ⟨_, rfl, below_then BW.out BW.out.size hb', Or.inr ⟨kk, hlt, rfl, by rw [B.out]; exact hq, AF.out⟩⟩
      | false =>
        rw [hq] at hcall
        go_wp2_with (go_at_fn g; refine hcall.mono ?_; rintro e w' ⟨rfl, hb'⟩)
        go_roundg (l.length - (kk + 1))
        case measure => omega
        case rel =>
          refine ⟨kk + 1, by omega, by omega, by go_num, ⟨below_then BW.out BW.out.size hb'⟩, ⟨fun j hj hjl => ?_⟩⟩
          by_cases e : j = kk
          · subst e
            rw [B.out]; exact hq
          · exact AF.out j (by omega) hjl
    · have hltz : ¬ (kk : Int) < (l.length : Int) := by omega
      have : kk = l.length := by omega
      go_wp2
      go_ret
      refine ⟨_, rfl, BW.out, Or.inl ⟨rfl, fun x hx => ?_⟩⟩
      obtain ⟨j, hj, rfl⟩ := List.mem_iff_getElem.1 hx
      exact AF.out j (by omega) hj
set_option maxHeartbeats 400000 in
set_option maxRecDepth 100000 in
theorem fr.containsFunc (g : Nat) (lb : Array Value) (eg : ∀ args w, (callFunc g args).run Try.prog w = .ok (.enter g args) w) (p : S25 → Bool) (l : List S25) (A : Option Addr) (c : Nat) (w : World)
    (hr : Kd.C k25 w A l.length l) (hp : fr.Pred g lb p l w) :
    Calls Try.prog 22 #[.slice A l.length c, .func (.func g) #[] lb] w fun e w' => e = .returned (.bool (l.any p)) ∧ Below w.heap.size w w' := by
  have hIF := (fr.indexFunc g lb eg p l A c w w (Below.refl _ w) hr hp).mono (R' := fun e w' => ∃ r : Int, e = .returned (.int .i64 r) ∧ decide (0 ≤ r) = l.any p ∧ Below w.heap.size w w') (by
    rintro e w1 ⟨r, rfl, hb, hh⟩
    refine ⟨r, rfl, ?_, hb⟩
    rcases hh with ⟨rfl, hall⟩ | ⟨k, hk, rfl, hpk, _⟩
    · have : l.any p = false := by
        rw [List.any_eq_false]
        intro x hx
        rw [hall x hx]
        decide
      rw [this]
      rfl
    · have : l.any p = true := List.any_eq_true.2 ⟨_, List.getElem_mem hk, hpk⟩
      rw [this]
      exact decide_eq_true (Int.natCast_nonneg k))
  clear hr hp
  go_enter Try.func22, Try.ntmps22
  go_wp2_with (first | (go_at_call 36; refine hIF.mono ?_; rintro e w1 ⟨r, rfl, hd, hb⟩; have HD := Aside0.mk hd; have HB := Aside0.mk hb; clear hd hb))
  go_ret
  exact ⟨by rw [← HD.out]; rfl, HB.out⟩
/-- Is it a fraction. -/
def fr.is (x : S25) : Bool := (impl_IsFraction.f 1000001 x.f0 x.f1).getD false
theorem fr.gcd_some : ∀ (d k : Nat) (a b : Int), b.natAbs ≤ d → d < k → ∃ r, impl_gcd.l0 k a b = some r := by
  intro d
  induction d with
  | zero =>
    intro k a b hb hk
    obtain ⟨k, rfl⟩ : ∃ m, k = m + 1 := ⟨k - 1, by omega⟩
    simp only [impl_gcd.l0]
    rw [if_pos (by omega)]
    exact ⟨_, rfl⟩
  | succ d ih =>
    intro k a b hb hk
    obtain ⟨k, rfl⟩ : ∃ m, k = m + 1 := ⟨k - 1, by omega⟩
    simp only [impl_gcd.l0]
    by_cases h : b = 0
    · rw [if_pos h]
      exact ⟨_, rfl⟩
    · rw [if_neg h]
      refine ih k _ _ ?_ (by omega)
      rw [Int.natAbs_tmod]
      have := Nat.mod_lt a.natAbs (show b.natAbs > 0 by omega)
      omega
theorem fr.in_some (e a b : Int) : impl_in.f e a b = some (decide (a ≤ e ∧ e ≤ b)) := by
  unfold impl_in.f
  by_cases h : e ≥ a
  · rw [if_pos h]; congr 1; simp; omega
  · rw [if_neg h]; congr 1; simp; omega
theorem fr.good_some (a b : Int) (k : Nat) (hk : 1000000 < k) : ∃ r, impl_IsFraction.f k a b = some r := by
  unfold impl_IsFraction.f impl_gcd.f
  simp only [fr.in_some, Option.bind_some]
  by_cases h : 1 ≤ b ∧ b ≤ 1000000
  · rw [if_pos (decide_eq_true h)]
    by_cases h2 : -1000000 ≤ a ∧ a ≤ 1000000
    · rw [if_pos (decide_eq_true h2)]
      obtain ⟨r, hr⟩ := fr.gcd_some 1000000 k a b (by omega) hk
      rw [hr]
      exact ⟨_, rfl⟩
    · rw [if_neg (by simpa using h2)]; exact ⟨_, rfl⟩
  · rw [if_neg (by simpa using h)]; exact ⟨_, rfl⟩
theorem fr.is_some (x : S25) : impl_IsFraction.f 1000001 x.f0 x.f1 = some (fr.is x) := by
  obtain ⟨r, hr⟩ := fr.good_some x.f0 x.f1 1000001 (by omega)
  unfold fr.is
  rw [hr]
  rfl
set_option maxHeartbeats 800000 in
set_option maxRecDepth 100000 in
theorem fr.not (x : S25) (W : World) : Calls Try.prog 23 (#[.agg #[.int .i64 x.f0, .int .i64 x.f1]] ++ #[]) W fun e w' => e = .returned (.bool (!fr.is x)) ∧ Below W.heap.size W w' := by
  have hu25 := Try.underlying25
  have HC := Aside0.mk (fr.is_some x)
  show Calls _ _ #[.agg #[.int .i64 x.f0, .int .i64 x.f1]] W _
  have hbx := heap_alloc_new W (.cells #[.int .i64 x.f0, .int .i64 x.f1] 25)
  have hc0 := (blk_cell hbx 0).trans rfl
  have hc1 := (blk_cell hbx 1).trans rfl
  clear hbx
  go_enter Try.func23, Try.ntmps23
  go_wp2_with (go_at_call 24; refine (impl_IsFraction.calls 1000001 x.f0 x.f1 (fr.is x) _ HC.out).mono ?_; rintro e w' ⟨rfl, hb'⟩)
  go_ret
  exact ⟨rfl, (((Below.refl W.heap.size W).alloc (Nat.le_refl _) _).trans (hb'.mono (by simp)))⟩
def impl_fractionsOk.f (l0 : List (S25)) : Option (Bool) := some (decide (l0.length ≤ 20) && !(l0.any fun x => !fr.is x))
set_option maxHeartbeats 2000000 in
set_option maxRecDepth 100000 in
theorem impl_fractionsOk.calls (A0 : Option Addr) (c0 : Nat) (l0 : List (S25)) (r : Bool) (w : World) (hr0 : Kd.C k25 w A0 l0.length l0) (hc0 : l0.length ≤ c0) (h : impl_fractionsOk.f l0 = some r) :
    Calls Try.prog 13 #[.slice A0 l0.length c0] w fun e w' => e = .returned (.bool r) ∧ Below w.heap.size w w' := by
  have hIs := fr.containsFunc 23 #[] (fun args w => enters_ Try.func23 rfl rfl args w) (fun x => !fr.is x) l0 A0 c0 w hr0 (fun W x _ _ => fr.not x W)
  have hr : r = (decide (l0.length ≤ 20) && !(l0.any fun x => !fr.is x)) := by
    unfold impl_fractionsOk.f at h
    simpa using h.symm
  subst hr
  clear h hr0 hc0
  by_cases c : l0.length ≤ 20
  · have d1 : decide ((l0.length : Int) ≤ 20) = true := decide_eq_true (by omega)
    rw [decide_eq_true c, Bool.true_and]
    clear c
    go_enter Try.func13, Try.ntmps13
    go_wp2_with (go_at_call 22; refine hIs.mono ?_; rintro e w' ⟨rfl, hb'⟩)
    go_ret
    exact ⟨rfl, hb'⟩
  · have d1 : decide ((l0.length : Int) ≤ 20) = false := decide_eq_false (by omega)
    rw [decide_eq_false c, Bool.false_and]
    clear c hIs
    go_enter Try.func13, Try.ntmps13
    go_wp2
    go_ret
    exact ⟨rfl, Below.refl _ _⟩
/-! ### impl_simplest: function 14 -/
/-! #### simplest's closures -/
def si.le (x : Int) (a : S25) : Bool := decide (wrap64 (x * a.f1) ≤ wrap64 (a.f0 * 1048576))
def si.ge (x : Int) (a : S25) : Bool := decide (wrap64 (a.f0 * 1048576) ≤ wrap64 (x * a.f1))
def si.sd (l0 l1 : List S25) (_ : Nat) (x : Int) : Int := if l0.any (si.le x) then 1 else if l1.any (si.ge x) then -1 else 0
set_option maxHeartbeats 2000000 in
set_option maxRecDepth 100000 in
theorem si.where (l0 l1 : List S25) (A0 A1 : Option Addr) (c0 c1 : Nat) (b0 b1 : Nat) (i : Nat) (x : Int) (W : World) (h0 : W.heap[b0]? = some (.cells #[.slice A0 l0.length c0] 28 (0, 0))) (h1 : W.heap[b1]? = some (.cells #[.slice A1 l1.length c1] 28 (0, 0)))
    (hr0 : Kd.C k25 W A0 l0.length l0) (hr1 : Kd.C k25 W A1 l1.length l1) :
    Calls Try.prog 26 (#[.int .i64 x] ++ #[.pointer (some ⟨b0, 0, none⟩), .pointer (some ⟨b1, 0, none⟩)]) W fun e w' => e = .returned (.int .i64 (si.sd l0 l1 i x)) ∧ Below W.heap.size W w' := by
  have hu25 := Try.underlying25
  have hg0 : l0.length ≤ 9223372036854775807 := hr0.2.1
  have hg1 : l1.length ≤ 9223372036854775807 := hr1.2.1
  have HR0 := Aside0.mk hr0
  have HR1 := Aside0.mk hr1
  have H1 := Aside0.mk h1
  have hc := (blk_cell h0 0).trans rfl
  clear hr0 hr1 h0 h1
  show Calls _ _ #[.int .i64 x, .pointer (some ⟨b0, 0, none⟩), .pointer (some ⟨b1, 0, none⟩)] W _
  go_enter Try.func26, Try.ntmps26
  go_wp2
  clear hc
  go_loopg [11] l0.length (fun gg s11 wr => ∃ kk : Nat, kk ≤ l0.length ∧ l0.length - kk ≤ gg ∧ s11 = .int .i64 kk ∧ Aside0 (Below W.heap.size W wr) ∧ Aside0 (∀ j, j < kk → ∀ hj : j < l0.length, si.le x l0[j] = false))
  case atStart => exact ⟨0, Nat.zero_le _, by omega, rfl, ⟨Below.refl _ W⟩, ⟨fun j hj => absurd hj (Nat.not_lt_zero _)⟩⟩
  case round =>
    obtain ⟨kk, hkk, hg, rfl, BW, AF⟩ := hrel
    by_cases hlt : kk < l0.length
    · have hltz : (kk : Int) < (l0.length : Int) := by omega
      obtain ⟨ad, e0, hx0, hx1⟩ := at_T25 HR0.out (kk : Int) (by omega) hltz
      cases e0
      replace hx0 := (BW.out.cell (World.block_lt_of_cell? W _ hx0)).trans hx0
      replace hx1 := (BW.out.cell (World.block_lt_of_cell? W _ hx1)).trans hx1
      have hrd : rd_T25 l0 (kk : Int) = l0[kk] := by simp [rd_T25, List.getD_eq_getElem?_getD, List.getElem?_eq_getElem hlt]
      rw [hrd] at hx0 hx1
      clear hrd
      simp only [Int.toNat_natCast] at hx0 hx1
      generalize hy : l0[kk] = y at hx0 hx1
      have B : Aside0 (l0[kk] = y) := ⟨hy⟩
      clear hy
      cases hq : si.le x y with
      | true =>
        have hq' : decide (wrap64 (x * y.f1) ≤ wrap64 (y.f0 * 1048576)) = true := hq
        go_wp2
        go_ret
        refine ⟨?_, below_alloc BW.out _⟩
        have hany : l0.any (si.le x) = true := List.any_eq_true.2 ⟨_, List.getElem_mem hlt, by rw [B.out]; exact hq⟩
        unfold si.sd
        rw [if_pos hany]
        rfl
      | false =>
        have hq' : decide (wrap64 (x * y.f1) ≤ wrap64 (y.f0 * 1048576)) = false := hq
        go_wp2
        go_roundg (l0.length - (kk + 1))
        case measure => omega
        case rel =>
          refine ⟨kk + 1, by omega, by omega, by go_num, ⟨below_alloc BW.out _⟩, ⟨fun j hj hjl => ?_⟩⟩
          by_cases e : j = kk
          · subst e
            rw [B.out]; exact hq
          · exact AF.out j (by omega) hjl
    · have hltz : ¬ (kk : Int) < (l0.length : Int) := by omega
      have hkl : kk = l0.length := by omega
      have A0F := Aside0.mk (show l0.any (si.le x) = false from by
        rw [List.any_eq_false]
        intro z hz
        obtain ⟨j, hj, rfl⟩ := List.mem_iff_getElem.1 hz
        rw [AF.out j (by omega) hj]
        decide)
      have hc := (blk_cell (blk_below H1.out BW.out) 0).trans rfl
      clear AF hkl
      go_wp2
      clear hc hlt hltz hkk
      go_loopg [26] l1.length (fun gg s26 wq => ∃ kq : Nat, kq ≤ l1.length ∧ l1.length - kq ≤ gg ∧ s26 = .int .i64 kq ∧ Aside0 (Below W.heap.size W wq) ∧ Aside0 (∀ j, j < kq → ∀ hj : j < l1.length, si.ge x l1[j] = false))
      case atStart => exact ⟨0, Nat.zero_le _, by omega, rfl, ⟨by first | exact BW.out | exact below_drew BW.out⟩, ⟨fun j hj => absurd hj (Nat.not_lt_zero _)⟩⟩
      case round =>
        clear BW hg
        obtain ⟨kq, hkq, hg, rfl, BW, AF⟩ := hrel
        by_cases hlt : kq < l1.length
        · have hltz : (kq : Int) < (l1.length : Int) := by omega
          obtain ⟨ad, e0, hx0, hx1⟩ := at_T25 HR1.out (kq : Int) (by omega) hltz
          cases e0
          replace hx0 := (BW.out.cell (World.block_lt_of_cell? W _ hx0)).trans hx0
          replace hx1 := (BW.out.cell (World.block_lt_of_cell? W _ hx1)).trans hx1
          have hrd : rd_T25 l1 (kq : Int) = l1[kq] := by simp [rd_T25, List.getD_eq_getElem?_getD, List.getElem?_eq_getElem hlt]
          rw [hrd] at hx0 hx1
          clear hrd
          simp only [Int.toNat_natCast] at hx0 hx1
          generalize hy : l1[kq] = y at hx0 hx1
          have B : Aside0 (l1[kq] = y) := ⟨hy⟩
          clear hy
          cases hq : si.ge x y with
          | true =>
            have hq' : decide (wrap64 (y.f0 * 1048576) ≤ wrap64 (x * y.f1)) = true := hq
            go_wp2
            go_ret
            refine ⟨?_, below_alloc BW.out _⟩
            have hany : l1.any (si.ge x) = true := List.any_eq_true.2 ⟨_, List.getElem_mem hlt, by rw [B.out]; exact hq⟩
            unfold si.sd
            rw [A0F.out, hany]
            rfl
          | false =>
            have hq' : decide (wrap64 (y.f0 * 1048576) ≤ wrap64 (x * y.f1)) = false := hq
            go_wp2
            go_roundg (l1.length - (kq + 1))
            case measure => omega
            case rel =>
              refine ⟨kq + 1, by omega, by omega, by go_num, ⟨below_alloc BW.out _⟩, ⟨fun j hj hjl => ?_⟩⟩
              by_cases e : j = kq
              · subst e
                rw [B.out]; exact hq
              · exact AF.out j (by omega) hjl
        · have hltz : ¬ (kq : Int) < (l1.length : Int) := by omega
          have hkl : kq = l1.length := by omega
          have A1F := Aside0.mk (show l1.any (si.ge x) = false from by
            rw [List.any_eq_false]
            intro z hz
            obtain ⟨j, hj, rfl⟩ := List.mem_iff_getElem.1 hz
            rw [AF.out j (by omega) hj]
            decide)
          clear AF hkl
          go_wp2
          go_ret
          refine ⟨?_, by first | exact BW.out | exact below_drew BW.out⟩
          unfold si.sd
          rw [A0F.out, A1F.out]
          rfl
set_option maxHeartbeats 2000000 in
set_option maxRecDepth 100000 in
theorem si.under (bx : Nat) (x : Int) (a : S25) (W : World) (h : W.heap[bx]? = some (.cells #[.int .i64 x] 3 (0, 0))) :
    Calls Try.prog 27 (#[.agg #[.int .i64 a.f0, .int .i64 a.f1]] ++ #[.pointer (some ⟨bx, 0, none⟩)]) W fun e w' => e = .returned (.bool (si.le x a)) ∧ Below W.heap.size W w' := by
  have hu25 := Try.underlying25
  have hcx := (blk_cell (blk_alloc h (.cells #[.int .i64 a.f0, .int .i64 a.f1] 25)) 0).trans rfl
  clear h
  show Calls _ _ #[.agg #[.int .i64 a.f0, .int .i64 a.f1], .pointer (some ⟨bx, 0, none⟩)] W _
  unfold si.le
  go_enter Try.func27, Try.ntmps27
  go_wp2
  go_ret
  exact ⟨rfl, by first | exact (Below.refl _ _).alloc (Nat.le_refl _) _ | exact below_drew ((Below.refl _ _).alloc (Nat.le_refl _) _)⟩
set_option maxHeartbeats 2000000 in
set_option maxRecDepth 100000 in
theorem si.above (bx : Nat) (x : Int) (a : S25) (W : World) (h : W.heap[bx]? = some (.cells #[.int .i64 x] 3 (0, 0))) :
    Calls Try.prog 28 (#[.agg #[.int .i64 a.f0, .int .i64 a.f1]] ++ #[.pointer (some ⟨bx, 0, none⟩)]) W fun e w' => e = .returned (.bool (si.ge x a)) ∧ Below W.heap.size W w' := by
  have hu25 := Try.underlying25
  have hcx := (blk_cell (blk_alloc h (.cells #[.int .i64 a.f0, .int .i64 a.f1] 25)) 0).trans rfl
  clear h
  show Calls _ _ #[.agg #[.int .i64 a.f0, .int .i64 a.f1], .pointer (some ⟨bx, 0, none⟩)] W _
  unfold si.ge
  go_enter Try.func28, Try.ntmps28
  go_wp2
  go_ret
  exact ⟨rfl, by first | exact (Below.refl _ _).alloc (Nat.le_refl _) _ | exact below_drew ((Below.refl _ _).alloc (Nat.le_refl _) _)⟩
def impl_simplest.f (l0 l1 : List (S25)) : Option (Int × Int × Bool) := (impl_walk.f 100 (si.sd l0 l1)).bind fun t => if t.1.length = 0 then none else if (l0.any (si.le (rd t.1 ((t.1.length : Int) - 1))) || l1.any (si.ge (rd t.1 ((t.1.length : Int) - 1)))) = true then some (0, 0, false) else (impl_fromUnits.f 2000000 (rd t.1 ((t.1.length : Int) - 1))).bind fun u => some (u.1, u.2, true)
set_option maxHeartbeats 2000000 in
set_option maxRecDepth 100000 in
theorem impl_simplest.calls (A0 : Option Addr) (c0 : Nat) (l0 : List (S25)) (A1 : Option Addr) (c1 : Nat) (l1 : List (S25)) (r1 : Int) (r2 : Int) (r3 : Bool) (w : World) (hr0 : Kd.C k25 w A0 l0.length l0) (hc0 : l0.length ≤ c0) (hr1 : Kd.C k25 w A1 l1.length l1) (hc1 : l1.length ≤ c1) (h : impl_simplest.f l0 l1 = some (r1, r2, r3)) :
    Calls Try.prog 14 #[.slice A0 l0.length c0, .slice A1 l1.length c1] w fun e w' => e = .returned (.tuple #[.agg #[.int .i64 r1, .int .i64 r2], .bool r3]) ∧ Below w.heap.size w w' := by
  have hu25 := Try.underlying25
  have hf : ((impl_walk.f 100 (si.sd l0 l1)).bind fun t => if t.1.length = 0 then none else if (l0.any (si.le (rd t.1 ((t.1.length : Int) - 1))) || l1.any (si.ge (rd t.1 ((t.1.length : Int) - 1)))) = true then some (0, 0, false) else (impl_fromUnits.f 2000000 (rd t.1 ((t.1.length : Int) - 1))).bind fun u => some (u.1, u.2, true)) = some (r1, r2, r3) := h
  clear h
  obtain ⟨⟨t1, t2, t3, t4⟩, A2, H⟩ := Option.bind_eq_some_iff.mp hf
  clear hf
  have hlen : ¬ t1.length = 0 := fun e => by simp [e] at H
  rw [if_neg hlen] at H
  obtain ⟨x, hx⟩ : ∃ x, x = rd t1 ((t1.length : Int) - 1) := ⟨_, rfl⟩
  rw [← hx] at H
  have A3 := Aside0.mk A2
  have HH := Aside0.mk H
  have HX := Aside0.mk hx
  have HR0 := Aside0.mk hr0
  have HR1 := Aside0.mk hr1
  have EG := Aside0.mk (show ∀ args w, (callFunc 26 args).run Try.prog w = .ok (.enter 26 args) w from fun args w => enters_ Try.func26 rfl rfl args w)
  clear A2 H hx hr0 hr1 hc0 hc1
  have z0 := heap_alloc_new w (.cells #[.slice A0 l0.length c0] 28)
  have z1 := heap_alloc_new (w.alloc (.cells #[.slice A0 l0.length c0] 28)) (.cells #[.slice A1 l1.length c1] 28)
  have z2 := heap_alloc_new ((w.alloc (.cells #[.slice A0 l0.length c0] 28)).alloc (.cells #[.slice A1 l1.length c1] 28)) (.cells #[.int .i64 0, .int .i64 0] 25)
  rw [World.size_alloc] at z1
  rw [World.size_alloc, World.size_alloc] at z2
  have B3 : Below w.heap.size w (((w.alloc (.cells #[.slice A0 l0.length c0] 28)).alloc (.cells #[.slice A1 l1.length c1] 28)).alloc (.cells #[.int .i64 0, .int .i64 0] 25)) := ((Below.refl _ w).alloc (Nat.le_refl _) _ |>.alloc (by simp) _).alloc (by simp; omega) _
  have y0 := blk_alloc (blk_alloc z0 (.cells #[.slice A1 l1.length c1] 28)) (.cells #[.int .i64 0, .int .i64 0] 25)
  have y1 := blk_alloc z1 (.cells #[.int .i64 0, .int .i64 0] 25)
  have q0 := Kd.C_below HR0.out B3
  have q1 := Kd.C_below HR1.out B3
  obtain ⟨w1, hw1⟩ : ∃ w1, w1 = (((w.alloc (.cells #[.slice A0 l0.length c0] 28)).alloc (.cells #[.slice A1 l1.length c1] 28)).alloc (.cells #[.int .i64 0, .int .i64 0] 25)) := ⟨_, rfl⟩
  have hsz : w1.heap.size = w.heap.size + 3 := by rw [hw1]; simp
  have hcon := impl_walk.calls 100 (si.sd l0 l1) 26 #[.pointer (some ⟨w.heap.size, 0, none⟩), .pointer (some ⟨w.heap.size + 1, 0, none⟩)] EG.out w1.heap.size (fun _ W => W.heap[w.heap.size]? = some (.cells #[.slice A0 l0.length c0] 28 (0, 0)) ∧ W.heap[w.heap.size + 1]? = some (.cells #[.slice A1 l1.length c1] 28 (0, 0)) ∧ Kd.C k25 W A0 l0.length l0 ∧ Kd.C k25 W A1 l1.length l1) t1 t2 t3 t4 w1 (Nat.le_refl _) (by rw [hw1]; exact ⟨y0, y1, q0, q1⟩)
    (fun i x w2 W hz hI hB => (si.where l0 l1 A0 A1 c0 c1 w.heap.size (w.heap.size + 1) i x W (blk_below hI.1 hB) (blk_below hI.2.1 hB) (Kd.C_below hI.2.2.1 hB) (Kd.C_below hI.2.2.2 hB)).mono fun e W2 ⟨he, hb⟩ => ⟨he, w2, rfl, hI, Below.refl _ _, below_then hB hB.size hb, hb.size, fun k _ hk => hb.block k hk⟩) A3.out
  have HCON := Aside0.mk hcon
  rw [hw1] at hcon
  have Y0 := Aside0.mk y0
  have Y1 := Aside0.mk y1
  have Q0 := Aside0.mk q0
  have Q1 := Aside0.mk q1
  have Z2 := Aside0.mk z2
  rw [← hw1] at Y0 Y1 Q0 Q1 Z2 B3
  have BW1 := Aside0.mk B3
  have HSZ := Aside0.mk hsz
  clear y0 y1 q0 q1 z0 z1 z2 B3 hsz
  rw [← hw1] at hcon
  have HW1 := Aside0.mk hw1
  clear hcon hw1
  go_enter Try.func14, Try.ntmps14
  go_upto_region 2 with (go_at_call 25; rw [← HW1.out]; refine (HCON.out).mono ?_; rintro e w3 ⟨v1, v2, v3, rfl, ho1, ho2, ho3, hb⟩)
  obtain ⟨Av, cv, rfl, hlc, hrd⟩ := Kd.R_reads ho1
  obtain ⟨ad, e0, hcx⟩ := Kd.at_int hrd ((t1.length : Int) - 1) (by omega) (by omega)
  cases e0
  rw [← HX.out, show ((t1.length : Int) - 1).toNat = t1.length - 1 by omega] at hcx
  have hbig : t1.length ≤ 9223372036854775807 := hrd.2.1
  have wr1 : IntKind.i64.wrap ((t1.length : Int) - 1) = (t1.length : Int) - 1 := by rw [i64_w]; unfold wrap64; omega
  have nn1 : 0 ≤ (t1.length : Int) - 1 := by omega
  have BW3 := Aside0.mk (BW1.out.trans (hb.mono (by have := HSZ.out; omega)))
  have X0 := Aside0.mk (blk_below Y0.out hb)
  have X1 := Aside0.mk (blk_below Y1.out hb)
  have X2 := Aside0.mk (blk_below Z2.out hb)
  have P0 := Aside0.mk (Kd.C_below Q0.out hb)
  have P1 := Aside0.mk (Kd.C_below Q1.out hb)
  clear ho1 ho2 ho3 hb hrd hlc
  go_upto_region 3 with (fail)
  have F0 := (blk_cell (blk_alloc X0.out (.cells #[.int .i64 x] 3)) 0).trans rfl
  have F1 := Aside0.mk (blk_alloc X1.out (.cells #[.int .i64 x] 3))
  have F2 := Aside0.mk (blk_alloc X2.out (.cells #[.int .i64 x] 3))
  have FX := Aside0.mk (heap_alloc_new w3 (.cells #[.int .i64 x] 3))
  have B4 := Aside0.mk (below_alloc BW3.out (.cells #[.int .i64 x] 3))
  have R0 := Aside0.mk (Kd.C_below P0.out ((Below.refl _ w3).alloc (Nat.le_refl _) (.cells #[.int .i64 x] 3)))
  have R1 := Aside0.mk (Kd.C_below P1.out ((Below.refl _ w3).alloc (Nat.le_refl _) (.cells #[.int .i64 x] 3)))
  obtain ⟨w4, hw4⟩ : ∃ w4, w4 = w3.alloc (.cells #[.int .i64 x] 3) := ⟨_, rfl⟩
  obtain ⟨gx, hgx⟩ : ∃ gx, gx = w3.heap.size := ⟨_, rfl⟩
  rw [← hgx] at FX ⊢
  rw [← hw4] at F0 F1 F2 FX B4 R0 R1 ⊢
  have GX := Aside0.mk (show w.heap.size + 1 + 1 ≠ gx by rw [hgx]; exact Nat.ne_of_lt (blk_lt X2.out))
  clear hw4 hcx X0 X1 X2 P0 P1 BW3 hgx
  have HC1 := fr.containsFunc 27 #[.pointer (some ⟨gx, 0, none⟩)] (fun args w => enters_ Try.func27 rfl rfl args w) (si.le x) l0 A0 c0 w4 R0.out (fun W a _ hb => si.under gx x a W (blk_below FX.out hb))
  have H2 := HH.out
  clear HH
  cases h1 : l0.any (si.le x) with
  | true =>
    rw [h1] at HC1
    rw [h1, Bool.true_or, if_pos rfl] at H2
    simp only [Option.some.injEq, Prod.mk.injEq] at H2
    obtain ⟨rfl, rfl, rfl⟩ := H2
    go_wp2_with (go_at_call 22; refine HC1.mono ?_; rintro e w5 ⟨rfl, hb5⟩; have Z5 := Aside0.mk (blk_below F2.out hb5); have B5 := Aside0.mk (below_step B4.out hb5); have k0 := (blk_cell Z5.out 0).trans rfl; have k1 := (blk_cell Z5.out 1).trans rfl; have f0 := blk_frozen Z5.out 0; have f1 := blk_frozen Z5.out 1; clear hb5)
    refine bodyPost_ret (results_ct rfl _ _ (w.heap.size + 1 + 1) 25 #[.int .i64 0, .int .i64 0] (0, 0) _ rfl (blk_put (cs := #[.int .i64 0, .int .i64 0]) (blk_put (cs := #[.int .i64 0, .int .i64 0]) Z5.out 0 _ rfl) 1 _ rfl) Try.underlying25 rfl (by kernel_rfl)) rfl ?_
    exact ⟨rfl, below_set (below_set B5.out (by omega)) (by omega)⟩
  | false =>
    rw [h1] at HC1
    rw [h1, Bool.false_or] at H2
    go_upto_region 4 with (go_at_call 22; refine HC1.mono ?_; rintro e w5 ⟨rfl, hb5⟩)
    have G1 := (blk_cell (blk_below F1.out hb5) 0).trans rfl
    have Z5 := Aside0.mk (blk_below F2.out hb5)
    have X5 := Aside0.mk (blk_below FX.out hb5)
    have B5 := Aside0.mk (below_step B4.out hb5)
    have HC2 := fr.containsFunc 28 #[.pointer (some ⟨gx, 0, none⟩)] (fun args w => enters_ Try.func28 rfl rfl args w) (si.ge x) l1 A1 c1 w5 (Kd.C_below R1.out hb5) (fun W a _ hb => si.above gx x a W (blk_below X5.out hb))
    clear HC1 F0 F1 F2 FX B4 R0 R1 hb5
    cases h2 : l1.any (si.ge x) with
    | true =>
      rw [h2] at HC2
      rw [h2, if_pos rfl] at H2
      simp only [Option.some.injEq, Prod.mk.injEq] at H2
      obtain ⟨rfl, rfl, rfl⟩ := H2
      go_wp2_with (go_at_call 22; refine HC2.mono ?_; rintro e w6 ⟨rfl, hb6⟩; have Z6 := Aside0.mk (blk_below Z5.out hb6); have B6 := Aside0.mk (below_step B5.out hb6); have k0 := (blk_cell Z6.out 0).trans rfl; have k1 := (blk_cell Z6.out 1).trans rfl; have f0 := blk_frozen Z6.out 0; have f1 := blk_frozen Z6.out 1; clear hb6)
      refine bodyPost_ret (results_ct rfl _ _ (w.heap.size + 1 + 1) 25 #[.int .i64 0, .int .i64 0] (0, 0) _ rfl (blk_put (cs := #[.int .i64 0, .int .i64 0]) (blk_put (cs := #[.int .i64 0, .int .i64 0]) Z6.out 0 _ rfl) 1 _ rfl) Try.underlying25 rfl (by kernel_rfl)) rfl ?_
      exact ⟨rfl, below_set (below_set B6.out (by omega)) (by omega)⟩
    | false =>
      rw [h2] at HC2
      rw [h2, if_neg (by decide)] at H2
      obtain ⟨⟨u1, u2⟩, hu, he⟩ := Option.bind_eq_some_iff.mp H2
      simp only [Option.some.injEq, Prod.mk.injEq] at he
      obtain ⟨rfl, rfl, rfl⟩ := he
      have HU := Aside0.mk hu
      clear hu H2
      go_upto_region 7 with (go_at_call 22; refine HC2.mono ?_; rintro e w6 ⟨rfl, hb6⟩)
      have Z6 := Aside0.mk (blk_below Z5.out hb6)
      have B6 := Aside0.mk (below_step B5.out hb6)
      have G2 := (blk_cell (blk_below X5.out hb6) 0).trans rfl
      clear hb6 HC2 G1
      go_wp2_with (go_at_call 29; refine (impl_fromUnits.calls 2000000 x u1 u2 w6 HU.out).mono ?_; rintro e w7 ⟨rfl, hb7⟩; have Z7 := Aside0.mk (blk_below Z6.out hb7); have B7 := Aside0.mk (below_step B6.out hb7); have k0 := (blk_cell Z7.out 0).trans rfl; have k1 := (blk_cell Z7.out 1).trans rfl; have f0 := blk_frozen Z7.out 0; have f1 := blk_frozen Z7.out 1; clear hb7)
      refine bodyPost_ret (results_ct rfl _ _ (w.heap.size + 1 + 1) 25 #[.int .i64 u1, .int .i64 u2] (0, 0) _ rfl (blk_put (cs := #[.int .i64 u1, .int .i64 0]) (blk_put (cs := #[.int .i64 0, .int .i64 0]) Z7.out 0 _ rfl) 1 _ rfl) Try.underlying25 rfl (by kernel_rfl)) rfl ?_
      exact ⟨rfl, below_set (below_set B7.out (by omega)) (by omega)⟩

/-! ### impl_SimplestOf: function 7 -/
def impl_SimplestOf.f (l0 : List (S25)) (l1 : List (S25)) : Option (Int × Int × Bool) := (impl_fractionsOk.f l0).bind fun t245 => (if t245 = true then ((impl_fractionsOk.f l1).bind fun t246 => (if t246 = true then ((impl_simplest.f l0 l1).bind fun bt247 => (some (bt247.1, bt247.2.1, bt247.2.2))) else (some (0, 0, false)))) else (some (0, 0, false)))
set_option maxHeartbeats 8000000 in
set_option maxRecDepth 100000 in
theorem impl_SimplestOf.calls (A0 : Option Addr) (c0 : Nat) (l0 : List (S25)) (A1 : Option Addr) (c1 : Nat) (l1 : List (S25)) (r1 : Int) (r2 : Int) (r3 : Bool) (w : World) (hr0 : Kd.C k25 w A0 l0.length l0) (hc0 : l0.length ≤ c0) (hr1 : Kd.C k25 w A1 l1.length l1) (hc1 : l1.length ≤ c1) (h : impl_SimplestOf.f l0 l1 = some (r1, r2, r3)) :
    Calls Try.prog 7 #[.slice A0 l0.length c0, .slice A1 l1.length c1] w fun e w' => e = .returned (.tuple #[.agg #[.int .i64 r1, .int .i64 r2], .bool r3]) ∧ Below w.heap.size w w' := by
  have hu25 := Try.underlying25
  have HR0 := Aside0.mk hr0
  have HC0 := Aside0.mk hc0
  clear hr0 hc0
  have HR1 := Aside0.mk hr1
  have HC1 := Aside0.mk hc1
  clear hr1 hc1
  have HB := Aside0.mk (Below.refl w.heap.size w)
  have H : ((impl_fractionsOk.f l0).bind fun t245 => (if t245 = true then ((impl_fractionsOk.f l1).bind fun t246 => (if t246 = true then ((impl_simplest.f l0 l1).bind fun bt247 => (some (bt247.1, bt247.2.1, bt247.2.2))) else (some (0, 0, false)))) else (some (0, 0, false)))) = some (r1, r2, r3) := h
  clear h
  replace H := Option.bind_eq_some_iff.mp H
  obtain ⟨t245, A30, H⟩ := H
  replace H : (if t245 = true then ((impl_fractionsOk.f l1).bind fun t246 => (if t246 = true then ((impl_simplest.f l0 l1).bind fun bt247 => (some (bt247.1, bt247.2.1, bt247.2.2))) else (some (0, 0, false)))) else (some (0, 0, false))) = some (r1, r2, r3) := H
  have A3 := Aside0.mk A30
  clear A30
  by_cases c4 : t245 = true
  · subst c4
    have H1 : ((impl_fractionsOk.f l1).bind fun t246 => (if t246 = true then ((impl_simplest.f l0 l1).bind fun bt247 => (some (bt247.1, bt247.2.1, bt247.2.2))) else (some (0, 0, false)))) = some (r1, r2, r3) := by rw [if_pos rfl] at H; exact H
    clear H
    have H := H1
    clear H1
    replace H := Option.bind_eq_some_iff.mp H
    obtain ⟨t246, A50, H⟩ := H
    replace H : (if t246 = true then ((impl_simplest.f l0 l1).bind fun bt247 => (some (bt247.1, bt247.2.1, bt247.2.2))) else (some (0, 0, false))) = some (r1, r2, r3) := H
    have A5 := Aside0.mk A50
    clear A50
    by_cases c6 : t246 = true
    · subst c6
      have H1 : ((impl_simplest.f l0 l1).bind fun bt247 => (some (bt247.1, bt247.2.1, bt247.2.2))) = some (r1, r2, r3) := by rw [if_pos rfl] at H; exact H
      clear H
      have H := H1
      clear H1
      replace H := Option.bind_eq_some_iff.mp H
      obtain ⟨⟨t247, t248, t249⟩, A70, H⟩ := H
      replace H : (some (t247, t248, t249)) = some (r1, r2, r3) := H
      have A7 := Aside0.mk A70
      clear A70
      simp only [Option.some.injEq, Prod.mk.injEq] at H
      obtain ⟨rfl, rfl, rfl⟩ := H
      go_enter Try.func7, Try.ntmps7
      go_wp2_with (first | ((with_reducible refine gate_dst (N := 4) rfl ?_); refine box_event ?hg (N := 4) ?hd (cs := #[.int .i64 0, .int .i64 0]) (t := 25) ?hr ?_; (case hd => rfl); (case hg => rfl); (case hr => first | (go_simp; done) | (go_simp; rfl)); intro gb244 hg w8 hbox hb; have n0_ := Aside0.mk (below_step (by repeat (first | (with_reducible first | exact HB.out | apply below_alloc | apply pw_below_drewN | apply below_drew1) | exact HB.out)) hb); have n1_ := Aside0.mk (hbox); have n2_ := Aside0.mk ((by rw [hg]; exact (below_size (by repeat (first | (with_reducible first | exact HB.out | apply below_alloc | apply pw_below_drewN | apply below_drew1) | exact HB.out))) : w.heap.size ≤ gb244)); have n3_ := Aside0.mk ((by rw [hg]; exact (below_size (by repeat (first | (with_reducible first | exact HB.out | apply below_alloc | apply pw_below_drewN | apply below_drew1) | exact HB.out))) : w.heap.size ≤ gb244)); clear HB; have HB := n0_; have BK244 := n1_; have GW244 := n2_; have GE244 := n3_; clear n0_ n1_ n2_ n3_; clear hb hbox hg) | ((with_reducible refine gate_callee (f := 13) rfl ?_); refine goesL_ (some 7) rfl rfl Try.func13 (by kernel_rfl) rfl #[.slice A0 l0.length c0] rfl (by (try simp only [List.map_toArray, List.map_cons, List.map_nil]); first | done | rfl | (simp only [List.length_drop, List.length_take]; rfl)) ?_; (with_reducible refine (impl_fractionsOk.calls _ _ l0 true _ ?side1 ?side2 A3.out).mono ?_); (case side1 => repeat (first | exact (Kd.C_below HR0.out HB.out) | (with_reducible refine Kd.C_alloc ?_ _) | (with_reducible refine Kd.C_drewN ?_ _) | (with_reducible refine Kd.C_drew ?_))); (case side2 => exact HC0.out); rintro e w9 ⟨rfl, hb⟩; refine ⟨_, rfl, ?_⟩; have n0_ := Aside0.mk (blk_below (g := gb244) (o := .cells #[.int .i64 0, .int .i64 0] 25 (0, 0)) (by (with_reducible repeat (first | refine blk_drewN ?_ _ | refine blk_drew ?_ | refine blk_alloc ?_ _)); exact BK244.out) hb); have n1_ := Aside0.mk (below_step (by repeat (first | (with_reducible first | exact HB.out | apply below_alloc | apply pw_below_drewN | apply below_drew1 | refine below_set ?_ GE244.out) | exact HB.out)) hb); clear BK244; clear HB; have BK244 := n0_; have HB := n1_; clear n0_ n1_; (try clear hb); (try clear hb2); (try clear hk); (try clear hi)) | (go_at_call 13; (with_reducible refine (impl_fractionsOk.calls _ _ l1 true _ ?side1 ?side2 A5.out).mono ?_); (case side1 => repeat (first | exact (Kd.C_below HR1.out HB.out) | (with_reducible refine Kd.C_alloc ?_ _) | (with_reducible refine Kd.C_drewN ?_ _) | (with_reducible refine Kd.C_drew ?_))); (case side2 => exact HC1.out); rintro e w10 ⟨rfl, hb⟩; have n0_ := Aside0.mk (blk_below (g := gb244) (o := .cells #[.int .i64 0, .int .i64 0] 25 (0, 0)) (by (with_reducible repeat (first | refine blk_drewN ?_ _ | refine blk_drew ?_ | refine blk_alloc ?_ _)); exact BK244.out) hb); have n1_ := Aside0.mk (below_step (by repeat (first | (with_reducible first | exact HB.out | apply below_alloc | apply pw_below_drewN | apply below_drew1 | refine below_set ?_ GE244.out) | exact HB.out)) hb); clear BK244; clear HB; have BK244 := n0_; have HB := n1_; clear n0_ n1_; (try clear hb); (try clear hb2); (try clear hk); (try clear hi)) | ((with_reducible refine gate_callee (f := 14) rfl ?_); refine goesL_ (some 17) rfl rfl Try.func14 (by kernel_rfl) rfl #[.slice A0 l0.length c0, .slice A1 l1.length c1] rfl (by (try simp only [List.map_toArray, List.map_cons, List.map_nil]); first | done | rfl | (simp only [List.length_drop, List.length_take]; rfl)) ?_; (with_reducible refine (impl_simplest.calls _ _ l0 _ _ l1 t247 t248 t249 _ ?side1 ?side2 ?side3 ?side4 A7.out).mono ?_); (case side1 => repeat (first | exact (Kd.C_below HR0.out HB.out) | (with_reducible refine Kd.C_alloc ?_ _) | (with_reducible refine Kd.C_drewN ?_ _) | (with_reducible refine Kd.C_drew ?_))); (case side2 => exact HC0.out); (case side3 => repeat (first | exact (Kd.C_below HR1.out HB.out) | (with_reducible refine Kd.C_alloc ?_ _) | (with_reducible refine Kd.C_drewN ?_ _) | (with_reducible refine Kd.C_drew ?_))); (case side4 => exact HC1.out); rintro e w11 ⟨rfl, hb⟩; refine ⟨_, rfl, ?_⟩; have n0_ := Aside0.mk (blk_below (g := gb244) (o := .cells #[.int .i64 0, .int .i64 0] 25 (0, 0)) (by (with_reducible repeat (first | refine blk_drewN ?_ _ | refine blk_drew ?_ | refine blk_alloc ?_ _)); exact BK244.out) hb); have n1_ := Aside0.mk (below_step (by repeat (first | (with_reducible first | exact HB.out | apply below_alloc | apply pw_below_drewN | apply below_drew1 | refine below_set ?_ GE244.out) | exact HB.out)) hb); clear BK244; clear HB; have BK244 := n0_; have HB := n1_; clear n0_ n1_; (try clear hb); (try clear hb2); (try clear hk); (try clear hi); have hcz12_0 : w11.cell? ⟨gb244, 0, none⟩ = some (.int .i64 0) := (blk_cell BK244.out 0).trans rfl; have hcz12_1 : w11.cell? ⟨gb244, 1, none⟩ = some (.int .i64 0) := (blk_cell BK244.out 1).trans rfl; have hfz12_0 := blk_frozen BK244.out 0; have hfz12_1 := blk_frozen BK244.out 1))
      refine bodyPost_ret (results_ct rfl _ _ gb244 25 #[.int .i64 t247, .int .i64 t248] (0, 0) _ rfl (by (with_reducible repeat (first | refine blk_drewN ?_ _ | refine blk_drew ?_ | refine blk_alloc ?_ _)); refine blk_put (cs := #[.int .i64 t247, .int .i64 0]) ?_ 1 _ rfl; (with_reducible repeat (first | refine blk_drewN ?_ _ | refine blk_drew ?_ | refine blk_alloc ?_ _)); refine blk_put (cs := #[.int .i64 0, .int .i64 0]) ?_ 0 _ rfl; (with_reducible repeat (first | refine blk_drewN ?_ _ | refine blk_drew ?_ | refine blk_alloc ?_ _)); exact BK244.out) Try.underlying25 rfl (by kernel_rfl)) rfl ?_
      exact ⟨by first | rfl | (simp [errW_none, errW_some] <;> rfl) | (simp [*, errW_none, errW_some] <;> rfl), by repeat (first | (with_reducible first | exact HB.out | apply below_alloc | apply pw_below_drewN | apply below_drew1 | refine below_set ?_ GE244.out) | exact HB.out)⟩
    · replace c6 := Bool.eq_false_iff.mpr c6
      subst c6
      have H1 : (some (0, 0, false)) = some (r1, r2, r3) := by rw [if_neg (show ¬ (false = true) by decide)] at H; exact H
      clear H
      have H := H1
      clear H1
      simp only [Option.some.injEq, Prod.mk.injEq] at H
      obtain ⟨rfl, rfl, rfl⟩ := H
      go_enter Try.func7, Try.ntmps7
      go_wp2_with (first | ((with_reducible refine gate_dst (N := 4) rfl ?_); refine box_event ?hg (N := 4) ?hd (cs := #[.int .i64 0, .int .i64 0]) (t := 25) ?hr ?_; (case hd => rfl); (case hg => rfl); (case hr => first | (go_simp; done) | (go_simp; rfl)); intro gb244 hg w13 hbox hb; have n0_ := Aside0.mk (below_step (by repeat (first | (with_reducible first | exact HB.out | apply below_alloc | apply pw_below_drewN | apply below_drew1) | exact HB.out)) hb); have n1_ := Aside0.mk (hbox); have n2_ := Aside0.mk ((by rw [hg]; exact (below_size (by repeat (first | (with_reducible first | exact HB.out | apply below_alloc | apply pw_below_drewN | apply below_drew1) | exact HB.out))) : w.heap.size ≤ gb244)); have n3_ := Aside0.mk ((by rw [hg]; exact (below_size (by repeat (first | (with_reducible first | exact HB.out | apply below_alloc | apply pw_below_drewN | apply below_drew1) | exact HB.out))) : w.heap.size ≤ gb244)); clear HB; have HB := n0_; have BK244 := n1_; have GW244 := n2_; have GE244 := n3_; clear n0_ n1_ n2_ n3_; clear hb hbox hg) | ((with_reducible refine gate_callee (f := 13) rfl ?_); refine goesL_ (some 7) rfl rfl Try.func13 (by kernel_rfl) rfl #[.slice A0 l0.length c0] rfl (by (try simp only [List.map_toArray, List.map_cons, List.map_nil]); first | done | rfl | (simp only [List.length_drop, List.length_take]; rfl)) ?_; (with_reducible refine (impl_fractionsOk.calls _ _ l0 true _ ?side1 ?side2 A3.out).mono ?_); (case side1 => repeat (first | exact (Kd.C_below HR0.out HB.out) | (with_reducible refine Kd.C_alloc ?_ _) | (with_reducible refine Kd.C_drewN ?_ _) | (with_reducible refine Kd.C_drew ?_))); (case side2 => exact HC0.out); rintro e w14 ⟨rfl, hb⟩; refine ⟨_, rfl, ?_⟩; have n0_ := Aside0.mk (blk_below (g := gb244) (o := .cells #[.int .i64 0, .int .i64 0] 25 (0, 0)) (by (with_reducible repeat (first | refine blk_drewN ?_ _ | refine blk_drew ?_ | refine blk_alloc ?_ _)); exact BK244.out) hb); have n1_ := Aside0.mk (below_step (by repeat (first | (with_reducible first | exact HB.out | apply below_alloc | apply pw_below_drewN | apply below_drew1 | refine below_set ?_ GE244.out) | exact HB.out)) hb); clear BK244; clear HB; have BK244 := n0_; have HB := n1_; clear n0_ n1_; (try clear hb); (try clear hb2); (try clear hk); (try clear hi)) | (go_at_call 13; (with_reducible refine (impl_fractionsOk.calls _ _ l1 false _ ?side1 ?side2 A5.out).mono ?_); (case side1 => repeat (first | exact (Kd.C_below HR1.out HB.out) | (with_reducible refine Kd.C_alloc ?_ _) | (with_reducible refine Kd.C_drewN ?_ _) | (with_reducible refine Kd.C_drew ?_))); (case side2 => exact HC1.out); rintro e w15 ⟨rfl, hb⟩; have n0_ := Aside0.mk (blk_below (g := gb244) (o := .cells #[.int .i64 0, .int .i64 0] 25 (0, 0)) (by (with_reducible repeat (first | refine blk_drewN ?_ _ | refine blk_drew ?_ | refine blk_alloc ?_ _)); exact BK244.out) hb); have n1_ := Aside0.mk (below_step (by repeat (first | (with_reducible first | exact HB.out | apply below_alloc | apply pw_below_drewN | apply below_drew1 | refine below_set ?_ GE244.out) | exact HB.out)) hb); clear BK244; clear HB; have BK244 := n0_; have HB := n1_; clear n0_ n1_; (try clear hb); (try clear hb2); (try clear hk); (try clear hi); have hcz16_0 : w15.cell? ⟨gb244, 0, none⟩ = some (.int .i64 0) := (blk_cell BK244.out 0).trans rfl; have hcz16_1 : w15.cell? ⟨gb244, 1, none⟩ = some (.int .i64 0) := (blk_cell BK244.out 1).trans rfl; have hfz16_0 := blk_frozen BK244.out 0; have hfz16_1 := blk_frozen BK244.out 1))
      refine bodyPost_ret (results_ct rfl _ _ gb244 25 #[.int .i64 0, .int .i64 0] (0, 0) _ rfl (by (with_reducible repeat (first | refine blk_drewN ?_ _ | refine blk_drew ?_ | refine blk_alloc ?_ _)); refine blk_put (cs := #[.int .i64 0, .int .i64 0]) ?_ 1 _ rfl; (with_reducible repeat (first | refine blk_drewN ?_ _ | refine blk_drew ?_ | refine blk_alloc ?_ _)); refine blk_put (cs := #[.int .i64 0, .int .i64 0]) ?_ 0 _ rfl; (with_reducible repeat (first | refine blk_drewN ?_ _ | refine blk_drew ?_ | refine blk_alloc ?_ _)); exact BK244.out) Try.underlying25 rfl (by kernel_rfl)) rfl ?_
      exact ⟨by first | rfl | (simp [errW_none, errW_some] <;> rfl) | (simp [*, errW_none, errW_some] <;> rfl), by repeat (first | (with_reducible first | exact HB.out | apply below_alloc | apply pw_below_drewN | apply below_drew1 | refine below_set ?_ GE244.out) | exact HB.out)⟩
  · replace c4 := Bool.eq_false_iff.mpr c4
    subst c4
    have H1 : (some (0, 0, false)) = some (r1, r2, r3) := by rw [if_neg (show ¬ (false = true) by decide)] at H; exact H
    clear H
    have H := H1
    clear H1
    simp only [Option.some.injEq, Prod.mk.injEq] at H
    obtain ⟨rfl, rfl, rfl⟩ := H
    go_enter Try.func7, Try.ntmps7
    go_wp2_with (first | ((with_reducible refine gate_dst (N := 4) rfl ?_); refine box_event ?hg (N := 4) ?hd (cs := #[.int .i64 0, .int .i64 0]) (t := 25) ?hr ?_; (case hd => rfl); (case hg => rfl); (case hr => first | (go_simp; done) | (go_simp; rfl)); intro gb244 hg w17 hbox hb; have n0_ := Aside0.mk (below_step (by repeat (first | (with_reducible first | exact HB.out | apply below_alloc | apply pw_below_drewN | apply below_drew1) | exact HB.out)) hb); have n1_ := Aside0.mk (hbox); have n2_ := Aside0.mk ((by rw [hg]; exact (below_size (by repeat (first | (with_reducible first | exact HB.out | apply below_alloc | apply pw_below_drewN | apply below_drew1) | exact HB.out))) : w.heap.size ≤ gb244)); have n3_ := Aside0.mk ((by rw [hg]; exact (below_size (by repeat (first | (with_reducible first | exact HB.out | apply below_alloc | apply pw_below_drewN | apply below_drew1) | exact HB.out))) : w.heap.size ≤ gb244)); clear HB; have HB := n0_; have BK244 := n1_; have GW244 := n2_; have GE244 := n3_; clear n0_ n1_ n2_ n3_; clear hb hbox hg) | ((with_reducible refine gate_callee (f := 13) rfl ?_); refine goesL_ (some 7) rfl rfl Try.func13 (by kernel_rfl) rfl #[.slice A0 l0.length c0] rfl (by (try simp only [List.map_toArray, List.map_cons, List.map_nil]); first | done | rfl | (simp only [List.length_drop, List.length_take]; rfl)) ?_; (with_reducible refine (impl_fractionsOk.calls _ _ l0 false _ ?side1 ?side2 A3.out).mono ?_); (case side1 => repeat (first | exact (Kd.C_below HR0.out HB.out) | (with_reducible refine Kd.C_alloc ?_ _) | (with_reducible refine Kd.C_drewN ?_ _) | (with_reducible refine Kd.C_drew ?_))); (case side2 => exact HC0.out); rintro e w18 ⟨rfl, hb⟩; refine ⟨_, rfl, ?_⟩; have n0_ := Aside0.mk (blk_below (g := gb244) (o := .cells #[.int .i64 0, .int .i64 0] 25 (0, 0)) (by (with_reducible repeat (first | refine blk_drewN ?_ _ | refine blk_drew ?_ | refine blk_alloc ?_ _)); exact BK244.out) hb); have n1_ := Aside0.mk (below_step (by repeat (first | (with_reducible first | exact HB.out | apply below_alloc | apply pw_below_drewN | apply below_drew1 | refine below_set ?_ GE244.out) | exact HB.out)) hb); clear BK244; clear HB; have BK244 := n0_; have HB := n1_; clear n0_ n1_; (try clear hb); (try clear hb2); (try clear hk); (try clear hi); have hcz19_0 : w18.cell? ⟨gb244, 0, none⟩ = some (.int .i64 0) := (blk_cell BK244.out 0).trans rfl; have hcz19_1 : w18.cell? ⟨gb244, 1, none⟩ = some (.int .i64 0) := (blk_cell BK244.out 1).trans rfl; have hfz19_0 := blk_frozen BK244.out 0; have hfz19_1 := blk_frozen BK244.out 1))
    refine bodyPost_ret (results_ct rfl _ _ gb244 25 #[.int .i64 0, .int .i64 0] (0, 0) _ rfl (by (with_reducible repeat (first | refine blk_drewN ?_ _ | refine blk_drew ?_ | refine blk_alloc ?_ _)); refine blk_put (cs := #[.int .i64 0, .int .i64 0]) ?_ 1 _ rfl; (with_reducible repeat (first | refine blk_drewN ?_ _ | refine blk_drew ?_ | refine blk_alloc ?_ _)); refine blk_put (cs := #[.int .i64 0, .int .i64 0]) ?_ 0 _ rfl; (with_reducible repeat (first | refine blk_drewN ?_ _ | refine blk_drew ?_ | refine blk_alloc ?_ _)); exact BK244.out) Try.underlying25 rfl (by kernel_rfl)) rfl ?_
    exact ⟨by first | rfl | (simp [errW_none, errW_some] <;> rfl) | (simp [*, errW_none, errW_some] <;> rfl), by repeat (first | (with_reducible first | exact HB.out | apply below_alloc | apply pw_below_drewN | apply below_drew1 | refine below_set ?_ GE244.out) | exact HB.out)⟩

/-! ### laws_eqFraction: function 8 -/
def laws_eqFraction.f (a0_0 : Int) (a0_1 : Int) (a1_0 : Int) (a1_1 : Int) : Option (Bool) := if a0_0 = a1_0 then (if a0_1 = a1_1 then (some true) else (some false)) else (some false)
set_option maxHeartbeats 8000000 in
set_option maxRecDepth 100000 in
theorem laws_eqFraction.calls (a0_0 : Int) (a0_1 : Int) (a1_0 : Int) (a1_1 : Int) (r : Bool) (w : World) (h : laws_eqFraction.f a0_0 a0_1 a1_0 a1_1 = some r) :
    Calls Try.prog 8 #[.agg #[.int .i64 a0_0, .int .i64 a0_1], .agg #[.int .i64 a1_0, .int .i64 a1_1]] w fun e w' => e = .returned (.bool r) ∧ Below w.heap.size w w' := by
  have hu25 := Try.underlying25
  have HB := Aside0.mk (Below.refl w.heap.size w)
  have H : (if a0_0 = a1_0 then (if a0_1 = a1_1 then (some true) else (some false)) else (some false)) = some r := h
  clear h
  by_cases c3 : a0_0 = a1_0
  · rw [if_pos c3] at H
    have c3b0 : (a0_0 == a1_0) = true := beq_iff_eq.mpr c3
    have c3b1 : (a0_0 != a1_0) = false := bne_eq_false_iff_eq.mpr c3
    clear c3
    by_cases c4 : a0_1 = a1_1
    · rw [if_pos c4] at H
      have c4b0 : (a0_1 == a1_1) = true := beq_iff_eq.mpr c4
      have c4b1 : (a0_1 != a1_1) = false := bne_eq_false_iff_eq.mpr c4
      clear c4
      obtain rfl := Option.some.inj H
      go_enter Try.func8, Try.ntmps8
      go_wp2_with (first | ((with_reducible refine gate_dst (N := 2) rfl ?_); refine box_event ?hg (N := 2) ?hd (cs := #[.int .i64 a0_0, .int .i64 a0_1]) (t := 25) ?hr ?_; (case hd => rfl); (case hg => rfl); (case hr => first | (go_simp; done) | (go_simp; rfl)); intro gb250 hg w5 hbox hb; have n0_ := Aside0.mk (below_step (by repeat (first | (with_reducible first | exact HB.out | apply below_alloc | apply pw_below_drewN | apply below_drew1) | exact HB.out)) hb); have n1_ := Aside0.mk (hbox); have n2_ := Aside0.mk ((by rw [hg]; exact (below_size (by repeat (first | (with_reducible first | exact HB.out | apply below_alloc | apply pw_below_drewN | apply below_drew1) | exact HB.out))) : w.heap.size ≤ gb250)); have n3_ := Aside0.mk ((by rw [hg]; exact (below_size (by repeat (first | (with_reducible first | exact HB.out | apply below_alloc | apply pw_below_drewN | apply below_drew1) | exact HB.out))) : w.heap.size ≤ gb250)); clear HB; have HB := n0_; have BK250 := n1_; have GW250 := n2_; have GE250 := n3_; clear n0_ n1_ n2_ n3_; clear hb hbox hg) | ((with_reducible refine gate_dst (N := 3) rfl ?_); refine box_event ?hg (N := 3) ?hd (cs := #[.int .i64 a1_0, .int .i64 a1_1]) (t := 25) ?hr ?_; (case hd => rfl); (case hg => rfl); (case hr => first | (go_simp; done) | (go_simp; rfl)); intro gb251 hg w6 hbox hb; have n0_ := Aside0.mk (blk_below (g := gb250) (o := .cells #[.int .i64 a0_0, .int .i64 a0_1] 25 (0, 0)) (by (with_reducible repeat (first | refine blk_drewN ?_ _ | refine blk_drew ?_ | refine blk_alloc ?_ _)); exact BK250.out) hb); have n1_ := Aside0.mk (below_step (by repeat (first | (with_reducible first | exact HB.out | apply below_alloc | apply pw_below_drewN | apply below_drew1 | refine below_set ?_ GE250.out) | exact HB.out)) hb); have n2_ := Aside0.mk (hbox); have n3_ := Aside0.mk ((by rw [hg]; exact (below_size (by repeat (first | (with_reducible first | exact HB.out | apply below_alloc | apply pw_below_drewN | apply below_drew1 | refine below_set ?_ GE250.out) | exact HB.out))) : w.heap.size ≤ gb251)); have n4_ := Aside0.mk ((by rw [hg]; exact (below_size (by repeat (first | (with_reducible first | exact HB.out | apply below_alloc | apply pw_below_drewN | apply below_drew1 | refine below_set ?_ GE250.out) | exact HB.out))) : w.heap.size ≤ gb251)); have n5_ := Aside0.mk ((by rw [hg]; exact Nat.ne_of_lt (blk_lt (g := gb250) (o := .cells #[.int .i64 a0_0, .int .i64 a0_1] 25 (0, 0)) (by (with_reducible repeat (first | refine blk_drewN ?_ _ | refine blk_drew ?_ | refine blk_alloc ?_ _)); exact BK250.out)) : gb250 ≠ gb251)); have n6_ := Aside0.mk ((by rw [hg]; exact Nat.ne_of_gt (blk_lt (g := gb250) (o := .cells #[.int .i64 a0_0, .int .i64 a0_1] 25 (0, 0)) (by (with_reducible repeat (first | refine blk_drewN ?_ _ | refine blk_drew ?_ | refine blk_alloc ?_ _)); exact BK250.out)) : gb251 ≠ gb250)); clear BK250; clear HB; have BK250 := n0_; have HB := n1_; have BK251 := n2_; have GW251 := n3_; have GE251 := n4_; have NB250_251 := n5_; have NB251_250 := n6_; clear n0_ n1_ n2_ n3_ n4_ n5_ n6_; clear hb hbox hg; have hnb7 := NB250_251.out; have hnc7 := NB251_250.out; have hcz8_0 : w6.cell? ⟨gb250, 0, none⟩ = some (.int .i64 a0_0) := (blk_cell BK250.out 0).trans rfl; have hcz8_1 : w6.cell? ⟨gb250, 1, none⟩ = some (.int .i64 a0_1) := (blk_cell BK250.out 1).trans rfl; have hfz8_0 := blk_frozen BK250.out 0; have hfz8_1 := blk_frozen BK250.out 1; have hcz9_0 : w6.cell? ⟨gb251, 0, none⟩ = some (.int .i64 a1_0) := (blk_cell BK251.out 0).trans rfl; have hcz9_1 : w6.cell? ⟨gb251, 1, none⟩ = some (.int .i64 a1_1) := (blk_cell BK251.out 1).trans rfl; have hfz9_0 := blk_frozen BK251.out 0; have hfz9_1 := blk_frozen BK251.out 1))
      go_ret
      exact ⟨by first | rfl | (simp [errW_none, errW_some] <;> rfl) | (simp [*, errW_none, errW_some] <;> rfl), by repeat (first | (with_reducible first | exact HB.out | apply below_alloc | apply pw_below_drewN | apply below_drew1 | refine below_set ?_ GE250.out | refine below_set ?_ GE251.out) | exact HB.out)⟩
    · rw [if_neg c4] at H
      have c4b0 : (a0_1 == a1_1) = false := beq_eq_false_iff_ne.mpr c4
      have c4b1 : (a0_1 != a1_1) = true := bne_iff_ne.mpr c4
      obtain rfl := Option.some.inj H
      go_enter Try.func8, Try.ntmps8
      go_wp2_with (first | ((with_reducible refine gate_dst (N := 2) rfl ?_); refine box_event ?hg (N := 2) ?hd (cs := #[.int .i64 a0_0, .int .i64 a0_1]) (t := 25) ?hr ?_; (case hd => rfl); (case hg => rfl); (case hr => first | (go_simp; done) | (go_simp; rfl)); intro gb250 hg w10 hbox hb; have n0_ := Aside0.mk (below_step (by repeat (first | (with_reducible first | exact HB.out | apply below_alloc | apply pw_below_drewN | apply below_drew1) | exact HB.out)) hb); have n1_ := Aside0.mk (hbox); have n2_ := Aside0.mk ((by rw [hg]; exact (below_size (by repeat (first | (with_reducible first | exact HB.out | apply below_alloc | apply pw_below_drewN | apply below_drew1) | exact HB.out))) : w.heap.size ≤ gb250)); have n3_ := Aside0.mk ((by rw [hg]; exact (below_size (by repeat (first | (with_reducible first | exact HB.out | apply below_alloc | apply pw_below_drewN | apply below_drew1) | exact HB.out))) : w.heap.size ≤ gb250)); clear HB; have HB := n0_; have BK250 := n1_; have GW250 := n2_; have GE250 := n3_; clear n0_ n1_ n2_ n3_; clear hb hbox hg) | ((with_reducible refine gate_dst (N := 3) rfl ?_); refine box_event ?hg (N := 3) ?hd (cs := #[.int .i64 a1_0, .int .i64 a1_1]) (t := 25) ?hr ?_; (case hd => rfl); (case hg => rfl); (case hr => first | (go_simp; done) | (go_simp; rfl)); intro gb251 hg w11 hbox hb; have n0_ := Aside0.mk (blk_below (g := gb250) (o := .cells #[.int .i64 a0_0, .int .i64 a0_1] 25 (0, 0)) (by (with_reducible repeat (first | refine blk_drewN ?_ _ | refine blk_drew ?_ | refine blk_alloc ?_ _)); exact BK250.out) hb); have n1_ := Aside0.mk (below_step (by repeat (first | (with_reducible first | exact HB.out | apply below_alloc | apply pw_below_drewN | apply below_drew1 | refine below_set ?_ GE250.out) | exact HB.out)) hb); have n2_ := Aside0.mk (hbox); have n3_ := Aside0.mk ((by rw [hg]; exact (below_size (by repeat (first | (with_reducible first | exact HB.out | apply below_alloc | apply pw_below_drewN | apply below_drew1 | refine below_set ?_ GE250.out) | exact HB.out))) : w.heap.size ≤ gb251)); have n4_ := Aside0.mk ((by rw [hg]; exact (below_size (by repeat (first | (with_reducible first | exact HB.out | apply below_alloc | apply pw_below_drewN | apply below_drew1 | refine below_set ?_ GE250.out) | exact HB.out))) : w.heap.size ≤ gb251)); have n5_ := Aside0.mk ((by rw [hg]; exact Nat.ne_of_lt (blk_lt (g := gb250) (o := .cells #[.int .i64 a0_0, .int .i64 a0_1] 25 (0, 0)) (by (with_reducible repeat (first | refine blk_drewN ?_ _ | refine blk_drew ?_ | refine blk_alloc ?_ _)); exact BK250.out)) : gb250 ≠ gb251)); have n6_ := Aside0.mk ((by rw [hg]; exact Nat.ne_of_gt (blk_lt (g := gb250) (o := .cells #[.int .i64 a0_0, .int .i64 a0_1] 25 (0, 0)) (by (with_reducible repeat (first | refine blk_drewN ?_ _ | refine blk_drew ?_ | refine blk_alloc ?_ _)); exact BK250.out)) : gb251 ≠ gb250)); clear BK250; clear HB; have BK250 := n0_; have HB := n1_; have BK251 := n2_; have GW251 := n3_; have GE251 := n4_; have NB250_251 := n5_; have NB251_250 := n6_; clear n0_ n1_ n2_ n3_ n4_ n5_ n6_; clear hb hbox hg; have hnb12 := NB250_251.out; have hnc12 := NB251_250.out; have hcz13_0 : w11.cell? ⟨gb250, 0, none⟩ = some (.int .i64 a0_0) := (blk_cell BK250.out 0).trans rfl; have hcz13_1 : w11.cell? ⟨gb250, 1, none⟩ = some (.int .i64 a0_1) := (blk_cell BK250.out 1).trans rfl; have hfz13_0 := blk_frozen BK250.out 0; have hfz13_1 := blk_frozen BK250.out 1; have hcz14_0 : w11.cell? ⟨gb251, 0, none⟩ = some (.int .i64 a1_0) := (blk_cell BK251.out 0).trans rfl; have hcz14_1 : w11.cell? ⟨gb251, 1, none⟩ = some (.int .i64 a1_1) := (blk_cell BK251.out 1).trans rfl; have hfz14_0 := blk_frozen BK251.out 0; have hfz14_1 := blk_frozen BK251.out 1))
      go_ret
      exact ⟨by first | rfl | (simp [errW_none, errW_some] <;> rfl) | (simp [*, errW_none, errW_some] <;> rfl), by repeat (first | (with_reducible first | exact HB.out | apply below_alloc | apply pw_below_drewN | apply below_drew1 | refine below_set ?_ GE250.out | refine below_set ?_ GE251.out) | exact HB.out)⟩
  · rw [if_neg c3] at H
    have c3b0 : (a0_0 == a1_0) = false := beq_eq_false_iff_ne.mpr c3
    have c3b1 : (a0_0 != a1_0) = true := bne_iff_ne.mpr c3
    obtain rfl := Option.some.inj H
    go_enter Try.func8, Try.ntmps8
    go_wp2_with (first | ((with_reducible refine gate_dst (N := 2) rfl ?_); refine box_event ?hg (N := 2) ?hd (cs := #[.int .i64 a0_0, .int .i64 a0_1]) (t := 25) ?hr ?_; (case hd => rfl); (case hg => rfl); (case hr => first | (go_simp; done) | (go_simp; rfl)); intro gb250 hg w15 hbox hb; have n0_ := Aside0.mk (below_step (by repeat (first | (with_reducible first | exact HB.out | apply below_alloc | apply pw_below_drewN | apply below_drew1) | exact HB.out)) hb); have n1_ := Aside0.mk (hbox); have n2_ := Aside0.mk ((by rw [hg]; exact (below_size (by repeat (first | (with_reducible first | exact HB.out | apply below_alloc | apply pw_below_drewN | apply below_drew1) | exact HB.out))) : w.heap.size ≤ gb250)); have n3_ := Aside0.mk ((by rw [hg]; exact (below_size (by repeat (first | (with_reducible first | exact HB.out | apply below_alloc | apply pw_below_drewN | apply below_drew1) | exact HB.out))) : w.heap.size ≤ gb250)); clear HB; have HB := n0_; have BK250 := n1_; have GW250 := n2_; have GE250 := n3_; clear n0_ n1_ n2_ n3_; clear hb hbox hg) | ((with_reducible refine gate_dst (N := 3) rfl ?_); refine box_event ?hg (N := 3) ?hd (cs := #[.int .i64 a1_0, .int .i64 a1_1]) (t := 25) ?hr ?_; (case hd => rfl); (case hg => rfl); (case hr => first | (go_simp; done) | (go_simp; rfl)); intro gb251 hg w16 hbox hb; have n0_ := Aside0.mk (blk_below (g := gb250) (o := .cells #[.int .i64 a0_0, .int .i64 a0_1] 25 (0, 0)) (by (with_reducible repeat (first | refine blk_drewN ?_ _ | refine blk_drew ?_ | refine blk_alloc ?_ _)); exact BK250.out) hb); have n1_ := Aside0.mk (below_step (by repeat (first | (with_reducible first | exact HB.out | apply below_alloc | apply pw_below_drewN | apply below_drew1 | refine below_set ?_ GE250.out) | exact HB.out)) hb); have n2_ := Aside0.mk (hbox); have n3_ := Aside0.mk ((by rw [hg]; exact (below_size (by repeat (first | (with_reducible first | exact HB.out | apply below_alloc | apply pw_below_drewN | apply below_drew1 | refine below_set ?_ GE250.out) | exact HB.out))) : w.heap.size ≤ gb251)); have n4_ := Aside0.mk ((by rw [hg]; exact (below_size (by repeat (first | (with_reducible first | exact HB.out | apply below_alloc | apply pw_below_drewN | apply below_drew1 | refine below_set ?_ GE250.out) | exact HB.out))) : w.heap.size ≤ gb251)); have n5_ := Aside0.mk ((by rw [hg]; exact Nat.ne_of_lt (blk_lt (g := gb250) (o := .cells #[.int .i64 a0_0, .int .i64 a0_1] 25 (0, 0)) (by (with_reducible repeat (first | refine blk_drewN ?_ _ | refine blk_drew ?_ | refine blk_alloc ?_ _)); exact BK250.out)) : gb250 ≠ gb251)); have n6_ := Aside0.mk ((by rw [hg]; exact Nat.ne_of_gt (blk_lt (g := gb250) (o := .cells #[.int .i64 a0_0, .int .i64 a0_1] 25 (0, 0)) (by (with_reducible repeat (first | refine blk_drewN ?_ _ | refine blk_drew ?_ | refine blk_alloc ?_ _)); exact BK250.out)) : gb251 ≠ gb250)); clear BK250; clear HB; have BK250 := n0_; have HB := n1_; have BK251 := n2_; have GW251 := n3_; have GE251 := n4_; have NB250_251 := n5_; have NB251_250 := n6_; clear n0_ n1_ n2_ n3_ n4_ n5_ n6_; clear hb hbox hg; have hnb17 := NB250_251.out; have hnc17 := NB251_250.out; have hcz18_0 : w16.cell? ⟨gb250, 0, none⟩ = some (.int .i64 a0_0) := (blk_cell BK250.out 0).trans rfl; have hcz18_1 : w16.cell? ⟨gb250, 1, none⟩ = some (.int .i64 a0_1) := (blk_cell BK250.out 1).trans rfl; have hfz18_0 := blk_frozen BK250.out 0; have hfz18_1 := blk_frozen BK250.out 1; have hcz19_0 : w16.cell? ⟨gb251, 0, none⟩ = some (.int .i64 a1_0) := (blk_cell BK251.out 0).trans rfl; have hcz19_1 : w16.cell? ⟨gb251, 1, none⟩ = some (.int .i64 a1_1) := (blk_cell BK251.out 1).trans rfl; have hfz19_0 := blk_frozen BK251.out 0; have hfz19_1 := blk_frozen BK251.out 1))
    go_ret
    exact ⟨by first | rfl | (simp [errW_none, errW_some] <;> rfl) | (simp [*, errW_none, errW_some] <;> rfl), by repeat (first | (with_reducible first | exact HB.out | apply below_alloc | apply pw_below_drewN | apply below_drew1 | refine below_set ?_ GE250.out | refine below_set ?_ GE251.out) | exact HB.out)⟩

end Go.Proofs.Ytjfhhpkgjdkmdaa.QFnExactSimplestOf
