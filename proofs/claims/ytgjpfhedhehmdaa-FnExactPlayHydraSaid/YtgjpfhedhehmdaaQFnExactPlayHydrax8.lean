/- The Go functions that the law FnExactPlayHydra reaches, as Lean functions, and what their calls do. Written by a program of this session. -/
import Derived.Test.YtgjpfhedhehmdaaQFnExactPlayHydrax0
import Derived.Test.YtgjpfhedhehmdaaQFnExactPlayHydrax1
import Derived.Test.YtgjpfhedhehmdaaQFnExactPlayHydrax4
import Derived.Test.YtgjpfhedhehmdaaQFnExactPlayHydrax5
import Derived.Test.YtgjpfhedhehmdaaQFnExactPlayHydrax6
import Derived.Test.YtgjpfhedhehmdaaQFnExactPlayHydrax7
namespace Go.Proofs.Ytgjpfhedhehmdaa.QFnExactPlayHydra
open Go.RowKit Go.Proofs.YtgjpfhedhehmdaaW.PrintWords Go.Proofs.YtgjpfhedhehmdaaW.PrintLast Go.Proofs.YtgjpfhedhehmdaaW.PrintMore
attribute [local go_sem] max2_int min2_int max_two min_two max_three min_three max_four min_four   -- for this text's walks alone
set_option linter.unusedVariables false
set_option linter.unusedSimpArgs false

/-! ### laws_FnExactPlayHydra: function 8 -/
/-- A predicate on numbers, handed over. -/
def hp.Pred (g : Nat) (lb : Array Value) (p : Int → Bool) (l : List Int) : Prop :=
  ∀ (W : World) (x : Int), x ∈ l → Calls Try.prog g (#[.int .i64 x] ++ lb) W fun e w' => e = .returned (.bool (p x)) ∧ Below W.heap.size W w'
set_option maxHeartbeats 400000 in
set_option maxRecDepth 100000 in
theorem hp.indexFunc (g : Nat) (lb : Array Value) (eg : ∀ args w, (callFunc g args).run Try.prog w = .ok (.enter g args) w) (p : Int → Bool) (l : List Int) (A : Option Addr) (c : Nat) (w : World)
    (hr : Kd.C (Kd.int .i64) w A l.length l) (hP_ : hp.Pred g lb p l) :
    Calls Try.prog 76 #[.slice A l.length c, .func (.func g) #[] lb] w fun e w' => ∃ r : Int, e = .returned (.int .i64 r) ∧ Below w.heap.size w w' ∧
      ((r = -1 ∧ ∀ x ∈ l, p x = false) ∨ ∃ k : Nat, ∃ hk : k < l.length, r = (k : Int) ∧ p l[k] = true ∧ ∀ j, j < k → ∀ hj : j < l.length, p l[j] = false) := by
  have hbig : l.length ≤ 9223372036854775807 := hr.2.1
  have HR := Aside0.mk hr
  have HP := Aside0.mk hP_
  clear hr hP_
  go_enter Try.func76, Try.ntmps76
  go_wp2
  go_loopg [5, 8] l.length (fun gg _ s8 wr => ∃ kk : Nat, kk ≤ l.length ∧ l.length - kk ≤ gg ∧ s8 = .int .i64 kk ∧ Aside0 (Below w.heap.size w wr) ∧ Aside0 (∀ j, j < kk → ∀ hj : j < l.length, p l[j] = false))
  case atStart => exact ⟨0, Nat.zero_le _, by omega, rfl, ⟨Below.refl _ w⟩, ⟨fun j hj => absurd hj (Nat.not_lt_zero _)⟩⟩
  case round =>
    obtain ⟨kk, hkk, hg, rfl, BW, AF⟩ := hrel
    by_cases hlt : kk < l.length
    · have hltz : (kk : Int) < (l.length : Int) := by omega
      obtain ⟨ad, e0, hx0⟩ := Kd.at_int HR.out (kk : Int) (Int.natCast_nonneg kk) hltz
      rw [Int.toNat_natCast] at hx0
      cases e0
      replace hx0 := (BW.out.cell (World.block_lt_of_cell? w _ hx0)).trans hx0
      have hcall := HP.out wr l[kk] (List.getElem_mem hlt)
      have hrd : rd l (kk : Int) = l[kk] := by simp [rd, List.getD_eq_getElem?_getD, List.getElem?_eq_getElem hlt]
      rw [hrd] at hx0
      clear hrd
      generalize hyy : l[kk] = y at hx0 hcall
      have B : Aside0 (l[kk] = y) := ⟨hyy⟩
      clear hyy
      cases hq : p y with
      | true =>
        rw [hq] at hcall
        go_wp2_with (go_at_fn g; refine hcall.mono ?_; rintro e w' ⟨rfl, hb'⟩)
        go_ret
        exact ⟨_, rfl, below_then BW.out BW.out.size hb', Or.inr ⟨kk, hlt, rfl, by rw [B.out]; exact hq, AF.out⟩⟩
      | false =>
        rw [hq] at hcall
        go_wp2_with (go_at_fn g; refine hcall.mono ?_; rintro e w' ⟨rfl, hb'⟩)
        go_roundg (l.length - (kk + 1))
        case measure => omega
        case rel =>
          refine ⟨kk + 1, by omega, by omega, by go_num, ⟨below_then BW.out BW.out.size hb'⟩, ⟨fun j hj hjl => ?_⟩⟩
          by_cases e : j = kk
          · subst e
            rw [B.out]; exact hq
          · exact AF.out j (by omega) hjl
    · have hltz : ¬ (kk : Int) < (l.length : Int) := by omega
      have : kk = l.length := by omega
      go_wp2
      go_ret
      refine ⟨_, rfl, BW.out, Or.inl ⟨rfl, fun x hx => ?_⟩⟩
      obtain ⟨j, hj, rfl⟩ := List.mem_iff_getElem.1 hx
      exact AF.out j (by omega) hj
theorem hp.containsFunc (g : Nat) (lb : Array Value) (eg : ∀ args w, (callFunc g args).run Try.prog w = .ok (.enter g args) w) (p : Int → Bool) (l : List Int) (A : Option Addr) (c : Nat) (w : World)
    (hr : Kd.C (Kd.int .i64) w A l.length l) (hP_ : hp.Pred g lb p l) :
    Calls Try.prog 61 #[.slice A l.length c, .func (.func g) #[] lb] w fun e w' => e = .returned (.bool (l.any p)) ∧ Below w.heap.size w w' := by
  have hIF := (hp.indexFunc g lb eg p l A c w hr hP_).mono (R' := fun e w' => ∃ r : Int, e = .returned (.int .i64 r) ∧ decide (0 ≤ r) = l.any p ∧ Below w.heap.size w w') (by
    rintro e w1 ⟨r, rfl, hb, hh⟩
    refine ⟨r, rfl, ?_, hb⟩
    rcases hh with ⟨rfl, hall⟩ | ⟨k, hk, rfl, hpk, _⟩
    · have : l.any p = false := by
        rw [List.any_eq_false]
        intro x hx
        rw [hall x hx]
        decide
      rw [this]
      rfl
    · have : l.any p = true := List.any_eq_true.2 ⟨_, List.getElem_mem hk, hpk⟩
      rw [this]
      exact decide_eq_true (Int.natCast_nonneg k))
  clear hr hP_
  go_enter Try.func61, Try.ntmps61
  go_wp2_with (first | (go_at_call 76; refine hIF.mono ?_; rintro e w1 ⟨r, rfl, hd, hb⟩; have HD := Aside0.mk hd; have HB := Aside0.mk hb; clear hd hb))
  go_ret
  exact ⟨by rw [← HD.out]; rfl, HB.out⟩
theorem hp.out_ (x : Int) (W : World) : Calls Try.prog 62 #[.int .i64 x] W fun e w' => e = .returned (.bool (!decide (0 ≤ x ∧ x ≤ 99))) ∧ Below W.heap.size W w' := by
  have hin := impl_in.calls x 0 99 (decide (0 ≤ x ∧ x ≤ 99)) W (by
    unfold impl_in.f
    by_cases h : x ≥ 0
    · rw [if_pos h]; congr 1; simp; omega
    · rw [if_neg h]; congr 1; simp; omega)
  generalize decide (0 ≤ x ∧ x ≤ 99) = b at hin ⊢
  go_enter Try.func62, Try.ntmps62
  go_wp2_with (first | (go_at_call 38; refine hin.mono ?_; rintro e w1 ⟨rfl, hb⟩; have HB := Aside0.mk hb.below; clear hb))
  go_ret
  exact ⟨rfl, HB.out⟩
def hp.r10.T : Bool × List (List Nat × List Nat) := (true, [([], []), ([], []), ([], []), ([], []), ([3], [3]), ([2, 4], [2, 4]), ([1, 5], [1, 5]), ([6], [6]), ([], []), ([8], [8]), ([0, 7, 9], [0, 7, 9]), ([10], [10]), ([11], [11]), ([11], [11]), ([], []), ([14, 12, 10, 0, 1, 2, 3, 4, 5, 6, 7, 8, 9, 10, 11, 12, 14], [12, 14]), ([13, 15, 0, 1, 2, 3, 4, 5, 6, 7, 8, 9, 10, 11, 12, 13, 14, 15], [13])])
def hp.r10.B : List Nat := [0, 0, 0, 0, 8, 28, 62, 126, 0, 256, 1023, 2047, 4095, 4095, 0, 24575, 65535]
theorem hp.r10.tab : rtab .any (opsOf Try.f32 10) = hp.r10.T := by kernel_rfl
theorem hp.r10.bits : waitsOk hp.r10.T.2 hp.r10.B = true := by kernel_rfl
def hp.r13.T : Bool × List (List Nat × List Nat) := (true, [([], []), ([], []), ([], []), ([2], [2]), ([1, 3], [1, 3]), ([0, 4, 0], [0]), ([4, 5, 0, 1, 2, 3, 4, 5], [1, 4])])
def hp.r13.B : List Nat := [0, 0, 0, 4, 14, 31, 63]
theorem hp.r13.tab : rtab .any (opsOf Try.f32 13) = hp.r13.T := by kernel_rfl
theorem hp.r13.bits : waitsOk hp.r13.T.2 hp.r13.B = true := by kernel_rfl
def hp.go (k : Nat) : List Int → Nat → List Int → List S43 → Option (List S43 × Bool)
  | [], _, _, out => some (out, true)
  | c :: cs, i, cur, out => (impl_heads.f k cur).bind fun H => if H.length = 0 then some (out, true) else (impl_chop.f k cur (rd H (c % (H.length : Int))) ((i : Int) + 1)).bind fun r => if r.2 = true then hp.go k cs (i + 1) r.1 (out ++ [⟨r.1⟩]) else some ([], false)
theorem hp.not3 {w : World} {base nb : Nat} {ok : Nat → Prop} {v u : Value} {xs : List Int} (h : (Kd.int .i64).R 3 w base ok v xs) (hb : w.heap[nb]? = some (.cells #[u] 43 (0, 0))) (k : Nat) (hk : some k = v.ownBlock) : k ≠ nb := fun e => by
  subst e
  exact Kd.R_ne h hb (by decide) hk
theorem hp.not43 {w : World} {base base' : Nat} {ok ok' : Nat → Prop} {v u : Value} {xs : List Int} {ys : List S43} (h : (Kd.int .i64).R 3 w base ok v xs) (hs : Kd.S k43 43 w base' ok' u ys) (k : Nat) (hk : some k = v.ownBlock) : some k ≠ u.ownBlock := fun e => by
  obtain ⟨cs, hc⟩ := Kd.S_typed hs k e.symm
  exact Kd.R_ne h hc (by decide) hk
set_option maxHeartbeats 4000000 in
set_option maxRecDepth 100000 in
theorem hp.run (k : Nat) (A0 : Option Addr) (c0 : Nat) (l0 : List Int) (A1 : Option Addr) (c1 : Nat) (l1 : List Int) (r1 : List S43) (r2 : Bool) (w : World) (hr0 : Kd.C (Kd.int .i64) w A0 l0.length l0) (hc0 : l0.length ≤ c0) (hr1 : Kd.C (Kd.int .i64) w A1 l1.length l1) (hc1 : l1.length ≤ c1)
    (hIs : impl_IsHydra.f k l0 = some true) (h60 : l1.length ≤ 60) (hall : ∀ x ∈ l1, 0 ≤ x ∧ x ≤ 99) (hsm : l0.length < 17592186044416) (h : hp.go k l1 0 l0 [⟨l0⟩] = some (r1, r2)) :
    Calls Try.prog 32 #[.agg #[.slice A0 l0.length c0], .slice A1 l1.length c1] w fun e w' => ∃ v : Value, e = .returned (.tuple #[v, .bool r2]) ∧ Kd.S k43 43 w' w.heap.size (fun _ => True) v r1 ∧ Below w.heap.size w w' := by
  have hz43 : ∀ w, (zeroValue 43).run Try.prog w = .ok (.agg #[.slice none 0 0]) w := fun w => by kernel_rfl
  have HIS := fun (W : World) (hb : Below w.heap.size w W) => impl_IsHydra.calls k A0 c0 l0 true W (Kd.C_below hr0 hb) hc0 hIs
  have hany : l1.any (fun x => !decide (0 ≤ x ∧ x ≤ 99)) = false := by
    rw [List.any_eq_false]
    intro x hx
    simp [hall x hx]
  have HCF := fun (W : World) (hb : Below w.heap.size w W) => hp.containsFunc 62 #[] (fun args w => enters_ Try.func62 rfl rfl args w) (fun x => !decide (0 ≤ x ∧ x ≤ 99)) l1 A1 c1 W (Kd.C_below hr1 hb) (fun W' x _ => hp.out_ x W')
  rw [hany] at HCF
  have HCL := fun (W : World) (hb : Below w.heap.size w W) => conc.clone A0 c0 l0 W (Kd.C_below hr0 hb) hsm
  have HIS := Aside0.mk HIS
  have HCF := Aside0.mk HCF
  have HCL := Aside0.mk HCL
  have HR1 := Aside0.mk hr1
  have HR0 := Aside0.mk hr0
  have HALL := Aside0.mk hall
  have HH := Aside0.mk h
  have HB := Aside0.mk (Below.refl w.heap.size w)
  have q60 : ¬ (60 : Int) < (l1.length : Int) := by omega
  clear hr0 hr1 hall h hIs hany
  go_enter Try.func32, Try.ntmps32
  go_upto_region 4 with (first
    | (go_at_call 55; refine (HIS.out _ (by repeat (first | (with_reducible first | exact HB.out | apply below_alloc | apply pw_below_drewN | apply below_drew1) | exact HB.out))).mono ?_; rintro e w2 ⟨rfl, hb⟩; have HX := Aside0.mk (blk_below (heap_alloc_new w (.cells #[.slice A0 l0.length c0] 43)) hb); have n0_ := Aside0.mk (below_step (by repeat (first | (with_reducible first | exact HB.out | apply below_alloc | apply pw_below_drewN | apply below_drew1) | exact HB.out)) hb); clear HB; have HB := n0_; clear n0_ hb)
    | (go_at_call 61; refine (HCF.out _ (by repeat (first | (with_reducible first | exact HB.out | apply below_alloc | apply pw_below_drewN | apply below_drew1) | exact HB.out))).mono ?_; rintro e w3 ⟨rfl, hb⟩; have x0_ := (blk_cell (blk_below HX.out hb) 0).trans rfl; clear HX; have n0_ := Aside0.mk (below_step (by repeat (first | (with_reducible first | exact HB.out | apply below_alloc | apply pw_below_drewN | apply below_drew1) | exact HB.out)) hb); clear HB; have HB := n0_; clear n0_ hb)
    | (go_at_call 63; refine (HCL.out _ (by repeat (first | (with_reducible first | exact HB.out | apply below_alloc | apply pw_below_drewN | apply below_drew1) | exact HB.out))).mono ?_; rintro e w5 ⟨v5, rfl, hr5, hb⟩; obtain ⟨A5, c5, rfl⟩ := Kd.R_slice hr5; have HR5 := Aside0.mk (Kd.R_lower hr5 (below_size (by repeat (first | (with_reducible first | exact HB.out | apply below_alloc | apply pw_below_drewN | apply below_drew1) | exact HB.out)))); have n0_ := Aside0.mk (below_step (by repeat (first | (with_reducible first | exact HB.out | apply below_alloc | apply pw_below_drewN | apply below_drew1) | exact HB.out)) hb); clear HB; have HB := n0_; clear n0_ hb hr5)
    | ((with_reducible refine gate_dst (N := 6) rfl ?_); refine box_event ?hg6 (N := 6) ?hd6 (cs := #[.slice none 0 0]) (t := 43) ?hr6 ?_; (case hd6 => rfl); (case hg6 => rfl); (case hr6 => first | (go_simp; done) | (go_simp; rfl)); intro nb htb wb hbox hb1; have HNB0 : Aside0 (w.heap.size ≤ nb) := ⟨by rw [htb]; exact HB.out.size⟩; have n0_ := Aside0.mk (below_step HB.out hb1); have n1_ := Aside0.mk (Kd.R_below HR5.out hb1); clear HB HR5; have HB := n0_; have HR5 := n1_; have HBX := Aside0.mk hbox; have y0_ := (blk_cell hbox 0).trans rfl; have y1_ := blk_frozen hbox 0; clear n0_ n1_ hb1 hbox htb))
  have HR6 := Aside0.mk (hy.far43 HR5.out HBX.out (.slice A5 l0.length c5))
  have HBX6 : Aside0 ((wb.setCell ⟨nb, 0, none⟩ (.slice A5 l0.length c5)).heap[nb]? = some (.cells #[.slice A5 l0.length c5] 43 (0, 0))) := ⟨blk_put (cs := #[.slice none 0 0]) HBX.out 0 _ rfl⟩
  have HB6 : Aside0 (Below w.heap.size w (wb.setCell ⟨nb, 0, none⟩ (.slice A5 l0.length c5))) := ⟨below_set HB.out HNB0.out⟩
  generalize (wb.setCell ⟨nb, 0, none⟩ (.slice A5 l0.length c5)) = w6 at HR6 HBX6 HB6 ⊢
  clear HB HR5 HBX y0_ y1_ HIS HCF HCL x0_
  have b6_ := (blk_cell HBX6.out 0).trans rfl
  have hnb6 := blk_lt HBX6.out
  go_wp2_with (first
    | ((with_reducible refine gate_dst (N := 30) rfl ?_); refine Kd.S_lits k43 (w0 := w) w.heap.size 43 ?hg7 (N := 30) ?hd7 (xs := [(⟨l0⟩ : S43)]) (inner := [.slice A5 l0.length c5]) (ok := fun k_ => k_ ≠ nb) (fun j k_ => j = 0 ∧ some k_ = (Value.slice A5 l0.length c5).ownBlock) ?hr7 rfl ?hp7 (fun i j k_ hi hj => hi.1.trans hj.1.symm) (fun j k_ hk => hp.not3 HR6.out HBX6.out k_ hk.2) ?hf7 HB6.out HB6.out.size (by simp) ?_; (case hd7 => rfl); (case hg7 => rfl); (case hr7 => first | (go_simp; done) | (go_simp; rfl)); (case hf7 => exact fun e => by omega); (case hp7 => intro j x hx; (match j, hx with | 0, hx => cases hx; exact k43_mkM _ _ _ _ (Kd.R_mono (Kd.R_tight rfl HR6.out) (fun _ hk => ⟨rfl, hk⟩)) | j + 1, hx => simp at hx)); intro v7 w7 ho7 hb7 hg7_ hat7; obtain ⟨A7, n7, c7, rfl⟩ : ∃ A n c, v7 = Value.slice A n c := (by obtain ⟨A, c, e⟩ := Kd.S_slice ho7; exact ⟨A, _, c, e⟩); have HO7 := Aside0.mk ho7; have HB7 := Aside0.mk hb7; have HR7 := Aside0.mk (Kd.R_grown HR6.out hg7_ (fun _ _ e => by cases e)); have HBX7 := Aside0.mk (blk_grown HBX6.out hg7_ (fun e => by cases e)); clear ho7 hb7 hg7_ hat7))
  go_loopg [7, 33] l1.length (fun gg s7 s33 wr => ∃ (i : Nat) (cur : List Int) (out : List S43) (vc : Value), i ≤ l1.length ∧ l1.length - i ≤ gg ∧ s33 = .int .i64 (i : Int) ∧ Aside0 (hp.go k (l1.drop i) i cur out = some (r1, r2)) ∧ Aside0 (out.length ≤ i + 1) ∧ Aside0 (Kd.S k43 43 wr w.heap.size (fun k_ => k_ ≠ nb) s7 out) ∧ Aside0 (Kd.R (Kd.int .i64) 3 wr w.heap.size (fun _ => True) vc cur) ∧ Aside0 (wr.heap[nb]? = some (.cells #[vc] 43 (0, 0))) ∧ Aside0 (Below w.heap.size w wr))
  case atStart => exact ⟨0, l0, [⟨l0⟩], _, Nat.zero_le _, by omega, rfl, HH, ⟨by simp⟩, HO7, HR7, HBX7, HB7⟩
  case round =>
    clear HH HO7 HR7 HBX7 HB7 HR6 HBX6 HB6 b6_
    obtain ⟨i, cur, out, vc, hi, hgg, rfl, HH, HLO, HO, HR, HBX, HB⟩ := hrel
    obtain ⟨Ac, cc, rfl⟩ := Kd.R_slice HR.out
    obtain ⟨Ao, co, eo⟩ := Kd.S_slice HO.out
    subst eo
    by_cases hil : i < l1.length
    · cases gk with
      | zero => omega
      | succ k1 =>
      have hltz : (i : Int) < (l1.length : Int) := by omega
      have hiz : (0 : Int) ≤ (i : Int) := Int.natCast_nonneg _
      obtain ⟨ac, e0, hxc⟩ := Kd.at_int (Kd.C_below HR1.out HB.out) (i : Int) hiz hltz
      cases e0
      rw [Int.toNat_natCast] at hxc
      have hrd : rd l1 (i : Int) = l1[i] := by simp [rd, List.getD_eq_getElem?_getD, List.getElem?_eq_getElem hil]
      rw [hrd] at hxc
      have hxr := HALL.out l1[i] (List.getElem_mem hil)
      have h := HH.out
      rw [List.drop_eq_getElem_cons hil] at h
      generalize l1[i] = x at hxc hxr h
      obtain ⟨hx0, hx1⟩ := hxr
      unfold hp.go at h
      obtain ⟨Hd, AH, h⟩ := Option.bind_eq_some_iff.mp h
      have hcur := (Kd.R_reads' HR.out)
      have HHD := Aside0.mk (fun (W : World) (hb : Below wr.heap.size wr W) => impl_heads.calls k Ac cc cur Hd W (Kd.C_below hcur.2.2 hb) hcur.2.1 AH)
      clear AH hrd
      have b8_ := (blk_cell HBX.out 0).trans rfl
      by_cases hlen : Hd.length = 0
      · rw [if_pos hlen] at h
        simp only [Option.some.injEq, Prod.mk.injEq] at h
        obtain ⟨rfl, rfl⟩ := h
        have heq : ((Hd.length : Int) == 0) = true := beq_iff_eq.2 (by omega)
        clear hcur
        go_wp2_with (first | (go_at_call 57; refine (HHD.out _ (Below.refl _ _)).mono ?_; rintro e w9 ⟨v9, rfl, hr9, hb9⟩; obtain ⟨A9, c9, rfl⟩ := Kd.R_slice hr9; have HB9 := Aside0.mk (below_step HB.out hb9); have HO9 := Aside0.mk (Kd.S_below HO.out hb9); clear hr9 hb9))
        go_ret2
        exact ⟨_, rfl, Kd.S_mono HO9.out (fun _ _ => trivial), HB9.out⟩
      · rw [if_neg hlen] at h
        obtain ⟨⟨rr1, rr2⟩, AC, h⟩ := Option.bind_eq_some_iff.mp h
        have heq : ((Hd.length : Int) == 0) = false := beq_eq_false_iff_ne.2 (by omega)
        obtain ⟨ix, hix⟩ : ∃ ix : Nat, x % (Hd.length : Int) = (ix : Int) := ⟨(x % (Hd.length : Int)).toNat, (Int.toNat_of_nonneg (Int.emod_nonneg _ (by omega))).symm⟩
        have hixl : (ix : Int) < (Hd.length : Int) := by rw [← hix]; exact Int.emod_lt_of_pos _ (by omega)
        have hix0 : (0 : Int) ≤ (ix : Int) := Int.natCast_nonneg _
        rw [hix] at AC
        have HIX := Aside0.mk hix
        have hlz : ¬ (Hd.length : Int) = 0 := by omega
        obtain ⟨hv, hhv⟩ : ∃ hv, rd Hd (ix : Int) = hv := ⟨_, rfl⟩
        rw [hhv] at AC
        have HC0 := Aside0.mk AC
        have HNX := Aside0.mk h
        have HHV := Aside0.mk hhv
        have HW1 : Aside0 (IntKind.i64.wrap ((i : Int) + 1) = (i : Int) + 1) := ⟨by rw [i64_w]; unfold wrap64; omega⟩
        clear AC h hix hhv
        go_wp2_with (first | (go_at_call 57; refine (HHD.out _ (Below.refl _ _)).mono ?_; rintro e w9 ⟨v9, rfl, hr9, hb9⟩; obtain ⟨A9, c9, rfl⟩ := Kd.R_slice hr9; have HB9 := Aside0.mk (below_step HB.out hb9); have HO9 := Aside0.mk (Kd.S_below HO.out hb9); have HRC := Aside0.mk (Kd.R_below HR.out hb9); have HX9 := Aside0.mk (blk_below HBX.out hb9); have HD9 := Aside0.mk hr9; clear hr9 hb9))
        obtain ⟨w11, hw11⟩ : ∃ w11, w11 = w9.drew := ⟨_, rfl⟩
        have hbd : Below w9.heap.size w9 w11 := by rw [hw11]; exact below_drew1 (Below.refl w9.heap.size w9)
        have HB11 := Aside0.mk (below_step HB9.out hbd)
        have HO11 := Aside0.mk (Kd.S_below HO9.out hbd)
        have HRC11 := Aside0.mk (Kd.R_below HRC.out hbd)
        have HX11 := Aside0.mk (blk_below HX9.out hbd)
        have HD11 := Aside0.mk (Kd.R_below HD9.out hbd)
        clear HB9 HO9 HRC HX9 HD9 hbd HB HO HR HBX hcur hxc HHD b8_
        have hcur := Kd.R_reads' HRC11.out
        have HCALL := Aside0.mk (fun (W : World) (hb : Below w11.heap.size w11 W) => impl_chop.calls k Ac cc cur hv ((i : Int) + 1) rr1 rr2 W (Kd.C_below hcur.2.2 hb) hcur.2.1 HC0.out)
        obtain ⟨aH, e0, hx10⟩ := Kd.at_int (Kd.R_reads' HD11.out).2.2 (ix : Int) hix0 hixl
        cases e0
        rw [Int.toNat_natCast, HHV.out] at hx10
        have b10_ : w9.drew.cell? ⟨nb, 0, none⟩ = some (.slice Ac cur.length cc) := by rw [← hw11]; exact (blk_cell HX11.out 0).trans rfl
        have e10_ : w9.drew.cell? (aH.add ix) = some (.int .i64 hv) := by rw [← hw11]; exact hx10
        have hnb11 := blk_lt HX11.out
        clear hcur hx10
        refine start_ (n := 17) (S := fun w' => w'.cell? ⟨nb, 0, none⟩ = some (.slice Ac cur.length cc) ∧ w'.cell? (aH.add ix) = some (.int .i64 hv)) (ds := [15]) #[false, false, false, false, false, false, false, false, false, false, false, false, false, false, false, false, false] (by kernel_rfl) rfl rfl ⟨b10_, e10_⟩ (fun hHeld => ?_)
        refine with_tabW hp.r10.tab hp.r10.bits (fun HT_ HW_ => ?_)
        rw [← hw11] at hHeld ⊢
        clear hw11 b10_ e10_
        refine pure_ (i := 1) (N := (some 45)) (v := ?_) (a' := ?_) #[false, true, false, false, false, false, false, false, false, false, false, false, false, false, false, false, false] rfl rfl (any_of HT_.out (by kernel_rfl)) (fun _ _ _ h => h) (Or.inl ⟨by rfl, ?_⟩) ?_ ?_
        rotate_left
        · intro w'
          go_simp
          with_reducible rfl
        rotate_left
        · simp only [Act.put, List.setIfInBounds_toArray, List.set_cons_zero, List.set_cons_succ, i64_w, i32_w]
          rfl
        refine pure_ (i := 2) (N := (some 46)) (v := ?_) (a' := ?_) #[false, true, true, false, false, false, false, false, false, false, false, false, false, false, false, false, false] rfl rfl (any_of HT_.out (by kernel_rfl)) (fun _ _ _ h => h) (Or.inl ⟨by rfl, ?_⟩) ?_ ?_
        rotate_left
        · intro w'
          go_simp
          with_reducible rfl
        rotate_left
        · simp only [Act.put, List.setIfInBounds_toArray, List.set_cons_zero, List.set_cons_succ, i64_w, i32_w]
          rfl
        refine pure_ (i := 3) (N := (some 47)) (v := ?_) (a' := ?_) #[false, true, true, true, false, false, false, false, false, false, false, false, false, false, false, false, false] rfl rfl (any_of HT_.out (by kernel_rfl)) (fun _ _ _ h => h) (Or.inl ⟨by rfl, ?_⟩) ?_ ?_
        rotate_left
        · intro w'
          go_simp
          with_reducible rfl
        rotate_left
        · simp only [Act.put, List.setIfInBounds_toArray, List.set_cons_zero, List.set_cons_succ, i64_w, i32_w]
          rfl
        refine pure_ (i := 4) (N := (some 48)) (v := ?_) (a' := ?_) #[false, true, true, true, true, false, false, false, false, false, false, false, false, false, false, false, false] rfl rfl (any_of HT_.out (by kernel_rfl)) (fun _ _ _ h => h) (Or.inl ⟨by rfl, ?_⟩) ?_ ?_
        rotate_left
        · intro w'
          go_simp
          with_reducible rfl
        rotate_left
        · simp only [Act.put, List.setIfInBounds_toArray, List.set_cons_zero, List.set_cons_succ, i64_w, i32_w]
          rfl
        refine pure_ (i := 5) (N := (some 49)) (v := ?_) (a' := ?_) #[false, true, true, true, true, true, false, false, false, false, false, false, false, false, false, false, false] rfl rfl (any_of HT_.out (by kernel_rfl)) (fun _ _ _ h => h) (Or.inl ⟨by rfl, ?_⟩) ?_ ?_
        rotate_left
        · intro w'
          go_simp
          rw [Int.tmod_eq_emod_of_nonneg hx0, HIX.out]
        rotate_left
        · simp only [Act.put, List.setIfInBounds_toArray, List.set_cons_zero, List.set_cons_succ, i64_w, i32_w]
          rfl
        refine pure_ (i := 6) (N := (some 50)) (v := ?_) (a' := ?_) #[false, true, true, true, true, true, true, false, false, false, false, false, false, false, false, false, false] rfl rfl (any_of HT_.out (by kernel_rfl)) (fun _ _ _ h => h) (Or.inl ⟨by rfl, ?_⟩) ?_ ?_
        rotate_left
        · intro w'
          go_simp
          with_reducible rfl
        rotate_left
        · simp only [Act.put, List.setIfInBounds_toArray, List.set_cons_zero, List.set_cons_succ, i64_w, i32_w]
          rfl
        refine take_ (i := 7) (N := (some 51)) (v := ?_) (a' := ?_) #[false, true, true, true, true, true, true, true, false, false, false, false, false, false, false, false, false] rfl rfl (take_ofW HT_.out HW_.out (by kernel_rfl)) (fun _ _ _ h => h) (Or.inl ⟨by rfl, ?_⟩) hHeld ?_ ?_
        rotate_left
        · rintro w' ⟨s0, s1⟩
          go_simp
          with_reducible rfl
        rotate_left
        · simp only [Act.put, List.setIfInBounds_toArray, List.set_cons_zero, List.set_cons_succ, i64_w, i32_w]
          rfl
        refine pure_ (i := 8) (N := (some 52)) (v := ?_) (a' := ?_) #[false, true, true, true, true, true, true, true, true, false, false, false, false, false, false, false, false] rfl rfl (any_of HT_.out (by kernel_rfl)) (fun _ _ _ h => h) (Or.inl ⟨by rfl, ?_⟩) ?_ ?_
        rotate_left
        · intro w'
          go_simp
          with_reducible rfl
        rotate_left
        · simp only [Act.put, List.setIfInBounds_toArray, List.set_cons_zero, List.set_cons_succ, i64_w, i32_w]
          rfl
        refine pure_ (i := 9) (N := (some 53)) (v := ?_) (a' := ?_) #[false, true, true, true, true, true, true, true, true, true, false, false, false, false, false, false, false] rfl rfl (any_of HT_.out (by kernel_rfl)) (fun _ _ _ h => h) (Or.inl ⟨by rfl, ?_⟩) ?_ ?_
        rotate_left
        · intro w'
          go_simp
          rw [HW1.out]
        rotate_left
        · simp only [Act.put, List.setIfInBounds_toArray, List.set_cons_zero, List.set_cons_succ, i64_w, i32_w]
          rfl
        refine take_ (i := 0) (N := (some 44)) (v := ?_) (a' := ?_) #[true, true, true, true, true, true, true, true, true, true, false, false, false, false, false, false, false] rfl rfl (take_ofW HT_.out HW_.out (by kernel_rfl)) (fun _ _ _ h => h) (Or.inl ⟨by rfl, ?_⟩) hHeld ?_ ?_
        rotate_left
        · rintro w' ⟨s0, s1⟩
          go_simp
          with_reducible rfl
        rotate_left
        · simp only [Act.put, List.setIfInBounds_toArray, List.set_cons_zero, List.set_cons_succ, i64_w, i32_w]
          rfl
        refine join_ (σ := Value × Nat) 2 #[true, true, true, true, true, true, true, true, true, true, true, true, true, true, true, false, false] (fun s => [(54, .tuple #[.agg #[s.1], .bool rr2]), (43, .tuple #[.agg #[s.1], .bool rr2]), (55, .agg #[s.1]), (56, .bool rr2), (11, .pointer (some ⟨s.2, 0, none⟩))]) (fun (s : Value × Nat) (Wa : World) => ∃ (A : Option Addr) (c : Nat), s.1 = .slice A rr1.length c ∧ Kd.R (Kd.int .i64) 3 Wa w11.heap.size (fun _ => True) s.1 rr1 ∧ Below w11.heap.size w11 Wa ∧ Wa.heap[s.2]? = some (.cells #[.slice none 0 0] 43 (0, 0)) ∧ w11.heap.size ≤ s.2) ?hcont10 (fun hcont => ?_)
        rotate_left
        · refine two_ (i := 10) (j := 14) (Ni := some 54) (Nj := some 11) #[true, true, true, true, true, true, true, true, true, true, true, false, false, false, false, false, false] #[true, true, true, true, true, true, true, true, true, true, false, false, false, false, true, false, false] rfl rfl rfl rfl (two_of HT_.out (by kernel_rfl)) (by decide) (by decide) (fun K hK => ?_) (fun K hK => ?_)
          · refine goes_ Try.func58 (by kernel_rfl) rfl #[.agg #[.slice Ac cur.length cc], .int .i64 hv, .int .i64 ((i : Int) + 1)] (by rfl) rfl rfl (by (try simp only [List.map_toArray, List.map_cons, List.map_nil]); first | done | rfl) ?_
            refine (HCALL.out _ (Below.refl _ _)).mono ?_
            rintro e5 w5 ⟨vi, rfl, hri, hbi⟩
            refine ⟨_, rfl, ?_⟩
            obtain ⟨Ai, ci, rfl⟩ := Kd.R_slice hri
            refine hK.out _ _ ⟨(hbi.cell (World.block_lt_of_cell? _ _ hHeld.1)).trans hHeld.1, (hbi.cell (World.block_lt_of_cell? _ _ hHeld.2)).trans hHeld.2⟩ (fun hHeld => ?_)
            clear hK K
            refine norm_ (a' := ?_) ?_ ?_
            rotate_left
            · show Act.put _ (some 54) _ = _
              simp only [Act.put, List.setIfInBounds_toArray, List.set_cons_zero, List.set_cons_succ, i64_w, i32_w]
              rfl
            refine pure_ (i := 11) (N := (some 43)) (v := ?_) (a' := ?_) #[true, true, true, true, true, true, true, true, true, true, true, true, false, false, false, false, false] rfl rfl (any_of HT_.out (by kernel_rfl)) (fun _ _ _ h => h) (Or.inl ⟨by rfl, ?_⟩) ?_ ?_
            rotate_left
            · intro w'
              go_simp
              with_reducible rfl
            rotate_left
            · simp only [Act.put, List.setIfInBounds_toArray, List.set_cons_zero, List.set_cons_succ, i64_w, i32_w]
              rfl
            refine pure_ (i := 12) (N := (some 55)) (v := ?_) (a' := ?_) #[true, true, true, true, true, true, true, true, true, true, true, true, true, false, false, false, false] rfl rfl (any_of HT_.out (by kernel_rfl)) (fun _ _ _ h => h) (Or.inl ⟨by rfl, ?_⟩) ?_ ?_
            rotate_left
            · intro w'
              go_simp
              with_reducible rfl
            rotate_left
            · simp only [Act.put, List.setIfInBounds_toArray, List.set_cons_zero, List.set_cons_succ, i64_w, i32_w]
              rfl
            refine pure_ (i := 13) (N := (some 56)) (v := ?_) (a' := ?_) #[true, true, true, true, true, true, true, true, true, true, true, true, true, true, false, false, false] rfl rfl (any_of HT_.out (by kernel_rfl)) (fun _ _ _ h => h) (Or.inl ⟨by rfl, ?_⟩) ?_ ?_
            rotate_left
            · intro w'
              go_simp
              with_reducible rfl
            rotate_left
            · simp only [Act.put, List.setIfInBounds_toArray, List.set_cons_zero, List.set_cons_succ, i64_w, i32_w]
              rfl
            refine one_ (i := 14) (N := (some 11)) #[true, true, true, true, true, true, true, true, true, true, true, true, true, true, true, false, false] rfl rfl (one_of HT_.out (by kernel_rfl)) (by decide) (fun K hK => ?_)
            refine value_ (w1 := ?_) (v := ?_) (by rfl) rfl ?_ ?_
            rotate_left 2
            · go_simp
              constructor
              · rfl
              · rfl
            refine hK.out _ _ ⟨(World.cell?_alloc_lt _ _ _ (World.block_lt_of_cell? _ _ hHeld.1)).trans hHeld.1, (World.cell?_alloc_lt _ _ _ (World.block_lt_of_cell? _ _ hHeld.2)).trans hHeld.2⟩ (fun hHeld => ?_)
            clear hK K
            exact hcont (.slice Ai rr1.length ci, w5.heap.size) _ ⟨Ai, ci, rfl, Kd.R_alloc hri _, below_step hbi (below_alloc (Below.refl _ _) _), heap_alloc_new w5 _, hbi.size⟩
          · refine value_ (w1 := ?_) (v := ?_) (by rfl) rfl ?_ ?_
            rotate_left 2
            · go_simp
              constructor
              · rfl
              · rfl
            have hz5 := heap_alloc_new w11 (.cells #[.slice none 0 0] 43)
            have kb5 := below_alloc (Below.refl w11.heap.size w11) (.cells #[.slice none 0 0] 43)
            refine hK.out _ _ ⟨(World.cell?_alloc_lt _ _ _ (World.block_lt_of_cell? _ _ hHeld.1)).trans hHeld.1, (World.cell?_alloc_lt _ _ _ (World.block_lt_of_cell? _ _ hHeld.2)).trans hHeld.2⟩ (fun hHeld => ?_)
            clear hK K
            refine norm_ (a' := ?_) ?_ ?_
            rotate_left
            · show Act.put _ (some 11) _ = _
              simp only [Act.put, List.setIfInBounds_toArray, List.set_cons_zero, List.set_cons_succ, i64_w, i32_w]
              rfl
            generalize w11.alloc (.cells #[.slice none 0 0] 43) = w5 at hz5 kb5 hHeld ⊢
            refine one_ (i := 10) (N := (some 54)) #[true, true, true, true, true, true, true, true, true, true, true, false, false, false, true, false, false] rfl rfl (one_of HT_.out (by kernel_rfl)) (by decide) (fun K hK => ?_)
            refine goes_ Try.func58 (by kernel_rfl) rfl #[.agg #[.slice Ac cur.length cc], .int .i64 hv, .int .i64 ((i : Int) + 1)] (by rfl) rfl rfl (by (try simp only [List.map_toArray, List.map_cons, List.map_nil]); first | done | rfl) ?_
            refine (HCALL.out _ kb5).mono ?_
            rintro e6 w6 ⟨vi, rfl, hri, hbi⟩
            refine ⟨_, rfl, ?_⟩
            obtain ⟨Ai, ci, rfl⟩ := Kd.R_slice hri
            refine hK.out _ _ ⟨(hbi.cell (World.block_lt_of_cell? _ _ hHeld.1)).trans hHeld.1, (hbi.cell (World.block_lt_of_cell? _ _ hHeld.2)).trans hHeld.2⟩ (fun hHeld => ?_)
            clear hK K
            refine norm_ (a' := ?_) ?_ ?_
            rotate_left
            · show Act.put _ (some 54) _ = _
              simp only [Act.put, List.setIfInBounds_toArray, List.set_cons_zero, List.set_cons_succ, i64_w, i32_w]
              rfl
            refine pure_ (i := 11) (N := (some 43)) (v := ?_) (a' := ?_) #[true, true, true, true, true, true, true, true, true, true, true, true, false, false, true, false, false] rfl rfl (any_of HT_.out (by kernel_rfl)) (fun _ _ _ h => h) (Or.inl ⟨by rfl, ?_⟩) ?_ ?_
            rotate_left
            · intro w'
              go_simp
              with_reducible rfl
            rotate_left
            · simp only [Act.put, List.setIfInBounds_toArray, List.set_cons_zero, List.set_cons_succ, i64_w, i32_w]
              rfl
            refine pure_ (i := 12) (N := (some 55)) (v := ?_) (a' := ?_) #[true, true, true, true, true, true, true, true, true, true, true, true, true, false, true, false, false] rfl rfl (any_of HT_.out (by kernel_rfl)) (fun _ _ _ h => h) (Or.inl ⟨by rfl, ?_⟩) ?_ ?_
            rotate_left
            · intro w'
              go_simp
              with_reducible rfl
            rotate_left
            · simp only [Act.put, List.setIfInBounds_toArray, List.set_cons_zero, List.set_cons_succ, i64_w, i32_w]
              rfl
            refine pure_ (i := 13) (N := (some 56)) (v := ?_) (a' := ?_) #[true, true, true, true, true, true, true, true, true, true, true, true, true, true, true, false, false] rfl rfl (any_of HT_.out (by kernel_rfl)) (fun _ _ _ h => h) (Or.inl ⟨by rfl, ?_⟩) ?_ ?_
            rotate_left
            · intro w'
              go_simp
              with_reducible rfl
            rotate_left
            · simp only [Act.put, List.setIfInBounds_toArray, List.set_cons_zero, List.set_cons_succ, i64_w, i32_w]
              rfl
            exact hcont (.slice Ai rr1.length ci, w11.heap.size) _ ⟨Ai, ci, rfl, Kd.R_lower hri kb5.size, below_step kb5 hbi, blk_below hz5 hbi, Nat.le_refl _⟩
        rintro ⟨vi, f⟩ Wa ⟨Ai, ci, e1, hri, hwa, hz8, hf0⟩
        dsimp only at e1 hri hz8 hf0
        subst e1
        refine norm_ (a' := ?_) ?_ ?_
        rotate_left
        · simp only [putAll, Act.put, List.setIfInBounds_toArray, List.set_cons_zero, List.set_cons_succ, i64_w, i32_w]
          rfl
        have z0_ := (blk_cell hz8 0).trans rfl
        have z2_ := blk_frozen hz8 0
        refine last_ (i := 15) (N := none) #[true, true, true, true, true, true, true, true, true, true, true, true, true, true, true, true, false] rfl rfl (one_of HT_.out (by kernel_rfl)) (by decide) (fun K hK => ?_)
        refine skip_ (w1 := (Wa.setCell ⟨f, 0, none⟩ (.slice Ai rr1.length ci))) (by rfl) rfl ?_ ?_
        · go_simp
        have hf1 : (Wa.setCell ⟨f, 0, none⟩ (.slice Ai rr1.length ci)).heap[f]? = some (.cells #[.slice Ai rr1.length ci] 43 (0, 0)) := blk_put (cs := #[.slice none 0 0]) hz8 0 _ rfl
        have hf2 := hy.far43 hri hz8 (.slice Ai rr1.length ci)
        have hf3 : Below w11.heap.size w11 (Wa.setCell ⟨f, 0, none⟩ (.slice Ai rr1.length ci)) := below_set hwa hf0
        refine hK.out _ _ ?_
        clear hK K z0_ z2_ hri hwa hz8
        generalize (Wa.setCell ⟨f, 0, none⟩ (.slice Ai rr1.length ci)) = w12 at hf1 hf2 hf3 ⊢
        refine pure_ (i := 16) (N := (some 12)) (v := ?_) (a' := ?_) #[true, true, true, true, true, true, true, true, true, true, true, true, true, true, true, true, true] rfl rfl (any_of HT_.out (by kernel_rfl)) (fun _ _ _ h => h) (Or.inl ⟨by rfl, ?_⟩) ?_ ?_
        rotate_left
        · intro w'
          go_simp
          with_reducible rfl
        rotate_left
        · simp only [Act.put, List.setIfInBounds_toArray, List.set_cons_zero, List.set_cons_succ, i64_w, i32_w]
          rfl
        refine done_ (done_of HT_.out (by kernel_rfl)) ?_
        clear HT_ HW_ hHeld HCALL
        have HNG : Aside0 (w.heap.size ≤ nb) := HNB0
        have HB12 := Aside0.mk (below_step HB11.out hf3)
        cases rr2 with
        | false =>
          have h := HNX.out
          simp only [Bool.false_eq_true, if_false, Option.some.injEq, Prod.mk.injEq] at h
          obtain ⟨rfl, rfl⟩ := h
          go_wp2
          go_ret2
          exact ⟨_, rfl, Kd.S_nil _ _ _ _ _, HB12.out⟩
        | true =>
          have h := HNX.out
          rw [if_pos rfl] at h
          try dsimp only at h
          have HNX2 := Aside0.mk h
          clear h HNX
          obtain ⟨w13, hw13⟩ : ∃ w13, w13 = w12.drew := ⟨_, rfl⟩
          have hbd : Below w12.heap.size w12 w13 := by rw [hw13]; exact below_drew1 (Below.refl w12.heap.size w12)
          have hbe := below_step hf3 hbd
          have HOW : Aside0 (∀ k_, some k_ = (Value.slice Ai rr1.length ci).ownBlock → w11.heap.size ≤ k_) := ⟨fun k_ hk => Kd.R_base hf2 k_ hk.symm⟩
          have HB13 := Aside0.mk (below_step HB12.out hbd)
          have HO13 : Aside0 (Kd.S k43 43 w13 w.heap.size (fun k_ => k_ ≠ nb ∧ ¬ some k_ = (Value.slice Ai rr1.length ci).ownBlock) (.slice Ao out.length co) out) := ⟨Kd.S_below (Kd.S_mono (Kd.S_bound HO11.out) (fun k_ hk => ⟨hk.1, fun e => by have := HOW.out k_ e; have := hk.2.2.1; omega⟩)) hbe⟩
          have HR13 : Aside0 (Kd.R (Kd.int .i64) 3 w13 w.heap.size (fun _ => True) (.slice Ai rr1.length ci) rr1) := ⟨Kd.R_lower (Kd.R_below hf2 hbd) HB11.out.size⟩
          have HNB : Aside0 (∀ k_, some k_ = (Value.slice Ai rr1.length ci).ownBlock → k_ ≠ nb) := ⟨fun k_ hk e => by have := HOW.out k_ hk; omega⟩
          have HNO : Aside0 (∀ k_, some k_ = (Value.slice Ai rr1.length ci).ownBlock → some k_ ≠ (Value.slice Ao out.length co).ownBlock) := ⟨fun k_ hk e => by have h1 := HOW.out k_ hk; have h2 := Kd.S_lt HO11.out k_ e.symm; omega⟩
          have HBX13 := Aside0.mk (blk_below HX11.out hbe)
          have HLT13 := Aside0.mk (blk_lt HBX13.out)
          have HF13 := Aside0.mk (blk_below hf1 hbd)
          have HNF : Aside0 (some f ≠ (Value.slice Ao out.length co).ownBlock) := ⟨fun e => by have h2 := Kd.S_lt HO11.out f e.symm; omega⟩
          have f13_ : w12.drew.cell? ⟨f, 0, none⟩ = some (.slice Ai rr1.length ci) := by rw [← hw13]; exact (blk_cell HF13.out 0).trans rfl
          clear hbd hbe hf1 hf2 hf3 HOW
          go_wp2
          refine start_ (n := 7) (S := fun w' => w'.cell? ⟨f, 0, none⟩ = some (.slice Ai rr1.length ci)) (ds := [5]) #[false, false, false, false, false, false, false] (by kernel_rfl) rfl rfl f13_ (fun hHeld => ?_)
          refine with_tabW hp.r13.tab hp.r13.bits (fun HT_ HW_ => ?_)
          rw [← hw13] at hHeld ⊢
          clear hw13 f13_
          refine pure_ (i := 1) (N := (some 60)) (v := ?_) (a' := ?_) #[false, true, false, false, false, false, false] rfl rfl (any_of HT_.out (by kernel_rfl)) (fun _ _ _ h => h) (Or.inl ⟨by rfl, ?_⟩) ?_ ?_
          rotate_left
          · intro w'
            go_simp
            with_reducible rfl
          rotate_left
          · simp only [Act.put, List.setIfInBounds_toArray, List.set_cons_zero, List.set_cons_succ, i64_w, i32_w]
            rfl
          refine take_ (i := 0) (N := (some 59)) (v := ?_) (a' := ?_) #[true, true, false, false, false, false, false] rfl rfl (take_ofW HT_.out HW_.out (by kernel_rfl)) (fun _ _ _ h => h) (Or.inl ⟨by rfl, ?_⟩) hHeld ?_ ?_
          rotate_left
          · rintro w' s0
            go_simp
            with_reducible rfl
          rotate_left
          · simp only [Act.put, List.setIfInBounds_toArray, List.set_cons_zero, List.set_cons_succ, i64_w, i32_w]
            rfl
          refine take_ (i := 2) (N := (some 61)) (v := ?_) (a' := ?_) #[true, true, true, false, false, false, false] rfl rfl (take_ofW HT_.out HW_.out (by kernel_rfl)) (fun _ _ _ h => h) (Or.inl ⟨by rfl, ?_⟩) hHeld ?_ ?_
          rotate_left
          · rintro w' s0
            go_simp
            with_reducible rfl
          rotate_left
          · simp only [Act.put, List.setIfInBounds_toArray, List.set_cons_zero, List.set_cons_succ, i64_w, i32_w]
            rfl
          refine one_ (i := 3) (N := (some 62)) #[true, true, true, true, false, false, false] rfl rfl (one_of HT_.out (by kernel_rfl)) (by decide) (fun K hK => ?_)
          refine value_ (w1 := ?_) (v := ?_) (by rfl) rfl ?_ ?_
          rotate_left 2
          · go_simp
            constructor
            · rfl
            · rfl
          refine hK.out _ _ ((World.cell?_alloc_lt _ _ _ (World.block_lt_of_cell? _ _ hHeld)).trans hHeld) (fun hHeld => ?_)
          clear hK K
          refine norm_ (a' := ?_) ?_ ?_
          rotate_left
          · show Act.put _ (some 62) _ = _
            simp only [Act.put, List.setIfInBounds_toArray, List.set_cons_zero, List.set_cons_succ, i64_w, i32_w]
            rfl
          refine one_ (i := 4) (N := (some 63)) #[true, true, true, true, true, false, false] rfl rfl (one_of HT_.out (by kernel_rfl)) (by decide) (fun K hK => ?_)
          refine Kd.S_append_step k43 (w0 := w) w.heap.size (by rfl) (.tmp 60) (.tmp 62) 50 43 (.agg #[.slice none 0 0]) 24 rfl Try.underlying50 info43 rfl (by decide) (by omega) (.slice Ao out.length co) out (⟨rr1⟩ : S43) [.slice Ai rr1.length ci] (fun k_ => k_ ≠ nb) (fun k_ => some k_ = (Value.slice Ai rr1.length ci).ownBlock) rfl rfl ?aP ?aK ?aF ?aO HB13.out HB13.out.size ?aL ?_
          (case aP => exact k43_mkM _ _ _ _ (Kd.R_tight rfl HR13.out))
          (case aK => exact fun k_ hk => ⟨HNB.out k_ hk, HNO.out k_ hk⟩)
          (case aF => exact fun k_ hk e => by have := HLT13.out; omega)
          (case aO => exact HO13.out)
          (case aL => have := HLO.out; omega)
          intro v14 w14 ho14 hb14 hg14 hat14
          obtain ⟨Av, nv, cv, rfl⟩ : ∃ A n c, v14 = Value.slice A n c := by obtain ⟨A, c, e⟩ := Kd.S_slice ho14; exact ⟨A, _, c, e⟩
          have y0 := blk_grown HBX13.out hg14 (Kd.S_away HO13.out (fun k_ hk => hk.1))
          have z0_ := (blk_cell y0 0).trans rfl
          have z2_ := blk_frozen y0 0
          have hR14 := Kd.R_grown (Kd.R_tight rfl HR13.out) hg14 (fun k_ hk => HNO.out k_ hk)
          have hf14 : w14.cell? ⟨f, 0, none⟩ = some (.slice Ai rr1.length ci) := (blk_cell (blk_grown HF13.out hg14 (fun e => HNF.out e)) 0).trans rfl
          refine hK.out _ _ hf14 (fun hHeld => ?_)
          clear hK K
          refine norm_ (a' := ?_) ?_ ?_
          rotate_left
          · show Act.put _ (some 63) _ = _
            simp only [Act.put, List.setIfInBounds_toArray, List.set_cons_zero, List.set_cons_succ, i64_w, i32_w]
            rfl
          refine last_ (i := 5) (N := none) #[true, true, true, true, true, true, false] rfl rfl (one_of HT_.out (by kernel_rfl)) (by decide) (fun K hK => ?_)
          refine skip_ (w1 := (w14.setCell ⟨nb, 0, none⟩ (.slice Ai rr1.length ci))) (by rfl) rfl ?_ ?_
          · go_simp
          have KO := Aside0.mk (Kd.S_far ho14 (p := ⟨nb, 0, none⟩) (fun k_ hk => hk) (.slice Ai rr1.length ci))
          have KR := Aside0.mk (Kd.R_mono (ok' := fun _ => True) (hy.far43 hR14 y0 (.slice Ai rr1.length ci)) (fun _ _ => trivial))
          have KX : Aside0 ((w14.setCell ⟨nb, 0, none⟩ (.slice Ai rr1.length ci)).heap[nb]? = some (.cells #[.slice Ai rr1.length ci] 43 (0, 0))) := ⟨blk_put (cs := #[.slice Ac cur.length cc]) y0 0 _ rfl⟩
          have KB : Aside0 (Below w.heap.size w (w14.setCell ⟨nb, 0, none⟩ (.slice Ai rr1.length ci))) := ⟨below_set hb14 HNG.out⟩
          refine hK.out _ _ ?_
          clear hK K y0 z0_ z2_ hR14 hf14 ho14 hb14 hg14 hat14
          generalize (w14.setCell ⟨nb, 0, none⟩ (.slice Ai rr1.length ci)) = w15 at KO KR KX KB ⊢
          refine pure_ (i := 6) (N := (some 7)) (v := ?_) (a' := ?_) #[true, true, true, true, true, true, true] rfl rfl (any_of HT_.out (by kernel_rfl)) (fun _ _ _ h => h) (Or.inl ⟨by rfl, ?_⟩) ?_ ?_
          rotate_left
          · intro w'
            go_simp
            with_reducible rfl
          rotate_left
          · simp only [Act.put, List.setIfInBounds_toArray, List.set_cons_zero, List.set_cons_succ, i64_w, i32_w]
            rfl
          refine done_ (done_of HT_.out (by kernel_rfl)) ?_
          clear HT_ HW_ hHeld
          try go_wp2
          go_roundg k1
          case measure => omega
          case rel => exact ⟨i + 1, rr1, out ++ [⟨rr1⟩], .slice Ai rr1.length ci, by omega, by omega, congrArg (Value.int .i64) (by omega), HNX2, ⟨by have := HLO.out; rw [List.length_append]; show out.length + 1 ≤ _; omega⟩, KO, KR, KX, KB⟩
    · have hltz : ¬ (i : Int) < (l1.length : Int) := by omega
      have h := HH.out
      rw [List.drop_of_length_le (by omega)] at h
      simp only [hp.go, Option.some.injEq, Prod.mk.injEq] at h
      obtain ⟨rfl, rfl⟩ := h
      go_wp2
      go_ret2
      exact ⟨_, rfl, Kd.S_mono HO.out (fun _ _ => trivial), HB.out⟩
def hp.f (k : Nat) (l0 l1 : List Int) : Option (List S43 × Bool) := (impl_IsHydra.f k l0).bind fun t => if t = true ∧ l1.length ≤ 60 ∧ ∀ x ∈ l1, 0 ≤ x ∧ x ≤ 99 then (if l0.length < 17592186044416 then hp.go k l1 0 l0 [⟨l0⟩] else none) else some ([], false)
set_option maxHeartbeats 1000000 in
set_option maxRecDepth 100000 in
theorem hp.calls (k : Nat) (A0 : Option Addr) (c0 : Nat) (l0 : List Int) (A1 : Option Addr) (c1 : Nat) (l1 : List Int) (r1 : List S43) (r2 : Bool) (w : World) (hr0 : Kd.C (Kd.int .i64) w A0 l0.length l0) (hc0 : l0.length ≤ c0) (hr1 : Kd.C (Kd.int .i64) w A1 l1.length l1) (hc1 : l1.length ≤ c1) (h : hp.f k l0 l1 = some (r1, r2)) :
    Calls Try.prog 32 #[.agg #[.slice A0 l0.length c0], .slice A1 l1.length c1] w fun e w' => ∃ v : Value, e = .returned (.tuple #[v, .bool r2]) ∧ Kd.S k43 43 w' w.heap.size (fun _ => True) v r1 ∧ Below w.heap.size w w' := by
  unfold hp.f at h
  obtain ⟨t, hIs, h⟩ := Option.bind_eq_some_iff.mp h
  by_cases hc : t = true ∧ l1.length ≤ 60 ∧ ∀ x ∈ l1, 0 ≤ x ∧ x ≤ 99
  · rw [if_pos hc] at h
    obtain ⟨rfl, h60, hall⟩ := hc
    by_cases hs : l0.length < 17592186044416
    · rw [if_pos hs] at h
      exact hp.run k A0 c0 l0 A1 c1 l1 r1 r2 w hr0 hc0 hr1 hc1 hIs h60 hall hs h
    · rw [if_neg hs] at h
      cases h
  · rw [if_neg hc] at h
    simp only [Option.some.injEq, Prod.mk.injEq] at h
    obtain ⟨rfl, rfl⟩ := h
    have HIS := Aside0.mk (fun (W : World) (hb : Below w.heap.size w W) => impl_IsHydra.calls k A0 c0 l0 t W (Kd.C_below hr0 hb) hc0 hIs)
    have HCF := fun (W : World) (hb : Below w.heap.size w W) => hp.containsFunc 62 #[] (fun args w => enters_ Try.func62 rfl rfl args w) (fun x => !decide (0 ≤ x ∧ x ≤ 99)) l1 A1 c1 W (Kd.C_below hr1 hb) (fun W' x _ => hp.out_ x W')
    have HB := Aside0.mk (Below.refl w.heap.size w)
    clear hIs
    cases t with
    | false =>
      clear HCF hc hr0 hr1
      go_enter Try.func32, Try.ntmps32
      go_wp2_with (first
        | (go_at_call 55; refine (HIS.out _ (by repeat (first | (with_reducible first | exact HB.out | apply below_alloc | apply pw_below_drewN | apply below_drew1) | exact HB.out))).mono ?_; rintro e w2 ⟨rfl, hb⟩; have n0_ := Aside0.mk (below_step (by repeat (first | (with_reducible first | exact HB.out | apply below_alloc | apply pw_below_drewN | apply below_drew1) | exact HB.out)) hb); clear HB; have HB := n0_; clear n0_ hb))
      go_ret2
      exact ⟨_, rfl, Kd.S_nil _ _ _ _ _, HB.out⟩
    | true =>
      by_cases h60 : l1.length ≤ 60
      · have q60 : ¬ (60 : Int) < (l1.length : Int) := by omega
        have hany : l1.any (fun x => !decide (0 ≤ x ∧ x ≤ 99)) = true := by
          rw [List.any_eq_true]
          refine Classical.byContradiction (fun hn => hc ⟨rfl, h60, fun x hx => Classical.byContradiction (fun hx2 => hn ⟨x, hx, by simp only [decide_eq_false hx2, Bool.not_false]⟩)⟩)
        rw [hany] at HCF
        have HCF := Aside0.mk HCF
        clear hany hc hr0 hr1
        go_enter Try.func32, Try.ntmps32
        go_wp2_with (first
          | (go_at_call 55; refine (HIS.out _ (by repeat (first | (with_reducible first | exact HB.out | apply below_alloc | apply pw_below_drewN | apply below_drew1) | exact HB.out))).mono ?_; rintro e w2 ⟨rfl, hb⟩; have n0_ := Aside0.mk (below_step (by repeat (first | (with_reducible first | exact HB.out | apply below_alloc | apply pw_below_drewN | apply below_drew1) | exact HB.out)) hb); clear HB; have HB := n0_; clear n0_ hb)
          | (go_at_call 61; refine (HCF.out _ (by repeat (first | (with_reducible first | exact HB.out | apply below_alloc | apply pw_below_drewN | apply below_drew1) | exact HB.out))).mono ?_; rintro e w3 ⟨rfl, hb⟩; have n0_ := Aside0.mk (below_step (by repeat (first | (with_reducible first | exact HB.out | apply below_alloc | apply pw_below_drewN | apply below_drew1) | exact HB.out)) hb); clear HB; have HB := n0_; clear n0_ hb))
        go_ret2
        exact ⟨_, rfl, Kd.S_nil _ _ _ _ _, HB.out⟩
      · have q60 : (60 : Int) < (l1.length : Int) := by omega
        clear HCF hc hr0 hr1
        go_enter Try.func32, Try.ntmps32
        go_wp2_with (first
          | (go_at_call 55; refine (HIS.out _ (by repeat (first | (with_reducible first | exact HB.out | apply below_alloc | apply pw_below_drewN | apply below_drew1) | exact HB.out))).mono ?_; rintro e w2 ⟨rfl, hb⟩; have n0_ := Aside0.mk (below_step (by repeat (first | (with_reducible first | exact HB.out | apply below_alloc | apply pw_below_drewN | apply below_drew1) | exact HB.out)) hb); clear HB; have HB := n0_; clear n0_ hb))
        go_ret2
        exact ⟨_, rfl, Kd.S_nil _ _ _ _ _, HB.out⟩
/-! ### rows within bounds of blocks -/
def Iv (lo hi : Nat) (b : Nat) : Prop := lo ≤ b ∧ b < hi
theorem Iv.apart {lo hi a b k : Nat} (h : Iv lo hi k) (hd : hi ≤ a ∨ b ≤ lo) : ¬ Iv a b k := fun h2 => by
  have h3 : lo ≤ k ∧ k < hi := h
  have h4 : a ≤ k ∧ k < b := h2
  omega
def OwnI (w : World) (lo hi : Nat) (v : Value) (xs : List Int) : Prop := hi ≤ w.heap.size ∧ Kd.R (Kd.int .i64) 3 w lo (Iv lo hi) v xs
theorem OwnI.of {W w : World} {v : Value} {xs : List Int} (h : Kd.R (Kd.int .i64) 3 w W.heap.size (fun _ => True) v xs) : OwnI w W.heap.size w.heap.size v xs := ⟨Nat.le_refl _, Kd.R_mono (Kd.R_bound h) (fun k hk => ⟨hk.2.1, hk.2.2.1⟩)⟩
theorem OwnI.below {w w1 : World} {lo hi : Nat} {v : Value} {xs : List Int} (h : OwnI w lo hi v xs) (hb : Below w.heap.size w w1) : OwnI w1 lo hi v xs := ⟨Nat.le_trans h.1 hb.size, Kd.R_below h.2 hb⟩
theorem OwnI.kept {w w1 : World} {lo hi a b : Nat} {v : Value} {xs : List Int} (h : OwnI w lo hi v xs) (hk : Kept w w1 (Iv a b)) (hd : hi ≤ a ∨ b ≤ lo) : OwnI w1 lo hi v xs :=
  ⟨Nat.le_trans h.1 hk.1, Kd.R_step h.2 (fun k ho hl => hk.2 k hl (Iv.apart ho hd))⟩
theorem OwnI.reads {w : World} {lo hi n c : Nat} {A : Option Addr} {xs : List Int} (h : OwnI w lo hi (.slice A n c) xs) : n = xs.length ∧ n ≤ c ∧ Kd.C (Kd.int .i64) w A xs.length xs := Kd.R_reads' h.2
theorem OwnI.form {w : World} {lo hi : Nat} {v : Value} {xs : List Int} (h : OwnI w lo hi v xs) : ∃ A c, v = .slice A xs.length c ∧ xs.length ≤ c := by
  obtain ⟨A, c, e, hc, _⟩ := Kd.R_reads h.2
  exact ⟨A, c, e, hc⟩
def OwnG (w : World) (lo hi : Nat) (v : Value) (xs : List S43) : Prop := hi ≤ w.heap.size ∧ Kd.S k43 43 w lo (Iv lo hi) v xs
theorem OwnG.of {W w : World} {v : Value} {xs : List S43} (h : Kd.S k43 43 w W.heap.size (fun _ => True) v xs) : OwnG w W.heap.size w.heap.size v xs := ⟨Nat.le_refl _, Kd.S_mono (Kd.S_bound h) (fun k hk => ⟨hk.2.1, hk.2.2.1⟩)⟩
theorem OwnG.below {w w1 : World} {lo hi : Nat} {v : Value} {xs : List S43} (h : OwnG w lo hi v xs) (hb : Below w.heap.size w w1) : OwnG w1 lo hi v xs := ⟨Nat.le_trans h.1 hb.size, Kd.S_below h.2 hb⟩
theorem OwnG.kept {w w1 : World} {lo hi a b : Nat} {v : Value} {xs : List S43} (h : OwnG w lo hi v xs) (hk : Kept w w1 (Iv a b)) (hd : hi ≤ a ∨ b ≤ lo) : OwnG w1 lo hi v xs :=
  ⟨Nat.le_trans h.1 hk.1, Kd.S_step h.2 (fun k ho hl => hk.2 k hl (Iv.apart ho hd))⟩
theorem OwnG.reads {w : World} {lo hi n c : Nat} {A : Option Addr} {xs : List S43} (h : OwnG w lo hi (.slice A n c) xs) : n = xs.length ∧ n ≤ c ∧ Kd.C k43 w A xs.length xs := Kd.S_reads' h.2
theorem OwnG.form {w : World} {lo hi : Nat} {v : Value} {xs : List S43} (h : OwnG w lo hi v xs) : ∃ A c, v = .slice A xs.length c ∧ xs.length ≤ c := by
  obtain ⟨A, c, e, hc, _⟩ := Kd.S_reads h.2
  exact ⟨A, c, e, hc⟩
def RdH (w : World) (lo hi : Nat) (v : Value) (xs : List S43) : Prop := hi ≤ w.heap.size ∧ Kd.V k43 43 w 0 (Iv lo hi) v xs
theorem RdH.of {W w : World} {lo hi : Nat} {v : Value} {xs : List S43} (h : Kd.N k43 43 w W.heap.size (fun k => Iv lo hi k ∨ W.heap.size ≤ k) v xs) (hl : lo ≤ W.heap.size) (hhi : hi ≤ W.heap.size) (hs : W.heap.size ≤ w.heap.size) : RdH w lo w.heap.size v xs := by
  obtain ⟨A, c, rfl, hc, _⟩ := Kd.N_reads h
  have h2 := Kd.N_mono (ok' := Iv lo w.heap.size) (Kd.N_bound h) (fun k hk => ⟨by
    rcases hk.1 with h3 | h3
    · exact h3.1
    · omega, hk.2⟩)
  exact ⟨Nat.le_refl _, Kd.V_mk hc (Kd.N_F h2)⟩
theorem RdH.below {w w1 : World} {lo hi : Nat} {v : Value} {xs : List S43} (h : RdH w lo hi v xs) (hb : Below w.heap.size w w1) : RdH w1 lo hi v xs := ⟨Nat.le_trans h.1 hb.size, Kd.V_below h.2 hb⟩
theorem RdH.kept {w w1 : World} {lo hi a b : Nat} {v : Value} {xs : List S43} (h : RdH w lo hi v xs) (hk : Kept w w1 (Iv a b)) (hd : hi ≤ a ∨ b ≤ lo) : RdH w1 lo hi v xs :=
  ⟨Nat.le_trans h.1 hk.1, Kd.V_step h.2 (fun k ho hl => hk.2 k hl (Iv.apart ho hd))⟩
theorem RdH.reads {w : World} {lo hi n c : Nat} {A : Option Addr} {xs : List S43} (h : RdH w lo hi (.slice A n c) xs) : n = xs.length ∧ n ≤ c ∧ Kd.C k43 w A xs.length xs := Kd.V_reads' h.2
theorem RdH.form {w : World} {lo hi : Nat} {v : Value} {xs : List S43} (h : RdH w lo hi v xs) : ∃ A c, v = .slice A xs.length c ∧ xs.length ≤ c := by
  obtain ⟨A, c, e, hc, _⟩ := h.2
  exact ⟨A, c, e, hc⟩
theorem int_raise {w : World} {b lo : Nat} {ok : Nat → Prop} {v : Value} {ys : List Int} (h : (Kd.int .i64).R 3 w b ok v ys) (hb : ∀ k, v.ownBlock = some k → lo ≤ k) : (Kd.int .i64).R 3 w lo ok v ys := by
  obtain ⟨h0, inner, ho, hr⟩ := h
  refine ⟨h0, inner, ⟨ho.1, ?_⟩, hr⟩
  rcases ho.2 with h2 | ⟨g, cap, cur, hv, hg, r⟩
  · exact .inl h2
  · exact .inr ⟨g, cap, cur, hv, hb g (by rw [hv]; rfl), r⟩
theorem Kept.more {w W W2 : World} {S S2 : Nat → Prop} (h : Kept w W S) (k : Kept W W2 S2) (hs : ∀ b, S2 b → S b) : Kept w W2 S := h.then_ k (fun b hb => .inl (hs b hb))
/-- A row is marked. -/
theorem hp.markI (k : Nat) (lo hi : Nat) (v : Value) (l : List Int) (a1 r1 : Int) (r2 : List Int) (w0 w : World) (hB : Below w0.heap.size w0 w) (h0 : w0.heap.size ≤ lo) (ho : OwnI w lo hi v l) (h : laws_markIntS.f k l a1 = some (r1, r2)) :
    Calls Try.prog 19 #[v, .int .i64 a1] w fun e w' => e = .returned (.int .i64 r1) ∧ Below w0.heap.size w0 w' ∧ Kept w w' (Iv lo hi) :=
  (laws_markIntS.calls k (Iv lo hi) v l a1 r1 r2 w0 w hB (Kd.R_lower ho.2 h0) h).mono (fun e w' hh => ⟨hh.1, hh.2.2.1, hh.2.2.2⟩)
theorem hp.markH (k : Nat) (lo hi : Nat) (v : Value) (l : List Int) (a1 r1 : Int) (r2 : List Int) (w0 w : World) (hB : Below w0.heap.size w0 w) (h0 : w0.heap.size ≤ lo) (ho : OwnI w lo hi v l) (h : laws_markHydra.f k l a1 = some (r1, r2)) :
    Calls Try.prog 28 #[.agg #[v], .int .i64 a1] w fun e w' => e = .returned (.int .i64 r1) ∧ Below w0.heap.size w0 w' ∧ Kept w w' (Iv lo hi) :=
  (laws_markHydra.calls k (Iv lo hi) v l a1 r1 r2 w0 w hB (Kd.R_lower ho.2 h0) h).mono (fun e w' hh => ⟨hh.1, hh.2.2.1, hh.2.2.2⟩)
def hp.mark (k : Nat) : List S43 → Int → Option (Int × List S43)
  | [], a => some (a, [])
  | p :: ps, a => (laws_markIntS.f k p.f0 a).bind fun x => (hp.mark k ps x.1).bind fun z => some (z.1, ⟨x.2⟩ :: z.2)
set_option maxHeartbeats 4000000 in
set_option maxRecDepth 100000 in
theorem hp.markS (k : Nat) (lo hi : Nat) (v : Value) (l : List S43) (a1 r1 : Int) (r2 : List S43) (w0 w : World) (hB : Below w0.heap.size w0 w) (h0 : w0.heap.size ≤ lo) (ho : OwnG w lo hi v l) (h : hp.mark k l a1 = some (r1, r2)) :
    Calls Try.prog 34 #[v, .int .i64 a1] w fun e w' => e = .returned (.int .i64 r1) ∧ OwnG w' lo hi v r2 ∧ Below w0.heap.size w0 w' ∧ Kept w w' (Iv lo hi) := by
  obtain ⟨A, c, rfl, hcap⟩ := ho.form
  have H0 := Aside0.mk h0
  have HB := Aside0.mk hB
  have HO := Aside0.mk ho
  have HF := Aside0.mk h
  have HK := Aside0.mk (Kept.refl w (Iv lo hi))
  have hbig : l.length ≤ 9223372036854775807 := ho.reads.2.2.2.1
  clear h0 hB ho h hcap
  go_enter Try.func34, Try.ntmps34
  go_wp2
  go_loopg [1, 5] l.length (fun kq v1 v5 w' => ∃ (D R R' : List S43) (x1 : Int), v1 = .int .i64 x1 ∧ v5 = .int .i64 (D.length : Int) ∧ Aside0 (hp.mark k R x1 = some (r1, R')) ∧ Aside0 (r2 = D ++ R') ∧ Aside0 (D.length + R.length = l.length ∧ R.length ≤ kq) ∧ Aside0 (OwnG w' lo hi (.slice A l.length c) (D ++ R)) ∧ Aside0 (Below w0.heap.size w0 w') ∧ Aside0 (Kept w w' (Iv lo hi)))
  case atStart => exact ⟨[], l, r2, a1, rfl, rfl, HF, ⟨rfl⟩, ⟨by simp⟩, HO, HB, HK⟩
  case round =>
    clear HB HO HF HK
    obtain ⟨D, R, R', x1, rfl, rfl, HF, HR, HL, HO, HB, HK⟩ := hrel
    cases R with
    | nil =>
      have hc : ¬ (D.length : Int) < (l.length : Int) := by have := HL.out; simp only [List.length_nil] at this; omega
      have H := HF.out
      clear HF
      simp only [hp.mark, Option.some.injEq, Prod.mk.injEq] at H
      obtain ⟨rfl, rfl⟩ := H
      go_wp2
      go_ret
      refine ⟨rfl, ?_, HB.out, HK.out⟩
      have h1 := HO.out
      rw [HR.out]
      exact h1
    | cons p ps =>
      have hlt : (D.length : Int) < (l.length : Int) := by have := HL.out; simp only [List.length_cons] at this; omega
      have hge : (0 : Int) ≤ (D.length : Int) := Int.natCast_nonneg _
      have H := HF.out
      clear HF
      simp only [hp.mark] at H
      obtain ⟨⟨y1, ys⟩, A1, H⟩ := Option.bind_eq_some_iff.mp H
      obtain ⟨⟨q1, qs⟩, A3, H⟩ := Option.bind_eq_some_iff.mp H
      simp only [Option.some.injEq, Prod.mk.injEq] at H
      obtain ⟨rfl, rfl⟩ := H
      have HA1 := Aside0.mk A1
      have HA3 := Aside0.mk A3
      clear A1 A3
      obtain ⟨g, cap, ev, hlg, hgs, hcells⟩ := Kd.S_form HO.out.2 (by have := HL.out; simp only [List.length_append, List.length_cons] at this ⊢; omega)
      injection ev with ea en ec
      subst ea ec
      clear en hcells
      obtain ⟨oki, cs, hcl, hM, hcc, hfr, hoki, hH⟩ := Kd.S_elem HO.out.2 z43 (D.length : Int) hge hlt
      obtain ⟨v0, rfl, hr0⟩ := k43_openM hM
      have hpe : (D ++ p :: ps).getD (D.length : Int).toNat z43 = p := by
        rw [Int.toNat_natCast]
        simp [List.getD_eq_getElem?_getD]
      rw [hpe] at hr0
      have hx0 : wr.cell? ⟨g, D.length, none⟩ = some v0 := by
        have h5 := hcc 0 _ rfl
        rw [Int.toNat_natCast, show k43.sz = 1 from rfl, Nat.mul_one, Nat.add_zero] at h5
        exact h5
      obtain ⟨Ac0, cc0, ev0⟩ := Kd.R_slice hr0
      subst ev0
      have H0R := Aside0.mk hr0
      have HHo := Aside0.mk hH
      have HOK := Aside0.mk hoki
      have HHI := Aside0.mk HO.out.1
      clear hM hr0 hcc hfr hH hoki hcl hpe HO
      generalize hD : D.length = dl at hlt hge hx0 HHo HL ⊢
      go_wp2_with (first
        | (go_at_call 19; refine (laws_markIntS.calls k (fun b => some b = (Value.slice Ac0 p.f0.length cc0).ownBlock) (.slice Ac0 p.f0.length cc0) p.f0 x1 y1 ys w0 _ HB.out (Kd.R_lower (Kd.R_tight rfl H0R.out) H0.out) HA1.out).mono ?_; rintro e wa ⟨rfl, hr, hb, hk⟩; have hP : ∀ b, some b = (Value.slice Ac0 p.f0.length cc0).ownBlock → oki b := fun b hb => H0R.out.1 b hb.symm; have n0_ := Aside0.mk (Kd.H_step HHo.out (fun b hb hn hl => hk.2 b hl (fun he => hn (hP b he)))); have n1_ := Aside0.mk (Kd.R_mono (Kd.R_tight rfl (int_raise hr (fun b hb => Kd.R_base H0R.out b hb))) (fun b hb => H0R.out.1 b hb.symm)); have n3_ := Aside0.mk hb; have n4_ := Aside0.mk (Kept.more HK.out hk (fun b hb => (HOK.out b (hP b hb)).1)); have n5_ := Aside0.mk (Nat.le_trans HHI.out hk.1); clear hx0; clear HHo H0R HB HK HHI; have HHo := n0_; have H0R := n1_; have HB := n3_; have HK := n4_; have HHI := n5_; clear n0_ n1_ n3_ n4_ n5_ hr hb hk hP))
      go_roundg ps.length
      case measure => have := HL.out; simp only [List.length_cons] at this; omega
      case rel =>
        refine ⟨D ++ [⟨ys⟩], ps, qs, _, rfl, ?_, HA3, ⟨?_⟩, ⟨?_⟩, ⟨HHI.out, ?_⟩, HB, HK⟩
        · refine congrArg (Value.int .i64) ?_
          rw [List.length_append, hD]
          rfl
        · rw [HR.out, List.append_assoc]
          rfl
        · have := HL.out
          simp only [List.length_append, List.length_cons, List.length_nil] at this ⊢
          omega
        · have hb := Kd.H_back HHo.out (x' := (⟨ys⟩ : S43)) (k43_mkM _ _ _ _ H0R.out) (fun _ h => h)
          have e : (D ++ p :: ps).set (dl : Int).toNat (⟨ys⟩ : S43) = (D ++ [⟨ys⟩]) ++ ps := by
            rw [Int.toNat_natCast, ← hD, List.set_append_right _ _ (Nat.le_refl _)]
            simp
          rw [e] at hb
          exact hb
def hp.l13.T : Bool × List (List Nat × List Nat) := (true, [([], []), ([], []), ([1], [1]), ([0, 2, 2], [0, 2]), ([3], [3])])
def hp.l13.B : List Nat := [0, 0, 2, 7, 15]
theorem hp.l13.tab : rtab .any (opsOf Try.f8 13) = hp.l13.T := by kernel_rfl
theorem hp.l13.bits : waitsOk hp.l13.T.2 hp.l13.B = true := by kernel_rfl
theorem hp.heldA (k : Nat) (A : Option Addr) (n c : Nat) (l : List S43) (a r : Int) (w : World) (lo hi : Nat) (h : OwnG w lo hi (.slice A n c) l) (hf : laws_heldHydraS.f k l a = some r) :
    Calls Try.prog 35 #[.slice A n c, .int .i64 a] w fun e w' => e = .returned (.int .i64 r) ∧ Below w.heap.size w w' := by
  obtain ⟨e, hc, hr⟩ := h.reads
  subst e
  exact (laws_heldHydraS.calls k A c l a r w hr hc hf).mono (fun e w' h => ⟨h.1, h.2.below⟩)
def laws_FnExactPlayHydra.f (k : Nat) (l0 l1 : List Int) : Option Bool := if 1048576 < (l1.length : Int) then some true else (laws_szHydra.f l0 1048576).bind fun t => if t < 0 then some true else (laws_toHydra.f k l0).bind fun L => (laws_toIntS.f k l1).bind fun C => (spec_PlayHydra.f k L C).bind fun s => (hp.f k L C).bind fun g => (laws_eqHydraS.f k g.1 s.1).bind fun e1 => (laws_eqHydra.f k L L).bind fun e2 => (laws_eqIntS.f k C C).bind fun e3 => (laws_markHydra.f k L 1).bind fun m0 => (laws_markIntS.f k C m0.1).bind fun m1 => (hp.mark k g.1 1).bind fun m2 => (laws_heldHydraS.f k m2.2 1).bind fun q => some (e1 && (e2 && (e3 && (decide (g.2 = s.2) && (decide (0 ≤ m1.1) && (decide (0 ≤ q) && decide (q = m2.1)))))))
set_option maxHeartbeats 8000000 in
set_option maxRecDepth 100000 in
theorem hp.law (k : Nat) (A0 : Option Addr) (c0 : Nat) (l0 : List Int) (A1 : Option Addr) (c1 : Nat) (l1 : List Int) (r : Bool) (hr_ : Aside0 (r = true)) (w : World) (hr0_0 : Kd.C (Kd.int .i64) w A0 l0.length l0) (hc0_0 : l0.length ≤ c0) (hr1 : Kd.C (Kd.int .i64) w A1 l1.length l1) (hc1 : l1.length ≤ c1) (h : laws_FnExactPlayHydra.f k l0 l1 = some r) :
    Calls Try.prog 8 #[.agg #[.slice A0 l0.length c0], .slice A1 l1.length c1] w fun e w' => e = .returned (.bool r) ∧ Below w.heap.size w w' := by
  have hz43 : ∀ w, (zeroValue 43).run Try.prog w = .ok (.agg #[.slice none 0 0]) w := fun w => by kernel_rfl
  have HR0 := Aside0.mk hr0_0
  have HC0 := Aside0.mk hc0_0
  have HR1 := Aside0.mk hr1
  have HC1 := Aside0.mk hc1
  clear hr0_0 hc0_0 hr1 hc1
  have HB := Aside0.mk (Below.refl w.heap.size w)
  obtain rfl := hr_.out
  unfold laws_FnExactPlayHydra.f at h
  by_cases c60 : (1048576 : Int) < (l1.length : Int)
  · clear h
    go_enter Try.func8, Try.ntmps8
    go_wp2
    go_ret
    exact ⟨rfl, below_alloc HB.out _⟩
  · rw [if_neg c60] at h
    obtain ⟨t0, A_, h⟩ := Option.bind_eq_some_iff.mp h
    have A_sz := Aside0.mk A_
    clear A_
    by_cases c0_ : t0 < 0
    · have c1_ : decide (t0 < 0) = true := decide_eq_true c0_
      clear h
      go_enter Try.func8, Try.ntmps8
      go_wp2_with (first
      | ((with_reducible refine gate_callee (f := 23) rfl ?_); refine goesL_ (some 22) rfl rfl Try.func23 (by kernel_rfl) rfl #[.agg #[.slice A0 l0.length c0], .int .i64 1048576] rfl (by (try simp only [List.map_toArray, List.map_cons, List.map_nil]); first | done | rfl) ?_; refine (laws_szHydra.calls _ _ l0 1048576 t0 _ (Kd.C_below HR0.out (by repeat (first | (with_reducible first | exact HB.out | apply below_alloc | apply pw_below_drewN | apply below_drew1) | exact HB.out))) HC0.out A_sz.out).mono ?_; rintro e wz1 ⟨rfl, hb⟩; refine ⟨_, rfl, ?_⟩; have HX2 := Aside0.mk (blk_below (heap_alloc_new w (.cells #[.slice A0 l0.length c0] 41)) hb); have nB_ := Aside0.mk (below_step (by repeat (first | (with_reducible first | exact HB.out | apply below_alloc | apply pw_below_drewN | apply below_drew1) | exact HB.out)) hb); clear HB; have HB := nB_; clear nB_; clear hb; have xHX2_ := (blk_cell HX2.out 0).trans rfl))
      go_ret
      exact ⟨rfl, HB.out⟩
    · have c1_ : decide (t0 < 0) = false := decide_eq_false c0_
      rw [if_neg c0_] at h
      obtain ⟨L, A_, h⟩ := Option.bind_eq_some_iff.mp h
      have A_to := Aside0.mk A_
      clear A_
      obtain ⟨C, A_, h⟩ := Option.bind_eq_some_iff.mp h
      have A_ti := Aside0.mk A_
      clear A_
      obtain ⟨⟨s1, sb⟩, A_, h⟩ := Option.bind_eq_some_iff.mp h
      have A_sp := Aside0.mk A_
      clear A_
      obtain ⟨⟨g1, gb⟩, A_, h⟩ := Option.bind_eq_some_iff.mp h
      have A_im := Aside0.mk A_
      clear A_
      obtain ⟨e1, A_, h⟩ := Option.bind_eq_some_iff.mp h
      have A_e1 := Aside0.mk A_
      clear A_
      obtain ⟨e2, A_, h⟩ := Option.bind_eq_some_iff.mp h
      have A_e2 := Aside0.mk A_
      clear A_
      obtain ⟨e3, A_, h⟩ := Option.bind_eq_some_iff.mp h
      have A_e3 := Aside0.mk A_
      clear A_
      obtain ⟨⟨m0, lm0⟩, A_, h⟩ := Option.bind_eq_some_iff.mp h
      have A_k0 := Aside0.mk A_
      clear A_
      obtain ⟨⟨m1, lm1⟩, A_, h⟩ := Option.bind_eq_some_iff.mp h
      have A_k1 := Aside0.mk A_
      clear A_
      obtain ⟨⟨m2, lm2⟩, A_, h⟩ := Option.bind_eq_some_iff.mp h
      have A_k2 := Aside0.mk A_
      clear A_
      obtain ⟨q, A_, h⟩ := Option.bind_eq_some_iff.mp h
      have A_h := Aside0.mk A_
      clear A_
      simp only [Option.some.injEq, Bool.and_eq_true, decide_eq_true_eq] at h
      obtain ⟨rfl, rfl, rfl, rfl, hm1, hq0, rfl⟩ := h
      have d0_ : decide (m1 < 0) = false := decide_eq_false (by omega)
      have d1_ : decide (q < 0) = false := decide_eq_false (by omega)
      clear hm1 hq0
      go_enter Try.func8, Try.ntmps8
      go_upto_region 9 with (first
      | ((with_reducible refine gate_callee (f := 23) rfl ?_); refine goesL_ (some 22) rfl rfl Try.func23 (by kernel_rfl) rfl #[.agg #[.slice A0 l0.length c0], .int .i64 1048576] rfl (by (try simp only [List.map_toArray, List.map_cons, List.map_nil]); first | done | rfl) ?_; refine (laws_szHydra.calls _ _ l0 1048576 t0 _ (Kd.C_below HR0.out (by repeat (first | (with_reducible first | exact HB.out | apply below_alloc | apply pw_below_drewN | apply below_drew1) | exact HB.out))) HC0.out A_sz.out).mono ?_; rintro e wz1 ⟨rfl, hb⟩; refine ⟨_, rfl, ?_⟩; have HX2 := Aside0.mk (blk_below (heap_alloc_new w (.cells #[.slice A0 l0.length c0] 41)) hb); have nB_ := Aside0.mk (below_step (by repeat (first | (with_reducible first | exact HB.out | apply below_alloc | apply pw_below_drewN | apply below_drew1) | exact HB.out)) hb); clear HB; have HB := nB_; clear nB_; clear hb; have xHX2_ := (blk_cell HX2.out 0).trans rfl)
      | ((with_reducible refine gate_callee (f := 25) rfl ?_); refine goesL_ (some 27) rfl rfl Try.func25 (by kernel_rfl) rfl #[.agg #[.slice A0 l0.length c0]] rfl (by (try simp only [List.map_toArray, List.map_cons, List.map_nil]); first | done | rfl) ?_; refine (laws_toHydra.calls k _ _ l0 L _ (Kd.C_below HR0.out HB.out) HC0.out A_to.out).mono ?_; rintro e wz2 ⟨v, rfl, hs, hb⟩; refine ⟨_, rfl, ?_⟩; have LTT1 := Aside0.mk hb.size; (try clear xHX2_); have HLT1 := Aside0.mk HB.out.size; have LHX2_T1 := Aside0.mk (blk_lt HX2.out); have nHX2_ := Aside0.mk (blk_below HX2.out hb); clear HX2; have HX2 := nHX2_; clear nHX2_; have nB_ := Aside0.mk (below_step (by repeat (first | (with_reducible first | exact HB.out | apply below_alloc | apply pw_below_drewN | apply below_drew1) | exact HB.out)) hb); clear HB; have HB := nB_; clear nB_; have RT1 := Aside0.mk (OwnI.of hs); obtain ⟨AT1, cT1, rfl, hc_⟩ := RT1.out.form; clear hc_; have xHX2_ := (blk_cell HX2.out 0).trans rfl; clear hs hb)
      | ((with_reducible refine gate_callee (f := 31) rfl ?_); refine goesL_ (some 29) rfl rfl Try.func31 (by kernel_rfl) rfl #[.slice A1 l1.length c1] rfl (by (try simp only [List.map_toArray, List.map_cons, List.map_nil]); first | done | rfl) ?_; refine (laws_toIntS.calls k _ _ l1 C _ (Kd.C_below HR1.out HB.out) HC1.out A_ti.out).mono ?_; rintro e wz3 ⟨v, rfl, hs, hb⟩; refine ⟨_, rfl, ?_⟩; (try clear xHX2_); have DT1_T2 := Aside0.mk RT1.out.1; have HLT2 := Aside0.mk HB.out.size; have LHX2_T2 := Aside0.mk (blk_lt HX2.out); have nHX2_ := Aside0.mk (blk_below HX2.out hb); have nRT1_ := Aside0.mk (OwnI.below RT1.out hb); clear HX2 RT1; have HX2 := nHX2_; have RT1 := nRT1_; clear nHX2_ nRT1_; have nB_ := Aside0.mk (below_step (by repeat (first | (with_reducible first | exact HB.out | apply below_alloc | apply pw_below_drewN | apply below_drew1) | exact HB.out)) hb); clear HB; have HB := nB_; clear nB_; have RT2 := Aside0.mk (OwnI.of hs); obtain ⟨AT2, cT2, rfl, hc_⟩ := RT2.out.form; clear hc_; have xHX2_ := (blk_cell HX2.out 0).trans rfl; clear hs hb)
      | ((with_reducible refine gate_callee (f := 30) rfl ?_); refine goesL_ (some 30) rfl rfl Try.func30 (by kernel_rfl) rfl #[.agg #[.slice AT1 L.length cT1], .slice AT2 C.length cT2] rfl (by (try simp only [List.map_toArray, List.map_cons, List.map_nil]); first | done | rfl) ?_; refine (spec_PlayHydra.calls k _ _ _ L _ _ C s1 gb _ (Kd.R_V RT1.out.2) RT2.out.reads.2.2 RT2.out.reads.2.1 A_sp.out).mono ?_; rintro e wz4 ⟨v, rfl, hs, hb⟩; refine ⟨_, rfl, ?_⟩; have RN_ := RdH.of hs (Nat.le_trans LTT1.out RT1.out.1) RT1.out.1 hb.size; (try clear xHX2_); have DT1_Sp := Aside0.mk RT1.out.1; have DT2_Sp := Aside0.mk RT2.out.1; have HLSp := Aside0.mk HB.out.size; have LHX2_Sp := Aside0.mk (blk_lt HX2.out); have nHX2_ := Aside0.mk (blk_below HX2.out hb); have nRT1_ := Aside0.mk (OwnI.below RT1.out hb); have nRT2_ := Aside0.mk (OwnI.below RT2.out hb); clear HX2 RT1 RT2; have HX2 := nHX2_; have RT1 := nRT1_; have RT2 := nRT2_; clear nHX2_ nRT1_ nRT2_; have nB_ := Aside0.mk (below_step (by repeat (first | (with_reducible first | exact HB.out | apply below_alloc | apply pw_below_drewN | apply below_drew1) | exact HB.out)) hb); clear HB; have HB := nB_; clear nB_; have RSp := Aside0.mk (RN_); obtain ⟨ASp, cSp, rfl, hc_⟩ := RSp.out.form; clear hc_; have xHX2_ := (blk_cell HX2.out 0).trans rfl; clear hs hb; clear RN_; clear RT1 RT2)
      | ((with_reducible refine gate_callee (f := 25) rfl ?_); refine goesL_ (some 34) rfl rfl Try.func25 (by kernel_rfl) rfl #[.agg #[.slice A0 l0.length c0]] rfl (by (try simp only [List.map_toArray, List.map_cons, List.map_nil]); first | done | rfl) ?_; refine (laws_toHydra.calls k _ _ l0 L _ (Kd.C_below HR0.out HB.out) HC0.out A_to.out).mono ?_; rintro e wz5 ⟨v, rfl, hs, hb⟩; refine ⟨_, rfl, ?_⟩; have LTX0 := Aside0.mk hb.size; (try clear xHX2_); have DSp_X0 := Aside0.mk RSp.out.1; have HLX0 := Aside0.mk HB.out.size; have LHX2_X0 := Aside0.mk (blk_lt HX2.out); have nHX2_ := Aside0.mk (blk_below HX2.out hb); have nRSp_ := Aside0.mk (RdH.below RSp.out hb); clear HX2 RSp; have HX2 := nHX2_; have RSp := nRSp_; clear nHX2_ nRSp_; have nB_ := Aside0.mk (below_step (by repeat (first | (with_reducible first | exact HB.out | apply below_alloc | apply pw_below_drewN | apply below_drew1) | exact HB.out)) hb); clear HB; have HB := nB_; clear nB_; have RX0 := Aside0.mk (OwnI.of hs); obtain ⟨AX0, cX0, rfl, hc_⟩ := RX0.out.form; clear hc_; have xHX2_ := (blk_cell HX2.out 0).trans rfl; clear hs hb)
      | ((with_reducible refine gate_dst (N := 8) rfl ?_); refine box_event ?hg8 (N := 8) ?hd8 (cs := #[.slice none 0 0]) (t := 43) ?hr8 ?_; (case hd8 => rfl); (case hg8 => rfl); (case hr8 => first | (go_simp; done) | (go_simp; rfl)); intro nb htb wb hbox hb; have HNB := Aside0.mk (show w.heap.size < nb by rw [htb]; exact blk_lt HX2.out); have HNC := Aside0.mk (show _ ≤ nb by rw [htb]; exact RX0.out.1); (try clear xHX2_); have nHX2_ := Aside0.mk (blk_below HX2.out hb); have nRSp_ := Aside0.mk (RdH.below RSp.out hb); have nRX0_ := Aside0.mk (OwnI.below RX0.out hb); clear HX2 RSp RX0; have HX2 := nHX2_; have RSp := nRSp_; have RX0 := nRX0_; clear nHX2_ nRSp_ nRX0_; have nB_ := Aside0.mk (below_step (by repeat (first | (with_reducible first | exact HB.out | apply below_alloc | apply pw_below_drewN | apply below_drew1) | exact HB.out)) hb); clear HB; have HB := nB_; clear nB_; have xHX2_ := (blk_cell HX2.out 0).trans rfl; have HX8 := Aside0.mk hbox; have y0_ := (blk_cell hbox 0).trans rfl; have y1_ := blk_frozen hbox 0; clear hb hbox htb))
      have HX9 := Aside0.mk (blk_put (cs := #[.slice none 0 0]) HX8.out 0 (.slice AX0 L.length cX0) rfl)
      have HB9 := Aside0.mk (below_set HB.out (Nat.le_of_lt HNB.out) (j := 0) (v := .slice AX0 L.length cX0))
      have hfar : ∀ k_, k_ ≠ nb → (wb.setCell ⟨nb, 0, none⟩ (.slice AX0 L.length cX0)).heap[k_]? = wb.heap[k_]? := fun k_ hk => Below.heap_setCell wb ⟨nb, 0, none⟩ _ k_ hk
      have nX2_ := Aside0.mk ((hfar _ (Nat.ne_of_lt HNB.out)).trans HX2.out)
      have hlt9 := HNC.out
      have nSp_ : Aside0 (RdH (wb.setCell ⟨nb, 0, none⟩ (.slice AX0 L.length cX0)) _ _ _ _) := ⟨⟨by rw [World.size_setCell]; exact RSp.out.1, Kd.V_step RSp.out.2 (fun k_ ho _ => hfar k_ (fun e => by have h1_ : _ ≤ _ ∧ _ < _ := ho; have h2_ := DSp_X0.out; have h3_ := LTX0.out; omega))⟩⟩
      have nX0_ : Aside0 (OwnI (wb.setCell ⟨nb, 0, none⟩ (.slice AX0 L.length cX0)) _ _ _ _) := ⟨⟨by rw [World.size_setCell]; exact RX0.out.1, Kd.R_step RX0.out.2 (fun k_ ho _ => hfar k_ (fun e => by have h1_ : _ ≤ _ ∧ _ < _ := ho; omega))⟩⟩
      generalize (wb.setCell ⟨nb, 0, none⟩ (.slice AX0 L.length cX0)) = w9 at HX9 HB9 nX2_ nSp_ nX0_ ⊢
      clear HX8 HB HX2 RSp RX0 y0_ y1_ xHX2_ hfar hlt9
      have HX8 := HX9
      have HB := HB9
      have HX2 := nX2_
      have RSp := nSp_
      have RX0 := nX0_
      clear HX9 HB9 nX2_ nSp_ nX0_
      have xHX2_ := (blk_cell HX2.out 0).trans rfl
      have xHX8_ := (blk_cell HX8.out 0).trans rfl
      go_wp2_with (first
      | ((with_reducible refine gate_callee (f := 31) rfl ?_); refine goesL_ (some 36) rfl rfl Try.func31 (by kernel_rfl) rfl #[.slice A1 l1.length c1] rfl (by (try simp only [List.map_toArray, List.map_cons, List.map_nil]); first | done | rfl) ?_; refine (laws_toIntS.calls k _ _ l1 C _ (Kd.C_below HR1.out HB.out) HC1.out A_ti.out).mono ?_; rintro e wz6 ⟨v, rfl, hs, hb⟩; refine ⟨_, rfl, ?_⟩; (try clear xHX2_ xHX8_); have DSp_X1 := Aside0.mk RSp.out.1; have DX0_X1 := Aside0.mk RX0.out.1; have HLX1 := Aside0.mk HB.out.size; have LHX2_X1 := Aside0.mk (blk_lt HX2.out); have LHX8_X1 := Aside0.mk (blk_lt HX8.out); have nHX2_ := Aside0.mk (blk_below HX2.out hb); have nHX8_ := Aside0.mk (blk_below HX8.out hb); have nRSp_ := Aside0.mk (RdH.below RSp.out hb); have nRX0_ := Aside0.mk (OwnI.below RX0.out hb); clear HX2 HX8 RSp RX0; have HX2 := nHX2_; have HX8 := nHX8_; have RSp := nRSp_; have RX0 := nRX0_; clear nHX2_ nHX8_ nRSp_ nRX0_; have nB_ := Aside0.mk (below_step (by repeat (first | (with_reducible first | exact HB.out | apply below_alloc | apply pw_below_drewN | apply below_drew1) | exact HB.out)) hb); clear HB; have HB := nB_; clear nB_; have RX1 := Aside0.mk (OwnI.of hs); obtain ⟨AX1, cX1, rfl, hc_⟩ := RX1.out.form; clear hc_; have xHX2_ := (blk_cell HX2.out 0).trans rfl; have xHX8_ := (blk_cell HX8.out 0).trans rfl; clear hs hb)
      | ((with_reducible refine gate_callee (f := 32) rfl ?_); refine goesL_ (some 40) rfl rfl Try.func32 (by kernel_rfl) rfl #[.agg #[.slice AX0 L.length cX0], .slice AX1 C.length cX1] rfl (by (try simp only [List.map_toArray, List.map_cons, List.map_nil]); first | done | rfl) ?_; refine (hp.calls k _ _ L _ _ C g1 gb _ RX0.out.reads.2.2 RX0.out.reads.2.1 RX1.out.reads.2.2 RX1.out.reads.2.1 A_im.out).mono ?_; rintro e wz7 ⟨v, rfl, hs, hb⟩; refine ⟨_, rfl, ?_⟩; (try clear xHX2_ xHX8_); have DSp_G := Aside0.mk RSp.out.1; have DX0_G := Aside0.mk RX0.out.1; have DX1_G := Aside0.mk RX1.out.1; have HLG := Aside0.mk HB.out.size; have LHX2_G := Aside0.mk (blk_lt HX2.out); have LHX8_G := Aside0.mk (blk_lt HX8.out); have nHX2_ := Aside0.mk (blk_below HX2.out hb); have nHX8_ := Aside0.mk (blk_below HX8.out hb); have nRSp_ := Aside0.mk (RdH.below RSp.out hb); have nRX0_ := Aside0.mk (OwnI.below RX0.out hb); have nRX1_ := Aside0.mk (OwnI.below RX1.out hb); clear HX2 HX8 RSp RX0 RX1; have HX2 := nHX2_; have HX8 := nHX8_; have RSp := nRSp_; have RX0 := nRX0_; have RX1 := nRX1_; clear nHX2_ nHX8_ nRSp_ nRX0_ nRX1_; have nB_ := Aside0.mk (below_step (by repeat (first | (with_reducible first | exact HB.out | apply below_alloc | apply pw_below_drewN | apply below_drew1) | exact HB.out)) hb); clear HB; have HB := nB_; clear nB_; have RG := Aside0.mk (OwnG.of hs); obtain ⟨AG, cG, rfl, hc_⟩ := RG.out.form; clear hc_; have xHX2_ := (blk_cell HX2.out 0).trans rfl; have xHX8_ := (blk_cell HX8.out 0).trans rfl; clear hs hb)
      | ((with_reducible refine gate_callee (f := 33) rfl ?_); refine goesL_ (some 45) rfl rfl Try.func33 (by kernel_rfl) rfl #[.slice AG g1.length cG, .slice ASp s1.length cSp] rfl (by (try simp only [List.map_toArray, List.map_cons, List.map_nil]); first | done | rfl) ?_; refine (laws_eqHydraS.calls k _ _ g1 _ _ s1 true _ RG.out.reads.2.2 RG.out.reads.2.1 RSp.out.reads.2.2 RSp.out.reads.2.1 A_e1.out).mono ?_; rintro e wz8 ⟨rfl, hb⟩; refine ⟨_, rfl, ?_⟩; (try clear xHX2_ xHX8_); have nHX2_ := Aside0.mk (blk_below HX2.out hb); have nHX8_ := Aside0.mk (blk_below HX8.out hb); have nRSp_ := Aside0.mk (RdH.below RSp.out hb); have nRX0_ := Aside0.mk (OwnI.below RX0.out hb); have nRX1_ := Aside0.mk (OwnI.below RX1.out hb); have nRG_ := Aside0.mk (OwnG.below RG.out hb); clear HX2 HX8 RSp RX0 RX1 RG; have HX2 := nHX2_; have HX8 := nHX8_; have RSp := nRSp_; have RX0 := nRX0_; have RX1 := nRX1_; have RG := nRG_; clear nHX2_ nHX8_ nRSp_ nRX0_ nRX1_ nRG_; have nB_ := Aside0.mk (below_step (by repeat (first | (with_reducible first | exact HB.out | apply below_alloc | apply pw_below_drewN | apply below_drew1) | exact HB.out)) hb); clear HB; have HB := nB_; clear nB_; have xHX2_ := (blk_cell HX2.out 0).trans rfl; have xHX8_ := (blk_cell HX8.out 0).trans rfl; clear hb))
      obtain ⟨wd, hwd⟩ : ∃ wd, wd = wz8.drew := ⟨_, rfl⟩
      have hb : Below wz8.heap.size wz8 wd := by rw [hwd]; exact below_drew1 (Below.refl _ _)
      (try clear xHX2_ xHX8_)
      have nHX2_ := Aside0.mk (blk_below HX2.out hb)
      have nHX8_ := Aside0.mk (blk_below HX8.out hb)
      have nRSp_ := Aside0.mk (RdH.below RSp.out hb)
      have nRX0_ := Aside0.mk (OwnI.below RX0.out hb)
      have nRX1_ := Aside0.mk (OwnI.below RX1.out hb)
      have nRG_ := Aside0.mk (OwnG.below RG.out hb)
      clear HX2 HX8 RSp RX0 RX1 RG
      have HX2 := nHX2_
      have HX8 := nHX8_
      have RSp := nRSp_
      have RX0 := nRX0_
      have RX1 := nRX1_
      have RG := nRG_
      clear nHX2_ nHX8_ nRSp_ nRX0_ nRX1_ nRG_
      have nB_ := Aside0.mk (below_step (by repeat (first | (with_reducible first | exact HB.out | apply below_alloc | apply pw_below_drewN | apply below_drew1) | exact HB.out)) hb)
      clear HB
      have HB := nB_
      clear nB_
      clear hb
      refine start_ (n := 5) (S := fun w' => w'.cell? ⟨nb, 0, none⟩ = some (.slice AX0 L.length cX0) ∧ w'.cell? ⟨w.heap.size, 0, none⟩ = some (.slice A0 l0.length c0)) (ds := [3]) #[false, false, false, false, false] (by kernel_rfl) rfl rfl ⟨by rw [← hwd]; exact (blk_cell HX8.out 0).trans rfl, by rw [← hwd]; exact (blk_cell HX2.out 0).trans rfl⟩ (fun hHeld => ?_)
      refine with_tabW hp.l13.tab hp.l13.bits (fun HT_ HW_ => ?_)
      rw [← hwd] at hHeld ⊢
      clear hwd
      refine take_ (i := 0) (N := some 52) (v := ?_) (a' := ?_) #[true, false, false, false, false] rfl rfl (take_ofW HT_.out HW_.out (by kernel_rfl)) (fun _ _ _ h => h) (Or.inl ⟨by rfl, ?_⟩) hHeld ?_ ?_
      rotate_left
      · rintro w' ⟨s0, s1⟩
        go_simp
        with_reducible rfl
      rotate_left
      · simp only [Act.put, List.setIfInBounds_toArray, List.set_cons_zero, List.set_cons_succ, i64_w, i32_w]
        rfl
      refine take_ (i := 1) (N := some 53) (v := ?_) (a' := ?_) #[true, true, false, false, false] rfl rfl (take_ofW HT_.out HW_.out (by kernel_rfl)) (fun _ _ _ h => h) (Or.inl ⟨by rfl, ?_⟩) hHeld ?_ ?_
      rotate_left
      · rintro w' ⟨s0, s1⟩
        go_simp
        with_reducible rfl
      rotate_left
      · simp only [Act.put, List.setIfInBounds_toArray, List.set_cons_zero, List.set_cons_succ, i64_w, i32_w]
        rfl
      refine one_ (i := 2) (N := some 54) #[true, true, true, false, false] rfl rfl (one_of HT_.out (by kernel_rfl)) (by decide) (fun K hK => ?_)
      refine goes_ Try.func25 (by kernel_rfl) rfl #[.agg #[.slice A0 l0.length c0]] (by rfl) rfl rfl (by (try simp only [List.map_toArray, List.map_cons, List.map_nil]); first | done | rfl) ?_
      refine (laws_toHydra.calls k _ _ l0 L _ (Kd.C_below HR0.out HB.out) HC0.out A_to.out).mono ?_
      rintro e we ⟨v, rfl, hs, hb⟩
      refine ⟨_, rfl, ?_⟩
      have DSp_T3 := Aside0.mk RSp.out.1
      have DX0_T3 := Aside0.mk RX0.out.1
      have DX1_T3 := Aside0.mk RX1.out.1
      have DG_T3 := Aside0.mk RG.out.1
      have HLT3 := Aside0.mk HB.out.size
      have LHX2_T3 := Aside0.mk (blk_lt HX2.out)
      have LHX8_T3 := Aside0.mk (blk_lt HX8.out)
      have nHX2_ := Aside0.mk (blk_below HX2.out hb)
      have nHX8_ := Aside0.mk (blk_below HX8.out hb)
      have nRSp_ := Aside0.mk (RdH.below RSp.out hb)
      have nRX0_ := Aside0.mk (OwnI.below RX0.out hb)
      have nRX1_ := Aside0.mk (OwnI.below RX1.out hb)
      have nRG_ := Aside0.mk (OwnG.below RG.out hb)
      clear HX2 HX8 RSp RX0 RX1 RG
      have HX2 := nHX2_
      have HX8 := nHX8_
      have RSp := nRSp_
      have RX0 := nRX0_
      have RX1 := nRX1_
      have RG := nRG_
      clear nHX2_ nHX8_ nRSp_ nRX0_ nRX1_ nRG_
      have nB_ := Aside0.mk (below_step (by repeat (first | (with_reducible first | exact HB.out | apply below_alloc | apply pw_below_drewN | apply below_drew1) | exact HB.out)) hb)
      clear HB
      have HB := nB_
      clear nB_
      have RT3 := Aside0.mk (OwnI.of hs)
      obtain ⟨AT3, cT3, rfl, hc_⟩ := RT3.out.form
      clear hc_
      refine hK.out _ _ ⟨(hb.cell (World.block_lt_of_cell? _ _ hHeld.1)).trans hHeld.1, (hb.cell (World.block_lt_of_cell? _ _ hHeld.2)).trans hHeld.2⟩ (fun hHeld => ?_)
      clear hK K hs hb
      refine norm_ (a' := ?_) ?_ ?_
      rotate_left
      · show Act.put _ (some 54) _ = _
        simp only [Act.put, List.setIfInBounds_toArray, List.set_cons_zero, List.set_cons_succ, i64_w, i32_w]
        rfl
      refine last_ (i := 3) (N := some 55) #[true, true, true, true, false] rfl rfl (one_of HT_.out (by kernel_rfl)) (by decide) (fun K hK => ?_)
      refine goes_ Try.func27 (by kernel_rfl) rfl #[.agg #[.slice AX0 L.length cX0], .agg #[.slice AT3 L.length cT3]] (by rfl) rfl rfl (by (try simp only [List.map_toArray, List.map_cons, List.map_nil]); first | done | rfl) ?_
      refine (laws_eqHydra.calls k _ _ L _ _ L true _ RX0.out.reads.2.2 RX0.out.reads.2.1 RT3.out.reads.2.2 RT3.out.reads.2.1 A_e2.out).mono ?_
      rintro e wf ⟨rfl, hb⟩
      refine ⟨_, rfl, ?_⟩
      have nHX2_ := Aside0.mk (blk_below HX2.out hb)
      have nHX8_ := Aside0.mk (blk_below HX8.out hb)
      have nRSp_ := Aside0.mk (RdH.below RSp.out hb)
      have nRX0_ := Aside0.mk (OwnI.below RX0.out hb)
      have nRX1_ := Aside0.mk (OwnI.below RX1.out hb)
      have nRG_ := Aside0.mk (OwnG.below RG.out hb)
      have nRT3_ := Aside0.mk (OwnI.below RT3.out hb)
      clear HX2 HX8 RSp RX0 RX1 RG RT3
      have HX2 := nHX2_
      have HX8 := nHX8_
      have RSp := nRSp_
      have RX0 := nRX0_
      have RX1 := nRX1_
      have RG := nRG_
      have RT3 := nRT3_
      clear nHX2_ nHX8_ nRSp_ nRX0_ nRX1_ nRG_ nRT3_
      have nB_ := Aside0.mk (below_step (by repeat (first | (with_reducible first | exact HB.out | apply below_alloc | apply pw_below_drewN | apply below_drew1) | exact HB.out)) hb)
      clear HB
      have HB := nB_
      clear nB_
      clear RT3
      refine hK.out _ _ ?_
      clear hK K hb
      refine norm_ (a' := ?_) ?_ ?_
      rotate_left
      · show Act.put _ (some 55) _ = _
        simp only [Act.put, List.setIfInBounds_toArray, List.set_cons_zero, List.set_cons_succ, i64_w, i32_w]
        rfl
      refine pure_ (i := 4) (N := some 56) (v := ?_) (a' := ?_) #[true, true, true, true, true] rfl rfl (any_of HT_.out (by kernel_rfl)) (fun _ _ _ h => h) (Or.inl ⟨by rfl, ?_⟩) ?_ ?_
      rotate_left
      · intro w'
        go_simp
        with_reducible rfl
      rotate_left
      · simp only [Act.put, List.setIfInBounds_toArray, List.set_cons_zero, List.set_cons_succ, i64_w, i32_w]
        rfl
      refine done_ (done_of HT_.out (by kernel_rfl)) ?_
      clear HT_ HW_ hHeld
      have xHX2_ := (blk_cell HX2.out 0).trans rfl
      have xHX8_ := (blk_cell HX8.out 0).trans rfl
      go_wp2_with (first
      | ((with_reducible refine gate_callee (f := 31) rfl ?_); refine goesL_ (some 59) rfl rfl Try.func31 (by kernel_rfl) rfl #[.slice A1 l1.length c1] rfl (by (try simp only [List.map_toArray, List.map_cons, List.map_nil]); first | done | rfl) ?_; refine (laws_toIntS.calls k _ _ l1 C _ (Kd.C_below HR1.out HB.out) HC1.out A_ti.out).mono ?_; rintro e wz9 ⟨v, rfl, hs, hb⟩; refine ⟨_, rfl, ?_⟩; (try clear xHX2_ xHX8_); have DSp_T4 := Aside0.mk RSp.out.1; have DX0_T4 := Aside0.mk RX0.out.1; have DX1_T4 := Aside0.mk RX1.out.1; have DG_T4 := Aside0.mk RG.out.1; have HLT4 := Aside0.mk HB.out.size; have LHX2_T4 := Aside0.mk (blk_lt HX2.out); have LHX8_T4 := Aside0.mk (blk_lt HX8.out); have nHX2_ := Aside0.mk (blk_below HX2.out hb); have nHX8_ := Aside0.mk (blk_below HX8.out hb); have nRSp_ := Aside0.mk (RdH.below RSp.out hb); have nRX0_ := Aside0.mk (OwnI.below RX0.out hb); have nRX1_ := Aside0.mk (OwnI.below RX1.out hb); have nRG_ := Aside0.mk (OwnG.below RG.out hb); clear HX2 HX8 RSp RX0 RX1 RG; have HX2 := nHX2_; have HX8 := nHX8_; have RSp := nRSp_; have RX0 := nRX0_; have RX1 := nRX1_; have RG := nRG_; clear nHX2_ nHX8_ nRSp_ nRX0_ nRX1_ nRG_; have nB_ := Aside0.mk (below_step (by repeat (first | (with_reducible first | exact HB.out | apply below_alloc | apply pw_below_drewN | apply below_drew1) | exact HB.out)) hb); clear HB; have HB := nB_; clear nB_; have RT4 := Aside0.mk (OwnI.of hs); obtain ⟨AT4, cT4, rfl, hc_⟩ := RT4.out.form; clear hc_; have xHX2_ := (blk_cell HX2.out 0).trans rfl; have xHX8_ := (blk_cell HX8.out 0).trans rfl; clear hs hb)
      | ((with_reducible refine gate_callee (f := 18) rfl ?_); refine goesL_ (some 60) rfl rfl Try.func18 (by kernel_rfl) rfl #[.slice AX1 C.length cX1, .slice AT4 C.length cT4] rfl (by (try simp only [List.map_toArray, List.map_cons, List.map_nil]); first | done | rfl) ?_; refine (laws_eqIntS.calls k _ _ C _ _ C true _ RX1.out.reads.2.2 RX1.out.reads.2.1 RT4.out.reads.2.2 RT4.out.reads.2.1 A_e3.out).mono ?_; rintro e wz10 ⟨rfl, hd⟩; refine ⟨_, rfl, ?_⟩; have hb := hd.below; clear hd; (try clear xHX2_ xHX8_); have nHX2_ := Aside0.mk (blk_below HX2.out hb); have nHX8_ := Aside0.mk (blk_below HX8.out hb); have nRSp_ := Aside0.mk (RdH.below RSp.out hb); have nRX0_ := Aside0.mk (OwnI.below RX0.out hb); have nRX1_ := Aside0.mk (OwnI.below RX1.out hb); have nRG_ := Aside0.mk (OwnG.below RG.out hb); have nRT4_ := Aside0.mk (OwnI.below RT4.out hb); clear HX2 HX8 RSp RX0 RX1 RG RT4; have HX2 := nHX2_; have HX8 := nHX8_; have RSp := nRSp_; have RX0 := nRX0_; have RX1 := nRX1_; have RG := nRG_; have RT4 := nRT4_; clear nHX2_ nHX8_ nRSp_ nRX0_ nRX1_ nRG_ nRT4_; have nB_ := Aside0.mk (below_step (by repeat (first | (with_reducible first | exact HB.out | apply below_alloc | apply pw_below_drewN | apply below_drew1) | exact HB.out)) hb); clear HB; have HB := nB_; clear nB_; have xHX2_ := (blk_cell HX2.out 0).trans rfl; have xHX8_ := (blk_cell HX8.out 0).trans rfl; clear hb; clear RT4)
      | ((with_reducible refine gate_callee (f := 28) rfl ?_); refine goesL_ (some 64) rfl rfl Try.func28 (by kernel_rfl) rfl #[.agg #[.slice AX0 L.length cX0], .int .i64 1] rfl (by (try simp only [List.map_toArray, List.map_cons, List.map_nil]); first | done | rfl) ?_; refine (hp.markH k _ _ _ L 1 m0 lm0 w _ HB.out HLX0.out RX0.out A_k0.out).mono ?_; rintro e wz11 ⟨rfl, hb, hk⟩; refine ⟨_, rfl, ?_⟩; (try clear xHX2_); have nHX2_ := Aside0.mk ((hk.2 _ (blk_lt HX2.out) (fun h_ => by have h1_ : _ ≤ _ ∧ _ < _ := h_; have h2_ := LHX2_X0.out; omega)).trans HX2.out); have nRSp_ := Aside0.mk (RdH.kept RSp.out hk (.inl DSp_X0.out)); have nRX1_ := Aside0.mk (OwnI.kept RX1.out hk (.inr DX0_X1.out)); have nRG_ := Aside0.mk (OwnG.kept RG.out hk (.inr DX0_G.out)); clear HX2 RSp RX1 RG; have HX2 := nHX2_; have RSp := nRSp_; have RX1 := nRX1_; have RG := nRG_; clear nHX2_ nRSp_ nRX1_ nRG_; clear HB RX0; have HB := Aside0.mk hb; have xHX2_ := (blk_cell HX2.out 0).trans rfl; clear hb hk; clear HX8 xHX8_)
      | ((with_reducible refine gate_callee (f := 19) rfl ?_); refine goesL_ (some 67) rfl rfl Try.func19 (by kernel_rfl) rfl #[.slice AX1 C.length cX1, .int .i64 m0] rfl (by (try simp only [List.map_toArray, List.map_cons, List.map_nil]); first | done | rfl) ?_; refine (hp.markI k _ _ _ C m0 m1 lm1 w _ HB.out HLX1.out RX1.out A_k1.out).mono ?_; rintro e wz12 ⟨rfl, hb, hk⟩; refine ⟨_, rfl, ?_⟩; (try clear xHX2_); have nHX2_ := Aside0.mk ((hk.2 _ (blk_lt HX2.out) (fun h_ => by have h1_ : _ ≤ _ ∧ _ < _ := h_; have h2_ := LHX2_X1.out; omega)).trans HX2.out); have nRSp_ := Aside0.mk (RdH.kept RSp.out hk (.inl DSp_X1.out)); have nRG_ := Aside0.mk (OwnG.kept RG.out hk (.inr DX1_G.out)); clear HX2 RSp RG; have HX2 := nHX2_; have RSp := nRSp_; have RG := nRG_; clear nHX2_ nRSp_ nRG_; clear HB RX1; have HB := Aside0.mk hb; have xHX2_ := (blk_cell HX2.out 0).trans rfl; clear hb hk)
      | ((with_reducible refine gate_callee (f := 34) rfl ?_); refine goesL_ (some 83) rfl rfl Try.func34 (by kernel_rfl) rfl #[.slice AG g1.length cG, .int .i64 1] rfl (by (try simp only [List.map_toArray, List.map_cons, List.map_nil]); first | done | rfl) ?_; refine (hp.markS k _ _ _ g1 1 q lm2 w _ HB.out HLG.out RG.out A_k2.out).mono ?_; rintro e wz14 ⟨rfl, hs, hb, hk⟩; refine ⟨_, rfl, ?_⟩; (try clear xHX2_); have nHX2_ := Aside0.mk ((hk.2 _ (blk_lt HX2.out) (fun h_ => by have h1_ : _ ≤ _ ∧ _ < _ := h_; have h2_ := LHX2_G.out; omega)).trans HX2.out); have nRSp_ := Aside0.mk (RdH.kept RSp.out hk (.inl DSp_G.out)); clear HX2 RSp; have HX2 := nHX2_; have RSp := nRSp_; clear nHX2_ nRSp_; clear HB RG; have HB := Aside0.mk hb; have RG := Aside0.mk hs; have xHX2_ := (blk_cell HX2.out 0).trans rfl; clear hs hb hk)
      | ((with_reducible refine gate_callee (f := 35) rfl ?_); refine goesL_ (some 86) rfl rfl Try.func35 (by kernel_rfl) rfl #[.slice AG g1.length cG, .int .i64 1] rfl (by (try simp only [List.map_toArray, List.map_cons, List.map_nil]); first | done | rfl) ?_; refine (hp.heldA k _ _ _ lm2 1 q _ _ _ RG.out A_h.out).mono ?_; rintro e wz15 ⟨rfl, hb⟩; refine ⟨_, rfl, ?_⟩; (try clear xHX2_); have nHX2_ := Aside0.mk (blk_below HX2.out hb); have nRSp_ := Aside0.mk (RdH.below RSp.out hb); have nRG_ := Aside0.mk (OwnG.below RG.out hb); clear HX2 RSp RG; have HX2 := nHX2_; have RSp := nRSp_; have RG := nRG_; clear nHX2_ nRSp_ nRG_; have nB_ := Aside0.mk (below_step (by repeat (first | (with_reducible first | exact HB.out | apply below_alloc | apply pw_below_drewN | apply below_drew1) | exact HB.out)) hb); clear HB; have HB := nB_; clear nB_; have xHX2_ := (blk_cell HX2.out 0).trans rfl; clear hb)
      | ((with_reducible refine gate_callee (f := 25) rfl ?_); refine goesL_ (some 94) rfl rfl Try.func25 (by kernel_rfl) rfl #[.agg #[.slice A0 l0.length c0]] rfl (by (try simp only [List.map_toArray, List.map_cons, List.map_nil]); first | done | rfl) ?_; refine (laws_toHydra.calls k _ _ l0 L _ (Kd.C_below HR0.out HB.out) HC0.out A_to.out).mono ?_; rintro e wz16 ⟨v, rfl, hs, hb⟩; refine ⟨_, rfl, ?_⟩; have LTT5 := Aside0.mk hb.size; (try clear xHX2_); have DSp_T5 := Aside0.mk RSp.out.1; have DG_T5 := Aside0.mk RG.out.1; have HLT5 := Aside0.mk HB.out.size; have LHX2_T5 := Aside0.mk (blk_lt HX2.out); have nHX2_ := Aside0.mk (blk_below HX2.out hb); have nRSp_ := Aside0.mk (RdH.below RSp.out hb); have nRG_ := Aside0.mk (OwnG.below RG.out hb); clear HX2 RSp RG; have HX2 := nHX2_; have RSp := nRSp_; have RG := nRG_; clear nHX2_ nRSp_ nRG_; have nB_ := Aside0.mk (below_step (by repeat (first | (with_reducible first | exact HB.out | apply below_alloc | apply pw_below_drewN | apply below_drew1) | exact HB.out)) hb); clear HB; have HB := nB_; clear nB_; have RT5 := Aside0.mk (OwnI.of hs); obtain ⟨AT5, cT5, rfl, hc_⟩ := RT5.out.form; clear hc_; have xHX2_ := (blk_cell HX2.out 0).trans rfl; clear hs hb)
      | ((with_reducible refine gate_callee (f := 31) rfl ?_); refine goesL_ (some 96) rfl rfl Try.func31 (by kernel_rfl) rfl #[.slice A1 l1.length c1] rfl (by (try simp only [List.map_toArray, List.map_cons, List.map_nil]); first | done | rfl) ?_; refine (laws_toIntS.calls k _ _ l1 C _ (Kd.C_below HR1.out HB.out) HC1.out A_ti.out).mono ?_; rintro e wz17 ⟨v, rfl, hs, hb⟩; refine ⟨_, rfl, ?_⟩; (try clear xHX2_); have DSp_T6 := Aside0.mk RSp.out.1; have DG_T6 := Aside0.mk RG.out.1; have DT5_T6 := Aside0.mk RT5.out.1; have HLT6 := Aside0.mk HB.out.size; have LHX2_T6 := Aside0.mk (blk_lt HX2.out); have nHX2_ := Aside0.mk (blk_below HX2.out hb); have nRSp_ := Aside0.mk (RdH.below RSp.out hb); have nRG_ := Aside0.mk (OwnG.below RG.out hb); have nRT5_ := Aside0.mk (OwnI.below RT5.out hb); clear HX2 RSp RG RT5; have HX2 := nHX2_; have RSp := nRSp_; have RG := nRG_; have RT5 := nRT5_; clear nHX2_ nRSp_ nRG_ nRT5_; have nB_ := Aside0.mk (below_step (by repeat (first | (with_reducible first | exact HB.out | apply below_alloc | apply pw_below_drewN | apply below_drew1) | exact HB.out)) hb); clear HB; have HB := nB_; clear nB_; have RT6 := Aside0.mk (OwnI.of hs); obtain ⟨AT6, cT6, rfl, hc_⟩ := RT6.out.form; clear hc_; have xHX2_ := (blk_cell HX2.out 0).trans rfl; clear hs hb)
      | ((with_reducible refine gate_callee (f := 32) rfl ?_); refine goesL_ (some 97) rfl rfl Try.func32 (by kernel_rfl) rfl #[.agg #[.slice AT5 L.length cT5], .slice AT6 C.length cT6] rfl (by (try simp only [List.map_toArray, List.map_cons, List.map_nil]); first | done | rfl) ?_; refine (hp.calls k _ _ L _ _ C g1 gb _ RT5.out.reads.2.2 RT5.out.reads.2.1 RT6.out.reads.2.2 RT6.out.reads.2.1 A_im.out).mono ?_; rintro e wz18 ⟨v, rfl, hs, hb⟩; refine ⟨_, rfl, ?_⟩; (try clear xHX2_); have DSp_H := Aside0.mk RSp.out.1; have DG_H := Aside0.mk RG.out.1; have DT5_H := Aside0.mk RT5.out.1; have DT6_H := Aside0.mk RT6.out.1; have HLH := Aside0.mk HB.out.size; have LHX2_H := Aside0.mk (blk_lt HX2.out); have nHX2_ := Aside0.mk (blk_below HX2.out hb); have nRSp_ := Aside0.mk (RdH.below RSp.out hb); have nRG_ := Aside0.mk (OwnG.below RG.out hb); have nRT5_ := Aside0.mk (OwnI.below RT5.out hb); have nRT6_ := Aside0.mk (OwnI.below RT6.out hb); clear HX2 RSp RG RT5 RT6; have HX2 := nHX2_; have RSp := nRSp_; have RG := nRG_; have RT5 := nRT5_; have RT6 := nRT6_; clear nHX2_ nRSp_ nRG_ nRT5_ nRT6_; have nB_ := Aside0.mk (below_step (by repeat (first | (with_reducible first | exact HB.out | apply below_alloc | apply pw_below_drewN | apply below_drew1) | exact HB.out)) hb); clear HB; have HB := nB_; clear nB_; have RH := Aside0.mk (OwnG.of hs); obtain ⟨AH, cH, rfl, hc_⟩ := RH.out.form; clear hc_; have xHX2_ := (blk_cell HX2.out 0).trans rfl; clear hs hb; clear RT5 RT6)
      | ((with_reducible refine gate_callee (f := 33) rfl ?_); refine goesL_ (some 102) rfl rfl Try.func33 (by kernel_rfl) rfl #[.slice AH g1.length cH, .slice ASp s1.length cSp] rfl (by (try simp only [List.map_toArray, List.map_cons, List.map_nil]); first | done | rfl) ?_; refine (laws_eqHydraS.calls k _ _ g1 _ _ s1 true _ RH.out.reads.2.2 RH.out.reads.2.1 RSp.out.reads.2.2 RSp.out.reads.2.1 A_e1.out).mono ?_; rintro e wz19 ⟨rfl, hb⟩; refine ⟨_, rfl, ?_⟩; (try clear xHX2_); have nHX2_ := Aside0.mk (blk_below HX2.out hb); have nRSp_ := Aside0.mk (RdH.below RSp.out hb); have nRG_ := Aside0.mk (OwnG.below RG.out hb); have nRH_ := Aside0.mk (OwnG.below RH.out hb); clear HX2 RSp RG RH; have HX2 := nHX2_; have RSp := nRSp_; have RG := nRG_; have RH := nRH_; clear nHX2_ nRSp_ nRG_ nRH_; have nB_ := Aside0.mk (below_step (by repeat (first | (with_reducible first | exact HB.out | apply below_alloc | apply pw_below_drewN | apply below_drew1) | exact HB.out)) hb); clear HB; have HB := nB_; clear nB_; have xHX2_ := (blk_cell HX2.out 0).trans rfl; clear hb; clear RH)
      | ((with_reducible refine gate_callee (f := 35) rfl ?_); refine goesL_ (some 111) rfl rfl Try.func35 (by kernel_rfl) rfl #[.slice AG g1.length cG, .int .i64 1] rfl (by (try simp only [List.map_toArray, List.map_cons, List.map_nil]); first | done | rfl) ?_; refine (hp.heldA k _ _ _ lm2 1 q _ _ _ RG.out A_h.out).mono ?_; rintro e wz20 ⟨rfl, hb⟩; refine ⟨_, rfl, ?_⟩; (try clear xHX2_); have nHX2_ := Aside0.mk (blk_below HX2.out hb); have nRSp_ := Aside0.mk (RdH.below RSp.out hb); have nRG_ := Aside0.mk (OwnG.below RG.out hb); clear HX2 RSp RG; have HX2 := nHX2_; have RSp := nRSp_; have RG := nRG_; clear nHX2_ nRSp_ nRG_; have nB_ := Aside0.mk (below_step (by repeat (first | (with_reducible first | exact HB.out | apply below_alloc | apply pw_below_drewN | apply below_drew1) | exact HB.out)) hb); clear HB; have HB := nB_; clear nB_; have xHX2_ := (blk_cell HX2.out 0).trans rfl; clear hb)
      | (go_at_call 33; refine (laws_eqHydraS.calls k _ _ g1 _ _ s1 true _ RG.out.reads.2.2 RG.out.reads.2.1 RSp.out.reads.2.2 RSp.out.reads.2.1 A_e1.out).mono ?_; rintro e wz13 ⟨rfl, hb⟩; (try clear xHX2_); have nHX2_ := Aside0.mk (blk_below HX2.out hb); have nRSp_ := Aside0.mk (RdH.below RSp.out hb); have nRG_ := Aside0.mk (OwnG.below RG.out hb); clear HX2 RSp RG; have HX2 := nHX2_; have RSp := nRSp_; have RG := nRG_; clear nHX2_ nRSp_ nRG_; have nB_ := Aside0.mk (below_step (by repeat (first | (with_reducible first | exact HB.out | apply below_alloc | apply pw_below_drewN | apply below_drew1) | exact HB.out)) hb); clear HB; have HB := nB_; clear nB_; have xHX2_ := (blk_cell HX2.out 0).trans rfl; clear hb))
      go_ret
      exact ⟨rfl, HB.out⟩
theorem laws_FnExactPlayHydra.calls (k : Nat) (A0_0 : Option Addr) (c0_0 : Nat) (l0_0 : List Int) (A1 : Option Addr) (c1 : Nat) (l1 : List Int) (r : Bool) (hr_ : Aside0 (r = true)) (w : World) (hr0_0 : Kd.C (Kd.int .i64) w A0_0 l0_0.length l0_0) (hc0_0 : l0_0.length ≤ c0_0) (hr1 : Kd.C (Kd.int .i64) w A1 l1.length l1) (hc1 : l1.length ≤ c1) (h : laws_FnExactPlayHydra.f k l0_0 l1 = some r) :
    Calls Try.prog 8 #[.agg #[.slice A0_0 l0_0.length c0_0], .slice A1 l1.length c1] w fun e w' => e = .returned (.bool r) ∧ Below w.heap.size w w' := by
  exact hp.law k A0_0 c0_0 l0_0 A1 c1 l1 r hr_ w hr0_0 hc0_0 hr1 hc1 h

end Go.Proofs.Ytgjpfhedhehmdaa.QFnExactPlayHydra
