/- The Go functions that the law FnExactSumOfPictures reaches, as Lean functions, and what their calls do. Written by a program of this session. -/
import Derived.Test.YtnabbkaipfhmdaaQFnExactSumOfPicturesx0
import Derived.Test.YtnabbkaipfhmdaaQFnExactSumOfPicturesx4
namespace Go.Proofs.Ytnabbkaipfhmdaa.QFnExactSumOfPictures
open Go.RowKit Go.Proofs.YtnabbkaipfhmdaaW.PrintWords Go.Proofs.YtnabbkaipfhmdaaW.PrintLast Go.Proofs.YtnabbkaipfhmdaaW.PrintMore
attribute [local go_sem] max2_int min2_int max_two min_two max_three min_three max_four min_four   -- for this text's walks alone
set_option linter.unusedVariables false
set_option linter.unusedSimpArgs false

/-! ### impl_standing: function 35 -/
/-- A predicate handed over: what it tells in whatever world that keeps what lay there. -/
def stand.Pred (g : Nat) (lb : Array Value) (p : S47 → Bool) (l : List S47) (w0 : World) : Prop :=
  ∀ (W : World) (x : S47), x ∈ l → Below w0.heap.size w0 W → Calls Try.prog g (#[.agg #[.int .i64 x.f0, .int .i64 x.f1, .bool x.f2]] ++ lb) W fun e w' => e = .returned (.bool (p x)) ∧ Below W.heap.size W w'
set_option maxHeartbeats 400000 in
set_option maxRecDepth 100000 in
theorem stand.indexFunc (g : Nat) (lb : Array Value) (eg : ∀ args w, (callFunc g args).run Try.prog w = .ok (.enter g args) w) (p : S47 → Bool) (l : List S47) (A : Option Addr) (c : Nat) (w0 w : World) (h0 : Below w0.heap.size w0 w)
    (hr : Kd.C k47 w A l.length l) (hp : stand.Pred g lb p l w0) :
    Calls Try.prog 33 #[.slice A l.length c, .func (.func g) #[] lb] w fun e w' => ∃ r : Int, e = .returned (.int .i64 r) ∧ Below w.heap.size w w' ∧
      ((r = -1 ∧ ∀ x ∈ l, p x = false) ∨ ∃ k : Nat, ∃ hk : k < l.length, r = (k : Int) ∧ p l[k] = true ∧ ∀ j, j < k → ∀ hj : j < l.length, p l[j] = false) := by
  have hbig : l.length ≤ 9223372036854775807 := hr.2.1
  have hu47 := Try.underlying47
  have HR := Aside0.mk hr
  have HP := Aside0.mk hp
  have H0 := Aside0.mk h0
  clear hr hp h0
  go_enter Try.func33, Try.ntmps33
  go_wp2
  go_loopg [5, 8] l.length (fun gg _ s8 wr => ∃ kk : Nat, kk ≤ l.length ∧ l.length - kk ≤ gg ∧ s8 = .int .i64 kk ∧ Aside0 (Below w.heap.size w wr) ∧ Aside0 (∀ j, j < kk → ∀ hj : j < l.length, p l[j] = false))
  case atStart => exact ⟨0, Nat.zero_le _, by omega, rfl, ⟨Below.refl _ w⟩, ⟨fun j hj => absurd hj (Nat.not_lt_zero _)⟩⟩
  case round =>
    obtain ⟨kk, hkk, hg, rfl, BW, AF⟩ := hrel
    by_cases hlt : kk < l.length
    · have hltz : (kk : Int) < (l.length : Int) := by omega
      obtain ⟨ad, e0, hx0, hx1, hx2⟩ := at_T47 HR.out (kk : Int) (by omega) hltz
      cases e0
      replace hx0 := (BW.out.cell (World.block_lt_of_cell? w _ hx0)).trans hx0
      replace hx1 := (BW.out.cell (World.block_lt_of_cell? w _ hx1)).trans hx1
      replace hx2 := (BW.out.cell (World.block_lt_of_cell? w _ hx2)).trans hx2
      have hcall := HP.out wr l[kk] (List.getElem_mem hlt) (below_then H0.out H0.out.size BW.out)
      have hrd : rd_T47 l (kk : Int) = l[kk] := by simp [rd_T47, List.getD_eq_getElem?_getD, List.getElem?_eq_getElem hlt]
      rw [hrd] at hx0 hx1 hx2
      clear hrd
      simp only [Int.toNat_natCast] at hx0 hx1 hx2
      generalize hy : l[kk] = y at hx0 hx1 hx2 hcall
      have B : Aside0 (l[kk] = y) := ⟨hy⟩
      clear hy
      cases hq : p y with
      | true =>
        rw [hq] at hcall
        go_wp2_with (go_at_fn g; refine hcall.mono ?_; rintro e w' ⟨rfl, hb'⟩)
        go_ret
        exact ⟨_, rfl, below_then BW.out BW.out.size hb', Or.inr ⟨kk, hlt, rfl, by rw [B.out]; exact hq, AF.out⟩⟩
      | false =>
        rw [hq] at hcall
        go_wp2_with (go_at_fn g; refine hcall.mono ?_; rintro e w' ⟨rfl, hb'⟩)
        go_roundg (l.length - (kk + 1))
        case measure => omega
        case rel =>
          refine ⟨kk + 1, by omega, by omega, by go_num, ⟨below_then BW.out BW.out.size hb'⟩, ⟨fun j hj hjl => ?_⟩⟩
          by_cases e : j = kk
          · subst e
            rw [B.out]; exact hq
          · exact AF.out j (by omega) hjl
    · have hltz : ¬ (kk : Int) < (l.length : Int) := by omega
      have : kk = l.length := by omega
      go_wp2
      go_ret
      refine ⟨_, rfl, BW.out, Or.inl ⟨rfl, fun x hx => ?_⟩⟩
      obtain ⟨j, hj, rfl⟩ := List.mem_iff_getElem.1 hx
      exact AF.out j (by omega) hj
/-- 'clear(s)': what lies there is zero values; nothing else turns. -/
theorem stand.clear (w : World) (b o n c : Nat) (hn : 0 < n)
    (hc : ∀ j, j < n * 3 → (w.cell? ⟨b, o + j, none⟩).isSome = true) (hf : ∀ j, j < n * 3 → w.frozen? ⟨b, o + j, none⟩ = false) :
    ∃ L : List Value, L.length = n * 3 ∧ ∀ ty : TypeId, (Builtin.clear_ #[26] ty #[.slice (some ⟨b, o, none⟩) n c]).run Try.prog w = .ok (.tuple #[]) (w.setCells b o L) := by
  have hv : ∀ w : World, (zeroValue 47).run Try.prog w = .ok (.agg #[.int .i64 0, .int .i64 0, .bool false]) w := fun w => by kernel_rfl
  have hu := run_underlying Try.underlying26
  obtain ⟨L, hL⟩ : ∃ L, (Builtin.zeroCells (Value.agg #[.int .i64 0, .int .i64 0, .bool false]).cells n).toList = L := ⟨_, rfl⟩
  have hlen : L.length = n * 3 := by
    rw [← hL]
    simp [Builtin.zeroCells, Value.cells]
  have hone : ∀ v ∈ L, v.oneCell' = true := by
    intro v hv'
    rw [← hL] at hv'
    simp only [Builtin.zeroCells, Array.toList_map, List.mem_map] at hv'
    obtain ⟨i, _, rfl⟩ := hv'
    have hs : (Value.agg #[.int .i64 0, .int .i64 0, .bool false]).cells.size = 3 := by simp [Value.cells]
    rw [hs]
    have hi : i % 3 < 3 := Nat.mod_lt _ (by decide)
    generalize i % 3 = q at hi
    rcases (by omega : q = 0 ∨ q = 1 ∨ q = 2) with rfl | rfl | rfl <;> (simp [Value.cells]; try rfl)
  have hst := run_storeCells_cells (P := Try.prog) b o L 0 w (by rw [hlen]; simpa using hc) (by rw [hlen]; simpa using hf) hone
  simp only [Nat.add_zero] at hst
  obtain ⟨m, rfl⟩ : ∃ m, n = m + 1 := ⟨n - 1, by omega⟩
  refine ⟨L, hlen, fun ty => ?_⟩
  simp [Builtin.clear_, hu, hv, hL, hst]
/-- A row cut at i, and what lies behind it written over. -/
theorem stand.past {w : World} {B g n cap i : Nat} {ok : Nat → Prop} {xs : List S47} (h : Kd.R k47 47 w B ok (.slice (some ⟨g, 0, none⟩) n cap) xs) (hi : i ≤ n) (L : List Value) (hL : L.length = (n - i) * 3) :
    Kd.R k47 47 (w.setCells g (i * 3) L) B ok (.slice (some ⟨g, 0, none⟩) i cap) (xs.take i) ∧ w.grownBy (w.setCells g (i * 3) L) (some g) := by
  have hn := (Kd.R_reads' h).1
  have h' := Kd.R_take h (m := i) (by omega)
  have hil : (xs.take i).length = i := by rw [List.length_take]; omega
  obtain ⟨hok, inner, ho, hr⟩ := h'
  obtain ⟨_, inner0, ho0, _⟩ := h
  obtain ⟨s1, s2, s3, s4⟩ := setCells_same g L (i * 3) w
  have hfar : ∀ k, k ≠ g → (w.setCells g (i * 3) L).heap[k]? = w.heap[k]? := fun k hk => setCells_far L _ k hk
  refine ⟨⟨hok, inner, ?_, ?_⟩, ⟨s1, s2, s3, by rw [s4]; exact Nat.le_refl _, fun k _ hk => hfar k (fun he => hk (by rw [he]))⟩⟩
  · obtain ⟨ho1, ho2⟩ := ho
    refine ⟨ho1, ?_⟩
    rcases ho2 with ⟨hv, _⟩ | ⟨g', cap', cur, hv, hb, hh, hnc, hcm, hcs, ht⟩
    · cases hv
    injection hv with ha hl hc
    injection ha with ha
    injection ha with hg
    subst hg; subst hc
    have hcapn : n ≤ cap := by
      rcases ho0.2 with ⟨hv0, _⟩ | ⟨g0, cap0, cur0, hv0, _, _, hnc0, _⟩
      · cases hv0
      · injection hv0 with _ q1 q2
        omega
    have hsz : (k47).sz = 3 := rfl
    rw [hsz] at hcs ht ⊢
    obtain ⟨cur', h3, h4, h5⟩ := setCells_row L (i * 3) w cur hh (by rw [hL, hcs]; omega)
    refine .inr ⟨g, cap, cur', by rw [hil], hb, h3, hnc, hcm, by rw [h4, hcs], ?_⟩
    rw [h5, ← ht, hil]
    have hle : i * 3 ≤ cur.toList.length := by rw [Array.length_toList, hcs]; omega
    rw [List.append_assoc, List.take_append_of_le_length (by rw [List.length_take]; omega), List.take_take, Nat.min_self]
  · refine hr.imp_ (fun p c hp => (k47).M_move (fun k hk => hfar k (fun e => ?_)) hp)
    subst e
    exact hk.2 (by simp [Value.ownBlock])
theorem stand.taken {p : S47 → Bool} {l : List S47} {j : Nat} (hj : j < l.length) : (l.take (j + 1)).filter (fun x => !p x) = (l.take j).filter (fun x => !p x) ++ if p l[j] = true then [] else [l[j]] := by
  rw [List.take_succ_eq_append_getElem hj, List.filter_append]
  congr 1
  cases h : p l[j] <;> simp [h]
theorem stand.setTake {l : List S47} {i : Nat} (x : S47) (h : i < l.length) : (l.set i x).take (i + 1) = l.take i ++ [x] := by
  rw [List.take_set, List.take_succ_eq_append_getElem h, List.set_append_right _ _ (by rw [List.length_take]; omega)]
  have : min i l.length = i := by omega
  simp [this]
set_option maxHeartbeats 2000000 in
set_option maxRecDepth 100000 in
theorem stand.deleteFunc (g : Nat) (lb : Array Value) (eg : ∀ args w, (callFunc g args).run Try.prog w = .ok (.enter g args) w) (p : S47 → Bool) (l : List S47) (v : Value) (w0 w : World) (B : Nat) (hB : w0.heap.size ≤ B) (h0 : Below w0.heap.size w0 w) (hBw : B ≤ w.heap.size)
    (ho : Kd.R k47 47 w B (fun _ => True) v l) (hp : stand.Pred g lb p l w0) :
    Calls Try.prog 38 #[v, .func (.func g) #[] lb] w fun e w' => ∃ v' : Value, e = .returned v' ∧ Kd.R k47 47 w' B (fun _ => True) v' (l.filter fun x => !p x) ∧ Below B w w' := by
  obtain ⟨A, c, rfl, hAc, hrd⟩ := Kd.R_reads ho
  have eIF : ∀ args w, (callFunc 33 args).run Try.prog w = .ok (.enter 33 args) w := fun args w => enters_ Try.func33 rfl rfl args w
  have hIF := stand.indexFunc g lb eg p l A c w0 w h0 hrd hp
  have hu47 := Try.underlying47
  have HO := Aside0.mk ho
  have HP := Aside0.mk hp
  have H0 := Aside0.mk h0
  have HBW := Aside0.mk hBw
  clear ho hp h0 hrd
  go_enter Try.func38, Try.ntmps38
  go_upto_region 2 with (first | (go_at_fn 33; refine hIF.mono ?_; rintro e w1 ⟨r, rfl, hb1, hh⟩))
  rcases hh with ⟨rfl, hall⟩ | ⟨k, hk, rfl, hpk, hall⟩
  · go_wp2
    go_ret
    refine ⟨_, rfl, ?_, hb1.block |> fun _ => ?_⟩
    · have e : (l.filter fun x => !p x) = l := List.filter_eq_self.2 (fun x hx => by rw [hall x hx]; rfl)
      rw [e]
      exact Kd.R_below HO.out hb1
    · exact Below.trans (Below.refl B w) ⟨hb1.os, hb1.tape, hb1.output, hb1.size, fun i hi => hb1.block i (by have := HBW.out; omega)⟩
  · have hne : ((k : Int) == -1) = false := beq_eq_false_iff_ne.2 (by omega)
    obtain ⟨g1, cap, e1, hg1, hg2, _⟩ := Kd.R_form HO.out (by omega)
    injection e1 with e1 _ e2
    subst e1; subst e2
    have n0_ := Aside0.mk (Kd.R_below HO.out hb1)
    have n1_ := Aside0.mk (show Below B w w1 from ⟨hb1.os, hb1.tape, hb1.output, hb1.size, fun i hi => hb1.block i (by have := HBW.out; omega)⟩)
    clear HO hIF hb1
    have HO := n0_
    have HB := n1_
    clear n0_ n1_
    have hbig := (Kd.R_reads' HO.out).2.2.2.1
    have HALL := Aside0.mk hall
    have HPK := Aside0.mk hpk
    clear hall hpk
    go_wp2
    go_loopg [5, 6] l.length (fun gg s5 s6 wr => ∃ (i j : Nat) (dk : List S47), s5 = .int .i64 i ∧ s6 = .int .i64 j ∧ j ≤ l.length ∧ l.length - j ≤ gg ∧ i < j ∧ dk.length = l.length ∧ Aside0 (dk.take i = (l.take j).filter fun x => !p x) ∧ Aside0 (dk.drop j = l.drop j) ∧ Aside0 (Kd.R k47 47 wr B (fun _ => True) (.slice (some ⟨g1, 0, none⟩) l.length c) dk) ∧ Aside0 (Below B w wr))
    case atStart =>
      refine ⟨k, k + 1, l, rfl, by go_num, by omega, by omega, by omega, rfl, ⟨?_⟩, ⟨rfl⟩, ⟨by first | exact HO.out | exact Kd.R_drew HO.out⟩, ⟨by first | exact HB.out | exact below_drew HB.out⟩⟩
      rw [stand.taken hk, if_pos HPK.out, List.append_nil]
      refine (List.filter_eq_self.2 (fun x hx => ?_)).symm
      obtain ⟨q, hq, rfl⟩ := List.mem_iff_getElem.1 hx
      rw [List.length_take] at hq
      rw [List.getElem_take, HALL.out q (by omega) (by omega)]
      rfl
    case round =>
      clear HO HB
      obtain ⟨i, j, dk, rfl, rfl, hj, hgg, hij, hdl, HT, HD, HO, HB⟩ := hrel
      have hwB : B ≤ wr.heap.size := Nat.le_trans HBW.out HB.out.size
      by_cases hlt : j < l.length
      · have hltz : (j : Int) < (l.length : Int) := by omega
        have hltz2 : (i : Int) < (l.length : Int) := by omega
        have hjd : j < dk.length := by omega
        have hdj : dk[j] = l[j] := by
          have := congrArg (fun m : List S47 => m[0]?) HD.out
          simp only [List.getElem?_drop, Nat.add_zero, List.getElem?_eq_getElem hjd, List.getElem?_eq_getElem hlt, Option.some.injEq] at this
          exact this
        obtain ⟨ce, _, hM, hcc, _⟩ := Kd.R_elem HO.out z47 (j : Int) (by omega) hltz
        obtain rfl := k47_openM hM
        have hx0 := hcc 0 _ rfl
        have hx1 := hcc 1 _ rfl
        have hx2 := hcc 2 _ rfl
        have hsz : (k47).sz = 3 := rfl
        have hget : dk.getD j z47 = l[j] := by rw [List.getD_eq_getElem?_getD, List.getElem?_eq_getElem hjd, Option.getD_some, hdj]
        simp only [hsz, Int.toNat_natCast, Nat.add_zero, hget] at hx0 hx1 hx2
        clear hcc hM
        have hym := List.getElem_mem hlt
        obtain ⟨y, hy⟩ : ∃ y, l[j] = y := ⟨_, rfl⟩
        rw [hy] at hx0 hx1 hx2 hym
        have HY := Aside0.mk hy
        have hBW0 : Below w0.heap.size w0 wr := below_weaken H0.out hB HB.out
        have HW0 := Aside0.mk hBW0
        have hcall := fun W hb => HP.out W y hym hb
        clear hy hget hdj hBW0 hym
        cases hq : p y with
        | true =>
          simp only [hq] at hcall
          go_wp2_with (go_at_fn g; refine (hcall _ (by repeat (first | exact HW0.out | apply below_alloc | apply pw_below_drewN | apply below_drew1))).mono ?_; rintro e w5 ⟨rfl, hb5⟩; have n0_ := Aside0.mk (Kd.R_below (by (with_reducible repeat (first | apply Kd.R_alloc | apply Kd.R_drewN | apply Kd.R_drew)); exact HO.out) hb5); have n1_ := Aside0.mk (below_then (by first | exact HB.out.alloc hwB _ | exact below_drew (HB.out.alloc hwB _)) (by simp; omega) hb5); clear HO HB; have HO := n0_; have HB := n1_; clear n0_ n1_ hb5)
          go_roundg (l.length - (j + 1))
          case measure => omega
          case rel =>
            refine ⟨i, j + 1, dk, rfl, by go_num, by omega, by omega, by omega, hdl, ⟨?_⟩, ⟨?_⟩, HO, HB⟩
            · rw [stand.taken hlt, HY.out, hq, if_pos rfl, List.append_nil]
              exact HT.out
            · have := congrArg (List.drop 1) HD.out
              simpa [List.drop_drop] using this
        | false =>
          simp only [hq] at hcall
          go_wp2_with (first
            | (go_at_fn g; refine (hcall _ (by repeat (first | exact HW0.out | apply below_alloc | apply pw_below_drewN | apply below_drew1))).mono ?_; rintro e w5 ⟨rfl, hb5⟩; have hbx : w5.heap[wr.heap.size]? = some (.cells #[.int .i64 y.f0, .int .i64 y.f1, .bool y.f2] 47 (0, 0)) := blk_below (by first | exact heap_alloc_new wr _ | simpa using heap_alloc_new wr _) hb5; have n0_ := Aside0.mk (Kd.R_below (by (with_reducible repeat (first | apply Kd.R_alloc | apply Kd.R_drewN | apply Kd.R_drew)); exact HO.out) hb5); have n1_ := Aside0.mk (below_then (by first | exact HB.out.alloc hwB _ | exact below_drew (HB.out.alloc hwB _)) (by simp; omega) hb5); clear HO HB; have HO := n0_; have HB := n1_; clear n0_ n1_ hb5; have hz0 := (blk_cell hbx 0).trans rfl; have hz1 := (blk_cell hbx 1).trans rfl; have hz2 := (blk_cell hbx 2).trans rfl; obtain ⟨ci, hcl, hMi, hcci, hfri⟩ := Kd.R_elem HO.out z47 (i : Int) (by omega) hltz2; obtain rfl := k47_openM hMi; have HSEG := Kd.R_seg HO.out (i : Int) (by omega) hltz2 (seg := [.int .i64 y.f0, .int .i64 y.f1, .bool y.f2]) (j := 0) hcl hcci (show 3 ≤ 3 from by decide) (x' := y) (k47_mkM _ _ _ y) (fun _ hk => hk); have hc0 := hcci 0 _ rfl; have hc1 := hcci 1 _ rfl; have hc2 := hcci 2 _ rfl; have hf0 := hfri 0; have hf1 := hfri 1; have hf2 := hfri 2; simp only [hsz, Int.toNat_natCast, Nat.add_zero] at hc0 hc1 hc2 hf0 hf1 hf2 HSEG; clear hcl hcci hfri hMi hbx)
            | ((with_reducible refine gate_store (t := 47) (p := 33) rfl ?_); refine store_event (t := 47) (p := 33) (v := ?vo) (w1 := (((w5.setCell ⟨g1, i * 3, none⟩ (.int .i64 y.f0)).setCell ⟨g1, i * 3 + 1, none⟩ (.int .i64 y.f1)).setCell ⟨g1, i * 3 + 2, none⟩ (.bool y.f2))) ?hg ?ho ?hn ?hr ?_; (case ho => rfl); (case hg => rfl); (case hn => rfl); (case hr => first | (go_simp; done) | (go_simp; rfl)); intro w13 hw; have hp_ : Kd.R k47 47 w13 B (fun _ => True) (.slice (some ⟨g1, 0, none⟩) l.length c) (dk.set i y) := (by rw [hw]; exact HSEG.1); have hb_ : Below B w w13 := (by rw [hw]; exact ((HB.out.setCell hg1 _).setCell hg1 _).setCell hg1 _); clear HSEG HO HB; have HO := Aside0.mk hp_; have HB := Aside0.mk hb_; clear hw hp_ hb_))
          go_roundg (l.length - (j + 1))
          case measure => omega
          case rel =>
            refine ⟨i + 1, j + 1, dk.set i y, by go_num, by go_num, by omega, by omega, by omega, by rw [List.length_set]; exact hdl, ⟨?_⟩, ⟨?_⟩, HO, HB⟩
            · rw [stand.taken hlt, HY.out, hq, if_neg (by decide), stand.setTake y (by omega), HT.out]
            · rw [List.drop_set_of_lt (by omega)]
              have := congrArg (List.drop 1) HD.out
              simpa [List.drop_drop] using this
      · obtain rfl : j = l.length := by omega
        have hltz : ¬ (l.length : Int) < (l.length : Int) := by omega
        have hile : (i : Int) ≤ (l.length : Int) := by omega
        have hil2 : i ≤ l.length := by omega
        have hcz : (l.length : Int) ≤ (c : Int) := by omega
        have hiz : (0 : Int) ≤ (i : Int) := Int.natCast_nonneg _
        obtain ⟨L, hL, hcl⟩ := stand.clear wr g1 (i * 3) (l.length - i) (c - i) (by omega) (fun q hq => by
          obtain ⟨ce, hcl_, _, hcc, _⟩ := Kd.R_elem HO.out z47 ((i + q / 3 : Nat) : Int) (by omega) (by omega)
          have hq3 : q % 3 < 3 := Nat.mod_lt _ (by decide)
          have hcq : q % 3 < ce.length := by rw [hcl_]; exact hq3
          have := hcc (q % 3) _ (List.getElem?_eq_getElem hcq)
          have hsz : (k47).sz = 3 := rfl
          rw [hsz, Int.toNat_natCast, show (i + q / 3) * 3 + q % 3 = i * 3 + q by omega] at this
          rw [this]
          rfl) (fun q hq => by
          obtain ⟨_, _, _, _, hfr⟩ := Kd.R_elem HO.out z47 ((i : Nat) : Int) (by omega) (by omega)
          have := hfr q
          have hsz : (k47).sz = 3 := rfl
          rwa [hsz, Int.toNat_natCast] at this)
        have hpast := stand.past HO.out hil2 L hL
        go_wp2
        go_ret
        have hfin := HT.out
        rw [List.take_length] at hfin
        rw [hfin] at hpast
        refine ⟨_, rfl, hpast.1, ?_⟩
        exact HB.out.grown hpast.2 hwB (by intro k_ hk_; injection hk_ with hk_; omega)
def impl_standing.ok (e : S47) : Bool := decide (0 ≤ e.f0 ∧ e.f0 ≤ 10 ∧ 0 ≤ e.f1 ∧ e.f1 ≤ 10)
/-- What is reached behind an edge. -/
def impl_standing.add (R : Int → Bool) (e : S47) : Int → Bool := if (R e.f0 || R e.f1) = true then (fun y => if y = e.f1 then true else if y = e.f0 then true else R y) else R
def impl_standing.reach (l : List S47) : Nat → Int → Bool
  | 0 => fun y => if y = 0 then true else false
  | m + 1 => l.foldl impl_standing.add (impl_standing.reach l m)
def impl_standing.f (l0 : List S47) : Option (List S47) := if l0.length ≤ 10 ∧ l0.all impl_standing.ok = true then some (l0.filter fun e => !!impl_standing.reach l0 l0.length e.f0) else none
theorem stand.keyI : Maps.Keyed Try.prog 3 := Maps.int_keyed Try.underlying3
theorem stand.zB (w : World) : (zeroValue 4).run Try.prog w = .ok (.bool false) w := by kernel_rfl
theorem stand.wf10 (x : Int) (h : 0 ≤ x ∧ x ≤ 10) : (Lit.int .i64 x).wf = true := by
  obtain ⟨n, rfl⟩ := Int.eq_ofNat_of_zero_le h.1
  exact Go.Proofs.Ytnabbkaipfhmdaa.Mp.wfN n (by omega)
set_option maxHeartbeats 400000 in
set_option maxRecDepth 100000 in
theorem stand.one (gc b n : Nat) (R : Int → Bool) (x : S47) (W : World) (hc : W.heap[gc]? = some (.cells #[.map (some b)] 61 (0, 0))) (ho : Go.Proofs.Ytnabbkaipfhmdaa.Mp.OwnB W Try.prog 3 4 .i64 b n R) (hx : (Lit.int .i64 x.f0).wf = true) :
    Calls Try.prog 39 (#[.agg #[.int .i64 x.f0, .int .i64 x.f1, .bool x.f2]] ++ #[.pointer (some ⟨gc, 0, none⟩)]) W fun e w' => e = .returned (.bool (!R x.f0)) ∧ Below W.heap.size W w' := by
  have hu47 := Try.underlying47
  have HO := Aside0.mk ho
  have HB := Aside0.mk (Below.refl W.heap.size W)
  have hcc := (blk_cell hc 0).trans rfl
  have hcc2 := (blk_cell (blk_alloc hc (.cells #[.int .i64 x.f0, .int .i64 x.f1, .bool x.f2] 47)) 0).trans rfl
  clear hc ho
  show Calls _ _ #[.agg #[.int .i64 x.f0, .int .i64 x.f1, .bool x.f2], .pointer (some ⟨gc, 0, none⟩)] W _
  go_enter Try.func39, Try.ntmps39
  go_wp2_with (first | (at_lookup; refine Go.Proofs.Ytnabbkaipfhmdaa.Mp.step_lookB (by first | exact HO.out.alloc _ | exact (HO.out.alloc _).drew) stand.keyI Try.underlying61 Try.underlying4 Try.underlying3 (stand.zB _) (.tmp 4) (.tmp 6) x.f0 rfl rfl rfl rfl hx ?_))
  go_ret
  exact ⟨rfl, by first | exact below_alloc HB.out _ | exact below_drew (below_alloc HB.out _)⟩
theorem stand.snoc {l : List S47} {R : Int → Bool} {j : Nat} (hj : j < l.length) : (l.take (j + 1)).foldl impl_standing.add R = impl_standing.add ((l.take j).foldl impl_standing.add R) l[j] := by
  rw [List.take_succ_eq_append_getElem hj, List.foldl_append]
  rfl
theorem stand.okAt {l : List S47} (h : l.all impl_standing.ok = true) {j : Nat} (hj : j < l.length) : (0 ≤ l[j].f0 ∧ l[j].f0 ≤ 10) ∧ (0 ≤ l[j].f1 ∧ l[j].f1 ≤ 10) := by
  have := List.all_eq_true.1 h _ (List.getElem_mem hj)
  simp only [impl_standing.ok, decide_eq_true_eq] at this
  exact ⟨⟨this.1, this.2.1⟩, this.2.2⟩
set_option maxHeartbeats 4000000 in
set_option maxRecDepth 100000 in
theorem impl_standing.calls (A0 : Option Addr) (c0 : Nat) (l0 : List (S47)) (r : List (S47)) (w : World) (hr0 : Kd.C k47 w A0 l0.length l0) (hc0 : l0.length ≤ c0) (h : impl_standing.f l0 = some r) :
    Calls Try.prog 35 #[.slice A0 l0.length c0] w fun e w' => ∃ v0_ : Value, e = .returned (v0_) ∧ Kd.R k47 47 w' w.heap.size (fun _ => True) v0_ r ∧ Below w.heap.size w w' := by
  have hu47 := Try.underlying47
  have hmm := @run_makeMap Try.prog
  have hcd : l0.length ≤ 10 ∧ l0.all impl_standing.ok = true := by
    by_cases c : l0.length ≤ 10 ∧ l0.all impl_standing.ok = true
    · exact c
    · unfold impl_standing.f at h; rw [if_neg c] at h; cases h
  obtain rfl : (l0.filter fun e => !!impl_standing.reach l0 l0.length e.f0) = r := by
    unfold impl_standing.f at h; rw [if_pos hcd] at h; exact Option.some.inj h
  clear h
  have hlen := hcd.1
  have HOK := Aside0.mk hcd.2
  have HR := Aside0.mk hr0
  have HB := Aside0.mk (Below.refl w.heap.size w)
  clear hr0 hcd
  go_enter Try.func35, Try.ntmps35
  go_upto_region 2 with (first | ((with_reducible refine gate_ (.insert 61 (.tmp 6) (.const (.int .i64 0)) (.const (.bool true))) rfl ?_); refine Go.Proofs.Ytnabbkaipfhmdaa.Mp.step_insB (Go.Proofs.Ytnabbkaipfhmdaa.Mp.OwnB.made w Try.prog 3 4 .i64) stand.keyI Try.underlying61 Try.underlying4 Try.underlying3 (by decide) (.tmp 6) (.const (.int .i64 0)) (.const (.bool true)) 0 true rfl rfl rfl rfl rfl (by decide) ?_; intro w1 ho1 ht1))
  obtain ⟨b, hb⟩ : ∃ b, w.heap.size = b := ⟨_, rfl⟩
  obtain ⟨gc, hgc⟩ : ∃ gc, w1.heap.size = gc := ⟨_, rfl⟩
  have hgrow1 : (w.alloc (.map #[] 0)).grownBy w1 (some w.heap.size) := ht1.grown
  have hsz1 : w.heap.size + 1 ≤ gc := by have := hgrow1.size; simp at this; omega
  have hB1 : Below w.heap.size w w1 := (below_alloc HB.out _).grown hgrow1 (by simp) (by intro k_ hk_; injection hk_ with hk_; omega)
  have HC1 : Aside0 ((w1.alloc (.cells #[.map (some w.heap.size)] 61)).heap[gc]? = some (.cells #[.map (some w.heap.size)] 61 (0, 0))) := ⟨by rw [← hgc]; exact heap_alloc_new w1 _⟩
  have HO1 : Aside0 (Go.Proofs.Ytnabbkaipfhmdaa.Mp.OwnB (w1.alloc (.cells #[.map (some w.heap.size)] 61)) Try.prog 3 4 .i64 w.heap.size 1 (impl_standing.reach l0 0)) := ⟨ho1.alloc _⟩
  have HBB1 : Aside0 (Below w.heap.size w (w1.alloc (.cells #[.map (some b)] 61))) := ⟨below_alloc hB1 _⟩
  have HSZ := Aside0.mk hsz1
  have HBQ := Aside0.mk hb
  have hbc : b ≠ gc := by omega
  clear hgrow1 hB1 ho1 ht1 hsz1 HB
  rw [hb, hgc]
  rw [hb] at HC1 HO1
  clear hb hgc
  go_wp2
  go_loopg [10] l0.length (fun gg v10 wr => ∃ (m n : Nat), m ≤ l0.length ∧ l0.length - m ≤ gg ∧ v10 = .int .i64 m ∧ n ≤ 1 + 20 * m ∧ Aside0 (Go.Proofs.Ytnabbkaipfhmdaa.Mp.OwnB wr Try.prog 3 4 .i64 b n (impl_standing.reach l0 m)) ∧ Aside0 (wr.heap[gc]? = some (.cells #[.map (some b)] 61 (0, 0))) ∧ Aside0 (Below w.heap.size w wr))
  case atStart => exact ⟨0, 1, Nat.zero_le _, by omega, rfl, by omega, HO1, HC1, HBB1⟩
  case round =>
    clear HC1 HO1 HBB1
    obtain ⟨m, n, hm, hgg, rfl, hn, HO, HCC, HB⟩ := hrel
    by_cases hml : m < l0.length
    · have c1 : decide ((m : Int) < (l0.length : Int)) = true := decide_eq_true (by omega)
      go_wp2
      go_loopg [14] l0.length (fun gg2 v14 wr => ∃ (j n2 : Nat), j ≤ l0.length ∧ l0.length - j ≤ gg2 ∧ v14 = .int .i64 j ∧ n2 ≤ 1 + 20 * m + 2 * j ∧ Aside0 (Go.Proofs.Ytnabbkaipfhmdaa.Mp.OwnB wr Try.prog 3 4 .i64 b n2 ((l0.take j).foldl impl_standing.add (impl_standing.reach l0 m))) ∧ Aside0 (wr.heap[gc]? = some (.cells #[.map (some b)] 61 (0, 0))) ∧ Aside0 (Below w.heap.size w wr))
      case atStart => exact ⟨0, n, Nat.zero_le _, by omega, rfl, by omega, HO, HCC, HB⟩
      case round =>
        clear HO HCC HB
        obtain ⟨j, n2, hj, hgg2, rfl, hn2, HO, HCC, HB⟩ := hrel
        by_cases hjl : j < l0.length
        · have hltz : (j : Int) < (l0.length : Int) := by omega
          have d1 : decide ((j : Int) < (l0.length : Int)) = true := decide_eq_true hltz
          obtain ⟨ad, e0, hx0, hx1, hx2⟩ := at_T47 HR.out (j : Int) (by omega) hltz
          cases e0
          replace hx0 := (HB.out.cell (World.block_lt_of_cell? w _ hx0)).trans hx0
          replace hx1 := (HB.out.cell (World.block_lt_of_cell? w _ hx1)).trans hx1
          replace hx2 := (HB.out.cell (World.block_lt_of_cell? w _ hx2)).trans hx2
          have hrd : rd_T47 l0 (j : Int) = l0[j] := by simp [rd_T47, List.getD_eq_getElem?_getD, List.getElem?_eq_getElem hjl]
          rw [hrd] at hx0 hx1 hx2
          clear hrd
          simp only [Int.toNat_natCast] at hx0 hx1 hx2
          obtain ⟨hk0, hk1⟩ := stand.okAt HOK.out hjl
          obtain ⟨R, hR⟩ : ∃ R, (l0.take j).foldl impl_standing.add (impl_standing.reach l0 m) = R := ⟨_, rfl⟩
          have hnext := stand.snoc (R := impl_standing.reach l0 m) hjl
          rw [hR] at hnext HO
          obtain ⟨y, hy⟩ : ∃ y, l0[j] = y := ⟨_, rfl⟩
          rw [hy] at hx0 hx1 hx2 hk0 hk1 hnext
          have hw0 := stand.wf10 y.f0 hk0
          have hw1 := stand.wf10 y.f1 hk1
          have HNX := Aside0.mk hnext
          have HOA := Aside0.mk (HO.out.alloc (.cells #[.int .i64 y.f0, .int .i64 y.f1, .bool y.f2] 47))
          have HCA := Aside0.mk (blk_alloc HCC.out (.cells #[.int .i64 y.f0, .int .i64 y.f1, .bool y.f2] 47))
          have HBA := Aside0.mk (below_alloc HB.out (.cells #[.int .i64 y.f0, .int .i64 y.f1, .bool y.f2] 47))
          have hcA := (blk_cell HCA.out 0).trans rfl
          have hcW := (blk_cell HCC.out 0).trans rfl
          have hn3 : n2 + 1 < maxLen := by unfold maxLen; omega
          have HWS := Aside0.mk HB.out.size
          have HOB := HO
          clear hnext hR hy HO HCC HB hk0 hk1
          cases hA : R y.f0 with
          | true =>
            go_upto_region 8 with (first | (at_lookup; refine Go.Proofs.Ytnabbkaipfhmdaa.Mp.step_lookB (by first | exact HOA.out | exact HOA.out.drew) stand.keyI Try.underlying61 Try.underlying4 Try.underlying3 (stand.zB _) (.tmp 18) (.tmp 20) y.f0 rfl rfl rfl rfl hw0 ?_; rw [hA]))
            have hbx : (wr.alloc (.cells #[.int .i64 y.f0, .int .i64 y.f1, .bool y.f2] 47)).heap[wr.heap.size]? = some (.cells #[.int .i64 y.f0, .int .i64 y.f1, .bool y.f2] 47 (0, 0)) := heap_alloc_new wr _
            have q0 : (wr.alloc (.cells #[.int .i64 y.f0, .int .i64 y.f1, .bool y.f2] 47)).drew.cell? ⟨gc, 0, none⟩ = some (.map (some b)) := hcA
            have q1 : (wr.alloc (.cells #[.int .i64 y.f0, .int .i64 y.f1, .bool y.f2] 47)).drew.cell? ⟨wr.heap.size, 0, none⟩ = some (.int .i64 y.f0) := (blk_cell hbx 0).trans rfl
            have q2 : (wr.alloc (.cells #[.int .i64 y.f0, .int .i64 y.f1, .bool y.f2] 47)).drew.cell? ⟨wr.heap.size, 1, none⟩ = some (.int .i64 y.f1) := (blk_cell hbx 1).trans rfl
            have hbb : b < wr.heap.size := HOB.out.lt
            obtain ⟨bx, hbxx⟩ : ∃ bx, wr.heap.size = bx := ⟨_, rfl⟩
            have n1 : some gc ≠ some b := fun e => hbc (by injection e with e; exact e.symm)
            have n2_ : some bx ≠ some b := fun e => by injection e; omega
            rw [hbxx] at q1 q2
            obtain ⟨w2, hr2, ho2, ht2⟩ := (HOA.out.drew).put stand.keyI Try.underlying61 Try.underlying4 (by omega) Try.underlying3 hw0 true
            obtain ⟨w3, hr3, ho3, ht3⟩ := ho2.put stand.keyI Try.underlying61 Try.underlying4 hn3 Try.underlying3 hw1 true
            have r0 := ht2.grown.cell q0 n1
            have r1 := ht2.grown.cell q1 n2_
            have r2 := ht2.grown.cell q2 n2_
            have t0 := ht3.grown.cell r0 n1
            have t1 := ht3.grown.cell r1 n2_
            have t2 := ht3.grown.cell r2 n2_
            have HO3 := Aside0.mk ho3
            have HB3 := Aside0.mk ((below_drew HBA.out).grown ht2.grown HBA.out.size (by intro k_ hk_; injection hk_ with hk_; have := HBQ.out; omega) |>.grown ht3.grown (Nat.le_trans HBA.out.size ht2.grown.size) (by intro k_ hk_; injection hk_ with hk_; have := HBQ.out; omega))
            have HC3 := Aside0.mk ((ht3.grown.block gc (blk_lt (blk_grown (row := some b) (show (wr.alloc (.cells #[.int .i64 y.f0, .int .i64 y.f1, .bool y.f2] 47)).drew.heap[gc]? = _ from HCA.out) ht2.grown n1)) n1).trans (blk_grown (row := some b) (show (wr.alloc (.cells #[.int .i64 y.f0, .int .i64 y.f1, .bool y.f2] 47)).drew.heap[gc]? = _ from HCA.out) ht2.grown n1))
            clear ho2 ho3 ht2 ht3 hcA hcW hbx
            generalize hW8 : wr.alloc (.cells #[.int .i64 y.f0, .int .i64 y.f1, .bool y.f2] 47) = W8 at *
            rw [hbxx]
            go_region_held3 (fun W => W.cell? ⟨gc, 0, none⟩ = some (.map (some b)) ∧ W.cell? ⟨bx, 0, none⟩ = some (.int .i64 y.f0) ∧ W.cell? ⟨bx, 1, none⟩ = some (.int .i64 y.f1)) (go_keep) (fail)
            go_wp2
            go_roundg (l0.length - (j + 1))
            case measure => omega
            case rel =>
              refine ⟨j + 1, n2 + 1 + 1, by omega, by omega, by go_num, by omega, ⟨?_⟩, ⟨HC3.out⟩, HB3⟩
              rw [HNX.out]
              unfold impl_standing.add
              rw [if_pos (by simp [hA])]
              exact HO3.out
          | false =>
            cases hA2 : R y.f1 with
            | true =>
              go_upto_region 8 with (first | (at_lookup; refine Go.Proofs.Ytnabbkaipfhmdaa.Mp.step_lookB (by first | exact HOA.out | exact HOA.out.drew) stand.keyI Try.underlying61 Try.underlying4 Try.underlying3 (stand.zB _) (.tmp 18) (.tmp 20) y.f0 rfl rfl rfl rfl hw0 ?_; rw [hA]) | ((with_reducible refine gate_dst (N := 26) rfl ?_); (try (refine gate_guard (by rfl) ?_; dsimp only)); refine Go.Proofs.Ytnabbkaipfhmdaa.Mp.step_lookB (by first | exact HOA.out | exact HOA.out.drew) stand.keyI Try.underlying61 Try.underlying4 Try.underlying3 (stand.zB _) (.tmp 23) (.tmp 25) y.f1 rfl rfl rfl rfl hw1 ?_; rw [hA2]))
              have hbx : (wr.alloc (.cells #[.int .i64 y.f0, .int .i64 y.f1, .bool y.f2] 47)).heap[wr.heap.size]? = some (.cells #[.int .i64 y.f0, .int .i64 y.f1, .bool y.f2] 47 (0, 0)) := heap_alloc_new wr _
              have q0 : (wr.alloc (.cells #[.int .i64 y.f0, .int .i64 y.f1, .bool y.f2] 47)).drew.cell? ⟨gc, 0, none⟩ = some (.map (some b)) := hcA
              have q1 : (wr.alloc (.cells #[.int .i64 y.f0, .int .i64 y.f1, .bool y.f2] 47)).drew.cell? ⟨wr.heap.size, 0, none⟩ = some (.int .i64 y.f0) := (blk_cell hbx 0).trans rfl
              have q2 : (wr.alloc (.cells #[.int .i64 y.f0, .int .i64 y.f1, .bool y.f2] 47)).drew.cell? ⟨wr.heap.size, 1, none⟩ = some (.int .i64 y.f1) := (blk_cell hbx 1).trans rfl
              have hbb : b < wr.heap.size := HOB.out.lt
              obtain ⟨bx, hbxx⟩ : ∃ bx, wr.heap.size = bx := ⟨_, rfl⟩
              have n1 : some gc ≠ some b := fun e => hbc (by injection e with e; exact e.symm)
              have n2_ : some bx ≠ some b := fun e => by injection e; omega
              rw [hbxx] at q1 q2
              obtain ⟨w2, hr2, ho2, ht2⟩ := (HOA.out.drew).put stand.keyI Try.underlying61 Try.underlying4 (by omega) Try.underlying3 hw0 true
              obtain ⟨w3, hr3, ho3, ht3⟩ := ho2.put stand.keyI Try.underlying61 Try.underlying4 hn3 Try.underlying3 hw1 true
              have r0 := ht2.grown.cell q0 n1
              have r1 := ht2.grown.cell q1 n2_
              have r2 := ht2.grown.cell q2 n2_
              have t0 := ht3.grown.cell r0 n1
              have t1 := ht3.grown.cell r1 n2_
              have t2 := ht3.grown.cell r2 n2_
              have HO3 := Aside0.mk ho3
              have HB3 := Aside0.mk ((below_drew HBA.out).grown ht2.grown HBA.out.size (by intro k_ hk_; injection hk_ with hk_; have := HBQ.out; omega) |>.grown ht3.grown (Nat.le_trans HBA.out.size ht2.grown.size) (by intro k_ hk_; injection hk_ with hk_; have := HBQ.out; omega))
              have HC3 := Aside0.mk ((ht3.grown.block gc (blk_lt (blk_grown (row := some b) (show (wr.alloc (.cells #[.int .i64 y.f0, .int .i64 y.f1, .bool y.f2] 47)).drew.heap[gc]? = _ from HCA.out) ht2.grown n1)) n1).trans (blk_grown (row := some b) (show (wr.alloc (.cells #[.int .i64 y.f0, .int .i64 y.f1, .bool y.f2] 47)).drew.heap[gc]? = _ from HCA.out) ht2.grown n1))
              clear ho2 ho3 ht2 ht3 hcA hcW hbx
              generalize hW8 : wr.alloc (.cells #[.int .i64 y.f0, .int .i64 y.f1, .bool y.f2] 47) = W8 at *
              rw [hbxx]
              go_region_held3 (fun W => W.cell? ⟨gc, 0, none⟩ = some (.map (some b)) ∧ W.cell? ⟨bx, 0, none⟩ = some (.int .i64 y.f0) ∧ W.cell? ⟨bx, 1, none⟩ = some (.int .i64 y.f1)) (go_keep) (fail)
              go_wp2
              go_roundg (l0.length - (j + 1))
              case measure => omega
              case rel =>
                refine ⟨j + 1, n2 + 1 + 1, by omega, by omega, by go_num, by omega, ⟨?_⟩, ⟨HC3.out⟩, HB3⟩
                rw [HNX.out]
                unfold impl_standing.add
                rw [if_pos (by simp [hA, hA2])]
                exact HO3.out
            | false =>
              go_wp2_with (first | (at_lookup; refine Go.Proofs.Ytnabbkaipfhmdaa.Mp.step_lookB (by first | exact HOA.out | exact HOA.out.drew) stand.keyI Try.underlying61 Try.underlying4 Try.underlying3 (stand.zB _) (.tmp 18) (.tmp 20) y.f0 rfl rfl rfl rfl hw0 ?_; rw [hA]) | ((with_reducible refine gate_dst (N := 26) rfl ?_); (try (refine gate_guard (by rfl) ?_; dsimp only)); refine Go.Proofs.Ytnabbkaipfhmdaa.Mp.step_lookB (by first | exact HOA.out | exact HOA.out.drew) stand.keyI Try.underlying61 Try.underlying4 Try.underlying3 (stand.zB _) (.tmp 23) (.tmp 25) y.f1 rfl rfl rfl rfl hw1 ?_; rw [hA2]))
              go_roundg (l0.length - (j + 1))
              case measure => omega
              case rel =>
                refine ⟨j + 1, n2, by omega, by omega, by go_num, by omega, ⟨?_⟩, HCA, HBA⟩
                rw [HNX.out]
                unfold impl_standing.add
                rw [hA, hA2, if_neg (by decide)]
                exact HOA.out
        · obtain rfl : j = l0.length := by omega
          have d1 : decide ((l0.length : Int) < (l0.length : Int)) = false := decide_eq_false (by omega)
          go_wp2
          go_roundg (l0.length - (m + 1))
          case measure => omega
          case rel =>
            refine ⟨m + 1, n2, by omega, by omega, by go_num, by omega, ⟨?_⟩, HCC, HB⟩
            have := HO.out
            rw [List.take_length] at this
            exact this
    · obtain rfl : m = l0.length := by omega
      have c1 : decide ((l0.length : Int) < (l0.length : Int)) = false := decide_eq_false (by omega)
      have eg : ∀ args w, (callFunc 39 args).run Try.prog w = .ok (.enter 39 args) w := fun args w => enters_ Try.func39 rfl rfl args w
      have HP := Aside0.mk (show stand.Pred 39 #[.pointer (some ⟨gc, 0, none⟩)] (fun e => !impl_standing.reach l0 l0.length e.f0) l0 wr from fun W x hx hBW => by
        obtain ⟨q, hq, rfl⟩ := List.mem_iff_getElem.1 hx
        exact stand.one gc b n _ _ W ((hBW.block gc (blk_lt HCC.out)).trans HCC.out) (HO.out.kept (grown_of_below hBW none) (by simp)) (stand.wf10 _ (stand.okAt HOK.out hq).1))
      have HEG := Aside0.mk eg
      clear eg
      go_wp2_with (first
        | (go_at_call 26; refine (stand.clone A0 c0 l0 _ (Kd.C_below HR.out HB.out) (by omega)).mono ?_; rintro e w5 ⟨v5, rfl, ho5, hb5⟩; have HO5 := Aside0.mk ho5; have HB5 := Aside0.mk hb5; clear ho5 hb5)
        | (go_at_call 38; refine (stand.deleteFunc 39 #[.pointer (some ⟨gc, 0, none⟩)] HEG.out (fun e => !impl_standing.reach l0 l0.length e.f0) l0 v5 wr _ wr.heap.size (Nat.le_refl _) HB5.out HB5.out.size HO5.out HP.out).mono ?_; rintro e w6 ⟨v6, rfl, ho6, hb6⟩; have HO6 := Aside0.mk ho6; have HB6 := Aside0.mk hb6; clear ho6 hb6))
      go_ret
      exact ⟨_, rfl, Kd.R_lower HO6.out HB.out.size, below_weaken (below_then HB.out HB.out.size HB5.out) HB.out.size HB6.out⟩

end Go.Proofs.Ytnabbkaipfhmdaa.QFnExactSumOfPictures
