/- The Go functions that the law FnExactGameOfNimber reaches, as Lean functions, and what their calls do. Written by a program of this session. -/
import Derived.Test.YtpiafobcmhfclaaQFnExactGameOfNimberx0
import Derived.Test.YtpiafobcmhfclaaQFnExactGameOfNimberx1
import Derived.Test.YtpiafobcmhfclaaQFnExactGameOfNimberx2
namespace Go.Proofs.Ytpiafobcmhfclaa.QFnExactGameOfNimber
open Go.RowKit Go.Proofs.YtpiafobcmhfclaaW.PrintWords Go.Proofs.YtpiafobcmhfclaaW.PrintLast Go.Proofs.YtpiafobcmhfclaaW.PrintMore
attribute [local go_sem] max2_int min2_int max_two min_two max_three min_three max_four min_four   -- for this text's walks alone
set_option linter.unusedVariables false
set_option linter.unusedSimpArgs false

/-! ### laws_FnExactGameOfNimber: function 3 -/
/-! ### positions whose two rows lie apart; a row of them within bounds -/
def apartCells (cs : List Value) : Prop := ∀ v0 v1, cs = [v0, v1] → ∀ k, v0.ownBlock = some k → some k ≠ v1.ownBlock
def p57 : Kd S57 where
  sz := k57.sz
  E := k57.E
  K := k57.K
  M := fun w base ok x cs => k57.M w base ok x cs ∧ apartCells cs
  K_len := fun h => k57.K_len h
  K_one := fun h => k57.K_one h
  K_below := fun hb h => k57.K_below hb h
  K_of_M := fun h => k57.K_of_M h.1
  M_mono := fun hok h => ⟨k57.M_mono hok h.1, h.2⟩
  M_bound := fun h => ⟨k57.M_bound h.1, h.2⟩
  M_move := fun hm h => ⟨k57.M_move hm h.1, h.2⟩
  M_lower := fun hb h => ⟨k57.M_lower hb h.1, h.2⟩
theorem p57_openM {w : World} {base : Nat} {ok : Nat → Prop} {x : S57} {cs : List Value} (h : p57.M w base ok x cs) : ∃ v0 v1, cs = [v0, v1] ∧ (Kd.int .i64).R 3 w base ok v0 x.f0 ∧ (Kd.int .i64).R 3 w base ok v1 x.f1 := k57_openM h.1
theorem p57_mkA (w : World) (base : Nat) (ok : Nat → Prop) (x : S57) {v0 v1 : Value} (ha : ∀ k, v0.ownBlock = some k → some k ≠ v1.ownBlock) (g0 : (Kd.int .i64).R 3 w base ok v0 x.f0) (g1 : (Kd.int .i64).R 3 w base ok v1 x.f1) : p57.M w base ok x [v0, v1] :=
  ⟨k57_mkM w base ok x g0 g1, fun a b e k hk => by
    injection e with e1 e2
    injection e2 with e2 _
    subst e1 e2
    exact ha k hk⟩
theorem nilApart : ∀ k, (Value.slice none 0 0).ownBlock = some k → some k ≠ (Value.slice none 0 0).ownBlock := fun k hk => by simp [Value.ownBlock] at hk
theorem pS_k {e : Nat} {w : World} {base : Nat} {ok : Nat → Prop} {v : Value} {xs : List S57} (h : Kd.S p57 e w base ok v xs) : Kd.S k57 e w base ok v xs := by
  obtain ⟨f, h0, inner, ho, hr⟩ := h
  exact ⟨f, h0, inner, ho, hr.1, fun j p hj => (hr.2 j p hj).1⟩
/-- A row of positions whose blocks are lo .. hi - 1. -/
def Iv (lo hi : Nat) (b : Nat) : Prop := lo ≤ b ∧ b < hi
def OwnS (w : World) (lo hi : Nat) (v : Value) (xs : List S57) : Prop := hi ≤ w.heap.size ∧ Kd.S p57 57 w lo (Iv lo hi) v xs
theorem OwnS.of {W w : World} {v : Value} {xs : List S57} (h : Kd.S p57 57 w W.heap.size (fun _ => True) v xs) : OwnS w W.heap.size w.heap.size v xs := ⟨Nat.le_refl _, Kd.S_mono (Kd.S_bound h) (fun k hk => ⟨hk.2.1, hk.2.2.1⟩)⟩
theorem OwnS.below {w w1 : World} {lo hi : Nat} {v : Value} {xs : List S57} (h : OwnS w lo hi v xs) (hb : Below w.heap.size w w1) : OwnS w1 lo hi v xs := ⟨Nat.le_trans h.1 hb.size, Kd.S_below h.2 hb⟩
theorem OwnS.kept {w w1 : World} {lo hi a b : Nat} {v : Value} {xs : List S57} (h : OwnS w lo hi v xs) (hk : Kept w w1 (Iv a b)) (hd : hi ≤ a ∨ b ≤ lo) : OwnS w1 lo hi v xs :=
  ⟨Nat.le_trans h.1 hk.1, Kd.S_step h.2 (fun k ho hl => hk.2 k hl (fun h2 => by
    have h3 : lo ≤ k ∧ k < hi := ho
    have h4 : a ≤ k ∧ k < b := h2
    omega))⟩
theorem OwnS.reads {w : World} {lo hi n c : Nat} {A : Option Addr} {xs : List S57} (h : OwnS w lo hi (.slice A n c) xs) : n = xs.length ∧ n ≤ c ∧ Kd.C k57 w A xs.length xs := Kd.S_reads' (pS_k h.2)
theorem OwnS.form {w : World} {lo hi : Nat} {v : Value} {xs : List S57} (h : OwnS w lo hi v xs) : ∃ A c, v = .slice A xs.length c ∧ xs.length ≤ c := by
  obtain ⟨A, c, e, hc, _⟩ := Kd.S_reads h.2
  exact ⟨A, c, e, hc⟩
theorem int_raise {w : World} {b lo : Nat} {ok : Nat → Prop} {v : Value} {ys : List Int} (h : (Kd.int .i64).R 3 w b ok v ys) (hb : ∀ k, v.ownBlock = some k → lo ≤ k) : (Kd.int .i64).R 3 w lo ok v ys := by
  obtain ⟨h0, inner, ho, hr⟩ := h
  refine ⟨h0, inner, ⟨ho.1, ?_⟩, hr⟩
  rcases ho.2 with h2 | ⟨g, cap, cur, hv, hg, r⟩
  · exact .inl h2
  · exact .inr ⟨g, cap, cur, hv, hb g (by rw [hv]; rfl), r⟩
theorem Kept.more {w W W2 : World} {S S2 : Nat → Prop} (h : Kept w W S) (k : Kept W W2 S2) (hs : ∀ b, S2 b → S b) : Kept w W2 S := h.then_ k (fun b hb => .inl (hs b hb))
def laws_markPositionS.f (k : Nat) : List S57 → Int → Option (Int × List S57)
  | [], a => some (a, [])
  | p :: ps, a => (laws_markIntS.f k p.f0 a).bind fun x => (laws_markIntS.f k p.f1 x.1).bind fun y => (laws_markPositionS.f k ps y.1).bind fun z => some (z.1, ⟨x.2, y.2⟩ :: z.2)
set_option maxHeartbeats 4000000 in
set_option maxRecDepth 100000 in
theorem laws_markPositionS.callsA (k : Nat) (lo hi : Nat) (v : Value) (l : List S57) (a1 r1 : Int) (r2 : List S57) (w0 w : World) (hB : Below w0.heap.size w0 w) (h0 : w0.heap.size ≤ lo) (ho : OwnS w lo hi v l) (h : laws_markPositionS.f k l a1 = some (r1, r2)) :
    Calls Try.prog 14 #[v, .int .i64 a1] w fun e w' => e = .returned (.int .i64 r1) ∧ OwnS w' lo hi v r2 ∧ Below w0.heap.size w0 w' ∧ Kept w w' (Iv lo hi) := by
  obtain ⟨A, c, rfl, hcap⟩ := ho.form
  have H0 := Aside0.mk h0
  have HB := Aside0.mk hB
  have HO := Aside0.mk ho
  have HF := Aside0.mk h
  have HK := Aside0.mk (Kept.refl w (Iv lo hi))
  clear h0 hB ho h hcap
  go_enter Try.func14, Try.ntmps14
  go_wp2
  go_loopg [1, 5] l.length (fun kq v1 v5 w' => ∃ (D R R' : List S57) (x1 x5 : Int), v1 = .int .i64 x1 ∧ v5 = .int .i64 x5 ∧ Aside0 (x5 = (D.length : Int)) ∧ Aside0 (laws_markPositionS.f k R x1 = some (r1, R')) ∧ Aside0 (r2 = D ++ R') ∧ Aside0 (D.length + R.length = l.length ∧ R.length ≤ kq) ∧ Aside0 (OwnS w' lo hi (.slice A l.length c) (D ++ R)) ∧ Aside0 (Below w0.heap.size w0 w') ∧ Aside0 (Kept w w' (Iv lo hi)))
  case atStart => exact ⟨[], l, r2, a1, 0, rfl, rfl, ⟨rfl⟩, HF, ⟨rfl⟩, ⟨by simp⟩, HO, HB, HK⟩
  case round =>
    clear HB HO HF HK
    obtain ⟨D, R, R', x1, x5, rfl, rfl, HX, HF, HR, HL, HO, HB, HK⟩ := hrel
    cases R with
    | nil =>
      have hc : decide (x5 < (l.length : Int)) = false := decide_eq_false (by have := HX.out; have := HL.out; simp only [List.length_nil] at this; omega)
      have H := HF.out
      clear HF
      simp only [laws_markPositionS.f, Option.some.injEq, Prod.mk.injEq] at H
      obtain ⟨rfl, rfl⟩ := H
      go_wp2
      go_ret
      refine ⟨rfl, ?_, HB.out, HK.out⟩
      have h1 := HO.out
      rw [HR.out]
      exact h1
    | cons p ps =>
      have hlt : x5 < (l.length : Int) := by have := HX.out; have := HL.out; simp only [List.length_cons] at this; omega
      have hge : 0 ≤ x5 := by have := HX.out; omega
      have hc : decide (x5 < (l.length : Int)) = true := decide_eq_true hlt
      have hc0 : decide (0 ≤ x5) = true := decide_eq_true hge
      have H := HF.out
      clear HF
      simp only [laws_markPositionS.f] at H
      obtain ⟨⟨y1, ys⟩, A1, H⟩ := Option.bind_eq_some_iff.mp H
      obtain ⟨⟨z1, zs⟩, A2, H⟩ := Option.bind_eq_some_iff.mp H
      obtain ⟨⟨q1, qs⟩, A3, H⟩ := Option.bind_eq_some_iff.mp H
      simp only [Option.some.injEq, Prod.mk.injEq] at H
      obtain ⟨rfl, rfl⟩ := H
      have HA1 := Aside0.mk A1
      have HA2 := Aside0.mk A2
      have HA3 := Aside0.mk A3
      clear A1 A2 A3
      obtain ⟨g, cap, ev, hlg, hgs, hcells⟩ := Kd.S_form HO.out.2 (by have := HL.out; simp only [List.length_append, List.length_cons] at this ⊢; omega)
      injection ev with ea en ec
      subst ea ec
      clear en hcells
      obtain ⟨oki, cs, hcl, hM, hcc, hfr, hoki, hH⟩ := Kd.S_elem HO.out.2 z57 x5 hge hlt
      have hap := hM.2
      obtain ⟨v0, v1, rfl, hr0, hr1⟩ := p57_openM hM
      have hpe : (D ++ p :: ps).getD x5.toNat z57 = p := by
        have : x5.toNat = D.length := by have := HX.out; omega
        rw [this]
        simp [List.getD_eq_getElem?_getD]
      rw [hpe] at hr0 hr1
      have hap' : ∀ b, v0.ownBlock = some b → some b ≠ v1.ownBlock := hap v0 v1 rfl
      have hx0 : wr.cell? ⟨g, x5.toNat * 2, none⟩ = some v0 := hcc 0 _ rfl
      have hx1 : wr.cell? ⟨g, x5.toNat * 2 + 1, none⟩ = some v1 := hcc 1 _ rfl
      have hv0 := Kd.R_val hr0
      have hv1 := Kd.R_val hr1
      obtain ⟨Ac0, cc0, ev0⟩ := Kd.R_slice hr0
      obtain ⟨Ac1, cc1, ev1⟩ := Kd.R_slice hr1
      subst ev0 ev1
      have HAP := Aside0.mk hap'
      have H0R := Aside0.mk hr0
      have H1R := Aside0.mk hr1
      have HHo := Aside0.mk hH
      have HOK := Aside0.mk hoki
      have HLT := Aside0.mk (And.intro hge hlt)
      have HHI := Aside0.mk HO.out.1
      have HN := Aside0.mk HO.out.reads.2.2.2.1
      have HLN := Aside0.mk HO.out.reads.1
      have HG := Aside0.mk (And.intro hlg hgs)
      have p10 := eq_true hge
      have q10 := eq_true hlt
      clear hap hap' hM hr0 hr1 hcc hfr hH hoki hcl hpe hge hlt HO hv0 hv1 hlg hgs
      have hwr := Aside0.mk (show wrap64 (x5 + 1) = x5 + 1 by have := HLT.out; have := HN.out; have := HLN.out; unfold wrap64; omega)
      go_wp2_with (first
        | ((with_reducible refine gate_callee (f := 27) rfl ?_); refine goesL_ (some 18) rfl rfl Try.func27 (by kernel_rfl) rfl #[.slice Ac0 p.f0.length cc0, .int .i64 x1] rfl (by (try simp only [List.map_toArray, List.map_cons, List.map_nil]); first | done | rfl) ?_; refine (laws_markIntS.calls k (fun b => some b = (Value.slice Ac0 p.f0.length cc0).ownBlock) (.slice Ac0 p.f0.length cc0) p.f0 x1 y1 ys w0 _ HB.out (Kd.R_lower (Kd.R_tight rfl H0R.out) H0.out) HA1.out).mono ?_; rintro e wa ⟨rfl, hr, hb, hk⟩; refine ⟨_, rfl, ?_⟩; have hP : ∀ b, some b = (Value.slice Ac0 p.f0.length cc0).ownBlock → oki b := fun b hb => H0R.out.1 b hb.symm; have n0_ := Aside0.mk (Kd.H_step HHo.out (fun b hb hn hl => hk.2 b hl (fun he => hn (hP b he)))); have n1_ := Aside0.mk (Kd.R_mono (Kd.R_tight rfl (int_raise hr (fun b hb => Kd.R_base H0R.out b hb))) (fun b hb => H0R.out.1 b hb.symm)); have n2_ := Aside0.mk (Kd.R_mono (Kd.R_step (Kd.R_tight rfl H1R.out) (fun b hb hl => hk.2 b hl (fun he => HAP.out b he.symm hb))) (fun b hb => H1R.out.1 b hb.symm)); have n3_ := Aside0.mk hb; have n4_ := Aside0.mk (Kept.more HK.out hk (fun b hb => (HOK.out b (hP b hb)).1)); have n5_ := Aside0.mk (Nat.le_trans HHI.out hk.1); have m1_ := cell_kept hx1 hk (fun he => (HOK.out _ (hP _ he)).2 rfl); clear hx0 hx1; have hx1 := m1_; clear m1_; clear HHo H0R H1R HB HK HHI; have HHo := n0_; have H0R := n1_; have H1R := n2_; have HB := n3_; have HK := n4_; have HHI := n5_; clear n0_ n1_ n2_ n3_ n4_ n5_ hr hb hk hP)
        | ((with_reducible refine gate_callee (f := 27) rfl ?_); refine goesL_ (some 25) rfl rfl Try.func27 (by kernel_rfl) rfl #[.slice Ac1 p.f1.length cc1, .int .i64 y1] rfl (by (try simp only [List.map_toArray, List.map_cons, List.map_nil]); first | done | rfl) ?_; refine (laws_markIntS.calls k (fun b => some b = (Value.slice Ac1 p.f1.length cc1).ownBlock) (.slice Ac1 p.f1.length cc1) p.f1 y1 z1 zs w0 _ HB.out (Kd.R_lower (Kd.R_tight rfl H1R.out) H0.out) HA2.out).mono ?_; rintro e wb ⟨rfl, hr, hb, hk⟩; refine ⟨_, rfl, ?_⟩; have hP : ∀ b, some b = (Value.slice Ac1 p.f1.length cc1).ownBlock → oki b := fun b hb => H1R.out.1 b hb.symm; have n0_ := Aside0.mk (Kd.H_step HHo.out (fun b hb hn hl => hk.2 b hl (fun he => hn (hP b he)))); have n1_ := Aside0.mk (Kd.R_mono (Kd.R_tight rfl (int_raise hr (fun b hb => Kd.R_base H1R.out b hb))) (fun b hb => H1R.out.1 b hb.symm)); have n2_ := Aside0.mk (Kd.R_mono (Kd.R_step (Kd.R_tight rfl H0R.out) (fun b hb hl => hk.2 b hl (fun he => HAP.out b hb.symm he))) (fun b hb => H0R.out.1 b hb.symm)); have n3_ := Aside0.mk hb; have n4_ := Aside0.mk (Kept.more HK.out hk (fun b hb => (HOK.out b (hP b hb)).1)); have n5_ := Aside0.mk (Nat.le_trans HHI.out hk.1); clear hx1; clear HHo H0R H1R HB HK HHI; have HHo := n0_; have H1R := n1_; have H0R := n2_; have HB := n3_; have HK := n4_; have HHI := n5_; clear n0_ n1_ n2_ n3_ n4_ n5_ hr hb hk hP))
      go_roundg ps.length
      case measure => have := HL.out; simp only [List.length_cons] at this; omega
      case rel =>
        refine ⟨D ++ [⟨ys, zs⟩], ps, qs, z1, wrap64 (x5 + 1), rfl, rfl, ⟨?_⟩, HA3, ⟨?_⟩, ⟨?_⟩, ⟨HHI.out, ?_⟩, HB, HK⟩
        · rw [hwr.out, HX.out, List.length_append, List.length_cons, List.length_nil]
          omega
        · rw [HR.out, List.append_assoc]
          rfl
        · have := HL.out
          simp only [List.length_append, List.length_cons, List.length_nil] at this ⊢
          omega
        · have hb := Kd.H_back HHo.out (x' := (⟨ys, zs⟩ : S57)) (p57_mkA _ _ _ _ HAP.out H0R.out H1R.out) (fun _ h => h)
          have e : (D ++ p :: ps).set x5.toNat (⟨ys, zs⟩ : S57) = (D ++ [⟨ys, zs⟩]) ++ ps := by
            have : x5.toNat = D.length := by have := HX.out; omega
            rw [this, List.set_append_right _ _ (Nat.le_refl _)]
            simp
          rw [e] at hb
          exact hb
set_option maxHeartbeats 8000000 in
set_option maxRecDepth 100000 in
theorem spec_gaNim.callsA (k : Nat) (a0 : Int) (r : List (S57)) (w : World) (h : spec_gaNim.f k a0 = some r) :
    Calls Try.prog 41 #[.int .i64 a0] w fun e w' => ∃ v0_ : Value, e = .returned (v0_) ∧ Kd.S p57 57 w' w.heap.size (fun _ => True) v0_ r ∧ Below w.heap.size w w' := by
  have hu57 := Try.underlying57
  have HB := Aside0.mk (Below.refl w.heap.size w)
  have H : (spec_gaNim.l0 k a0 ([] : List (S57)) ([] : List Int) 0) = some r := h
  clear h
  have H' := Aside0.mk H
  clear H
  go_enter Try.func41, Try.ntmps41
  go_wp2
  go_loopg [3, 4, 5] k (fun kq v3 v4 v5 w' => ∃ (x3_1 : List (S57)) (x4_1 : List Int) (x5_1 : Int), v5 = .int .i64 x5_1 ∧ Aside0 (spec_gaNim.l0 kq a0 x3_1 x4_1 x5_1 = some r) ∧ Aside0 (kq ≤ k) ∧ Aside0 (Kd.S p57 57 w' w.heap.size (fun k_ => some k_ ≠ (v4 : Value).ownBlock) v3 x3_1) ∧ Aside0 (Kd.R (Kd.int .i64) 3 w' w.heap.size (fun _ => True) v4 x4_1) ∧ Aside0 (Below w.heap.size w w'))
  case atStart => exact ⟨(([] : List (S57))), (([] : List Int)), (0), (by first | rfl | (simp; done) | (simp [*]; done)), H', ⟨Nat.le_refl _⟩, ⟨by first | exact Kd.S_nil _ _ _ _ _ | exact Kd.N_nil _ _ _ _ _ | exact Kd.V_nil _ _ _ _ _ | exact Kd.Q_nil _ _ _ _ _ | exact Kd.R_nil _ _ _ _ _⟩, ⟨by first | exact Kd.R_nil _ _ _ _ _ | exact Kd.N_nil _ _ _ _ _ | exact Kd.V_nil _ _ _ _ _ | exact Kd.Q_nil _ _ _ _ _ | exact Kd.S_nil _ _ _ _ _⟩, ⟨by repeat (first | (with_reducible first | exact HB.out | apply below_alloc | apply pw_below_drewN | apply below_drew1) | exact HB.out)⟩⟩
  case round =>
    clear H'
    obtain ⟨x3_1, x4_1, x5_1, rfl, HA, HK1, HO_3, HO_4, HB⟩ := hrel
    cases gk with
    | zero => exact absurd HA.out (by simp [spec_gaNim.l0])
    | succ k1 =>
      have H := HA.out
      clear HA
      simp only [spec_gaNim.l0] at H
      by_cases c2 : x5_1 ≤ a0
      · rw [if_pos c2] at H
        have c2b0 : decide (x5_1 ≤ a0) = true := decide_eq_true c2
        clear c2
        replace H := Option.bind_eq_some_iff.mp H
        obtain ⟨t107, A30, H⟩ := H
        replace H : ((spec_l1Own.f x4_1).bind fun t110 => (if x3_1.length < 2932031007402 then (if x4_1.length < 17592186044416 then (spec_gaNim.l0 k1 a0 (x3_1 ++ [(⟨t107, t110⟩ : S57)]) (x4_1 ++ [x5_1]) (wrap64 (x5_1 + 1))) else (none)) else (none))) = some r := H
        have A3 := Aside0.mk A30
        clear A30
        replace H := Option.bind_eq_some_iff.mp H
        obtain ⟨t110, A40, H⟩ := H
        replace H : (if x3_1.length < 2932031007402 then (if x4_1.length < 17592186044416 then (spec_gaNim.l0 k1 a0 (x3_1 ++ [(⟨t107, t110⟩ : S57)]) (x4_1 ++ [x5_1]) (wrap64 (x5_1 + 1))) else (none)) else (none)) = some r := H
        have A4 := Aside0.mk A40
        clear A40
        by_cases c5 : x3_1.length < 2932031007402
        · rw [if_pos c5] at H
          have LMc5 := Aside0.mk c5
          clear c5
          obtain ⟨y113, hy113⟩ : ∃ y_ : List (S57), y_ = (x3_1 ++ [(⟨t107, t110⟩ : S57)]) := ⟨_, rfl⟩
          replace H : (if x4_1.length < 17592186044416 then (spec_gaNim.l0 k1 a0 y113 (x4_1 ++ [x5_1]) (wrap64 (x5_1 + 1))) else (none)) = some r := by first | (rw [hy113]; with_reducible exact H) | (have H2_ := (Option.bind_some _ _).symm.trans H; rw [hy113]; with_reducible exact H2_) | (have H2_ := (Option.bind_some _ _).symm.trans H; with_reducible exact H2_) | with_reducible exact H | (rw [hy113]; exact H) | exact H
          have Ny113 := Aside0.mk hy113
          clear hy113
          by_cases c6 : x4_1.length < 17592186044416
          · rw [if_pos c6] at H
            have LMc6 := Aside0.mk c6
            clear c6
            obtain ⟨y116, hy116⟩ : ∃ y_ : List Int, y_ = (x4_1 ++ [x5_1]) := ⟨_, rfl⟩
            replace H : (spec_gaNim.l0 k1 a0 y113 y116 (wrap64 (x5_1 + 1))) = some r := by first | (rw [hy116]; with_reducible exact H) | (have H2_ := (Option.bind_some _ _).symm.trans H; rw [hy116]; with_reducible exact H2_) | (have H2_ := (Option.bind_some _ _).symm.trans H; with_reducible exact H2_) | with_reducible exact H | (rw [hy116]; exact H) | exact H
            have Ny116 := Aside0.mk hy116
            clear hy116
            have H' := Aside0.mk H
            clear H
            obtain ⟨Ao7, co7, eo7⟩ := Kd.R_slice HO_4.out
            subst eo7
            go_wp2_with (first | ((with_reducible refine gate_callee (f := 52) rfl ?_); refine goesL_ (some 13) rfl rfl Try.func52 (by kernel_rfl) rfl #[.slice Ao7 x4_1.length co7] rfl (by (try simp only [List.map_toArray, List.map_cons, List.map_nil]); first | done | rfl | (simp only [List.length_drop, List.length_take]; rfl)) ?_; (with_reducible refine (spec_l1Own.calls _ _ x4_1 t107 _ ?side1 ?side2 A3.out).mono ?_); (case side1 => repeat (first | exact (Kd.R_reads' HO_4.out).2.2 | (with_reducible refine Kd.C_alloc ?_ _) | (with_reducible refine Kd.C_drewN ?_ _) | (with_reducible refine Kd.C_drew ?_))); (case side2 => exact (Kd.R_reads' HO_4.out).2.1); rintro e w8 ⟨v108, rfl, ho0, hb⟩; refine ⟨_, rfl, ?_⟩; have n0_ := Aside0.mk (Kd.S_elder' (by (with_reducible repeat (first | apply Kd.S_alloc | apply Kd.S_drewN | apply Kd.S_drew)); exact HO_3.out) (Kd.R_base ho0) hb); have n1_ := Aside0.mk (Kd.R_elder' (by (with_reducible repeat (first | apply Kd.R_alloc | apply Kd.R_drewN | apply Kd.R_drew)); exact HO_4.out) (Kd.R_base ho0) hb); have n2_ := Aside0.mk (Kd.R_lower (Kd.R_new' ho0 (Kd.R_lt (by (with_reducible repeat (first | apply Kd.R_alloc | apply Kd.R_drewN | apply Kd.R_drew)); exact HO_4.out))) (below_size (by repeat (first | (with_reducible first | exact HB.out | apply below_alloc | apply pw_below_drewN | apply below_drew1) | exact HB.out)))); have n3_ := Aside0.mk (below_step (by repeat (first | (with_reducible first | exact HB.out | apply below_alloc | apply pw_below_drewN | apply below_drew1) | exact HB.out)) hb); clear HO_3; clear HO_4; clear HB; have HO_3 := n0_; have HO_4 := n1_; have HO109 := n2_; have HB := n3_; clear n0_ n1_ n2_ n3_; (try clear hb); (try clear hb2); (try clear hk); (try clear hi); (try clear ho0)) | ((with_reducible refine gate_callee (f := 52) rfl ?_); refine goesL_ (some 15) rfl rfl Try.func52 (by kernel_rfl) rfl #[.slice Ao7 x4_1.length co7] rfl (by (try simp only [List.map_toArray, List.map_cons, List.map_nil]); first | done | rfl | (simp only [List.length_drop, List.length_take]; rfl)) ?_; (with_reducible refine (spec_l1Own.calls _ _ x4_1 t110 _ ?side1 ?side2 A4.out).mono ?_); (case side1 => repeat (first | exact (Kd.R_reads' HO_4.out).2.2 | (with_reducible refine Kd.C_alloc ?_ _) | (with_reducible refine Kd.C_drewN ?_ _) | (with_reducible refine Kd.C_drew ?_))); (case side2 => exact (Kd.R_reads' HO_4.out).2.1); rintro e w9 ⟨v111, rfl, ho0, hb⟩; refine ⟨_, rfl, ?_⟩; have n0_ := Aside0.mk (Kd.S_elder' (by (with_reducible repeat (first | apply Kd.S_alloc | apply Kd.S_drewN | apply Kd.S_drew)); exact HO_3.out) (Kd.R_base ho0) hb); have n1_ := Aside0.mk (Kd.R_elder' (by (with_reducible repeat (first | apply Kd.R_alloc | apply Kd.R_drewN | apply Kd.R_drew)); exact HO_4.out) (Kd.R_base ho0) hb); have n2_ := Aside0.mk (Kd.R_elder' (by (with_reducible repeat (first | apply Kd.R_alloc | apply Kd.R_drewN | apply Kd.R_drew)); exact HO109.out) (Kd.R_base ho0) hb); have n3_ := Aside0.mk (Kd.R_lower (Kd.R_new' (Kd.R_new' ho0 (Kd.R_lt (by (with_reducible repeat (first | apply Kd.R_alloc | apply Kd.R_drewN | apply Kd.R_drew)); exact HO_4.out))) (Kd.R_lt (by (with_reducible repeat (first | apply Kd.R_alloc | apply Kd.R_drewN | apply Kd.R_drew)); exact HO109.out))) (below_size (by repeat (first | (with_reducible first | exact HB.out | apply below_alloc | apply pw_below_drewN | apply below_drew1) | exact HB.out)))); have n4_ := Aside0.mk (below_step (by repeat (first | (with_reducible first | exact HB.out | apply below_alloc | apply pw_below_drewN | apply below_drew1) | exact HB.out)) hb); clear HO_3; clear HO_4; clear HO109; clear HB; have HO_3 := n0_; have HO_4 := n1_; have HO109 := n2_; have HO112 := n3_; have HB := n4_; clear n0_ n1_ n2_ n3_ n4_; (try clear hb); (try clear hb2); (try clear hk); (try clear hi); (try clear ho0); obtain ⟨Ao10, co10, eo10⟩ := Kd.R_slice HO112.out; subst eo10; obtain ⟨Ao11, co11, eo11⟩ := Kd.R_slice HO109.out; subst eo11) | ((with_reducible refine gate_builtin (b := .append) (xs := #[.tmp 11, .tmp 17]) rfl ?_); at_builtin; refine Kd.S_append p57 (w0 := w) w.heap.size rfl (.tmp 11) (.tmp 17) 22 57 (.agg #[(.slice none 0 0), (.slice none 0 0)]) 48 rfl Try.underlying22 info57 rfl (by decide) (by omega) u3 x3_1 (⟨t107, t110⟩ : S57) [.slice Ao11 t107.length co11, .slice Ao10 t110.length co10] (fun k_ => some k_ ≠ (.slice Ao7 x4_1.length co7 : Value).ownBlock) (fun k_ => some k_ = (.slice Ao11 t107.length co11 : Value).ownBlock ∨ some k_ = (.slice Ao10 t110.length co10 : Value).ownBlock) rfl rfl ?aP (fun k_ hk_ => hk_.elim (fun h_ => ((Kd.R_mono (ok' := fun k_ => ((fun k_ => some k_ ≠ (.slice Ao7 x4_1.length co7 : Value).ownBlock)) k_ ∧ some k_ ≠ (u3 : Value).ownBlock) (Kd.R_apart' (HO109.out) (Kd.S_typed HO_3.out) (by decide)) (fun k_ hk => ⟨hk.1.1.2, hk.2⟩))).1 k_ h_.symm) (fun h_ => ((Kd.R_mono (ok' := fun k_ => ((fun k_ => some k_ ≠ (.slice Ao7 x4_1.length co7 : Value).ownBlock)) k_ ∧ some k_ ≠ (u3 : Value).ownBlock) (Kd.R_apart' (HO112.out) (Kd.S_typed HO_3.out) (by decide)) (fun k_ hk => ⟨hk.1.1.2, hk.2⟩))).1 k_ h_.symm)) ?aF ?aO ?aB ?aS ?aL ?_; (case aP => exact p57_mkA _ _ _ (⟨t107, t110⟩ : S57) (fun k hk => by have h_ := HO109.out.1 k hk; first | exact h_ | exact h_.2 | exact h_.1.2 | exact h_.1 | exact h_.2.2 | exact h_.2.1 | exact h_.1.1.2) (Kd.R_mono (Kd.R_tight rfl (Kd.R_mono (ok' := fun k_ => ((fun k_ => some k_ ≠ (.slice Ao7 x4_1.length co7 : Value).ownBlock)) k_ ∧ some k_ ≠ (u3 : Value).ownBlock) (Kd.R_apart' (HO109.out) (Kd.S_typed HO_3.out) (by decide)) (fun k_ hk => ⟨hk.1.1.2, hk.2⟩))) (fun _ h_ => Or.inl h_)) (Kd.R_mono (Kd.R_tight rfl (Kd.R_mono (ok' := fun k_ => ((fun k_ => some k_ ≠ (.slice Ao7 x4_1.length co7 : Value).ownBlock)) k_ ∧ some k_ ≠ (u3 : Value).ownBlock) (Kd.R_apart' (HO112.out) (Kd.S_typed HO_3.out) (by decide)) (fun k_ hk => ⟨hk.1.1.2, hk.2⟩))) (fun _ h_ => Or.inr (h_)))); (case aB => exact (by repeat (first | (with_reducible first | exact HB.out | apply below_alloc | apply pw_below_drewN | apply below_drew1) | exact HB.out))); (case aF => exact (fun k_ hk => Kd.fresh' (Kd.R_lt (by (with_reducible repeat (first | apply Kd.R_alloc | apply Kd.R_drewN | apply Kd.R_drew)); exact HO_4.out)) k_ hk)); (case aO => exact (by (with_reducible repeat (first | apply Kd.S_alloc | apply Kd.S_drewN | apply Kd.S_drew)); exact Kd.S_mono HO_3.out (fun k_ hk => ⟨hk.1.1, fun e_ => e_.elim (fun h_ => hk.1.2 h_) (fun h_ => hk.2 h_)⟩))); (case aS => exact (below_size (by repeat (first | (with_reducible first | exact HB.out | apply below_alloc | apply pw_below_drewN | apply below_drew1) | exact HB.out)))); (case aL => have := LMc5.out; omega); intro v114 w12 ho hb hg hat; rw [← Ny113.out] at ho; have n0_ := Aside0.mk (Kd.R_over' (by (with_reducible repeat (first | apply Kd.R_alloc | apply Kd.R_drewN | apply Kd.R_drew)); exact HO_4.out) (Kd.S_typed (by (with_reducible repeat (first | apply Kd.S_alloc | apply Kd.S_drewN | apply Kd.S_drew)); exact HO_3.out)) (by decide) hg); have n1_ := Aside0.mk (hb); have n2_ := Aside0.mk (ho); clear HO_4; clear HB; clear HO_3; clear HO109; clear HO112; have HO_4 := n0_; have HB := n1_; have HO115 := n2_; clear n0_ n1_ n2_; clear ho hb hg hat) | ((with_reducible refine gate_builtin (b := .append) (xs := #[.tmp 19, .tmp 21]) rfl ?_); at_builtin; refine Kd.R_append (Kd.int .i64) (w0 := w) w.heap.size rfl (.tmp 19) (.tmp 21) 36 3 (.int .i64 0) 8 rfl Try.underlying36 info3 rfl (by decide) (by omega) (.slice Ao7 x4_1.length co7) x4_1 x5_1 [.int .i64 x5_1] (fun _ => True) (fun _ => False) rfl rfl ?aP (fun _ hk => hk.elim) ?aF ?aO ?aB ?aS ?aL ?_; (case aP => exact rfl); (case aB => exact (by repeat (first | (with_reducible first | exact HB.out | apply below_alloc | apply pw_below_drewN | apply below_drew1) | exact HB.out))); (case aF => exact (fun _ _ => trivial)); (case aO => exact (by (with_reducible repeat (first | apply Kd.R_alloc | apply Kd.R_drewN | apply Kd.R_drew)); exact Kd.R_mono HO_4.out (fun _ hk => trivial))); (case aS => exact (below_size (by repeat (first | (with_reducible first | exact HB.out | apply below_alloc | apply pw_below_drewN | apply below_drew1) | exact HB.out)))); (case aL => have := LMc6.out; omega); intro v117 w13 ho hb hg hat; rw [← Ny116.out] at ho; have n0_ := Aside0.mk (Kd.S_after (ok := (fun _ => True)) (by (with_reducible repeat (first | apply Kd.S_alloc | apply Kd.S_drewN | apply Kd.S_drew)); exact Kd.S_mono HO115.out (fun _ hk => ⟨trivial, hk⟩)) hg hat); have n1_ := Aside0.mk (hb); have n2_ := Aside0.mk (ho); clear HO115; clear HB; clear HO_4; have HO115 := n0_; have HB := n1_; have HO118 := n2_; clear n0_ n1_ n2_; clear ho hb hg hat))
            go_roundg k1
            case measure => have := HK1.out; omega
            case rel => exact ⟨(y113), (y116), (wrap64 (x5_1 + 1)), (by first | rfl | (simp; done) | (simp [*]; done)), H', ⟨by have := HK1.out; omega⟩, ⟨by (with_reducible repeat (first | apply Kd.S_alloc | apply Kd.S_drewN | apply Kd.S_drew)); exact Kd.S_mono HO115.out (fun _ hk => hk.2)⟩, ⟨by (with_reducible repeat (first | apply Kd.R_alloc | apply Kd.R_drewN | apply Kd.R_drew)); exact HO118.out⟩, ⟨by repeat (first | (with_reducible first | exact HB.out | apply below_alloc | apply pw_below_drewN | apply below_drew1) | exact HB.out)⟩⟩
          · rw [if_neg c6] at H
            exact absurd H (by simp)
        · rw [if_neg c5] at H
          exact absurd H (by simp)
      · rw [if_neg c2] at H
        have c2b0 : decide (x5_1 ≤ a0) = false := decide_eq_false c2
        clear c2
        obtain rfl := Option.some.inj H
        go_wp2
        go_ret
        exact ⟨_, by first | rfl | (simp [errW_none, errW_some] <;> rfl) | (simp [*, errW_none, errW_some] <;> rfl), by (with_reducible repeat (first | apply Kd.S_alloc | apply Kd.S_drewN | apply Kd.S_drew)); exact Kd.S_mono HO_3.out (fun _ hk => trivial), by repeat (first | (with_reducible first | exact HB.out | apply below_alloc | apply pw_below_drewN | apply below_drew1) | exact HB.out)⟩
set_option maxHeartbeats 8000000 in
set_option maxRecDepth 100000 in
theorem spec_GameOfNimber.callsA (k : Nat) (a0 : Int) (r1 : List (S57)) (r2 : Bool) (w : World) (h : spec_GameOfNimber.f k a0 = some (r1, r2)) :
    Calls Try.prog 11 #[.int .i64 a0] w fun e w' => ∃ v0_ : Value, e = .returned (.tuple #[v0_, .bool r2]) ∧ Kd.S p57 57 w' w.heap.size (fun _ => True) v0_ r1 ∧ Below w.heap.size w w' := by
  have HB := Aside0.mk (Below.refl w.heap.size w)
  have H : ((spec_l1In.f a0 0 39).bind fun t119 => (if t119 = true then ((spec_gaNim.f k a0).bind fun t120 => (some (t120, true))) else (some (([] : List (S57)), false)))) = some (r1, r2) := h
  clear h
  replace H := Option.bind_eq_some_iff.mp H
  obtain ⟨t119, A20, H⟩ := H
  replace H : (if t119 = true then ((spec_gaNim.f k a0).bind fun t120 => (some (t120, true))) else (some (([] : List (S57)), false))) = some (r1, r2) := H
  have A2 := Aside0.mk A20
  clear A20
  by_cases c3 : t119 = true
  · subst c3
    have H1 : ((spec_gaNim.f k a0).bind fun t120 => (some (t120, true))) = some (r1, r2) := by rw [if_pos rfl] at H; exact H
    clear H
    have H := H1
    clear H1
    replace H := Option.bind_eq_some_iff.mp H
    obtain ⟨t120, A40, H⟩ := H
    replace H : (some (t120, true)) = some (r1, r2) := H
    have A4 := Aside0.mk A40
    clear A40
    simp only [Option.some.injEq, Prod.mk.injEq] at H
    obtain ⟨rfl, rfl⟩ := H
    go_enter Try.func11, Try.ntmps11
    go_wp2_with (first | ((with_reducible refine gate_callee (f := 40) rfl ?_); refine goesL_ (some 5) rfl rfl Try.func40 (by kernel_rfl) rfl #[.int .i64 a0, .int .i64 0, .int .i64 39] rfl (by (try simp only [List.map_toArray, List.map_cons, List.map_nil]); first | done | rfl | (simp only [List.length_drop, List.length_take]; rfl)) ?_; (with_reducible refine (spec_l1In.calls a0 0 39 true _ A2.out).mono ?_); rintro e w' ⟨rfl, ⟨nd, rfl⟩⟩; refine ⟨_, rfl, ?_⟩) | ((with_reducible refine gate_callee (f := 41) rfl ?_); refine goesL_ (some 8) rfl rfl Try.func41 (by kernel_rfl) rfl #[.int .i64 a0] rfl (by (try simp only [List.map_toArray, List.map_cons, List.map_nil]); first | done | rfl | (simp only [List.length_drop, List.length_take]; rfl)) ?_; (with_reducible refine (spec_gaNim.callsA k a0 t120 _ A4.out).mono ?_); rintro e w5 ⟨v121, rfl, ho0, hb⟩; refine ⟨_, rfl, ?_⟩; have n0_ := Aside0.mk (Kd.S_lower ho0 (below_size (by repeat (first | (with_reducible first | exact HB.out | apply below_alloc | apply pw_below_drewN | apply below_drew1) | exact HB.out)))); have n1_ := Aside0.mk (below_step (by repeat (first | (with_reducible first | exact HB.out | apply below_alloc | apply pw_below_drewN | apply below_drew1) | exact HB.out)) hb); clear HB; have HO122 := n0_; have HB := n1_; clear n0_ n1_; (try clear hb); (try clear hb2); (try clear hk); (try clear hi); (try clear ho0)))
    go_ret2
    exact ⟨_, by first | rfl | (simp [errW_none, errW_some] <;> rfl) | (simp [*, errW_none, errW_some] <;> rfl), by (with_reducible repeat (first | apply Kd.S_alloc | apply Kd.S_drewN | apply Kd.S_drew)); exact HO122.out, by repeat (first | (with_reducible first | exact HB.out | apply below_alloc | apply pw_below_drewN | apply below_drew1) | exact HB.out)⟩
  · replace c3 := Bool.eq_false_iff.mpr c3
    subst c3
    have H1 : (some (([] : List (S57)), false)) = some (r1, r2) := by rw [if_neg (show ¬ (false = true) by decide)] at H; exact H
    clear H
    have H := H1
    clear H1
    simp only [Option.some.injEq, Prod.mk.injEq] at H
    obtain ⟨rfl, rfl⟩ := H
    go_enter Try.func11, Try.ntmps11
    go_wp2_with (first | ((with_reducible refine gate_callee (f := 40) rfl ?_); refine goesL_ (some 5) rfl rfl Try.func40 (by kernel_rfl) rfl #[.int .i64 a0, .int .i64 0, .int .i64 39] rfl (by (try simp only [List.map_toArray, List.map_cons, List.map_nil]); first | done | rfl | (simp only [List.length_drop, List.length_take]; rfl)) ?_; (with_reducible refine (spec_l1In.calls a0 0 39 false _ A2.out).mono ?_); rintro e w' ⟨rfl, ⟨nd, rfl⟩⟩; refine ⟨_, rfl, ?_⟩))
    go_ret2
    exact ⟨_, by first | rfl | (simp [errW_none, errW_some] <;> rfl) | (simp [*, errW_none, errW_some] <;> rfl), by first | exact Kd.S_nil _ _ _ _ _ | exact Kd.N_nil _ _ _ _ _ | exact Kd.V_nil _ _ _ _ _ | exact Kd.Q_nil _ _ _ _ _ | exact Kd.R_nil _ _ _ _ _, by repeat (first | (with_reducible first | exact HB.out | apply below_alloc | apply pw_below_drewN | apply below_drew1) | exact HB.out)⟩
set_option maxHeartbeats 8000000 in
set_option maxRecDepth 100000 in
theorem impl_nimberGame.callsA (k : Nat) (a0 : Int) (r : List (S57)) (w : World) (h : impl_nimberGame.f k a0 = some r) :
    Calls Try.prog 43 #[.int .i64 a0] w fun e w' => ∃ v0_ : Value, e = .returned (v0_) ∧ Kd.S p57 57 w' w.heap.size (fun _ => True) v0_ r ∧ Below w.heap.size w w' := by
  have hu57 := Try.underlying57
  have HB := Aside0.mk (Below.refl w.heap.size w)
  have H : (impl_nimberGame.l0 k (([] : List (S57))) (([] : List Int)) (wrap64 (a0 + 1)) 0) = some r := h
  clear h
  obtain ⟨y129, hy129⟩ : ∃ y_ : List (S57), y_ = (([] : List (S57))) := ⟨_, rfl⟩
  replace H : (impl_nimberGame.l0 k y129 (([] : List Int)) (wrap64 (a0 + 1)) 0) = some r := by first | (rw [hy129]; with_reducible exact H) | (have H2_ := (Option.bind_some _ _).symm.trans H; rw [hy129]; with_reducible exact H2_) | (have H2_ := (Option.bind_some _ _).symm.trans H; with_reducible exact H2_) | with_reducible exact H | (rw [hy129]; exact H) | exact H
  have Ny129 := Aside0.mk hy129
  clear hy129
  obtain ⟨y132, hy132⟩ : ∃ y_ : List Int, y_ = (([] : List Int)) := ⟨_, rfl⟩
  replace H : (impl_nimberGame.l0 k y129 y132 (wrap64 (a0 + 1)) 0) = some r := by first | (rw [hy132]; with_reducible exact H) | (have H2_ := (Option.bind_some _ _).symm.trans H; rw [hy132]; with_reducible exact H2_) | (have H2_ := (Option.bind_some _ _).symm.trans H; with_reducible exact H2_) | with_reducible exact H | (rw [hy132]; exact H) | exact H
  have Ny132 := Aside0.mk hy132
  clear hy132
  have H' := Aside0.mk H
  clear H
  go_enter Try.func43, Try.ntmps43
  go_wp2_with (first | ((with_reducible refine gate_dst (N := 6) rfl ?_); refine Kd.S_lit p57 _ 57 ?hg (N := 6) ?hd (xs := ([] : List (S57))) (inner := []) (ok := fun _ => True) (okp := fun _ => True) ?hr ?hp (fun _ hk => hk) trivial (Below.refl _ _) (Nat.le_refl _) (by simp) ?_; (case hd => rfl); (case hg => rfl); (case hr => first | (go_simp; done) | (go_simp; rfl)); (case hp => exact (Reps.none _ _)); intro v130 w2 ho3 hb hg_ hnew_; clear hg_ hnew_; (first | rw [← Ny129.out] at ho3 | (simp only [Int.reduceToNat] at ho3; rw [← Ny129.out] at ho3)); have n0_ := Aside0.mk (Kd.S_lower ho3 (below_size (by repeat (first | (with_reducible first | exact HB.out | apply below_alloc | apply pw_below_drewN | apply below_drew1) | exact HB.out)))); have n1_ := Aside0.mk (below_step (by repeat (first | (with_reducible first | exact HB.out | apply below_alloc | apply pw_below_drewN | apply below_drew1) | exact HB.out)) hb); clear HB; have HO131 := n0_; have HB := n1_; clear n0_ n1_; clear hb ho3) | ((with_reducible refine gate_dst (N := 7) rfl ?_); refine Kd.R_lit (Kd.int .i64) _ 3 ?hg (N := 7) ?hd (xs := ([] : List Int)) (inner := []) (ok := fun _ => True) (okp := fun _ => True) ?hr ?hp (fun _ hk => hk) trivial (Below.refl _ _) (Nat.le_refl _) (by simp) ?_; (case hd => rfl); (case hg => rfl); (case hr => first | (go_simp; done) | (go_simp; rfl)); (case hp => exact (Reps.none _ _)); intro v133 w4 ho5 hb hg_ hnew_; clear hg_ hnew_; (first | rw [← Ny132.out] at ho5 | (simp only [Int.reduceToNat] at ho5; rw [← Ny132.out] at ho5)); have n0_ := Aside0.mk (Kd.S_elder' (by (with_reducible repeat (first | apply Kd.S_alloc | apply Kd.S_drewN | apply Kd.S_drew)); exact HO131.out) (Kd.R_base ho5) hb); have n1_ := Aside0.mk (Kd.R_lower ho5 (below_size (by repeat (first | (with_reducible first | exact HB.out | apply below_alloc | apply pw_below_drewN | apply below_drew1) | exact HB.out)))); have n2_ := Aside0.mk (below_step (by repeat (first | (with_reducible first | exact HB.out | apply below_alloc | apply pw_below_drewN | apply below_drew1) | exact HB.out)) hb); clear HO131; clear HB; have HO131 := n0_; have HO134 := n1_; have HB := n2_; clear n0_ n1_ n2_; clear hb ho5))
  go_loopg [3, 4, 10] k (fun kq v3 v4 v10 w' => ∃ (x3_1 : List (S57)) (x4_1 : List Int) (x10_1 : Int), v10 = .int .i64 x10_1 ∧ Aside0 (impl_nimberGame.l0 kq x3_1 x4_1 (wrap64 (a0 + 1)) x10_1 = some r) ∧ Aside0 (kq ≤ k) ∧ Aside0 (Kd.S p57 57 w' w.heap.size (fun k_ => some k_ ≠ (v4 : Value).ownBlock) v3 x3_1) ∧ Aside0 (Kd.R (Kd.int .i64) 3 w' w.heap.size (fun _ => True) v4 x4_1) ∧ Aside0 (Below w.heap.size w w'))
  case atStart => exact ⟨(y129), (y132), (0), (by first | rfl | (simp; done) | (simp [*]; done)), H', ⟨Nat.le_refl _⟩, ⟨by (with_reducible repeat (first | apply Kd.S_alloc | apply Kd.S_drewN | apply Kd.S_drew)); exact Kd.S_mono HO131.out (fun _ hk => hk.2)⟩, ⟨by (with_reducible repeat (first | apply Kd.R_alloc | apply Kd.R_drewN | apply Kd.R_drew)); exact HO134.out⟩, ⟨by repeat (first | (with_reducible first | exact HB.out | apply below_alloc | apply pw_below_drewN | apply below_drew1) | exact HB.out)⟩⟩
  case round =>
    clear H'
    try clear p2
    try clear c4
    obtain ⟨x3_1, x4_1, x10_1, rfl, HA, HK1, HO_3, HO_4, HB⟩ := hrel
    cases gk with
    | zero => exact absurd HA.out (by simp [impl_nimberGame.l0])
    | succ k1 =>
      have H := HA.out
      clear HA
      simp only [impl_nimberGame.l0] at H
      by_cases c6 : x10_1 < (wrap64 (a0 + 1))
      · rw [if_pos c6] at H
        have c6b0 : decide (x10_1 < (wrap64 (a0 + 1))) = true := decide_eq_true c6
        clear c6
        replace H := Option.bind_eq_some_iff.mp H
        obtain ⟨t135, A70, H⟩ := H
        replace H : ((slices_Clone_int_int.f x4_1).bind fun t138 => (if x3_1.length < 2932031007402 then (if x4_1.length < 17592186044416 then (impl_nimberGame.l0 k1 (x3_1 ++ [(⟨t135, t138⟩ : S57)]) (x4_1 ++ [x10_1]) (wrap64 (a0 + 1)) (wrap64 (x10_1 + 1))) else (none)) else (none))) = some r := H
        have A7 := Aside0.mk A70
        clear A70
        replace H := Option.bind_eq_some_iff.mp H
        obtain ⟨t138, A80, H⟩ := H
        replace H : (if x3_1.length < 2932031007402 then (if x4_1.length < 17592186044416 then (impl_nimberGame.l0 k1 (x3_1 ++ [(⟨t135, t138⟩ : S57)]) (x4_1 ++ [x10_1]) (wrap64 (a0 + 1)) (wrap64 (x10_1 + 1))) else (none)) else (none)) = some r := H
        have A8 := Aside0.mk A80
        clear A80
        by_cases c9 : x3_1.length < 2932031007402
        · rw [if_pos c9] at H
          have LMc9 := Aside0.mk c9
          clear c9
          obtain ⟨y141, hy141⟩ : ∃ y_ : List (S57), y_ = (x3_1 ++ [(⟨t135, t138⟩ : S57)]) := ⟨_, rfl⟩
          replace H : (if x4_1.length < 17592186044416 then (impl_nimberGame.l0 k1 y141 (x4_1 ++ [x10_1]) (wrap64 (a0 + 1)) (wrap64 (x10_1 + 1))) else (none)) = some r := by first | (rw [hy141]; with_reducible exact H) | (have H2_ := (Option.bind_some _ _).symm.trans H; rw [hy141]; with_reducible exact H2_) | (have H2_ := (Option.bind_some _ _).symm.trans H; with_reducible exact H2_) | with_reducible exact H | (rw [hy141]; exact H) | exact H
          have Ny141 := Aside0.mk hy141
          clear hy141
          by_cases c10 : x4_1.length < 17592186044416
          · rw [if_pos c10] at H
            have LMc10 := Aside0.mk c10
            clear c10
            obtain ⟨y144, hy144⟩ : ∃ y_ : List Int, y_ = (x4_1 ++ [x10_1]) := ⟨_, rfl⟩
            replace H : (impl_nimberGame.l0 k1 y141 y144 (wrap64 (a0 + 1)) (wrap64 (x10_1 + 1))) = some r := by first | (rw [hy144]; with_reducible exact H) | (have H2_ := (Option.bind_some _ _).symm.trans H; rw [hy144]; with_reducible exact H2_) | (have H2_ := (Option.bind_some _ _).symm.trans H; with_reducible exact H2_) | with_reducible exact H | (rw [hy144]; exact H) | exact H
            have Ny144 := Aside0.mk hy144
            clear hy144
            have H' := Aside0.mk H
            clear H
            obtain ⟨Ao11, co11, eo11⟩ := Kd.R_slice HO_4.out
            subst eo11
            go_wp2_with (first | ((with_reducible refine gate_callee (f := 54) rfl ?_); refine goesL_ (some 15) rfl rfl Try.func54 (by kernel_rfl) rfl #[.slice Ao11 x4_1.length co11] rfl (by (try simp only [List.map_toArray, List.map_cons, List.map_nil]); first | done | rfl | (simp only [List.length_drop, List.length_take]; rfl)) ?_; (with_reducible refine (slices_Clone_int_int.calls _ _ x4_1 t135 _ ?side1 ?side2 A7.out).mono ?_); (case side1 => repeat (first | exact (Kd.R_reads' HO_4.out).2.2 | (with_reducible refine Kd.C_alloc ?_ _) | (with_reducible refine Kd.C_drewN ?_ _) | (with_reducible refine Kd.C_drew ?_))); (case side2 => exact (Kd.R_reads' HO_4.out).2.1); rintro e w12 ⟨v136, rfl, ho0, hb⟩; refine ⟨_, rfl, ?_⟩; have n0_ := Aside0.mk (Kd.S_elder' (by (with_reducible repeat (first | apply Kd.S_alloc | apply Kd.S_drewN | apply Kd.S_drew)); exact HO_3.out) (Kd.R_base ho0) hb); have n1_ := Aside0.mk (Kd.R_elder' (by (with_reducible repeat (first | apply Kd.R_alloc | apply Kd.R_drewN | apply Kd.R_drew)); exact HO_4.out) (Kd.R_base ho0) hb); have n2_ := Aside0.mk (Kd.R_lower (Kd.R_new' ho0 (Kd.R_lt (by (with_reducible repeat (first | apply Kd.R_alloc | apply Kd.R_drewN | apply Kd.R_drew)); exact HO_4.out))) (below_size (by repeat (first | (with_reducible first | exact HB.out | apply below_alloc | apply pw_below_drewN | apply below_drew1) | exact HB.out)))); have n3_ := Aside0.mk (below_step (by repeat (first | (with_reducible first | exact HB.out | apply below_alloc | apply pw_below_drewN | apply below_drew1) | exact HB.out)) hb); clear HO_3; clear HO_4; clear HB; have HO_3 := n0_; have HO_4 := n1_; have HO137 := n2_; have HB := n3_; clear n0_ n1_ n2_ n3_; (try clear hb); (try clear hb2); (try clear hk); (try clear hi); (try clear ho0)) | ((with_reducible refine gate_callee (f := 54) rfl ?_); refine goesL_ (some 17) rfl rfl Try.func54 (by kernel_rfl) rfl #[.slice Ao11 x4_1.length co11] rfl (by (try simp only [List.map_toArray, List.map_cons, List.map_nil]); first | done | rfl | (simp only [List.length_drop, List.length_take]; rfl)) ?_; (with_reducible refine (slices_Clone_int_int.calls _ _ x4_1 t138 _ ?side1 ?side2 A8.out).mono ?_); (case side1 => repeat (first | exact (Kd.R_reads' HO_4.out).2.2 | (with_reducible refine Kd.C_alloc ?_ _) | (with_reducible refine Kd.C_drewN ?_ _) | (with_reducible refine Kd.C_drew ?_))); (case side2 => exact (Kd.R_reads' HO_4.out).2.1); rintro e w13 ⟨v139, rfl, ho0, hb⟩; refine ⟨_, rfl, ?_⟩; have n0_ := Aside0.mk (Kd.S_elder' (by (with_reducible repeat (first | apply Kd.S_alloc | apply Kd.S_drewN | apply Kd.S_drew)); exact HO_3.out) (Kd.R_base ho0) hb); have n1_ := Aside0.mk (Kd.R_elder' (by (with_reducible repeat (first | apply Kd.R_alloc | apply Kd.R_drewN | apply Kd.R_drew)); exact HO_4.out) (Kd.R_base ho0) hb); have n2_ := Aside0.mk (Kd.R_elder' (by (with_reducible repeat (first | apply Kd.R_alloc | apply Kd.R_drewN | apply Kd.R_drew)); exact HO137.out) (Kd.R_base ho0) hb); have n3_ := Aside0.mk (Kd.R_lower (Kd.R_new' (Kd.R_new' ho0 (Kd.R_lt (by (with_reducible repeat (first | apply Kd.R_alloc | apply Kd.R_drewN | apply Kd.R_drew)); exact HO_4.out))) (Kd.R_lt (by (with_reducible repeat (first | apply Kd.R_alloc | apply Kd.R_drewN | apply Kd.R_drew)); exact HO137.out))) (below_size (by repeat (first | (with_reducible first | exact HB.out | apply below_alloc | apply pw_below_drewN | apply below_drew1) | exact HB.out)))); have n4_ := Aside0.mk (below_step (by repeat (first | (with_reducible first | exact HB.out | apply below_alloc | apply pw_below_drewN | apply below_drew1) | exact HB.out)) hb); clear HO_3; clear HO_4; clear HO137; clear HB; have HO_3 := n0_; have HO_4 := n1_; have HO137 := n2_; have HO140 := n3_; have HB := n4_; clear n0_ n1_ n2_ n3_ n4_; (try clear hb); (try clear hb2); (try clear hk); (try clear hi); (try clear ho0); obtain ⟨Ao14, co14, eo14⟩ := Kd.R_slice HO140.out; subst eo14; obtain ⟨Ao15, co15, eo15⟩ := Kd.R_slice HO137.out; subst eo15) | ((with_reducible refine gate_builtin (b := .append) (xs := #[.tmp 13, .tmp 19]) rfl ?_); at_builtin; refine Kd.S_append p57 (w0 := w) w.heap.size rfl (.tmp 13) (.tmp 19) 22 57 (.agg #[(.slice none 0 0), (.slice none 0 0)]) 48 rfl Try.underlying22 info57 rfl (by decide) (by omega) u3 x3_1 (⟨t135, t138⟩ : S57) [.slice Ao15 t135.length co15, .slice Ao14 t138.length co14] (fun k_ => some k_ ≠ (.slice Ao11 x4_1.length co11 : Value).ownBlock) (fun k_ => some k_ = (.slice Ao15 t135.length co15 : Value).ownBlock ∨ some k_ = (.slice Ao14 t138.length co14 : Value).ownBlock) rfl rfl ?aP (fun k_ hk_ => hk_.elim (fun h_ => ((Kd.R_mono (ok' := fun k_ => ((fun k_ => some k_ ≠ (.slice Ao11 x4_1.length co11 : Value).ownBlock)) k_ ∧ some k_ ≠ (u3 : Value).ownBlock) (Kd.R_apart' (HO137.out) (Kd.S_typed HO_3.out) (by decide)) (fun k_ hk => ⟨hk.1.1.2, hk.2⟩))).1 k_ h_.symm) (fun h_ => ((Kd.R_mono (ok' := fun k_ => ((fun k_ => some k_ ≠ (.slice Ao11 x4_1.length co11 : Value).ownBlock)) k_ ∧ some k_ ≠ (u3 : Value).ownBlock) (Kd.R_apart' (HO140.out) (Kd.S_typed HO_3.out) (by decide)) (fun k_ hk => ⟨hk.1.1.2, hk.2⟩))).1 k_ h_.symm)) ?aF ?aO ?aB ?aS ?aL ?_; (case aP => exact p57_mkA _ _ _ (⟨t135, t138⟩ : S57) (fun k hk => by have h_ := HO137.out.1 k hk; first | exact h_ | exact h_.2 | exact h_.1.2 | exact h_.1 | exact h_.2.2 | exact h_.2.1 | exact h_.1.1.2) (Kd.R_mono (Kd.R_tight rfl (Kd.R_mono (ok' := fun k_ => ((fun k_ => some k_ ≠ (.slice Ao11 x4_1.length co11 : Value).ownBlock)) k_ ∧ some k_ ≠ (u3 : Value).ownBlock) (Kd.R_apart' (HO137.out) (Kd.S_typed HO_3.out) (by decide)) (fun k_ hk => ⟨hk.1.1.2, hk.2⟩))) (fun _ h_ => Or.inl h_)) (Kd.R_mono (Kd.R_tight rfl (Kd.R_mono (ok' := fun k_ => ((fun k_ => some k_ ≠ (.slice Ao11 x4_1.length co11 : Value).ownBlock)) k_ ∧ some k_ ≠ (u3 : Value).ownBlock) (Kd.R_apart' (HO140.out) (Kd.S_typed HO_3.out) (by decide)) (fun k_ hk => ⟨hk.1.1.2, hk.2⟩))) (fun _ h_ => Or.inr (h_)))); (case aB => exact (by repeat (first | (with_reducible first | exact HB.out | apply below_alloc | apply pw_below_drewN | apply below_drew1) | exact HB.out))); (case aF => exact (fun k_ hk => Kd.fresh' (Kd.R_lt (by (with_reducible repeat (first | apply Kd.R_alloc | apply Kd.R_drewN | apply Kd.R_drew)); exact HO_4.out)) k_ hk)); (case aO => exact (by (with_reducible repeat (first | apply Kd.S_alloc | apply Kd.S_drewN | apply Kd.S_drew)); exact Kd.S_mono HO_3.out (fun k_ hk => ⟨hk.1.1, fun e_ => e_.elim (fun h_ => hk.1.2 h_) (fun h_ => hk.2 h_)⟩))); (case aS => exact (below_size (by repeat (first | (with_reducible first | exact HB.out | apply below_alloc | apply pw_below_drewN | apply below_drew1) | exact HB.out)))); (case aL => have := LMc9.out; omega); intro v142 w16 ho hb hg hat; rw [← Ny141.out] at ho; have n0_ := Aside0.mk (Kd.R_over' (by (with_reducible repeat (first | apply Kd.R_alloc | apply Kd.R_drewN | apply Kd.R_drew)); exact HO_4.out) (Kd.S_typed (by (with_reducible repeat (first | apply Kd.S_alloc | apply Kd.S_drewN | apply Kd.S_drew)); exact HO_3.out)) (by decide) hg); have n1_ := Aside0.mk (hb); have n2_ := Aside0.mk (ho); clear HO_4; clear HB; clear HO_3; clear HO137; clear HO140; have HO_4 := n0_; have HB := n1_; have HO143 := n2_; clear n0_ n1_ n2_; clear ho hb hg hat) | ((with_reducible refine gate_builtin (b := .append) (xs := #[.tmp 21, .tmp 23]) rfl ?_); at_builtin; refine Kd.R_append (Kd.int .i64) (w0 := w) w.heap.size rfl (.tmp 21) (.tmp 23) 36 3 (.int .i64 0) 8 rfl Try.underlying36 info3 rfl (by decide) (by omega) (.slice Ao11 x4_1.length co11) x4_1 x10_1 [.int .i64 x10_1] (fun _ => True) (fun _ => False) rfl rfl ?aP (fun _ hk => hk.elim) ?aF ?aO ?aB ?aS ?aL ?_; (case aP => exact rfl); (case aB => exact (by repeat (first | (with_reducible first | exact HB.out | apply below_alloc | apply pw_below_drewN | apply below_drew1) | exact HB.out))); (case aF => exact (fun _ _ => trivial)); (case aO => exact (by (with_reducible repeat (first | apply Kd.R_alloc | apply Kd.R_drewN | apply Kd.R_drew)); exact Kd.R_mono HO_4.out (fun _ hk => trivial))); (case aS => exact (below_size (by repeat (first | (with_reducible first | exact HB.out | apply below_alloc | apply pw_below_drewN | apply below_drew1) | exact HB.out)))); (case aL => have := LMc10.out; omega); intro v145 w17 ho hb hg hat; rw [← Ny144.out] at ho; have n0_ := Aside0.mk (Kd.S_after (ok := (fun _ => True)) (by (with_reducible repeat (first | apply Kd.S_alloc | apply Kd.S_drewN | apply Kd.S_drew)); exact Kd.S_mono HO143.out (fun _ hk => ⟨trivial, hk⟩)) hg hat); have n1_ := Aside0.mk (hb); have n2_ := Aside0.mk (ho); clear HO143; clear HB; clear HO_4; have HO143 := n0_; have HB := n1_; have HO146 := n2_; clear n0_ n1_ n2_; clear ho hb hg hat))
            go_roundg k1
            case measure => have := HK1.out; omega
            case rel => exact ⟨(y141), (y144), (wrap64 (x10_1 + 1)), (by first | rfl | (simp; done) | (simp [*]; done)), H', ⟨by have := HK1.out; omega⟩, ⟨by (with_reducible repeat (first | apply Kd.S_alloc | apply Kd.S_drewN | apply Kd.S_drew)); exact Kd.S_mono HO143.out (fun _ hk => hk.2)⟩, ⟨by (with_reducible repeat (first | apply Kd.R_alloc | apply Kd.R_drewN | apply Kd.R_drew)); exact HO146.out⟩, ⟨by repeat (first | (with_reducible first | exact HB.out | apply below_alloc | apply pw_below_drewN | apply below_drew1) | exact HB.out)⟩⟩
          · rw [if_neg c10] at H
            exact absurd H (by simp)
        · rw [if_neg c9] at H
          exact absurd H (by simp)
      · rw [if_neg c6] at H
        have c6b0 : decide (x10_1 < (wrap64 (a0 + 1))) = false := decide_eq_false c6
        clear c6
        obtain rfl := Option.some.inj H
        go_wp2
        go_ret
        exact ⟨_, by first | rfl | (simp [errW_none, errW_some] <;> rfl) | (simp [*, errW_none, errW_some] <;> rfl), by (with_reducible repeat (first | apply Kd.S_alloc | apply Kd.S_drewN | apply Kd.S_drew)); exact Kd.S_mono HO_3.out (fun _ hk => trivial), by repeat (first | (with_reducible first | exact HB.out | apply below_alloc | apply pw_below_drewN | apply below_drew1) | exact HB.out)⟩
set_option maxHeartbeats 8000000 in
set_option maxRecDepth 100000 in
theorem impl_GameOfNimber.callsA (k : Nat) (a0 : Int) (r1 : List (S57)) (r2 : Bool) (w : World) (h : impl_GameOfNimber.f k a0 = some (r1, r2)) :
    Calls Try.prog 12 #[.int .i64 a0] w fun e w' => ∃ v0_ : Value, e = .returned (.tuple #[v0_, .bool r2]) ∧ Kd.S p57 57 w' w.heap.size (fun _ => True) v0_ r1 ∧ Below w.heap.size w w' := by
  have HB := Aside0.mk (Below.refl w.heap.size w)
  have H : ((impl_in.f a0 0 39).bind fun t147 => (if t147 = true then ((impl_nimberGame.f k a0).bind fun t148 => (some (t148, true))) else (some (([] : List (S57)), false)))) = some (r1, r2) := h
  clear h
  replace H := Option.bind_eq_some_iff.mp H
  obtain ⟨t147, A20, H⟩ := H
  replace H : (if t147 = true then ((impl_nimberGame.f k a0).bind fun t148 => (some (t148, true))) else (some (([] : List (S57)), false))) = some (r1, r2) := H
  have A2 := Aside0.mk A20
  clear A20
  by_cases c3 : t147 = true
  · subst c3
    have H1 : ((impl_nimberGame.f k a0).bind fun t148 => (some (t148, true))) = some (r1, r2) := by rw [if_pos rfl] at H; exact H
    clear H
    have H := H1
    clear H1
    replace H := Option.bind_eq_some_iff.mp H
    obtain ⟨t148, A40, H⟩ := H
    replace H : (some (t148, true)) = some (r1, r2) := H
    have A4 := Aside0.mk A40
    clear A40
    simp only [Option.some.injEq, Prod.mk.injEq] at H
    obtain ⟨rfl, rfl⟩ := H
    go_enter Try.func12, Try.ntmps12
    go_wp2_with (first | ((with_reducible refine gate_callee (f := 42) rfl ?_); refine goesL_ (some 5) rfl rfl Try.func42 (by kernel_rfl) rfl #[.int .i64 a0, .int .i64 0, .int .i64 39] rfl (by (try simp only [List.map_toArray, List.map_cons, List.map_nil]); first | done | rfl | (simp only [List.length_drop, List.length_take]; rfl)) ?_; (with_reducible refine (impl_in.calls a0 0 39 true _ A2.out).mono ?_); rintro e w' ⟨rfl, ⟨nd, rfl⟩⟩; refine ⟨_, rfl, ?_⟩) | ((with_reducible refine gate_callee (f := 43) rfl ?_); refine goesL_ (some 8) rfl rfl Try.func43 (by kernel_rfl) rfl #[.int .i64 a0] rfl (by (try simp only [List.map_toArray, List.map_cons, List.map_nil]); first | done | rfl | (simp only [List.length_drop, List.length_take]; rfl)) ?_; (with_reducible refine (impl_nimberGame.callsA k a0 t148 _ A4.out).mono ?_); rintro e w5 ⟨v149, rfl, ho0, hb⟩; refine ⟨_, rfl, ?_⟩; have n0_ := Aside0.mk (Kd.S_lower ho0 (below_size (by repeat (first | (with_reducible first | exact HB.out | apply below_alloc | apply pw_below_drewN | apply below_drew1) | exact HB.out)))); have n1_ := Aside0.mk (below_step (by repeat (first | (with_reducible first | exact HB.out | apply below_alloc | apply pw_below_drewN | apply below_drew1) | exact HB.out)) hb); clear HB; have HO150 := n0_; have HB := n1_; clear n0_ n1_; (try clear hb); (try clear hb2); (try clear hk); (try clear hi); (try clear ho0)))
    go_ret2
    exact ⟨_, by first | rfl | (simp [errW_none, errW_some] <;> rfl) | (simp [*, errW_none, errW_some] <;> rfl), by (with_reducible repeat (first | apply Kd.S_alloc | apply Kd.S_drewN | apply Kd.S_drew)); exact HO150.out, by repeat (first | (with_reducible first | exact HB.out | apply below_alloc | apply pw_below_drewN | apply below_drew1) | exact HB.out)⟩
  · replace c3 := Bool.eq_false_iff.mpr c3
    subst c3
    have H1 : (some (([] : List (S57)), false)) = some (r1, r2) := by rw [if_neg (show ¬ (false = true) by decide)] at H; exact H
    clear H
    have H := H1
    clear H1
    simp only [Option.some.injEq, Prod.mk.injEq] at H
    obtain ⟨rfl, rfl⟩ := H
    go_enter Try.func12, Try.ntmps12
    go_wp2_with (first | ((with_reducible refine gate_callee (f := 42) rfl ?_); refine goesL_ (some 5) rfl rfl Try.func42 (by kernel_rfl) rfl #[.int .i64 a0, .int .i64 0, .int .i64 39] rfl (by (try simp only [List.map_toArray, List.map_cons, List.map_nil]); first | done | rfl | (simp only [List.length_drop, List.length_take]; rfl)) ?_; (with_reducible refine (impl_in.calls a0 0 39 false _ A2.out).mono ?_); rintro e w' ⟨rfl, ⟨nd, rfl⟩⟩; refine ⟨_, rfl, ?_⟩))
    go_ret2
    exact ⟨_, by first | rfl | (simp [errW_none, errW_some] <;> rfl) | (simp [*, errW_none, errW_some] <;> rfl), by first | exact Kd.S_nil _ _ _ _ _ | exact Kd.N_nil _ _ _ _ _ | exact Kd.V_nil _ _ _ _ _ | exact Kd.Q_nil _ _ _ _ _ | exact Kd.R_nil _ _ _ _ _, by repeat (first | (with_reducible first | exact HB.out | apply below_alloc | apply pw_below_drewN | apply below_drew1) | exact HB.out)⟩
theorem heldA (k : Nat) (A : Option Addr) (n c : Nat) (l : List S57) (a r : Int) (w : World) (lo hi : Nat) (h : OwnS w lo hi (.slice A n c) l) (hf : laws_heldPositionS.f k l a = some r) :
    Calls Try.prog 15 #[.slice A n c, .int .i64 a] w fun e w' => e = .returned (.int .i64 r) ∧ Below w.heap.size w w' := by
  obtain ⟨e, hc, hr⟩ := h.reads
  subst e
  exact (laws_heldPositionS.calls k A c l a r w hr hc hf).mono (fun e w' h => ⟨h.1, h.2.below⟩)
def laws_FnExactGameOfNimber.f (k : Nat) (a0 : Int) : Option Bool := (spec_GameOfNimber.f k a0).bind fun s => (impl_GameOfNimber.f k a0).bind fun g => (laws_eqPositionS.f k g.1 s.1).bind fun e1 => (laws_markPositionS.f k g.1 1).bind fun m1 => (laws_heldPositionS.f k m1.2 1).bind fun q => some (e1 && (decide (g.2 = s.2) && (decide (0 ≤ m1.1) && decide (q = m1.1))))
set_option maxHeartbeats 8000000 in
set_option maxRecDepth 100000 in
theorem laws_FnExactGameOfNimber.calls (k : Nat) (a0 : Int) (r : Bool) (hr_ : Aside0 (r = true)) (w : World) (h : laws_FnExactGameOfNimber.f k a0 = some r) :
    Calls Try.prog 3 #[.int .i64 a0] w fun e w' => e = .returned (.bool r) ∧ Below w.heap.size w w' := by
  have HB := Aside0.mk (Below.refl w.heap.size w)
  obtain rfl := hr_.out
  unfold laws_FnExactGameOfNimber.f at h
  obtain ⟨⟨s1, sb⟩, A_, h⟩ := Option.bind_eq_some_iff.mp h
  have A_sp := Aside0.mk A_
  clear A_
  obtain ⟨⟨g1, gb⟩, A_, h⟩ := Option.bind_eq_some_iff.mp h
  have A_im := Aside0.mk A_
  clear A_
  obtain ⟨e1, A_, h⟩ := Option.bind_eq_some_iff.mp h
  have A_e1 := Aside0.mk A_
  clear A_
  obtain ⟨⟨m1, l1m⟩, A_, h⟩ := Option.bind_eq_some_iff.mp h
  have A_k1 := Aside0.mk A_
  clear A_
  obtain ⟨q, A_, h⟩ := Option.bind_eq_some_iff.mp h
  have A_h := Aside0.mk A_
  clear A_
  simp only [Option.some.injEq, Bool.and_eq_true, decide_eq_true_eq] at h
  obtain ⟨rfl, rfl, hm1, rfl⟩ := h
  have d1_ : decide (q < 0) = false := decide_eq_false (by omega)
  clear hm1
  go_enter Try.func3, Try.ntmps3
  go_wp2_with (first
      | ((with_reducible refine gate_callee (f := 11) rfl ?_); refine goesL_ (some 13) rfl rfl Try.func11 (by kernel_rfl) rfl #[.int .i64 a0] rfl (by (try simp only [List.map_toArray, List.map_cons, List.map_nil]); first | done | rfl) ?_; refine (spec_GameOfNimber.callsA k a0 s1 _ _ A_sp.out).mono ?_; rintro e wz1 ⟨v, rfl, hs, hb⟩; refine ⟨_, rfl, ?_⟩; have HLSp := Aside0.mk HB.out.size; have nB_ := Aside0.mk (below_step HB.out hb); clear HB; have HB := nB_; clear nB_; have RSp := Aside0.mk (OwnS.of hs); obtain ⟨ASp, cSp, rfl, hc_⟩ := RSp.out.form; clear hc_ hs; clear hb)
      | ((with_reducible refine gate_callee (f := 12) rfl ?_); refine goesL_ (some 18) rfl rfl Try.func12 (by kernel_rfl) rfl #[.int .i64 a0] rfl (by (try simp only [List.map_toArray, List.map_cons, List.map_nil]); first | done | rfl) ?_; refine (impl_GameOfNimber.callsA k a0 g1 _ _ A_im.out).mono ?_; rintro e wz2 ⟨v, rfl, hs, hb⟩; refine ⟨_, rfl, ?_⟩; have DSp_G := Aside0.mk RSp.out.1; have HLG := Aside0.mk HB.out.size; have nSp_ := Aside0.mk (OwnS.below RSp.out hb); clear RSp; have RSp := nSp_; clear nSp_; have nB_ := Aside0.mk (below_step HB.out hb); clear HB; have HB := nB_; clear nB_; have RG := Aside0.mk (OwnS.of hs); obtain ⟨AG, cG, rfl, hc_⟩ := RG.out.form; clear hc_ hs; clear hb)
      | ((with_reducible refine gate_callee (f := 13) rfl ?_); refine goesL_ (some 23) rfl rfl Try.func13 (by kernel_rfl) rfl #[.slice AG g1.length cG, .slice ASp s1.length cSp] rfl (by (try simp only [List.map_toArray, List.map_cons, List.map_nil]); first | done | rfl) ?_; refine (laws_eqPositionS.calls k _ _ g1 _ _ s1 true _ RG.out.reads.2.2 RG.out.reads.2.1 RSp.out.reads.2.2 RSp.out.reads.2.1 A_e1.out).mono ?_; rintro e wz3 ⟨rfl, hb⟩; refine ⟨_, rfl, ?_⟩; have nSp_ := Aside0.mk (OwnS.below RSp.out hb); have nG_ := Aside0.mk (OwnS.below RG.out hb); clear RSp RG; have RSp := nSp_; have RG := nG_; clear nSp_ nG_; have nB_ := Aside0.mk (below_step HB.out hb); clear HB; have HB := nB_; clear nB_; clear hb)
      | ((with_reducible refine gate_callee (f := 14) rfl ?_); refine goesL_ (some 32) rfl rfl Try.func14 (by kernel_rfl) rfl #[.slice AG g1.length cG, .int .i64 1] rfl (by (try simp only [List.map_toArray, List.map_cons, List.map_nil]); first | done | rfl) ?_; refine (laws_markPositionS.callsA k _ _ _ g1 1 q l1m w _ HB.out HLG.out RG.out A_k1.out).mono ?_; rintro e wz4 ⟨rfl, hs, hb, hk⟩; refine ⟨_, rfl, ?_⟩; have nSp_ := Aside0.mk (OwnS.kept RSp.out hk (.inl DSp_G.out)); clear RSp; have RSp := nSp_; clear nSp_; clear HB RG; have HB := Aside0.mk hb; have RG := Aside0.mk hs; clear hb hs hk)
      | ((with_reducible refine gate_callee (f := 15) rfl ?_); refine goesL_ (some 35) rfl rfl Try.func15 (by kernel_rfl) rfl #[.slice AG g1.length cG, .int .i64 1] rfl (by (try simp only [List.map_toArray, List.map_cons, List.map_nil]); first | done | rfl) ?_; refine (heldA k _ _ _ l1m 1 q _ _ _ RG.out A_h.out).mono ?_; rintro e wz5 ⟨rfl, hb⟩; refine ⟨_, rfl, ?_⟩; have nSp_ := Aside0.mk (OwnS.below RSp.out hb); have nG_ := Aside0.mk (OwnS.below RG.out hb); clear RSp RG; have RSp := nSp_; have RG := nG_; clear nSp_ nG_; have nB_ := Aside0.mk (below_step HB.out hb); clear HB; have HB := nB_; clear nB_; clear hb)
      | ((with_reducible refine gate_callee (f := 12) rfl ?_); refine goesL_ (some 43) rfl rfl Try.func12 (by kernel_rfl) rfl #[.int .i64 a0] rfl (by (try simp only [List.map_toArray, List.map_cons, List.map_nil]); first | done | rfl) ?_; refine (impl_GameOfNimber.callsA k a0 g1 _ _ A_im.out).mono ?_; rintro e wz6 ⟨v, rfl, hs, hb⟩; refine ⟨_, rfl, ?_⟩; have DSp_H := Aside0.mk RSp.out.1; have DG_H := Aside0.mk RG.out.1; have HLH := Aside0.mk HB.out.size; have nSp_ := Aside0.mk (OwnS.below RSp.out hb); have nG_ := Aside0.mk (OwnS.below RG.out hb); clear RSp RG; have RSp := nSp_; have RG := nG_; clear nSp_ nG_; have nB_ := Aside0.mk (below_step HB.out hb); clear HB; have HB := nB_; clear nB_; have RH := Aside0.mk (OwnS.of hs); obtain ⟨AH, cH, rfl, hc_⟩ := RH.out.form; clear hc_ hs; clear hb)
      | ((with_reducible refine gate_callee (f := 13) rfl ?_); refine goesL_ (some 48) rfl rfl Try.func13 (by kernel_rfl) rfl #[.slice AH g1.length cH, .slice ASp s1.length cSp] rfl (by (try simp only [List.map_toArray, List.map_cons, List.map_nil]); first | done | rfl) ?_; refine (laws_eqPositionS.calls k _ _ g1 _ _ s1 true _ RH.out.reads.2.2 RH.out.reads.2.1 RSp.out.reads.2.2 RSp.out.reads.2.1 A_e1.out).mono ?_; rintro e wz7 ⟨rfl, hb⟩; refine ⟨_, rfl, ?_⟩; have nSp_ := Aside0.mk (OwnS.below RSp.out hb); have nG_ := Aside0.mk (OwnS.below RG.out hb); have nH_ := Aside0.mk (OwnS.below RH.out hb); clear RSp RG RH; have RSp := nSp_; have RG := nG_; have RH := nH_; clear nSp_ nG_ nH_; have nB_ := Aside0.mk (below_step HB.out hb); clear HB; have HB := nB_; clear nB_; clear hb)
      | ((with_reducible refine gate_callee (f := 15) rfl ?_); refine goesL_ (some 57) rfl rfl Try.func15 (by kernel_rfl) rfl #[.slice AG g1.length cG, .int .i64 1] rfl (by (try simp only [List.map_toArray, List.map_cons, List.map_nil]); first | done | rfl) ?_; refine (heldA k _ _ _ l1m 1 q _ _ _ RG.out A_h.out).mono ?_; rintro e wz8 ⟨rfl, hb⟩; refine ⟨_, rfl, ?_⟩; have nSp_ := Aside0.mk (OwnS.below RSp.out hb); have nG_ := Aside0.mk (OwnS.below RG.out hb); clear RSp RG; have RSp := nSp_; have RG := nG_; clear nSp_ nG_; have nB_ := Aside0.mk (below_step HB.out hb); clear HB; have HB := nB_; clear nB_; clear hb))
  go_ret
  exact ⟨rfl, HB.out⟩

end Go.Proofs.Ytpiafobcmhfclaa.QFnExactGameOfNimber
