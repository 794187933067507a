/- The Go functions that the law FnExactNegateGame reaches, as Lean functions, and what their calls do. Written by a program of this session. -/
import Derived.Test.YtpiafobcmhfclaaQFnExactNegateGamex0
import Derived.Test.YtpiafobcmhfclaaQFnExactNegateGamex1
import Derived.Test.YtpiafobcmhfclaaQFnExactNegateGamex2
import Derived.Test.YtpiafobcmhfclaaQFnExactNegateGamex3
import Derived.Test.YtpiafobcmhfclaaQFnExactNegateGamex4
namespace Go.Proofs.Ytpiafobcmhfclaa.QFnExactNegateGame
open Go.RowKit Go.Proofs.YtpiafobcmhfclaaW.PrintWords Go.Proofs.YtpiafobcmhfclaaW.PrintLast Go.Proofs.YtpiafobcmhfclaaW.PrintMore
attribute [local go_sem] max2_int min2_int max_two min_two max_three min_three max_four min_four   -- for this text's walks alone
set_option linter.unusedVariables false
set_option linter.unusedSimpArgs false

/-! ### laws_FnExactNegateGame: function 5 -/
/-! ### positions whose two rows lie apart; a row of them within bounds -/
def apartCells (cs : List Value) : Prop := ∀ v0 v1, cs = [v0, v1] → ∀ k, v0.ownBlock = some k → some k ≠ v1.ownBlock
def p57 : Kd S57 where
  sz := k57.sz
  E := k57.E
  K := k57.K
  M := fun w base ok x cs => k57.M w base ok x cs ∧ apartCells cs
  K_len := fun h => k57.K_len h
  K_one := fun h => k57.K_one h
  K_below := fun hb h => k57.K_below hb h
  K_of_M := fun h => k57.K_of_M h.1
  M_mono := fun hok h => ⟨k57.M_mono hok h.1, h.2⟩
  M_bound := fun h => ⟨k57.M_bound h.1, h.2⟩
  M_move := fun hm h => ⟨k57.M_move hm h.1, h.2⟩
  M_lower := fun hb h => ⟨k57.M_lower hb h.1, h.2⟩
theorem p57_openM {w : World} {base : Nat} {ok : Nat → Prop} {x : S57} {cs : List Value} (h : p57.M w base ok x cs) : ∃ v0 v1, cs = [v0, v1] ∧ (Kd.int .i64).R 3 w base ok v0 x.f0 ∧ (Kd.int .i64).R 3 w base ok v1 x.f1 := k57_openM h.1
theorem p57_mkA (w : World) (base : Nat) (ok : Nat → Prop) (x : S57) {v0 v1 : Value} (ha : ∀ k, v0.ownBlock = some k → some k ≠ v1.ownBlock) (g0 : (Kd.int .i64).R 3 w base ok v0 x.f0) (g1 : (Kd.int .i64).R 3 w base ok v1 x.f1) : p57.M w base ok x [v0, v1] :=
  ⟨k57_mkM w base ok x g0 g1, fun a b e k hk => by
    injection e with e1 e2
    injection e2 with e2 _
    subst e1 e2
    exact ha k hk⟩
theorem nilApart : ∀ k, (Value.slice none 0 0).ownBlock = some k → some k ≠ (Value.slice none 0 0).ownBlock := fun k hk => by simp [Value.ownBlock] at hk
theorem pS_k {e : Nat} {w : World} {base : Nat} {ok : Nat → Prop} {v : Value} {xs : List S57} (h : Kd.S p57 e w base ok v xs) : Kd.S k57 e w base ok v xs := by
  obtain ⟨f, h0, inner, ho, hr⟩ := h
  exact ⟨f, h0, inner, ho, hr.1, fun j p hj => (hr.2 j p hj).1⟩
/-- A row of positions whose blocks are lo .. hi - 1. -/
def Iv (lo hi : Nat) (b : Nat) : Prop := lo ≤ b ∧ b < hi
def OwnS (w : World) (lo hi : Nat) (v : Value) (xs : List S57) : Prop := hi ≤ w.heap.size ∧ Kd.S p57 57 w lo (Iv lo hi) v xs
theorem OwnS.of {W w : World} {v : Value} {xs : List S57} (h : Kd.S p57 57 w W.heap.size (fun _ => True) v xs) : OwnS w W.heap.size w.heap.size v xs := ⟨Nat.le_refl _, Kd.S_mono (Kd.S_bound h) (fun k hk => ⟨hk.2.1, hk.2.2.1⟩)⟩
theorem OwnS.below {w w1 : World} {lo hi : Nat} {v : Value} {xs : List S57} (h : OwnS w lo hi v xs) (hb : Below w.heap.size w w1) : OwnS w1 lo hi v xs := ⟨Nat.le_trans h.1 hb.size, Kd.S_below h.2 hb⟩
theorem OwnS.kept {w w1 : World} {lo hi a b : Nat} {v : Value} {xs : List S57} (h : OwnS w lo hi v xs) (hk : Kept w w1 (Iv a b)) (hd : hi ≤ a ∨ b ≤ lo) : OwnS w1 lo hi v xs :=
  ⟨Nat.le_trans h.1 hk.1, Kd.S_step h.2 (fun k ho hl => hk.2 k hl (fun h2 => by
    have h3 : lo ≤ k ∧ k < hi := ho
    have h4 : a ≤ k ∧ k < b := h2
    omega))⟩
theorem OwnS.reads {w : World} {lo hi n c : Nat} {A : Option Addr} {xs : List S57} (h : OwnS w lo hi (.slice A n c) xs) : n = xs.length ∧ n ≤ c ∧ Kd.C k57 w A xs.length xs := Kd.S_reads' (pS_k h.2)
theorem OwnS.form {w : World} {lo hi : Nat} {v : Value} {xs : List S57} (h : OwnS w lo hi v xs) : ∃ A c, v = .slice A xs.length c ∧ xs.length ≤ c := by
  obtain ⟨A, c, e, hc, _⟩ := Kd.S_reads h.2
  exact ⟨A, c, e, hc⟩
theorem int_raise {w : World} {b lo : Nat} {ok : Nat → Prop} {v : Value} {ys : List Int} (h : (Kd.int .i64).R 3 w b ok v ys) (hb : ∀ k, v.ownBlock = some k → lo ≤ k) : (Kd.int .i64).R 3 w lo ok v ys := by
  obtain ⟨h0, inner, ho, hr⟩ := h
  refine ⟨h0, inner, ⟨ho.1, ?_⟩, hr⟩
  rcases ho.2 with h2 | ⟨g, cap, cur, hv, hg, r⟩
  · exact .inl h2
  · exact .inr ⟨g, cap, cur, hv, hb g (by rw [hv]; rfl), r⟩
theorem Kept.more {w W W2 : World} {S S2 : Nat → Prop} (h : Kept w W S) (k : Kept W W2 S2) (hs : ∀ b, S2 b → S b) : Kept w W2 S := h.then_ k (fun b hb => .inl (hs b hb))
def laws_markPositionS.f (k : Nat) : List S57 → Int → Option (Int × List S57)
  | [], a => some (a, [])
  | p :: ps, a => (laws_markIntS.f k p.f0 a).bind fun x => (laws_markIntS.f k p.f1 x.1).bind fun y => (laws_markPositionS.f k ps y.1).bind fun z => some (z.1, ⟨x.2, y.2⟩ :: z.2)
set_option maxHeartbeats 4000000 in
set_option maxRecDepth 100000 in
theorem laws_markPositionS.callsA (k : Nat) (lo hi : Nat) (v : Value) (l : List S57) (a1 r1 : Int) (r2 : List S57) (w0 w : World) (hB : Below w0.heap.size w0 w) (h0 : w0.heap.size ≤ lo) (ho : OwnS w lo hi v l) (h : laws_markPositionS.f k l a1 = some (r1, r2)) :
    Calls Try.prog 14 #[v, .int .i64 a1] w fun e w' => e = .returned (.int .i64 r1) ∧ OwnS w' lo hi v r2 ∧ Below w0.heap.size w0 w' ∧ Kept w w' (Iv lo hi) := by
  obtain ⟨A, c, rfl, hcap⟩ := ho.form
  have H0 := Aside0.mk h0
  have HB := Aside0.mk hB
  have HO := Aside0.mk ho
  have HF := Aside0.mk h
  have HK := Aside0.mk (Kept.refl w (Iv lo hi))
  clear h0 hB ho h hcap
  go_enter Try.func14, Try.ntmps14
  go_wp2
  go_loopg [1, 5] l.length (fun kq v1 v5 w' => ∃ (D R R' : List S57) (x1 x5 : Int), v1 = .int .i64 x1 ∧ v5 = .int .i64 x5 ∧ Aside0 (x5 = (D.length : Int)) ∧ Aside0 (laws_markPositionS.f k R x1 = some (r1, R')) ∧ Aside0 (r2 = D ++ R') ∧ Aside0 (D.length + R.length = l.length ∧ R.length ≤ kq) ∧ Aside0 (OwnS w' lo hi (.slice A l.length c) (D ++ R)) ∧ Aside0 (Below w0.heap.size w0 w') ∧ Aside0 (Kept w w' (Iv lo hi)))
  case atStart => exact ⟨[], l, r2, a1, 0, rfl, rfl, ⟨rfl⟩, HF, ⟨rfl⟩, ⟨by simp⟩, HO, HB, HK⟩
  case round =>
    clear HB HO HF HK
    obtain ⟨D, R, R', x1, x5, rfl, rfl, HX, HF, HR, HL, HO, HB, HK⟩ := hrel
    cases R with
    | nil =>
      have hc : decide (x5 < (l.length : Int)) = false := decide_eq_false (by have := HX.out; have := HL.out; simp only [List.length_nil] at this; omega)
      have H := HF.out
      clear HF
      simp only [laws_markPositionS.f, Option.some.injEq, Prod.mk.injEq] at H
      obtain ⟨rfl, rfl⟩ := H
      go_wp2
      go_ret
      refine ⟨rfl, ?_, HB.out, HK.out⟩
      have h1 := HO.out
      rw [HR.out]
      exact h1
    | cons p ps =>
      have hlt : x5 < (l.length : Int) := by have := HX.out; have := HL.out; simp only [List.length_cons] at this; omega
      have hge : 0 ≤ x5 := by have := HX.out; omega
      have hc : decide (x5 < (l.length : Int)) = true := decide_eq_true hlt
      have hc0 : decide (0 ≤ x5) = true := decide_eq_true hge
      have H := HF.out
      clear HF
      simp only [laws_markPositionS.f] at H
      obtain ⟨⟨y1, ys⟩, A1, H⟩ := Option.bind_eq_some_iff.mp H
      obtain ⟨⟨z1, zs⟩, A2, H⟩ := Option.bind_eq_some_iff.mp H
      obtain ⟨⟨q1, qs⟩, A3, H⟩ := Option.bind_eq_some_iff.mp H
      simp only [Option.some.injEq, Prod.mk.injEq] at H
      obtain ⟨rfl, rfl⟩ := H
      have HA1 := Aside0.mk A1
      have HA2 := Aside0.mk A2
      have HA3 := Aside0.mk A3
      clear A1 A2 A3
      obtain ⟨g, cap, ev, hlg, hgs, hcells⟩ := Kd.S_form HO.out.2 (by have := HL.out; simp only [List.length_append, List.length_cons] at this ⊢; omega)
      injection ev with ea en ec
      subst ea ec
      clear en hcells
      obtain ⟨oki, cs, hcl, hM, hcc, hfr, hoki, hH⟩ := Kd.S_elem HO.out.2 z57 x5 hge hlt
      have hap := hM.2
      obtain ⟨v0, v1, rfl, hr0, hr1⟩ := p57_openM hM
      have hpe : (D ++ p :: ps).getD x5.toNat z57 = p := by
        have : x5.toNat = D.length := by have := HX.out; omega
        rw [this]
        simp [List.getD_eq_getElem?_getD]
      rw [hpe] at hr0 hr1
      have hap' : ∀ b, v0.ownBlock = some b → some b ≠ v1.ownBlock := hap v0 v1 rfl
      have hx0 : wr.cell? ⟨g, x5.toNat * 2, none⟩ = some v0 := hcc 0 _ rfl
      have hx1 : wr.cell? ⟨g, x5.toNat * 2 + 1, none⟩ = some v1 := hcc 1 _ rfl
      have hv0 := Kd.R_val hr0
      have hv1 := Kd.R_val hr1
      obtain ⟨Ac0, cc0, ev0⟩ := Kd.R_slice hr0
      obtain ⟨Ac1, cc1, ev1⟩ := Kd.R_slice hr1
      subst ev0 ev1
      have HAP := Aside0.mk hap'
      have H0R := Aside0.mk hr0
      have H1R := Aside0.mk hr1
      have HHo := Aside0.mk hH
      have HOK := Aside0.mk hoki
      have HLT := Aside0.mk (And.intro hge hlt)
      have HHI := Aside0.mk HO.out.1
      have HN := Aside0.mk HO.out.reads.2.2.2.1
      have HLN := Aside0.mk HO.out.reads.1
      have HG := Aside0.mk (And.intro hlg hgs)
      have p10 := eq_true hge
      have q10 := eq_true hlt
      clear hap hap' hM hr0 hr1 hcc hfr hH hoki hcl hpe hge hlt HO hv0 hv1 hlg hgs
      have hwr := Aside0.mk (show wrap64 (x5 + 1) = x5 + 1 by have := HLT.out; have := HN.out; have := HLN.out; unfold wrap64; omega)
      go_wp2_with (first
        | ((with_reducible refine gate_callee (f := 27) rfl ?_); refine goesL_ (some 18) rfl rfl Try.func27 (by kernel_rfl) rfl #[.slice Ac0 p.f0.length cc0, .int .i64 x1] rfl (by (try simp only [List.map_toArray, List.map_cons, List.map_nil]); first | done | rfl) ?_; refine (laws_markIntS.calls k (fun b => some b = (Value.slice Ac0 p.f0.length cc0).ownBlock) (.slice Ac0 p.f0.length cc0) p.f0 x1 y1 ys w0 _ HB.out (Kd.R_lower (Kd.R_tight rfl H0R.out) H0.out) HA1.out).mono ?_; rintro e wa ⟨rfl, hr, hb, hk⟩; refine ⟨_, rfl, ?_⟩; have hP : ∀ b, some b = (Value.slice Ac0 p.f0.length cc0).ownBlock → oki b := fun b hb => H0R.out.1 b hb.symm; have n0_ := Aside0.mk (Kd.H_step HHo.out (fun b hb hn hl => hk.2 b hl (fun he => hn (hP b he)))); have n1_ := Aside0.mk (Kd.R_mono (Kd.R_tight rfl (int_raise hr (fun b hb => Kd.R_base H0R.out b hb))) (fun b hb => H0R.out.1 b hb.symm)); have n2_ := Aside0.mk (Kd.R_mono (Kd.R_step (Kd.R_tight rfl H1R.out) (fun b hb hl => hk.2 b hl (fun he => HAP.out b he.symm hb))) (fun b hb => H1R.out.1 b hb.symm)); have n3_ := Aside0.mk hb; have n4_ := Aside0.mk (Kept.more HK.out hk (fun b hb => (HOK.out b (hP b hb)).1)); have n5_ := Aside0.mk (Nat.le_trans HHI.out hk.1); have m1_ := cell_kept hx1 hk (fun he => (HOK.out _ (hP _ he)).2 rfl); clear hx0 hx1; have hx1 := m1_; clear m1_; clear HHo H0R H1R HB HK HHI; have HHo := n0_; have H0R := n1_; have H1R := n2_; have HB := n3_; have HK := n4_; have HHI := n5_; clear n0_ n1_ n2_ n3_ n4_ n5_ hr hb hk hP)
        | ((with_reducible refine gate_callee (f := 27) rfl ?_); refine goesL_ (some 25) rfl rfl Try.func27 (by kernel_rfl) rfl #[.slice Ac1 p.f1.length cc1, .int .i64 y1] rfl (by (try simp only [List.map_toArray, List.map_cons, List.map_nil]); first | done | rfl) ?_; refine (laws_markIntS.calls k (fun b => some b = (Value.slice Ac1 p.f1.length cc1).ownBlock) (.slice Ac1 p.f1.length cc1) p.f1 y1 z1 zs w0 _ HB.out (Kd.R_lower (Kd.R_tight rfl H1R.out) H0.out) HA2.out).mono ?_; rintro e wb ⟨rfl, hr, hb, hk⟩; refine ⟨_, rfl, ?_⟩; have hP : ∀ b, some b = (Value.slice Ac1 p.f1.length cc1).ownBlock → oki b := fun b hb => H1R.out.1 b hb.symm; have n0_ := Aside0.mk (Kd.H_step HHo.out (fun b hb hn hl => hk.2 b hl (fun he => hn (hP b he)))); have n1_ := Aside0.mk (Kd.R_mono (Kd.R_tight rfl (int_raise hr (fun b hb => Kd.R_base H1R.out b hb))) (fun b hb => H1R.out.1 b hb.symm)); have n2_ := Aside0.mk (Kd.R_mono (Kd.R_step (Kd.R_tight rfl H0R.out) (fun b hb hl => hk.2 b hl (fun he => HAP.out b hb.symm he))) (fun b hb => H0R.out.1 b hb.symm)); have n3_ := Aside0.mk hb; have n4_ := Aside0.mk (Kept.more HK.out hk (fun b hb => (HOK.out b (hP b hb)).1)); have n5_ := Aside0.mk (Nat.le_trans HHI.out hk.1); clear hx1; clear HHo H0R H1R HB HK HHI; have HHo := n0_; have H1R := n1_; have H0R := n2_; have HB := n3_; have HK := n4_; have HHI := n5_; clear n0_ n1_ n2_ n3_ n4_ n5_ hr hb hk hP))
      go_roundg ps.length
      case measure => have := HL.out; simp only [List.length_cons] at this; omega
      case rel =>
        refine ⟨D ++ [⟨ys, zs⟩], ps, qs, z1, wrap64 (x5 + 1), rfl, rfl, ⟨?_⟩, HA3, ⟨?_⟩, ⟨?_⟩, ⟨HHI.out, ?_⟩, HB, HK⟩
        · rw [hwr.out, HX.out, List.length_append, List.length_cons, List.length_nil]
          omega
        · rw [HR.out, List.append_assoc]
          rfl
        · have := HL.out
          simp only [List.length_append, List.length_cons, List.length_nil] at this ⊢
          omega
        · have hb := Kd.H_back HHo.out (x' := (⟨ys, zs⟩ : S57)) (p57_mkA _ _ _ _ HAP.out H0R.out H1R.out) (fun _ h => h)
          have e : (D ++ p :: ps).set x5.toNat (⟨ys, zs⟩ : S57) = (D ++ [⟨ys, zs⟩]) ++ ps := by
            have : x5.toNat = D.length := by have := HX.out; omega
            rw [this, List.set_append_right _ _ (Nat.le_refl _)]
            simp
          rw [e] at hb
          exact hb
set_option maxHeartbeats 8000000 in
set_option maxRecDepth 100000 in
theorem laws_toPositionS.callsA (k : Nat) (A0 : Option Addr) (c0 : Nat) (l0 : List (S59)) (r : List (S57)) (w : World) (hr0 : Kd.C k59 w A0 l0.length l0) (hc0 : l0.length ≤ c0) (h : laws_toPositionS.f k l0 = some r) :
    Calls Try.prog 18 #[.slice A0 l0.length c0] w fun e w' => ∃ v0_ : Value, e = .returned (v0_) ∧ Kd.S p57 57 w' w.heap.size (fun _ => True) v0_ r ∧ Below w.heap.size w w' := by
  have hu59 := Try.underlying59
  have hu57 := Try.underlying57
  have HR0 := Aside0.mk hr0
  have HC0 := Aside0.mk hc0
  clear hr0 hc0
  have HB := Aside0.mk (Below.refl w.heap.size w)
  have H : (if 0 ≤ (l0.length : Int) then (if ((l0.length : Int) : Int).toNat ≤ 5864062014805 then (laws_toPositionS.l0 k l0 (List.replicate ((l0.length : Int) : Int).toNat z57) 0) else (none)) else (none)) = some r := h
  clear h
  by_cases c2 : 0 ≤ (l0.length : Int)
  · rw [if_pos c2] at H
    have c2b0 := eq_true c2
    have c2b1 : decide (0 ≤ (l0.length : Int)) = true := decide_eq_true c2
    clear c2
    by_cases c3 : ((l0.length : Int) : Int).toNat ≤ 5864062014805
    · rw [if_pos c3] at H
      have c3b0 := eq_true c3
      have c3b1 : decide (((l0.length : Int) : Int).toNat ≤ 5864062014805) = true := decide_eq_true c3
      clear c3
      obtain ⟨y137, hy137⟩ : ∃ y_ : List (S57), y_ = (List.replicate ((l0.length : Int) : Int).toNat z57) := ⟨_, rfl⟩
      replace H : (laws_toPositionS.l0 k l0 y137 0) = some r := by first | (rw [hy137]; with_reducible exact H) | (have H2_ := (Option.bind_some _ _).symm.trans H; rw [hy137]; with_reducible exact H2_) | (have H2_ := (Option.bind_some _ _).symm.trans H; with_reducible exact H2_) | with_reducible exact H | (rw [hy137]; exact H) | exact H
      have Ny137 := Aside0.mk hy137
      clear hy137
      have H' := Aside0.mk H
      clear H
      go_enter Try.func18, Try.ntmps18
      go_wp2_with (first | ((with_reducible refine gate_dst (N := 7) rfl ?_); refine Kd.S_make p57 _ 57 rfl (N := 7) rfl 22 _ _ rfl (l0.length : Int) rfl rfl Try.underlying22 (.agg #[(.slice none 0 0), (.slice none 0 0)]) 48 info57 rfl (by decide) (by omega) z57 (ok := fun _ => True) (okp := fun _ => True) (p57_mkA _ _ _ z57 nilApart (Kd.R_nil _ _ _ _ _) (Kd.R_nil _ _ _ _ _)) (fun _ hk => hk) trivial (of_decide_eq_true (by first | (with_reducible assumption) | assumption)) (Nat.le_trans (Nat.mul_le_mul_right _ (of_decide_eq_true (by first | (with_reducible assumption) | assumption) : (l0.length : Int).toNat ≤ 5864062014805)) (by omega)) (Below.refl _ _) (Nat.le_refl _) ?_; intro v138 w4 ho5 hb hg_ hnew_; clear hg_ hnew_; (first | rw [← Ny137.out] at ho5 | (simp only [Int.reduceToNat] at ho5; rw [← Ny137.out] at ho5)); have n0_ := Aside0.mk (Kd.S_lower ho5 (below_size (by repeat (first | (with_reducible first | exact HB.out | apply below_alloc | apply pw_below_drewN | apply below_drew1) | exact HB.out)))); have n1_ := Aside0.mk (below_step (by repeat (first | (with_reducible first | exact HB.out | apply below_alloc | apply pw_below_drewN | apply below_drew1) | exact HB.out)) hb); clear HB; have HO139 := n0_; have HB := n1_; clear n0_ n1_; clear hb ho5))
      go_loopg [4] k (fun kq v4 w' => ∃ (x3_1 : List (S57)) (x4_1 : Int), v4 = .int .i64 x4_1 ∧ Aside0 (laws_toPositionS.l0 kq l0 x3_1 x4_1 = some r) ∧ Aside0 (kq ≤ k) ∧ Aside0 (Kd.S p57 57 w' w.heap.size (fun _ => True) v138 x3_1) ∧ Aside0 (Below w.heap.size w w'))
      case atStart => exact ⟨(y137), (0), (by first | rfl | (simp; done) | (simp [*]; done)), H', ⟨Nat.le_refl _⟩, ⟨by (with_reducible repeat (first | apply Kd.S_alloc | apply Kd.S_drewN | apply Kd.S_drew)); exact HO139.out⟩, ⟨by repeat (first | (with_reducible first | exact HB.out | apply below_alloc | apply pw_below_drewN | apply below_drew1) | exact HB.out)⟩⟩
      case round =>
        clear H'
        try clear c1
        try clear c2
        try clear c2b0
        try clear c2b1
        try clear p2
        try clear c3
        try clear c3b0
        try clear c3b1
        obtain ⟨x3_1, x4_1, rfl, HA, HK1, HO_3, HB⟩ := hrel
        cases gk with
        | zero => exact absurd HA.out (by simp [laws_toPositionS.l0])
        | succ k1 =>
          have H := HA.out
          clear HA
          simp only [laws_toPositionS.l0] at H
          by_cases c6 : x4_1 < (l0.length : Int)
          · rw [if_pos c6] at H
            have c6b0 : decide (x4_1 < (l0.length : Int)) = true := decide_eq_true c6
            clear c6
            by_cases c7 : 0 ≤ x4_1
            · rw [if_pos c7] at H
              have c7b0 : decide (0 ≤ x4_1) = true := decide_eq_true c7
              clear c7
              replace H := Option.bind_eq_some_iff.mp H
              obtain ⟨⟨t141, t144⟩, A80, H⟩ := H
              replace H : (if x4_1 < (x3_1.length : Int) then (laws_toPositionS.l0 k1 l0 (x3_1.set (x4_1 : Int).toNat (⟨t141, t144⟩ : S57)) (wrap64 (x4_1 + 1))) else (none)) = some r := H
              have A8 := Aside0.mk A80
              clear A80
              by_cases c9 : x4_1 < (x3_1.length : Int)
              · rw [if_pos c9] at H
                have c9b0 : decide (x4_1 < (x3_1.length : Int)) = true := decide_eq_true c9
                clear c9
                obtain ⟨y147, hy147⟩ : ∃ y_ : List (S57), y_ = (x3_1.set (x4_1 : Int).toNat (⟨t141, t144⟩ : S57)) := ⟨_, rfl⟩
                replace H : (laws_toPositionS.l0 k1 l0 y147 (wrap64 (x4_1 + 1))) = some r := by first | (rw [hy147]; with_reducible exact H) | (have H2_ := (Option.bind_some _ _).symm.trans H; rw [hy147]; with_reducible exact H2_) | (have H2_ := (Option.bind_some _ _).symm.trans H; with_reducible exact H2_) | with_reducible exact H | (rw [hy147]; exact H) | exact H
                have Ny147 := Aside0.mk hy147
                clear hy147
                have H' := Aside0.mk H
                clear H
                have p140 : 0 ≤ (x4_1 : Int) := of_decide_eq_true (by first | (with_reducible assumption) | assumption)
                have q140 : x4_1 < (l0.length : Int) := of_decide_eq_true (by first | (with_reducible assumption) | assumption)
                obtain ⟨ad140, A140_0, c140_0, A140_1, c140_1, e140, hx140_0, hx140_1, hl140_0, hi140_0, hl140_1, hi140_1⟩ := at_T59 HR0.out x4_1 p140 q140
                cases e140
                replace hx140_0 := (HB.out.cell (World.block_lt_of_cell? w _ hx140_0)).trans hx140_0
                replace hx140_1 := (HB.out.cell (World.block_lt_of_cell? w _ hx140_1)).trans hx140_1
                have HR140_0 := Aside0.mk hi140_0
                have HC140_0 := Aside0.mk hl140_0
                clear hi140_0 hl140_0
                have HR140_1 := Aside0.mk hi140_1
                have HC140_1 := Aside0.mk hl140_1
                clear hi140_1 hl140_1
                replace p140 := eq_true p140
                replace q140 := eq_true q140
                go_wp2_with (first | ((with_reducible refine gate_callee (f := 48) rfl ?_); refine goesL_ (some 20) rfl rfl Try.func48 (by kernel_rfl) rfl #[.agg #[.slice A140_0 ((rd_T59 l0 x4_1).f0).length c140_0, .slice A140_1 ((rd_T59 l0 x4_1).f1).length c140_1]] rfl (by (try simp only [List.map_toArray, List.map_cons, List.map_nil]); first | done | rfl | (simp only [List.length_drop, List.length_take]; rfl)) ?_; (with_reducible refine (laws_toPosition.calls k1 _ _ ((rd_T59 l0 x4_1).f0) _ _ ((rd_T59 l0 x4_1).f1) t141 t144 _ ?side1 ?side2 ?side3 ?side4 A8.out).mono ?_); (case side1 => repeat (first | exact (Kd.C_below HR140_0.out HB.out) | (with_reducible refine Kd.C_alloc ?_ _) | (with_reducible refine Kd.C_drewN ?_ _) | (with_reducible refine Kd.C_drew ?_))); (case side2 => exact HC140_0.out); (case side3 => repeat (first | exact (Kd.C_below HR140_1.out HB.out) | (with_reducible refine Kd.C_alloc ?_ _) | (with_reducible refine Kd.C_drewN ?_ _) | (with_reducible refine Kd.C_drew ?_))); (case side4 => exact HC140_1.out); rintro e w11 ⟨v142, v145, rfl, ho0, ho1, hb⟩; refine ⟨_, rfl, ?_⟩; have n0_ := Aside0.mk (Kd.S_mono (Kd.S_told (Kd.S_told (Kd.S_old (by (with_reducible repeat (first | apply Kd.S_alloc | apply Kd.S_drewN | apply Kd.S_drew)); exact HO_3.out) hb) (Kd.R_base ho0)) (Kd.R_base ho1)) (fun _ h_ => h_.1)); have n1_ := Aside0.mk (Kd.R_lower ho0 (below_size (by repeat (first | (with_reducible first | exact HB.out | apply below_alloc | apply pw_below_drewN | apply below_drew1) | exact HB.out)))); have n2_ := Aside0.mk (Kd.R_lower ho1 (below_size (by repeat (first | (with_reducible first | exact HB.out | apply below_alloc | apply pw_below_drewN | apply below_drew1) | exact HB.out)))); have n3_ := Aside0.mk (below_step (by repeat (first | (with_reducible first | exact HB.out | apply below_alloc | apply pw_below_drewN | apply below_drew1) | exact HB.out)) hb); clear HO_3; clear HB; have HO_3 := n0_; have HO143 := n1_; have HO146 := n2_; have HB := n3_; clear n0_ n1_ n2_ n3_; (try clear hb); (try clear hb2); (try clear hk); (try clear hi); (try clear ho0); (try clear ho1); have p10 : 0 ≤ (x4_1 : Int) := of_decide_eq_true (by first | (with_reducible assumption) | assumption); have q10 : (x4_1 : Int) < ((x3_1.length : Int) : Int) := of_decide_eq_true (by first | (with_reducible assumption) | assumption); obtain ⟨go10, co10, eo10, gb10, gl10, cl10, HG10⟩ := Kd.S_form HO_3.out (by omega); (first | cases eo10 | (injection eo10 with ea_ en_ ec_; (first | subst ea_ | (injection ea_ with ea_; subst ea_)); subst ec_; clear en_)); have GB10 := Aside0.mk gb10; have GG10 := Aside0.mk HG10; clear gb10 gl10 HG10; obtain ⟨_, ce10, hcl10, hM10, hcc10, hfr10, _, _⟩ := Kd.S_elem HO_3.out z57 (x4_1 : Int) p10 q10; obtain ⟨ve10_0, ve10_1, rfl, ge10_0, ge10_1⟩ := p57_openM hM10; have hx10_0 : w11.cell? ⟨go10, (x4_1 : Int).toNat * 2, none⟩ = some (ve10_0) := hcc10 0 _ rfl; have hx10_1 : w11.cell? ⟨go10, (x4_1 : Int).toNat * 2 + 1, none⟩ = some (ve10_1) := hcc10 1 _ rfl; have hf10_0 : w11.frozen? ⟨go10, (x4_1 : Int).toNat * 2, none⟩ = false := hfr10 0; have hf10_1 : w11.frozen? ⟨go10, (x4_1 : Int).toNat * 2 + 1, none⟩ = false := hfr10 1; clear hcl10 hcc10 hfr10 hM10; replace p10 := eq_true p10; replace q10 := eq_true q10; have n_ := Aside0.mk (Kd.S_mono (ok' := (fun k_ => some k_ ≠ (v142 : Value).ownBlock ∧ some k_ ≠ (v145 : Value).ownBlock)) HO_3.out (fun k_ hk => ⟨hk.1.2, hk.2⟩)); clear HO_3; have HO_3 := n_; clear n_; have HX12 := Aside0.mk (show Kd.S p57 57 w11 w.heap.size (fun k_ => ((fun _ => True)) k_ ∧ ¬ ((fun k_ => some k_ = (v142 : Value).ownBlock ∨ some k_ = (v145 : Value).ownBlock)) k_) (.slice (some ⟨go10, 0, none⟩) x3_1.length co10) x3_1 from (by (with_reducible repeat (first | apply Kd.S_alloc | apply Kd.S_drewN | apply Kd.S_drew)); exact Kd.S_mono HO_3.out (fun k_ hk => ⟨trivial, fun e_ => e_.elim (fun h_ => hk.1 h_) (fun h_ => hk.2 h_)⟩))); obtain ⟨oki12, ce12, hcl12, hM12, hcc12, hfr12, hoki12, hH12⟩ := Kd.S_elem HX12.out z57 (x4_1 : Int) (of_decide_eq_true (by first | (with_reducible assumption) | assumption)) (by have h_ : (x4_1 : Int) < ((x3_1.length : Int) : Int) := of_decide_eq_true (by first | (with_reducible assumption) | assumption); first | exact h_ | (have e_ := (Kd.S_reads' HO_3.out).1; omega) | simpa using h_); obtain ⟨ve12_0, ve12_1, rfl, ge12_0, ge12_1⟩ := p57_openM hM12; have HP12 := Kd.S_seg hH12 (of_decide_eq_true (by first | (with_reducible assumption) | assumption)) (by have h_ : (x4_1 : Int) < ((x3_1.length : Int) : Int) := of_decide_eq_true (by first | (with_reducible assumption) | assumption); first | exact h_ | (have e_ := (Kd.S_reads' HO_3.out).1; omega) | simpa using h_) (seg := [v142, v145]) (j := 0) (show 2 ≤ 2 from by decide) (x' := (⟨t141, t144⟩ : S57)) (p57_mkA _ _ _ (⟨t141, t144⟩ : S57) (fun k hk => by have h_ := HO143.out.1 k hk; first | exact h_ | exact h_.2 | exact h_.1.2 | exact h_.1 | exact h_.2.2 | exact h_.2.1 | exact h_.1.1.2) (Kd.R_mono (Kd.R_tight rfl (Kd.R_mono (ok' := fun k_ => ((fun _ => True)) k_ ∧ k_ ≠ go10) (Kd.R_apart' (HO143.out) (Kd.S_typed HO_3.out) (by decide)) (fun k_ hk => ⟨trivial, fun e_ => (hk.2) (by rw [e_]; rfl)⟩))) (fun _ h_ => Or.inr (Or.inl h_))) (Kd.R_mono (Kd.R_tight rfl (Kd.R_mono (ok' := fun k_ => ((fun _ => True)) k_ ∧ k_ ≠ go10) (Kd.R_apart' (HO146.out) (Kd.S_typed HO_3.out) (by decide)) (fun k_ hk => ⟨trivial, fun e_ => (hk.2) (by rw [e_]; rfl)⟩))) (fun _ h_ => Or.inr (Or.inr (h_))))) (fun _ hk => hk) (fun k_ hk_ => hk_.elim (fun h_ => ((Kd.R_mono (ok' := fun k_ => ((fun _ => True)) k_ ∧ k_ ≠ go10) (Kd.R_apart' (HO143.out) (Kd.S_typed HO_3.out) (by decide)) (fun k_ hk => ⟨trivial, fun e_ => (hk.2) (by rw [e_]; rfl)⟩))).1 k_ h_.symm) (fun h_ => ((Kd.R_mono (ok' := fun k_ => ((fun _ => True)) k_ ∧ k_ ≠ go10) (Kd.R_apart' (HO146.out) (Kd.S_typed HO_3.out) (by decide)) (fun k_ hk => ⟨trivial, fun e_ => (hk.2) (by rw [e_]; rfl)⟩))).1 k_ h_.symm)); have hx12_0 := hcc12 0 _ rfl; (try simp only [show (p57).sz = 2 from rfl, Nat.mul_one, Nat.add_zero] at hx12_0); have hf12_0 := hfr12 0; (try simp only [show (p57).sz = 2 from rfl, Nat.mul_one, Nat.add_zero] at hf12_0); have hx12_1 := hcc12 1 _ rfl; (try simp only [show (p57).sz = 2 from rfl, Nat.mul_one, Nat.add_zero] at hx12_1); have hf12_1 := hfr12 1; (try simp only [show (p57).sz = 2 from rfl, Nat.mul_one, Nat.add_zero] at hf12_1); clear hcl12 hcc12 hfr12 hM12 hoki12 hH12) | ((with_reducible refine gate_store (t := 57) (p := 21) rfl ?_); refine store_event (t := 57) (p := 21) (v := ?vo_w13) (w1 := ((w11.setCell ⟨go10, (x4_1 : Int).toNat * 2, none⟩ (v142)).setCell ⟨go10, (x4_1 : Int).toNat * 2 + 1, none⟩ (v145))) ?hg ?ho ?hn ?hr ?_; (case ho => rfl); (case hg => rfl); (case hn => rfl); (case hr => first | (go_simp; done) | (go_simp; rfl) | (have sv0_ := fun (w_ : World) (a_ : Addr) (m_ : Mode) => run_store Try.prog w_ a_ (v142) m_ (Kd.R_val (Kd.R_bound HO143.out)).2; have sv1_ := fun (w_ : World) (a_ : Addr) (m_ : Mode) => run_store Try.prog w_ a_ (v145) m_ (Kd.R_val (Kd.R_bound HO146.out)).2; go_simp; done) | (have sv0_ := fun (w_ : World) (a_ : Addr) (m_ : Mode) => run_store Try.prog w_ a_ (v142) m_ (Kd.R_val (Kd.R_bound HO143.out)).2; have sv1_ := fun (w_ : World) (a_ : Addr) (m_ : Mode) => run_store Try.prog w_ a_ (v145) m_ (Kd.R_val (Kd.R_bound HO146.out)).2; go_simp; rfl)); intro w13 hw; have hg : w11.grownBy w13 (some go10) := (by rw [hw]; exact HP12.2); have hp_ : Kd.S p57 57 w13 w.heap.size (fun _ => True) (.slice (some ⟨go10, 0, none⟩) x3_1.length co10) y147 := (by rw [hw, Ny147.out]; exact HP12.1); clear HP12; have n0_ := Aside0.mk (hp_); have n1_ := Aside0.mk ((by rw [hw]; exact below_set (below_set (HB.out) GB10.out) GB10.out : Below w.heap.size w w13)); clear HO_3; clear HB; clear HO143; clear HO146; have HO_3 := n0_; have HB := n1_; clear n0_ n1_; clear hg hw hp_))
                go_roundg k1
                case measure => have := HK1.out; omega
                case rel => exact ⟨(y147), (wrap64 (x4_1 + 1)), (by first | rfl | (simp; done) | (simp [*]; done)), H', ⟨by have := HK1.out; omega⟩, ⟨by (with_reducible repeat (first | apply Kd.S_alloc | apply Kd.S_drewN | apply Kd.S_drew)); exact HO_3.out⟩, ⟨by repeat (first | (with_reducible first | exact HB.out | apply below_alloc | apply pw_below_drewN | apply below_drew1) | exact HB.out)⟩⟩
              · rw [if_neg c9] at H
                exact absurd H (by simp)
            · rw [if_neg c7] at H
              exact absurd H (by simp)
          · rw [if_neg c6] at H
            have c6b0 : decide (x4_1 < (l0.length : Int)) = false := decide_eq_false c6
            clear c6
            obtain rfl := Option.some.inj H
            go_wp2
            go_ret
            exact ⟨_, by first | rfl | (simp [errW_none, errW_some] <;> rfl) | (simp [*, errW_none, errW_some] <;> rfl), by (with_reducible repeat (first | apply Kd.S_alloc | apply Kd.S_drewN | apply Kd.S_drew)); exact HO_3.out, by repeat (first | (with_reducible first | exact HB.out | apply below_alloc | apply pw_below_drewN | apply below_drew1) | exact HB.out)⟩
    · rw [if_neg c3] at H
      exact absurd H (by simp)
  · rw [if_neg c2] at H
    exact absurd H (by simp)
set_option maxHeartbeats 8000000 in
set_option maxRecDepth 100000 in
theorem spec_NegateGame.callsA (k : Nat) (A0 : Option Addr) (c0 : Nat) (l0 : List (S57)) (r1 : List (S57)) (r2 : Bool) (w : World) (hr0 : Kd.C k57 w A0 l0.length l0) (hc0 : l0.length ≤ c0) (h : spec_NegateGame.f k l0 = some (r1, r2)) :
    Calls Try.prog 20 #[.slice A0 l0.length c0] w fun e w' => ∃ v0_ : Value, e = .returned (.tuple #[v0_, .bool r2]) ∧ Kd.S p57 57 w' w.heap.size (fun _ => True) v0_ r1 ∧ Below w.heap.size w w' := by
  have hu57 := Try.underlying57
  have HR0 := Aside0.mk hr0
  have HC0 := Aside0.mk hc0
  clear hr0 hc0
  have HB := Aside0.mk (Below.refl w.heap.size w)
  have H : ((spec_gaGood.f k l0).bind fun t162 => (if t162 = true then (spec_NegateGame.l0 k ([] : List (S57)) l0 (l0.length : Int) 0) else (some (([] : List (S57)), false)))) = some (r1, r2) := h
  clear h
  replace H := Option.bind_eq_some_iff.mp H
  obtain ⟨t162, A20, H⟩ := H
  replace H : (if t162 = true then (spec_NegateGame.l0 k ([] : List (S57)) l0 (l0.length : Int) 0) else (some (([] : List (S57)), false))) = some (r1, r2) := H
  have A2 := Aside0.mk A20
  clear A20
  by_cases c3 : t162 = true
  · subst c3
    have H1 : (spec_NegateGame.l0 k ([] : List (S57)) l0 (l0.length : Int) 0) = some (r1, r2) := by rw [if_pos rfl] at H; exact H
    clear H
    have H := H1
    clear H1
    have H' := Aside0.mk H
    clear H
    go_enter Try.func20, Try.ntmps20
    go_wp2_with (first | ((with_reducible refine gate_callee (f := 51) rfl ?_); refine goesL_ (some 8) rfl rfl Try.func51 (by kernel_rfl) rfl #[.slice A0 l0.length c0] rfl (by (try simp only [List.map_toArray, List.map_cons, List.map_nil]); first | done | rfl | (simp only [List.length_drop, List.length_take]; rfl)) ?_; (with_reducible refine (spec_gaGood.calls k _ _ l0 true _ ?side1 ?side2 A2.out).mono ?_); (case side1 => repeat (first | exact HR0.out | (with_reducible refine Kd.C_alloc ?_ _) | (with_reducible refine Kd.C_drewN ?_ _) | (with_reducible refine Kd.C_drew ?_))); (case side2 => exact HC0.out); rintro e w4 ⟨rfl, hb⟩; refine ⟨_, rfl, ?_⟩; have n0_ := Aside0.mk (below_step (by repeat (first | (with_reducible first | exact HB.out | apply below_alloc | apply pw_below_drewN | apply below_drew1) | exact HB.out)) hb); clear HB; have HB := n0_; clear n0_; (try clear hb); (try clear hb2); (try clear hk); (try clear hi)))
    go_loopg [4, 12] k (fun kq v4 v12 w' => ∃ (x4_1 : List (S57)) (x12_1 : Int), v12 = .int .i64 x12_1 ∧ Aside0 (spec_NegateGame.l0 kq x4_1 l0 (l0.length : Int) x12_1 = some (r1, r2)) ∧ Aside0 (kq ≤ k) ∧ Aside0 (Kd.S p57 57 w' w.heap.size (fun _ => True) v4 x4_1) ∧ Aside0 (Below w.heap.size w w'))
    case atStart => exact ⟨(([] : List (S57))), (0), (by first | rfl | (simp; done) | (simp [*]; done)), H', ⟨Nat.le_refl _⟩, ⟨by first | exact Kd.S_nil _ _ _ _ _ | exact Kd.N_nil _ _ _ _ _ | exact Kd.V_nil _ _ _ _ _ | exact Kd.Q_nil _ _ _ _ _ | exact Kd.R_nil _ _ _ _ _⟩, ⟨by repeat (first | (with_reducible first | exact HB.out | apply below_alloc | apply pw_below_drewN | apply below_drew1) | exact HB.out)⟩⟩
    case round =>
      clear H'
      try clear c2
      try clear p2
      try clear c3
      obtain ⟨x4_1, x12_1, rfl, HA, HK1, HO_4, HB⟩ := hrel
      cases gk with
      | zero => exact absurd HA.out (by simp [spec_NegateGame.l0])
      | succ k1 =>
        have H := HA.out
        clear HA
        simp only [spec_NegateGame.l0] at H
        by_cases c5 : x12_1 < (l0.length : Int)
        · rw [if_pos c5] at H
          have c5b0 : decide (x12_1 < (l0.length : Int)) = true := decide_eq_true c5
          clear c5
          by_cases c6 : 0 ≤ x12_1
          · rw [if_pos c6] at H
            have c6b0 : decide (0 ≤ x12_1) = true := decide_eq_true c6
            clear c6
            by_cases c7 : x12_1 < (l0.length : Int)
            · rw [if_pos c7] at H
              have c7b0 : decide (x12_1 < (l0.length : Int)) = true := decide_eq_true c7
              clear c7
              replace H := Option.bind_eq_some_iff.mp H
              obtain ⟨t165, A80, H⟩ := H
              replace H : ((spec_l1Own.f ((rd_T57 l0 x12_1).f0)).bind fun t168 => (if x4_1.length < 2932031007402 then (spec_NegateGame.l0 k1 (x4_1 ++ [(⟨t165, t168⟩ : S57)]) l0 (l0.length : Int) (wrap64 (x12_1 + 1))) else (none))) = some (r1, r2) := H
              have A8 := Aside0.mk A80
              clear A80
              replace H := Option.bind_eq_some_iff.mp H
              obtain ⟨t168, A90, H⟩ := H
              replace H : (if x4_1.length < 2932031007402 then (spec_NegateGame.l0 k1 (x4_1 ++ [(⟨t165, t168⟩ : S57)]) l0 (l0.length : Int) (wrap64 (x12_1 + 1))) else (none)) = some (r1, r2) := H
              have A9 := Aside0.mk A90
              clear A90
              by_cases c10 : x4_1.length < 2932031007402
              · rw [if_pos c10] at H
                have LMc10 := Aside0.mk c10
                clear c10
                obtain ⟨y171, hy171⟩ : ∃ y_ : List (S57), y_ = (x4_1 ++ [(⟨t165, t168⟩ : S57)]) := ⟨_, rfl⟩
                replace H : (spec_NegateGame.l0 k1 y171 l0 (l0.length : Int) (wrap64 (x12_1 + 1))) = some (r1, r2) := by first | (rw [hy171]; with_reducible exact H) | (have H2_ := (Option.bind_some _ _).symm.trans H; rw [hy171]; with_reducible exact H2_) | (have H2_ := (Option.bind_some _ _).symm.trans H; with_reducible exact H2_) | with_reducible exact H | (rw [hy171]; exact H) | exact H
                have Ny171 := Aside0.mk hy171
                clear hy171
                have H' := Aside0.mk H
                clear H
                have p163 : 0 ≤ (x12_1 : Int) := of_decide_eq_true (by first | (with_reducible assumption) | assumption)
                have q163 : x12_1 < (l0.length : Int) := of_decide_eq_true (by first | (with_reducible assumption) | assumption)
                obtain ⟨ad163, A163_0, c163_0, A163_1, c163_1, e163, hx163_0, hx163_1, hl163_0, hi163_0, hl163_1, hi163_1⟩ := at_T57 HR0.out x12_1 p163 q163
                cases e163
                replace hx163_0 := (HB.out.cell (World.block_lt_of_cell? w _ hx163_0)).trans hx163_0
                replace hx163_1 := (HB.out.cell (World.block_lt_of_cell? w _ hx163_1)).trans hx163_1
                have HR163_0 := Aside0.mk hi163_0
                have HC163_0 := Aside0.mk hl163_0
                clear hi163_0 hl163_0
                have HR163_1 := Aside0.mk hi163_1
                have HC163_1 := Aside0.mk hl163_1
                clear hi163_1 hl163_1
                replace p163 := eq_true p163
                replace q163 := eq_true q163
                try go_wp2_with (first | ((with_reducible refine gate_dst (N := 6) rfl ?_); refine box_event ?hg (N := 6) ?hd (cs := #[.slice none 0 0, .slice none 0 0]) (t := 57) ?hr ?_; (case hd => rfl); (case hg => rfl); (case hr => first | (go_simp; done) | (go_simp; rfl)); intro gb164 hg w11 hbox hb; have n0_ := Aside0.mk (Kd.S_below (Kd.S_elderB (by (with_reducible repeat (first | apply Kd.S_alloc | apply Kd.S_drewN | apply Kd.S_drew)); exact HO_4.out) gb164 (Nat.le_of_eq hg.symm)) hb); have n1_ := Aside0.mk (below_step (by repeat (first | (with_reducible first | exact HB.out | apply below_alloc | apply pw_below_drewN | apply below_drew1) | exact HB.out)) hb); have n2_ := Aside0.mk (hbox); have n3_ := Aside0.mk ((by rw [hg]; exact (below_size (by repeat (first | (with_reducible first | exact HB.out | apply below_alloc | apply pw_below_drewN | apply below_drew1) | exact HB.out))) : w.heap.size ≤ gb164)); have n4_ := Aside0.mk ((by rw [hg]; exact (below_size (by repeat (first | (with_reducible first | exact HB.out | apply below_alloc | apply pw_below_drewN | apply below_drew1) | exact HB.out))) : w.heap.size ≤ gb164)); clear HO_4; clear HB; have HO_4 := n0_; have HB := n1_; have BK164 := n2_; have GW164 := n3_; have GE164 := n4_; clear n0_ n1_ n2_ n3_ n4_; clear hb hbox hg; have hcz12_0 : w11.cell? ⟨gb164, 0, none⟩ = some (.slice none 0 0) := (blk_cell BK164.out 0).trans rfl; have hcz12_1 : w11.cell? ⟨gb164, 1, none⟩ = some (.slice none 0 0) := (blk_cell BK164.out 1).trans rfl; have hfz12_0 := blk_frozen BK164.out 0; have hfz12_1 := blk_frozen BK164.out 1))
                have n0_ : Aside0 (Kd.S p57 57 ((w11.setCell ⟨gb164, 0, none⟩ (.slice A163_0 ((rd_T57 l0 x12_1).f0).length c163_0)).setCell ⟨gb164, 1, none⟩ (.slice A163_1 ((rd_T57 l0 x12_1).f1).length c163_1)) w.heap.size (fun k_ => k_ ≠ gb164) u4 x4_1) := ⟨by (with_reducible repeat (first | apply Kd.S_alloc | apply Kd.S_drewN | apply Kd.S_drew)); exact Kd.S_mono (Kd.S_far (p := ⟨gb164, 1, none⟩) (Kd.S_far (p := ⟨gb164, 0, none⟩) (Kd.S_mono HO_4.out (fun k_ hk => (⟨hk, hk.2⟩ : _ ∧ k_ ≠ gb164))) (fun _ hk => hk.2) (.slice A163_0 ((rd_T57 l0 x12_1).f0).length c163_0)) (fun _ hk => hk.2) (.slice A163_1 ((rd_T57 l0 x12_1).f1).length c163_1)) (fun _ hk => hk.1.2)⟩
                have n1_ : Aside0 (((w11.setCell ⟨gb164, 0, none⟩ (.slice A163_0 ((rd_T57 l0 x12_1).f0).length c163_0)).setCell ⟨gb164, 1, none⟩ (.slice A163_1 ((rd_T57 l0 x12_1).f1).length c163_1)).heap[gb164]? = some (.cells #[.slice A163_0 ((rd_T57 l0 x12_1).f0).length c163_0, .slice A163_1 ((rd_T57 l0 x12_1).f1).length c163_1] 57 (0, 0))) := ⟨by (with_reducible repeat (first | refine blk_drewN ?_ _ | refine blk_drew ?_ | refine blk_alloc ?_ _)); refine blk_put (cs := #[.slice A163_0 ((rd_T57 l0 x12_1).f0).length c163_0, .slice none 0 0]) ?_ 1 _ rfl; (with_reducible repeat (first | refine blk_drewN ?_ _ | refine blk_drew ?_ | refine blk_alloc ?_ _)); refine blk_put (cs := #[.slice none 0 0, .slice none 0 0]) ?_ 0 _ rfl; (with_reducible repeat (first | refine blk_drewN ?_ _ | refine blk_drew ?_ | refine blk_alloc ?_ _)); exact BK164.out⟩
                have n2_ : Aside0 (Below w.heap.size w ((w11.setCell ⟨gb164, 0, none⟩ (.slice A163_0 ((rd_T57 l0 x12_1).f0).length c163_0)).setCell ⟨gb164, 1, none⟩ (.slice A163_1 ((rd_T57 l0 x12_1).f1).length c163_1))) := ⟨by repeat (first | (with_reducible first | exact HB.out | apply below_alloc | apply pw_below_drewN | apply below_drew1 | refine below_set ?_ GE164.out) | exact HB.out)⟩
                (try clear HO_4)
                (try clear BK164)
                (try clear HB)
                generalize ((w11.setCell ⟨gb164, 0, none⟩ (.slice A163_0 ((rd_T57 l0 x12_1).f0).length c163_0)).setCell ⟨gb164, 1, none⟩ (.slice A163_1 ((rd_T57 l0 x12_1).f1).length c163_1)) = w13 at n0_ n1_ n2_ ⊢
                have HO_4 := n0_
                have BK164 := n1_
                have HB := n2_
                clear n0_ n1_ n2_
                have n0_ := Aside0.mk (Kd.S_drew HO_4.out)
                have n1_ := Aside0.mk (blk_drew BK164.out)
                have n2_ := Aside0.mk (below_drew1 HB.out)
                clear HO_4
                clear BK164
                clear HB
                have HO_4 := n0_
                have BK164 := n1_
                have HB := n2_
                clear n0_ n1_ n2_
                refine start_ (n := 11) (S := fun w' => w'.cell? ⟨gb164, 0, none⟩ = some (.slice A163_0 ((rd_T57 l0 x12_1).f0).length c163_0) ∧ w'.cell? ⟨gb164, 1, none⟩ = some (.slice A163_1 ((rd_T57 l0 x12_1).f1).length c163_1)) (ds := []) #[false, false, false, false, false, false, false, false, false, false, false] (by kernel_rfl) rfl rfl ⟨(blk_cell BK164.out 0).trans rfl, (blk_cell BK164.out 1).trans rfl⟩ (fun hHeld => ?_); refine with_tabW spec_NegateGame.tab7 spec_NegateGame.bits7 (fun HT_ HW_ => ?_)
                generalize w13.drew = w14 at HO_4 BK164 HB hHeld ⊢
                refine pure_ (i := 0) (N := some 16) (v := ?_) (a' := ?_) #[true, false, false, false, false, false, false, false, false, false, false] rfl rfl (any_of HT_.out (by kernel_rfl)) (fun _ _ _ h => h) (Or.inl ⟨by rfl, ?_⟩) ?_ ?_
                rotate_left
                · intro w'
                  go_simp
                  with_reducible rfl
                rotate_left
                · simp only [Act.put, List.setIfInBounds_toArray, List.set_cons_zero, List.set_cons_succ, i64_w, i32_w]
                  rfl
                refine pure_ (i := 1) (N := some 17) (v := ?_) (a' := ?_) #[true, true, false, false, false, false, false, false, false, false, false] rfl rfl (any_of HT_.out (by kernel_rfl)) (fun _ _ _ h => h) (Or.inl ⟨by rfl, ?_⟩) ?_ ?_
                rotate_left
                · intro w'
                  go_simp
                  with_reducible rfl
                rotate_left
                · simp only [Act.put, List.setIfInBounds_toArray, List.set_cons_zero, List.set_cons_succ, i64_w, i32_w]
                  rfl
                refine pure_ (i := 4) (N := some 20) (v := ?_) (a' := ?_) #[true, true, false, false, true, false, false, false, false, false, false] rfl rfl (any_of HT_.out (by kernel_rfl)) (fun _ _ _ h => h) (Or.inl ⟨by rfl, ?_⟩) ?_ ?_
                rotate_left
                · intro w'
                  go_simp
                  with_reducible rfl
                rotate_left
                · simp only [Act.put, List.setIfInBounds_toArray, List.set_cons_zero, List.set_cons_succ, i64_w, i32_w]
                  rfl
                refine take_ (i := 2) (N := some 18) (v := ?_) (a' := ?_) #[true, true, true, false, true, false, false, false, false, false, false] rfl rfl (take_ofW HT_.out HW_.out (by kernel_rfl)) (fun _ _ _ h => h) (Or.inl ⟨by rfl, ?_⟩) hHeld ?_ ?_
                rotate_left
                · rintro w' ⟨s0, s1⟩
                  go_simp
                  with_reducible rfl
                rotate_left
                · simp only [Act.put, List.setIfInBounds_toArray, List.set_cons_zero, List.set_cons_succ, i64_w, i32_w]
                  rfl
                refine take_ (i := 5) (N := some 21) (v := ?_) (a' := ?_) #[true, true, true, false, true, true, false, false, false, false, false] rfl rfl (take_ofW HT_.out HW_.out (by kernel_rfl)) (fun _ _ _ h => h) (Or.inl ⟨by rfl, ?_⟩) hHeld ?_ ?_
                rotate_left
                · rintro w' ⟨s0, s1⟩
                  go_simp
                  with_reducible rfl
                rotate_left
                · simp only [Act.put, List.setIfInBounds_toArray, List.set_cons_zero, List.set_cons_succ, i64_w, i32_w]
                  rfl
                refine one_ (i := 3) (N := some 19) #[true, true, true, true, true, true, false, false, false, false, false] rfl rfl (one_of HT_.out (by kernel_rfl)) (by decide) (fun K hK => ?_)
                refine goes_ Try.func52 (by kernel_rfl) rfl #[.slice A163_1 ((rd_T57 l0 x12_1).f1).length c163_1] (by rfl) rfl rfl (by (try simp only [List.map_toArray, List.map_cons, List.map_nil]); first | done | rfl | (simp only [List.length_drop, List.length_take]; rfl)) ?_
                with_reducible refine (spec_l1Own.calls _ _ ((rd_T57 l0 x12_1).f1) t165 _ ?side1 ?side2 A8.out).mono ?_
                (case side1 => repeat (first | exact (Kd.C_below HR163_1.out HB.out) | (with_reducible refine Kd.C_alloc ?_ _) | (with_reducible refine Kd.C_drewN ?_ _) | (with_reducible refine Kd.C_drew ?_)))
                (case side2 => exact HC163_1.out)
                rintro e w15 ⟨v166, rfl, ho0, hb⟩
                refine ⟨_, rfl, ?_⟩
                have n0_ := Aside0.mk (Kd.S_elder' (by (with_reducible repeat (first | apply Kd.S_alloc | apply Kd.S_drewN | apply Kd.S_drew)); exact HO_4.out) (Kd.R_base ho0) hb)
                have n1_ := Aside0.mk (Kd.R_lower ho0 (below_size (by repeat (first | (with_reducible first | exact HB.out | apply below_alloc | apply pw_below_drewN | apply below_drew1 | refine below_set ?_ GE164.out) | exact HB.out))))
                have n2_ := Aside0.mk (blk_below (g := gb164) (o := .cells #[.slice A163_0 ((rd_T57 l0 x12_1).f0).length c163_0, .slice A163_1 ((rd_T57 l0 x12_1).f1).length c163_1] 57 (0, 0)) (by (with_reducible repeat (first | refine blk_drewN ?_ _ | refine blk_drew ?_ | refine blk_alloc ?_ _)); exact BK164.out) hb)
                have n3_ := Aside0.mk (below_step (by repeat (first | (with_reducible first | exact HB.out | apply below_alloc | apply pw_below_drewN | apply below_drew1 | refine below_set ?_ GE164.out) | exact HB.out)) hb)
                clear HO_4
                clear BK164
                clear HB
                have HO_4 := n0_
                have HO167 := n1_
                have BK164 := n2_
                have HB := n3_
                clear n0_ n1_ n2_ n3_
                (try clear hb)
                (try clear hb2)
                (try clear hk)
                (try clear hi)
                (try clear ho0)
                refine hK.out _ _ ⟨(blk_cell BK164.out 0).trans rfl, (blk_cell BK164.out 1).trans rfl⟩ (fun hHeld => ?_)
                clear hK K
                refine norm_ (a' := ?_) ?_ ?_
                rotate_left
                · show Act.put _ (some 19) _ = _
                  simp only [Act.put, List.setIfInBounds_toArray, List.set_cons_zero, List.set_cons_succ, i64_w, i32_w]
                  rfl
                refine one_ (i := 6) (N := some 22) #[true, true, true, true, true, true, true, false, false, false, false] rfl rfl (one_of HT_.out (by kernel_rfl)) (by decide) (fun K hK => ?_)
                refine goes_ Try.func52 (by kernel_rfl) rfl #[.slice A163_0 ((rd_T57 l0 x12_1).f0).length c163_0] (by rfl) rfl rfl (by (try simp only [List.map_toArray, List.map_cons, List.map_nil]); first | done | rfl | (simp only [List.length_drop, List.length_take]; rfl)) ?_
                with_reducible refine (spec_l1Own.calls _ _ ((rd_T57 l0 x12_1).f0) t168 _ ?side1 ?side2 A9.out).mono ?_
                (case side1 => repeat (first | exact (Kd.C_below HR163_0.out HB.out) | (with_reducible refine Kd.C_alloc ?_ _) | (with_reducible refine Kd.C_drewN ?_ _) | (with_reducible refine Kd.C_drew ?_)))
                (case side2 => exact HC163_0.out)
                rintro e w16 ⟨v169, rfl, ho0, hb⟩
                refine ⟨_, rfl, ?_⟩
                have n0_ := Aside0.mk (Kd.S_elder' (by (with_reducible repeat (first | apply Kd.S_alloc | apply Kd.S_drewN | apply Kd.S_drew)); exact HO_4.out) (Kd.R_base ho0) hb)
                have n1_ := Aside0.mk (Kd.R_elder' (by (with_reducible repeat (first | apply Kd.R_alloc | apply Kd.R_drewN | apply Kd.R_drew)); exact HO167.out) (Kd.R_base ho0) hb)
                have n2_ := Aside0.mk (Kd.R_lower (Kd.R_new' ho0 (Kd.R_lt (by (with_reducible repeat (first | apply Kd.R_alloc | apply Kd.R_drewN | apply Kd.R_drew)); exact HO167.out))) (below_size (by repeat (first | (with_reducible first | exact HB.out | apply below_alloc | apply pw_below_drewN | apply below_drew1 | refine below_set ?_ GE164.out) | exact HB.out))))
                have n3_ := Aside0.mk (blk_below (g := gb164) (o := .cells #[.slice A163_0 ((rd_T57 l0 x12_1).f0).length c163_0, .slice A163_1 ((rd_T57 l0 x12_1).f1).length c163_1] 57 (0, 0)) (by (with_reducible repeat (first | refine blk_drewN ?_ _ | refine blk_drew ?_ | refine blk_alloc ?_ _)); exact BK164.out) hb)
                have n4_ := Aside0.mk (below_step (by repeat (first | (with_reducible first | exact HB.out | apply below_alloc | apply pw_below_drewN | apply below_drew1 | refine below_set ?_ GE164.out) | exact HB.out)) hb)
                clear HO_4
                clear HO167
                clear BK164
                clear HB
                have HO_4 := n0_
                have HO167 := n1_
                have HO170 := n2_
                have BK164 := n3_
                have HB := n4_
                clear n0_ n1_ n2_ n3_ n4_
                (try clear hb)
                (try clear hb2)
                (try clear hk)
                (try clear hi)
                (try clear ho0)
                obtain ⟨Ao17, co17, eo17⟩ := Kd.R_slice HO170.out
                (first | subst eo17 | (injection eo17 with f1_ f2_ f3_; have f4_ := f1_.symm; have f5_ := f3_.symm; clear f1_ f2_ f3_; subst f4_; subst f5_))
                obtain ⟨Ao18, co18, eo18⟩ := Kd.R_slice HO167.out
                (first | subst eo18 | (injection eo18 with f1_ f2_ f3_; have f4_ := f1_.symm; have f5_ := f3_.symm; clear f1_ f2_ f3_; subst f4_; subst f5_))
                refine hK.out _ _ ⟨(blk_cell BK164.out 0).trans rfl, (blk_cell BK164.out 1).trans rfl⟩ (fun hHeld => ?_)
                clear hK K
                refine norm_ (a' := ?_) ?_ ?_
                rotate_left
                · show Act.put _ (some 22) _ = _
                  simp only [Act.put, List.setIfInBounds_toArray, List.set_cons_zero, List.set_cons_succ, i64_w, i32_w]
                  rfl
                refine pure_ (i := 7) (N := some 23) (v := ?_) (a' := ?_) #[true, true, true, true, true, true, true, true, false, false, false] rfl rfl (any_of HT_.out (by kernel_rfl)) (fun _ _ _ h => h) (Or.inl ⟨by rfl, ?_⟩) ?_ ?_
                rotate_left
                · intro w'
                  go_simp
                  with_reducible rfl
                rotate_left
                · simp only [Act.put, List.setIfInBounds_toArray, List.set_cons_zero, List.set_cons_succ, i64_w, i32_w]
                  rfl
                refine one_ (i := 8) (N := some 24) #[true, true, true, true, true, true, true, true, true, false, false] rfl rfl (one_of HT_.out (by kernel_rfl)) (by decide) (fun K hK => ?_)
                refine value_ (w1 := ?_) (v := ?_) (by rfl) rfl ?_ ?_
                rotate_left 2
                · go_simp
                  constructor
                  · rfl
                  · rfl
                refine hK.out _ _ ⟨(blk_cell (blk_alloc BK164.out _) 0).trans rfl, (blk_cell (blk_alloc BK164.out _) 1).trans rfl⟩ (fun hHeld => ?_)
                clear hK K
                refine norm_ (a' := ?_) ?_ ?_
                rotate_left
                · show Act.put _ (some 24) _ = _
                  simp only [Act.put, List.setIfInBounds_toArray, List.set_cons_zero, List.set_cons_succ, i64_w, i32_w]
                  rfl
                refine one_ (i := 9) (N := some 25) #[true, true, true, true, true, true, true, true, true, true, false] rfl rfl (one_of HT_.out (by kernel_rfl)) (by decide) (fun K hK => ?_)
                refine Kd.S_append_step p57 (w0 := w) w.heap.size (by rfl) (.tmp 16) (.tmp 24) 22 57 (.agg #[(.slice none 0 0), (.slice none 0 0)]) 48 rfl Try.underlying22 info57 rfl (by decide) (by omega) u4 x4_1 (⟨t165, t168⟩ : S57) [.slice Ao18 t165.length co18, .slice Ao17 t168.length co17] (fun k_ => k_ ≠ gb164) (fun k_ => some k_ = (.slice Ao18 t165.length co18 : Value).ownBlock ∨ some k_ = (.slice Ao17 t168.length co17 : Value).ownBlock) rfl rfl ?aP (fun k_ hk_ => hk_.elim (fun h_ => ((Kd.R_mono (ok' := fun k_ => ((fun k_ => k_ ≠ gb164)) k_ ∧ some k_ ≠ (u4 : Value).ownBlock) (Kd.R_types (Kd.R_apart' (HO167.out) (Kd.S_typed HO_4.out) (by decide)) BK164.out (by decide)) (fun k_ hk => ⟨hk.2, hk.1.2⟩))).1 k_ h_.symm) (fun h_ => ((Kd.R_mono (ok' := fun k_ => ((fun k_ => k_ ≠ gb164)) k_ ∧ some k_ ≠ (u4 : Value).ownBlock) (Kd.R_types (Kd.R_apart' (HO170.out) (Kd.S_typed HO_4.out) (by decide)) BK164.out (by decide)) (fun k_ hk => ⟨hk.2, hk.1.2⟩))).1 k_ h_.symm)) ?aF ?aO ?aB ?aS ?aL ?_
                (case aP => exact p57_mkA _ _ _ (⟨t165, t168⟩ : S57) (fun k hk => by have h_ := HO167.out.1 k hk; first | exact h_ | exact h_.2 | exact h_.1.2 | exact h_.1 | exact h_.2.2 | exact h_.2.1 | exact h_.1.1.2) (Kd.R_mono (Kd.R_tight rfl (Kd.R_mono (ok' := fun k_ => ((fun k_ => k_ ≠ gb164)) k_ ∧ some k_ ≠ (u4 : Value).ownBlock) (Kd.R_types (Kd.R_apart' (HO167.out) (Kd.S_typed HO_4.out) (by decide)) BK164.out (by decide)) (fun k_ hk => ⟨hk.2, hk.1.2⟩))) (fun _ h_ => Or.inl h_)) (Kd.R_mono (Kd.R_tight rfl (Kd.R_mono (ok' := fun k_ => ((fun k_ => k_ ≠ gb164)) k_ ∧ some k_ ≠ (u4 : Value).ownBlock) (Kd.R_types (Kd.R_apart' (HO170.out) (Kd.S_typed HO_4.out) (by decide)) BK164.out (by decide)) (fun k_ hk => ⟨hk.2, hk.1.2⟩))) (fun _ h_ => Or.inr (h_))))
                (case aB => exact (by repeat (first | (with_reducible first | exact HB.out | apply below_alloc | apply pw_below_drewN | apply below_drew1 | refine below_set ?_ GE164.out) | exact HB.out)))
                (case aF => exact (fun k_ hk => Kd.freshB (g := gb164) (o := .cells #[.slice A163_0 ((rd_T57 l0 x12_1).f0).length c163_0, .slice A163_1 ((rd_T57 l0 x12_1).f1).length c163_1] 57 (0, 0)) (by (with_reducible repeat (first | refine blk_drewN ?_ _ | refine blk_drew ?_ | refine blk_alloc ?_ _)); exact BK164.out) k_ hk))
                (case aO => exact (by (with_reducible repeat (first | apply Kd.S_alloc | apply Kd.S_drewN | apply Kd.S_drew)); exact Kd.S_mono HO_4.out (fun k_ hk => ⟨hk.1.1, fun e_ => e_.elim (fun h_ => hk.1.2 h_) (fun h_ => hk.2 h_)⟩)))
                (case aS => exact (below_size (by repeat (first | (with_reducible first | exact HB.out | apply below_alloc | apply pw_below_drewN | apply below_drew1 | refine below_set ?_ GE164.out) | exact HB.out))))
                (case aL => have := LMc10.out; omega)
                intro v172 w19 ho hb hg hat
                rw [← Ny171.out] at ho
                have n0_ := Aside0.mk (blk_grown (g := gb164) (o := .cells #[.slice A163_0 ((rd_T57 l0 x12_1).f0).length c163_0, .slice A163_1 ((rd_T57 l0 x12_1).f1).length c163_1] 57 (0, 0)) (by (with_reducible repeat (first | refine blk_drewN ?_ _ | refine blk_drew ?_ | refine blk_alloc ?_ _)); exact BK164.out) hg (Kd.S_away HO_4.out (fun _ hk => hk.1.1)))
                have n1_ := Aside0.mk (hb)
                have n2_ := Aside0.mk (ho)
                clear BK164
                clear HB
                clear HO_4
                clear HO167
                clear HO170
                have BK164 := n0_
                have HB := n1_
                have HO173 := n2_
                clear n0_ n1_ n2_
                clear ho hb hg hat
                refine hK.out _ _ ⟨(blk_cell BK164.out 0).trans rfl, (blk_cell BK164.out 1).trans rfl⟩ (fun hHeld => ?_)
                clear hK K
                refine norm_ (a' := ?_) ?_ ?_
                rotate_left
                · show Act.put _ (some 25) _ = _
                  simp only [Act.put, List.setIfInBounds_toArray, List.set_cons_zero, List.set_cons_succ, i64_w, i32_w]
                  rfl
                refine pure_ (i := 10) (N := some 4) (v := ?_) (a' := ?_) #[true, true, true, true, true, true, true, true, true, true, true] rfl rfl (any_of HT_.out (by kernel_rfl)) (fun _ _ _ h => h) (Or.inl ⟨by rfl, ?_⟩) ?_ ?_
                rotate_left
                · intro w'
                  go_simp
                  with_reducible rfl
                rotate_left
                · simp only [Act.put, List.setIfInBounds_toArray, List.set_cons_zero, List.set_cons_succ, i64_w, i32_w]
                  rfl
                refine done_ (done_of HT_.out (by kernel_rfl)) ?_
                try go_wp2
                go_roundg k1
                case measure => have := HK1.out; omega
                case rel => exact ⟨(y171), (wrap64 (x12_1 + 1)), (by first | rfl | (simp; done) | (simp [*]; done)), H', ⟨by have := HK1.out; omega⟩, ⟨by (with_reducible repeat (first | apply Kd.S_alloc | apply Kd.S_drewN | apply Kd.S_drew)); exact Kd.S_mono HO173.out (fun _ hk => trivial)⟩, ⟨by repeat (first | (with_reducible first | exact HB.out | apply below_alloc | apply pw_below_drewN | apply below_drew1 | refine below_set ?_ GE164.out) | exact HB.out)⟩⟩
              · rw [if_neg c10] at H
                exact absurd H (by simp)
            · rw [if_neg c7] at H
              exact absurd H (by simp)
          · rw [if_neg c6] at H
            exact absurd H (by simp)
        · rw [if_neg c5] at H
          have c5b0 : decide (x12_1 < (l0.length : Int)) = false := decide_eq_false c5
          clear c5
          simp only [Option.some.injEq, Prod.mk.injEq] at H
          obtain ⟨rfl, rfl⟩ := H
          go_wp2
          go_ret2
          exact ⟨_, by first | rfl | (simp [errW_none, errW_some] <;> rfl) | (simp [*, errW_none, errW_some] <;> rfl), by (with_reducible repeat (first | apply Kd.S_alloc | apply Kd.S_drewN | apply Kd.S_drew)); exact HO_4.out, by repeat (first | (with_reducible first | exact HB.out | apply below_alloc | apply pw_below_drewN | apply below_drew1) | exact HB.out)⟩
  · replace c3 := Bool.eq_false_iff.mpr c3
    subst c3
    have H1 : (some (([] : List (S57)), false)) = some (r1, r2) := by rw [if_neg (show ¬ (false = true) by decide)] at H; exact H
    clear H
    have H := H1
    clear H1
    simp only [Option.some.injEq, Prod.mk.injEq] at H
    obtain ⟨rfl, rfl⟩ := H
    go_enter Try.func20, Try.ntmps20
    go_wp2_with (first | ((with_reducible refine gate_callee (f := 51) rfl ?_); refine goesL_ (some 8) rfl rfl Try.func51 (by kernel_rfl) rfl #[.slice A0 l0.length c0] rfl (by (try simp only [List.map_toArray, List.map_cons, List.map_nil]); first | done | rfl | (simp only [List.length_drop, List.length_take]; rfl)) ?_; (with_reducible refine (spec_gaGood.calls k _ _ l0 false _ ?side1 ?side2 A2.out).mono ?_); (case side1 => repeat (first | exact HR0.out | (with_reducible refine Kd.C_alloc ?_ _) | (with_reducible refine Kd.C_drewN ?_ _) | (with_reducible refine Kd.C_drew ?_))); (case side2 => exact HC0.out); rintro e w20 ⟨rfl, hb⟩; refine ⟨_, rfl, ?_⟩; have n0_ := Aside0.mk (below_step (by repeat (first | (with_reducible first | exact HB.out | apply below_alloc | apply pw_below_drewN | apply below_drew1) | exact HB.out)) hb); clear HB; have HB := n0_; clear n0_; (try clear hb); (try clear hb2); (try clear hk); (try clear hi)))
    go_ret2
    exact ⟨_, by first | rfl | (simp [errW_none, errW_some] <;> rfl) | (simp [*, errW_none, errW_some] <;> rfl), by first | exact Kd.S_nil _ _ _ _ _ | exact Kd.N_nil _ _ _ _ _ | exact Kd.V_nil _ _ _ _ _ | exact Kd.Q_nil _ _ _ _ _ | exact Kd.R_nil _ _ _ _ _, by repeat (first | (with_reducible first | exact HB.out | apply below_alloc | apply pw_below_drewN | apply below_drew1) | exact HB.out)⟩
set_option maxHeartbeats 8000000 in
set_option maxRecDepth 100000 in
theorem impl_NegateGame.callsA (k : Nat) (A0 : Option Addr) (c0 : Nat) (l0 : List (S57)) (r1 : List (S57)) (r2 : Bool) (w : World) (hr0 : Kd.C k57 w A0 l0.length l0) (hc0 : l0.length ≤ c0) (h : impl_NegateGame.f k l0 = some (r1, r2)) :
    Calls Try.prog 21 #[.slice A0 l0.length c0] w fun e w' => ∃ v0_ : Value, e = .returned (.tuple #[v0_, .bool r2]) ∧ Kd.S p57 57 w' w.heap.size (fun _ => True) v0_ r1 ∧ Below w.heap.size w w' := by
  have hu57 := Try.underlying57
  have HR0 := Aside0.mk hr0
  have HC0 := Aside0.mk hc0
  clear hr0 hc0
  have HB := Aside0.mk (Below.refl w.heap.size w)
  have H : ((impl_IsGame.f k l0).bind fun t188 => (if t188 = true then (impl_NegateGame.l0 k (([] : List (S57))) l0 (l0.length : Int) 0) else (some (([] : List (S57)), false)))) = some (r1, r2) := h
  clear h
  replace H := Option.bind_eq_some_iff.mp H
  obtain ⟨t188, A20, H⟩ := H
  replace H : (if t188 = true then (impl_NegateGame.l0 k (([] : List (S57))) l0 (l0.length : Int) 0) else (some (([] : List (S57)), false))) = some (r1, r2) := H
  have A2 := Aside0.mk A20
  clear A20
  by_cases c3 : t188 = true
  · subst c3
    have H1 : (impl_NegateGame.l0 k (([] : List (S57))) l0 (l0.length : Int) 0) = some (r1, r2) := by rw [if_pos rfl] at H; exact H
    clear H
    have H := H1
    clear H1
    obtain ⟨y189, hy189⟩ : ∃ y_ : List (S57), y_ = (([] : List (S57))) := ⟨_, rfl⟩
    replace H : (impl_NegateGame.l0 k y189 l0 (l0.length : Int) 0) = some (r1, r2) := by first | (rw [hy189]; with_reducible exact H) | (have H2_ := (Option.bind_some _ _).symm.trans H; rw [hy189]; with_reducible exact H2_) | (have H2_ := (Option.bind_some _ _).symm.trans H; with_reducible exact H2_) | with_reducible exact H | (rw [hy189]; exact H) | exact H
    have Ny189 := Aside0.mk hy189
    clear hy189
    have H' := Aside0.mk H
    clear H
    go_enter Try.func21, Try.ntmps21
    go_wp2_with (first | ((with_reducible refine gate_callee (f := 53) rfl ?_); refine goesL_ (some 8) rfl rfl Try.func53 (by kernel_rfl) rfl #[.slice A0 l0.length c0] rfl (by (try simp only [List.map_toArray, List.map_cons, List.map_nil]); first | done | rfl | (simp only [List.length_drop, List.length_take]; rfl)) ?_; (with_reducible refine (impl_IsGame.calls k _ _ l0 true _ ?side1 ?side2 A2.out).mono ?_); (case side1 => repeat (first | exact HR0.out | (with_reducible refine Kd.C_alloc ?_ _) | (with_reducible refine Kd.C_drewN ?_ _) | (with_reducible refine Kd.C_drew ?_))); (case side2 => exact HC0.out); rintro e w4 ⟨rfl, hb⟩; refine ⟨_, rfl, ?_⟩; have n0_ := Aside0.mk (below_step (by repeat (first | (with_reducible first | exact HB.out | apply below_alloc | apply pw_below_drewN | apply below_drew1) | exact HB.out)) hb); clear HB; have HB := n0_; clear n0_; (try clear hb); (try clear hb2); (try clear hk); (try clear hi)) | ((with_reducible refine gate_dst (N := 10) rfl ?_); refine Kd.S_lit p57 _ 57 ?hg (N := 10) ?hd (xs := ([] : List (S57))) (inner := []) (ok := fun _ => True) (okp := fun _ => True) ?hr ?hp (fun _ hk => hk) trivial (Below.refl _ _) (Nat.le_refl _) (by simp) ?_; (case hd => rfl); (case hg => rfl); (case hr => first | (go_simp; done) | (go_simp; rfl)); (case hp => exact (Reps.none _ _)); intro v190 w5 ho6 hb hg_ hnew_; clear hg_ hnew_; (first | rw [← Ny189.out] at ho6 | (simp only [Int.reduceToNat] at ho6; rw [← Ny189.out] at ho6)); have n0_ := Aside0.mk (Kd.S_lower ho6 (below_size (by repeat (first | (with_reducible first | exact HB.out | apply below_alloc | apply pw_below_drewN | apply below_drew1) | exact HB.out)))); have n1_ := Aside0.mk (below_step (by repeat (first | (with_reducible first | exact HB.out | apply below_alloc | apply pw_below_drewN | apply below_drew1) | exact HB.out)) hb); clear HB; have HO191 := n0_; have HB := n1_; clear n0_ n1_; clear hb ho6))
    go_loopg [4, 13] k (fun kq v4 v13 w' => ∃ (x4_1 : List (S57)) (x13_1 : Int), v13 = .int .i64 x13_1 ∧ Aside0 (impl_NegateGame.l0 kq x4_1 l0 (l0.length : Int) x13_1 = some (r1, r2)) ∧ Aside0 (kq ≤ k) ∧ Aside0 (Kd.S p57 57 w' w.heap.size (fun _ => True) v4 x4_1) ∧ Aside0 (Below w.heap.size w w'))
    case atStart => exact ⟨(y189), (0), (by first | rfl | (simp; done) | (simp [*]; done)), H', ⟨Nat.le_refl _⟩, ⟨by (with_reducible repeat (first | apply Kd.S_alloc | apply Kd.S_drewN | apply Kd.S_drew)); exact HO191.out⟩, ⟨by repeat (first | (with_reducible first | exact HB.out | apply below_alloc | apply pw_below_drewN | apply below_drew1) | exact HB.out)⟩⟩
    case round =>
      clear H'
      try clear c2
      try clear p2
      try clear c3
      try clear c5
      obtain ⟨x4_1, x13_1, rfl, HA, HK1, HO_4, HB⟩ := hrel
      cases gk with
      | zero => exact absurd HA.out (by simp [impl_NegateGame.l0])
      | succ k1 =>
        have H := HA.out
        clear HA
        simp only [impl_NegateGame.l0] at H
        by_cases c7 : x13_1 < (l0.length : Int)
        · rw [if_pos c7] at H
          have c7b0 : decide (x13_1 < (l0.length : Int)) = true := decide_eq_true c7
          clear c7
          by_cases c8 : 0 ≤ x13_1
          · rw [if_pos c8] at H
            have c8b0 : decide (0 ≤ x13_1) = true := decide_eq_true c8
            clear c8
            by_cases c9 : x13_1 < (l0.length : Int)
            · rw [if_pos c9] at H
              have c9b0 : decide (x13_1 < (l0.length : Int)) = true := decide_eq_true c9
              clear c9
              replace H := Option.bind_eq_some_iff.mp H
              obtain ⟨t194, A100, H⟩ := H
              replace H : ((slices_Clone_int_int.f ((rd_T57 l0 x13_1).f0)).bind fun t197 => (if x4_1.length < 2932031007402 then (impl_NegateGame.l0 k1 (x4_1 ++ [(⟨t194, t197⟩ : S57)]) l0 (l0.length : Int) (wrap64 (x13_1 + 1))) else (none))) = some (r1, r2) := H
              have A10 := Aside0.mk A100
              clear A100
              replace H := Option.bind_eq_some_iff.mp H
              obtain ⟨t197, A110, H⟩ := H
              replace H : (if x4_1.length < 2932031007402 then (impl_NegateGame.l0 k1 (x4_1 ++ [(⟨t194, t197⟩ : S57)]) l0 (l0.length : Int) (wrap64 (x13_1 + 1))) else (none)) = some (r1, r2) := H
              have A11 := Aside0.mk A110
              clear A110
              by_cases c12 : x4_1.length < 2932031007402
              · rw [if_pos c12] at H
                have LMc12 := Aside0.mk c12
                clear c12
                obtain ⟨y200, hy200⟩ : ∃ y_ : List (S57), y_ = (x4_1 ++ [(⟨t194, t197⟩ : S57)]) := ⟨_, rfl⟩
                replace H : (impl_NegateGame.l0 k1 y200 l0 (l0.length : Int) (wrap64 (x13_1 + 1))) = some (r1, r2) := by first | (rw [hy200]; with_reducible exact H) | (have H2_ := (Option.bind_some _ _).symm.trans H; rw [hy200]; with_reducible exact H2_) | (have H2_ := (Option.bind_some _ _).symm.trans H; with_reducible exact H2_) | with_reducible exact H | (rw [hy200]; exact H) | exact H
                have Ny200 := Aside0.mk hy200
                clear hy200
                have H' := Aside0.mk H
                clear H
                have p192 : 0 ≤ (x13_1 : Int) := of_decide_eq_true (by first | (with_reducible assumption) | assumption)
                have q192 : x13_1 < (l0.length : Int) := of_decide_eq_true (by first | (with_reducible assumption) | assumption)
                obtain ⟨ad192, A192_0, c192_0, A192_1, c192_1, e192, hx192_0, hx192_1, hl192_0, hi192_0, hl192_1, hi192_1⟩ := at_T57 HR0.out x13_1 p192 q192
                cases e192
                replace hx192_0 := (HB.out.cell (World.block_lt_of_cell? w _ hx192_0)).trans hx192_0
                replace hx192_1 := (HB.out.cell (World.block_lt_of_cell? w _ hx192_1)).trans hx192_1
                have HR192_0 := Aside0.mk hi192_0
                have HC192_0 := Aside0.mk hl192_0
                clear hi192_0 hl192_0
                have HR192_1 := Aside0.mk hi192_1
                have HC192_1 := Aside0.mk hl192_1
                clear hi192_1 hl192_1
                replace p192 := eq_true p192
                replace q192 := eq_true q192
                try go_wp2_with (first | ((with_reducible refine gate_dst (N := 6) rfl ?_); refine box_event ?hg (N := 6) ?hd (cs := #[.slice none 0 0, .slice none 0 0]) (t := 57) ?hr ?_; (case hd => rfl); (case hg => rfl); (case hr => first | (go_simp; done) | (go_simp; rfl)); intro gb193 hg w13 hbox hb; have n0_ := Aside0.mk (Kd.S_below (Kd.S_elderB (by (with_reducible repeat (first | apply Kd.S_alloc | apply Kd.S_drewN | apply Kd.S_drew)); exact HO_4.out) gb193 (Nat.le_of_eq hg.symm)) hb); have n1_ := Aside0.mk (below_step (by repeat (first | (with_reducible first | exact HB.out | apply below_alloc | apply pw_below_drewN | apply below_drew1) | exact HB.out)) hb); have n2_ := Aside0.mk (hbox); have n3_ := Aside0.mk ((by rw [hg]; exact (below_size (by repeat (first | (with_reducible first | exact HB.out | apply below_alloc | apply pw_below_drewN | apply below_drew1) | exact HB.out))) : w.heap.size ≤ gb193)); have n4_ := Aside0.mk ((by rw [hg]; exact (below_size (by repeat (first | (with_reducible first | exact HB.out | apply below_alloc | apply pw_below_drewN | apply below_drew1) | exact HB.out))) : w.heap.size ≤ gb193)); clear HO_4; clear HB; have HO_4 := n0_; have HB := n1_; have BK193 := n2_; have GW193 := n3_; have GE193 := n4_; clear n0_ n1_ n2_ n3_ n4_; clear hb hbox hg; have hcz14_0 : w13.cell? ⟨gb193, 0, none⟩ = some (.slice none 0 0) := (blk_cell BK193.out 0).trans rfl; have hcz14_1 : w13.cell? ⟨gb193, 1, none⟩ = some (.slice none 0 0) := (blk_cell BK193.out 1).trans rfl; have hfz14_0 := blk_frozen BK193.out 0; have hfz14_1 := blk_frozen BK193.out 1))
                have n0_ : Aside0 (Kd.S p57 57 ((w13.setCell ⟨gb193, 0, none⟩ (.slice A192_0 ((rd_T57 l0 x13_1).f0).length c192_0)).setCell ⟨gb193, 1, none⟩ (.slice A192_1 ((rd_T57 l0 x13_1).f1).length c192_1)) w.heap.size (fun k_ => k_ ≠ gb193) u4 x4_1) := ⟨by (with_reducible repeat (first | apply Kd.S_alloc | apply Kd.S_drewN | apply Kd.S_drew)); exact Kd.S_mono (Kd.S_far (p := ⟨gb193, 1, none⟩) (Kd.S_far (p := ⟨gb193, 0, none⟩) (Kd.S_mono HO_4.out (fun k_ hk => (⟨hk, hk.2⟩ : _ ∧ k_ ≠ gb193))) (fun _ hk => hk.2) (.slice A192_0 ((rd_T57 l0 x13_1).f0).length c192_0)) (fun _ hk => hk.2) (.slice A192_1 ((rd_T57 l0 x13_1).f1).length c192_1)) (fun _ hk => hk.1.2)⟩
                have n1_ : Aside0 (((w13.setCell ⟨gb193, 0, none⟩ (.slice A192_0 ((rd_T57 l0 x13_1).f0).length c192_0)).setCell ⟨gb193, 1, none⟩ (.slice A192_1 ((rd_T57 l0 x13_1).f1).length c192_1)).heap[gb193]? = some (.cells #[.slice A192_0 ((rd_T57 l0 x13_1).f0).length c192_0, .slice A192_1 ((rd_T57 l0 x13_1).f1).length c192_1] 57 (0, 0))) := ⟨by (with_reducible repeat (first | refine blk_drewN ?_ _ | refine blk_drew ?_ | refine blk_alloc ?_ _)); refine blk_put (cs := #[.slice A192_0 ((rd_T57 l0 x13_1).f0).length c192_0, .slice none 0 0]) ?_ 1 _ rfl; (with_reducible repeat (first | refine blk_drewN ?_ _ | refine blk_drew ?_ | refine blk_alloc ?_ _)); refine blk_put (cs := #[.slice none 0 0, .slice none 0 0]) ?_ 0 _ rfl; (with_reducible repeat (first | refine blk_drewN ?_ _ | refine blk_drew ?_ | refine blk_alloc ?_ _)); exact BK193.out⟩
                have n2_ : Aside0 (Below w.heap.size w ((w13.setCell ⟨gb193, 0, none⟩ (.slice A192_0 ((rd_T57 l0 x13_1).f0).length c192_0)).setCell ⟨gb193, 1, none⟩ (.slice A192_1 ((rd_T57 l0 x13_1).f1).length c192_1))) := ⟨by repeat (first | (with_reducible first | exact HB.out | apply below_alloc | apply pw_below_drewN | apply below_drew1 | refine below_set ?_ GE193.out) | exact HB.out)⟩
                (try clear HO_4)
                (try clear BK193)
                (try clear HB)
                generalize ((w13.setCell ⟨gb193, 0, none⟩ (.slice A192_0 ((rd_T57 l0 x13_1).f0).length c192_0)).setCell ⟨gb193, 1, none⟩ (.slice A192_1 ((rd_T57 l0 x13_1).f1).length c192_1)) = w15 at n0_ n1_ n2_ ⊢
                have HO_4 := n0_
                have BK193 := n1_
                have HB := n2_
                clear n0_ n1_ n2_
                have n0_ := Aside0.mk (Kd.S_drew HO_4.out)
                have n1_ := Aside0.mk (blk_drew BK193.out)
                have n2_ := Aside0.mk (below_drew1 HB.out)
                clear HO_4
                clear BK193
                clear HB
                have HO_4 := n0_
                have BK193 := n1_
                have HB := n2_
                clear n0_ n1_ n2_
                refine start_ (n := 11) (S := fun w' => w'.cell? ⟨gb193, 0, none⟩ = some (.slice A192_0 ((rd_T57 l0 x13_1).f0).length c192_0) ∧ w'.cell? ⟨gb193, 1, none⟩ = some (.slice A192_1 ((rd_T57 l0 x13_1).f1).length c192_1)) (ds := []) #[false, false, false, false, false, false, false, false, false, false, false] (by kernel_rfl) rfl rfl ⟨(blk_cell BK193.out 0).trans rfl, (blk_cell BK193.out 1).trans rfl⟩ (fun hHeld => ?_); refine with_tabW impl_NegateGame.tab7 impl_NegateGame.bits7 (fun HT_ HW_ => ?_)
                generalize w15.drew = w16 at HO_4 BK193 HB hHeld ⊢
                refine pure_ (i := 0) (N := some 17) (v := ?_) (a' := ?_) #[true, false, false, false, false, false, false, false, false, false, false] rfl rfl (any_of HT_.out (by kernel_rfl)) (fun _ _ _ h => h) (Or.inl ⟨by rfl, ?_⟩) ?_ ?_
                rotate_left
                · intro w'
                  go_simp
                  with_reducible rfl
                rotate_left
                · simp only [Act.put, List.setIfInBounds_toArray, List.set_cons_zero, List.set_cons_succ, i64_w, i32_w]
                  rfl
                refine pure_ (i := 1) (N := some 18) (v := ?_) (a' := ?_) #[true, true, false, false, false, false, false, false, false, false, false] rfl rfl (any_of HT_.out (by kernel_rfl)) (fun _ _ _ h => h) (Or.inl ⟨by rfl, ?_⟩) ?_ ?_
                rotate_left
                · intro w'
                  go_simp
                  with_reducible rfl
                rotate_left
                · simp only [Act.put, List.setIfInBounds_toArray, List.set_cons_zero, List.set_cons_succ, i64_w, i32_w]
                  rfl
                refine pure_ (i := 4) (N := some 21) (v := ?_) (a' := ?_) #[true, true, false, false, true, false, false, false, false, false, false] rfl rfl (any_of HT_.out (by kernel_rfl)) (fun _ _ _ h => h) (Or.inl ⟨by rfl, ?_⟩) ?_ ?_
                rotate_left
                · intro w'
                  go_simp
                  with_reducible rfl
                rotate_left
                · simp only [Act.put, List.setIfInBounds_toArray, List.set_cons_zero, List.set_cons_succ, i64_w, i32_w]
                  rfl
                refine take_ (i := 2) (N := some 19) (v := ?_) (a' := ?_) #[true, true, true, false, true, false, false, false, false, false, false] rfl rfl (take_ofW HT_.out HW_.out (by kernel_rfl)) (fun _ _ _ h => h) (Or.inl ⟨by rfl, ?_⟩) hHeld ?_ ?_
                rotate_left
                · rintro w' ⟨s0, s1⟩
                  go_simp
                  with_reducible rfl
                rotate_left
                · simp only [Act.put, List.setIfInBounds_toArray, List.set_cons_zero, List.set_cons_succ, i64_w, i32_w]
                  rfl
                refine take_ (i := 5) (N := some 22) (v := ?_) (a' := ?_) #[true, true, true, false, true, true, false, false, false, false, false] rfl rfl (take_ofW HT_.out HW_.out (by kernel_rfl)) (fun _ _ _ h => h) (Or.inl ⟨by rfl, ?_⟩) hHeld ?_ ?_
                rotate_left
                · rintro w' ⟨s0, s1⟩
                  go_simp
                  with_reducible rfl
                rotate_left
                · simp only [Act.put, List.setIfInBounds_toArray, List.set_cons_zero, List.set_cons_succ, i64_w, i32_w]
                  rfl
                refine one_ (i := 3) (N := some 20) #[true, true, true, true, true, true, false, false, false, false, false] rfl rfl (one_of HT_.out (by kernel_rfl)) (by decide) (fun K hK => ?_)
                refine goes_ Try.func54 (by kernel_rfl) rfl #[.slice A192_1 ((rd_T57 l0 x13_1).f1).length c192_1] (by rfl) rfl rfl (by (try simp only [List.map_toArray, List.map_cons, List.map_nil]); first | done | rfl | (simp only [List.length_drop, List.length_take]; rfl)) ?_
                with_reducible refine (slices_Clone_int_int.calls _ _ ((rd_T57 l0 x13_1).f1) t194 _ ?side1 ?side2 A10.out).mono ?_
                (case side1 => repeat (first | exact (Kd.C_below HR192_1.out HB.out) | (with_reducible refine Kd.C_alloc ?_ _) | (with_reducible refine Kd.C_drewN ?_ _) | (with_reducible refine Kd.C_drew ?_)))
                (case side2 => exact HC192_1.out)
                rintro e w17 ⟨v195, rfl, ho0, hb⟩
                refine ⟨_, rfl, ?_⟩
                have n0_ := Aside0.mk (Kd.S_elder' (by (with_reducible repeat (first | apply Kd.S_alloc | apply Kd.S_drewN | apply Kd.S_drew)); exact HO_4.out) (Kd.R_base ho0) hb)
                have n1_ := Aside0.mk (Kd.R_lower ho0 (below_size (by repeat (first | (with_reducible first | exact HB.out | apply below_alloc | apply pw_below_drewN | apply below_drew1 | refine below_set ?_ GE193.out) | exact HB.out))))
                have n2_ := Aside0.mk (blk_below (g := gb193) (o := .cells #[.slice A192_0 ((rd_T57 l0 x13_1).f0).length c192_0, .slice A192_1 ((rd_T57 l0 x13_1).f1).length c192_1] 57 (0, 0)) (by (with_reducible repeat (first | refine blk_drewN ?_ _ | refine blk_drew ?_ | refine blk_alloc ?_ _)); exact BK193.out) hb)
                have n3_ := Aside0.mk (below_step (by repeat (first | (with_reducible first | exact HB.out | apply below_alloc | apply pw_below_drewN | apply below_drew1 | refine below_set ?_ GE193.out) | exact HB.out)) hb)
                clear HO_4
                clear BK193
                clear HB
                have HO_4 := n0_
                have HO196 := n1_
                have BK193 := n2_
                have HB := n3_
                clear n0_ n1_ n2_ n3_
                (try clear hb)
                (try clear hb2)
                (try clear hk)
                (try clear hi)
                (try clear ho0)
                refine hK.out _ _ ⟨(blk_cell BK193.out 0).trans rfl, (blk_cell BK193.out 1).trans rfl⟩ (fun hHeld => ?_)
                clear hK K
                refine norm_ (a' := ?_) ?_ ?_
                rotate_left
                · show Act.put _ (some 20) _ = _
                  simp only [Act.put, List.setIfInBounds_toArray, List.set_cons_zero, List.set_cons_succ, i64_w, i32_w]
                  rfl
                refine one_ (i := 6) (N := some 23) #[true, true, true, true, true, true, true, false, false, false, false] rfl rfl (one_of HT_.out (by kernel_rfl)) (by decide) (fun K hK => ?_)
                refine goes_ Try.func54 (by kernel_rfl) rfl #[.slice A192_0 ((rd_T57 l0 x13_1).f0).length c192_0] (by rfl) rfl rfl (by (try simp only [List.map_toArray, List.map_cons, List.map_nil]); first | done | rfl | (simp only [List.length_drop, List.length_take]; rfl)) ?_
                with_reducible refine (slices_Clone_int_int.calls _ _ ((rd_T57 l0 x13_1).f0) t197 _ ?side1 ?side2 A11.out).mono ?_
                (case side1 => repeat (first | exact (Kd.C_below HR192_0.out HB.out) | (with_reducible refine Kd.C_alloc ?_ _) | (with_reducible refine Kd.C_drewN ?_ _) | (with_reducible refine Kd.C_drew ?_)))
                (case side2 => exact HC192_0.out)
                rintro e w18 ⟨v198, rfl, ho0, hb⟩
                refine ⟨_, rfl, ?_⟩
                have n0_ := Aside0.mk (Kd.S_elder' (by (with_reducible repeat (first | apply Kd.S_alloc | apply Kd.S_drewN | apply Kd.S_drew)); exact HO_4.out) (Kd.R_base ho0) hb)
                have n1_ := Aside0.mk (Kd.R_elder' (by (with_reducible repeat (first | apply Kd.R_alloc | apply Kd.R_drewN | apply Kd.R_drew)); exact HO196.out) (Kd.R_base ho0) hb)
                have n2_ := Aside0.mk (Kd.R_lower (Kd.R_new' ho0 (Kd.R_lt (by (with_reducible repeat (first | apply Kd.R_alloc | apply Kd.R_drewN | apply Kd.R_drew)); exact HO196.out))) (below_size (by repeat (first | (with_reducible first | exact HB.out | apply below_alloc | apply pw_below_drewN | apply below_drew1 | refine below_set ?_ GE193.out) | exact HB.out))))
                have n3_ := Aside0.mk (blk_below (g := gb193) (o := .cells #[.slice A192_0 ((rd_T57 l0 x13_1).f0).length c192_0, .slice A192_1 ((rd_T57 l0 x13_1).f1).length c192_1] 57 (0, 0)) (by (with_reducible repeat (first | refine blk_drewN ?_ _ | refine blk_drew ?_ | refine blk_alloc ?_ _)); exact BK193.out) hb)
                have n4_ := Aside0.mk (below_step (by repeat (first | (with_reducible first | exact HB.out | apply below_alloc | apply pw_below_drewN | apply below_drew1 | refine below_set ?_ GE193.out) | exact HB.out)) hb)
                clear HO_4
                clear HO196
                clear BK193
                clear HB
                have HO_4 := n0_
                have HO196 := n1_
                have HO199 := n2_
                have BK193 := n3_
                have HB := n4_
                clear n0_ n1_ n2_ n3_ n4_
                (try clear hb)
                (try clear hb2)
                (try clear hk)
                (try clear hi)
                (try clear ho0)
                obtain ⟨Ao19, co19, eo19⟩ := Kd.R_slice HO199.out
                (first | subst eo19 | (injection eo19 with f1_ f2_ f3_; have f4_ := f1_.symm; have f5_ := f3_.symm; clear f1_ f2_ f3_; subst f4_; subst f5_))
                obtain ⟨Ao20, co20, eo20⟩ := Kd.R_slice HO196.out
                (first | subst eo20 | (injection eo20 with f1_ f2_ f3_; have f4_ := f1_.symm; have f5_ := f3_.symm; clear f1_ f2_ f3_; subst f4_; subst f5_))
                refine hK.out _ _ ⟨(blk_cell BK193.out 0).trans rfl, (blk_cell BK193.out 1).trans rfl⟩ (fun hHeld => ?_)
                clear hK K
                refine norm_ (a' := ?_) ?_ ?_
                rotate_left
                · show Act.put _ (some 23) _ = _
                  simp only [Act.put, List.setIfInBounds_toArray, List.set_cons_zero, List.set_cons_succ, i64_w, i32_w]
                  rfl
                refine pure_ (i := 7) (N := some 24) (v := ?_) (a' := ?_) #[true, true, true, true, true, true, true, true, false, false, false] rfl rfl (any_of HT_.out (by kernel_rfl)) (fun _ _ _ h => h) (Or.inl ⟨by rfl, ?_⟩) ?_ ?_
                rotate_left
                · intro w'
                  go_simp
                  with_reducible rfl
                rotate_left
                · simp only [Act.put, List.setIfInBounds_toArray, List.set_cons_zero, List.set_cons_succ, i64_w, i32_w]
                  rfl
                refine one_ (i := 8) (N := some 25) #[true, true, true, true, true, true, true, true, true, false, false] rfl rfl (one_of HT_.out (by kernel_rfl)) (by decide) (fun K hK => ?_)
                refine value_ (w1 := ?_) (v := ?_) (by rfl) rfl ?_ ?_
                rotate_left 2
                · go_simp
                  constructor
                  · rfl
                  · rfl
                refine hK.out _ _ ⟨(blk_cell (blk_alloc BK193.out _) 0).trans rfl, (blk_cell (blk_alloc BK193.out _) 1).trans rfl⟩ (fun hHeld => ?_)
                clear hK K
                refine norm_ (a' := ?_) ?_ ?_
                rotate_left
                · show Act.put _ (some 25) _ = _
                  simp only [Act.put, List.setIfInBounds_toArray, List.set_cons_zero, List.set_cons_succ, i64_w, i32_w]
                  rfl
                refine one_ (i := 9) (N := some 26) #[true, true, true, true, true, true, true, true, true, true, false] rfl rfl (one_of HT_.out (by kernel_rfl)) (by decide) (fun K hK => ?_)
                refine Kd.S_append_step p57 (w0 := w) w.heap.size (by rfl) (.tmp 17) (.tmp 25) 22 57 (.agg #[(.slice none 0 0), (.slice none 0 0)]) 48 rfl Try.underlying22 info57 rfl (by decide) (by omega) u4 x4_1 (⟨t194, t197⟩ : S57) [.slice Ao20 t194.length co20, .slice Ao19 t197.length co19] (fun k_ => k_ ≠ gb193) (fun k_ => some k_ = (.slice Ao20 t194.length co20 : Value).ownBlock ∨ some k_ = (.slice Ao19 t197.length co19 : Value).ownBlock) rfl rfl ?aP (fun k_ hk_ => hk_.elim (fun h_ => ((Kd.R_mono (ok' := fun k_ => ((fun k_ => k_ ≠ gb193)) k_ ∧ some k_ ≠ (u4 : Value).ownBlock) (Kd.R_types (Kd.R_apart' (HO196.out) (Kd.S_typed HO_4.out) (by decide)) BK193.out (by decide)) (fun k_ hk => ⟨hk.2, hk.1.2⟩))).1 k_ h_.symm) (fun h_ => ((Kd.R_mono (ok' := fun k_ => ((fun k_ => k_ ≠ gb193)) k_ ∧ some k_ ≠ (u4 : Value).ownBlock) (Kd.R_types (Kd.R_apart' (HO199.out) (Kd.S_typed HO_4.out) (by decide)) BK193.out (by decide)) (fun k_ hk => ⟨hk.2, hk.1.2⟩))).1 k_ h_.symm)) ?aF ?aO ?aB ?aS ?aL ?_
                (case aP => exact p57_mkA _ _ _ (⟨t194, t197⟩ : S57) (fun k hk => by have h_ := HO196.out.1 k hk; first | exact h_ | exact h_.2 | exact h_.1.2 | exact h_.1 | exact h_.2.2 | exact h_.2.1 | exact h_.1.1.2) (Kd.R_mono (Kd.R_tight rfl (Kd.R_mono (ok' := fun k_ => ((fun k_ => k_ ≠ gb193)) k_ ∧ some k_ ≠ (u4 : Value).ownBlock) (Kd.R_types (Kd.R_apart' (HO196.out) (Kd.S_typed HO_4.out) (by decide)) BK193.out (by decide)) (fun k_ hk => ⟨hk.2, hk.1.2⟩))) (fun _ h_ => Or.inl h_)) (Kd.R_mono (Kd.R_tight rfl (Kd.R_mono (ok' := fun k_ => ((fun k_ => k_ ≠ gb193)) k_ ∧ some k_ ≠ (u4 : Value).ownBlock) (Kd.R_types (Kd.R_apart' (HO199.out) (Kd.S_typed HO_4.out) (by decide)) BK193.out (by decide)) (fun k_ hk => ⟨hk.2, hk.1.2⟩))) (fun _ h_ => Or.inr (h_))))
                (case aB => exact (by repeat (first | (with_reducible first | exact HB.out | apply below_alloc | apply pw_below_drewN | apply below_drew1 | refine below_set ?_ GE193.out) | exact HB.out)))
                (case aF => exact (fun k_ hk => Kd.freshB (g := gb193) (o := .cells #[.slice A192_0 ((rd_T57 l0 x13_1).f0).length c192_0, .slice A192_1 ((rd_T57 l0 x13_1).f1).length c192_1] 57 (0, 0)) (by (with_reducible repeat (first | refine blk_drewN ?_ _ | refine blk_drew ?_ | refine blk_alloc ?_ _)); exact BK193.out) k_ hk))
                (case aO => exact (by (with_reducible repeat (first | apply Kd.S_alloc | apply Kd.S_drewN | apply Kd.S_drew)); exact Kd.S_mono HO_4.out (fun k_ hk => ⟨hk.1.1, fun e_ => e_.elim (fun h_ => hk.1.2 h_) (fun h_ => hk.2 h_)⟩)))
                (case aS => exact (below_size (by repeat (first | (with_reducible first | exact HB.out | apply below_alloc | apply pw_below_drewN | apply below_drew1 | refine below_set ?_ GE193.out) | exact HB.out))))
                (case aL => have := LMc12.out; omega)
                intro v201 w21 ho hb hg hat
                rw [← Ny200.out] at ho
                have n0_ := Aside0.mk (blk_grown (g := gb193) (o := .cells #[.slice A192_0 ((rd_T57 l0 x13_1).f0).length c192_0, .slice A192_1 ((rd_T57 l0 x13_1).f1).length c192_1] 57 (0, 0)) (by (with_reducible repeat (first | refine blk_drewN ?_ _ | refine blk_drew ?_ | refine blk_alloc ?_ _)); exact BK193.out) hg (Kd.S_away HO_4.out (fun _ hk => hk.1.1)))
                have n1_ := Aside0.mk (hb)
                have n2_ := Aside0.mk (ho)
                clear BK193
                clear HB
                clear HO_4
                clear HO196
                clear HO199
                have BK193 := n0_
                have HB := n1_
                have HO202 := n2_
                clear n0_ n1_ n2_
                clear ho hb hg hat
                refine hK.out _ _ ⟨(blk_cell BK193.out 0).trans rfl, (blk_cell BK193.out 1).trans rfl⟩ (fun hHeld => ?_)
                clear hK K
                refine norm_ (a' := ?_) ?_ ?_
                rotate_left
                · show Act.put _ (some 26) _ = _
                  simp only [Act.put, List.setIfInBounds_toArray, List.set_cons_zero, List.set_cons_succ, i64_w, i32_w]
                  rfl
                refine pure_ (i := 10) (N := some 4) (v := ?_) (a' := ?_) #[true, true, true, true, true, true, true, true, true, true, true] rfl rfl (any_of HT_.out (by kernel_rfl)) (fun _ _ _ h => h) (Or.inl ⟨by rfl, ?_⟩) ?_ ?_
                rotate_left
                · intro w'
                  go_simp
                  with_reducible rfl
                rotate_left
                · simp only [Act.put, List.setIfInBounds_toArray, List.set_cons_zero, List.set_cons_succ, i64_w, i32_w]
                  rfl
                refine done_ (done_of HT_.out (by kernel_rfl)) ?_
                try go_wp2
                go_roundg k1
                case measure => have := HK1.out; omega
                case rel => exact ⟨(y200), (wrap64 (x13_1 + 1)), (by first | rfl | (simp; done) | (simp [*]; done)), H', ⟨by have := HK1.out; omega⟩, ⟨by (with_reducible repeat (first | apply Kd.S_alloc | apply Kd.S_drewN | apply Kd.S_drew)); exact Kd.S_mono HO202.out (fun _ hk => trivial)⟩, ⟨by repeat (first | (with_reducible first | exact HB.out | apply below_alloc | apply pw_below_drewN | apply below_drew1 | refine below_set ?_ GE193.out) | exact HB.out)⟩⟩
              · rw [if_neg c12] at H
                exact absurd H (by simp)
            · rw [if_neg c9] at H
              exact absurd H (by simp)
          · rw [if_neg c8] at H
            exact absurd H (by simp)
        · rw [if_neg c7] at H
          have c7b0 : decide (x13_1 < (l0.length : Int)) = false := decide_eq_false c7
          clear c7
          simp only [Option.some.injEq, Prod.mk.injEq] at H
          obtain ⟨rfl, rfl⟩ := H
          go_wp2
          go_ret2
          exact ⟨_, by first | rfl | (simp [errW_none, errW_some] <;> rfl) | (simp [*, errW_none, errW_some] <;> rfl), by (with_reducible repeat (first | apply Kd.S_alloc | apply Kd.S_drewN | apply Kd.S_drew)); exact HO_4.out, by repeat (first | (with_reducible first | exact HB.out | apply below_alloc | apply pw_below_drewN | apply below_drew1) | exact HB.out)⟩
  · replace c3 := Bool.eq_false_iff.mpr c3
    subst c3
    have H1 : (some (([] : List (S57)), false)) = some (r1, r2) := by rw [if_neg (show ¬ (false = true) by decide)] at H; exact H
    clear H
    have H := H1
    clear H1
    simp only [Option.some.injEq, Prod.mk.injEq] at H
    obtain ⟨rfl, rfl⟩ := H
    go_enter Try.func21, Try.ntmps21
    go_wp2_with (first | ((with_reducible refine gate_callee (f := 53) rfl ?_); refine goesL_ (some 8) rfl rfl Try.func53 (by kernel_rfl) rfl #[.slice A0 l0.length c0] rfl (by (try simp only [List.map_toArray, List.map_cons, List.map_nil]); first | done | rfl | (simp only [List.length_drop, List.length_take]; rfl)) ?_; (with_reducible refine (impl_IsGame.calls k _ _ l0 false _ ?side1 ?side2 A2.out).mono ?_); (case side1 => repeat (first | exact HR0.out | (with_reducible refine Kd.C_alloc ?_ _) | (with_reducible refine Kd.C_drewN ?_ _) | (with_reducible refine Kd.C_drew ?_))); (case side2 => exact HC0.out); rintro e w22 ⟨rfl, hb⟩; refine ⟨_, rfl, ?_⟩; have n0_ := Aside0.mk (below_step (by repeat (first | (with_reducible first | exact HB.out | apply below_alloc | apply pw_below_drewN | apply below_drew1) | exact HB.out)) hb); clear HB; have HB := n0_; clear n0_; (try clear hb); (try clear hb2); (try clear hk); (try clear hi)))
    go_ret2
    exact ⟨_, by first | rfl | (simp [errW_none, errW_some] <;> rfl) | (simp [*, errW_none, errW_some] <;> rfl), by first | exact Kd.S_nil _ _ _ _ _ | exact Kd.N_nil _ _ _ _ _ | exact Kd.V_nil _ _ _ _ _ | exact Kd.Q_nil _ _ _ _ _ | exact Kd.R_nil _ _ _ _ _, by repeat (first | (with_reducible first | exact HB.out | apply below_alloc | apply pw_below_drewN | apply below_drew1) | exact HB.out)⟩
theorem heldA (k : Nat) (A : Option Addr) (n c : Nat) (l : List S57) (a r : Int) (w : World) (lo hi : Nat) (h : OwnS w lo hi (.slice A n c) l) (hf : laws_heldPositionS.f k l a = some r) :
    Calls Try.prog 15 #[.slice A n c, .int .i64 a] w fun e w' => e = .returned (.int .i64 r) ∧ Below w.heap.size w w' := by
  obtain ⟨e, hc, hr⟩ := h.reads
  subst e
  exact (laws_heldPositionS.calls k A c l a r w hr hc hf).mono (fun e w' h => ⟨h.1, h.2.below⟩)
def laws_FnExactNegateGame.f (k : Nat) (l0 : List (S59)) : Option Bool := (laws_szPositionS.f k l0 1048576).bind fun t => if t < 0 then some true else (laws_toPositionS.f k l0).bind fun L => (spec_NegateGame.f k L).bind fun s => (impl_NegateGame.f k L).bind fun g => (laws_eqPositionS.f k g.1 s.1).bind fun e1 => (laws_eqPositionS.f k L L).bind fun e2 => (laws_markPositionS.f k L 1).bind fun m0 => (laws_markPositionS.f k g.1 1).bind fun m1 => (laws_heldPositionS.f k m1.2 1).bind fun q => some (e1 && (e2 && (decide (g.2 = s.2) && (decide (0 ≤ m0.1) && (decide (0 ≤ m1.1) && decide (q = m1.1))))))
set_option maxHeartbeats 8000000 in
set_option maxRecDepth 100000 in
theorem laws_FnExactNegateGame.calls (k : Nat) (A0 : Option Addr) (c0 : Nat) (l0 : List (S59)) (r : Bool) (hr_ : Aside0 (r = true)) (w : World) (hr0 : Kd.C k59 w A0 l0.length l0) (hc0 : l0.length ≤ c0) (h : laws_FnExactNegateGame.f k l0 = some r) :
    Calls Try.prog 5 #[.slice A0 l0.length c0] w fun e w' => e = .returned (.bool r) ∧ Below w.heap.size w w' := by
  have HR0 := Aside0.mk hr0
  have HC0 := Aside0.mk hc0
  clear hr0 hc0
  have HB := Aside0.mk (Below.refl w.heap.size w)
  obtain rfl := hr_.out
  unfold laws_FnExactNegateGame.f at h
  obtain ⟨t0, A_, h⟩ := Option.bind_eq_some_iff.mp h
  have A_sz := Aside0.mk A_
  clear A_
  by_cases c0_ : t0 < 0
  · have c1_ : decide (t0 < 0) = true := decide_eq_true c0_
    clear c0_ h
    go_enter Try.func5, Try.ntmps5
    go_wp2_with (first
      | ((with_reducible refine gate_callee (f := 16) rfl ?_); refine goesL_ (some 16) rfl rfl Try.func16 (by kernel_rfl) rfl #[.slice A0 l0.length c0, .int .i64 1048576] rfl (by (try simp only [List.map_toArray, List.map_cons, List.map_nil]); first | done | rfl) ?_; refine (laws_szPositionS.calls k _ _ l0 1048576 t0 _ (Kd.C_below HR0.out HB.out) HC0.out A_sz.out).mono ?_; rintro e wz1 ⟨rfl, hb⟩; refine ⟨_, rfl, ?_⟩; have nB_ := Aside0.mk (below_step HB.out hb); clear HB; have HB := nB_; clear nB_; clear hb))
    go_ret
    exact ⟨rfl, HB.out⟩
  · have c1_ : decide (t0 < 0) = false := decide_eq_false c0_
    rw [if_neg c0_] at h
    clear c0_
    obtain ⟨L, A_, h⟩ := Option.bind_eq_some_iff.mp h
    have A_to := Aside0.mk A_
    clear A_
    obtain ⟨⟨s1, sb⟩, A_, h⟩ := Option.bind_eq_some_iff.mp h
    have A_sp := Aside0.mk A_
    clear A_
    obtain ⟨⟨g1, gb⟩, A_, h⟩ := Option.bind_eq_some_iff.mp h
    have A_im := Aside0.mk A_
    clear A_
    obtain ⟨e1, A_, h⟩ := Option.bind_eq_some_iff.mp h
    have A_e1 := Aside0.mk A_
    clear A_
    obtain ⟨e2, A_, h⟩ := Option.bind_eq_some_iff.mp h
    have A_e2 := Aside0.mk A_
    clear A_
    obtain ⟨⟨m0, l0m⟩, A_, h⟩ := Option.bind_eq_some_iff.mp h
    have A_k0 := Aside0.mk A_
    clear A_
    obtain ⟨⟨m1, l1m⟩, A_, h⟩ := Option.bind_eq_some_iff.mp h
    have A_k1 := Aside0.mk A_
    clear A_
    obtain ⟨q, A_, h⟩ := Option.bind_eq_some_iff.mp h
    have A_h := Aside0.mk A_
    clear A_
    simp only [Option.some.injEq, Bool.and_eq_true, decide_eq_true_eq] at h
    obtain ⟨rfl, rfl, rfl, hm0, hm1, rfl⟩ := h
    have d0_ : decide (m0 < 0) = false := decide_eq_false (by omega)
    have d1_ : decide (q < 0) = false := decide_eq_false (by omega)
    clear hm0 hm1
    go_enter Try.func5, Try.ntmps5
    go_wp2_with (first
      | ((with_reducible refine gate_callee (f := 16) rfl ?_); refine goesL_ (some 16) rfl rfl Try.func16 (by kernel_rfl) rfl #[.slice A0 l0.length c0, .int .i64 1048576] rfl (by (try simp only [List.map_toArray, List.map_cons, List.map_nil]); first | done | rfl) ?_; refine (laws_szPositionS.calls k _ _ l0 1048576 t0 _ (Kd.C_below HR0.out HB.out) HC0.out A_sz.out).mono ?_; rintro e wz1 ⟨rfl, hb⟩; refine ⟨_, rfl, ?_⟩; have nB_ := Aside0.mk (below_step HB.out hb); clear HB; have HB := nB_; clear nB_; clear hb)
      | ((with_reducible refine gate_callee (f := 18) rfl ?_); refine goesL_ (some 21) rfl rfl Try.func18 (by kernel_rfl) rfl #[.slice A0 l0.length c0] rfl (by (try simp only [List.map_toArray, List.map_cons, List.map_nil]); first | done | rfl) ?_; refine (laws_toPositionS.callsA k _ _ l0 L _ (Kd.C_below HR0.out HB.out) HC0.out A_to.out).mono ?_; rintro e wz2 ⟨v, rfl, hs, hb⟩; refine ⟨_, rfl, ?_⟩; have HLX1 := Aside0.mk HB.out.size; have nB_ := Aside0.mk (below_step HB.out hb); clear HB; have HB := nB_; clear nB_; have RX1 := Aside0.mk (OwnS.of hs); obtain ⟨AX1, cX1, rfl, hc_⟩ := RX1.out.form; clear hc_ hs; clear hb)
      | ((with_reducible refine gate_callee (f := 20) rfl ?_); refine goesL_ (some 22) rfl rfl Try.func20 (by kernel_rfl) rfl #[.slice AX1 L.length cX1] rfl (by (try simp only [List.map_toArray, List.map_cons, List.map_nil]); first | done | rfl) ?_; refine (spec_NegateGame.callsA k _ _ L s1 _ _ RX1.out.reads.2.2 RX1.out.reads.2.1 A_sp.out).mono ?_; rintro e wz3 ⟨v, rfl, hs, hb⟩; refine ⟨_, rfl, ?_⟩; have DX1_Sp := Aside0.mk RX1.out.1; have HLSp := Aside0.mk HB.out.size; have nX1_ := Aside0.mk (OwnS.below RX1.out hb); clear RX1; have RX1 := nX1_; clear nX1_; have nB_ := Aside0.mk (below_step HB.out hb); clear HB; have HB := nB_; clear nB_; have RSp := Aside0.mk (OwnS.of hs); obtain ⟨ASp, cSp, rfl, hc_⟩ := RSp.out.form; clear hc_ hs; clear hb)
      | ((with_reducible refine gate_callee (f := 18) rfl ?_); refine goesL_ (some 26) rfl rfl Try.func18 (by kernel_rfl) rfl #[.slice A0 l0.length c0] rfl (by (try simp only [List.map_toArray, List.map_cons, List.map_nil]); first | done | rfl) ?_; refine (laws_toPositionS.callsA k _ _ l0 L _ (Kd.C_below HR0.out HB.out) HC0.out A_to.out).mono ?_; rintro e wz4 ⟨v, rfl, hs, hb⟩; refine ⟨_, rfl, ?_⟩; have DSp_X0 := Aside0.mk RSp.out.1; have HLX0 := Aside0.mk HB.out.size; have nSp_ := Aside0.mk (OwnS.below RSp.out hb); clear RSp; have RSp := nSp_; clear nSp_; have nB_ := Aside0.mk (below_step HB.out hb); clear HB; have HB := nB_; clear nB_; have RX0 := Aside0.mk (OwnS.of hs); obtain ⟨AX0, cX0, rfl, hc_⟩ := RX0.out.form; clear hc_ hs; clear hb)
      | ((with_reducible refine gate_callee (f := 21) rfl ?_); refine goesL_ (some 29) rfl rfl Try.func21 (by kernel_rfl) rfl #[.slice AX0 L.length cX0] rfl (by (try simp only [List.map_toArray, List.map_cons, List.map_nil]); first | done | rfl) ?_; refine (impl_NegateGame.callsA k _ _ L g1 _ _ RX0.out.reads.2.2 RX0.out.reads.2.1 A_im.out).mono ?_; rintro e wz5 ⟨v, rfl, hs, hb⟩; refine ⟨_, rfl, ?_⟩; have DSp_G := Aside0.mk RSp.out.1; have DX0_G := Aside0.mk RX0.out.1; have HLG := Aside0.mk HB.out.size; have nSp_ := Aside0.mk (OwnS.below RSp.out hb); have nX0_ := Aside0.mk (OwnS.below RX0.out hb); clear RSp RX0; have RSp := nSp_; have RX0 := nX0_; clear nSp_ nX0_; have nB_ := Aside0.mk (below_step HB.out hb); clear HB; have HB := nB_; clear nB_; have RG := Aside0.mk (OwnS.of hs); obtain ⟨AG, cG, rfl, hc_⟩ := RG.out.form; clear hc_ hs; clear hb)
      | ((with_reducible refine gate_callee (f := 13) rfl ?_); refine goesL_ (some 34) rfl rfl Try.func13 (by kernel_rfl) rfl #[.slice AG g1.length cG, .slice ASp s1.length cSp] rfl (by (try simp only [List.map_toArray, List.map_cons, List.map_nil]); first | done | rfl) ?_; refine (laws_eqPositionS.calls k _ _ g1 _ _ s1 true _ RG.out.reads.2.2 RG.out.reads.2.1 RSp.out.reads.2.2 RSp.out.reads.2.1 A_e1.out).mono ?_; rintro e wz6 ⟨rfl, hb⟩; refine ⟨_, rfl, ?_⟩; have nSp_ := Aside0.mk (OwnS.below RSp.out hb); have nX0_ := Aside0.mk (OwnS.below RX0.out hb); have nG_ := Aside0.mk (OwnS.below RG.out hb); clear RSp RX0 RG; have RSp := nSp_; have RX0 := nX0_; have RG := nG_; clear nSp_ nX0_ nG_; have nB_ := Aside0.mk (below_step HB.out hb); clear HB; have HB := nB_; clear nB_; clear hb)
      | ((with_reducible refine gate_callee (f := 18) rfl ?_); refine goesL_ (some 43) rfl rfl Try.func18 (by kernel_rfl) rfl #[.slice A0 l0.length c0] rfl (by (try simp only [List.map_toArray, List.map_cons, List.map_nil]); first | done | rfl) ?_; refine (laws_toPositionS.callsA k _ _ l0 L _ (Kd.C_below HR0.out HB.out) HC0.out A_to.out).mono ?_; rintro e wz7 ⟨v, rfl, hs, hb⟩; refine ⟨_, rfl, ?_⟩; have DSp_X2 := Aside0.mk RSp.out.1; have DX0_X2 := Aside0.mk RX0.out.1; have DG_X2 := Aside0.mk RG.out.1; have HLX2 := Aside0.mk HB.out.size; have nSp_ := Aside0.mk (OwnS.below RSp.out hb); have nX0_ := Aside0.mk (OwnS.below RX0.out hb); have nG_ := Aside0.mk (OwnS.below RG.out hb); clear RSp RX0 RG; have RSp := nSp_; have RX0 := nX0_; have RG := nG_; clear nSp_ nX0_ nG_; have nB_ := Aside0.mk (below_step HB.out hb); clear HB; have HB := nB_; clear nB_; have RX2 := Aside0.mk (OwnS.of hs); obtain ⟨AX2, cX2, rfl, hc_⟩ := RX2.out.form; clear hc_ hs; clear hb)
      | ((with_reducible refine gate_callee (f := 13) rfl ?_); refine goesL_ (some 44) rfl rfl Try.func13 (by kernel_rfl) rfl #[.slice AX0 L.length cX0, .slice AX2 L.length cX2] rfl (by (try simp only [List.map_toArray, List.map_cons, List.map_nil]); first | done | rfl) ?_; refine (laws_eqPositionS.calls k _ _ L _ _ L true _ RX0.out.reads.2.2 RX0.out.reads.2.1 RX2.out.reads.2.2 RX2.out.reads.2.1 A_e2.out).mono ?_; rintro e wz8 ⟨rfl, hb⟩; refine ⟨_, rfl, ?_⟩; have nSp_ := Aside0.mk (OwnS.below RSp.out hb); have nX0_ := Aside0.mk (OwnS.below RX0.out hb); have nG_ := Aside0.mk (OwnS.below RG.out hb); have nX2_ := Aside0.mk (OwnS.below RX2.out hb); clear RSp RX0 RG RX2; have RSp := nSp_; have RX0 := nX0_; have RG := nG_; have RX2 := nX2_; clear nSp_ nX0_ nG_ nX2_; have nB_ := Aside0.mk (below_step HB.out hb); clear HB; have HB := nB_; clear nB_; clear hb)
      | ((with_reducible refine gate_callee (f := 14) rfl ?_); refine goesL_ (some 48) rfl rfl Try.func14 (by kernel_rfl) rfl #[.slice AX0 L.length cX0, .int .i64 1] rfl (by (try simp only [List.map_toArray, List.map_cons, List.map_nil]); first | done | rfl) ?_; refine (laws_markPositionS.callsA k _ _ _ L 1 m0 l0m w _ HB.out HLX0.out RX0.out A_k0.out).mono ?_; rintro e wz9 ⟨rfl, hs, hb, hk⟩; refine ⟨_, rfl, ?_⟩; have nSp_ := Aside0.mk (OwnS.kept RSp.out hk (.inl DSp_X0.out)); have nG_ := Aside0.mk (OwnS.kept RG.out hk (.inr DX0_G.out)); clear RSp RG; have RSp := nSp_; have RG := nG_; clear nSp_ nG_; clear HB RX0; have HB := Aside0.mk hb; have RX0 := Aside0.mk hs; clear hb hs hk)
      | (go_at_call 13; refine (laws_eqPositionS.calls k _ _ g1 _ _ s1 true _ RG.out.reads.2.2 RG.out.reads.2.1 RSp.out.reads.2.2 RSp.out.reads.2.1 A_e1.out).mono ?_; rintro e wz10 ⟨rfl, hb⟩; have nSp_ := Aside0.mk (OwnS.below RSp.out hb); have nG_ := Aside0.mk (OwnS.below RG.out hb); clear RSp RG; have RSp := nSp_; have RG := nG_; clear nSp_ nG_; have nB_ := Aside0.mk (below_step HB.out hb); clear HB; have HB := nB_; clear nB_; clear hb)
      | ((with_reducible refine gate_callee (f := 14) rfl ?_); refine goesL_ (some 64) rfl rfl Try.func14 (by kernel_rfl) rfl #[.slice AG g1.length cG, .int .i64 1] rfl (by (try simp only [List.map_toArray, List.map_cons, List.map_nil]); first | done | rfl) ?_; refine (laws_markPositionS.callsA k _ _ _ g1 1 q l1m w _ HB.out HLG.out RG.out A_k1.out).mono ?_; rintro e wz11 ⟨rfl, hs, hb, hk⟩; refine ⟨_, rfl, ?_⟩; have nSp_ := Aside0.mk (OwnS.kept RSp.out hk (.inl DSp_G.out)); clear RSp; have RSp := nSp_; clear nSp_; clear HB RG; have HB := Aside0.mk hb; have RG := Aside0.mk hs; clear hb hs hk)
      | ((with_reducible refine gate_callee (f := 15) rfl ?_); refine goesL_ (some 67) rfl rfl Try.func15 (by kernel_rfl) rfl #[.slice AG g1.length cG, .int .i64 1] rfl (by (try simp only [List.map_toArray, List.map_cons, List.map_nil]); first | done | rfl) ?_; refine (heldA k _ _ _ l1m 1 q _ _ _ RG.out A_h.out).mono ?_; rintro e wz12 ⟨rfl, hb⟩; refine ⟨_, rfl, ?_⟩; have nSp_ := Aside0.mk (OwnS.below RSp.out hb); have nG_ := Aside0.mk (OwnS.below RG.out hb); clear RSp RG; have RSp := nSp_; have RG := nG_; clear nSp_ nG_; have nB_ := Aside0.mk (below_step HB.out hb); clear HB; have HB := nB_; clear nB_; clear hb)
      | ((with_reducible refine gate_callee (f := 18) rfl ?_); refine goesL_ (some 75) rfl rfl Try.func18 (by kernel_rfl) rfl #[.slice A0 l0.length c0] rfl (by (try simp only [List.map_toArray, List.map_cons, List.map_nil]); first | done | rfl) ?_; refine (laws_toPositionS.callsA k _ _ l0 L _ (Kd.C_below HR0.out HB.out) HC0.out A_to.out).mono ?_; rintro e wz13 ⟨v, rfl, hs, hb⟩; refine ⟨_, rfl, ?_⟩; have DSp_X3 := Aside0.mk RSp.out.1; have DG_X3 := Aside0.mk RG.out.1; have HLX3 := Aside0.mk HB.out.size; have nSp_ := Aside0.mk (OwnS.below RSp.out hb); have nG_ := Aside0.mk (OwnS.below RG.out hb); clear RSp RG; have RSp := nSp_; have RG := nG_; clear nSp_ nG_; have nB_ := Aside0.mk (below_step HB.out hb); clear HB; have HB := nB_; clear nB_; have RX3 := Aside0.mk (OwnS.of hs); obtain ⟨AX3, cX3, rfl, hc_⟩ := RX3.out.form; clear hc_ hs; clear hb)
      | ((with_reducible refine gate_callee (f := 21) rfl ?_); refine goesL_ (some 76) rfl rfl Try.func21 (by kernel_rfl) rfl #[.slice AX3 L.length cX3] rfl (by (try simp only [List.map_toArray, List.map_cons, List.map_nil]); first | done | rfl) ?_; refine (impl_NegateGame.callsA k _ _ L g1 _ _ RX3.out.reads.2.2 RX3.out.reads.2.1 A_im.out).mono ?_; rintro e wz14 ⟨v, rfl, hs, hb⟩; refine ⟨_, rfl, ?_⟩; have DSp_H := Aside0.mk RSp.out.1; have DG_H := Aside0.mk RG.out.1; have DX3_H := Aside0.mk RX3.out.1; have HLH := Aside0.mk HB.out.size; have nSp_ := Aside0.mk (OwnS.below RSp.out hb); have nG_ := Aside0.mk (OwnS.below RG.out hb); have nX3_ := Aside0.mk (OwnS.below RX3.out hb); clear RSp RG RX3; have RSp := nSp_; have RG := nG_; have RX3 := nX3_; clear nSp_ nG_ nX3_; have nB_ := Aside0.mk (below_step HB.out hb); clear HB; have HB := nB_; clear nB_; have RH := Aside0.mk (OwnS.of hs); obtain ⟨AH, cH, rfl, hc_⟩ := RH.out.form; clear hc_ hs; clear hb)
      | ((with_reducible refine gate_callee (f := 13) rfl ?_); refine goesL_ (some 81) rfl rfl Try.func13 (by kernel_rfl) rfl #[.slice AH g1.length cH, .slice ASp s1.length cSp] rfl (by (try simp only [List.map_toArray, List.map_cons, List.map_nil]); first | done | rfl) ?_; refine (laws_eqPositionS.calls k _ _ g1 _ _ s1 true _ RH.out.reads.2.2 RH.out.reads.2.1 RSp.out.reads.2.2 RSp.out.reads.2.1 A_e1.out).mono ?_; rintro e wz15 ⟨rfl, hb⟩; refine ⟨_, rfl, ?_⟩; have nSp_ := Aside0.mk (OwnS.below RSp.out hb); have nG_ := Aside0.mk (OwnS.below RG.out hb); have nH_ := Aside0.mk (OwnS.below RH.out hb); clear RSp RG RH; have RSp := nSp_; have RG := nG_; have RH := nH_; clear nSp_ nG_ nH_; have nB_ := Aside0.mk (below_step HB.out hb); clear HB; have HB := nB_; clear nB_; clear hb)
      | ((with_reducible refine gate_callee (f := 15) rfl ?_); refine goesL_ (some 90) rfl rfl Try.func15 (by kernel_rfl) rfl #[.slice AG g1.length cG, .int .i64 1] rfl (by (try simp only [List.map_toArray, List.map_cons, List.map_nil]); first | done | rfl) ?_; refine (heldA k _ _ _ l1m 1 q _ _ _ RG.out A_h.out).mono ?_; rintro e wz16 ⟨rfl, hb⟩; refine ⟨_, rfl, ?_⟩; have nSp_ := Aside0.mk (OwnS.below RSp.out hb); have nG_ := Aside0.mk (OwnS.below RG.out hb); clear RSp RG; have RSp := nSp_; have RG := nG_; clear nSp_ nG_; have nB_ := Aside0.mk (below_step HB.out hb); clear HB; have HB := nB_; clear nB_; clear hb))
    go_ret
    exact ⟨rfl, HB.out⟩

end Go.Proofs.Ytpiafobcmhfclaa.QFnExactNegateGame
