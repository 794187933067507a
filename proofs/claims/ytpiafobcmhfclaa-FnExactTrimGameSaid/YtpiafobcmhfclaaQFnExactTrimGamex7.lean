/- The Go functions that the law FnExactTrimGame reaches, as Lean functions, and what their calls do. Written by a program of this session. -/
import Derived.Test.YtpiafobcmhfclaaQFnExactTrimGamex0
import Derived.Test.YtpiafobcmhfclaaQFnExactTrimGamex1
import Derived.Test.YtpiafobcmhfclaaQFnExactTrimGamex2
import Derived.Test.YtpiafobcmhfclaaQFnExactTrimGamex3
import Derived.Test.YtpiafobcmhfclaaQFnExactTrimGamex4
import Derived.Test.YtpiafobcmhfclaaQFnExactTrimGamex5
import Derived.Test.YtpiafobcmhfclaaQFnExactTrimGamex6
namespace Go.Proofs.Ytpiafobcmhfclaa.QFnExactTrimGame
open Go.RowKit Go.Proofs.YtpiafobcmhfclaaW.PrintWords Go.Proofs.YtpiafobcmhfclaaW.PrintLast Go.Proofs.YtpiafobcmhfclaaW.PrintMore
attribute [local go_sem] max2_int min2_int max_two min_two max_three min_three max_four min_four   -- for this text's walks alone
set_option linter.unusedVariables false
set_option linter.unusedSimpArgs false

/-! ### laws_FnExactTrimGame: function 6 -/
/-! ### positions whose two rows lie apart; a row of them within bounds -/
def apartCells (cs : List Value) : Prop := ∀ v0 v1, cs = [v0, v1] → ∀ k, v0.ownBlock = some k → some k ≠ v1.ownBlock
def p57 : Kd S57 where
  sz := k57.sz
  E := k57.E
  K := k57.K
  M := fun w base ok x cs => k57.M w base ok x cs ∧ apartCells cs
  K_len := fun h => k57.K_len h
  K_one := fun h => k57.K_one h
  K_below := fun hb h => k57.K_below hb h
  K_of_M := fun h => k57.K_of_M h.1
  M_mono := fun hok h => ⟨k57.M_mono hok h.1, h.2⟩
  M_bound := fun h => ⟨k57.M_bound h.1, h.2⟩
  M_move := fun hm h => ⟨k57.M_move hm h.1, h.2⟩
  M_lower := fun hb h => ⟨k57.M_lower hb h.1, h.2⟩
theorem p57_openM {w : World} {base : Nat} {ok : Nat → Prop} {x : S57} {cs : List Value} (h : p57.M w base ok x cs) : ∃ v0 v1, cs = [v0, v1] ∧ (Kd.int .i64).R 3 w base ok v0 x.f0 ∧ (Kd.int .i64).R 3 w base ok v1 x.f1 := k57_openM h.1
theorem p57_mkA (w : World) (base : Nat) (ok : Nat → Prop) (x : S57) {v0 v1 : Value} (ha : ∀ k, v0.ownBlock = some k → some k ≠ v1.ownBlock) (g0 : (Kd.int .i64).R 3 w base ok v0 x.f0) (g1 : (Kd.int .i64).R 3 w base ok v1 x.f1) : p57.M w base ok x [v0, v1] :=
  ⟨k57_mkM w base ok x g0 g1, fun a b e k hk => by
    injection e with e1 e2
    injection e2 with e2 _
    subst e1 e2
    exact ha k hk⟩
theorem nilApart : ∀ k, (Value.slice none 0 0).ownBlock = some k → some k ≠ (Value.slice none 0 0).ownBlock := fun k hk => by simp [Value.ownBlock] at hk
theorem pS_k {e : Nat} {w : World} {base : Nat} {ok : Nat → Prop} {v : Value} {xs : List S57} (h : Kd.S p57 e w base ok v xs) : Kd.S k57 e w base ok v xs := by
  obtain ⟨f, h0, inner, ho, hr⟩ := h
  exact ⟨f, h0, inner, ho, hr.1, fun j p hj => (hr.2 j p hj).1⟩
/-- A row of positions whose blocks are lo .. hi - 1. -/
def Iv (lo hi : Nat) (b : Nat) : Prop := lo ≤ b ∧ b < hi
def OwnS (w : World) (lo hi : Nat) (v : Value) (xs : List S57) : Prop := hi ≤ w.heap.size ∧ Kd.S p57 57 w lo (Iv lo hi) v xs
theorem OwnS.of {W w : World} {v : Value} {xs : List S57} (h : Kd.S p57 57 w W.heap.size (fun _ => True) v xs) : OwnS w W.heap.size w.heap.size v xs := ⟨Nat.le_refl _, Kd.S_mono (Kd.S_bound h) (fun k hk => ⟨hk.2.1, hk.2.2.1⟩)⟩
theorem OwnS.below {w w1 : World} {lo hi : Nat} {v : Value} {xs : List S57} (h : OwnS w lo hi v xs) (hb : Below w.heap.size w w1) : OwnS w1 lo hi v xs := ⟨Nat.le_trans h.1 hb.size, Kd.S_below h.2 hb⟩
theorem OwnS.kept {w w1 : World} {lo hi a b : Nat} {v : Value} {xs : List S57} (h : OwnS w lo hi v xs) (hk : Kept w w1 (Iv a b)) (hd : hi ≤ a ∨ b ≤ lo) : OwnS w1 lo hi v xs :=
  ⟨Nat.le_trans h.1 hk.1, Kd.S_step h.2 (fun k ho hl => hk.2 k hl (fun h2 => by
    have h3 : lo ≤ k ∧ k < hi := ho
    have h4 : a ≤ k ∧ k < b := h2
    omega))⟩
theorem OwnS.reads {w : World} {lo hi n c : Nat} {A : Option Addr} {xs : List S57} (h : OwnS w lo hi (.slice A n c) xs) : n = xs.length ∧ n ≤ c ∧ Kd.C k57 w A xs.length xs := Kd.S_reads' (pS_k h.2)
theorem OwnS.form {w : World} {lo hi : Nat} {v : Value} {xs : List S57} (h : OwnS w lo hi v xs) : ∃ A c, v = .slice A xs.length c ∧ xs.length ≤ c := by
  obtain ⟨A, c, e, hc, _⟩ := Kd.S_reads h.2
  exact ⟨A, c, e, hc⟩
theorem int_raise {w : World} {b lo : Nat} {ok : Nat → Prop} {v : Value} {ys : List Int} (h : (Kd.int .i64).R 3 w b ok v ys) (hb : ∀ k, v.ownBlock = some k → lo ≤ k) : (Kd.int .i64).R 3 w lo ok v ys := by
  obtain ⟨h0, inner, ho, hr⟩ := h
  refine ⟨h0, inner, ⟨ho.1, ?_⟩, hr⟩
  rcases ho.2 with h2 | ⟨g, cap, cur, hv, hg, r⟩
  · exact .inl h2
  · exact .inr ⟨g, cap, cur, hv, hb g (by rw [hv]; rfl), r⟩
theorem Kept.more {w W W2 : World} {S S2 : Nat → Prop} (h : Kept w W S) (k : Kept W W2 S2) (hs : ∀ b, S2 b → S b) : Kept w W2 S := h.then_ k (fun b hb => .inl (hs b hb))
def laws_markPositionS.f (k : Nat) : List S57 → Int → Option (Int × List S57)
  | [], a => some (a, [])
  | p :: ps, a => (laws_markIntS.f k p.f0 a).bind fun x => (laws_markIntS.f k p.f1 x.1).bind fun y => (laws_markPositionS.f k ps y.1).bind fun z => some (z.1, ⟨x.2, y.2⟩ :: z.2)
set_option maxHeartbeats 4000000 in
set_option maxRecDepth 100000 in
theorem laws_markPositionS.callsA (k : Nat) (lo hi : Nat) (v : Value) (l : List S57) (a1 r1 : Int) (r2 : List S57) (w0 w : World) (hB : Below w0.heap.size w0 w) (h0 : w0.heap.size ≤ lo) (ho : OwnS w lo hi v l) (h : laws_markPositionS.f k l a1 = some (r1, r2)) :
    Calls Try.prog 14 #[v, .int .i64 a1] w fun e w' => e = .returned (.int .i64 r1) ∧ OwnS w' lo hi v r2 ∧ Below w0.heap.size w0 w' ∧ Kept w w' (Iv lo hi) := by
  obtain ⟨A, c, rfl, hcap⟩ := ho.form
  have H0 := Aside0.mk h0
  have HB := Aside0.mk hB
  have HO := Aside0.mk ho
  have HF := Aside0.mk h
  have HK := Aside0.mk (Kept.refl w (Iv lo hi))
  clear h0 hB ho h hcap
  go_enter Try.func14, Try.ntmps14
  go_wp2
  go_loopg [1, 5] l.length (fun kq v1 v5 w' => ∃ (D R R' : List S57) (x1 x5 : Int), v1 = .int .i64 x1 ∧ v5 = .int .i64 x5 ∧ Aside0 (x5 = (D.length : Int)) ∧ Aside0 (laws_markPositionS.f k R x1 = some (r1, R')) ∧ Aside0 (r2 = D ++ R') ∧ Aside0 (D.length + R.length = l.length ∧ R.length ≤ kq) ∧ Aside0 (OwnS w' lo hi (.slice A l.length c) (D ++ R)) ∧ Aside0 (Below w0.heap.size w0 w') ∧ Aside0 (Kept w w' (Iv lo hi)))
  case atStart => exact ⟨[], l, r2, a1, 0, rfl, rfl, ⟨rfl⟩, HF, ⟨rfl⟩, ⟨by simp⟩, HO, HB, HK⟩
  case round =>
    clear HB HO HF HK
    obtain ⟨D, R, R', x1, x5, rfl, rfl, HX, HF, HR, HL, HO, HB, HK⟩ := hrel
    cases R with
    | nil =>
      have hc : decide (x5 < (l.length : Int)) = false := decide_eq_false (by have := HX.out; have := HL.out; simp only [List.length_nil] at this; omega)
      have H := HF.out
      clear HF
      simp only [laws_markPositionS.f, Option.some.injEq, Prod.mk.injEq] at H
      obtain ⟨rfl, rfl⟩ := H
      go_wp2
      go_ret
      refine ⟨rfl, ?_, HB.out, HK.out⟩
      have h1 := HO.out
      rw [HR.out]
      exact h1
    | cons p ps =>
      have hlt : x5 < (l.length : Int) := by have := HX.out; have := HL.out; simp only [List.length_cons] at this; omega
      have hge : 0 ≤ x5 := by have := HX.out; omega
      have hc : decide (x5 < (l.length : Int)) = true := decide_eq_true hlt
      have hc0 : decide (0 ≤ x5) = true := decide_eq_true hge
      have H := HF.out
      clear HF
      simp only [laws_markPositionS.f] at H
      obtain ⟨⟨y1, ys⟩, A1, H⟩ := Option.bind_eq_some_iff.mp H
      obtain ⟨⟨z1, zs⟩, A2, H⟩ := Option.bind_eq_some_iff.mp H
      obtain ⟨⟨q1, qs⟩, A3, H⟩ := Option.bind_eq_some_iff.mp H
      simp only [Option.some.injEq, Prod.mk.injEq] at H
      obtain ⟨rfl, rfl⟩ := H
      have HA1 := Aside0.mk A1
      have HA2 := Aside0.mk A2
      have HA3 := Aside0.mk A3
      clear A1 A2 A3
      obtain ⟨g, cap, ev, hlg, hgs, hcells⟩ := Kd.S_form HO.out.2 (by have := HL.out; simp only [List.length_append, List.length_cons] at this ⊢; omega)
      injection ev with ea en ec
      subst ea ec
      clear en hcells
      obtain ⟨oki, cs, hcl, hM, hcc, hfr, hoki, hH⟩ := Kd.S_elem HO.out.2 z57 x5 hge hlt
      have hap := hM.2
      obtain ⟨v0, v1, rfl, hr0, hr1⟩ := p57_openM hM
      have hpe : (D ++ p :: ps).getD x5.toNat z57 = p := by
        have : x5.toNat = D.length := by have := HX.out; omega
        rw [this]
        simp [List.getD_eq_getElem?_getD]
      rw [hpe] at hr0 hr1
      have hap' : ∀ b, v0.ownBlock = some b → some b ≠ v1.ownBlock := hap v0 v1 rfl
      have hx0 : wr.cell? ⟨g, x5.toNat * 2, none⟩ = some v0 := hcc 0 _ rfl
      have hx1 : wr.cell? ⟨g, x5.toNat * 2 + 1, none⟩ = some v1 := hcc 1 _ rfl
      have hv0 := Kd.R_val hr0
      have hv1 := Kd.R_val hr1
      obtain ⟨Ac0, cc0, ev0⟩ := Kd.R_slice hr0
      obtain ⟨Ac1, cc1, ev1⟩ := Kd.R_slice hr1
      subst ev0 ev1
      have HAP := Aside0.mk hap'
      have H0R := Aside0.mk hr0
      have H1R := Aside0.mk hr1
      have HHo := Aside0.mk hH
      have HOK := Aside0.mk hoki
      have HLT := Aside0.mk (And.intro hge hlt)
      have HHI := Aside0.mk HO.out.1
      have HN := Aside0.mk HO.out.reads.2.2.2.1
      have HLN := Aside0.mk HO.out.reads.1
      have HG := Aside0.mk (And.intro hlg hgs)
      have p10 := eq_true hge
      have q10 := eq_true hlt
      clear hap hap' hM hr0 hr1 hcc hfr hH hoki hcl hpe hge hlt HO hv0 hv1 hlg hgs
      have hwr := Aside0.mk (show wrap64 (x5 + 1) = x5 + 1 by have := HLT.out; have := HN.out; have := HLN.out; unfold wrap64; omega)
      go_wp2_with (first
        | ((with_reducible refine gate_callee (f := 27) rfl ?_); refine goesL_ (some 18) rfl rfl Try.func27 (by kernel_rfl) rfl #[.slice Ac0 p.f0.length cc0, .int .i64 x1] rfl (by (try simp only [List.map_toArray, List.map_cons, List.map_nil]); first | done | rfl) ?_; refine (laws_markIntS.calls k (fun b => some b = (Value.slice Ac0 p.f0.length cc0).ownBlock) (.slice Ac0 p.f0.length cc0) p.f0 x1 y1 ys w0 _ HB.out (Kd.R_lower (Kd.R_tight rfl H0R.out) H0.out) HA1.out).mono ?_; rintro e wa ⟨rfl, hr, hb, hk⟩; refine ⟨_, rfl, ?_⟩; have hP : ∀ b, some b = (Value.slice Ac0 p.f0.length cc0).ownBlock → oki b := fun b hb => H0R.out.1 b hb.symm; have n0_ := Aside0.mk (Kd.H_step HHo.out (fun b hb hn hl => hk.2 b hl (fun he => hn (hP b he)))); have n1_ := Aside0.mk (Kd.R_mono (Kd.R_tight rfl (int_raise hr (fun b hb => Kd.R_base H0R.out b hb))) (fun b hb => H0R.out.1 b hb.symm)); have n2_ := Aside0.mk (Kd.R_mono (Kd.R_step (Kd.R_tight rfl H1R.out) (fun b hb hl => hk.2 b hl (fun he => HAP.out b he.symm hb))) (fun b hb => H1R.out.1 b hb.symm)); have n3_ := Aside0.mk hb; have n4_ := Aside0.mk (Kept.more HK.out hk (fun b hb => (HOK.out b (hP b hb)).1)); have n5_ := Aside0.mk (Nat.le_trans HHI.out hk.1); have m1_ := Go.Proofs.YtpiafobcmhfclaaW.PrintWords.cell_kept hx1 hk (fun he => (HOK.out _ (hP _ he)).2 rfl); clear hx0 hx1; have hx1 := m1_; clear m1_; clear HHo H0R H1R HB HK HHI; have HHo := n0_; have H0R := n1_; have H1R := n2_; have HB := n3_; have HK := n4_; have HHI := n5_; clear n0_ n1_ n2_ n3_ n4_ n5_ hr hb hk hP)
        | ((with_reducible refine gate_callee (f := 27) rfl ?_); refine goesL_ (some 25) rfl rfl Try.func27 (by kernel_rfl) rfl #[.slice Ac1 p.f1.length cc1, .int .i64 y1] rfl (by (try simp only [List.map_toArray, List.map_cons, List.map_nil]); first | done | rfl) ?_; refine (laws_markIntS.calls k (fun b => some b = (Value.slice Ac1 p.f1.length cc1).ownBlock) (.slice Ac1 p.f1.length cc1) p.f1 y1 z1 zs w0 _ HB.out (Kd.R_lower (Kd.R_tight rfl H1R.out) H0.out) HA2.out).mono ?_; rintro e wb ⟨rfl, hr, hb, hk⟩; refine ⟨_, rfl, ?_⟩; have hP : ∀ b, some b = (Value.slice Ac1 p.f1.length cc1).ownBlock → oki b := fun b hb => H1R.out.1 b hb.symm; have n0_ := Aside0.mk (Kd.H_step HHo.out (fun b hb hn hl => hk.2 b hl (fun he => hn (hP b he)))); have n1_ := Aside0.mk (Kd.R_mono (Kd.R_tight rfl (int_raise hr (fun b hb => Kd.R_base H1R.out b hb))) (fun b hb => H1R.out.1 b hb.symm)); have n2_ := Aside0.mk (Kd.R_mono (Kd.R_step (Kd.R_tight rfl H0R.out) (fun b hb hl => hk.2 b hl (fun he => HAP.out b hb.symm he))) (fun b hb => H0R.out.1 b hb.symm)); have n3_ := Aside0.mk hb; have n4_ := Aside0.mk (Kept.more HK.out hk (fun b hb => (HOK.out b (hP b hb)).1)); have n5_ := Aside0.mk (Nat.le_trans HHI.out hk.1); clear hx1; clear HHo H0R H1R HB HK HHI; have HHo := n0_; have H1R := n1_; have H0R := n2_; have HB := n3_; have HK := n4_; have HHI := n5_; clear n0_ n1_ n2_ n3_ n4_ n5_ hr hb hk hP))
      go_roundg ps.length
      case measure => have := HL.out; simp only [List.length_cons] at this; omega
      case rel =>
        refine ⟨D ++ [⟨ys, zs⟩], ps, qs, z1, wrap64 (x5 + 1), rfl, rfl, ⟨?_⟩, HA3, ⟨?_⟩, ⟨?_⟩, ⟨HHI.out, ?_⟩, HB, HK⟩
        · rw [hwr.out, HX.out, List.length_append, List.length_cons, List.length_nil]
          omega
        · rw [HR.out, List.append_assoc]
          rfl
        · have := HL.out
          simp only [List.length_append, List.length_cons, List.length_nil] at this ⊢
          omega
        · have hb := Kd.H_back HHo.out (x' := (⟨ys, zs⟩ : S57)) (p57_mkA _ _ _ _ HAP.out H0R.out H1R.out) (fun _ h => h)
          have e : (D ++ p :: ps).set x5.toNat (⟨ys, zs⟩ : S57) = (D ++ [⟨ys, zs⟩]) ++ ps := by
            have : x5.toNat = D.length := by have := HX.out; omega
            rw [this, List.set_append_right _ _ (Nat.le_refl _)]
            simp
          rw [e] at hb
          exact hb
set_option maxHeartbeats 8000000 in
set_option maxRecDepth 100000 in
theorem laws_toPositionS.callsA (k : Nat) (A0 : Option Addr) (c0 : Nat) (l0 : List (S59)) (r : List (S57)) (w : World) (hr0 : Kd.C k59 w A0 l0.length l0) (hc0 : l0.length ≤ c0) (h : laws_toPositionS.f k l0 = some r) :
    Calls Try.prog 18 #[.slice A0 l0.length c0] w fun e w' => ∃ v0_ : Value, e = .returned (v0_) ∧ Kd.S p57 57 w' w.heap.size (fun _ => True) v0_ r ∧ Below w.heap.size w w' := by
  have hu59 := Try.underlying59
  have hu57 := Try.underlying57
  have HR0 := Aside0.mk hr0
  have HC0 := Aside0.mk hc0
  clear hr0 hc0
  have HB := Aside0.mk (Below.refl w.heap.size w)
  have H : (if 0 ≤ (l0.length : Int) then (if ((l0.length : Int) : Int).toNat ≤ 5864062014805 then (laws_toPositionS.l0 k l0 (List.replicate ((l0.length : Int) : Int).toNat z57) 0) else (none)) else (none)) = some r := h
  clear h
  by_cases c2 : 0 ≤ (l0.length : Int)
  · rw [if_pos c2] at H
    have c2b0 := eq_true c2
    have c2b1 : decide (0 ≤ (l0.length : Int)) = true := decide_eq_true c2
    clear c2
    by_cases c3 : ((l0.length : Int) : Int).toNat ≤ 5864062014805
    · rw [if_pos c3] at H
      have c3b0 := eq_true c3
      have c3b1 : decide (((l0.length : Int) : Int).toNat ≤ 5864062014805) = true := decide_eq_true c3
      clear c3
      obtain ⟨y137, hy137⟩ : ∃ y_ : List (S57), y_ = (List.replicate ((l0.length : Int) : Int).toNat z57) := ⟨_, rfl⟩
      replace H : (laws_toPositionS.l0 k l0 y137 0) = some r := by first | (rw [hy137]; with_reducible exact H) | (have H2_ := (Option.bind_some _ _).symm.trans H; rw [hy137]; with_reducible exact H2_) | (have H2_ := (Option.bind_some _ _).symm.trans H; with_reducible exact H2_) | with_reducible exact H | (rw [hy137]; exact H) | exact H
      have Ny137 := Aside0.mk hy137
      clear hy137
      have H' := Aside0.mk H
      clear H
      go_enter Try.func18, Try.ntmps18
      go_wp2_with (first | ((with_reducible refine gate_dst (N := 7) rfl ?_); refine Kd.S_make p57 _ 57 rfl (N := 7) rfl 22 _ _ rfl (l0.length : Int) rfl rfl Try.underlying22 (.agg #[(.slice none 0 0), (.slice none 0 0)]) 48 info57 rfl (by decide) (by omega) z57 (ok := fun _ => True) (okp := fun _ => True) (p57_mkA _ _ _ z57 nilApart (Kd.R_nil _ _ _ _ _) (Kd.R_nil _ _ _ _ _)) (fun _ hk => hk) trivial (of_decide_eq_true (by first | (with_reducible assumption) | assumption)) (Nat.le_trans (Nat.mul_le_mul_right _ (of_decide_eq_true (by first | (with_reducible assumption) | assumption) : (l0.length : Int).toNat ≤ 5864062014805)) (by omega)) (Below.refl _ _) (Nat.le_refl _) ?_; intro v138 w4 ho5 hb hg_ hnew_; clear hg_ hnew_; (first | rw [← Ny137.out] at ho5 | (simp only [Int.reduceToNat] at ho5; rw [← Ny137.out] at ho5)); have n0_ := Aside0.mk (Kd.S_lower ho5 (below_size (by repeat (first | (with_reducible first | exact HB.out | apply below_alloc | apply pw_below_drewN | apply below_drew1) | exact HB.out)))); have n1_ := Aside0.mk (below_step (by repeat (first | (with_reducible first | exact HB.out | apply below_alloc | apply pw_below_drewN | apply below_drew1) | exact HB.out)) hb); clear HB; have HO139 := n0_; have HB := n1_; clear n0_ n1_; clear hb ho5))
      go_loopg [4] k (fun kq v4 w' => ∃ (x3_1 : List (S57)) (x4_1 : Int), v4 = .int .i64 x4_1 ∧ Aside0 (laws_toPositionS.l0 kq l0 x3_1 x4_1 = some r) ∧ Aside0 (kq ≤ k) ∧ Aside0 (Kd.S p57 57 w' w.heap.size (fun _ => True) v138 x3_1) ∧ Aside0 (Below w.heap.size w w'))
      case atStart => exact ⟨(y137), (0), (by first | rfl | (simp; done) | (simp [*]; done)), H', ⟨Nat.le_refl _⟩, ⟨by (with_reducible repeat (first | apply Kd.S_alloc | apply Kd.S_drewN | apply Kd.S_drew)); exact HO139.out⟩, ⟨by repeat (first | (with_reducible first | exact HB.out | apply below_alloc | apply pw_below_drewN | apply below_drew1) | exact HB.out)⟩⟩
      case round =>
        clear H'
        try clear c1
        try clear c2
        try clear c2b0
        try clear c2b1
        try clear p2
        try clear c3
        try clear c3b0
        try clear c3b1
        obtain ⟨x3_1, x4_1, rfl, HA, HK1, HO_3, HB⟩ := hrel
        cases gk with
        | zero => exact absurd HA.out (by simp [laws_toPositionS.l0])
        | succ k1 =>
          have H := HA.out
          clear HA
          simp only [laws_toPositionS.l0] at H
          by_cases c6 : x4_1 < (l0.length : Int)
          · rw [if_pos c6] at H
            have c6b0 : decide (x4_1 < (l0.length : Int)) = true := decide_eq_true c6
            clear c6
            by_cases c7 : 0 ≤ x4_1
            · rw [if_pos c7] at H
              have c7b0 : decide (0 ≤ x4_1) = true := decide_eq_true c7
              clear c7
              replace H := Option.bind_eq_some_iff.mp H
              obtain ⟨⟨t141, t144⟩, A80, H⟩ := H
              replace H : (if x4_1 < (x3_1.length : Int) then (laws_toPositionS.l0 k1 l0 (x3_1.set (x4_1 : Int).toNat (⟨t141, t144⟩ : S57)) (wrap64 (x4_1 + 1))) else (none)) = some r := H
              have A8 := Aside0.mk A80
              clear A80
              by_cases c9 : x4_1 < (x3_1.length : Int)
              · rw [if_pos c9] at H
                have c9b0 : decide (x4_1 < (x3_1.length : Int)) = true := decide_eq_true c9
                clear c9
                obtain ⟨y147, hy147⟩ : ∃ y_ : List (S57), y_ = (x3_1.set (x4_1 : Int).toNat (⟨t141, t144⟩ : S57)) := ⟨_, rfl⟩
                replace H : (laws_toPositionS.l0 k1 l0 y147 (wrap64 (x4_1 + 1))) = some r := by first | (rw [hy147]; with_reducible exact H) | (have H2_ := (Option.bind_some _ _).symm.trans H; rw [hy147]; with_reducible exact H2_) | (have H2_ := (Option.bind_some _ _).symm.trans H; with_reducible exact H2_) | with_reducible exact H | (rw [hy147]; exact H) | exact H
                have Ny147 := Aside0.mk hy147
                clear hy147
                have H' := Aside0.mk H
                clear H
                have p140 : 0 ≤ (x4_1 : Int) := of_decide_eq_true (by first | (with_reducible assumption) | assumption)
                have q140 : x4_1 < (l0.length : Int) := of_decide_eq_true (by first | (with_reducible assumption) | assumption)
                obtain ⟨ad140, A140_0, c140_0, A140_1, c140_1, e140, hx140_0, hx140_1, hl140_0, hi140_0, hl140_1, hi140_1⟩ := at_T59 HR0.out x4_1 p140 q140
                cases e140
                replace hx140_0 := (HB.out.cell (World.block_lt_of_cell? w _ hx140_0)).trans hx140_0
                replace hx140_1 := (HB.out.cell (World.block_lt_of_cell? w _ hx140_1)).trans hx140_1
                have HR140_0 := Aside0.mk hi140_0
                have HC140_0 := Aside0.mk hl140_0
                clear hi140_0 hl140_0
                have HR140_1 := Aside0.mk hi140_1
                have HC140_1 := Aside0.mk hl140_1
                clear hi140_1 hl140_1
                replace p140 := eq_true p140
                replace q140 := eq_true q140
                go_wp2_with (first | ((with_reducible refine gate_callee (f := 48) rfl ?_); refine goesL_ (some 20) rfl rfl Try.func48 (by kernel_rfl) rfl #[.agg #[.slice A140_0 ((rd_T59 l0 x4_1).f0).length c140_0, .slice A140_1 ((rd_T59 l0 x4_1).f1).length c140_1]] rfl (by (try simp only [List.map_toArray, List.map_cons, List.map_nil]); first | done | rfl | (simp only [List.length_drop, List.length_take]; rfl)) ?_; (with_reducible refine (laws_toPosition.calls k1 _ _ ((rd_T59 l0 x4_1).f0) _ _ ((rd_T59 l0 x4_1).f1) t141 t144 _ ?side1 ?side2 ?side3 ?side4 A8.out).mono ?_); (case side1 => repeat (first | exact (Kd.C_below HR140_0.out HB.out) | (with_reducible refine Kd.C_alloc ?_ _) | (with_reducible refine Kd.C_drewN ?_ _) | (with_reducible refine Kd.C_drew ?_))); (case side2 => exact HC140_0.out); (case side3 => repeat (first | exact (Kd.C_below HR140_1.out HB.out) | (with_reducible refine Kd.C_alloc ?_ _) | (with_reducible refine Kd.C_drewN ?_ _) | (with_reducible refine Kd.C_drew ?_))); (case side4 => exact HC140_1.out); rintro e w11 ⟨v142, v145, rfl, ho0, ho1, hb⟩; refine ⟨_, rfl, ?_⟩; have n0_ := Aside0.mk (Kd.S_mono (Kd.S_told (Kd.S_told (Kd.S_old (by (with_reducible repeat (first | apply Kd.S_alloc | apply Kd.S_drewN | apply Kd.S_drew)); exact HO_3.out) hb) (Kd.R_base ho0)) (Kd.R_base ho1)) (fun _ h_ => h_.1)); have n1_ := Aside0.mk (Kd.R_lower ho0 (below_size (by repeat (first | (with_reducible first | exact HB.out | apply below_alloc | apply pw_below_drewN | apply below_drew1) | exact HB.out)))); have n2_ := Aside0.mk (Kd.R_lower ho1 (below_size (by repeat (first | (with_reducible first | exact HB.out | apply below_alloc | apply pw_below_drewN | apply below_drew1) | exact HB.out)))); have n3_ := Aside0.mk (below_step (by repeat (first | (with_reducible first | exact HB.out | apply below_alloc | apply pw_below_drewN | apply below_drew1) | exact HB.out)) hb); clear HO_3; clear HB; have HO_3 := n0_; have HO143 := n1_; have HO146 := n2_; have HB := n3_; clear n0_ n1_ n2_ n3_; (try clear hb); (try clear hb2); (try clear hk); (try clear hi); (try clear ho0); (try clear ho1); have p10 : 0 ≤ (x4_1 : Int) := of_decide_eq_true (by first | (with_reducible assumption) | assumption); have q10 : (x4_1 : Int) < ((x3_1.length : Int) : Int) := of_decide_eq_true (by first | (with_reducible assumption) | assumption); obtain ⟨go10, co10, eo10, gb10, gl10, cl10, HG10⟩ := Kd.S_form HO_3.out (by omega); (first | cases eo10 | (injection eo10 with ea_ en_ ec_; (first | subst ea_ | (injection ea_ with ea_; subst ea_)); subst ec_; clear en_)); have GB10 := Aside0.mk gb10; have GG10 := Aside0.mk HG10; clear gb10 gl10 HG10; obtain ⟨_, ce10, hcl10, hM10, hcc10, hfr10, _, _⟩ := Kd.S_elem HO_3.out z57 (x4_1 : Int) p10 q10; obtain ⟨ve10_0, ve10_1, rfl, ge10_0, ge10_1⟩ := p57_openM hM10; have hx10_0 : w11.cell? ⟨go10, (x4_1 : Int).toNat * 2, none⟩ = some (ve10_0) := hcc10 0 _ rfl; have hx10_1 : w11.cell? ⟨go10, (x4_1 : Int).toNat * 2 + 1, none⟩ = some (ve10_1) := hcc10 1 _ rfl; have hf10_0 : w11.frozen? ⟨go10, (x4_1 : Int).toNat * 2, none⟩ = false := hfr10 0; have hf10_1 : w11.frozen? ⟨go10, (x4_1 : Int).toNat * 2 + 1, none⟩ = false := hfr10 1; clear hcl10 hcc10 hfr10 hM10; replace p10 := eq_true p10; replace q10 := eq_true q10; have n_ := Aside0.mk (Kd.S_mono (ok' := (fun k_ => some k_ ≠ (v142 : Value).ownBlock ∧ some k_ ≠ (v145 : Value).ownBlock)) HO_3.out (fun k_ hk => ⟨hk.1.2, hk.2⟩)); clear HO_3; have HO_3 := n_; clear n_; have HX12 := Aside0.mk (show Kd.S p57 57 w11 w.heap.size (fun k_ => ((fun _ => True)) k_ ∧ ¬ ((fun k_ => some k_ = (v142 : Value).ownBlock ∨ some k_ = (v145 : Value).ownBlock)) k_) (.slice (some ⟨go10, 0, none⟩) x3_1.length co10) x3_1 from (by (with_reducible repeat (first | apply Kd.S_alloc | apply Kd.S_drewN | apply Kd.S_drew)); exact Kd.S_mono HO_3.out (fun k_ hk => ⟨trivial, fun e_ => e_.elim (fun h_ => hk.1 h_) (fun h_ => hk.2 h_)⟩))); obtain ⟨oki12, ce12, hcl12, hM12, hcc12, hfr12, hoki12, hH12⟩ := Kd.S_elem HX12.out z57 (x4_1 : Int) (of_decide_eq_true (by first | (with_reducible assumption) | assumption)) (by have h_ : (x4_1 : Int) < ((x3_1.length : Int) : Int) := of_decide_eq_true (by first | (with_reducible assumption) | assumption); first | exact h_ | (have e_ := (Kd.S_reads' HO_3.out).1; omega) | simpa using h_); obtain ⟨ve12_0, ve12_1, rfl, ge12_0, ge12_1⟩ := p57_openM hM12; have HP12 := Kd.S_seg hH12 (of_decide_eq_true (by first | (with_reducible assumption) | assumption)) (by have h_ : (x4_1 : Int) < ((x3_1.length : Int) : Int) := of_decide_eq_true (by first | (with_reducible assumption) | assumption); first | exact h_ | (have e_ := (Kd.S_reads' HO_3.out).1; omega) | simpa using h_) (seg := [v142, v145]) (j := 0) (show 2 ≤ 2 from by decide) (x' := (⟨t141, t144⟩ : S57)) (p57_mkA _ _ _ (⟨t141, t144⟩ : S57) (fun k hk => by have h_ := HO143.out.1 k hk; first | exact h_ | exact h_.2 | exact h_.1.2 | exact h_.1 | exact h_.2.2 | exact h_.2.1 | exact h_.1.1.2) (Kd.R_mono (Kd.R_tight rfl (Kd.R_mono (ok' := fun k_ => ((fun _ => True)) k_ ∧ k_ ≠ go10) (Kd.R_apart' (HO143.out) (Kd.S_typed HO_3.out) (by decide)) (fun k_ hk => ⟨trivial, fun e_ => (hk.2) (by rw [e_]; rfl)⟩))) (fun _ h_ => Or.inr (Or.inl h_))) (Kd.R_mono (Kd.R_tight rfl (Kd.R_mono (ok' := fun k_ => ((fun _ => True)) k_ ∧ k_ ≠ go10) (Kd.R_apart' (HO146.out) (Kd.S_typed HO_3.out) (by decide)) (fun k_ hk => ⟨trivial, fun e_ => (hk.2) (by rw [e_]; rfl)⟩))) (fun _ h_ => Or.inr (Or.inr (h_))))) (fun _ hk => hk) (fun k_ hk_ => hk_.elim (fun h_ => ((Kd.R_mono (ok' := fun k_ => ((fun _ => True)) k_ ∧ k_ ≠ go10) (Kd.R_apart' (HO143.out) (Kd.S_typed HO_3.out) (by decide)) (fun k_ hk => ⟨trivial, fun e_ => (hk.2) (by rw [e_]; rfl)⟩))).1 k_ h_.symm) (fun h_ => ((Kd.R_mono (ok' := fun k_ => ((fun _ => True)) k_ ∧ k_ ≠ go10) (Kd.R_apart' (HO146.out) (Kd.S_typed HO_3.out) (by decide)) (fun k_ hk => ⟨trivial, fun e_ => (hk.2) (by rw [e_]; rfl)⟩))).1 k_ h_.symm)); have hx12_0 := hcc12 0 _ rfl; (try simp only [show (p57).sz = 2 from rfl, Nat.mul_one, Nat.add_zero] at hx12_0); have hf12_0 := hfr12 0; (try simp only [show (p57).sz = 2 from rfl, Nat.mul_one, Nat.add_zero] at hf12_0); have hx12_1 := hcc12 1 _ rfl; (try simp only [show (p57).sz = 2 from rfl, Nat.mul_one, Nat.add_zero] at hx12_1); have hf12_1 := hfr12 1; (try simp only [show (p57).sz = 2 from rfl, Nat.mul_one, Nat.add_zero] at hf12_1); clear hcl12 hcc12 hfr12 hM12 hoki12 hH12) | ((with_reducible refine gate_store (t := 57) (p := 21) rfl ?_); refine store_event (t := 57) (p := 21) (v := ?vo_w13) (w1 := ((w11.setCell ⟨go10, (x4_1 : Int).toNat * 2, none⟩ (v142)).setCell ⟨go10, (x4_1 : Int).toNat * 2 + 1, none⟩ (v145))) ?hg ?ho ?hn ?hr ?_; (case ho => rfl); (case hg => rfl); (case hn => rfl); (case hr => first | (go_simp; done) | (go_simp; rfl) | (have sv0_ := fun (w_ : World) (a_ : Addr) (m_ : Mode) => run_store Try.prog w_ a_ (v142) m_ (Kd.R_val (Kd.R_bound HO143.out)).2; have sv1_ := fun (w_ : World) (a_ : Addr) (m_ : Mode) => run_store Try.prog w_ a_ (v145) m_ (Kd.R_val (Kd.R_bound HO146.out)).2; go_simp; done) | (have sv0_ := fun (w_ : World) (a_ : Addr) (m_ : Mode) => run_store Try.prog w_ a_ (v142) m_ (Kd.R_val (Kd.R_bound HO143.out)).2; have sv1_ := fun (w_ : World) (a_ : Addr) (m_ : Mode) => run_store Try.prog w_ a_ (v145) m_ (Kd.R_val (Kd.R_bound HO146.out)).2; go_simp; rfl)); intro w13 hw; have hg : w11.grownBy w13 (some go10) := (by rw [hw]; exact HP12.2); have hp_ : Kd.S p57 57 w13 w.heap.size (fun _ => True) (.slice (some ⟨go10, 0, none⟩) x3_1.length co10) y147 := (by rw [hw, Ny147.out]; exact HP12.1); clear HP12; have n0_ := Aside0.mk (hp_); have n1_ := Aside0.mk ((by rw [hw]; exact below_set (below_set (HB.out) GB10.out) GB10.out : Below w.heap.size w w13)); clear HO_3; clear HB; clear HO143; clear HO146; have HO_3 := n0_; have HB := n1_; clear n0_ n1_; clear hg hw hp_))
                go_roundg k1
                case measure => have := HK1.out; omega
                case rel => exact ⟨(y147), (wrap64 (x4_1 + 1)), (by first | rfl | (simp; done) | (simp [*]; done)), H', ⟨by have := HK1.out; omega⟩, ⟨by (with_reducible repeat (first | apply Kd.S_alloc | apply Kd.S_drewN | apply Kd.S_drew)); exact HO_3.out⟩, ⟨by repeat (first | (with_reducible first | exact HB.out | apply below_alloc | apply pw_below_drewN | apply below_drew1) | exact HB.out)⟩⟩
              · rw [if_neg c9] at H
                exact absurd H (by simp)
            · rw [if_neg c7] at H
              exact absurd H (by simp)
          · rw [if_neg c6] at H
            have c6b0 : decide (x4_1 < (l0.length : Int)) = false := decide_eq_false c6
            clear c6
            obtain rfl := Option.some.inj H
            go_wp2
            go_ret
            exact ⟨_, by first | rfl | (simp [errW_none, errW_some] <;> rfl) | (simp [*, errW_none, errW_some] <;> rfl), by (with_reducible repeat (first | apply Kd.S_alloc | apply Kd.S_drewN | apply Kd.S_drew)); exact HO_3.out, by repeat (first | (with_reducible first | exact HB.out | apply below_alloc | apply pw_below_drewN | apply below_drew1) | exact HB.out)⟩
    · rw [if_neg c3] at H
      exact absurd H (by simp)
  · rw [if_neg c2] at H
    exact absurd H (by simp)
set_option maxHeartbeats 8000000 in
set_option maxRecDepth 100000 in
theorem spec_gaTrim.callsA (k : Nat) (A0 : Option Addr) (c0 : Nat) (l0 : List (S57)) (r : List (S57)) (w : World) (hr0 : Kd.C k57 w A0 l0.length l0) (hc0 : l0.length ≤ c0) (h : spec_gaTrim.f k l0 = some r) :
    Calls Try.prog 55 #[.slice A0 l0.length c0] w fun e w' => ∃ v0_ : Value, e = .returned (v0_) ∧ Kd.S p57 57 w' w.heap.size (fun _ => True) v0_ r ∧ Below w.heap.size w w' := by
  have hu57 := Try.underlying57
  have HR0 := Aside0.mk hr0
  have HC0 := Aside0.mk hc0
  clear hr0 hc0
  have HB := Aside0.mk (Below.refl w.heap.size w)
  have H : ((spec_gaReached.f k l0 (wrap64 ((l0.length : Int) - 1))).bind fun t232 => (spec_gaTrim.l0 k l0 t232 ([] : List (S57)) t232 (t232.length : Int) 0)) = some r := h
  clear h
  replace H := Option.bind_eq_some_iff.mp H
  obtain ⟨t232, A20, H⟩ := H
  replace H : (spec_gaTrim.l0 k l0 t232 ([] : List (S57)) t232 (t232.length : Int) 0) = some r := H
  have A2 := Aside0.mk A20
  clear A20
  have H' := Aside0.mk H
  clear H
  go_enter Try.func55, Try.ntmps55
  go_wp2_with (first | ((with_reducible refine gate_callee (f := 76) rfl ?_); refine goesL_ (some 11) rfl rfl Try.func76 (by kernel_rfl) rfl #[.slice A0 l0.length c0, .int .i64 (wrap64 ((l0.length : Int) - 1))] rfl (by (try simp only [List.map_toArray, List.map_cons, List.map_nil]); first | done | rfl | (simp only [List.length_drop, List.length_take]; rfl)) ?_; (with_reducible refine (spec_gaReached.calls k _ _ l0 (wrap64 ((l0.length : Int) - 1)) t232 _ ?side1 ?side2 A2.out).mono ?_); (case side1 => repeat (first | exact HR0.out | (with_reducible refine Kd.C_alloc ?_ _) | (with_reducible refine Kd.C_drewN ?_ _) | (with_reducible refine Kd.C_drew ?_))); (case side2 => exact HC0.out); rintro e w3 ⟨v233, rfl, ho0, hb⟩; refine ⟨_, rfl, ?_⟩; have n0_ := Aside0.mk (Kd.R_lower ho0 (below_size (by repeat (first | (with_reducible first | exact HB.out | apply below_alloc | apply pw_below_drewN | apply below_drew1) | exact HB.out)))); have n1_ := Aside0.mk (below_step (by repeat (first | (with_reducible first | exact HB.out | apply below_alloc | apply pw_below_drewN | apply below_drew1) | exact HB.out)) hb); clear HB; have HO234 := n0_; have HB := n1_; clear n0_ n1_; (try clear hb); (try clear hb2); (try clear hk); (try clear hi); (try clear ho0); obtain ⟨Ao4, co4, eo4⟩ := Kd.R_slice HO234.out; subst eo4))
  go_loopg [4, 14] k (fun kq v4 v14 w' => ∃ (x4_1 : List (S57)) (x14_1 : Int), v14 = .int .i64 x14_1 ∧ Aside0 (spec_gaTrim.l0 kq l0 t232 x4_1 t232 (t232.length : Int) x14_1 = some r) ∧ Aside0 (kq ≤ k) ∧ Aside0 (Kd.R (Kd.int .i64) 3 w' w.heap.size (fun _ => True) (.slice Ao4 t232.length co4) t232) ∧ Aside0 (Kd.S p57 57 w' w.heap.size (fun k_ => some k_ ≠ ((.slice Ao4 t232.length co4) : Value).ownBlock ∧ some k_ ≠ ((.slice Ao4 t232.length co4) : Value).ownBlock) v4 x4_1) ∧ Aside0 (Kd.R (Kd.int .i64) 3 w' w.heap.size (fun _ => True) (.slice Ao4 t232.length co4) t232) ∧ Aside0 (Below w.heap.size w w'))
  case atStart => exact ⟨(([] : List (S57))), (0), (by first | rfl | (simp; done) | (simp [*]; done)), H', ⟨Nat.le_refl _⟩, ⟨by (with_reducible repeat (first | apply Kd.R_alloc | apply Kd.R_drewN | apply Kd.R_drew)); exact HO234.out⟩, ⟨by first | exact Kd.S_nil _ _ _ _ _ | exact Kd.N_nil _ _ _ _ _ | exact Kd.V_nil _ _ _ _ _ | exact Kd.Q_nil _ _ _ _ _ | exact Kd.R_nil _ _ _ _ _⟩, ⟨by (with_reducible repeat (first | apply Kd.R_alloc | apply Kd.R_drewN | apply Kd.R_drew)); exact HO234.out⟩, ⟨by repeat (first | (with_reducible first | exact HB.out | apply below_alloc | apply pw_below_drewN | apply below_drew1) | exact HB.out)⟩⟩
  case round =>
    clear H'
    try clear p2
    obtain ⟨x4_1, x14_1, rfl, HA, HK1, HO_3, HO_4, HO_12, HB⟩ := hrel
    cases gk with
    | zero => exact absurd HA.out (by simp [spec_gaTrim.l0])
    | succ k1 =>
      have H := HA.out
      clear HA
      simp only [spec_gaTrim.l0] at H
      by_cases c5 : x14_1 < (t232.length : Int)
      · rw [if_pos c5] at H
        have c5b0 : decide (x14_1 < (t232.length : Int)) = true := decide_eq_true c5
        clear c5
        by_cases c6 : 0 ≤ x14_1
        · rw [if_pos c6] at H
          have c6b0 : decide (0 ≤ x14_1) = true := decide_eq_true c6
          clear c6
          by_cases c7 : x14_1 < (t232.length : Int)
          · rw [if_pos c7] at H
            have c7b0 : decide (x14_1 < (t232.length : Int)) = true := decide_eq_true c7
            clear c7
            by_cases c8 : 0 ≤ (rd t232 x14_1)
            · rw [if_pos c8] at H
              have c8b0 : decide (0 ≤ (rd t232 x14_1)) = true := decide_eq_true c8
              clear c8
              by_cases c9 : (rd t232 x14_1) < (l0.length : Int)
              · rw [if_pos c9] at H
                have c9b0 : decide ((rd t232 x14_1) < (l0.length : Int)) = true := decide_eq_true c9
                clear c9
                replace H := Option.bind_eq_some_iff.mp H
                obtain ⟨t237, A100, H⟩ := H
                replace H : ((spec_gaPlaces.f k1 t232 ((rd_T57 l0 (rd t232 x14_1)).f1)).bind fun t241 => (if x4_1.length < 2932031007402 then (spec_gaTrim.l0 k1 l0 t232 (x4_1 ++ [(⟨t237, t241⟩ : S57)]) t232 (t232.length : Int) (wrap64 (x14_1 + 1))) else (none))) = some r := H
                have A10 := Aside0.mk A100
                clear A100
                replace H := Option.bind_eq_some_iff.mp H
                obtain ⟨t241, A110, H⟩ := H
                replace H : (if x4_1.length < 2932031007402 then (spec_gaTrim.l0 k1 l0 t232 (x4_1 ++ [(⟨t237, t241⟩ : S57)]) t232 (t232.length : Int) (wrap64 (x14_1 + 1))) else (none)) = some r := H
                have A11 := Aside0.mk A110
                clear A110
                by_cases c12 : x4_1.length < 2932031007402
                · rw [if_pos c12] at H
                  have LMc12 := Aside0.mk c12
                  clear c12
                  obtain ⟨y244, hy244⟩ : ∃ y_ : List (S57), y_ = (x4_1 ++ [(⟨t237, t241⟩ : S57)]) := ⟨_, rfl⟩
                  replace H : (spec_gaTrim.l0 k1 l0 t232 y244 t232 (t232.length : Int) (wrap64 (x14_1 + 1))) = some r := by first | (rw [hy244]; with_reducible exact H) | (have H2_ := (Option.bind_some _ _).symm.trans H; rw [hy244]; with_reducible exact H2_) | (have H2_ := (Option.bind_some _ _).symm.trans H; with_reducible exact H2_) | with_reducible exact H | (rw [hy244]; exact H) | exact H
                  have Ny244 := Aside0.mk hy244
                  clear hy244
                  have H' := Aside0.mk H
                  clear H
                  have p235 : 0 ≤ (x14_1 : Int) := of_decide_eq_true (by first | (with_reducible assumption) | assumption)
                  have q235 : x14_1 < (t232.length : Int) := of_decide_eq_true (by first | (with_reducible assumption) | assumption)
                  obtain ⟨ad235, e235, hx235_0⟩ := Kd.at_int (Kd.R_reads' HO_12.out).2.2 x14_1 p235 q235
                  cases e235
                  replace p235 := eq_true p235
                  replace q235 := eq_true q235
                  try go_wp2
                  have n0_ := Aside0.mk (Kd.R_drew HO_3.out)
                  have n1_ := Aside0.mk (Kd.S_drew HO_4.out)
                  have n2_ := Aside0.mk (Kd.R_drew HO_12.out)
                  have n3_ := Aside0.mk (below_drew1 HB.out)
                  clear HO_3
                  clear HO_4
                  clear HO_12
                  clear HB
                  have HO_3 := n0_
                  have HO_4 := n1_
                  have HO_12 := n2_
                  have HB := n3_
                  clear n0_ n1_ n2_ n3_
                  have p236 : 0 ≤ ((rd t232 x14_1) : Int) := of_decide_eq_true (by first | (with_reducible assumption) | assumption)
                  have q236 : (rd t232 x14_1) < (l0.length : Int) := of_decide_eq_true (by first | (with_reducible assumption) | assumption)
                  obtain ⟨ad236, A236_0, c236_0, A236_1, c236_1, e236, hx236_0, hx236_1, hl236_0, hi236_0, hl236_1, hi236_1⟩ := at_T57 HR0.out (rd t232 x14_1) p236 q236
                  have hw236_1 := hx236_1
                  have hw236_0 := hx236_0
                  cases e236
                  replace hx236_0 := (HB.out.cell (World.block_lt_of_cell? w _ hx236_0)).trans hx236_0
                  replace hx236_1 := (HB.out.cell (World.block_lt_of_cell? w _ hx236_1)).trans hx236_1
                  have HR236_0 := Aside0.mk hi236_0
                  have HC236_0 := Aside0.mk hl236_0
                  clear hi236_0 hl236_0
                  have HR236_1 := Aside0.mk hi236_1
                  have HC236_1 := Aside0.mk hl236_1
                  clear hi236_1 hl236_1
                  replace p236 := eq_true p236
                  replace q236 := eq_true q236
                  have p240 : 0 ≤ ((rd t232 x14_1) : Int) := of_decide_eq_true (by first | (with_reducible assumption) | assumption)
                  have q240 : (rd t232 x14_1) < (l0.length : Int) := of_decide_eq_true (by first | (with_reducible assumption) | assumption)
                  obtain ⟨ad240, A240_0, c240_0, A240_1, c240_1, e240, hx240_0, hx240_1, hl240_0, hi240_0, hl240_1, hi240_1⟩ := at_T57 HR0.out (rd t232 x14_1) p240 q240
                  have hw240_1 := hx240_1
                  have hw240_0 := hx240_0
                  obtain rfl : ad236 = ad240 := (by injection e240)
                  replace hx240_0 := (HB.out.cell (World.block_lt_of_cell? w _ hx240_0)).trans hx240_0
                  replace hx240_1 := (HB.out.cell (World.block_lt_of_cell? w _ hx240_1)).trans hx240_1
                  have HR240_0 := Aside0.mk hi240_0
                  have HC240_0 := Aside0.mk hl240_0
                  clear hi240_0 hl240_0
                  have HR240_1 := Aside0.mk hi240_1
                  have HC240_1 := Aside0.mk hl240_1
                  clear hi240_1 hl240_1
                  replace p240 := eq_true p240
                  replace q240 := eq_true q240
                  have ea_ := Option.some.inj (hx236_0.symm.trans hx240_0)
                  injection ea_ with ea_ en_ ec_
                  subst ea_
                  subst ec_
                  clear en_
                  have ea_ := Option.some.inj (hx236_1.symm.trans hx240_1)
                  injection ea_ with ea_ en_ ec_
                  subst ea_
                  subst ec_
                  clear en_
                  refine start_ (n := 19) (S := fun w' => w'.cell? (ad236.add (((rd t232 x14_1)).toNat * 2)) = some (.slice A236_0 ((rd_T57 l0 (rd t232 x14_1)).f0).length c236_0) ∧ w'.cell? ⟨(ad236.add (((rd t232 x14_1)).toNat * 2)).block, (ad236.add (((rd t232 x14_1)).toNat * 2)).off + 1, none⟩ = some (.slice A236_1 ((rd_T57 l0 (rd t232 x14_1)).f1).length c236_1) ∧ w'.cell? (ad236.add (((rd t232 x14_1)).toNat * 2)) = some (.slice A236_0 ((rd_T57 l0 (rd t232 x14_1)).f0).length c236_0) ∧ w'.cell? ⟨(ad236.add (((rd t232 x14_1)).toNat * 2)).block, (ad236.add (((rd t232 x14_1)).toNat * 2)).off + 1, none⟩ = some (.slice A236_1 ((rd_T57 l0 (rd t232 x14_1)).f1).length c236_1)) (ds := []) #[false, false, false, false, false, false, false, false, false, false, false, false, false, false, false, false, false, false, false] (by kernel_rfl) rfl rfl ⟨((HB.out.cell (World.block_lt_of_cell? w _ hw236_0)).trans hw236_0), ((HB.out.cell (World.block_lt_of_cell? w _ hw236_1)).trans hw236_1), ((HB.out.cell (World.block_lt_of_cell? w _ hw240_0)).trans hw240_0), ((HB.out.cell (World.block_lt_of_cell? w _ hw240_1)).trans hw240_1)⟩ (fun hHeld => ?_); refine with_tabW spec_gaTrim.tab6 spec_gaTrim.bits6 (fun HT_ HW_ => ?_)
                  generalize wr.drew = w13 at HO_3 HO_4 HO_12 HB HR236_0 HR236_1 HR240_0 HR240_1 hx236_0 hx236_1 hx240_0 hx240_1 hHeld ⊢
                  refine pure_ (i := 0) (N := some 18) (v := ?_) (a' := ?_) #[true, false, false, false, false, false, false, false, false, false, false, false, false, false, false, false, false, false, false] rfl rfl (any_of HT_.out (by kernel_rfl)) (fun _ _ _ h => h) (Or.inl ⟨by rfl, ?_⟩) ?_ ?_
                  rotate_left
                  · intro w'
                    go_simp
                    with_reducible rfl
                  rotate_left
                  · simp only [Act.put, List.setIfInBounds_toArray, List.set_cons_zero, List.set_cons_succ, i64_w, i32_w]
                    rfl
                  refine pure_ (i := 1) (N := some 19) (v := ?_) (a' := ?_) #[true, true, false, false, false, false, false, false, false, false, false, false, false, false, false, false, false, false, false] rfl rfl (any_of HT_.out (by kernel_rfl)) (fun _ _ _ h => h) (Or.inl ⟨by rfl, ?_⟩) ?_ ?_
                  rotate_left
                  · intro w'
                    go_simp
                    with_reducible rfl
                  rotate_left
                  · simp only [Act.put, List.setIfInBounds_toArray, List.set_cons_zero, List.set_cons_succ, i64_w, i32_w]
                    rfl
                  refine pure_ (i := 2) (N := some 20) (v := ?_) (a' := ?_) #[true, true, true, false, false, false, false, false, false, false, false, false, false, false, false, false, false, false, false] rfl rfl (any_of HT_.out (by kernel_rfl)) (fun _ _ _ h => h) (Or.inl ⟨by rfl, ?_⟩) ?_ ?_
                  rotate_left
                  · intro w'
                    go_simp
                    with_reducible rfl
                  rotate_left
                  · simp only [Act.put, List.setIfInBounds_toArray, List.set_cons_zero, List.set_cons_succ, i64_w, i32_w]
                    rfl
                  refine pure_ (i := 3) (N := some 21) (v := ?_) (a' := ?_) #[true, true, true, true, false, false, false, false, false, false, false, false, false, false, false, false, false, false, false] rfl rfl (any_of HT_.out (by kernel_rfl)) (fun _ _ _ h => h) (Or.inl ⟨by rfl, ?_⟩) ?_ ?_
                  rotate_left
                  · intro w'
                    go_simp
                    with_reducible rfl
                  rotate_left
                  · simp only [Act.put, List.setIfInBounds_toArray, List.set_cons_zero, List.set_cons_succ, i64_w, i32_w]
                    rfl
                  refine pure_ (i := 4) (N := some 22) (v := ?_) (a' := ?_) #[true, true, true, true, true, false, false, false, false, false, false, false, false, false, false, false, false, false, false] rfl rfl (any_of HT_.out (by kernel_rfl)) (fun _ _ _ h => h) (Or.inl ⟨by rfl, ?_⟩) ?_ ?_
                  rotate_left
                  · intro w'
                    go_simp
                    with_reducible rfl
                  rotate_left
                  · simp only [Act.put, List.setIfInBounds_toArray, List.set_cons_zero, List.set_cons_succ, i64_w, i32_w]
                    rfl
                  refine pure_ (i := 5) (N := some 23) (v := ?_) (a' := ?_) #[true, true, true, true, true, true, false, false, false, false, false, false, false, false, false, false, false, false, false] rfl rfl (any_of HT_.out (by kernel_rfl)) (fun _ _ _ h => h) (Or.inl ⟨by rfl, ?_⟩) ?_ ?_
                  rotate_left
                  · intro w'
                    go_simp
                    with_reducible rfl
                  rotate_left
                  · simp only [Act.put, List.setIfInBounds_toArray, List.set_cons_zero, List.set_cons_succ, i64_w, i32_w]
                    rfl
                  refine pure_ (i := 8) (N := some 26) (v := ?_) (a' := ?_) #[true, true, true, true, true, true, false, false, true, false, false, false, false, false, false, false, false, false, false] rfl rfl (any_of HT_.out (by kernel_rfl)) (fun _ _ _ h => h) (Or.inl ⟨by rfl, ?_⟩) ?_ ?_
                  rotate_left
                  · intro w'
                    go_simp
                    with_reducible rfl
                  rotate_left
                  · simp only [Act.put, List.setIfInBounds_toArray, List.set_cons_zero, List.set_cons_succ, i64_w, i32_w]
                    rfl
                  refine pure_ (i := 9) (N := some 27) (v := ?_) (a' := ?_) #[true, true, true, true, true, true, false, false, true, true, false, false, false, false, false, false, false, false, false] rfl rfl (any_of HT_.out (by kernel_rfl)) (fun _ _ _ h => h) (Or.inl ⟨by rfl, ?_⟩) ?_ ?_
                  rotate_left
                  · intro w'
                    go_simp
                    with_reducible rfl
                  rotate_left
                  · simp only [Act.put, List.setIfInBounds_toArray, List.set_cons_zero, List.set_cons_succ, i64_w, i32_w]
                    rfl
                  refine pure_ (i := 10) (N := some 28) (v := ?_) (a' := ?_) #[true, true, true, true, true, true, false, false, true, true, true, false, false, false, false, false, false, false, false] rfl rfl (any_of HT_.out (by kernel_rfl)) (fun _ _ _ h => h) (Or.inl ⟨by rfl, ?_⟩) ?_ ?_
                  rotate_left
                  · intro w'
                    go_simp
                    with_reducible rfl
                  rotate_left
                  · simp only [Act.put, List.setIfInBounds_toArray, List.set_cons_zero, List.set_cons_succ, i64_w, i32_w]
                    rfl
                  refine pure_ (i := 11) (N := some 29) (v := ?_) (a' := ?_) #[true, true, true, true, true, true, false, false, true, true, true, true, false, false, false, false, false, false, false] rfl rfl (any_of HT_.out (by kernel_rfl)) (fun _ _ _ h => h) (Or.inl ⟨by rfl, ?_⟩) ?_ ?_
                  rotate_left
                  · intro w'
                    go_simp
                    with_reducible rfl
                  rotate_left
                  · simp only [Act.put, List.setIfInBounds_toArray, List.set_cons_zero, List.set_cons_succ, i64_w, i32_w]
                    rfl
                  refine pure_ (i := 12) (N := some 30) (v := ?_) (a' := ?_) #[true, true, true, true, true, true, false, false, true, true, true, true, true, false, false, false, false, false, false] rfl rfl (any_of HT_.out (by kernel_rfl)) (fun _ _ _ h => h) (Or.inl ⟨by rfl, ?_⟩) ?_ ?_
                  rotate_left
                  · intro w'
                    go_simp
                    with_reducible rfl
                  rotate_left
                  · simp only [Act.put, List.setIfInBounds_toArray, List.set_cons_zero, List.set_cons_succ, i64_w, i32_w]
                    rfl
                  refine take_ (i := 6) (N := some 24) (v := ?_) (a' := ?_) #[true, true, true, true, true, true, true, false, true, true, true, true, true, false, false, false, false, false, false] rfl rfl (take_ofW HT_.out HW_.out (by kernel_rfl)) (fun _ _ _ h => h) (Or.inl ⟨by rfl, ?_⟩) hHeld ?_ ?_
                  rotate_left
                  · rintro w' ⟨s0, s1, s2, s3⟩
                    go_simp
                    with_reducible rfl
                  rotate_left
                  · simp only [Act.put, List.setIfInBounds_toArray, List.set_cons_zero, List.set_cons_succ, i64_w, i32_w]
                    rfl
                  refine take_ (i := 13) (N := some 31) (v := ?_) (a' := ?_) #[true, true, true, true, true, true, true, false, true, true, true, true, true, true, false, false, false, false, false] rfl rfl (take_ofW HT_.out HW_.out (by kernel_rfl)) (fun _ _ _ h => h) (Or.inl ⟨by rfl, ?_⟩) hHeld ?_ ?_
                  rotate_left
                  · rintro w' ⟨s0, s1, s2, s3⟩
                    go_simp
                    with_reducible rfl
                  rotate_left
                  · simp only [Act.put, List.setIfInBounds_toArray, List.set_cons_zero, List.set_cons_succ, i64_w, i32_w]
                    rfl
                  refine one_ (i := 7) (N := some 25) #[true, true, true, true, true, true, true, true, true, true, true, true, true, true, false, false, false, false, false] rfl rfl (one_of HT_.out (by kernel_rfl)) (by decide) (fun K hK => ?_)
                  refine goes_ Try.func77 (by kernel_rfl) rfl #[.slice (some ad235) t232.length co4, .slice A236_0 ((rd_T57 l0 (rd t232 x14_1)).f0).length c236_0] (by rfl) rfl rfl (by (try simp only [List.map_toArray, List.map_cons, List.map_nil]); first | done | rfl | (simp only [List.length_drop, List.length_take]; rfl)) ?_
                  with_reducible refine (spec_gaPlaces.calls k1 _ _ t232 _ _ ((rd_T57 l0 (rd t232 x14_1)).f0) t237 _ ?side1 ?side2 ?side3 ?side4 A10.out).mono ?_
                  (case side1 => repeat (first | exact (Kd.R_reads' HO_3.out).2.2 | (with_reducible refine Kd.C_alloc ?_ _) | (with_reducible refine Kd.C_drewN ?_ _) | (with_reducible refine Kd.C_drew ?_)))
                  (case side2 => exact (Kd.R_reads' HO_3.out).2.1)
                  (case side3 => repeat (first | exact (Kd.C_below HR236_0.out HB.out) | (with_reducible refine Kd.C_alloc ?_ _) | (with_reducible refine Kd.C_drewN ?_ _) | (with_reducible refine Kd.C_drew ?_)))
                  (case side4 => exact HC236_0.out)
                  rintro e w14 ⟨v238, rfl, ho0, hb⟩
                  refine ⟨_, rfl, ?_⟩
                  have n0_ := Aside0.mk (Kd.R_elder' (by (with_reducible repeat (first | apply Kd.R_alloc | apply Kd.R_drewN | apply Kd.R_drew)); exact HO_3.out) (Kd.R_base ho0) hb)
                  have n1_ := Aside0.mk (Kd.S_elder' (by (with_reducible repeat (first | apply Kd.S_alloc | apply Kd.S_drewN | apply Kd.S_drew)); exact HO_4.out) (Kd.R_base ho0) hb)
                  have n2_ := Aside0.mk (Kd.R_elder' (by (with_reducible repeat (first | apply Kd.R_alloc | apply Kd.R_drewN | apply Kd.R_drew)); exact HO_12.out) (Kd.R_base ho0) hb)
                  have n3_ := Aside0.mk (Kd.R_lower (Kd.R_new' (Kd.R_new' ho0 (Kd.R_lt (by (with_reducible repeat (first | apply Kd.R_alloc | apply Kd.R_drewN | apply Kd.R_drew)); exact HO_3.out))) (Kd.R_lt (by (with_reducible repeat (first | apply Kd.R_alloc | apply Kd.R_drewN | apply Kd.R_drew)); exact HO_12.out))) (below_size (by repeat (first | (with_reducible first | exact HB.out | apply below_alloc | apply pw_below_drewN | apply below_drew1) | exact HB.out))))
                  have n4_ := Aside0.mk (below_step (by repeat (first | (with_reducible first | exact HB.out | apply below_alloc | apply pw_below_drewN | apply below_drew1) | exact HB.out)) hb)
                  clear HO_3
                  clear HO_4
                  clear HO_12
                  clear HB
                  have HO_3 := n0_
                  have HO_4 := n1_
                  have HO_12 := n2_
                  have HO239 := n3_
                  have HB := n4_
                  clear n0_ n1_ n2_ n3_ n4_
                  (try clear hb)
                  (try clear hb2)
                  (try clear hk)
                  (try clear hi)
                  (try clear ho0)
                  refine hK.out _ _ ⟨((HB.out.cell (World.block_lt_of_cell? w _ hw236_0)).trans hw236_0), ((HB.out.cell (World.block_lt_of_cell? w _ hw236_1)).trans hw236_1), ((HB.out.cell (World.block_lt_of_cell? w _ hw240_0)).trans hw240_0), ((HB.out.cell (World.block_lt_of_cell? w _ hw240_1)).trans hw240_1)⟩ (fun hHeld => ?_)
                  clear hK K
                  refine norm_ (a' := ?_) ?_ ?_
                  rotate_left
                  · show Act.put _ (some 25) _ = _
                    simp only [Act.put, List.setIfInBounds_toArray, List.set_cons_zero, List.set_cons_succ, i64_w, i32_w]
                    rfl
                  refine one_ (i := 14) (N := some 32) #[true, true, true, true, true, true, true, true, true, true, true, true, true, true, true, false, false, false, false] rfl rfl (one_of HT_.out (by kernel_rfl)) (by decide) (fun K hK => ?_)
                  refine goes_ Try.func77 (by kernel_rfl) rfl #[.slice (some ad235) t232.length co4, .slice A236_1 ((rd_T57 l0 (rd t232 x14_1)).f1).length c236_1] (by rfl) rfl rfl (by (try simp only [List.map_toArray, List.map_cons, List.map_nil]); first | done | rfl | (simp only [List.length_drop, List.length_take]; rfl)) ?_
                  with_reducible refine (spec_gaPlaces.calls k1 _ _ t232 _ _ ((rd_T57 l0 (rd t232 x14_1)).f1) t241 _ ?side1 ?side2 ?side3 ?side4 A11.out).mono ?_
                  (case side1 => repeat (first | exact (Kd.R_reads' HO_3.out).2.2 | (with_reducible refine Kd.C_alloc ?_ _) | (with_reducible refine Kd.C_drewN ?_ _) | (with_reducible refine Kd.C_drew ?_)))
                  (case side2 => exact (Kd.R_reads' HO_3.out).2.1)
                  (case side3 => repeat (first | exact (Kd.C_below HR240_1.out HB.out) | (with_reducible refine Kd.C_alloc ?_ _) | (with_reducible refine Kd.C_drewN ?_ _) | (with_reducible refine Kd.C_drew ?_)))
                  (case side4 => exact HC240_1.out)
                  rintro e w15 ⟨v242, rfl, ho0, hb⟩
                  refine ⟨_, rfl, ?_⟩
                  have n0_ := Aside0.mk (Kd.R_elder' (by (with_reducible repeat (first | apply Kd.R_alloc | apply Kd.R_drewN | apply Kd.R_drew)); exact HO_3.out) (Kd.R_base ho0) hb)
                  have n1_ := Aside0.mk (Kd.S_elder' (by (with_reducible repeat (first | apply Kd.S_alloc | apply Kd.S_drewN | apply Kd.S_drew)); exact HO_4.out) (Kd.R_base ho0) hb)
                  have n2_ := Aside0.mk (Kd.R_elder' (by (with_reducible repeat (first | apply Kd.R_alloc | apply Kd.R_drewN | apply Kd.R_drew)); exact HO_12.out) (Kd.R_base ho0) hb)
                  have n3_ := Aside0.mk (Kd.R_elder' (by (with_reducible repeat (first | apply Kd.R_alloc | apply Kd.R_drewN | apply Kd.R_drew)); exact HO239.out) (Kd.R_base ho0) hb)
                  have n4_ := Aside0.mk (Kd.R_lower (Kd.R_new' (Kd.R_new' (Kd.R_new' ho0 (Kd.R_lt (by (with_reducible repeat (first | apply Kd.R_alloc | apply Kd.R_drewN | apply Kd.R_drew)); exact HO_3.out))) (Kd.R_lt (by (with_reducible repeat (first | apply Kd.R_alloc | apply Kd.R_drewN | apply Kd.R_drew)); exact HO_12.out))) (Kd.R_lt (by (with_reducible repeat (first | apply Kd.R_alloc | apply Kd.R_drewN | apply Kd.R_drew)); exact HO239.out))) (below_size (by repeat (first | (with_reducible first | exact HB.out | apply below_alloc | apply pw_below_drewN | apply below_drew1) | exact HB.out))))
                  have n5_ := Aside0.mk (below_step (by repeat (first | (with_reducible first | exact HB.out | apply below_alloc | apply pw_below_drewN | apply below_drew1) | exact HB.out)) hb)
                  clear HO_3
                  clear HO_4
                  clear HO_12
                  clear HO239
                  clear HB
                  have HO_3 := n0_
                  have HO_4 := n1_
                  have HO_12 := n2_
                  have HO239 := n3_
                  have HO243 := n4_
                  have HB := n5_
                  clear n0_ n1_ n2_ n3_ n4_ n5_
                  (try clear hb)
                  (try clear hb2)
                  (try clear hk)
                  (try clear hi)
                  (try clear ho0)
                  obtain ⟨Ao16, co16, eo16⟩ := Kd.R_slice HO243.out
                  (first | subst eo16 | (injection eo16 with f1_ f2_ f3_; have f4_ := f1_.symm; have f5_ := f3_.symm; clear f1_ f2_ f3_; subst f4_; subst f5_))
                  obtain ⟨Ao17, co17, eo17⟩ := Kd.R_slice HO239.out
                  (first | subst eo17 | (injection eo17 with f1_ f2_ f3_; have f4_ := f1_.symm; have f5_ := f3_.symm; clear f1_ f2_ f3_; subst f4_; subst f5_))
                  refine hK.out _ _ ⟨((HB.out.cell (World.block_lt_of_cell? w _ hw236_0)).trans hw236_0), ((HB.out.cell (World.block_lt_of_cell? w _ hw236_1)).trans hw236_1), ((HB.out.cell (World.block_lt_of_cell? w _ hw240_0)).trans hw240_0), ((HB.out.cell (World.block_lt_of_cell? w _ hw240_1)).trans hw240_1)⟩ (fun hHeld => ?_)
                  clear hK K
                  refine norm_ (a' := ?_) ?_ ?_
                  rotate_left
                  · show Act.put _ (some 32) _ = _
                    simp only [Act.put, List.setIfInBounds_toArray, List.set_cons_zero, List.set_cons_succ, i64_w, i32_w]
                    rfl
                  refine pure_ (i := 15) (N := some 33) (v := ?_) (a' := ?_) #[true, true, true, true, true, true, true, true, true, true, true, true, true, true, true, true, false, false, false] rfl rfl (any_of HT_.out (by kernel_rfl)) (fun _ _ _ h => h) (Or.inl ⟨by rfl, ?_⟩) ?_ ?_
                  rotate_left
                  · intro w'
                    go_simp
                    with_reducible rfl
                  rotate_left
                  · simp only [Act.put, List.setIfInBounds_toArray, List.set_cons_zero, List.set_cons_succ, i64_w, i32_w]
                    rfl
                  refine one_ (i := 16) (N := some 34) #[true, true, true, true, true, true, true, true, true, true, true, true, true, true, true, true, true, false, false] rfl rfl (one_of HT_.out (by kernel_rfl)) (by decide) (fun K hK => ?_)
                  refine value_ (w1 := ?_) (v := ?_) (by rfl) rfl ?_ ?_
                  rotate_left 2
                  · go_simp
                    constructor
                    · rfl
                    · rfl
                  refine hK.out _ _ ⟨(World.cell?_alloc_lt _ _ _ (World.block_lt_of_cell? _ _ (((HB.out.cell (World.block_lt_of_cell? w _ hw236_0)).trans hw236_0)))).trans (((HB.out.cell (World.block_lt_of_cell? w _ hw236_0)).trans hw236_0)), (World.cell?_alloc_lt _ _ _ (World.block_lt_of_cell? _ _ (((HB.out.cell (World.block_lt_of_cell? w _ hw236_1)).trans hw236_1)))).trans (((HB.out.cell (World.block_lt_of_cell? w _ hw236_1)).trans hw236_1)), (World.cell?_alloc_lt _ _ _ (World.block_lt_of_cell? _ _ (((HB.out.cell (World.block_lt_of_cell? w _ hw240_0)).trans hw240_0)))).trans (((HB.out.cell (World.block_lt_of_cell? w _ hw240_0)).trans hw240_0)), (World.cell?_alloc_lt _ _ _ (World.block_lt_of_cell? _ _ (((HB.out.cell (World.block_lt_of_cell? w _ hw240_1)).trans hw240_1)))).trans (((HB.out.cell (World.block_lt_of_cell? w _ hw240_1)).trans hw240_1))⟩ (fun hHeld => ?_)
                  clear hK K
                  refine norm_ (a' := ?_) ?_ ?_
                  rotate_left
                  · show Act.put _ (some 34) _ = _
                    simp only [Act.put, List.setIfInBounds_toArray, List.set_cons_zero, List.set_cons_succ, i64_w, i32_w]
                    rfl
                  refine one_ (i := 17) (N := some 35) #[true, true, true, true, true, true, true, true, true, true, true, true, true, true, true, true, true, true, false] rfl rfl (one_of HT_.out (by kernel_rfl)) (by decide) (fun K hK => ?_)
                  refine Kd.S_append_step p57 (w0 := w) w.heap.size (by rfl) (.tmp 18) (.tmp 34) 22 57 (.agg #[(.slice none 0 0), (.slice none 0 0)]) 48 rfl Try.underlying22 info57 rfl (by decide) (by omega) u4 x4_1 (⟨t237, t241⟩ : S57) [.slice Ao17 t237.length co17, .slice Ao16 t241.length co16] (fun k_ => some k_ ≠ (.slice (some ad235) t232.length co4 : Value).ownBlock ∧ some k_ ≠ (.slice (some ad235) t232.length co4 : Value).ownBlock) (fun k_ => some k_ = (.slice Ao17 t237.length co17 : Value).ownBlock ∨ some k_ = (.slice Ao16 t241.length co16 : Value).ownBlock) rfl rfl ?aP (fun k_ hk_ => hk_.elim (fun h_ => ((Kd.R_mono (ok' := fun k_ => ((fun k_ => some k_ ≠ (.slice (some ad235) t232.length co4 : Value).ownBlock ∧ some k_ ≠ (.slice (some ad235) t232.length co4 : Value).ownBlock)) k_ ∧ some k_ ≠ (u4 : Value).ownBlock) (Kd.R_apart' (HO239.out) (Kd.S_typed HO_4.out) (by decide)) (fun k_ hk => ⟨⟨hk.1.1.1.2, hk.1.1.2⟩, hk.2⟩))).1 k_ h_.symm) (fun h_ => ((Kd.R_mono (ok' := fun k_ => ((fun k_ => some k_ ≠ (.slice (some ad235) t232.length co4 : Value).ownBlock ∧ some k_ ≠ (.slice (some ad235) t232.length co4 : Value).ownBlock)) k_ ∧ some k_ ≠ (u4 : Value).ownBlock) (Kd.R_apart' (HO243.out) (Kd.S_typed HO_4.out) (by decide)) (fun k_ hk => ⟨⟨hk.1.1.1.2, hk.1.1.2⟩, hk.2⟩))).1 k_ h_.symm)) ?aF ?aO ?aB ?aS ?aL ?_
                  (case aP => exact p57_mkA _ _ _ (⟨t237, t241⟩ : S57) (fun k hk => by have h_ := HO239.out.1 k hk; first | exact h_ | exact h_.2 | exact h_.1.2 | exact h_.1 | exact h_.2.2 | exact h_.2.1 | exact h_.1.1.2) (Kd.R_mono (Kd.R_tight rfl (Kd.R_mono (ok' := fun k_ => ((fun k_ => some k_ ≠ (.slice (some ad235) t232.length co4 : Value).ownBlock ∧ some k_ ≠ (.slice (some ad235) t232.length co4 : Value).ownBlock)) k_ ∧ some k_ ≠ (u4 : Value).ownBlock) (Kd.R_apart' (HO239.out) (Kd.S_typed HO_4.out) (by decide)) (fun k_ hk => ⟨⟨hk.1.1.1.2, hk.1.1.2⟩, hk.2⟩))) (fun _ h_ => Or.inl h_)) (Kd.R_mono (Kd.R_tight rfl (Kd.R_mono (ok' := fun k_ => ((fun k_ => some k_ ≠ (.slice (some ad235) t232.length co4 : Value).ownBlock ∧ some k_ ≠ (.slice (some ad235) t232.length co4 : Value).ownBlock)) k_ ∧ some k_ ≠ (u4 : Value).ownBlock) (Kd.R_apart' (HO243.out) (Kd.S_typed HO_4.out) (by decide)) (fun k_ hk => ⟨⟨hk.1.1.1.2, hk.1.1.2⟩, hk.2⟩))) (fun _ h_ => Or.inr (h_))))
                  (case aB => exact (by repeat (first | (with_reducible first | exact HB.out | apply below_alloc | apply pw_below_drewN | apply below_drew1) | exact HB.out)))
                  (case aF => exact (fun k_ hk => ⟨Kd.fresh' (Kd.R_lt (by (with_reducible repeat (first | apply Kd.R_alloc | apply Kd.R_drewN | apply Kd.R_drew)); exact HO_3.out)) k_ hk, Kd.fresh' (Kd.R_lt (by (with_reducible repeat (first | apply Kd.R_alloc | apply Kd.R_drewN | apply Kd.R_drew)); exact HO_12.out)) k_ hk⟩))
                  (case aO => exact (by (with_reducible repeat (first | apply Kd.S_alloc | apply Kd.S_drewN | apply Kd.S_drew)); exact Kd.S_mono HO_4.out (fun k_ hk => ⟨⟨hk.1.1.1, hk.1.1.2⟩, fun e_ => e_.elim (fun h_ => hk.1.2 h_) (fun h_ => hk.2 h_)⟩)))
                  (case aS => exact (below_size (by repeat (first | (with_reducible first | exact HB.out | apply below_alloc | apply pw_below_drewN | apply below_drew1) | exact HB.out))))
                  (case aL => have := LMc12.out; omega)
                  intro v245 w18 ho hb hg hat
                  rw [← Ny244.out] at ho
                  have n0_ := Aside0.mk (Kd.R_over' (by (with_reducible repeat (first | apply Kd.R_alloc | apply Kd.R_drewN | apply Kd.R_drew)); exact HO_3.out) (Kd.S_typed (by (with_reducible repeat (first | apply Kd.S_alloc | apply Kd.S_drewN | apply Kd.S_drew)); exact HO_4.out)) (by decide) hg)
                  have n1_ := Aside0.mk (Kd.R_over' (by (with_reducible repeat (first | apply Kd.R_alloc | apply Kd.R_drewN | apply Kd.R_drew)); exact HO_12.out) (Kd.S_typed (by (with_reducible repeat (first | apply Kd.S_alloc | apply Kd.S_drewN | apply Kd.S_drew)); exact HO_4.out)) (by decide) hg)
                  have n2_ := Aside0.mk (hb)
                  have n3_ := Aside0.mk (ho)
                  clear HO_3
                  clear HO_12
                  clear HB
                  clear HO_4
                  clear HO239
                  clear HO243
                  have HO_3 := n0_
                  have HO_12 := n1_
                  have HB := n2_
                  have HO246 := n3_
                  clear n0_ n1_ n2_ n3_
                  clear ho hb hg hat
                  refine hK.out _ _ ⟨((HB.out.cell (World.block_lt_of_cell? w _ hw236_0)).trans hw236_0), ((HB.out.cell (World.block_lt_of_cell? w _ hw236_1)).trans hw236_1), ((HB.out.cell (World.block_lt_of_cell? w _ hw240_0)).trans hw240_0), ((HB.out.cell (World.block_lt_of_cell? w _ hw240_1)).trans hw240_1)⟩ (fun hHeld => ?_)
                  clear hK K
                  refine norm_ (a' := ?_) ?_ ?_
                  rotate_left
                  · show Act.put _ (some 35) _ = _
                    simp only [Act.put, List.setIfInBounds_toArray, List.set_cons_zero, List.set_cons_succ, i64_w, i32_w]
                    rfl
                  refine pure_ (i := 18) (N := some 4) (v := ?_) (a' := ?_) #[true, true, true, true, true, true, true, true, true, true, true, true, true, true, true, true, true, true, true] rfl rfl (any_of HT_.out (by kernel_rfl)) (fun _ _ _ h => h) (Or.inl ⟨by rfl, ?_⟩) ?_ ?_
                  rotate_left
                  · intro w'
                    go_simp
                    with_reducible rfl
                  rotate_left
                  · simp only [Act.put, List.setIfInBounds_toArray, List.set_cons_zero, List.set_cons_succ, i64_w, i32_w]
                    rfl
                  refine done_ (done_of HT_.out (by kernel_rfl)) ?_
                  try go_wp2
                  go_roundg k1
                  case measure => have := HK1.out; omega
                  case rel => exact ⟨(y244), (wrap64 (x14_1 + 1)), (by first | rfl | (simp; done) | (simp [*]; done)), H', ⟨by have := HK1.out; omega⟩, ⟨by (with_reducible repeat (first | apply Kd.R_alloc | apply Kd.R_drewN | apply Kd.R_drew)); exact Kd.R_mono HO_3.out (fun _ hk => trivial)⟩, ⟨by (with_reducible repeat (first | apply Kd.S_alloc | apply Kd.S_drewN | apply Kd.S_drew)); exact HO246.out⟩, ⟨by (with_reducible repeat (first | apply Kd.R_alloc | apply Kd.R_drewN | apply Kd.R_drew)); exact Kd.R_mono HO_12.out (fun _ hk => trivial)⟩, ⟨by repeat (first | (with_reducible first | exact HB.out | apply below_alloc | apply pw_below_drewN | apply below_drew1) | exact HB.out)⟩⟩
                · rw [if_neg c12] at H
                  exact absurd H (by simp)
              · rw [if_neg c9] at H
                exact absurd H (by simp)
            · rw [if_neg c8] at H
              exact absurd H (by simp)
          · rw [if_neg c7] at H
            exact absurd H (by simp)
        · rw [if_neg c6] at H
          exact absurd H (by simp)
      · rw [if_neg c5] at H
        have c5b0 : decide (x14_1 < (t232.length : Int)) = false := decide_eq_false c5
        clear c5
        obtain rfl := Option.some.inj H
        go_wp2
        go_ret
        exact ⟨_, by first | rfl | (simp [errW_none, errW_some] <;> rfl) | (simp [*, errW_none, errW_some] <;> rfl), by (with_reducible repeat (first | apply Kd.S_alloc | apply Kd.S_drewN | apply Kd.S_drew)); exact Kd.S_mono HO_4.out (fun _ hk => trivial), by repeat (first | (with_reducible first | exact HB.out | apply below_alloc | apply pw_below_drewN | apply below_drew1) | exact HB.out)⟩
set_option maxHeartbeats 8000000 in
set_option maxRecDepth 100000 in
theorem spec_TrimGame.callsA (k : Nat) (A0 : Option Addr) (c0 : Nat) (l0 : List (S57)) (r1 : List (S57)) (r2 : Bool) (w : World) (hr0 : Kd.C k57 w A0 l0.length l0) (hc0 : l0.length ≤ c0) (h : spec_TrimGame.f k l0 = some (r1, r2)) :
    Calls Try.prog 22 #[.slice A0 l0.length c0] w fun e w' => ∃ v0_ : Value, e = .returned (.tuple #[v0_, .bool r2]) ∧ Kd.S p57 57 w' w.heap.size (fun _ => True) v0_ r1 ∧ Below w.heap.size w w' := by
  have HR0 := Aside0.mk hr0
  have HC0 := Aside0.mk hc0
  clear hr0 hc0
  have HB := Aside0.mk (Below.refl w.heap.size w)
  have H : ((spec_gaGood.f k l0).bind fun t247 => (if t247 = true then ((spec_gaTrim.f k l0).bind fun t248 => (some (t248, true))) else (some (([] : List (S57)), false)))) = some (r1, r2) := h
  clear h
  replace H := Option.bind_eq_some_iff.mp H
  obtain ⟨t247, A20, H⟩ := H
  replace H : (if t247 = true then ((spec_gaTrim.f k l0).bind fun t248 => (some (t248, true))) else (some (([] : List (S57)), false))) = some (r1, r2) := H
  have A2 := Aside0.mk A20
  clear A20
  by_cases c3 : t247 = true
  · subst c3
    have H1 : ((spec_gaTrim.f k l0).bind fun t248 => (some (t248, true))) = some (r1, r2) := by rw [if_pos rfl] at H; exact H
    clear H
    have H := H1
    clear H1
    replace H := Option.bind_eq_some_iff.mp H
    obtain ⟨t248, A40, H⟩ := H
    replace H : (some (t248, true)) = some (r1, r2) := H
    have A4 := Aside0.mk A40
    clear A40
    simp only [Option.some.injEq, Prod.mk.injEq] at H
    obtain ⟨rfl, rfl⟩ := H
    go_enter Try.func22, Try.ntmps22
    go_wp2_with (first | ((with_reducible refine gate_callee (f := 51) rfl ?_); refine goesL_ (some 5) rfl rfl Try.func51 (by kernel_rfl) rfl #[.slice A0 l0.length c0] rfl (by (try simp only [List.map_toArray, List.map_cons, List.map_nil]); first | done | rfl | (simp only [List.length_drop, List.length_take]; rfl)) ?_; (with_reducible refine (spec_gaGood.calls k _ _ l0 true _ ?side1 ?side2 A2.out).mono ?_); (case side1 => repeat (first | exact HR0.out | (with_reducible refine Kd.C_alloc ?_ _) | (with_reducible refine Kd.C_drewN ?_ _) | (with_reducible refine Kd.C_drew ?_))); (case side2 => exact HC0.out); rintro e w5 ⟨rfl, hb⟩; refine ⟨_, rfl, ?_⟩; have n0_ := Aside0.mk (below_step (by repeat (first | (with_reducible first | exact HB.out | apply below_alloc | apply pw_below_drewN | apply below_drew1) | exact HB.out)) hb); clear HB; have HB := n0_; clear n0_; (try clear hb); (try clear hb2); (try clear hk); (try clear hi)) | ((with_reducible refine gate_callee (f := 55) rfl ?_); refine goesL_ (some 8) rfl rfl Try.func55 (by kernel_rfl) rfl #[.slice A0 l0.length c0] rfl (by (try simp only [List.map_toArray, List.map_cons, List.map_nil]); first | done | rfl | (simp only [List.length_drop, List.length_take]; rfl)) ?_; (with_reducible refine (spec_gaTrim.callsA k _ _ l0 t248 _ ?side1 ?side2 A4.out).mono ?_); (case side1 => repeat (first | exact (Kd.C_below HR0.out HB.out) | (with_reducible refine Kd.C_alloc ?_ _) | (with_reducible refine Kd.C_drewN ?_ _) | (with_reducible refine Kd.C_drew ?_))); (case side2 => exact HC0.out); rintro e w6 ⟨v249, rfl, ho0, hb⟩; refine ⟨_, rfl, ?_⟩; have n0_ := Aside0.mk (Kd.S_lower ho0 (below_size (by repeat (first | (with_reducible first | exact HB.out | apply below_alloc | apply pw_below_drewN | apply below_drew1) | exact HB.out)))); have n1_ := Aside0.mk (below_step (by repeat (first | (with_reducible first | exact HB.out | apply below_alloc | apply pw_below_drewN | apply below_drew1) | exact HB.out)) hb); clear HB; have HO250 := n0_; have HB := n1_; clear n0_ n1_; (try clear hb); (try clear hb2); (try clear hk); (try clear hi); (try clear ho0)))
    go_ret2
    exact ⟨_, by first | rfl | (simp [errW_none, errW_some] <;> rfl) | (simp [*, errW_none, errW_some] <;> rfl), by (with_reducible repeat (first | apply Kd.S_alloc | apply Kd.S_drewN | apply Kd.S_drew)); exact HO250.out, by repeat (first | (with_reducible first | exact HB.out | apply below_alloc | apply pw_below_drewN | apply below_drew1) | exact HB.out)⟩
  · replace c3 := Bool.eq_false_iff.mpr c3
    subst c3
    have H1 : (some (([] : List (S57)), false)) = some (r1, r2) := by rw [if_neg (show ¬ (false = true) by decide)] at H; exact H
    clear H
    have H := H1
    clear H1
    simp only [Option.some.injEq, Prod.mk.injEq] at H
    obtain ⟨rfl, rfl⟩ := H
    go_enter Try.func22, Try.ntmps22
    go_wp2_with (first | ((with_reducible refine gate_callee (f := 51) rfl ?_); refine goesL_ (some 5) rfl rfl Try.func51 (by kernel_rfl) rfl #[.slice A0 l0.length c0] rfl (by (try simp only [List.map_toArray, List.map_cons, List.map_nil]); first | done | rfl | (simp only [List.length_drop, List.length_take]; rfl)) ?_; (with_reducible refine (spec_gaGood.calls k _ _ l0 false _ ?side1 ?side2 A2.out).mono ?_); (case side1 => repeat (first | exact HR0.out | (with_reducible refine Kd.C_alloc ?_ _) | (with_reducible refine Kd.C_drewN ?_ _) | (with_reducible refine Kd.C_drew ?_))); (case side2 => exact HC0.out); rintro e w7 ⟨rfl, hb⟩; refine ⟨_, rfl, ?_⟩; have n0_ := Aside0.mk (below_step (by repeat (first | (with_reducible first | exact HB.out | apply below_alloc | apply pw_below_drewN | apply below_drew1) | exact HB.out)) hb); clear HB; have HB := n0_; clear n0_; (try clear hb); (try clear hb2); (try clear hk); (try clear hi)))
    go_ret2
    exact ⟨_, by first | rfl | (simp [errW_none, errW_some] <;> rfl) | (simp [*, errW_none, errW_some] <;> rfl), by first | exact Kd.S_nil _ _ _ _ _ | exact Kd.N_nil _ _ _ _ _ | exact Kd.V_nil _ _ _ _ _ | exact Kd.Q_nil _ _ _ _ _ | exact Kd.R_nil _ _ _ _ _, by repeat (first | (with_reducible first | exact HB.out | apply below_alloc | apply pw_below_drewN | apply below_drew1) | exact HB.out)⟩
section Trim
open Go.Shelf
attribute [local go_sem] Oper.semAt_some
/-- Each position's options lie below it. -/
def jd.Wf (g : List S57) : Prop := g.length ≤ 40 ∧ ∀ i : Nat, ∀ h : i < g.length, (∀ x ∈ (g[i]'h).f0, 0 ≤ x ∧ x < (i : Int)) ∧ ∀ x ∈ (g[i]'h).f1, 0 ≤ x ∧ x < (i : Int)
theorem jd.at {g : List S57} (i : Nat) (h : i < g.length) : rd_T57 g (i : Int) = g[i] := by simp [rd_T57, List.getD_eq_getElem?_getD, List.getElem?_eq_getElem h]
def jd.wfB (g : List S57) : Bool := decide (g.length ≤ 40) && (List.range g.length).all fun i => (rd_T57 g (i : Int)).f0.all (fun x => decide (0 ≤ x) && decide (x < (i : Int))) && (rd_T57 g (i : Int)).f1.all (fun x => decide (0 ≤ x) && decide (x < (i : Int))) && (decide ((rd_T57 g (i : Int)).f0.length ≤ 1048576) && decide ((rd_T57 g (i : Int)).f1.length ≤ 1048576))
theorem jd.wf_of {g : List S57} (h : jd.wfB g = true) : jd.Wf g := by
  unfold jd.wfB at h
  rw [Bool.and_eq_true, decide_eq_true_eq, List.all_eq_true] at h
  refine ⟨h.1, fun i hi => ?_⟩
  have := h.2 i (List.mem_range.2 hi)
  rw [jd.at i hi, Bool.and_eq_true, Bool.and_eq_true, List.all_eq_true, List.all_eq_true] at this
  refine ⟨fun x hx => ?_, fun x hx => ?_⟩
  · have := this.1.1 x hx
    simpa using this
  · have := this.1.2 x hx
    simpa using this
theorem jd.short {g : List S57} (h : jd.wfB g = true) (i : Nat) (hi : i < g.length) : (g[i]'hi).f0.length ≤ 1048576 ∧ (g[i]'hi).f1.length ≤ 1048576 := by
  unfold jd.wfB at h
  rw [Bool.and_eq_true, decide_eq_true_eq, List.all_eq_true] at h
  have := h.2 i (List.mem_range.2 hi)
  rw [jd.at i hi, Bool.and_eq_true, Bool.and_eq_true] at this
  simpa using this.2
/-! #### slices.Backward over the positions -/
def rq.come (n : Nat) (r : Nat) : List (Fin n) := ((List.finRange n).drop r).reverse
theorem rq.come_step (n : Nat) (m : Nat) (h : m < n) : rq.come n m = rq.come n (m + 1) ++ [⟨m, h⟩] := by
  unfold rq.come
  rw [List.drop_eq_getElem_cons (by rw [List.length_finRange]; exact h), List.reverse_cons, List.getElem_finRange]
  rfl
theorem rq.come_len (n : Nat) (r : Nat) : (rq.come n r).length = n - r := by simp [rq.come]
theorem rq.come_top (n : Nat) : rq.come n n = [] := by
  unfold rq.come
  rw [List.drop_of_length_le (by rw [List.length_finRange]; exact Nat.le_refl _)]
  rfl
def rq.encs {n : Nat} (c0 c1 : Fin n → Value) (x : Fin n) : Array Value := #[.int .i64 (x.1 : Int), .agg #[c0 x, c1 x]]
/-- What a round keeps: the iterator's box, and all that lay below the function's start. -/
def rq.Kp (s n0 : Nat) (A B : World) : Prop := B.heap[s]? = A.heap[s]? ∧ ∀ k, k < n0 → B.heap[k]? = A.heap[k]?
theorem rq.Kp.t {s b : Nat} {A B C : World} (h : rq.Kp s b A B) (k : rq.Kp s b B C) : rq.Kp s b A C := ⟨k.1.trans h.1, fun i hi => (k.2 i hi).trans (h.2 i hi)⟩
theorem rq.Kp.b {s n0 : Nat} {w : World} (hs : s < w.heap.size) (hb : n0 ≤ w.heap.size) (W : World) (l : Nat) (o o' : Obj) (hl : w.heap.size ≤ l) (_ : W.heap[l]? = some o) (_ : o.isCells = false) (_ : o.isWalk = false) : rq.Kp s n0 W (W.putObj l o') := ⟨Rf.putObj_ne W l o' s (by omega), fun k hk => Rf.putObj_ne W l o' k (by omega)⟩
theorem rq.cell {A B : World} {a : Addr} (h : B.heap[a.block]? = A.heap[a.block]?) : B.cell? a = A.cell? a := by unfold World.cell?; rw [h]
set_option maxRecDepth 100000 in
set_option maxHeartbeats 2000000 in
theorem rq.back1 (nf : Nat) (hn : 1 ≤ nf) (l Bs n cap n0 : Nat) (ad : Addr) (c0 c1 : Fin n → Value) (h40 : n ≤ 40) (J Jx : List (Fin n) → World → Prop)
    (hY : ∀ pre x W, J pre W → pre.length < n → YieldAt Fence.wide (nf - 1) Try.prog l (rq.encs c0 c1 x) W fun e W' =>
      (e = .returned (.bool true) ∧ J (pre ++ [x]) W' ∧ rq.Kp Bs n0 W W') ∨ (e = .returned (.bool false) ∧ Jx (pre ++ [x]) W'))
    (W : World) (hBs : W.cell? ⟨Bs, 0, none⟩ = some (.slice (some ad) n cap)) (hc0 : ∀ j (h : j < n), W.cell? (ad.add (j * 2)) = some (c0 ⟨j, h⟩)) (hc1 : ∀ j (h : j < n), W.cell? ⟨(ad.add (j * 2)).block, (ad.add (j * 2)).off + 1, none⟩ = some (c1 ⟨j, h⟩)) (hlow : ∀ j, j < n → (ad.add (j * 2)).block < n0) (h0 : J [] W) :
    CallsIn Fence.wide nf Try.prog 97 #[.func (.yield l) #[] #[], .pointer (some ⟨Bs, 0, none⟩)] W fun e W' => (∃ v, e = .returned v) ∧
      ((∃ ys, ys = rq.come n 0 ∧ J ys W') ∨ (∃ pre, True ∧ Jx pre W')) := by
  refine callsIn_of_wp Try.func97 rfl trivial ?_ rfl
  simp only [Try.ntmps97, List.size_toArray, List.length_cons, List.length_nil, Nat.reduceAdd, Nat.reduceSub, Array.replicate_succ, Array.replicate_zero, List.push_toArray, List.append_toArray, List.nil_append, List.cons_append]
  have hw0 : wrap64 ((n : Int) - 1) = (n : Int) - 1 := by unfold wrap64; omega
  have hu57 := Try.underlying57
  gi_wp2
  gi_loopw [3] (fun i wr => ∃ r : Nat, r ≤ n ∧ i = .int .i64 ((r : Int) - 1) ∧ J (rq.come n r) wr ∧ rq.Kp Bs n0 W wr)
    (fun i _ => (intOf i + 1).toNat)
  case atStart => exact ⟨n, Nat.le_refl _, by first | rfl | rw [hw0], by rw [rq.come_top]; exact h0, rfl, fun _ _ => rfl⟩
  case round =>
    obtain ⟨r, hr, rfl, hJs, hk1, hk2⟩ := hrel
    have hBr : wr.cell? ⟨Bs, 0, none⟩ = some (.slice (some ad) n cap) := (rq.cell hk1).trans hBs
    cases r with
    | zero =>
      have e : (((0 : Nat) : Int) - 1) = -1 := rfl
      rw [e]
      gi_wp2
      go_end0
      exact ⟨⟨_, rfl⟩, .inl ⟨_, rfl, hJs⟩⟩
    | succ m =>
      have e : (((m + 1 : Nat) : Int) - 1) = (m : Int) := by omega
      rw [e]
      have hx0 : wr.cell? (ad.add (m * 2)) = some (c0 ⟨m, by omega⟩) := (rq.cell (hk2 _ (hlow m (by omega)))).trans (hc0 m (by omega))
      have hx1 : wr.cell? ⟨(ad.add (m * 2)).block, (ad.add (m * 2)).off + 1, none⟩ = some (c1 ⟨m, by omega⟩) := (rq.cell (a := ⟨(ad.add (m * 2)).block, (ad.add (m * 2)).off + 1, none⟩) (hk2 _ (hlow m (by omega)))).trans (hc1 m (by omega))
      have hge : decide ((0 : Int) ≤ (m : Int)) = true := decide_eq_true (by omega)
      have hlt : (m : Int) < (n : Int) := by omega
      obtain ⟨fn, tmps, assign, body, hy, hR⟩ := hY _ ⟨m, by omega⟩ wr hJs (by rw [rq.come_len]; omega)
      dsimp only [rq.encs] at hy
      gi_wp2
      refine hR.mono ?_
      rintro e W3 (⟨rfl, hJ3, hk3⟩ | ⟨rfl, hJx3⟩)
      · have hw1 : wrap64 ((m : Int) - 1) = (m : Int) - 1 := by unfold wrap64; omega
        gi_wp2
        go_roundw
        case rel => exact ⟨m, by clear hw1; omega, by first | rfl | rw [hw1], by rw [rq.come_step n m (by clear hw1; omega)]; exact hJ3, (show rq.Kp Bs n0 W wr from ⟨hk1, hk2⟩).t hk3⟩
        case measure => first | (simp [intOf]; done) | (simp [intOf]; rw [hw1]; clear hw1; omega)
      · gi_wp2
        refine bodyPost_ret (results_none rfl _ _ _) rfl ?_
        exact ⟨⟨_, rfl⟩, .inr ⟨_, trivial, hJx3⟩⟩
/-! #### rows of flags and of numbers, read and written in place -/
theorem tr.elemB {W : World} {base g n c : Nat} {ok : Nat → Prop} {L : List Bool} (h : Kd.R Kd.bool 4 W base ok (.slice (some ⟨g, 0, none⟩) n c) L) (k : Nat) (hk : k < n) : W.cell? ⟨g, k, none⟩ = some (.bool (L.getD k false)) ∧ W.frozen? ⟨g, k, none⟩ = false := by
  obtain ⟨cs, hcl, hM, hcc, hfr⟩ := Kd.R_elem h false (k : Int) (by omega) (by omega)
  rw [Int.toNat_natCast] at hM hcc hfr
  have hM' : cs = [.bool (L.getD k false)] := hM
  subst hM'
  have h1 := hcc 0 _ rfl
  have h2 := hfr 0
  simp only [show Kd.bool.sz = 1 from rfl, Nat.mul_one, Nat.add_zero] at h1 h2
  exact ⟨h1, h2⟩
theorem tr.putB {W : World} {base g n c : Nat} {ok : Nat → Prop} {L : List Bool} (h : Kd.R Kd.bool 4 W base ok (.slice (some ⟨g, 0, none⟩) n c) L) (k : Nat) (hk : k < n) (b : Bool) : Kd.R Kd.bool 4 (W.setCell ⟨g, k, none⟩ (.bool b)) base ok (.slice (some ⟨g, 0, none⟩) n c) (L.set k b) := by
  obtain ⟨cs, hcl, hM, hcc, hfr⟩ := Kd.R_elem h false (k : Int) (by omega) (by omega)
  have h1 := Kd.R_seg h (k : Int) (by omega) (by omega) (c := cs) (seg := [.bool b]) (j := 0) (x' := b) (okp := fun _ => False) hcl hcc (Nat.le_refl _) (by
    have e : cs.drop (0 + [Value.bool b].length) = [] := List.drop_of_length_le (by rw [hcl]; exact Nat.le_refl _)
    show cs.take 0 ++ [Value.bool b] ++ cs.drop (0 + [Value.bool b].length) = [Value.bool b]
    rw [e]
    rfl) (fun _ hk => hk.elim)
  rw [Int.toNat_natCast] at h1
  have e2 : k * Kd.bool.sz + 0 = k := by show k * 1 + 0 = k; omega
  rw [e2] at h1
  exact h1.1
theorem tr.elemI {W : World} {base g n c : Nat} {ok : Nat → Prop} {L : List Int} (h : Kd.R (Kd.int .i64) 3 W base ok (.slice (some ⟨g, 0, none⟩) n c) L) (k : Nat) (hk : k < n) : W.cell? ⟨g, k, none⟩ = some (.int .i64 (L.getD k 0)) ∧ W.frozen? ⟨g, k, none⟩ = false := by
  obtain ⟨cs, hcl, hM, hcc, hfr⟩ := Kd.R_elem h (0 : Int) (k : Int) (by omega) (by omega)
  rw [Int.toNat_natCast] at hM hcc hfr
  have hM' : cs = [.int .i64 (L.getD k 0)] := hM
  subst hM'
  have h1 := hcc 0 _ rfl
  have h2 := hfr 0
  simp only [show (Kd.int .i64).sz = 1 from rfl, Nat.mul_one, Nat.add_zero] at h1 h2
  exact ⟨h1, h2⟩
theorem tr.putI {W : World} {base g n c : Nat} {ok : Nat → Prop} {L : List Int} (h : Kd.R (Kd.int .i64) 3 W base ok (.slice (some ⟨g, 0, none⟩) n c) L) (k : Nat) (hk : k < n) (b : Int) : Kd.R (Kd.int .i64) 3 (W.setCell ⟨g, k, none⟩ (.int .i64 b)) base ok (.slice (some ⟨g, 0, none⟩) n c) (L.set k b) := by
  obtain ⟨cs, hcl, hM, hcc, hfr⟩ := Kd.R_elem h (0 : Int) (k : Int) (by omega) (by omega)
  have h1 := Kd.R_seg h (k : Int) (by omega) (by omega) (c := cs) (seg := [.int .i64 b]) (j := 0) (x' := b) (okp := fun _ => False) hcl hcc (Nat.le_refl _) (by
    have e : cs.drop (0 + [Value.int .i64 b].length) = [] := List.drop_of_length_le (by rw [hcl]; exact Nat.le_refl _)
    show cs.take 0 ++ [Value.int .i64 b] ++ cs.drop (0 + [Value.int .i64 b].length) = [Value.int .i64 b]
    rw [e]
    rfl) (fun _ hk => hk.elim)
  rw [Int.toNat_natCast] at h1
  have e2 : k * (Kd.int .i64).sz + 0 = k := by show k * 1 + 0 = k; omega
  rw [e2] at h1
  exact h1.1
theorem tr.grown_set (w : World) (p : Addr) (u : Value) : w.grownBy (w.setCell p u) (some p.block) := ⟨rfl, rfl, rfl, by simp [World.setCell], fun k _ hk => Below.heap_setCell w p u k (fun e => hk (by rw [e]))⟩
/-! #### trimmed: the flags -/
def tr.mark1 (i : Nat) (L : List Bool) (k : Int) : List Bool := L.set k.toNat (L.getD k.toNat false || L.getD i false)
def tr.mark (g : List S57) (L : List Bool) (i : Nat) : List Bool := ((rd_T57 g (i : Int)).f0 ++ (rd_T57 g (i : Int)).f1).foldl (tr.mark1 i) L
theorem tr.mark1_len (i : Nat) (L : List Bool) (k : Int) : (tr.mark1 i L k).length = L.length := by simp [tr.mark1]
theorem tr.fold_len (i : Nat) : ∀ (ks : List Int) (L : List Bool), (ks.foldl (tr.mark1 i) L).length = L.length
  | [], _ => rfl
  | k :: ks, L => by rw [List.foldl_cons, tr.fold_len i ks, tr.mark1_len]
theorem tr.mark_len (g : List S57) (L : List Bool) (i : Nat) : (tr.mark g L i).length = L.length := tr.fold_len i _ L
def tr.flags0 (n : Nat) : List Bool := (List.replicate n false).set (n - 1) true
def tr.flags (g : List S57) : List Bool := (rq.come g.length 0).foldl (fun L x => tr.mark g L x.1) (tr.flags0 g.length)
theorem tr.info4 : (Try.prog.info? 4).map (fun i => (i.zero, i.size, i.bytes)) = some (some (.bool false), 1, 1) := by kernel_rfl
theorem tr.info3 : (Try.prog.info? 3).map (fun i => (i.zero, i.size, i.bytes)) = some (some (.int .i64 0), 1, 8) := by kernel_rfl
theorem rq.back (A : Option Addr) (len cap : Nat) (w : World) : Calls Try.prog 78 #[.slice A len cap] w fun e w' => e = .returned (.func (.func 97) #[] #[.pointer (some ⟨w.heap.size, 0, none⟩)]) ∧ w' = w.alloc (.cells #[.slice A len cap] 22) := by
  go_enter Try.func78, Try.ntmps78
  go_wp2
  go_ret
  exact ⟨rfl, rfl⟩
/-- What a round knows: the flags' box and row, the iterator's box. -/
structure tr.J (w : World) (b3 rB cB n sB : Nat) (so : Obj) (L : List Bool) (W : World) : Prop where
  b : W.heap[b3]? = some (.cells #[.slice (some ⟨rB, 0, none⟩) n cB] 96 (0, 0))
  r : Kd.R Kd.bool 4 W w.heap.size (fun _ => True) (.slice (some ⟨rB, 0, none⟩) n cB) L
  s : W.heap[sB]? = some so
  B : Below w.heap.size w W
theorem tr.J.grown {w : World} {b3 rB cB n sB : Nat} {so : Obj} {L : List Bool} {W W' : World} {row : Option Nat} (h : tr.J w b3 rB cB n sB so L W) (hg : W.grownBy W' row) (hrow : ∀ r, row = some r → w.heap.size ≤ r ∧ r ≠ b3 ∧ r ≠ rB ∧ r ≠ sB) : tr.J w b3 rB cB n sB so L W' :=
  ⟨blk_grown h.b hg (fun e => (hrow _ e.symm).2.1 rfl), Kd.R_grown1 h.r rfl hg (fun e => by cases hr : row with
    | none => rw [hr] at e; cases e
    | some r => rw [hr] at e; injection e with e; exact (hrow r hr).2.2.1 e), blk_grown h.s hg (fun e => (hrow _ e.symm).2.2.2 rfl), h.B.grown hg h.B.size (fun k e => (hrow k e).1)⟩
theorem tr.J.below {w : World} {b3 rB cB n sB : Nat} {so : Obj} {L : List Bool} {W W' : World} (h : tr.J w b3 rB cB n sB so L W) (hb : Below W.heap.size W W') : tr.J w b3 rB cB n sB so L W' :=
  h.grown (grown_of_below hb none) (fun r e => by cases e)
theorem tr.J.from {w : World} {b3 rB cB n sB : Nat} {so : Obj} {N : Nat} {β : Type} {G : List β → List Bool} (hN : w.heap.size ≤ N) (h1 : b3 < N) (h2 : rB < N) (h3 : sB < N) : OwnFrom N (fun (pre : List β) W => tr.J w b3 rB cB n sB so (G pre) W) := by
  intro pre W W' row h hg hr
  exact h.grown hg (fun r e => by have := (hr r e).1; omega)
theorem tr.J.put {w : World} {b3 rB cB n sB : Nat} {so : Obj} {L : List Bool} {W : World} (h : tr.J w b3 rB cB n sB so L W) (h1 : rB ≠ b3) (h2 : rB ≠ sB) (hb : w.heap.size ≤ rB) (k : Nat) (hk : k < n) (b : Bool) : tr.J w b3 rB cB n sB so (L.set k b) (W.setCell ⟨rB, k, none⟩ (.bool b)) :=
  have hg := tr.grown_set W ⟨rB, k, none⟩ (.bool b)
  ⟨blk_grown h.b hg (fun e => h1 (Option.some.inj e).symm), tr.putB h.r k hk b, blk_grown h.s hg (fun e => h2 (Option.some.inj e).symm), h.B.grown hg h.B.size (fun k e => by cases e; exact hb)⟩
theorem rq.Kp.of_below {s n0 : Nat} {A B : World} (h : Below A.heap.size A B) (hs : s < A.heap.size) (hn : n0 ≤ A.heap.size) : rq.Kp s n0 A B := ⟨h.block s hs, fun k hk => h.block k (by omega)⟩
theorem tr.keeps {W W' : World} (h : Below W.heap.size W W') : KeepsOthers W W' := ⟨h.size, fun k o hk _ => (h.block k (blk_lt hk)).trans hk⟩
theorem rq.still_tail {lr m id : Nat} {P : Program} {Q : Exit → Act → World → Prop} {a : Act} {w : World} {l : List Oper} (n : Nat) (hm : P.follows .mixedOrders = true) (hdf : l.all (fun o => match o.op with | .defer _ => false | _ => true) = true) (hQ : ¬ LetsOut Q) (hB : Region.lexTailB .any l.toArray n = true)
    (h : wpStill P l.toArray w.drew (fun a' => wpList P l.toArray Q (l.drop n) a' w.drew) (l.take n) a) : (Code.region id l.toArray true).wpIn (Fence.wide.inRound lr) m P Q a w := by
  have hd : ∀ o ∈ l.toArray.toList, ∀ c, o.op ≠ .defer c := by
    intro o ho c e
    have := List.all_eq_true.1 hdf o (by simpa using ho)
    rw [e] at this
    cases this
  simp only [Region.lexTailB, Bool.and_eq_true, decide_eq_true_eq] at hB
  obtain ⟨⟨⟨⟨hsel, hn⟩, hs⟩, hc⟩, hlex⟩ := hB
  have hn' : n < l.length := by simpa using hn
  have htl : (l.take n).length = n := by simp; omega
  have hdl : (l.drop n).length = l.toArray.size - n := by simp
  have inv0 : HeadInv .any l.toArray n (Array.replicate l.toArray.size false) :=
    ⟨by simp, fun j oj _ hl => (by rw [getD_replicate_false] at hl; cases hl), fun t _ ht => getD_in (by simpa using ht) (getD_replicate_false _ _)⟩
  have H := wpAnyL_lex (md := .any) (g := l.toArray.size - n) hsel hs hc hn (l.take n) 0 _ a (fun j hj => by
    have hj' : j < n := by rw [htl] at hj; exact hj
    simp [hj']) (by simpa using htl) inv0 (by rw [htl]; exact hlex) h
  have H2 := wpAny_of_head (Q' := Q) (g := l.toArray.size - n) (fun listed a' hL => by
    have := wpAny_of_seq (md := .any) (Q' := Q) (l.drop n) n listed a' { w with drawn := w.drawn + 1 } (fun j => by simp [List.getElem?_drop]) (by rw [hdl]; exact hL.1) hL.2
    rwa [hdl] at this) _ _ _ H
  rw [htl, show n + (l.toArray.size - n) = l.toArray.size by omega] at H2
  exact wpIn_region_any hm (Rf.opsIn hd hQ _ _ _ _ H2)
theorem tr.two {W : World} {b : Nat} {A0 A1 : Option Addr} {c0 c1 : Nat} {l0 l1 : List Int} (h : W.heap[b]? = some (.cells #[.slice A0 l0.length c0, .slice A1 l1.length c1] 36 (0, 0))) (h0 : l0.length ≤ c0) (h1 : l1.length ≤ c1) (C0 : Kd.C (Kd.int .i64) W A0 l0.length l0) (C1 : Kd.C (Kd.int .i64) W A1 l1.length l1) : Kd.C (Kd.slice 3 (Kd.int .i64)) W (some ⟨b, 0, none⟩) 2 [l0, l1] := by
  refine ⟨rfl, by decide, fun _ => ⟨⟨b, 0, none⟩, rfl, fun j p hj => ?_⟩⟩
  cases j with
  | zero =>
    obtain rfl : l0 = p := by simpa using hj
    refine ⟨[.slice A0 l0.length c0], rfl, ⟨A0, c0, rfl, h0, C0⟩, fun i u hu => ?_⟩
    rw [add_at]
    have hc := blk_cell h i
    cases i with
    | zero => simp at hu; subst hu; exact hc.trans rfl
    | succ i => simp at hu
  | succ j => cases j with
    | zero =>
      obtain rfl : l1 = p := by simpa using hj
      refine ⟨[.slice A1 l1.length c1], rfl, ⟨A1, c1, rfl, h1, C1⟩, fun i u hu => ?_⟩
      rw [add_at]
      cases i with
      | zero => simp at hu; subst hu; exact (blk_cell h 1).trans rfl
      | succ i => simp at hu
    | succ j => simp at hj
theorem tr.cat2 (a b : List Int) (ha : a.length ≤ 1048576) (hb : b.length ≤ 1048576) : slices_Concat_int_int.f 8 [a, b] = some (a ++ b) := by
  have w1 : wrap64 (a.length : Int) = (a.length : Int) := by unfold wrap64; omega
  have w2 : wrap64 ((a.length : Int) + (b.length : Int)) = (a.length : Int) + (b.length : Int) := by unfold wrap64; omega
  have w3 : wrap64 1 = 1 := by unfold wrap64; omega
  have w4 : wrap64 2 = 2 := by unfold wrap64; omega
  have r0 : rd_L1 [a, b] 0 = a := rfl
  have r1 : rd_L1 [a, b] 1 = b := rfl
  have n1 : ¬ ((a.length : Int) < 0) := by omega
  have n2 : ¬ ((a.length : Int) + (b.length : Int) < 0) := by omega
  have n3 : (0 : Int) ≤ (a.length : Int) + (b.length : Int) ∧ (a.length : Int) + (b.length : Int) < 17592186044416 := by omega
  have n4 : a.length < 17592186044416 := by omega
  have n5 : a.length + b.length < 17592186044416 := by omega
  simp [slices_Concat_int_int.f, slices_Concat_int_int.l0, slices_Concat_int_int.l1, r0, r1, w1, w2, w3, w4, n1, n2, n3, n4, n5]
/-! #### renamed: each number's place -/
theorem tr.empty {w : World} {base g : Nat} {ok : Nat → Prop} (h : w.heap[g]? = some (.cells #[] 3 (0, 0))) (hb : base ≤ g) (hok : ok g) : Kd.R (Kd.int .i64) 3 w base ok (.slice (some ⟨g, 0, none⟩) 0 0) [] :=
  ⟨fun k hk => by have e : g = k := by simpa [Value.ownBlock] using hk
                  exact e ▸ hok, [], ⟨rfl, .inr ⟨g, 0, #[], rfl, hb, h, Nat.le_refl _, Nat.zero_le _, rfl, rfl⟩⟩, rfl, fun j p hj => by cases hj⟩
def tr.name (P : List Int) (k : Int) : Int := P.getD k.toNat 0
set_option maxHeartbeats 1000000 in
set_option maxRecDepth 100000 in
theorem tr.ren (ks P : List Int) (pb pB n cP base : Nat) (ok : Nat → Prop) (A : Option Addr) (c : Nat) (w : World) (hb : w.heap[pb]? = some (.cells #[.slice (some ⟨pB, 0, none⟩) n cP] 36 (0, 0))) (hR : Kd.R (Kd.int .i64) 3 w base ok (.slice (some ⟨pB, 0, none⟩) n cP) P) (hn : n ≤ 40) (hks : ∀ k ∈ ks, 0 ≤ k ∧ k < (n : Int)) (hC : Kd.C (Kd.int .i64) w A ks.length ks) (hc : ks.length ≤ c) (hl : ks.length ≤ 1048576) :
    Calls Try.prog 79 #[.slice A ks.length c, .pointer (some ⟨pb, 0, none⟩)] w fun e w' => ∃ v, e = .returned v ∧ Kd.R (Kd.int .i64) 3 w' w.heap.size (fun _ => True) v (ks.map (tr.name P)) ∧ Below w.heap.size w w' := by
  have HC := Aside0.mk hC
  have HR := Aside0.mk hR
  have HBX := Aside0.mk hb
  clear hC hR hb
  go_enter Try.func79, Try.ntmps79
  go_wp2
  go_loopg [4, 10] ks.length (fun gg s4 s10 wr => ∃ j : Nat, j ≤ ks.length ∧ ks.length - j ≤ gg ∧ s10 = .int .i64 (j : Int) ∧ Aside0 (Kd.R (Kd.int .i64) 3 wr w.heap.size (fun _ => True) s4 ((ks.take j).map (tr.name P))) ∧ Aside0 (Below w.heap.size w wr))
  case atStart => exact ⟨0, Nat.zero_le _, by omega, rfl, ⟨tr.empty (heap_alloc_new w _) (Nat.le_refl _) trivial⟩, ⟨(Below.refl w.heap.size w).alloc (Nat.le_refl _) _⟩⟩
  case round =>
    obtain ⟨j, hj, hgg, rfl, HV, HB⟩ := hrel
    obtain ⟨A4, c4, rfl⟩ := Kd.R_slice HV.out
    by_cases hjl : j < ks.length
    · cases gk with
      | zero => omega
      | succ k1 =>
      have hltz : (j : Int) < (ks.length : Int) := by omega
      have hjz : (0 : Int) ≤ (j : Int) := Int.natCast_nonneg _
      obtain ⟨ac, e0, hxc⟩ := Kd.at_int (Kd.C_below HC.out HB.out) (j : Int) hjz hltz
      cases e0
      rw [Int.toNat_natCast] at hxc
      have hrd : rd ks (j : Int) = ks[j] := by simp [rd, List.getD_eq_getElem?_getD, List.getElem?_eq_getElem hjl]
      rw [hrd] at hxc
      have hm := hks ks[j] (List.getElem_mem hjl)
      have htk : (ks.take (j + 1)).map (tr.name P) = (ks.take j).map (tr.name P) ++ [tr.name P ks[j]] := by rw [List.take_succ_eq_append_getElem hjl, List.map_append]; rfl
      have hlj : ((ks.take j).map (tr.name P)).length = j := by rw [List.length_map, List.length_take]; omega
      rw [hlj] at HV ⊢
      generalize (ks.take j).map (tr.name P) = ys at HV htk hlj
      generalize ks[j] = y at hxc hm htk
      obtain ⟨k, rfl⟩ : ∃ k : Nat, y = (k : Int) := ⟨y.toNat, by omega⟩
      have hkn : k < n := by omega
      have hkz : (k : Int) < (n : Int) := by omega
      have hkz0 : (0 : Int) ≤ (k : Int) := Int.natCast_nonneg _
      have q0 := (blk_cell (blk_below HBX.out HB.out) 0).trans rfl
      obtain ⟨q1, _⟩ := tr.elemI (Kd.R_below HR.out HB.out) k hkn
      have hnm : P.getD k 0 = tr.name P (k : Int) := by unfold tr.name; rw [Int.toNat_natCast]
      rw [hnm] at q1
      generalize tr.name P (k : Int) = z at q1 htk
      have HTK := Aside0.mk htk
      have HL := Aside0.mk hlj
      have HKS := Aside0.mk hks
      clear htk hlj hnm hm hks
      go_wp2_with (first | ((with_reducible refine gate_builtin (b := .append) (xs := #[.tmp 14, .tmp 19]) rfl ?_); at_builtin; refine Kd.R_append (Kd.int .i64) (w0 := w) w.heap.size rfl (.tmp 14) (.tmp 19) 36 3 (.int .i64 0) 8 rfl Try.underlying36 tr.info3 rfl (by decide) (by omega) (.slice A4 j c4) ys z [.int .i64 z] (fun _ => True) (fun _ => False) rfl rfl ?aP (fun _ hk => hk.elim) ?aF ?aO ?aB ?aS ?aL ?_; (case aP => exact rfl); (case aB => exact HB.out); (case aF => exact fun _ _ => trivial); (case aO => exact HV.out); (case aS => exact below_size HB.out); (case aL => have := HL.out; omega); intro v6 w6 ho hb6 hg hat; have n0_ := Aside0.mk ho; have n1_ := Aside0.mk hb6; clear HV HB ho hb6 hg hat q0 q1 hxc; have HV := n0_; have HB := n1_; clear n0_ n1_))
      go_roundg k1
      case measure => omega
      case rel => exact ⟨j + 1, by omega, by omega, congrArg (Value.int .i64) (by omega), by rw [HTK.out]; exact HV, HB⟩
    · have hltz : ¬ (j : Int) < (ks.length : Int) := by omega
      obtain rfl : j = ks.length := by omega
      rw [List.take_length] at HV ⊢
      generalize hys : ks.map (tr.name P) = ys at HV
      have hyl : ys.length = ks.length := by rw [← hys, List.length_map]
      rw [hyl] at HV
      go_wp2
      go_ret
      exact ⟨_, rfl, hys ▸ HV.out, HB.out⟩
theorem tr.empty57 {w : World} {base g : Nat} {ok : Nat → Prop} (h : w.heap[g]? = some (.cells #[] 57 (0, 0))) (hb : base ≤ g) (hok : ok g) : Kd.S p57 57 w base ok (.slice (some ⟨g, 0, none⟩) 0 0) [] :=
  ⟨fun _ => 0, fun k hk => (show g = k by simpa [Value.ownBlock] using hk) ▸ hok, [], ⟨rfl, .inr ⟨g, 0, #[], rfl, hb, h, Nat.le_refl _, Nat.zero_le _, rfl, rfl⟩⟩, rfl, fun j p hj => by cases hj⟩
theorem tr.farD {W : World} {D base : Nat} {o o' : Obj} {u : Value} {l : List S57} {ok : Nat → Prop} (ho : W.heap[D]? = some o) (hn : o.isCells = false) (h : Kd.S p57 57 W base ok u l) : Kd.S p57 57 (W.putObj D o') base ok u l := by
  refine Kd.S_mono (Kd.S_step (Kd.S_bound h) (fun k hk hlt => Rf.putObj_ne W D o' k (fun e => ?_))) (fun _ hk => hk.1)
  obtain ⟨_, _, _, q, hq, cs, hc⟩ := hk
  subst e
  rw [ho] at hc
  cases hc
  cases hn
theorem tr.apart {W : World} {base b0 c0 pB : Nat} {u : Value} {l : List Int} {ov : Option Nat} (h : Kd.R (Kd.int .i64) 3 W b0 (fun _ => True) u l) (hc : c0 ≤ b0) (hs : base ≤ b0) (hp : pB < b0) (ho : ∀ k, ov = some k → k < b0) : Kd.R (Kd.int .i64) 3 W base (fun k => k ≠ pB ∧ some k ≠ ov ∧ c0 ≤ k) u l :=
  Kd.R_mono (Kd.R_lower (Kd.R_bound h) hs) (fun k hk => ⟨by have := hk.2.1; omega, fun e => by have := ho k e.symm; have := hk.2.1; omega, by have := hk.2.1; omega⟩)
def tr.r18.T : Bool × List (List Nat × List Nat) := (true, [([], []), ([], []), ([], []), ([2], [2]), ([1, 3], [1, 3]), ([], []), ([], []), ([6], [6]), ([5, 7, 4], [5, 7]), ([4, 8], [4, 8]), ([9], [9]), ([0, 10, 8], [0, 10]), ([11, 11, 0, 1, 2, 3, 4, 5, 6, 7, 8, 9, 10, 11], [0, 11])])
def tr.r18.B : List Nat := [0, 0, 0, 4, 14, 0, 0, 64, 254, 510, 1022, 2047, 4095]
theorem tr.r18.tab : rtab .any (opsOf Try.f56 18) = tr.r18.T := by kernel_rfl
theorem tr.r18.bits : waitsOk tr.r18.T.2 tr.r18.B = true := by kernel_rfl

def tr.only (Q : Exit → Act → World → Prop) : Exit → Act → World → Prop
  | .normal, a, w => Q .normal a w
  | _, _, _ => False
theorem tr.only_wp {P : Program} {c : Code} {Q : Exit → Act → World → Prop} {a : Act} {w : World} (h : c.wp P (tr.only Q) a w) : c.wp P Q a w := wp_mono h (fun e a w h => by cases e <;> first | exact h | exact h.elim)
theorem tr.only_now {Q : Exit → Act → World → Prop} {a : Act} {w : World} (h : Q .normal a w) : tr.only Q .normal a w := h
def tr.st (g : List S57) (F : List Bool) (s : List Int × List S57) (i : Nat) : List Int × List S57 :=
  if F.getD i false = true then (s.1.set i (s.2.length : Int), s.2 ++ [⟨(rd_T57 g (i : Int)).f0.map (tr.name (s.1.set i (s.2.length : Int))), (rd_T57 g (i : Int)).f1.map (tr.name (s.1.set i (s.2.length : Int)))⟩]) else s
def tr.go (g : List S57) (F : List Bool) (j : Nat) : List Int × List S57 := (List.range j).foldl (tr.st g F) (List.replicate g.length 0, [])
def tr.out (g : List S57) : List S57 := (tr.go g (tr.flags g) g.length).2
theorem tr.go_step (g : List S57) (F : List Bool) (j : Nat) : tr.go g F (j + 1) = tr.st g F (tr.go g F j) j := by
  unfold tr.go
  rw [List.range_succ, List.foldl_append]
  rfl
theorem tr.go_len (g : List S57) (F : List Bool) : ∀ j, (tr.go g F j).2.length ≤ j ∧ (tr.go g F j).1.length = g.length
  | 0 => ⟨Nat.le_refl _, List.length_replicate⟩
  | j + 1 => by
    obtain ⟨h1, h2⟩ := tr.go_len g F j
    rw [tr.go_step]
    unfold tr.st
    split
    · simp only [List.length_append, List.length_set, List.length_cons, List.length_nil]
      omega
    · exact ⟨by omega, h2⟩
structure tr.K (w : World) (b3 rB cB n pb pB cP : Nat) (F : List Bool) (P : List Int) (W : World) : Prop where
  fb : W.heap[b3]? = some (.cells #[.slice (some ⟨rB, 0, none⟩) n cB] 96 (0, 0))
  fr : Kd.R Kd.bool 4 W w.heap.size (fun _ => True) (.slice (some ⟨rB, 0, none⟩) n cB) F
  pb : W.heap[pb]? = some (.cells #[.slice (some ⟨pB, 0, none⟩) n cP] 36 (0, 0))
  pr : Kd.R (Kd.int .i64) 3 W w.heap.size (fun _ => True) (.slice (some ⟨pB, 0, none⟩) n cP) P
  B : Below w.heap.size w W
theorem tr.K.grown {w : World} {b3 rB cB n pb pB cP : Nat} {F : List Bool} {P : List Int} {W W' : World} {row : Option Nat} (h : tr.K w b3 rB cB n pb pB cP F P W) (hg : W.grownBy W' row) (hrow : ∀ r, row = some r → w.heap.size ≤ r ∧ r ≠ b3 ∧ r ≠ rB ∧ r ≠ pb ∧ r ≠ pB) : tr.K w b3 rB cB n pb pB cP F P W' :=
  have ne : ∀ r, (w.heap.size ≤ r ∧ r ≠ b3 ∧ r ≠ rB ∧ r ≠ pb ∧ r ≠ pB → False) → row ≠ some r := fun r hf e => hf (hrow r e)
  ⟨blk_grown h.fb hg (fun e => (hrow _ e.symm).2.1 rfl), Kd.R_grown1 h.fr rfl hg (ne rB (fun h => h.2.2.1 rfl)), blk_grown h.pb hg (fun e => (hrow _ e.symm).2.2.2.1 rfl), Kd.R_grown1 h.pr rfl hg (ne pB (fun h => h.2.2.2.2 rfl)), h.B.grown hg h.B.size (fun k e => (hrow k e).1)⟩
theorem tr.K.below {w : World} {b3 rB cB n pb pB cP : Nat} {F : List Bool} {P : List Int} {W W' : World} (h : tr.K w b3 rB cB n pb pB cP F P W) (hb : Below W.heap.size W W') : tr.K w b3 rB cB n pb pB cP F P W' :=
  h.grown (grown_of_below hb none) (fun r e => by cases e)
theorem tr.K.row {w : World} {b3 rB cB n pb pB cP : Nat} {F : List Bool} {P : List Int} {W : World} {ok : Nat → Prop} {v : Value} {out : List S57} (h : tr.K w b3 rB cB n pb pB cP F P W) (hr : Kd.R p57 57 W w.heap.size ok v out) : ∀ r, v.ownBlock = some r → w.heap.size ≤ r ∧ r ≠ b3 ∧ r ≠ rB ∧ r ≠ pb ∧ r ≠ pB := fun r e => by
  have ne : ∀ {k : Nat} {cells : Array Value} {q : Nat}, W.heap[k]? = some (.cells cells q (0, 0)) → 57 ≠ q → r ≠ k := fun hk hq e2 => Kd.R_ne hr hk hq (by rw [e, e2])
  obtain ⟨_, h1⟩ := Kd.R_typed h.fr rB rfl
  obtain ⟨_, h2⟩ := Kd.R_typed h.pr pB rfl
  exact ⟨Kd.R_base hr r e, ne h.fb (by decide), ne h1 (by decide), ne h.pb (by decide), ne h2 (by decide)⟩
theorem tr.K.put {w : World} {b3 rB cB n pb pB cP : Nat} {F : List Bool} {P : List Int} {W : World} (h : tr.K w b3 rB cB n pb pB cP F P W) (h1 : pB ≠ b3) (h3 : pB ≠ pb) (k : Nat) (hk : k < n) (z : Int) : tr.K w b3 rB cB n pb pB cP F (P.set k z) (W.setCell ⟨pB, k, none⟩ (.int .i64 z)) := by
  have hg := tr.grown_set W ⟨pB, k, none⟩ (.int .i64 z)
  obtain ⟨_, h4⟩ := Kd.R_typed h.pr pB rfl
  exact ⟨blk_grown h.fb hg (fun e => h1 (Option.some.inj e).symm), Kd.R_grown1 h.fr rfl hg (Kd.R_ne h.fr h4 (by decide)), blk_grown h.pb hg (fun e => h3 (Option.some.inj e).symm), tr.putI h.pr k hk z, h.B.grown hg h.B.size (fun k e => by cases e; exact Kd.R_base h.pr pB rfl)⟩
set_option maxHeartbeats 1000000 in
set_option maxRecDepth 100000 in
theorem tr.calls (g : List S57) (hwB : jd.wfB g = true) (hpos : 0 < g.length) (A0 : Option Addr) (c0 : Nat) (w : World) (hr0 : Kd.C k57 w A0 g.length g) (hc0 : g.length ≤ c0) : Calls Try.prog 56 #[.slice A0 g.length c0] w fun e w' => ∃ v, e = .returned v ∧ Kd.S p57 57 w' w.heap.size (fun _ => True) v (tr.out g) ∧ Below w.heap.size w w' := by
  have hw := jd.wf_of hwB
  have h40 := hw.1
  have hz96 : ∀ w, (zeroValue 96).run Try.prog w = .ok (.slice none 0 0) w := fun w => by kernel_rfl
  have HC := Aside0.mk hr0
  refine (callsIn_wide (n := 3)).1 (callsIn_of_wp_marks Try.func56 rfl trivial ?_ rfl)
  refine wpIn_wide.2 ?_
  simp only [Try.ntmps56, List.size_toArray, List.length_cons, List.length_nil, Nat.reduceAdd, Nat.reduceSub, Array.replicate_succ, Array.replicate_zero, List.push_toArray, List.append_toArray, List.nil_append, List.cons_append]
  obtain ⟨ad, _, _, _, _, e1, _⟩ := at_T57 hr0 0 (by omega) (by omega)
  subst e1
  clear hr0
  have hw1 : wrap64 ((g.length : Int) - 1) = ((g.length - 1 : Nat) : Int) := by unfold wrap64; omega
  have hidx : ((g.length - 1 : Nat) : Int) < (g.length : Int) := by clear hw1; omega
  go_wp2_with (first
    | ((with_reducible refine gate_dst (N := 15) rfl ?_); refine Kd.R_make Kd.bool w.heap.size 4 rfl (N := 15) rfl 96 _ _ rfl (g.length : Int) rfl rfl Try.underlying96 (.bool false) 1 tr.info4 rfl (by decide) (by decide) false (ok := fun _ => True) (okp := fun _ => True) rfl (fun _ hk => hk) trivial (by clear hw1; omega) (by clear hw1; omega) (Below.refl w.heap.size w) (Nat.le_refl _) ?_; intro v15 w4 ho hb hg hnew; rw [Int.toNat_natCast] at ho; obtain ⟨rB, cB, ev, hrb, hrl, _, _⟩ := Kd.R_form ho (by clear hw1; simp; omega); rw [List.length_replicate] at ev; subst ev; have HR := Aside0.mk ho; have HB := Aside0.mk hb; clear ho hb hg hnew; have e0_ := tr.elemB (Kd.R_alloc HR.out (.cells #[.slice (some ⟨rB, 0, none⟩) g.length cB] 96)) (g.length - 1) (by clear hw1; omega); have e1_ := e0_.1; have e2_ := e0_.2; clear e0_)
    | (go_at_call 78; refine (rq.back _ _ _ _).mono ?_; rintro e w6 ⟨rfl, rfl⟩))
  obtain ⟨w2, hw2⟩ : ∃ w2, w2 = ((w4.setCell ⟨rB, g.length - 1, none⟩ (.bool true)).alloc (.cells #[.slice (some ⟨rB, 0, none⟩) g.length cB] 96)).alloc (.cells #[.slice (some ad) g.length c0] 22) := ⟨_, rfl⟩
  have hJ2 : tr.J w w4.heap.size rB cB g.length (w4.heap.size + 1) (.cells #[.slice (some ad) g.length c0] 22 (0, 0)) (tr.flags0 g.length) w2 := by
    have hs4 : (w4.setCell ⟨rB, g.length - 1, none⟩ (.bool true)).heap.size = w4.heap.size := by simp [World.setCell]
    have z1 := heap_alloc_new (w4.setCell ⟨rB, g.length - 1, none⟩ (.bool true)) (.cells #[.slice (some ⟨rB, 0, none⟩) g.length cB] 96)
    have z2 := heap_alloc_new ((w4.setCell ⟨rB, g.length - 1, none⟩ (.bool true)).alloc (.cells #[.slice (some ⟨rB, 0, none⟩) g.length cB] 96)) (.cells #[.slice (some ad) g.length c0] 22)
    rw [hs4] at z1
    rw [World.size_alloc, hs4] at z2
    have hb4 : Below w.heap.size w (w4.setCell ⟨rB, g.length - 1, none⟩ (.bool true)) := below_set HB.out (Kd.R_base HR.out rB rfl)
    rw [hw2]
    exact ⟨blk_alloc z1 _, Kd.R_alloc (Kd.R_alloc (tr.putB HR.out (g.length - 1) (by clear hw1; omega) true) _) _, z2, (hb4.alloc hb4.size _).alloc (by rw [World.size_alloc]; exact Nat.le_succ_of_le hb4.size) _⟩
  have hsz2 : w2.heap.size = w4.heap.size + 1 + 1 := by rw [hw2, World.size_alloc, World.size_alloc]; simp [World.setCell]
  have hrl : rB < w4.heap.size := Kd.R_lt HR.out rB rfl
  rw [← hw2]
  clear hw2 HR HB e1_ e2_ hidx
  obtain ⟨cv0, hv0⟩ : ∃ cv0 : Fin g.length → Value, cv0 = fun x => (w.cell? (ad.add (x.1 * 2))).getD undef := ⟨_, rfl⟩
  obtain ⟨cv1, hv1⟩ : ∃ cv1 : Fin g.length → Value, cv1 = fun x => (w.cell? ⟨(ad.add (x.1 * 2)).block, (ad.add (x.1 * 2)).off + 1, none⟩).getD undef := ⟨_, rfl⟩
  have hat : ∀ x : Fin g.length, ∃ A0 c0 A1 c1, cv0 x = .slice A0 (rd_T57 g (x.1 : Int)).f0.length c0 ∧ cv1 x = .slice A1 (rd_T57 g (x.1 : Int)).f1.length c1 ∧ w.cell? (ad.add (x.1 * 2)) = some (cv0 x) ∧ w.cell? ⟨(ad.add (x.1 * 2)).block, (ad.add (x.1 * 2)).off + 1, none⟩ = some (cv1 x) ∧ (rd_T57 g (x.1 : Int)).f0.length ≤ c0 ∧ Kd.C (Kd.int .i64) w A0 (rd_T57 g (x.1 : Int)).f0.length (rd_T57 g (x.1 : Int)).f0 ∧ (rd_T57 g (x.1 : Int)).f1.length ≤ c1 ∧ Kd.C (Kd.int .i64) w A1 (rd_T57 g (x.1 : Int)).f1.length (rd_T57 g (x.1 : Int)).f1 := by
    intro x
    obtain ⟨ad', A0, c0, A1, c1, e1, h0, h1, l0, C0, l1, C1⟩ := at_T57 HC.out (x.1 : Int) (by omega) (by have := x.2; clear hw1; omega)
    cases e1
    rw [Int.toNat_natCast] at h0 h1
    have f0 : cv0 x = .slice A0 (rd_T57 g (x.1 : Int)).f0.length c0 := (congrFun hv0 x).trans (by simp only [h0]; rfl)
    have f1 : cv1 x = .slice A1 (rd_T57 g (x.1 : Int)).f1.length c1 := (congrFun hv1 x).trans (by simp only [h1]; rfl)
    exact ⟨A0, c0, A1, c1, f0, f1, by rw [f0]; exact h0, by rw [f1]; exact h1, l0, C0, l1, C1⟩
  clear hv0 hv1 hw1
  have hseq : SeqStopsK Fence.wide 2 Try.prog 97 #[.pointer (some ⟨w4.heap.size + 1, 0, none⟩)] (rq.encs cv0 cv1) (rq.Kp (w4.heap.size + 1) w.heap.size) (fun ys => ys = rq.come g.length 0) (fun _ => True) g.length w2 := fun l J Jx W hW _ _ hY h0 =>
    rq.back1 2 (by omega) l (w4.heap.size + 1) g.length c0 w.heap.size ad cv0 cv1 h40 J Jx hY W ((hW.cell (p := ⟨w4.heap.size + 1, 0, none⟩) (blk_lt hJ2.s)).trans ((blk_cell hJ2.s 0).trans rfl))
      (fun j hj => by
        obtain ⟨_, _, _, _, _, _, h, _⟩ := hat ⟨j, hj⟩
        have hlt := World.block_lt_of_cell? w _ h
        exact ((hW.cell (Nat.lt_of_lt_of_le hlt hJ2.B.size)).trans (hJ2.B.cell hlt)).trans h)
      (fun j hj => by
        obtain ⟨_, _, _, _, _, _, _, h, _⟩ := hat ⟨j, hj⟩
        have hlt := World.block_lt_of_cell? w _ h
        exact ((hW.cell (Nat.lt_of_lt_of_le hlt hJ2.B.size)).trans (hJ2.B.cell hlt)).trans h)
      (fun j hj => by
        obtain ⟨_, _, _, _, _, _, h, _⟩ := hat ⟨j, hj⟩
        exact World.block_lt_of_cell? w _ h) h0
  refine (wpIn_wide (n := 3)).1 ?_
  refine wpIn_rangeFunc_ownH (F := Fence.wide) (n := 3) rfl (by omega) (gf := 97) (lb := #[.pointer (some ⟨w4.heap.size + 1, 0, none⟩)]) rfl trivial (enters_of Try.func97 (by kernel_rfl) rfl) hseq (fun h k => rq.Kp.t h k) (fun W l o o' hl h1 h2 h3 => rq.Kp.b (blk_lt hJ2.s) hJ2.B.size W l o o' hl h1 h2 h3) (Below.refl _ _) (fun _ => rfl)
    (fun pre W => tr.J w w4.heap.size rB cB g.length (w4.heap.size + 1) (.cells #[.slice (some ad) g.length c0] 22 (0, 0)) (pre.foldl (fun L x => tr.mark g L x.1) (tr.flags0 g.length)) W) (fun _ _ _ => False) (tr.J.from (N := w2.heap.size) (G := fun pre : List (Fin g.length) => pre.foldl (fun L x => tr.mark g L x.1) (tr.flags0 g.length)) hJ2.B.size (by omega) (by omega) (by omega)) (fun _ _ _ _ _ h _ _ => h) hJ2
    (fun x a' W => ∃ Bx z, W.heap[Bx]? = some (.cells #[cv0 x, cv1 x] 57 (0, 0)) ∧ a' = { tmps := #[.slice (some ad) g.length c0, undef, .slice none 0 0, .pointer (some ⟨w4.heap.size, 0, none⟩), .int .i64 (x.1 : Int), .pointer (some ⟨Bx, 0, none⟩), undef, undef, undef, undef, undef, undef, undef, .slice (some ad) g.length c0, .int .i64 (g.length : Int), .slice (some ⟨rB, 0, none⟩) g.length cB, .slice (some ⟨rB, 0, none⟩) g.length cB, .slice (some ad) g.length c0, .int .i64 (g.length : Int), z, .pointer (some ⟨rB, g.length - 1, none⟩), .slice (some ad) g.length c0, .func (.func 97) #[] #[.pointer (some ⟨w4.heap.size + 1, 0, none⟩)], .int .i64 (x.1 : Int), .agg #[cv0 x, cv1 x], undef, undef, undef, undef, undef, undef, undef, undef, undef, undef, undef, undef, undef, undef, undef, undef, undef, undef, undef, undef, undef, undef, undef, undef, undef, undef, undef, undef, undef, undef, undef, undef, undef, undef, undef, undef, undef, undef, undef, undef, undef, undef, undef, undef, undef, undef, undef, undef, undef, undef, undef, undef, undef, undef, undef, undef, undef, undef, undef, undef], defers := [] }) ?hAx ?assign ?body ?done ?stop
  case hAx =>
    rintro x a' _ W W' row ⟨Bx, z, h2, h3⟩ hg hr
    refine ⟨Bx, z, blk_grown h2 hg (fun e => ?_), h3⟩
    obtain ⟨_, o, ho, hc⟩ := hr _ e.symm
    rw [h2] at ho
    cases ho
    cases hc
  case assign =>
    intro l pre x W K hI hK
    simp only [rq.encs]
    obtain ⟨A0, d0, A1, d1, e0, e1, _⟩ := hat x
    dsimp only at hK
    rw [e0, e1] at hK ⊢
    gi_wp2
    refine hK _ _ ?_ ?_ ?_ ⟨W.heap.size, _, ?_, rfl⟩
    · exact (KeepsOthers.alloc _ _).from _
    · exact rq.Kp.of_below ((Below.refl W.heap.size W).alloc (Nat.le_refl _) _) (blk_lt hI.s) hI.B.size
    · exact hI.below ((Below.refl W.heap.size W).alloc (Nat.le_refl _) _)
    · exact heap_alloc_new W _
  case body =>
    rintro l pre x a' W hl ⟨r, hl2⟩ hJ ⟨Bx, z, hbx, rfl⟩ hlt
    have hfold : (pre ++ [x]).foldl (fun L x => tr.mark g L x.1) (tr.flags0 g.length) = tr.mark g (pre.foldl (fun L x => tr.mark g L x.1) (tr.flags0 g.length)) x.1 := by rw [List.foldl_append]; rfl
    generalize pre.foldl (fun L x => tr.mark g L x.1) (tr.flags0 g.length) = L at hJ hfold
    obtain ⟨A0, d0, A1, d1, e0, e1, _, _, hd0, hC0, hd1, hC1⟩ := hat x
    rw [e0, e1] at hbx ⊢
    have bx0 := (blk_cell hbx 0).trans rfl
    have bx1 := (blk_cell hbx 1).trans rfl
    obtain ⟨l0, hl0⟩ : ∃ l0, l0 = (rd_T57 g (x.1 : Int)).f0 := ⟨_, rfl⟩
    obtain ⟨l1, hl1⟩ : ∃ l1, l1 = (rd_T57 g (x.1 : Int)).f1 := ⟨_, rfl⟩
    rw [← hl0] at hd0 hC0 bx0
    rw [← hl1] at hd1 hC1 bx1
    have hsm := jd.short hwB x.1 x.2
    rw [← jd.at x.1 x.2, ← hl0, ← hl1] at hsm
    have hmem : ∀ y ∈ l0 ++ l1, 0 ≤ y ∧ y < (x.1 : Int) := by
      intro y hy
      have h := hw.2 x.1 x.2
      rw [← jd.at x.1 x.2, ← hl0, ← hl1] at h
      rcases List.mem_append.1 hy with hy | hy
      · exact h.1 y hy
      · exact h.2 y hy
    have hmk : tr.mark g L x.1 = (l0 ++ l1).foldl (tr.mark1 x.1) L := by rw [hl0, hl1]; rfl
    rw [hmk] at hfold
    have HFO := Aside0.mk hfold
    have hC0' := Kd.C_below (Kd.C_below hC0 hJ.B) ((Below.refl W.heap.size W).alloc (Nat.le_refl _) (.cells #[.slice A0 l0.length d0, .slice A1 l1.length d1] 36))
    have hC1' := Kd.C_below (Kd.C_below hC1 hJ.B) ((Below.refl W.heap.size W).alloc (Nat.le_refl _) (.cells #[.slice A0 l0.length d0, .slice A1 l1.length d1] 36))
    have hCC := tr.two (heap_alloc_new W (.cells #[.slice A0 l0.length d0, .slice A1 l1.length d1] 36)) hd0 hd1 hC0' hC1'
    have hcat := tr.cat2 l0 l1 hsm.1 hsm.2
    have hxl : (l0 ++ l1).length ≤ 2097152 := by rw [List.length_append]; omega
    have hJa := hJ.below ((Below.refl W.heap.size W).alloc (Nat.le_refl _) (.cells #[.slice A0 l0.length d0, .slice A1 l1.length d1] 36))
    have hx2 := x.2
    rw [← hl0, ← hl1]
    clear hfold hmk hC0 hC1 hC0' hC1' hseq hl0 hl1 hJ2
    have hKp0 : rq.Kp (w4.heap.size + 1) w.heap.size W (W.alloc (.cells #[.slice A0 l0.length d0, .slice A1 l1.length d1] 36)) := rq.Kp.of_below ((Below.refl W.heap.size W).alloc (Nat.le_refl _) _) (blk_lt hJ.s) hJ.B.size
    have hKo0 := KeepsOthers.alloc W (.cells #[.slice A0 l0.length d0, .slice A1 l1.length d1] 36)
    generalize l0 ++ l1 = xs at hcat hxl hmem HFO
    gi_wp2_with (first
      | (refine ⟨trivial, ?_⟩; gi_at_call 50; refine Rf.callsRound ?_; refine (slices_Concat_int_int.calls 8 _ 2 [l0, l1] xs _ hCC (Nat.le_refl 2) hcat).mono ?_; rintro e Wc ⟨vc, rfl, hRc, hbc⟩; have HRc := Aside0.mk hRc; have HJc := Aside0.mk (hJa.below hbc); have HKc := Aside0.mk (hKp0.t (rq.Kp.of_below hbc (blk_lt hJa.s) hJa.B.size)); have HOc := Aside0.mk (hKo0.trans (tr.keeps hbc)); clear hRc hbc hCC hJa hKp0 hKo0 bx0 bx1; obtain ⟨Ac, cc, rfl⟩ := Kd.R_slice HRc.out))
    clear hcat
    gi_loopw [32] (fun i wr => ∃ j : Nat, j ≤ xs.length ∧ i = .int .i64 (j : Int) ∧ Aside0 (tr.J w w4.heap.size rB cB g.length (w4.heap.size + 1) (.cells #[.slice (some ad) g.length c0] 22 (0, 0)) ((xs.take j).foldl (tr.mark1 x.1) L) wr) ∧ Aside0 (∃ N : Nat, Kd.R (Kd.int .i64) 3 wr N (fun _ => True) (.slice Ac xs.length cc) xs) ∧ Aside0 (rq.Kp (w4.heap.size + 1) w.heap.size W wr) ∧ Aside0 (KeepsOthers W wr)) (fun i _ => (xs.length - intOf i).toNat)
    case atStart => exact ⟨0, Nat.zero_le _, rfl, HJc, ⟨⟨_, HRc.out⟩⟩, HKc, HOc⟩
    case round =>
      clear HJc HRc HKc HOc
      obtain ⟨j, hj, rfl, HJ, HR, HK, HO⟩ := hrel
      by_cases hjl : j < xs.length
      · have hltz : (j : Int) < (xs.length : Int) := by omega
        have hjz : (0 : Int) ≤ (j : Int) := Int.natCast_nonneg _
        obtain ⟨N, hR⟩ := HR.out
        obtain ⟨ac, e0, hxc⟩ := Kd.at_int (Kd.R_reads' hR).2.2 (j : Int) hjz hltz
        cases e0
        rw [Int.toNat_natCast] at hxc
        have hrd : rd xs (j : Int) = xs[j] := by simp [rd, List.getD_eq_getElem?_getD, List.getElem?_eq_getElem hjl]
        rw [hrd] at hxc
        have hm := hmem xs[j] (List.getElem_mem hjl)
        have htk : (xs.take (j + 1)).foldl (tr.mark1 x.1) L = tr.mark1 x.1 ((xs.take j).foldl (tr.mark1 x.1) L) xs[j] := by rw [List.take_succ_eq_append_getElem hjl, List.foldl_append]; rfl
        generalize (xs.take j).foldl (tr.mark1 x.1) L = Lj at HJ htk
        generalize xs[j] = y at hxc hm htk
        obtain ⟨k, rfl⟩ : ∃ k : Nat, y = (k : Int) := ⟨y.toNat, by omega⟩
        have hkn : k < g.length := by omega
        have hkz : (k : Int) < (g.length : Int) := by omega
        have hxz : (x.1 : Int) < (g.length : Int) := by omega
        have hkz0 : (0 : Int) ≤ (k : Int) := Int.natCast_nonneg _
        have hxz0 : (0 : Int) ≤ (x.1 : Int) := Int.natCast_nonneg _
        have hw1 : wrap64 ((j : Int) + 1) = ((j + 1 : Nat) : Int) := by unfold wrap64; omega
        have HTK := Aside0.mk htk
        have HW1 := Aside0.mk hw1
        clear htk hw1 hmem
        gi_wp2
        refine rq.still_tail 13 (by kernel_rfl) (by kernel_rfl) ?_ (by kernel_rfl) ?_
        · rintro ⟨a, w, h⟩
          exact h
        · have hbd := below_drew1 (Below.refl wr.heap.size wr)
          have HJ1 := Aside0.mk (HJ.out.below hbd)
          have HK1 := Aside0.mk (HK.out.t (rq.Kp.of_below hbd (blk_lt HJ.out.s) HJ.out.B.size))
          have HO1 := Aside0.mk (HO.out.trans (tr.keeps hbd))
          have HR1 := Aside0.mk (Kd.R_below hR hbd)
          clear hR hxc HR HJ HK HO hbd
          generalize wr.drew = wd at *
          have q0 := (blk_cell HJ1.out.b 0).trans rfl
          have q1 := tr.elemB HJ1.out.r k hkn
          have q2 := tr.elemB HJ1.out.r x.1 x.2
          obtain ⟨q1, q1f⟩ := q1
          obtain ⟨q2, _⟩ := q2
          obtain ⟨fk, hfk⟩ : ∃ fk, Lj.getD k false = fk := ⟨_, rfl⟩
          rw [hfk] at q1
          cases fk
          all_goals
           simp only [List.take_succ_cons, List.take_zero, List.drop_succ_cons, List.drop_zero]
           repeat still_step
           try refine wpStill_nil ?_
          · go_wp2
            gi_wp2
            obtain ⟨cs_, hcs_⟩ := Kd.R_typed HJ1.out.r rB rfl
            have hg_ := tr.grown_set wd ⟨rB, k, none⟩ (.bool (Lj.getD x.1 false))
            refine ⟨⟨j + 1, by omega, congrArg (Value.int .i64) (by omega), ⟨?_⟩, ⟨⟨_, Kd.R_grown1 HR1.out rfl hg_ (Kd.R_ne HR1.out hcs_ (by decide))⟩⟩, ⟨HK1.out.t ⟨Below.heap_setCell _ _ _ _ (show w4.heap.size + 1 ≠ rB by omega), fun i hi => Below.heap_setCell _ _ _ _ (show i ≠ rB by omega)⟩⟩, ⟨HO1.out.trans (KeepsOthers.setCell _ _ _)⟩⟩, ?_⟩
            · rw [HTK.out, show tr.mark1 x.1 Lj (k : Int) = Lj.set k (Lj.getD x.1 false) by unfold tr.mark1; rw [Int.toNat_natCast, hfk]; rfl]
              exact tr.J.put HJ1.out (by omega) (by omega) hrb k hkn _
            · show ((xs.length : Int) - ((j : Int) + 1)).toNat < ((xs.length : Int) - (j : Int)).toNat
              omega
          · go_wp2
            gi_wp2
            obtain ⟨cs_, hcs_⟩ := Kd.R_typed HJ1.out.r rB rfl
            have hg_ := tr.grown_set wd ⟨rB, k, none⟩ (.bool (true))
            refine ⟨⟨j + 1, by omega, congrArg (Value.int .i64) (by omega), ⟨?_⟩, ⟨⟨_, Kd.R_grown1 HR1.out rfl hg_ (Kd.R_ne HR1.out hcs_ (by decide))⟩⟩, ⟨HK1.out.t ⟨Below.heap_setCell _ _ _ _ (show w4.heap.size + 1 ≠ rB by omega), fun i hi => Below.heap_setCell _ _ _ _ (show i ≠ rB by omega)⟩⟩, ⟨HO1.out.trans (KeepsOthers.setCell _ _ _)⟩⟩, ?_⟩
            · rw [HTK.out, show tr.mark1 x.1 Lj (k : Int) = Lj.set k (true) by unfold tr.mark1; rw [Int.toNat_natCast, hfk]; rfl]
              exact tr.J.put HJ1.out (by omega) (by omega) hrb k hkn _
            · show ((xs.length : Int) - ((j : Int) + 1)).toNat < ((xs.length : Int) - (j : Int)).toNat
              omega
      · have hltz : ¬ (j : Int) < (xs.length : Int) := by omega
        obtain rfl : j = xs.length := by omega
        rw [List.take_length] at HJ
        gi_wp2
        exact ⟨HO.out.from _, HK.out, by show tr.J _ _ _ _ _ _ _ (List.foldl _ _ (pre ++ [x])) _; rw [HFO.out]; exact HJ.out⟩
  case done =>
    rintro D ys W hD rfl hJ hKD
    have HKD := Aside0.mk hKD
    have hJ' : tr.J w w4.heap.size rB cB g.length (w4.heap.size + 1) (.cells #[.slice (some ad) g.length c0] 22 (0, 0)) (tr.flags g) W := hJ
    have HJ := Aside0.mk hJ'
    have hDlt := blk_lt hKD
    clear hKD hJ hJ' hseq hJ2
    go_wp2_with (first
      | ((with_reducible refine gate_dst (N := 52) rfl ?_); refine Kd.R_make (Kd.int .i64) w.heap.size 3 rfl (N := 52) rfl 36 _ _ rfl (g.length : Int) rfl rfl Try.underlying36 (.int .i64 0) 8 tr.info3 rfl (by decide) (by decide) 0 (ok := fun _ => True) (okp := fun _ => True) rfl (fun _ hk => hk) trivial (by omega) (by omega) HJ.out.B HJ.out.B.size ?_; intro v52 w5 ho hb hg hnew; rw [Int.toNat_natCast] at ho; obtain ⟨pB, cP, ev, hpb, hpl, _, _⟩ := Kd.R_form ho (by simp; omega); rw [List.length_replicate] at ev; subst ev; have HP := Aside0.mk ho; have HJ5 := Aside0.mk (HJ.out.grown hg (fun r e => by cases e)); have HPN : Aside0 (pB ≥ W.heap.size) := ⟨by obtain ⟨b, e, hb⟩ := hnew; have e' : some pB = some b := e; cases e'; exact hb⟩; have HKD5 : Aside0 (w5.heap[D]? = some (.deferred (some []))) := ⟨(hg.block D hDlt (fun e => by cases e)).trans HKD.out⟩; clear ho hb hg hnew))
    obtain ⟨w7, hw7⟩ : ∃ w7, w7 = (w5.alloc (.cells #[] 57)).alloc (.cells #[.slice (some ⟨pB, 0, none⟩) g.length cP] 36) := ⟨_, rfl⟩
    have hb7 : Below w5.heap.size w5 w7 := by rw [hw7]; exact ((Below.refl _ w5).alloc (Nat.le_refl _) _).alloc (by rw [World.size_alloc]; omega) _
    have hx7 := heap_alloc_new (w5.alloc (.cells #[] 57)) (.cells #[.slice (some ⟨pB, 0, none⟩) g.length cP] 36)
    rw [World.size_alloc, ← hw7] at hx7
    have hJ7 := HJ5.out.below hb7
    have hK7 : tr.K w w4.heap.size rB cB g.length (w5.heap.size + 1) pB cP (tr.flags g) (tr.go g (tr.flags g) 0).1 w7 := ⟨hJ7.b, hJ7.r, hx7, Kd.R_below HP.out hb7, hJ7.B⟩
    have hplt := Kd.R_lt HP.out pB rfl
    have hO7 : Kd.S p57 57 w7 w.heap.size (fun k => k ≠ pB) (.slice (some ⟨w5.heap.size, 0, none⟩) 0 0) (tr.go g (tr.flags g) 0).2 := tr.empty57 (by rw [hw7]; exact blk_alloc (heap_alloc_new w5 _) _) HJ5.out.B.size (by omega)
    have hD7 : w7.heap[D]? = some (.deferred (some [])) := (hb7.block D (by have := HPN.out; omega)).trans HKD5.out
    rw [← hw7]
    have h3p : w4.heap.size < pB ∧ D < pB := by have := HPN.out; have := HJ.out.B.size; have := blk_lt HJ.out.s; exact ⟨by omega, by omega⟩
    clear hw7 hb7 hx7 hJ7 HJ5 HP HKD5 HPN HJ
    generalize hpb : w5.heap.size + 1 = pb at hK7 ⊢
    have hppb : pB ≠ pb := by omega
    clear hplt hDlt hpb
    go_loopg [9, 57] g.length (fun gg s9 s57 wr => ∃ j : Nat, j ≤ g.length ∧ g.length - j ≤ gg ∧ s57 = .int .i64 (j : Int) ∧ Aside0 (tr.K w w4.heap.size rB cB g.length pb pB cP (tr.flags g) (tr.go g (tr.flags g) j).1 wr) ∧ Aside0 (Kd.S p57 57 wr w.heap.size (fun k => k ≠ pB) s9 (tr.go g (tr.flags g) j).2) ∧ Aside0 (wr.heap[D]? = some (.deferred (some []))))
    case atStart => exact ⟨0, Nat.zero_le _, by omega, rfl, ⟨hK7⟩, ⟨hO7⟩, ⟨hD7⟩⟩
    case round =>
      clear hK7 hO7 hD7
      obtain ⟨j, hj, hgg, rfl, HK, HO, HD⟩ := hrel
      by_cases hjl : j < g.length
      · cases gk with
        | zero => omega
        | succ k1 =>
        obtain ⟨A0, d0, A1, d1, e0, e1, h0, h1, hd0, hC0, hd1, hC1⟩ := hat ⟨j, hjl⟩
        rw [e0] at h0
        rw [e1] at h1
        dsimp only at h0 h1 hd0 hC0 hd1 hC1
        clear e0 e1 hat HC
        have x0 := (HK.out.B.cell (World.block_lt_of_cell? w _ h0)).trans h0
        have x1 := (HK.out.B.cell (World.block_lt_of_cell? w _ h1)).trans h1
        have hgo := tr.go_step g (tr.flags g) j
        obtain ⟨hol, hpl⟩ := tr.go_len g (tr.flags g) j
        generalize tr.go g (tr.flags g) j = s at HK HO hgo hol hpl
        obtain ⟨P, out⟩ := s
        dsimp only at HK HO hol hpl
        obtain ⟨Ao, co, rfl⟩ := Kd.R_slice (Kd.S_R HO.out)
        have hlt1 : (j : Int) < (g.length : Int) := by omega
        have hge1 : (0 : Int) ≤ (j : Int) := Int.natCast_nonneg _
        have hbx : Below wr.heap.size wr (wr.alloc (.cells #[.slice A0 (rd_T57 g (j : Int)).f0.length d0, .slice A1 (rd_T57 g (j : Int)).f1.length d1] 57)) := (Below.refl wr.heap.size wr).alloc (Nat.le_refl _) _
        have HKx := Aside0.mk (HK.out.below hbx)
        have HOx := Aside0.mk (Kd.S_below HO.out hbx)
        have HDx := Aside0.mk ((hbx.block D (blk_lt HD.out)).trans HD.out)
        have HBX := Aside0.mk (heap_alloc_new wr (.cells #[.slice A0 (rd_T57 g (j : Int)).f0.length d0, .slice A1 (rd_T57 g (j : Int)).f1.length d1] 57))
        clear hbx
        have q0 := (blk_cell HKx.out.fb 0).trans rfl
        obtain ⟨q1, _⟩ := tr.elemB HKx.out.fr j hjl
        obtain ⟨fj, hfj⟩ : ∃ fj, (tr.flags g).getD j false = fj := ⟨_, rfl⟩
        rw [hfj] at q1
        cases fj with
        | false =>
          have hst : tr.st g (tr.flags g) (P, out) j = (P, out) := by unfold tr.st; rw [hfj]; rfl
          rw [hst] at hgo
          have HGO := Aside0.mk hgo
          clear hgo hst
          go_wp2
          go_roundg k1
          case measure => omega
          case rel => exact ⟨j + 1, by omega, by omega, congrArg (Value.int .i64) (by omega), by rw [HGO.out]; exact HKx, by rw [HGO.out]; exact HOx, HDx⟩
        | true =>
          have q2 := (blk_cell HKx.out.pb 0).trans rfl
          obtain ⟨q3, q4⟩ := tr.elemI HKx.out.pr j hjl
          have HGO := Aside0.mk hgo
          clear hgo
          have eren : ∀ args w, (callFunc 79 args).run Try.prog w = .ok (.enter 79 args) w := fun args w => enters_ Try.func79 rfl rfl args w
          go_wp2
          obtain ⟨w8, hw8⟩ : ∃ w8, w8 = ((wr.alloc (.cells #[.slice A0 (rd_T57 g (j : Int)).f0.length d0, .slice A1 (rd_T57 g (j : Int)).f1.length d1] 57)).setCell ⟨pB, j, none⟩ (.int .i64 (out.length : Int))).drew := ⟨_, rfl⟩
          have hpW0 := Kd.R_lt HK.out.pr pB rfl
          have HK8 := Aside0.mk ((HKx.out.put (by omega) hppb j hjl (out.length : Int)).below (below_drew1 (Below.refl _ _)))
          have HO8 := Aside0.mk (Kd.S_mono (ok' := fun k => k ≠ pB ∧ k < (((wr.alloc (.cells #[.slice A0 (rd_T57 g (j : Int)).f0.length d0, .slice A1 (rd_T57 g (j : Int)).f1.length d1] 57)).setCell ⟨pB, j, none⟩ (.int .i64 (out.length : Int))).drew).heap.size) (Kd.S_bound (Kd.S_drew (Kd.S_far (p := ⟨pB, j, none⟩) HOx.out (fun _ hk => hk) (.int .i64 (out.length : Int))))) (fun k hk => ⟨hk.1, hk.2.2.1⟩))
          have BX8 := Aside0.mk (blk_drew (blk_far (p := ⟨pB, j, none⟩) HBX.out (show wr.heap.size ≠ pB by omega) (.int .i64 (out.length : Int))))
          have HD8 := Aside0.mk (blk_drew ((Below.heap_setCell _ ⟨pB, j, none⟩ (.int .i64 (out.length : Int)) D (show D ≠ pB by omega)).trans HDx.out))
          rw [← hw8] at HK8 HO8 BX8 HD8
          have hsW := HK8.out.B.size
          have hpW := Kd.R_lt HK8.out.pr pB rfl
          have hoW := Kd.S_lt HO8.out
          have hwj := hw.2 j hjl
          rw [← jd.at j hjl] at hwj
          have hsm := jd.short hwB j hjl
          rw [← jd.at j hjl] at hsm
          have HS0 : Aside0 (∀ k ∈ (rd_T57 g (j : Int)).f0, 0 ≤ k ∧ k < (g.length : Int)) := ⟨fun k hk => by have := hwj.1 k hk; omega⟩
          have HS1 : Aside0 (∀ k ∈ (rd_T57 g (j : Int)).f1, 0 ≤ k ∧ k < (g.length : Int)) := ⟨fun k hk => by have := hwj.2 k hk; omega⟩
          have HC0 := Aside0.mk hC0
          have HC1 := Aside0.mk hC1
          clear hwj hC0 hC1 HKx HOx HBX HDx HK HO HD q0 q1 q2 q3 q4
          refine tr.only_wp ?_
          refine start_ (n := 13) (S := fun w' => w'.cell? ⟨wr.heap.size, 0, none⟩ = some (.slice A0 (rd_T57 g (j : Int)).f0.length d0) ∧ w'.cell? ⟨wr.heap.size, 1, none⟩ = some (.slice A1 (rd_T57 g (j : Int)).f1.length d1)) (ds := [11]) #[false, false, false, false, false, false, false, false, false, false, false, false, false] (by kernel_rfl) rfl rfl (by rw [← hw8]; exact ⟨(blk_cell BX8.out 0).trans rfl, (blk_cell BX8.out 1).trans rfl⟩) (fun hHeld => ?_)
          refine with_tabW tr.r18.tab tr.r18.bits (fun HT_ HW_ => ?_)
          rw [← hw8] at hHeld ⊢
          clear hw8
          refine pure_ (i := 0) (N := (some 71)) (v := ?_) (a' := ?_) #[true, false, false, false, false, false, false, false, false, false, false, false, false] rfl rfl (any_of HT_.out (by kernel_rfl)) (fun _ _ _ h => h) (Or.inl ⟨by rfl, ?_⟩) ?_ ?_
          rotate_left
          · intro w'
            go_simp
            with_reducible rfl
          rotate_left
          · simp only [Act.put, List.setIfInBounds_toArray, List.set_cons_zero, List.set_cons_succ, i64_w, i32_w]
            rfl
          refine pure_ (i := 1) (N := (some 72)) (v := ?_) (a' := ?_) #[true, true, false, false, false, false, false, false, false, false, false, false, false] rfl rfl (any_of HT_.out (by kernel_rfl)) (fun _ _ _ h => h) (Or.inl ⟨by rfl, ?_⟩) ?_ ?_
          rotate_left
          · intro w'
            go_simp
            with_reducible rfl
          rotate_left
          · simp only [Act.put, List.setIfInBounds_toArray, List.set_cons_zero, List.set_cons_succ, i64_w, i32_w]
            rfl
          refine pure_ (i := 2) (N := (some 73)) (v := ?_) (a' := ?_) #[true, true, true, false, false, false, false, false, false, false, false, false, false] rfl rfl (any_of HT_.out (by kernel_rfl)) (fun _ _ _ h => h) (Or.inl ⟨by rfl, ?_⟩) ?_ ?_
          rotate_left
          · intro w'
            go_simp
            with_reducible rfl
          rotate_left
          · simp only [Act.put, List.setIfInBounds_toArray, List.set_cons_zero, List.set_cons_succ, i64_w, i32_w]
            rfl
          refine pure_ (i := 5) (N := (some 76)) (v := ?_) (a' := ?_) #[true, true, true, false, false, true, false, false, false, false, false, false, false] rfl rfl (any_of HT_.out (by kernel_rfl)) (fun _ _ _ h => h) (Or.inl ⟨by rfl, ?_⟩) ?_ ?_
          rotate_left
          · intro w'
            go_simp
            with_reducible rfl
          rotate_left
          · simp only [Act.put, List.setIfInBounds_toArray, List.set_cons_zero, List.set_cons_succ, i64_w, i32_w]
            rfl
          refine pure_ (i := 6) (N := (some 77)) (v := ?_) (a' := ?_) #[true, true, true, false, false, true, true, false, false, false, false, false, false] rfl rfl (any_of HT_.out (by kernel_rfl)) (fun _ _ _ h => h) (Or.inl ⟨by rfl, ?_⟩) ?_ ?_
          rotate_left
          · intro w'
            go_simp
            with_reducible rfl
          rotate_left
          · simp only [Act.put, List.setIfInBounds_toArray, List.set_cons_zero, List.set_cons_succ, i64_w, i32_w]
            rfl
          refine take_ (i := 3) (N := (some 74)) (v := ?_) (a' := ?_) #[true, true, true, true, false, true, true, false, false, false, false, false, false] rfl rfl (take_ofW HT_.out HW_.out (by kernel_rfl)) (fun _ _ _ h => h) (Or.inl ⟨by rfl, ?_⟩) hHeld ?_ ?_
          rotate_left
          · rintro w' ⟨s0, s1⟩
            go_simp
            with_reducible rfl
          rotate_left
          · simp only [Act.put, List.setIfInBounds_toArray, List.set_cons_zero, List.set_cons_succ, i64_w, i32_w]
            rfl
          refine take_ (i := 7) (N := (some 78)) (v := ?_) (a' := ?_) #[true, true, true, true, false, true, true, true, false, false, false, false, false] rfl rfl (take_ofW HT_.out HW_.out (by kernel_rfl)) (fun _ _ _ h => h) (Or.inl ⟨by rfl, ?_⟩) hHeld ?_ ?_
          rotate_left
          · rintro w' ⟨s0, s1⟩
            go_simp
            with_reducible rfl
          rotate_left
          · simp only [Act.put, List.setIfInBounds_toArray, List.set_cons_zero, List.set_cons_succ, i64_w, i32_w]
            rfl
          refine one_ (i := 4) (N := some 75) #[true, true, true, true, true, true, true, true, false, false, false, false, false] rfl rfl (one_of HT_.out (by kernel_rfl)) (by decide) (fun K hK => ?_)
          refine call_ 79 #[.slice A0 (rd_T57 g (j : Int)).f0.length d0, .pointer (some ⟨pb, 0, none⟩)] (by rfl) rfl ?hrun ?_
          (case hrun => have he := eren #[.slice A0 (rd_T57 g (j : Int)).f0.length d0, .pointer (some ⟨pb, 0, none⟩)]; unfold execOp; simp [resolve, Deferred.ofValue, invoke, Act.eval, he])
          refine (tr.ren (rd_T57 g (j : Int)).f0 (P.set j (out.length : Int)) pb pB g.length cP w.heap.size (fun _ => True) A0 d0 _ HK8.out.pb HK8.out.pr h40 HS0.out (Kd.C_below HC0.out HK8.out.B) hd0 hsm.1).mono ?_
          rintro e w9 ⟨u0, rfl, hRu0, hb⟩
          obtain ⟨Au0, nu0, cu0, rfl⟩ : ∃ A n c, u0 = Value.slice A n c := by obtain ⟨A, c, e⟩ := Kd.R_slice hRu0; exact ⟨A, _, c, e⟩
          refine ⟨_, rfl, ?_⟩
          have n0_ := Aside0.mk (HK8.out.below hb)
          have n1_ := Aside0.mk (Kd.S_below HO8.out hb)
          have n2_ := Aside0.mk (blk_below BX8.out hb)
          have n3_ := Aside0.mk (blk_below HD8.out hb)
          have Hw9 := Aside0.mk hRu0
          have hsz8 := hb.size
          have hlt9 := Kd.R_lt hRu0
          clear HK8 HO8 BX8 HD8 hb hRu0
          have HK8 := n0_
          have HO8 := n1_
          have BX8 := n2_
          have HD8 := n3_
          clear n0_ n1_ n2_ n3_
          refine hK.out _ _ ⟨(blk_cell BX8.out 0).trans rfl, (blk_cell BX8.out 1).trans rfl⟩ (fun hHeld => ?_)
          clear hK K
          refine norm_ (a' := ?_) ?_ ?_
          rotate_left
          · show Act.put _ (some 75) _ = _
            simp only [Act.put, List.setIfInBounds_toArray, List.set_cons_zero, List.set_cons_succ, i64_w, i32_w]
            rfl
          refine one_ (i := 8) (N := some 79) #[true, true, true, true, true, true, true, true, true, false, false, false, false] rfl rfl (one_of HT_.out (by kernel_rfl)) (by decide) (fun K hK => ?_)
          refine call_ 79 #[.slice A1 (rd_T57 g (j : Int)).f1.length d1, .pointer (some ⟨pb, 0, none⟩)] (by rfl) rfl ?hrun ?_
          (case hrun => have he := eren #[.slice A1 (rd_T57 g (j : Int)).f1.length d1, .pointer (some ⟨pb, 0, none⟩)]; unfold execOp; simp [resolve, Deferred.ofValue, invoke, Act.eval, he])
          refine (tr.ren (rd_T57 g (j : Int)).f1 (P.set j (out.length : Int)) pb pB g.length cP w.heap.size (fun _ => True) A1 d1 _ HK8.out.pb HK8.out.pr h40 HS1.out (Kd.C_below HC1.out HK8.out.B) hd1 hsm.2).mono ?_
          rintro e w10 ⟨u1, rfl, hRu1, hb⟩
          obtain ⟨Au1, nu1, cu1, rfl⟩ : ∃ A n c, u1 = Value.slice A n c := by obtain ⟨A, c, e⟩ := Kd.R_slice hRu1; exact ⟨A, _, c, e⟩
          refine ⟨_, rfl, ?_⟩
          have n0_ := Aside0.mk (HK8.out.below hb)
          have n1_ := Aside0.mk (Kd.S_below HO8.out hb)
          have n2_ := Aside0.mk (blk_below BX8.out hb)
          have n3_ := Aside0.mk (blk_below HD8.out hb)
          have Hw10 := Aside0.mk hRu1
          have n4_ := Aside0.mk (Kd.R_below Hw9.out hb)
          clear Hw9
          have Hw9 := n4_
          clear n4_
          clear HK8 HO8 BX8 HD8 hb hRu1
          have HK8 := n0_
          have HO8 := n1_
          have BX8 := n2_
          have HD8 := n3_
          clear n0_ n1_ n2_ n3_
          refine hK.out _ _ ⟨(blk_cell BX8.out 0).trans rfl, (blk_cell BX8.out 1).trans rfl⟩ (fun hHeld => ?_)
          clear hK K
          refine norm_ (a' := ?_) ?_ ?_
          rotate_left
          · show Act.put _ (some 79) _ = _
            simp only [Act.put, List.setIfInBounds_toArray, List.set_cons_zero, List.set_cons_succ, i64_w, i32_w]
            rfl
          refine pure_ (i := 9) (N := (some 80)) (v := ?_) (a' := ?_) #[true, true, true, true, true, true, true, true, true, true, false, false, false] rfl rfl (any_of HT_.out (by kernel_rfl)) (fun _ _ _ h => h) (Or.inl ⟨by rfl, ?_⟩) ?_ ?_
          rotate_left
          · intro w'
            go_simp
            with_reducible rfl
          rotate_left
          · simp only [Act.put, List.setIfInBounds_toArray, List.set_cons_zero, List.set_cons_succ, i64_w, i32_w]
            rfl
          refine one_ (i := 10) (N := some 81) #[true, true, true, true, true, true, true, true, true, true, true, false, false] rfl rfl (one_of HT_.out (by kernel_rfl)) (by decide) (fun K hK => ?_)
          refine value_ (w1 := ?_) (v := ?_) (by rfl) rfl ?_ ?_
          rotate_left 2
          · go_simp
            constructor
            · rfl
            · rfl
          refine hK.out _ _ ⟨(blk_cell (blk_alloc BX8.out _) 0).trans rfl, (blk_cell (blk_alloc BX8.out _) 1).trans rfl⟩ (fun hHeld => ?_)
          clear hK K
          refine norm_ (a' := ?_) ?_ ?_
          rotate_left
          · show Act.put _ (some 81) _ = _
            simp only [Act.put, List.setIfInBounds_toArray, List.set_cons_zero, List.set_cons_succ, i64_w, i32_w]
            rfl
          refine last_ (i := 11) (N := some 82) #[true, true, true, true, true, true, true, true, true, true, true, true, false] rfl rfl (one_of HT_.out (by kernel_rfl)) (by decide) (fun K hK => ?_)
          refine Kd.S_append_step p57 (w0 := w) w.heap.size (by rfl) (.tmp 71) (.tmp 81) 22 57 (.agg #[(.slice none 0 0), (.slice none 0 0)]) 48 rfl Try.underlying22 info57 rfl (by decide) (by omega) (.slice Ao out.length co) out (⟨(rd_T57 g (j : Int)).f0.map (tr.name (P.set j (out.length : Int))), (rd_T57 g (j : Int)).f1.map (tr.name (P.set j (out.length : Int)))⟩ : S57) [.slice Au0 nu0 cu0, .slice Au1 nu1 cu1] (fun k => k ≠ pB) (fun k => k ≠ pB ∧ some k ≠ (Value.slice Ao out.length co).ownBlock ∧ w8.heap.size ≤ k) rfl rfl ?aP (fun _ hk => ⟨hk.1, hk.2.1⟩) ?aF (Kd.S_mono HO8.out (fun k hk => ⟨hk.1, fun h => absurd hk.2 (by have := h.2.2; omega)⟩)) HK8.out.B HK8.out.B.size ?aL ?_
          (case aP => exact p57_mkA _ _ _ (⟨(rd_T57 g (j : Int)).f0.map (tr.name (P.set j (out.length : Int))), (rd_T57 g (j : Int)).f1.map (tr.name (P.set j (out.length : Int)))⟩ : S57) (fun k e1 e2 => by have h1 := hlt9 k e1; have h2 := Kd.R_base Hw10.out k e2.symm; omega) (tr.apart Hw9.out (Nat.le_refl _) hsW hpW hoW) (tr.apart Hw10.out hsz8 (Nat.le_trans hsW hsz8) (Nat.lt_of_lt_of_le hpW hsz8) (fun k e => Nat.lt_of_lt_of_le (hoW k e) hsz8)))
          (case aF => exact fun k hk e => by have := Kd.R_lt HK8.out.pr pB rfl; omega)
          (case aL => have := hol; omega)
          intro v11 w11 ho hb hg hat
          have n0_ := Aside0.mk (HK8.out.grown hg (HK8.out.row (Kd.S_R HO8.out)))
          have n1_ := Aside0.mk ho
          have n3_ : Aside0 (w11.heap[D]? = some (.deferred (some []))) := ⟨(hg.block D (blk_lt HD8.out) (fun e => by obtain ⟨_, hc⟩ := Kd.S_typed HO8.out D e.symm; rw [HD8.out] at hc; cases hc)).trans HD8.out⟩
          clear HK8 HO8 BX8 HD8 ho hb hg hat Hw9 Hw10 hsz8 hlt9
          refine hK.out _ _ ?_
          clear hK K
          refine norm_ (a' := ?_) ?_ ?_
          rotate_left
          · show Act.put _ (some 82) _ = _
            simp only [Act.put, List.setIfInBounds_toArray, List.set_cons_zero, List.set_cons_succ, i64_w, i32_w]
            rfl
          refine pure_ (i := 12) (N := (some 9)) (v := ?_) (a' := ?_) #[true, true, true, true, true, true, true, true, true, true, true, true, true] rfl rfl (any_of HT_.out (by kernel_rfl)) (fun _ _ _ h => h) (Or.inl ⟨by rfl, ?_⟩) ?_ ?_
          rotate_left
          · intro w'
            go_simp
            with_reducible rfl
          rotate_left
          · simp only [Act.put, List.setIfInBounds_toArray, List.set_cons_zero, List.set_cons_succ, i64_w, i32_w]
            rfl
          refine done_ (done_of HT_.out (by kernel_rfl)) ?_
          refine tr.only_now ?_
          try go_wp2
          go_roundg k1
          case measure => omega
          case rel =>
            have hst : tr.st g (tr.flags g) (P, out) j = (P.set j (out.length : Int), out ++ [(⟨(rd_T57 g (j : Int)).f0.map (tr.name (P.set j (out.length : Int))), (rd_T57 g (j : Int)).f1.map (tr.name (P.set j (out.length : Int)))⟩ : S57)]) := by unfold tr.st; rw [if_pos hfj]
            exact ⟨j + 1, by omega, by omega, congrArg (Value.int .i64) (by omega), by rw [HGO.out, hst]; exact n0_, by rw [HGO.out, hst]; exact n1_, n3_⟩
      · obtain rfl : j = g.length := by omega
        have hlt1 : ¬ (g.length : Int) < (g.length : Int) := by omega
        obtain ⟨Ao, co, rfl⟩ := Kd.R_slice (Kd.S_R HO.out)
        go_wp2
        refine ⟨by simp, .inl ⟨_, _, rfl, run_takeDeferred HD.out, ?_⟩⟩
        refine ⟨_, results_single (r := .tmp 2) rfl (.tmp .nil), ?_⟩
        exact ⟨_, rfl, Kd.S_mono (tr.farD HD.out rfl HO.out) (fun _ _ => trivial), HK.out.B.grown (grownBy_putObj' wr D (.deferred none)) HK.out.B.size (fun k e => by injection e with e; omega)⟩
  case stop =>
    rintro D c pre W _ _ h _
    exact h.elim
/-! #### impl.TrimGame -/
def impl_TrimGame.f (k : Nat) (l0 : List S57) : Option (List S57 × Bool) :=
  (impl_IsGame.f k l0).bind fun b => if b = true then (if jd.wfB l0 = true ∧ 0 < l0.length then some (tr.out l0, true) else none) else some ([], false)
set_option maxHeartbeats 1000000 in
set_option maxRecDepth 100000 in
theorem impl_TrimGame.callsA (k : Nat) (A0 : Option Addr) (c0 : Nat) (l0 : List S57) (r1 : List S57) (r2 : Bool) (w : World) (hr0 : Kd.C k57 w A0 l0.length l0) (hc0 : l0.length ≤ c0) (h : impl_TrimGame.f k l0 = some (r1, r2)) :
    Calls Try.prog 23 #[.slice A0 l0.length c0] w fun e w' => ∃ v0_ : Value, e = .returned (.tuple #[v0_, .bool r2]) ∧ Kd.S p57 57 w' w.heap.size (fun _ => True) v0_ r1 ∧ Below w.heap.size w w' := by
  unfold impl_TrimGame.f at h
  obtain ⟨b, A_, h⟩ := Option.bind_eq_some_iff.mp h
  have A1 := Aside0.mk A_
  have HR0 := Aside0.mk hr0
  have HC0 := Aside0.mk hc0
  clear A_ hr0 hc0
  cases b with
  | false =>
    rw [if_neg (by decide)] at h
    simp only [Option.some.injEq, Prod.mk.injEq] at h
    obtain ⟨rfl, rfl⟩ := h
    go_enter Try.func23, Try.ntmps23
    go_wp2_with (first | (go_at_call 53; refine (impl_IsGame.calls k _ _ l0 false _ HR0.out HC0.out A1.out).mono ?_; rintro e w1 ⟨rfl, hb⟩; have HB := Aside0.mk hb; clear hb))
    go_ret2
    exact ⟨_, rfl, Kd.S_nil _ _ _ _ _, HB.out⟩
  | true =>
    rw [if_pos rfl] at h
    by_cases hc : jd.wfB l0 = true ∧ 0 < l0.length
    · rw [if_pos hc] at h
      simp only [Option.some.injEq, Prod.mk.injEq] at h
      obtain ⟨rfl, rfl⟩ := h
      have HW := Aside0.mk hc
      clear hc
      go_enter Try.func23, Try.ntmps23
      go_wp2_with (first
        | (go_at_call 53; refine (impl_IsGame.calls k _ _ l0 true _ HR0.out HC0.out A1.out).mono ?_; rintro e w1 ⟨rfl, hb⟩; have HB := Aside0.mk hb; clear hb)
        | (go_at_call 56; refine (tr.calls l0 HW.out.1 HW.out.2 A0 c0 _ (Kd.C_below HR0.out HB.out) HC0.out).mono ?_; rintro e w2 ⟨v2, rfl, hs, hb⟩; have HS := Aside0.mk (Kd.S_lower hs HB.out.size); have n0_ := Aside0.mk (below_step HB.out hb); clear HB hs hb; have HB := n0_; clear n0_))
      go_ret2
      exact ⟨_, rfl, HS.out, HB.out⟩
    · rw [if_neg hc] at h
      cases h
end Trim
theorem heldA (k : Nat) (A : Option Addr) (n c : Nat) (l : List S57) (a r : Int) (w : World) (lo hi : Nat) (h : OwnS w lo hi (.slice A n c) l) (hf : laws_heldPositionS.f k l a = some r) :
    Calls Try.prog 15 #[.slice A n c, .int .i64 a] w fun e w' => e = .returned (.int .i64 r) ∧ Below w.heap.size w w' := by
  obtain ⟨e, hc, hr⟩ := h.reads
  subst e
  exact (laws_heldPositionS.calls k A c l a r w hr hc hf).mono (fun e w' h => ⟨h.1, h.2.below⟩)
def laws_FnExactTrimGame.f (k : Nat) (l0 : List (S59)) : Option Bool := (laws_szPositionS.f k l0 1048576).bind fun t => if t < 0 then some true else (laws_toPositionS.f k l0).bind fun L => (spec_TrimGame.f k L).bind fun s => (impl_TrimGame.f k L).bind fun g => (laws_eqPositionS.f k g.1 s.1).bind fun e1 => (laws_eqPositionS.f k L L).bind fun e2 => (laws_markPositionS.f k L 1).bind fun m0 => (laws_markPositionS.f k g.1 1).bind fun m1 => (laws_heldPositionS.f k m1.2 1).bind fun q => some (e1 && (e2 && (decide (g.2 = s.2) && (decide (0 ≤ m0.1) && (decide (0 ≤ m1.1) && decide (q = m1.1))))))
set_option maxHeartbeats 8000000 in
set_option maxRecDepth 100000 in
theorem laws_FnExactTrimGame.calls (k : Nat) (A0 : Option Addr) (c0 : Nat) (l0 : List (S59)) (r : Bool) (hr_ : Aside0 (r = true)) (w : World) (hr0 : Kd.C k59 w A0 l0.length l0) (hc0 : l0.length ≤ c0) (h : laws_FnExactTrimGame.f k l0 = some r) :
    Calls Try.prog 6 #[.slice A0 l0.length c0] w fun e w' => e = .returned (.bool r) ∧ Below w.heap.size w w' := by
  have HR0 := Aside0.mk hr0
  have HC0 := Aside0.mk hc0
  clear hr0 hc0
  have HB := Aside0.mk (Below.refl w.heap.size w)
  obtain rfl := hr_.out
  unfold laws_FnExactTrimGame.f at h
  obtain ⟨t0, A_, h⟩ := Option.bind_eq_some_iff.mp h
  have A_sz := Aside0.mk A_
  clear A_
  by_cases c0_ : t0 < 0
  · have c1_ : decide (t0 < 0) = true := decide_eq_true c0_
    clear c0_ h
    go_enter Try.func6, Try.ntmps6
    go_wp2_with (first
      | ((with_reducible refine gate_callee (f := 16) rfl ?_); refine goesL_ (some 16) rfl rfl Try.func16 (by kernel_rfl) rfl #[.slice A0 l0.length c0, .int .i64 1048576] rfl (by (try simp only [List.map_toArray, List.map_cons, List.map_nil]); first | done | rfl) ?_; refine (laws_szPositionS.calls k _ _ l0 1048576 t0 _ (Kd.C_below HR0.out HB.out) HC0.out A_sz.out).mono ?_; rintro e wz1 ⟨rfl, hb⟩; refine ⟨_, rfl, ?_⟩; have nB_ := Aside0.mk (below_step HB.out hb); clear HB; have HB := nB_; clear nB_; clear hb))
    go_ret
    exact ⟨rfl, HB.out⟩
  · have c1_ : decide (t0 < 0) = false := decide_eq_false c0_
    rw [if_neg c0_] at h
    clear c0_
    obtain ⟨L, A_, h⟩ := Option.bind_eq_some_iff.mp h
    have A_to := Aside0.mk A_
    clear A_
    obtain ⟨⟨s1, sb⟩, A_, h⟩ := Option.bind_eq_some_iff.mp h
    have A_sp := Aside0.mk A_
    clear A_
    obtain ⟨⟨g1, gb⟩, A_, h⟩ := Option.bind_eq_some_iff.mp h
    have A_im := Aside0.mk A_
    clear A_
    obtain ⟨e1, A_, h⟩ := Option.bind_eq_some_iff.mp h
    have A_e1 := Aside0.mk A_
    clear A_
    obtain ⟨e2, A_, h⟩ := Option.bind_eq_some_iff.mp h
    have A_e2 := Aside0.mk A_
    clear A_
    obtain ⟨⟨m0, l0m⟩, A_, h⟩ := Option.bind_eq_some_iff.mp h
    have A_k0 := Aside0.mk A_
    clear A_
    obtain ⟨⟨m1, l1m⟩, A_, h⟩ := Option.bind_eq_some_iff.mp h
    have A_k1 := Aside0.mk A_
    clear A_
    obtain ⟨q, A_, h⟩ := Option.bind_eq_some_iff.mp h
    have A_h := Aside0.mk A_
    clear A_
    simp only [Option.some.injEq, Bool.and_eq_true, decide_eq_true_eq] at h
    obtain ⟨rfl, rfl, rfl, hm0, hm1, rfl⟩ := h
    have d0_ : decide (m0 < 0) = false := decide_eq_false (by omega)
    have d1_ : decide (q < 0) = false := decide_eq_false (by omega)
    clear hm0 hm1
    go_enter Try.func6, Try.ntmps6
    go_wp2_with (first
      | ((with_reducible refine gate_callee (f := 16) rfl ?_); refine goesL_ (some 16) rfl rfl Try.func16 (by kernel_rfl) rfl #[.slice A0 l0.length c0, .int .i64 1048576] rfl (by (try simp only [List.map_toArray, List.map_cons, List.map_nil]); first | done | rfl) ?_; refine (laws_szPositionS.calls k _ _ l0 1048576 t0 _ (Kd.C_below HR0.out HB.out) HC0.out A_sz.out).mono ?_; rintro e wz1 ⟨rfl, hb⟩; refine ⟨_, rfl, ?_⟩; have nB_ := Aside0.mk (below_step HB.out hb); clear HB; have HB := nB_; clear nB_; clear hb)
      | ((with_reducible refine gate_callee (f := 18) rfl ?_); refine goesL_ (some 21) rfl rfl Try.func18 (by kernel_rfl) rfl #[.slice A0 l0.length c0] rfl (by (try simp only [List.map_toArray, List.map_cons, List.map_nil]); first | done | rfl) ?_; refine (laws_toPositionS.callsA k _ _ l0 L _ (Kd.C_below HR0.out HB.out) HC0.out A_to.out).mono ?_; rintro e wz2 ⟨v, rfl, hs, hb⟩; refine ⟨_, rfl, ?_⟩; have HLX1 := Aside0.mk HB.out.size; have nB_ := Aside0.mk (below_step HB.out hb); clear HB; have HB := nB_; clear nB_; have RX1 := Aside0.mk (OwnS.of hs); obtain ⟨AX1, cX1, rfl, hc_⟩ := RX1.out.form; clear hc_ hs; clear hb)
      | ((with_reducible refine gate_callee (f := 22) rfl ?_); refine goesL_ (some 22) rfl rfl Try.func22 (by kernel_rfl) rfl #[.slice AX1 L.length cX1] rfl (by (try simp only [List.map_toArray, List.map_cons, List.map_nil]); first | done | rfl) ?_; refine (spec_TrimGame.callsA k _ _ L s1 _ _ RX1.out.reads.2.2 RX1.out.reads.2.1 A_sp.out).mono ?_; rintro e wz3 ⟨v, rfl, hs, hb⟩; refine ⟨_, rfl, ?_⟩; have DX1_Sp := Aside0.mk RX1.out.1; have HLSp := Aside0.mk HB.out.size; have nX1_ := Aside0.mk (OwnS.below RX1.out hb); clear RX1; have RX1 := nX1_; clear nX1_; have nB_ := Aside0.mk (below_step HB.out hb); clear HB; have HB := nB_; clear nB_; have RSp := Aside0.mk (OwnS.of hs); obtain ⟨ASp, cSp, rfl, hc_⟩ := RSp.out.form; clear hc_ hs; clear hb)
      | ((with_reducible refine gate_callee (f := 18) rfl ?_); refine goesL_ (some 26) rfl rfl Try.func18 (by kernel_rfl) rfl #[.slice A0 l0.length c0] rfl (by (try simp only [List.map_toArray, List.map_cons, List.map_nil]); first | done | rfl) ?_; refine (laws_toPositionS.callsA k _ _ l0 L _ (Kd.C_below HR0.out HB.out) HC0.out A_to.out).mono ?_; rintro e wz4 ⟨v, rfl, hs, hb⟩; refine ⟨_, rfl, ?_⟩; have DSp_X0 := Aside0.mk RSp.out.1; have HLX0 := Aside0.mk HB.out.size; have nSp_ := Aside0.mk (OwnS.below RSp.out hb); clear RSp; have RSp := nSp_; clear nSp_; have nB_ := Aside0.mk (below_step HB.out hb); clear HB; have HB := nB_; clear nB_; have RX0 := Aside0.mk (OwnS.of hs); obtain ⟨AX0, cX0, rfl, hc_⟩ := RX0.out.form; clear hc_ hs; clear hb)
      | ((with_reducible refine gate_callee (f := 23) rfl ?_); refine goesL_ (some 29) rfl rfl Try.func23 (by kernel_rfl) rfl #[.slice AX0 L.length cX0] rfl (by (try simp only [List.map_toArray, List.map_cons, List.map_nil]); first | done | rfl) ?_; refine (impl_TrimGame.callsA k _ _ L g1 _ _ RX0.out.reads.2.2 RX0.out.reads.2.1 A_im.out).mono ?_; rintro e wz5 ⟨v, rfl, hs, hb⟩; refine ⟨_, rfl, ?_⟩; have DSp_G := Aside0.mk RSp.out.1; have DX0_G := Aside0.mk RX0.out.1; have HLG := Aside0.mk HB.out.size; have nSp_ := Aside0.mk (OwnS.below RSp.out hb); have nX0_ := Aside0.mk (OwnS.below RX0.out hb); clear RSp RX0; have RSp := nSp_; have RX0 := nX0_; clear nSp_ nX0_; have nB_ := Aside0.mk (below_step HB.out hb); clear HB; have HB := nB_; clear nB_; have RG := Aside0.mk (OwnS.of hs); obtain ⟨AG, cG, rfl, hc_⟩ := RG.out.form; clear hc_ hs; clear hb)
      | ((with_reducible refine gate_callee (f := 13) rfl ?_); refine goesL_ (some 34) rfl rfl Try.func13 (by kernel_rfl) rfl #[.slice AG g1.length cG, .slice ASp s1.length cSp] rfl (by (try simp only [List.map_toArray, List.map_cons, List.map_nil]); first | done | rfl) ?_; refine (laws_eqPositionS.calls k _ _ g1 _ _ s1 true _ RG.out.reads.2.2 RG.out.reads.2.1 RSp.out.reads.2.2 RSp.out.reads.2.1 A_e1.out).mono ?_; rintro e wz6 ⟨rfl, hb⟩; refine ⟨_, rfl, ?_⟩; have nSp_ := Aside0.mk (OwnS.below RSp.out hb); have nX0_ := Aside0.mk (OwnS.below RX0.out hb); have nG_ := Aside0.mk (OwnS.below RG.out hb); clear RSp RX0 RG; have RSp := nSp_; have RX0 := nX0_; have RG := nG_; clear nSp_ nX0_ nG_; have nB_ := Aside0.mk (below_step HB.out hb); clear HB; have HB := nB_; clear nB_; clear hb)
      | ((with_reducible refine gate_callee (f := 18) rfl ?_); refine goesL_ (some 43) rfl rfl Try.func18 (by kernel_rfl) rfl #[.slice A0 l0.length c0] rfl (by (try simp only [List.map_toArray, List.map_cons, List.map_nil]); first | done | rfl) ?_; refine (laws_toPositionS.callsA k _ _ l0 L _ (Kd.C_below HR0.out HB.out) HC0.out A_to.out).mono ?_; rintro e wz7 ⟨v, rfl, hs, hb⟩; refine ⟨_, rfl, ?_⟩; have DSp_X2 := Aside0.mk RSp.out.1; have DX0_X2 := Aside0.mk RX0.out.1; have DG_X2 := Aside0.mk RG.out.1; have HLX2 := Aside0.mk HB.out.size; have nSp_ := Aside0.mk (OwnS.below RSp.out hb); have nX0_ := Aside0.mk (OwnS.below RX0.out hb); have nG_ := Aside0.mk (OwnS.below RG.out hb); clear RSp RX0 RG; have RSp := nSp_; have RX0 := nX0_; have RG := nG_; clear nSp_ nX0_ nG_; have nB_ := Aside0.mk (below_step HB.out hb); clear HB; have HB := nB_; clear nB_; have RX2 := Aside0.mk (OwnS.of hs); obtain ⟨AX2, cX2, rfl, hc_⟩ := RX2.out.form; clear hc_ hs; clear hb)
      | ((with_reducible refine gate_callee (f := 13) rfl ?_); refine goesL_ (some 44) rfl rfl Try.func13 (by kernel_rfl) rfl #[.slice AX0 L.length cX0, .slice AX2 L.length cX2] rfl (by (try simp only [List.map_toArray, List.map_cons, List.map_nil]); first | done | rfl) ?_; refine (laws_eqPositionS.calls k _ _ L _ _ L true _ RX0.out.reads.2.2 RX0.out.reads.2.1 RX2.out.reads.2.2 RX2.out.reads.2.1 A_e2.out).mono ?_; rintro e wz8 ⟨rfl, hb⟩; refine ⟨_, rfl, ?_⟩; have nSp_ := Aside0.mk (OwnS.below RSp.out hb); have nX0_ := Aside0.mk (OwnS.below RX0.out hb); have nG_ := Aside0.mk (OwnS.below RG.out hb); have nX2_ := Aside0.mk (OwnS.below RX2.out hb); clear RSp RX0 RG RX2; have RSp := nSp_; have RX0 := nX0_; have RG := nG_; have RX2 := nX2_; clear nSp_ nX0_ nG_ nX2_; have nB_ := Aside0.mk (below_step HB.out hb); clear HB; have HB := nB_; clear nB_; clear hb)
      | ((with_reducible refine gate_callee (f := 14) rfl ?_); refine goesL_ (some 48) rfl rfl Try.func14 (by kernel_rfl) rfl #[.slice AX0 L.length cX0, .int .i64 1] rfl (by (try simp only [List.map_toArray, List.map_cons, List.map_nil]); first | done | rfl) ?_; refine (laws_markPositionS.callsA k _ _ _ L 1 m0 l0m w _ HB.out HLX0.out RX0.out A_k0.out).mono ?_; rintro e wz9 ⟨rfl, hs, hb, hk⟩; refine ⟨_, rfl, ?_⟩; have nSp_ := Aside0.mk (OwnS.kept RSp.out hk (.inl DSp_X0.out)); have nG_ := Aside0.mk (OwnS.kept RG.out hk (.inr DX0_G.out)); clear RSp RG; have RSp := nSp_; have RG := nG_; clear nSp_ nG_; clear HB RX0; have HB := Aside0.mk hb; have RX0 := Aside0.mk hs; clear hb hs hk)
      | (go_at_call 13; refine (laws_eqPositionS.calls k _ _ g1 _ _ s1 true _ RG.out.reads.2.2 RG.out.reads.2.1 RSp.out.reads.2.2 RSp.out.reads.2.1 A_e1.out).mono ?_; rintro e wz10 ⟨rfl, hb⟩; have nSp_ := Aside0.mk (OwnS.below RSp.out hb); have nG_ := Aside0.mk (OwnS.below RG.out hb); clear RSp RG; have RSp := nSp_; have RG := nG_; clear nSp_ nG_; have nB_ := Aside0.mk (below_step HB.out hb); clear HB; have HB := nB_; clear nB_; clear hb)
      | ((with_reducible refine gate_callee (f := 14) rfl ?_); refine goesL_ (some 64) rfl rfl Try.func14 (by kernel_rfl) rfl #[.slice AG g1.length cG, .int .i64 1] rfl (by (try simp only [List.map_toArray, List.map_cons, List.map_nil]); first | done | rfl) ?_; refine (laws_markPositionS.callsA k _ _ _ g1 1 q l1m w _ HB.out HLG.out RG.out A_k1.out).mono ?_; rintro e wz11 ⟨rfl, hs, hb, hk⟩; refine ⟨_, rfl, ?_⟩; have nSp_ := Aside0.mk (OwnS.kept RSp.out hk (.inl DSp_G.out)); clear RSp; have RSp := nSp_; clear nSp_; clear HB RG; have HB := Aside0.mk hb; have RG := Aside0.mk hs; clear hb hs hk)
      | ((with_reducible refine gate_callee (f := 15) rfl ?_); refine goesL_ (some 67) rfl rfl Try.func15 (by kernel_rfl) rfl #[.slice AG g1.length cG, .int .i64 1] rfl (by (try simp only [List.map_toArray, List.map_cons, List.map_nil]); first | done | rfl) ?_; refine (heldA k _ _ _ l1m 1 q _ _ _ RG.out A_h.out).mono ?_; rintro e wz12 ⟨rfl, hb⟩; refine ⟨_, rfl, ?_⟩; have nSp_ := Aside0.mk (OwnS.below RSp.out hb); have nG_ := Aside0.mk (OwnS.below RG.out hb); clear RSp RG; have RSp := nSp_; have RG := nG_; clear nSp_ nG_; have nB_ := Aside0.mk (below_step HB.out hb); clear HB; have HB := nB_; clear nB_; clear hb)
      | ((with_reducible refine gate_callee (f := 18) rfl ?_); refine goesL_ (some 75) rfl rfl Try.func18 (by kernel_rfl) rfl #[.slice A0 l0.length c0] rfl (by (try simp only [List.map_toArray, List.map_cons, List.map_nil]); first | done | rfl) ?_; refine (laws_toPositionS.callsA k _ _ l0 L _ (Kd.C_below HR0.out HB.out) HC0.out A_to.out).mono ?_; rintro e wz13 ⟨v, rfl, hs, hb⟩; refine ⟨_, rfl, ?_⟩; have DSp_X3 := Aside0.mk RSp.out.1; have DG_X3 := Aside0.mk RG.out.1; have HLX3 := Aside0.mk HB.out.size; have nSp_ := Aside0.mk (OwnS.below RSp.out hb); have nG_ := Aside0.mk (OwnS.below RG.out hb); clear RSp RG; have RSp := nSp_; have RG := nG_; clear nSp_ nG_; have nB_ := Aside0.mk (below_step HB.out hb); clear HB; have HB := nB_; clear nB_; have RX3 := Aside0.mk (OwnS.of hs); obtain ⟨AX3, cX3, rfl, hc_⟩ := RX3.out.form; clear hc_ hs; clear hb)
      | ((with_reducible refine gate_callee (f := 23) rfl ?_); refine goesL_ (some 76) rfl rfl Try.func23 (by kernel_rfl) rfl #[.slice AX3 L.length cX3] rfl (by (try simp only [List.map_toArray, List.map_cons, List.map_nil]); first | done | rfl) ?_; refine (impl_TrimGame.callsA k _ _ L g1 _ _ RX3.out.reads.2.2 RX3.out.reads.2.1 A_im.out).mono ?_; rintro e wz14 ⟨v, rfl, hs, hb⟩; refine ⟨_, rfl, ?_⟩; have DSp_H := Aside0.mk RSp.out.1; have DG_H := Aside0.mk RG.out.1; have DX3_H := Aside0.mk RX3.out.1; have HLH := Aside0.mk HB.out.size; have nSp_ := Aside0.mk (OwnS.below RSp.out hb); have nG_ := Aside0.mk (OwnS.below RG.out hb); have nX3_ := Aside0.mk (OwnS.below RX3.out hb); clear RSp RG RX3; have RSp := nSp_; have RG := nG_; have RX3 := nX3_; clear nSp_ nG_ nX3_; have nB_ := Aside0.mk (below_step HB.out hb); clear HB; have HB := nB_; clear nB_; have RH := Aside0.mk (OwnS.of hs); obtain ⟨AH, cH, rfl, hc_⟩ := RH.out.form; clear hc_ hs; clear hb)
      | ((with_reducible refine gate_callee (f := 13) rfl ?_); refine goesL_ (some 81) rfl rfl Try.func13 (by kernel_rfl) rfl #[.slice AH g1.length cH, .slice ASp s1.length cSp] rfl (by (try simp only [List.map_toArray, List.map_cons, List.map_nil]); first | done | rfl) ?_; refine (laws_eqPositionS.calls k _ _ g1 _ _ s1 true _ RH.out.reads.2.2 RH.out.reads.2.1 RSp.out.reads.2.2 RSp.out.reads.2.1 A_e1.out).mono ?_; rintro e wz15 ⟨rfl, hb⟩; refine ⟨_, rfl, ?_⟩; have nSp_ := Aside0.mk (OwnS.below RSp.out hb); have nG_ := Aside0.mk (OwnS.below RG.out hb); have nH_ := Aside0.mk (OwnS.below RH.out hb); clear RSp RG RH; have RSp := nSp_; have RG := nG_; have RH := nH_; clear nSp_ nG_ nH_; have nB_ := Aside0.mk (below_step HB.out hb); clear HB; have HB := nB_; clear nB_; clear hb)
      | ((with_reducible refine gate_callee (f := 15) rfl ?_); refine goesL_ (some 90) rfl rfl Try.func15 (by kernel_rfl) rfl #[.slice AG g1.length cG, .int .i64 1] rfl (by (try simp only [List.map_toArray, List.map_cons, List.map_nil]); first | done | rfl) ?_; refine (heldA k _ _ _ l1m 1 q _ _ _ RG.out A_h.out).mono ?_; rintro e wz16 ⟨rfl, hb⟩; refine ⟨_, rfl, ?_⟩; have nSp_ := Aside0.mk (OwnS.below RSp.out hb); have nG_ := Aside0.mk (OwnS.below RG.out hb); clear RSp RG; have RSp := nSp_; have RG := nG_; clear nSp_ nG_; have nB_ := Aside0.mk (below_step HB.out hb); clear HB; have HB := nB_; clear nB_; clear hb))
    go_ret
    exact ⟨rfl, HB.out⟩

end Go.Proofs.Ytpiafobcmhfclaa.QFnExactTrimGame
