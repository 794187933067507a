/- The Go functions that the law FnExactDominatedOf reaches, as Lean functions, and what their calls do. Written by a program of this session. -/
import Derived.Test.YtpiafobcmhfclaaQFnExactDominatedOfx0
import Derived.Test.YtpiafobcmhfclaaQFnExactDominatedOfx6
namespace Go.Proofs.Ytpiafobcmhfclaa.QFnExactDominatedOf
open Go.RowKit Go.Proofs.YtpiafobcmhfclaaW.PrintWords Go.Proofs.YtpiafobcmhfclaaW.PrintLast Go.Proofs.YtpiafobcmhfclaaW.PrintMore
attribute [local go_sem] max2_int min2_int max_two min_two max_three min_three max_four min_four   -- for this text's walks alone
set_option linter.unusedVariables false
set_option linter.unusedSimpArgs false

/-! ### impl_DominatedOf: function 30 -/
/-! #### atMost: a table of pairs, through the recursion -/
def jd.le : Nat → List S57 → Int → Int → Bool
  | 0, _, _, _ => true
  | k + 1, g, a, b => (rd_T57 g a).f0.all (fun x => !jd.le k g b x) && (rd_T57 g b).f1.all (fun y => !jd.le k g y a)
theorem jd.all_congr {α : Type} {p q : α → Bool} : ∀ {l : List α}, (∀ x ∈ l, p x = q x) → l.all p = l.all q
  | [], _ => rfl
  | x :: l, h => by rw [List.all_cons, List.all_cons, h x (List.mem_cons_self ..), jd.all_congr (fun y hy => h y (List.mem_cons_of_mem _ hy))]
/-- Each position's options lie below it. -/
def jd.Wf (g : List S57) : Prop := g.length ≤ 40 ∧ ∀ i : Nat, ∀ h : i < g.length, (∀ x ∈ (g[i]'h).f0, 0 ≤ x ∧ x < (i : Int)) ∧ ∀ x ∈ (g[i]'h).f1, 0 ≤ x ∧ x < (i : Int)
theorem jd.at {g : List S57} (i : Nat) (h : i < g.length) : rd_T57 g (i : Int) = g[i] := by simp [rd_T57, List.getD_eq_getElem?_getD, List.getElem?_eq_getElem h]
theorem jd.stable {g : List S57} (hw : jd.Wf g) : ∀ (k k' : Nat) (a b : Nat), a < g.length → b < g.length → a + b < k → a + b < k' → jd.le k g a b = jd.le k' g a b := by
  intro k
  induction k with
  | zero => intro k' a b _ _ h; omega
  | succ k ih =>
    intro k' a b ha hb h h'
    obtain ⟨k', rfl⟩ : ∃ m, k' = m + 1 := ⟨k' - 1, by omega⟩
    have q1 : (rd_T57 g (a : Int)).f0.all (fun x => !jd.le k g b x) = (rd_T57 g (a : Int)).f0.all (fun x => !jd.le k' g b x) := by
      rw [jd.at a ha]
      refine jd.all_congr ?_
      intro x hx
      obtain ⟨x1, x2⟩ := (hw.2 a ha).1 x hx
      obtain ⟨n, rfl⟩ : ∃ n : Nat, x = (n : Int) := ⟨x.toNat, by omega⟩
      rw [ih k' b n hb (by omega) (by omega) (by omega)]
    have q2 : (rd_T57 g (b : Int)).f1.all (fun y => !jd.le k g y a) = (rd_T57 g (b : Int)).f1.all (fun y => !jd.le k' g y a) := by
      rw [jd.at b hb]
      refine jd.all_congr ?_
      intro x hx
      obtain ⟨x1, x2⟩ := (hw.2 b hb).2 x hx
      obtain ⟨n, rfl⟩ : ∃ n : Nat, x = (n : Int) := ⟨x.toNat, by omega⟩
      rw [ih k' n a (by omega) ha (by omega) (by omega)]
    unfold jd.le
    rw [q1, q2]
def jd.LE (g : List S57) (a b : Nat) : Bool := jd.le (a + b + 1) g a b
theorem jd.LE_eq {g : List S57} (hw : jd.Wf g) (a b : Nat) (ha : a < g.length) (hb : b < g.length) : jd.LE g a b = ((g[a]'ha).f0.all (fun x => !jd.LE g b x.toNat) && (g[b]'hb).f1.all (fun y => !jd.LE g y.toNat a)) := by
  unfold jd.LE
  rw [jd.le, jd.at a ha, jd.at b hb]
  congr 1
  · refine jd.all_congr ?_
    intro x hx
    obtain ⟨x1, x2⟩ := (hw.2 a ha).1 x hx
    obtain ⟨n, rfl⟩ : ∃ n : Nat, x = (n : Int) := ⟨x.toNat, by omega⟩
    rw [Int.toNat_natCast, jd.stable hw _ (b + n + 1) b n hb (by omega) (by omega) (by omega)]
  · refine jd.all_congr ?_
    intro x hx
    obtain ⟨x1, x2⟩ := (hw.2 b hb).2 x hx
    obtain ⟨n, rfl⟩ : ∃ n : Nat, x = (n : Int) := ⟨x.toNat, by omega⟩
    rw [Int.toNat_natCast, jd.stable hw _ (n + a + 1) n a (by omega) ha (by omega) (by omega)]
theorem jd.two : MpP.Two Try.prog 107 3 := ⟨⟨Try.underlying107, by kernel_rfl, by kernel_rfl, by kernel_rfl⟩, Try.underlying3, ⟨Try.prog.types.size - 1, by kernel_rfl⟩⟩
theorem jd.zB (w : World) : (zeroValue 4).run Try.prog w = .ok (.bool false) w := by kernel_rfl
/-- A judge: its game, and its table, which holds what is so. -/
def jd.J (g : List S57) (A : Option Addr) (c bj bm : Nat) (w : World) : Prop :=
  w.heap[bj]? = some (.cells #[.slice A g.length c, .map (some bm)] 103 (0, 0)) ∧ ∃ f, MpP.OwnP w Try.prog 107 4 bm f ∧ ∀ p y, f p = some y → y = jd.LE g p.1 p.2
theorem jd.J.ne {g : List S57} {A : Option Addr} {c bj bm : Nat} {w : World} (h : jd.J g A c bj bm w) : bj ≠ bm := by
  rintro rfl
  obtain ⟨h1, f, ⟨n, ⟨D, ⟨es, cl, hb, _⟩, _⟩, _⟩, _⟩ := h
  rw [h1] at hb
  cases hb
theorem jd.J.kept {g : List S57} {A : Option Addr} {c bj bm : Nat} {w w' : World} {row : Option Nat} (h : jd.J g A c bj bm w) (hg : w.grownBy w' row) (h1 : some bj ≠ row) (h2 : some bm ≠ row) : jd.J g A c bj bm w' := by
  obtain ⟨q1, f, q2, q3⟩ := h
  exact ⟨blk_grown q1 hg h1, f, q2.kept hg h2, q3⟩
theorem jd.but {a c : World} (h : a.grownBy c none) (row : Option Nat) : a.grownBy c row := ⟨h.os, h.tape, h.output, h.size, fun i hi _ => h.block i hi (by simp)⟩
theorem jd.all_snoc {α : Type} (l : List α) (p : α → Bool) (n : Nat) (h : n < l.length) : (l.take (n + 1)).all p = ((l.take n).all p && p l[n]) := by
  rw [List.take_succ_eq_append_getElem h, List.all_append]
  simp
set_option maxHeartbeats 4000000 in
set_option maxRecDepth 100000 in
theorem jd.atMost (g : List S57) (hw : jd.Wf g) (A : Option Addr) (c : Nat) (w0 : World) (hr : Kd.C k57 w0 A g.length g) (hc : g.length ≤ c) (bj bm : Nat) (hbj : w0.heap.size ≤ bj) (hbm : w0.heap.size ≤ bm) :
    ∀ (N a b : Nat), a + b < N → a < g.length → b < g.length → ∀ w, Below w0.heap.size w0 w → jd.J g A c bj bm w →
      Calls Try.prog 82 #[.pointer (some ⟨bj, 0, none⟩), .int .i64 (a : Int), .int .i64 (b : Int)] w fun e w' => e = .returned (.bool (jd.LE g a b)) ∧ jd.J g A c bj bm w' ∧ Below w0.heap.size w0 w' ∧ w.grownBy w' (some bm) := by
  intro N
  induction N with
  | zero => intro a b h; omega
  | succ N IH =>
    intro a b hab ha hb w hB hJ
    have hne := hJ.ne
    have hg40 := hw.1
    have hsm : MpP.Small (a, b) := ⟨by omega, by omega⟩
    have hLE := jd.LE_eq hw a b ha hb
    have HJ0 := Aside0.mk hJ
    have hJlt := blk_lt hJ.1
    have hJlt2 : bm < w.heap.size := by obtain ⟨_, f, q, _⟩ := hJ; exact q.lt
    obtain ⟨ada, Al, cl, Ar, cr, e1, x1, x2, l1, C1, l2, C2⟩ := at_T57 hr (a : Int) (by omega) (by omega)
    obtain ⟨adb, Bl, dl, Br, dr, e2, y1, y2, m1, D1, m2, D2⟩ := at_T57 hr (b : Int) (by omega) (by omega)
    cases e1
    cases e2
    rw [jd.at a ha] at x1 C1 l1
    rw [jd.at b hb] at y2 D2 m2
    generalize hLa : (g[a]'ha).f0 = La at x1 C1 l1 hLE
    generalize hRb : (g[b]'hb).f1 = Rb at y2 D2 m2 hLE
    have hLaw : ∀ x ∈ La, 0 ≤ x ∧ x < (a : Int) := by rw [← hLa]; exact (hw.2 a ha).1
    have hRbw : ∀ x ∈ Rb, 0 ≤ x ∧ x < (b : Int) := by rw [← hRb]; exact (hw.2 b hb).2
    have HLE := Aside0.mk hLE
    have HLA := Aside0.mk hLaw
    have HRB := Aside0.mk hRbw
    have HC1 := Aside0.mk C1
    have HD2 := Aside0.mk D2
    have X1 := Aside0.mk x1
    have Y2 := Aside0.mk y2
    clear hLE hLaw hRbw C1 C2 D1 D2 x1 x2 y1 y2 l1 l2 m1 m2 hLa hRb
    obtain ⟨hj, f, hK, hF⟩ := hJ
    have HB := Aside0.mk hB
    have HI := Aside0.mk IH
    -- the key's block
    obtain ⟨w1, hw1⟩ : ∃ w1, w1 = w.alloc (.cells #[.int .i64 (a : Int), .int .i64 (b : Int)] 107) := ⟨_, rfl⟩
    have z := heap_alloc_new w (.cells #[.int .i64 (a : Int), .int .i64 (b : Int)] 107)
    have hg1 : w.grownBy w1 none := by rw [hw1]; exact World.grownBy_alloc w _ _
    rw [← hw1] at z
    have hj1 := blk_grown hj hg1 (by simp)
    have hK1 := hK.kept hg1 (by simp)
    have B1 : Below w0.heap.size w0 w1 := by rw [hw1]; exact hB.alloc hB.size _
    have kc0 := (blk_cell z 0).trans rfl
    have kc1 := (blk_cell z 1).trans rfl
    have jc1 := (blk_cell hj1 1).trans rfl
    have hlk : ∀ n, (Instr.lookup 78 (.map (some bm)) (.agg #[.int .i64 (a : Int), .int .i64 (b : Int)]) true).run Try.prog (w1.drewN n) = .ok (.tuple #[.bool ((f (a, b)).getD false), .bool (f (a, b)).isSome]) (w1.drewN n) := fun n =>
      (hK1.kept (grown_of_below (pw_below_drewN (Below.refl w1.heap.size w1) n) none) (by simp)).run_ok jd.two Try.underlying78 Try.underlying4 (jd.zB _) hsm
    have HW1 := Aside0.mk hw1
    have HG1 := Aside0.mk hg1
    have HK1 := Aside0.mk z
    have HF := Aside0.mk hF
    clear z hj hB IH hr hw1 hg1 hj1 hK hK1
    go_enter Try.func82, Try.ntmps82
    go_upto_region 2 with (fail)
    rw [← HW1.out]
    cases hf : f (a, b) with
    | some y =>
      simp only [hf, Option.getD_some, Option.isSome_some] at hlk
      go_quiet ((fail))
      go_wp2
      go_ret
      exact ⟨by rw [HF.out _ _ hf]; rfl, HJ0.out.kept (HG1.out.trans (grown_of_below (pw_below_drewN (Below.refl w1.heap.size w1) _) none)) (by simp) (by simp), by first | exact pw_below_drewN B1 _ | exact B1, jd.but (HG1.out.trans (grown_of_below (pw_below_drewN (Below.refl w1.heap.size w1) _) none)) _⟩
    | none =>
      simp only [hf, Option.getD_none, Option.isSome_none] at hlk
      go_quiet ((fail))
      have G2 := HG1.out.trans (grown_of_below (pw_below_drewN (Below.refl w1.heap.size w1) nq) none)
      have B2 : Below w0.heap.size w0 (w1.drewN nq) := pw_below_drewN B1 _
      have K2 := Aside0.mk (blk_drewN HK1.out nq)
      obtain ⟨w2, hw2⟩ : ∃ w2, w2 = w1.drewN nq := ⟨_, rfl⟩
      rw [← hw2] at G2 B2 K2 ⊢
      have HJ := Aside0.mk (HJ0.out.kept G2 (by simp) (by simp))
      have HG := Aside0.mk (jd.but G2 (some bm))
      have HB2 := Aside0.mk B2
      have HKL := Aside0.mk (show w.heap.size ≠ bj from fun e => by rw [← e] at hJlt; exact Nat.lt_irrefl _ hJlt)
      have HKM := Aside0.mk (show w.heap.size ≠ bm from fun e => by rw [← e] at hJlt2; exact Nat.lt_irrefl _ hJlt2)
      clear hw2 G2 B2 B1 kc0 kc1 jc1 hlk hf HB HJ0 HW1 HG1 HK1 HF hJlt hJlt2
      have jc0 := (blk_cell HJ.out.1 0).trans rfl
      have x1 := (HB2.out.cell (World.block_lt_of_cell? w0 _ X1.out)).trans X1.out
      have hbga : decide ((a : Int) < (g.length : Int)) = true := decide_eq_true (by omega)
      have hbla : La.length ≤ 9223372036854775807 := HC1.out.2.1
      have hbrb : Rb.length ≤ 9223372036854775807 := HD2.out.2.1
      simp only [Int.toNat_natCast] at x1
      go_wp2
      clear jc0 x1
      go_loopg [10, 38] La.length (fun gg s10 s38 wr => ∃ n : Nat, n ≤ La.length ∧ La.length - n ≤ gg ∧ s38 = .int .i64 n ∧ s10 = .bool ((La.take n).all (fun x => !jd.LE g b x.toNat)) ∧ Aside0 (jd.J g (some ada) c bj bm wr) ∧ Aside0 (Below w0.heap.size w0 wr) ∧ Aside0 (w.grownBy wr (some bm)) ∧ Aside0 (wr.heap[w.heap.size]? = some (.cells #[.int .i64 (a : Int), .int .i64 (b : Int)] 107 (0, 0))))
      case atStart => exact ⟨0, Nat.zero_le _, by omega, rfl, rfl, HJ, HB2, HG, K2⟩
      case round =>
        clear HJ HB2 HG K2
        obtain ⟨n, hn, hg, rfl, rfl, HJ, HB2, HG, K2⟩ := hrel
        by_cases hlt : n < La.length
        · have hltz : (n : Int) < (La.length : Int) := by omega
          obtain ⟨ad, e0, hx0⟩ := Kd.at_int HC1.out (n : Int) (by omega) hltz
          cases e0
          replace hx0 := (HB2.out.cell (World.block_lt_of_cell? w0 _ hx0)).trans hx0
          have hrd : rd La (n : Int) = La[n] := by simp [rd, List.getD_eq_getElem?_getD, List.getElem?_eq_getElem hlt]
          rw [hrd] at hx0
          simp only [Int.toNat_natCast] at hx0
          have hsn := jd.all_snoc La (fun x => !jd.LE g b x.toNat) n hlt
          obtain ⟨z1, z2⟩ := HLA.out La[n] (List.getElem_mem hlt)
          generalize hxx : La[n] = xx at hx0 hsn z1 z2
          obtain ⟨m, rfl⟩ : ∃ m : Nat, xx = (m : Int) := ⟨xx.toNat, by omega⟩
          simp only [Int.toNat_natCast] at hsn
          have HS := Aside0.mk hsn
          clear hsn hrd hxx
          cases hq : (La.take n).all (fun x => !jd.LE g b x.toNat) with
          | true =>
            have HCALL := Aside0.mk (HI.out b m (by omega) hb (by omega) wr HB2.out HJ.out)
            go_wp2_with (go_at_call 82; refine (HCALL.out).mono ?_; rintro e w5 ⟨rfl, hJ5, hB5, hG5⟩; have n0_ := Aside0.mk hJ5; have n1_ := Aside0.mk hB5; have n2_ := Aside0.mk (HG.out.trans hG5); have n3_ := Aside0.mk (blk_grown K2.out hG5 (fun e => HKM.out (Option.some.inj e))); clear HJ HB2 HG K2 HCALL hJ5 hB5 hG5 hx0; have HJ := n0_; have HB2 := n1_; have HG := n2_; have K2 := n3_; clear n0_ n1_ n2_ n3_)
            go_roundg (La.length - (n + 1))
            case measure => omega
            case rel => exact ⟨n + 1, by omega, by omega, by go_num, by rw [HS.out, hq]; rfl, HJ, HB2, HG, K2⟩
          | false =>
            go_wp2
            go_roundg (La.length - (n + 1))
            case measure => omega
            case rel => exact ⟨n + 1, by omega, by omega, by go_num, by rw [HS.out, hq]; rfl, HJ, HB2, HG, K2⟩
        · have hltz : ¬ (n : Int) < (La.length : Int) := by omega
          have hnl : n = La.length := by omega
          subst hnl
          rw [List.take_length]
          have HLE2 := HLE.out
          generalize hq : La.all (fun x => !jd.LE g b x.toNat) = q at HLE2 ⊢
          have jc0 := (blk_cell HJ.out.1 0).trans rfl
          have y2 := (HB2.out.cell (World.block_lt_of_cell? w0 _ Y2.out)).trans Y2.out
          have hbgb : decide ((b : Int) < (g.length : Int)) = true := decide_eq_true (by omega)
          simp only [Int.toNat_natCast] at y2
          have HL2 := Aside0.mk HLE2
          clear hlt hltz hg hn HLE HLE2 hq
          go_wp2
          clear jc0 y2
          go_loopg [10, 60] Rb.length (fun gg s10 s60 wq => ∃ n : Nat, n ≤ Rb.length ∧ Rb.length - n ≤ gg ∧ s60 = .int .i64 n ∧ s10 = .bool (q && (Rb.take n).all (fun y => !jd.LE g y.toNat a)) ∧ Aside0 (jd.J g (some ada) c bj bm wq) ∧ Aside0 (Below w0.heap.size w0 wq) ∧ Aside0 (w.grownBy wq (some bm)) ∧ Aside0 (wq.heap[w.heap.size]? = some (.cells #[.int .i64 (a : Int), .int .i64 (b : Int)] 107 (0, 0))))
          case atStart => exact ⟨0, Nat.zero_le _, by omega, rfl, by simp, HJ, HB2, HG, K2⟩
          case round =>
            clear HJ HB2 HG K2
            obtain ⟨n, hn, hg, rfl, rfl, HJ, HB2, HG, K2⟩ := hrel
            by_cases hlt : n < Rb.length
            · have hltz : (n : Int) < (Rb.length : Int) := by omega
              obtain ⟨ad, e0, hx0⟩ := Kd.at_int HD2.out (n : Int) (by omega) hltz
              cases e0
              replace hx0 := (HB2.out.cell (World.block_lt_of_cell? w0 _ hx0)).trans hx0
              have hrd : rd Rb (n : Int) = Rb[n] := by simp [rd, List.getD_eq_getElem?_getD, List.getElem?_eq_getElem hlt]
              rw [hrd] at hx0
              simp only [Int.toNat_natCast] at hx0
              have hsn := jd.all_snoc Rb (fun y => !jd.LE g y.toNat a) n hlt
              obtain ⟨z1, z2⟩ := HRB.out Rb[n] (List.getElem_mem hlt)
              generalize hxx : Rb[n] = xx at hx0 hsn z1 z2
              obtain ⟨m, rfl⟩ : ∃ m : Nat, xx = (m : Int) := ⟨xx.toNat, by omega⟩
              simp only [Int.toNat_natCast] at hsn
              have HS := Aside0.mk hsn
              clear hsn hrd hxx
              cases hq : (q && (Rb.take n).all (fun y => !jd.LE g y.toNat a)) with
              | true =>
                have HCALL := Aside0.mk (HI.out m a (by omega) (by omega) ha wr HB2.out HJ.out)
                go_wp2_with (go_at_call 82; refine (HCALL.out).mono ?_; rintro e w5 ⟨rfl, hJ5, hB5, hG5⟩; have n0_ := Aside0.mk hJ5; have n1_ := Aside0.mk hB5; have n2_ := Aside0.mk (HG.out.trans hG5); have n3_ := Aside0.mk (blk_grown K2.out hG5 (fun e => HKM.out (Option.some.inj e))); clear HJ HB2 HG K2 HCALL hJ5 hB5 hG5 hx0; have HJ := n0_; have HB2 := n1_; have HG := n2_; have K2 := n3_; clear n0_ n1_ n2_ n3_)
                go_roundg (Rb.length - (n + 1))
                case measure => omega
                case rel => exact ⟨n + 1, by omega, by omega, by go_num, by rw [HS.out, ← Bool.and_assoc, hq]; rfl, HJ, HB2, HG, K2⟩
              | false =>
                go_wp2
                go_roundg (Rb.length - (n + 1))
                case measure => omega
                case rel => exact ⟨n + 1, by omega, by omega, by go_num, by rw [HS.out, ← Bool.and_assoc, hq]; rfl, HJ, HB2, HG, K2⟩
            · have hltz : ¬ (n : Int) < (Rb.length : Int) := by omega
              have hnl : n = Rb.length := by omega
              subst hnl
              rw [List.take_length, ← HL2.out]
              generalize hr : jd.LE g a b = r
              have HR := Aside0.mk hr
              have jc1 := (blk_cell HJ.out.1 1).trans rfl
              have kc0 := (blk_cell K2.out 0).trans rfl
              have kc1 := (blk_cell K2.out 1).trans rfl
              clear hlt hltz hg hn hr
              go_upto_region 16 with (fail)
              go_still_tail 6, (by kernel_rfl)
              obtain ⟨hj3, f3, hK3, hF3⟩ := HJ.out
              have GD : wr.grownBy wr.drew none := grown_of_below (below_drew1 (Below.refl wr.heap.size wr)) none
              have hK4 := hK3.kept GD (by simp)
              refine MpP.step_putP hK4 jd.two Try.underlying78 Try.underlying4 (.tmp 76) (.tmp 77) (.tmp 78) (a, b) hsm r rfl rfl rfl rfl rfl ?_
              intro w9 hK9 ht9
              have GT : wr.grownBy w9 (some bm) := (jd.but GD (some bm)).trans ht9.grown
              have HJ9 := Aside0.mk (show jd.J g (some ada) c bj bm w9 from ⟨blk_grown hj3 GT (fun e => hne (Option.some.inj e)), _, hK9, fun p y hp => by
                by_cases e : p = (a, b)
                · subst e
                  rw [if_pos rfl] at hp
                  rw [← Option.some.inj hp, ← HR.out]
                · rw [if_neg e] at hp
                  exact hF3 p y hp⟩)
              have HB9 := Aside0.mk (HB2.out.grown GT HB2.out.size (fun k e => by injection e with e; omega))
              have HG9 := Aside0.mk (HG.out.trans GT)
              clear hK3 hK4 hF3 hj3 hK9 ht9 GT GD
              go_wp2
              go_ret
              exact ⟨by rw [HR.out]; rfl, HJ9.out, HB9.out, HG9.out⟩
theorem jd.find_at {α : Type} (p : α → Bool) : ∀ (l : List α) (n : Nat) (h : n < l.length), (∀ j, j < n → ∀ hj : j < l.length, p l[j] = false) → p l[n] = true → l.find? p = some l[n]
  | x :: l, 0, h, _, hp => by
    have : p x = true := hp
    rw [List.find?_cons_of_pos this]
    rfl
  | x :: l, n + 1, h, hall, hp => by
    have h0 : p x = false := hall 0 (by omega) (by simp)
    rw [List.find?_cons_of_neg (by rw [h0]; decide)]
    have hl : n < l.length := by rw [List.length_cons] at h; omega
    have := jd.find_at p l n hl (fun j hj hjl => hall (j + 1) (by omega) (by rw [List.length_cons]; omega)) hp
    rw [this]
    rfl
set_option maxHeartbeats 4000000 in
set_option maxRecDepth 100000 in
theorem jd.reversal_true (g : List S57) (hw : jd.Wf g) (A : Option Addr) (c : Nat) (w0 : World) (hr : Kd.C k57 w0 A g.length g) (hc : g.length ≤ c) (bj bm : Nat) (hbj : w0.heap.size ≤ bj) (hbm : w0.heap.size ≤ bm)
    (a x : Nat) (ha : a < g.length) (hx : x < g.length) (w : World) (hB : Below w0.heap.size w0 w) (hJ : jd.J g A c bj bm w) :
    Calls Try.prog 61 #[.pointer (some ⟨bj, 0, none⟩), .slice A g.length c, .int .i64 (a : Int), .int .i64 (x : Int), .bool true] w fun e w' => e = .returned (.int .i64 (((g[x]'hx).f1.find? (fun y => jd.LE g y.toNat a)).getD (-1))) ∧ jd.J g A c bj bm w' ∧ Below w0.heap.size w0 w' ∧ w.grownBy w' (some bm) := by
  have hAT := Aside0.mk (jd.atMost g hw A c w0 hr hc bj bm hbj hbm)
  obtain ⟨adx, Al, cl, Ar, cr, e1, x1, x2, l1, C1, l2, C2⟩ := at_T57 hr (x : Int) (by omega) (by omega)
  cases e1
  rw [jd.at x hx] at x1 x2 C1 C2 l1 l2
  replace x1 := (hB.cell (World.block_lt_of_cell? w0 _ x1)).trans x1
  replace x2 := (hB.cell (World.block_lt_of_cell? w0 _ x2)).trans x2
  simp only [Int.toNat_natCast] at x1 x2
  have hlw := (hw.2 x hx).2
  generalize (g[x]'hx).f0 = L0 at x1 C1 l1 hlw ⊢
  generalize (g[x]'hx).f1 = L1 at x2 C2 l2 hlw ⊢
  have HLW := Aside0.mk hlw
  have HC := Aside0.mk C2
  have HJ := Aside0.mk hJ
  have HB := Aside0.mk hB
  have HG := Aside0.mk (World.grownBy.refl w (some bm))
  have hbig : L1.length ≤ 9223372036854775807 := C2.2.1
  have hxg : decide ((x : Int) < (g.length : Int)) = true := decide_eq_true (by omega)
  clear C1 C2 l1 l2 hlw hJ hB hr
  go_enter Try.func61, Try.ntmps61
  go_wp2
  clear x1 x2
  go_loopg [28] L1.length (fun gg s28 wr => ∃ n : Nat, n ≤ L1.length ∧ L1.length - n ≤ gg ∧ s28 = .int .i64 n ∧ Aside0 (∀ j, j < n → ∀ hj : j < L1.length, (fun y : Int => jd.LE g y.toNat a) L1[j] = false) ∧ Aside0 (jd.J g (some adx) c bj bm wr) ∧ Aside0 (Below w0.heap.size w0 wr) ∧ Aside0 (w.grownBy wr (some bm)))
  case atStart => exact ⟨0, Nat.zero_le _, by omega, rfl, ⟨fun j hj => absurd hj (Nat.not_lt_zero _)⟩, HJ, HB, HG⟩
  case round =>
    clear HJ HB HG
    obtain ⟨n, hn, hg, rfl, HA, HJ, HB, HG⟩ := hrel
    by_cases hlt : n < L1.length
    · have hltz : (n : Int) < (L1.length : Int) := by omega
      obtain ⟨ad, e0, hx0⟩ := Kd.at_int HC.out (n : Int) (by omega) hltz
      cases e0
      replace hx0 := (HB.out.cell (World.block_lt_of_cell? w0 _ hx0)).trans hx0
      have hrd : rd L1 (n : Int) = L1[n] := by simp [rd, List.getD_eq_getElem?_getD, List.getElem?_eq_getElem hlt]
      rw [hrd] at hx0
      simp only [Int.toNat_natCast] at hx0
      have hfd := jd.find_at (fun y : Int => jd.LE g y.toNat a) L1 n hlt HA.out
      obtain ⟨z1, z2⟩ := HLW.out L1[n] (List.getElem_mem hlt)
      generalize hxx : L1[n] = xx at hx0 hfd z1 z2
      obtain ⟨m, rfl⟩ : ∃ m : Nat, xx = (m : Int) := ⟨xx.toNat, by omega⟩
      simp only [Int.toNat_natCast] at hfd
      have HF := Aside0.mk hfd
      have HX := Aside0.mk hxx
      clear hfd hrd hxx
      have hcall := hAT.out (m + a + 1) m a (by omega) (by omega) (by omega) wr HB.out HJ.out
      cases hq : jd.LE g m a with
      | true =>
        rw [hq] at hcall
        have HCALL := Aside0.mk hcall
        clear hcall
        go_wp2_with (go_at_call 82; refine (HCALL.out).mono ?_; rintro e w5 ⟨rfl, hJ5, hB5, hG5⟩; have n0_ := Aside0.mk hJ5; have n1_ := Aside0.mk hB5; have n2_ := Aside0.mk (HG.out.trans hG5); clear HJ HB HG HCALL hJ5 hB5 hG5 hx0; have HJ := n0_; have HB := n1_; have HG := n2_; clear n0_ n1_ n2_)
        go_ret
        exact ⟨by rw [HF.out hq]; rfl, HJ.out, HB.out, HG.out⟩
      | false =>
        rw [hq] at hcall
        have HCALL := Aside0.mk hcall
        clear hcall
        go_wp2_with (go_at_call 82; refine (HCALL.out).mono ?_; rintro e w5 ⟨rfl, hJ5, hB5, hG5⟩; have n0_ := Aside0.mk hJ5; have n1_ := Aside0.mk hB5; have n2_ := Aside0.mk (HG.out.trans hG5); clear HJ HB HG HCALL hJ5 hB5 hG5 hx0; have HJ := n0_; have HB := n1_; have HG := n2_; clear n0_ n1_ n2_)
        go_roundg (L1.length - (n + 1))
        case measure => omega
        case rel =>
          refine ⟨n + 1, by omega, by omega, by go_num, ⟨fun j hj hjl => ?_⟩, HJ, HB, HG⟩
          by_cases e : j = n
          · subst e
            rw [HX.out]
            simpa using hq
          · exact HA.out j (by omega) hjl
    · have hltz : ¬ (n : Int) < (L1.length : Int) := by omega
      have hnl : n = L1.length := by omega
      have HN := Aside0.mk (show L1.find? (fun y : Int => jd.LE g y.toNat a) = none from by
        rw [List.find?_eq_none]
        intro z hz
        obtain ⟨j, hj, rfl⟩ := List.mem_iff_getElem.1 hz
        have z := HA.out j (by omega) hj
        simpa using z)
      clear HA hnl
      go_wp2
      go_ret
      exact ⟨by rw [HN.out]; rfl, HJ.out, HB.out, HG.out⟩
set_option maxHeartbeats 4000000 in
set_option maxRecDepth 100000 in
theorem jd.reversal_false (g : List S57) (hw : jd.Wf g) (A : Option Addr) (c : Nat) (w0 : World) (hr : Kd.C k57 w0 A g.length g) (hc : g.length ≤ c) (bj bm : Nat) (hbj : w0.heap.size ≤ bj) (hbm : w0.heap.size ≤ bm)
    (a x : Nat) (ha : a < g.length) (hx : x < g.length) (w : World) (hB : Below w0.heap.size w0 w) (hJ : jd.J g A c bj bm w) :
    Calls Try.prog 61 #[.pointer (some ⟨bj, 0, none⟩), .slice A g.length c, .int .i64 (a : Int), .int .i64 (x : Int), .bool false] w fun e w' => e = .returned (.int .i64 (((g[x]'hx).f0.find? (fun y => jd.LE g a y.toNat)).getD (-1))) ∧ jd.J g A c bj bm w' ∧ Below w0.heap.size w0 w' ∧ w.grownBy w' (some bm) := by
  have hAT := Aside0.mk (jd.atMost g hw A c w0 hr hc bj bm hbj hbm)
  obtain ⟨adx, Al, cl, Ar, cr, e1, x1, x2, l1, C1, l2, C2⟩ := at_T57 hr (x : Int) (by omega) (by omega)
  cases e1
  rw [jd.at x hx] at x1 x2 C1 C2 l1 l2
  replace x1 := (hB.cell (World.block_lt_of_cell? w0 _ x1)).trans x1
  replace x2 := (hB.cell (World.block_lt_of_cell? w0 _ x2)).trans x2
  simp only [Int.toNat_natCast] at x1 x2
  have hlw := (hw.2 x hx).1
  generalize (g[x]'hx).f0 = L0 at x1 C1 l1 hlw ⊢
  generalize (g[x]'hx).f1 = L1 at x2 C2 l2 hlw ⊢
  have HLW := Aside0.mk hlw
  have HC := Aside0.mk C1
  have HJ := Aside0.mk hJ
  have HB := Aside0.mk hB
  have HG := Aside0.mk (World.grownBy.refl w (some bm))
  have hbig : L0.length ≤ 9223372036854775807 := C1.2.1
  have hxg : decide ((x : Int) < (g.length : Int)) = true := decide_eq_true (by omega)
  clear C1 C2 l1 l2 hlw hJ hB hr
  go_enter Try.func61, Try.ntmps61
  go_wp2
  clear x1 x2
  go_loopg [28] L0.length (fun gg s28 wr => ∃ n : Nat, n ≤ L0.length ∧ L0.length - n ≤ gg ∧ s28 = .int .i64 n ∧ Aside0 (∀ j, j < n → ∀ hj : j < L0.length, (fun y : Int => jd.LE g a y.toNat) L0[j] = false) ∧ Aside0 (jd.J g (some adx) c bj bm wr) ∧ Aside0 (Below w0.heap.size w0 wr) ∧ Aside0 (w.grownBy wr (some bm)))
  case atStart => exact ⟨0, Nat.zero_le _, by omega, rfl, ⟨fun j hj => absurd hj (Nat.not_lt_zero _)⟩, HJ, HB, HG⟩
  case round =>
    clear HJ HB HG
    obtain ⟨n, hn, hg, rfl, HA, HJ, HB, HG⟩ := hrel
    by_cases hlt : n < L0.length
    · have hltz : (n : Int) < (L0.length : Int) := by omega
      obtain ⟨ad, e0, hx0⟩ := Kd.at_int HC.out (n : Int) (by omega) hltz
      cases e0
      replace hx0 := (HB.out.cell (World.block_lt_of_cell? w0 _ hx0)).trans hx0
      have hrd : rd L0 (n : Int) = L0[n] := by simp [rd, List.getD_eq_getElem?_getD, List.getElem?_eq_getElem hlt]
      rw [hrd] at hx0
      simp only [Int.toNat_natCast] at hx0
      have hfd := jd.find_at (fun y : Int => jd.LE g a y.toNat) L0 n hlt HA.out
      obtain ⟨z1, z2⟩ := HLW.out L0[n] (List.getElem_mem hlt)
      generalize hxx : L0[n] = xx at hx0 hfd z1 z2
      obtain ⟨m, rfl⟩ : ∃ m : Nat, xx = (m : Int) := ⟨xx.toNat, by omega⟩
      simp only [Int.toNat_natCast] at hfd
      have HF := Aside0.mk hfd
      have HX := Aside0.mk hxx
      clear hfd hrd hxx
      have hcall := hAT.out (a + m + 1) a m (by omega) (by omega) (by omega) wr HB.out HJ.out
      cases hq : jd.LE g a m with
      | true =>
        rw [hq] at hcall
        have HCALL := Aside0.mk hcall
        clear hcall
        go_wp2_with (go_at_call 82; refine (HCALL.out).mono ?_; rintro e w5 ⟨rfl, hJ5, hB5, hG5⟩; have n0_ := Aside0.mk hJ5; have n1_ := Aside0.mk hB5; have n2_ := Aside0.mk (HG.out.trans hG5); clear HJ HB HG HCALL hJ5 hB5 hG5 hx0; have HJ := n0_; have HB := n1_; have HG := n2_; clear n0_ n1_ n2_)
        go_ret
        exact ⟨by rw [HF.out hq]; rfl, HJ.out, HB.out, HG.out⟩
      | false =>
        rw [hq] at hcall
        have HCALL := Aside0.mk hcall
        clear hcall
        go_wp2_with (go_at_call 82; refine (HCALL.out).mono ?_; rintro e w5 ⟨rfl, hJ5, hB5, hG5⟩; have n0_ := Aside0.mk hJ5; have n1_ := Aside0.mk hB5; have n2_ := Aside0.mk (HG.out.trans hG5); clear HJ HB HG HCALL hJ5 hB5 hG5 hx0; have HJ := n0_; have HB := n1_; have HG := n2_; clear n0_ n1_ n2_)
        go_roundg (L0.length - (n + 1))
        case measure => omega
        case rel =>
          refine ⟨n + 1, by omega, by omega, by go_num, ⟨fun j hj hjl => ?_⟩, HJ, HB, HG⟩
          by_cases e : j = n
          · subst e
            rw [HX.out]
            simpa using hq
          · exact HA.out j (by omega) hjl
    · have hltz : ¬ (n : Int) < (L0.length : Int) := by omega
      have hnl : n = L0.length := by omega
      have HN := Aside0.mk (show L0.find? (fun y : Int => jd.LE g a y.toNat) = none from by
        rw [List.find?_eq_none]
        intro z hz
        obtain ⟨j, hj, rfl⟩ := List.mem_iff_getElem.1 hz
        have z := HA.out j (by omega) hj
        simpa using z)
      clear HA hnl
      go_wp2
      go_ret
      exact ⟨by rw [HN.out]; rfl, HJ.out, HB.out, HG.out⟩
set_option maxHeartbeats 1000000 in
set_option maxRecDepth 100000 in
theorem jd.new (g : List S57) (A : Option Addr) (c : Nat) (w : World) : Calls Try.prog 59 #[.slice A g.length c] w fun e w' => ∃ bj bm : Nat, e = .returned (.pointer (some ⟨bj, 0, none⟩)) ∧ w.heap.size ≤ bj ∧ w.heap.size ≤ bm ∧ jd.J g A c bj bm w' ∧ Below w.heap.size w w' := by
  have hmm := @run_makeMap Try.prog
  go_enter Try.func59, Try.ntmps59
  go_wp2
  go_ret
  refine ⟨w.heap.size + 1, w.heap.size, rfl, by omega, by omega, ⟨?_, _, (MpP.OwnP.made w Try.prog 107 4).kept (World.grownBy_alloc _ _ none) (by simp), fun p y h => by cases h⟩, (((Below.refl _ w).alloc (Nat.le_refl _) _).alloc (by simp) _)⟩
  have z := heap_alloc_new (w.alloc (.map #[] 0)) (.cells #[.slice A g.length c, .map (some w.heap.size)] 103)
  rw [World.size_alloc] at z
  exact z
/-! #### ReversibleOf -/
def jd.wfB (g : List S57) : Bool := decide (g.length ≤ 40) && (List.range g.length).all fun i => (rd_T57 g (i : Int)).f0.all (fun x => decide (0 ≤ x) && decide (x < (i : Int))) && (rd_T57 g (i : Int)).f1.all (fun x => decide (0 ≤ x) && decide (x < (i : Int))) && (decide ((rd_T57 g (i : Int)).f0.length ≤ 1048576) && decide ((rd_T57 g (i : Int)).f1.length ≤ 1048576))
theorem jd.wf_of {g : List S57} (h : jd.wfB g = true) : jd.Wf g := by
  unfold jd.wfB at h
  rw [Bool.and_eq_true, decide_eq_true_eq, List.all_eq_true] at h
  refine ⟨h.1, fun i hi => ?_⟩
  have := h.2 i (List.mem_range.2 hi)
  rw [jd.at i hi, Bool.and_eq_true, Bool.and_eq_true, List.all_eq_true, List.all_eq_true] at this
  refine ⟨fun x hx => ?_, fun x hx => ?_⟩
  · have := this.1.1 x hx
    simpa using this
  · have := this.1.2 x hx
    simpa using this
theorem jd.short {g : List S57} (h : jd.wfB g = true) (i : Nat) (hi : i < g.length) : (g[i]'hi).f0.length ≤ 1048576 ∧ (g[i]'hi).f1.length ≤ 1048576 := by
  unfold jd.wfB at h
  rw [Bool.and_eq_true, decide_eq_true_eq, List.all_eq_true] at h
  have := h.2 i (List.mem_range.2 hi)
  rw [jd.at i hi, Bool.and_eq_true, Bool.and_eq_true] at this
  simpa using this.2
def jd.isrev (g : List S57) (a x : Int) (left : Bool) : Bool := (if left = true then (rd_T57 g x).f1 else (rd_T57 g x).f0).any (fun y => if left = true then jd.LE g y.toNat a.toNat else jd.LE g a.toNat y.toNat)
def jd.revs (g : List S57) (a : Int) (left : Bool) : List Int := (if left = true then (rd_T57 g a).f0 else (rd_T57 g a).f1).filter (fun x => jd.isrev g a x left)
theorem jd.filter_one {α : Type} (p : α → Bool) (x : α) : [x].filter p = if p x = true then [x] else [] := by
  cases h : p x <;> simp [h]
theorem jd.find_any (l : List Int) (p : Int → Bool) (h : ∀ x ∈ l, 0 ≤ x) : decide (0 ≤ (l.find? p).getD (-1)) = l.any p := by
  cases hf : l.find? p with
  | none =>
    have : l.any p = false := by
      rw [List.any_eq_false]
      rw [List.find?_eq_none] at hf
      exact hf
    rw [this]
    rfl
  | some x =>
    have h1 := List.mem_of_find?_eq_some hf
    have h2 := List.find?_some hf
    rw [List.any_eq_true.2 ⟨x, h1, h2⟩]
    exact decide_eq_true (h x h1)
theorem jd.J.map {g : List S57} {A : Option Addr} {c bj bm : Nat} {w : World} (h : jd.J g A c bj bm w) : ∃ es cl, w.heap[bm]? = some (.map es cl) := by
  obtain ⟨_, f, ⟨n, ⟨D, ⟨es, cl, hb, _⟩, _⟩, _⟩, _⟩ := h
  exact ⟨es, cl, hb⟩
theorem jd.notmap {w : World} {bm : Nat} {es : Array MapEntry} {cl : Nat} (h : w.heap[bm]? = some (.map es cl)) {k q : Nat} {cs : Array Value} (hk : w.heap[k]? = some (.cells cs q (0, 0))) : k ≠ bm := by
  rintro rfl
  rw [h] at hk
  cases hk
theorem jd.keepR {g : List S57} {A : Option Addr} {c bj bm : Nat} {w w' : World} (h : jd.J g A c bj bm w) {base : Nat} {ok : Nat → Prop} {v : Value} {xs : List Int} (hr : Kd.R (Kd.int .i64) 3 w base ok v xs) (hg : w.grownBy w' (some bm)) : Kd.R (Kd.int .i64) 3 w' base ok v xs := by
  obtain ⟨es, cl, hm⟩ := h.map
  refine Kd.R_mono (Kd.R_move (Kd.R_bound hr) (fun k hk => hg.block k hk.2.2.1 (fun e => ?_))) (fun _ hk => hk.1)
  obtain ⟨_, _, _, q, _, cells, hc⟩ := hk
  exact jd.notmap hm hc (Option.some.inj e)
theorem jd.J.row {g : List S57} {A : Option Addr} {c bj bm : Nat} {w : World} (h : jd.J g A c bj bm w) {base : Nat} {ok : Nat → Prop} {v : Value} {xs : List Int} (hr : Kd.R (Kd.int .i64) 3 w base ok v xs) : some bj ≠ v.ownBlock ∧ some bm ≠ v.ownBlock := by
  refine ⟨Kd.R_ne hr h.1 (by decide), fun e => ?_⟩
  obtain ⟨es, cl, hm⟩ := h.map
  obtain ⟨_, _, _, q, _, cells, hc⟩ := (Kd.R_bound hr).1 bm e.symm
  exact jd.notmap hm hc rfl
theorem jd.grown_set (w : World) (p : Addr) (u : Value) : w.grownBy (w.setCell p u) (some p.block) := ⟨rfl, rfl, rfl, by simp [World.setCell], fun k _ hk => Below.heap_setCell w p u k (fun e => hk (by rw [e]))⟩
set_option maxHeartbeats 1000000 in
set_option maxRecDepth 100000 in
theorem jd.sided (A0 A1 : Option Addr) (n0 c0 n1 c1 : Nat) (left : Bool) (w : World) : Calls Try.prog 60 #[.agg #[.slice A0 n0 c0, .slice A1 n1 c1], .bool left] w fun e w' => e = .returned (if left = true then .slice A0 n0 c0 else .slice A1 n1 c1) ∧ Below w.heap.size w w' := by
  have hu57 := Try.underlying57
  cases left with
  | true =>
    go_enter Try.func60, Try.ntmps60
    go_wp2
    go_ret
    exact ⟨rfl, (Below.refl _ w).alloc (Nat.le_refl _) _⟩
  | false =>
    go_enter Try.func60, Try.ntmps60
    go_wp2
    go_ret
    exact ⟨rfl, (Below.refl _ w).alloc (Nat.le_refl _) _⟩
/-! #### dominated -/
def jd.c2 (g : List S57) (left : Bool) (x y : Int) : Bool := if left = true then jd.LE g x.toNat y.toNat else jd.LE g y.toNat x.toNat
def jd.dm (g : List S57) (left : Bool) (x y : Int) : Bool := y != x && (jd.c2 g left x y && (!jd.c2 g left y x || decide (y > x)))
def jd.doms (g : List S57) (left : Bool) (l : List Int) : List Int := l.filter (fun x => l.any (fun y => jd.dm g left x y))
theorem jd.off {g : List S57} {A : Option Addr} {c bj bm : Nat} {w : World} (h : jd.J g A c bj bm w) {k q : Nat} {cs : Array Value} (hk : w.heap[k]? = some (.cells cs q (0, 0))) : some k ≠ some bm := by
  obtain ⟨es, cl, hm⟩ := h.map
  exact fun e => jd.notmap hm hk (Option.some.inj e)
/-- A predicate handed over that changes the judge's map alone. -/
def jd.Pred (g : Nat) (lb : Array Value) (p : Int → Bool) (l : List Int) (w0 : World) (bm : Nat) (Q : World → Prop) : Prop :=
  ∀ (W : World) (y : Int), y ∈ l → Below w0.heap.size w0 W → Q W → Calls Try.prog g (#[.int .i64 y] ++ lb) W fun e w' => e = .returned (.bool (p y)) ∧ Q w' ∧ Below w0.heap.size w0 w' ∧ W.grownBy w' (some bm)
set_option maxHeartbeats 400000 in
set_option maxRecDepth 100000 in
theorem jd.indexFunc (g : Nat) (lb : Array Value) (eg : ∀ args w, (callFunc g args).run Try.prog w = .ok (.enter g args) w) (p : Int → Bool) (l : List Int) (A : Option Addr) (c : Nat) (w0 w : World) (bm : Nat) (Q : World → Prop) (h0 : Below w0.heap.size w0 w) (hQ : Q w)
    (hr : Kd.C (Kd.int .i64) w0 A l.length l) (hp : jd.Pred g lb p l w0 bm Q) :
    Calls Try.prog 98 #[.slice A l.length c, .func (.func g) #[] lb] w fun e w' => ∃ r : Int, e = .returned (.int .i64 r) ∧ (Q w' ∧ Below w0.heap.size w0 w' ∧ w.grownBy w' (some bm)) ∧
      ((r = -1 ∧ ∀ x ∈ l, p x = false) ∨ ∃ k : Nat, ∃ hk : k < l.length, r = (k : Int) ∧ p l[k] = true ∧ ∀ j, j < k → ∀ hj : j < l.length, p l[j] = false) := by
  have hbig : l.length ≤ 9223372036854775807 := hr.2.1
  have HR := Aside0.mk hr
  have HP := Aside0.mk hp
  have HB := Aside0.mk h0
  have HQ := Aside0.mk hQ
  have HG := Aside0.mk (World.grownBy.refl w (some bm))
  clear hr hp h0 hQ
  go_enter Try.func98, Try.ntmps98
  go_wp2
  go_loopg [5, 8] l.length (fun gg _ s8 wr => ∃ kk : Nat, kk ≤ l.length ∧ l.length - kk ≤ gg ∧ s8 = .int .i64 kk ∧ Aside0 (Q wr) ∧ Aside0 (Below w0.heap.size w0 wr) ∧ Aside0 (w.grownBy wr (some bm)) ∧ Aside0 (∀ j, j < kk → ∀ hj : j < l.length, p l[j] = false))
  case atStart => exact ⟨0, Nat.zero_le _, by omega, rfl, HQ, HB, HG, ⟨fun j hj => absurd hj (Nat.not_lt_zero _)⟩⟩
  case round =>
    clear HQ HB HG
    obtain ⟨kk, hkk, hg, rfl, HQ, HB, HG, AF⟩ := hrel
    by_cases hlt : kk < l.length
    · have hltz : (kk : Int) < (l.length : Int) := by omega
      obtain ⟨ad, e0, hx0⟩ := Kd.at_int HR.out (kk : Int) (by omega) hltz
      cases e0
      replace hx0 := (HB.out.cell (World.block_lt_of_cell? w0 _ hx0)).trans hx0
      have hcall := HP.out wr l[kk] (List.getElem_mem hlt) HB.out HQ.out
      have hrd : rd l (kk : Int) = l[kk] := by simp [rd, List.getD_eq_getElem?_getD, List.getElem?_eq_getElem hlt]
      rw [hrd] at hx0
      clear hrd
      simp only [Int.toNat_natCast] at hx0
      generalize hy : l[kk] = y at hx0 hcall
      have B : Aside0 (l[kk] = y) := ⟨hy⟩
      clear hy
      cases hq : p y with
      | true =>
        rw [hq] at hcall
        go_wp2_with (go_at_fn g; refine hcall.mono ?_; rintro e w' ⟨rfl, hq', hb', hg'⟩)
        go_ret
        exact ⟨_, rfl, ⟨hq', hb', HG.out.trans hg'⟩, Or.inr ⟨kk, hlt, rfl, by rw [B.out]; exact hq, AF.out⟩⟩
      | false =>
        rw [hq] at hcall
        go_wp2_with (go_at_fn g; refine hcall.mono ?_; rintro e w' ⟨rfl, hq', hb', hg'⟩)
        go_roundg (l.length - (kk + 1))
        case measure => omega
        case rel =>
          refine ⟨kk + 1, by omega, by omega, by go_num, ⟨hq'⟩, ⟨hb'⟩, ⟨HG.out.trans hg'⟩, ⟨fun j hj hjl => ?_⟩⟩
          by_cases e : j = kk
          · subst e
            rw [B.out]; exact hq
          · exact AF.out j (by omega) hjl
    · have hltz : ¬ (kk : Int) < (l.length : Int) := by omega
      have : kk = l.length := by omega
      go_wp2
      go_ret
      refine ⟨_, rfl, ⟨HQ.out, HB.out, HG.out⟩, Or.inl ⟨rfl, fun x hx => ?_⟩⟩
      obtain ⟨j, hj, rfl⟩ := List.mem_iff_getElem.1 hx
      exact AF.out j (by omega) hj
set_option maxHeartbeats 400000 in
set_option maxRecDepth 100000 in
theorem jd.containsFunc (g : Nat) (lb : Array Value) (eg : ∀ args w, (callFunc g args).run Try.prog w = .ok (.enter g args) w) (p : Int → Bool) (l : List Int) (A : Option Addr) (c : Nat) (w0 w : World) (bm : Nat) (Q : World → Prop) (h0 : Below w0.heap.size w0 w) (hQ : Q w)
    (hr : Kd.C (Kd.int .i64) w0 A l.length l) (hp : jd.Pred g lb p l w0 bm Q) :
    Calls Try.prog 85 #[.slice A l.length c, .func (.func g) #[] lb] w fun e w' => e = .returned (.bool (l.any p)) ∧ Q w' ∧ Below w0.heap.size w0 w' ∧ w.grownBy w' (some bm) := by
  have hIF := (jd.indexFunc g lb eg p l A c w0 w bm Q h0 hQ hr hp).mono (R' := fun e w' => ∃ r : Int, e = .returned (.int .i64 r) ∧ decide (0 ≤ r) = l.any p ∧ Q w' ∧ Below w0.heap.size w0 w' ∧ w.grownBy w' (some bm)) (by
    rintro e w1 ⟨r, rfl, hb, hh⟩
    refine ⟨r, rfl, ?_, hb⟩
    rcases hh with ⟨rfl, hall⟩ | ⟨k, hk, rfl, hpk, _⟩
    · have : l.any p = false := by
        rw [List.any_eq_false]
        intro x hx
        rw [hall x hx]
        decide
      rw [this]
      rfl
    · have : l.any p = true := List.any_eq_true.2 ⟨_, List.getElem_mem hk, hpk⟩
      rw [this]
      exact decide_eq_true (Int.natCast_nonneg k))
  clear hr hp h0 hQ
  go_enter Try.func85, Try.ntmps85
  go_wp2_with (first | (go_at_call 98; refine hIF.mono ?_; rintro e w1 ⟨r, rfl, hd, hb⟩; have HD := Aside0.mk hd; have HB := Aside0.mk hb; clear hd hb))
  go_ret
  exact ⟨by rw [← HD.out]; rfl, HB.out⟩
/-- What the chosen order's function value tells. -/
def jd.Cmp (g : List S57) (w0 : World) (A : Option Addr) (c bj bm kb : Nat) (left : Bool) (f : Nat) (arg : Int → Int → Array Value) : Prop :=
  ∀ (x y : Nat), x < g.length → y < g.length → ∀ W, Below w0.heap.size w0 W → jd.J g A c bj bm W → W.heap[kb]? = some (.cells #[.pointer (some ⟨bj, 0, none⟩)] 69 (0, 0)) →
    Calls Try.prog f (arg x y) W fun e w' => e = .returned (.bool (jd.c2 g left x y)) ∧ jd.J g A c bj bm w' ∧ Below w0.heap.size w0 w' ∧ W.grownBy w' (some bm)
theorem jd.cmp_true (g : List S57) (hw : jd.Wf g) (A : Option Addr) (c : Nat) (w0 : World) (hr : Kd.C k57 w0 A g.length g) (hc : g.length ≤ c) (bj bm kb : Nat) (hbj : w0.heap.size ≤ bj) (hbm : w0.heap.size ≤ bm) :
    jd.Cmp g w0 A c bj bm kb true 82 (fun x y => #[.pointer (some ⟨bj, 0, none⟩), .int .i64 x, .int .i64 y]) := by
  intro x y hx hy W hB hJ _
  exact jd.atMost g hw A c w0 hr hc bj bm hbj hbm _ x y (Nat.lt_succ_self _) hx hy W hB hJ
set_option maxHeartbeats 400000 in
set_option maxRecDepth 100000 in
theorem jd.cmp_false (g : List S57) (hw : jd.Wf g) (A : Option Addr) (c : Nat) (w0 : World) (hr : Kd.C k57 w0 A g.length g) (hc : g.length ≤ c) (bj bm kb : Nat) (hbj : w0.heap.size ≤ bj) (hbm : w0.heap.size ≤ bm) :
    jd.Cmp g w0 A c bj bm kb false 84 (fun x y => #[.int .i64 x, .int .i64 y, .pointer (some ⟨kb, 0, none⟩)]) := by
  intro x y hx hy W hB hJ hkb
  have hcall := jd.atMost g hw A c w0 hr hc bj bm hbj hbm _ y x (Nat.lt_succ_self _) hy hx W hB hJ
  have HC := Aside0.mk hcall
  have ck := (blk_cell hkb 0).trans rfl
  clear hcall hr hc hB hJ hkb
  show Calls _ _ #[.int .i64 (x : Int), .int .i64 (y : Int), .pointer (some ⟨kb, 0, none⟩)] W _
  go_enter Try.func84, Try.ntmps84
  go_wp2_with (go_at_call 82; refine (HC.out).mono ?_; rintro e w5 ⟨rfl, hJ5, hB5, hG5⟩; have HP := Aside0.mk (And.intro hJ5 (And.intro hB5 hG5)); clear hJ5 hB5 hG5 ck)
  go_ret
  exact ⟨rfl, HP.out⟩
set_option maxHeartbeats 1000000 in
set_option maxRecDepth 100000 in
theorem jd.clo_true (g : List S57) (A : Option Addr) (c : Nat) (w0 : World) (bj bm kb kf kx : Nat) (hcm : jd.Cmp g w0 A c bj bm kb true 82 (fun x y => #[.pointer (some ⟨bj, 0, none⟩), .int .i64 x, .int .i64 y]))
    (x y : Nat) (hx : x < g.length) (hy : y < g.length) (W : World) (hB : Below w0.heap.size w0 W) (hJ : jd.J g A c bj bm W)
    (hkb : W.heap[kb]? = some (.cells #[.pointer (some ⟨bj, 0, none⟩)] 69 (0, 0))) (hkf : W.heap[kf]? = some (.cells #[.func (.func 82) #[.pointer (some ⟨bj, 0, none⟩)] #[]] 81 (0, 0))) (hkx : W.heap[kx]? = some (.cells #[.int .i64 (x : Int)] 3 (0, 0))) :
    Calls Try.prog 86 #[.int .i64 (y : Int), .pointer (some ⟨kx, 0, none⟩), .pointer (some ⟨kf, 0, none⟩)] W fun e w' => e = .returned (.bool (jd.dm g true (x : Int) (y : Int))) ∧ jd.J g A c bj bm w' ∧ Below w0.heap.size w0 w' ∧ W.grownBy w' (some bm) := by
  have eg : ∀ args w, (callFunc 82 args).run Try.prog w = .ok (.enter 82 args) w := fun args w => enters_ Try.func82 rfl rfl args w
  have cx := (blk_cell hkx 0).trans rfl
  have cf := (blk_cell hkf 0).trans rfl
  have HCM := Aside0.mk hcm
  have HB := Aside0.mk hB
  have HJ := Aside0.mk hJ
  have HKB := Aside0.mk hkb
  have HKF := Aside0.mk hkf
  have HKX := Aside0.mk hkx
  have hc1 := hcm x y hx hy W hB hJ hkb
  clear hcm hB hJ hkb hkf hkx
  by_cases hne : (y : Int) = (x : Int)
  · have hdm : jd.dm g true (x : Int) (y : Int) = false := by unfold jd.dm; rw [hne]; simp
    rw [hdm]
    have hxy : y = x := by omega
    subst hxy
    clear hne hdm hc1
    go_enter Try.func86, Try.ntmps86
    go_wp2
    go_ret
    exact ⟨rfl, HJ.out, HB.out, World.grownBy.refl W (some bm)⟩
  · have hne' : (y != x) = true := by simp; omega
    have hnb : ((y : Int) != (x : Int)) = true := by simp; omega
    cases hq1 : jd.c2 g true (x : Int) (y : Int) with
    | false =>
      have hdm : jd.dm g true (x : Int) (y : Int) = false := by unfold jd.dm; rw [hq1]; simp
      rw [hdm]
      rw [hq1] at hc1
      have HC1 := Aside0.mk hc1
      clear hc1 hdm hq1
      go_enter Try.func86, Try.ntmps86
      go_wp2_with (go_at_fn 82; refine (HC1.out).mono ?_; rintro e w5 ⟨rfl, hJ5, hB5, hG5⟩; have HP := Aside0.mk (And.intro hJ5 (And.intro hB5 hG5)); clear hJ5 hB5 hG5)
      go_ret
      exact ⟨rfl, HP.out⟩
    | true =>
      rw [hq1] at hc1
      have hc2 := fun (W5 : World) (hB5 : Below w0.heap.size w0 W5) (hJ5 : jd.J g A c bj bm W5) (hG : W.grownBy W5 (some bm)) => HCM.out y x hy hx W5 hB5 hJ5 (blk_grown HKB.out hG (jd.off HJ.out HKB.out))
      cases hq2 : jd.c2 g true (y : Int) (x : Int) with
      | false =>
        have hdm : jd.dm g true (x : Int) (y : Int) = true := by unfold jd.dm; rw [hq1, hq2, hnb]; rfl
        rw [hdm]
        rw [hq2] at hc2
        have HC1 := Aside0.mk hc1
        have HC2 := Aside0.mk hc2
        clear hc1 hdm hq1 hc2 hq2
        go_enter Try.func86, Try.ntmps86
        go_wp2_with (go_at_fn 82; first | (with_reducible refine (HC1.out).mono ?_; rintro e w5 ⟨rfl, hJ5, hB5, hG5⟩; have cx := (blk_cell (blk_grown HKX.out hG5 (jd.off HJ.out HKX.out)) 0).trans rfl; have cf := (blk_cell (blk_grown HKF.out hG5 (jd.off HJ.out HKF.out)) 0).trans rfl; have HP := Aside0.mk (And.intro hJ5 (And.intro hB5 hG5)); clear hJ5 hB5 hG5) | (with_reducible refine (HC2.out _ HP.out.2.1 HP.out.1 HP.out.2.2).mono ?_; rintro e w6 ⟨rfl, hJ6, hB6, hG6⟩; have HP2 := Aside0.mk (And.intro hJ6 (And.intro hB6 (HP.out.2.2.trans hG6))); clear hJ6 hB6 hG6 HP))
        go_ret
        exact ⟨rfl, HP2.out⟩
      | true =>
        rw [hq2] at hc2
        have HC1 := Aside0.mk hc1
        have HC2 := Aside0.mk hc2
        clear hc1 hc2
        by_cases hgt : (y : Int) > (x : Int)
        · have hdm : jd.dm g true (x : Int) (y : Int) = true := by unfold jd.dm; rw [hq1, hq2, hnb, decide_eq_true hgt]; rfl
          rw [hdm]
          clear hdm hq1 hq2
          go_enter Try.func86, Try.ntmps86
          go_wp2_with (go_at_fn 82; first | (with_reducible refine (HC1.out).mono ?_; rintro e w5 ⟨rfl, hJ5, hB5, hG5⟩; have cx := (blk_cell (blk_grown HKX.out hG5 (jd.off HJ.out HKX.out)) 0).trans rfl; have cf := (blk_cell (blk_grown HKF.out hG5 (jd.off HJ.out HKF.out)) 0).trans rfl; have HP := Aside0.mk (And.intro hJ5 (And.intro hB5 hG5)); clear hJ5 hB5 hG5) | (with_reducible refine (HC2.out _ HP.out.2.1 HP.out.1 HP.out.2.2).mono ?_; rintro e w6 ⟨rfl, hJ6, hB6, hG6⟩; have cx := (blk_cell (blk_grown HKX.out (HP.out.2.2.trans hG6) (jd.off HJ.out HKX.out)) 0).trans rfl; have HP2 := Aside0.mk (And.intro hJ6 (And.intro hB6 (HP.out.2.2.trans hG6))); clear hJ6 hB6 hG6 HP))
          go_ret
          exact ⟨rfl, HP2.out⟩
        · have hdm : jd.dm g true (x : Int) (y : Int) = false := by unfold jd.dm; rw [hq1, hq2, hnb, decide_eq_false hgt]; rfl
          rw [hdm]
          have hd_ : decide (x < y) = false := decide_eq_false (by omega)
          clear hdm hq1 hq2
          go_enter Try.func86, Try.ntmps86
          go_wp2_with (go_at_fn 82; first | (with_reducible refine (HC1.out).mono ?_; rintro e w5 ⟨rfl, hJ5, hB5, hG5⟩; have cx := (blk_cell (blk_grown HKX.out hG5 (jd.off HJ.out HKX.out)) 0).trans rfl; have cf := (blk_cell (blk_grown HKF.out hG5 (jd.off HJ.out HKF.out)) 0).trans rfl; have HP := Aside0.mk (And.intro hJ5 (And.intro hB5 hG5)); clear hJ5 hB5 hG5) | (with_reducible refine (HC2.out _ HP.out.2.1 HP.out.1 HP.out.2.2).mono ?_; rintro e w6 ⟨rfl, hJ6, hB6, hG6⟩; have cx := (blk_cell (blk_grown HKX.out (HP.out.2.2.trans hG6) (jd.off HJ.out HKX.out)) 0).trans rfl; have HP2 := Aside0.mk (And.intro hJ6 (And.intro hB6 (HP.out.2.2.trans hG6))); clear hJ6 hB6 hG6 HP))
          go_ret
          exact ⟨by first | rfl | (show Ending.returned (.bool (decide (x < y))) = _; rw [hd_]), HP2.out⟩
set_option maxHeartbeats 1000000 in
set_option maxRecDepth 100000 in
theorem jd.clo_false (g : List S57) (A : Option Addr) (c : Nat) (w0 : World) (bj bm kb kf kx : Nat) (hcm : jd.Cmp g w0 A c bj bm kb false 84 (fun x y => #[.int .i64 x, .int .i64 y, .pointer (some ⟨kb, 0, none⟩)]))
    (x y : Nat) (hx : x < g.length) (hy : y < g.length) (W : World) (hB : Below w0.heap.size w0 W) (hJ : jd.J g A c bj bm W)
    (hkb : W.heap[kb]? = some (.cells #[.pointer (some ⟨bj, 0, none⟩)] 69 (0, 0))) (hkf : W.heap[kf]? = some (.cells #[.func (.func 84) #[] #[.pointer (some ⟨kb, 0, none⟩)]] 81 (0, 0))) (hkx : W.heap[kx]? = some (.cells #[.int .i64 (x : Int)] 3 (0, 0))) :
    Calls Try.prog 86 #[.int .i64 (y : Int), .pointer (some ⟨kx, 0, none⟩), .pointer (some ⟨kf, 0, none⟩)] W fun e w' => e = .returned (.bool (jd.dm g false (x : Int) (y : Int))) ∧ jd.J g A c bj bm w' ∧ Below w0.heap.size w0 w' ∧ W.grownBy w' (some bm) := by
  have eg : ∀ args w, (callFunc 84 args).run Try.prog w = .ok (.enter 84 args) w := fun args w => enters_ Try.func84 rfl rfl args w
  have cx := (blk_cell hkx 0).trans rfl
  have cf := (blk_cell hkf 0).trans rfl
  have HCM := Aside0.mk hcm
  have HB := Aside0.mk hB
  have HJ := Aside0.mk hJ
  have HKB := Aside0.mk hkb
  have HKF := Aside0.mk hkf
  have HKX := Aside0.mk hkx
  have hc1 := hcm x y hx hy W hB hJ hkb
  clear hcm hB hJ hkb hkf hkx
  by_cases hne : (y : Int) = (x : Int)
  · have hdm : jd.dm g false (x : Int) (y : Int) = false := by unfold jd.dm; rw [hne]; simp
    rw [hdm]
    have hxy : y = x := by omega
    subst hxy
    clear hne hdm hc1
    go_enter Try.func86, Try.ntmps86
    go_wp2
    go_ret
    exact ⟨rfl, HJ.out, HB.out, World.grownBy.refl W (some bm)⟩
  · have hne' : (y != x) = true := by simp; omega
    have hnb : ((y : Int) != (x : Int)) = true := by simp; omega
    cases hq1 : jd.c2 g false (x : Int) (y : Int) with
    | false =>
      have hdm : jd.dm g false (x : Int) (y : Int) = false := by unfold jd.dm; rw [hq1]; simp
      rw [hdm]
      rw [hq1] at hc1
      have HC1 := Aside0.mk hc1
      clear hc1 hdm hq1
      go_enter Try.func86, Try.ntmps86
      go_wp2_with (go_at_fn 84; refine (HC1.out).mono ?_; rintro e w5 ⟨rfl, hJ5, hB5, hG5⟩; have HP := Aside0.mk (And.intro hJ5 (And.intro hB5 hG5)); clear hJ5 hB5 hG5)
      go_ret
      exact ⟨rfl, HP.out⟩
    | true =>
      rw [hq1] at hc1
      have hc2 := fun (W5 : World) (hB5 : Below w0.heap.size w0 W5) (hJ5 : jd.J g A c bj bm W5) (hG : W.grownBy W5 (some bm)) => HCM.out y x hy hx W5 hB5 hJ5 (blk_grown HKB.out hG (jd.off HJ.out HKB.out))
      cases hq2 : jd.c2 g false (y : Int) (x : Int) with
      | false =>
        have hdm : jd.dm g false (x : Int) (y : Int) = true := by unfold jd.dm; rw [hq1, hq2, hnb]; rfl
        rw [hdm]
        rw [hq2] at hc2
        have HC1 := Aside0.mk hc1
        have HC2 := Aside0.mk hc2
        clear hc1 hdm hq1 hc2 hq2
        go_enter Try.func86, Try.ntmps86
        go_wp2_with (go_at_fn 84; first | (with_reducible refine (HC1.out).mono ?_; rintro e w5 ⟨rfl, hJ5, hB5, hG5⟩; have cx := (blk_cell (blk_grown HKX.out hG5 (jd.off HJ.out HKX.out)) 0).trans rfl; have cf := (blk_cell (blk_grown HKF.out hG5 (jd.off HJ.out HKF.out)) 0).trans rfl; have HP := Aside0.mk (And.intro hJ5 (And.intro hB5 hG5)); clear hJ5 hB5 hG5) | (with_reducible refine (HC2.out _ HP.out.2.1 HP.out.1 HP.out.2.2).mono ?_; rintro e w6 ⟨rfl, hJ6, hB6, hG6⟩; have HP2 := Aside0.mk (And.intro hJ6 (And.intro hB6 (HP.out.2.2.trans hG6))); clear hJ6 hB6 hG6 HP))
        go_ret
        exact ⟨rfl, HP2.out⟩
      | true =>
        rw [hq2] at hc2
        have HC1 := Aside0.mk hc1
        have HC2 := Aside0.mk hc2
        clear hc1 hc2
        by_cases hgt : (y : Int) > (x : Int)
        · have hdm : jd.dm g false (x : Int) (y : Int) = true := by unfold jd.dm; rw [hq1, hq2, hnb, decide_eq_true hgt]; rfl
          rw [hdm]
          clear hdm hq1 hq2
          go_enter Try.func86, Try.ntmps86
          go_wp2_with (go_at_fn 84; first | (with_reducible refine (HC1.out).mono ?_; rintro e w5 ⟨rfl, hJ5, hB5, hG5⟩; have cx := (blk_cell (blk_grown HKX.out hG5 (jd.off HJ.out HKX.out)) 0).trans rfl; have cf := (blk_cell (blk_grown HKF.out hG5 (jd.off HJ.out HKF.out)) 0).trans rfl; have HP := Aside0.mk (And.intro hJ5 (And.intro hB5 hG5)); clear hJ5 hB5 hG5) | (with_reducible refine (HC2.out _ HP.out.2.1 HP.out.1 HP.out.2.2).mono ?_; rintro e w6 ⟨rfl, hJ6, hB6, hG6⟩; have cx := (blk_cell (blk_grown HKX.out (HP.out.2.2.trans hG6) (jd.off HJ.out HKX.out)) 0).trans rfl; have HP2 := Aside0.mk (And.intro hJ6 (And.intro hB6 (HP.out.2.2.trans hG6))); clear hJ6 hB6 hG6 HP))
          go_ret
          exact ⟨rfl, HP2.out⟩
        · have hdm : jd.dm g false (x : Int) (y : Int) = false := by unfold jd.dm; rw [hq1, hq2, hnb, decide_eq_false hgt]; rfl
          rw [hdm]
          have hd_ : decide (x < y) = false := decide_eq_false (by omega)
          clear hdm hq1 hq2
          go_enter Try.func86, Try.ntmps86
          go_wp2_with (go_at_fn 84; first | (with_reducible refine (HC1.out).mono ?_; rintro e w5 ⟨rfl, hJ5, hB5, hG5⟩; have cx := (blk_cell (blk_grown HKX.out hG5 (jd.off HJ.out HKX.out)) 0).trans rfl; have cf := (blk_cell (blk_grown HKF.out hG5 (jd.off HJ.out HKF.out)) 0).trans rfl; have HP := Aside0.mk (And.intro hJ5 (And.intro hB5 hG5)); clear hJ5 hB5 hG5) | (with_reducible refine (HC2.out _ HP.out.2.1 HP.out.1 HP.out.2.2).mono ?_; rintro e w6 ⟨rfl, hJ6, hB6, hG6⟩; have cx := (blk_cell (blk_grown HKX.out (HP.out.2.2.trans hG6) (jd.off HJ.out HKX.out)) 0).trans rfl; have HP2 := Aside0.mk (And.intro hJ6 (And.intro hB6 (HP.out.2.2.trans hG6))); clear hJ6 hB6 hG6 HP))
          go_ret
          exact ⟨by first | rfl | (show Ending.returned (.bool (decide (x < y))) = _; rw [hd_]), HP2.out⟩
theorem jd.R_empty (W : World) (base : Nat) (ok : Nat → Prop) (h : base ≤ W.heap.size) (ho : ok W.heap.size) : Kd.R (Kd.int .i64) 3 (W.alloc (.cells #[] 3)) base ok (.slice (some ⟨W.heap.size, 0, none⟩) 0 0) [] := by
  refine Kd.R_of_own ⟨rfl, Or.inr ⟨W.heap.size, 0, #[], rfl, h, heap_alloc_new W _, Nat.le_refl _, by decide, rfl, rfl⟩⟩ (fun k hk => ?_)
  have : W.heap.size = k := by simpa [Value.ownBlock] using hk
  subst this
  exact ho
theorem jd.grow2 {a b c : World} {r row : Option Nat} (h : a.grownBy b r) (h2 : b.grownBy c row) (hr : ∀ k, row = some k → a.heap.size ≤ k) : a.grownBy c r :=
  ⟨h2.os.trans h.os, h2.tape.trans h.tape, h2.output.trans h.output, Nat.le_trans h.size h2.size, fun i hi hne => (h2.block i (Nat.lt_of_lt_of_le hi h.size) (fun e => absurd (hr i e.symm) (Nat.not_le.2 hi))).trans (h.block i hi hne)⟩
set_option maxHeartbeats 1000000 in
set_option maxRecDepth 100000 in
theorem jd.dominated_true (g : List S57) (hw : jd.Wf g) (A : Option Addr) (c : Nat) (w0 : World) (hr : Kd.C k57 w0 A g.length g) (hc : g.length ≤ c) (bj bm : Nat) (hbj : w0.heap.size ≤ bj) (hbm : w0.heap.size ≤ bm)
    (l : List Int) (Al : Option Addr) (cl : Nat) (hl : Kd.C (Kd.int .i64) w0 Al l.length l) (hlc : l.length ≤ 1048576) (hin : ∀ y ∈ l, 0 ≤ y ∧ y < (g.length : Int)) (w : World) (hB : Below w0.heap.size w0 w) (hJ : jd.J g A c bj bm w) :
    Calls Try.prog 63 #[.pointer (some ⟨bj, 0, none⟩), .slice Al l.length cl, .bool true] w fun e w' => ∃ v : Value, e = .returned v ∧ Kd.R (Kd.int .i64) 3 w' w0.heap.size (fun k_ => w.heap.size ≤ k_) v (jd.doms g true l) ∧ jd.J g A c bj bm w' ∧ Below w0.heap.size w0 w' ∧ w.grownBy w' (some bm) := by
  have hbig : l.length ≤ 9223372036854775807 := hl.2.1
  have HCM := fun kb => Aside0.mk (jd.cmp_true g hw A c w0 hr hc bj bm kb hbj hbm)
  have HL := Aside0.mk hl
  have HI := Aside0.mk hin
  have hg40 := hw.1
  have hb1 : Below w.heap.size w (((w.alloc (.cells #[.pointer (some ⟨bj, 0, none⟩)] 69)).alloc (.cells #[.func (.func 82) #[.pointer (some ⟨bj, 0, none⟩)] #[]] 81)).alloc (.cells #[] 3)) := below_alloc (below_alloc (below_alloc (Below.refl _ _) _) _) _
  have KB := Aside0.mk (show (((w.alloc (.cells #[.pointer (some ⟨bj, 0, none⟩)] 69)).alloc (.cells #[.func (.func 82) #[.pointer (some ⟨bj, 0, none⟩)] #[]] 81)).alloc (.cells #[] 3)).heap[w.heap.size]? = some (.cells #[.pointer (some ⟨bj, 0, none⟩)] 69 (0, 0)) from blk_alloc (blk_alloc (heap_alloc_new w _) _) _)
  have KF := Aside0.mk (show (((w.alloc (.cells #[.pointer (some ⟨bj, 0, none⟩)] 69)).alloc (.cells #[.func (.func 82) #[.pointer (some ⟨bj, 0, none⟩)] #[]] 81)).alloc (.cells #[] 3)).heap[w.heap.size + 1]? = some (.cells #[.func (.func 82) #[.pointer (some ⟨bj, 0, none⟩)] #[]] 81 (0, 0)) by
    have z := blk_alloc (heap_alloc_new (w.alloc (.cells #[.pointer (some ⟨bj, 0, none⟩)] 69)) (.cells #[.func (.func 82) #[.pointer (some ⟨bj, 0, none⟩)] #[]] 81)) (.cells #[] 3)
    rw [World.size_alloc] at z
    exact z)
  have HV := Aside0.mk (show Kd.R (Kd.int .i64) 3 (((w.alloc (.cells #[.pointer (some ⟨bj, 0, none⟩)] 69)).alloc (.cells #[.func (.func 82) #[.pointer (some ⟨bj, 0, none⟩)] #[]] 81)).alloc (.cells #[] 3)) w0.heap.size (fun k_ => w.heap.size ≤ k_) (.slice (some ⟨w.heap.size + 1 + 1, 0, none⟩) 0 0) [] by
    have z := jd.R_empty ((w.alloc (.cells #[.pointer (some ⟨bj, 0, none⟩)] 69)).alloc (.cells #[.func (.func 82) #[.pointer (some ⟨bj, 0, none⟩)] #[]] 81)) w0.heap.size (fun k_ => w.heap.size ≤ k_) (by rw [World.size_alloc, World.size_alloc]; have := hB.size; omega) (by rw [World.size_alloc, World.size_alloc]; omega)
    rw [World.size_alloc, World.size_alloc] at z
    exact z)
  have HJ := Aside0.mk (hJ.kept (grown_of_below hb1 none) (by simp) (by simp))
  have HB := Aside0.mk (below_step hB hb1)
  have HG := Aside0.mk (grown_of_below hb1 (some bm))
  have HS := Aside0.mk hB.size
  clear hl hin hB hJ hr hc hw hb1
  have sv0_ := fun (w_ : World) (a_ : Addr) (m_ : Mode) => run_store Try.prog w_ a_ (.func (.func 82) #[.pointer (some ⟨bj, 0, none⟩)] #[]) m_ rfl
  have sv1_ := fun (w_ : World) (a_ : Addr) (m_ : Mode) => run_store Try.prog w_ a_ (.func (.func 84) #[] #[.pointer (some ⟨w.heap.size, 0, none⟩)]) m_ rfl
  go_enter Try.func63, Try.ntmps63
  go_upto_region 5 with (fail)
  clear sv0_ sv1_
  generalize (((w.alloc (.cells #[.pointer (some ⟨bj, 0, none⟩)] 69)).alloc (.cells #[.func (.func 82) #[.pointer (some ⟨bj, 0, none⟩)] #[]] 81)).alloc (.cells #[] 3)) = W1 at KB KF HV HJ HB HG ⊢
  go_wp2
  go_loopg [8, 19] l.length (fun gg s8 s19 wr => ∃ n : Nat, n ≤ l.length ∧ l.length - n ≤ gg ∧ s19 = .int .i64 n ∧ Aside0 (Kd.R (Kd.int .i64) 3 wr w0.heap.size (fun k_ => w.heap.size ≤ k_) s8 ((l.take n).filter (fun x => l.any (fun y => jd.dm g true x y)))) ∧ Aside0 (wr.heap[w.heap.size]? = some (.cells #[.pointer (some ⟨bj, 0, none⟩)] 69 (0, 0))) ∧ Aside0 (wr.heap[w.heap.size + 1]? = some (.cells #[.func (.func 82) #[.pointer (some ⟨bj, 0, none⟩)] #[]] 81 (0, 0))) ∧ Aside0 (jd.J g A c bj bm wr) ∧ Aside0 (Below w0.heap.size w0 wr) ∧ Aside0 (w.grownBy wr (some bm)))
  case atStart => exact ⟨0, Nat.zero_le _, by omega, rfl, HV, KB, KF, HJ, HB, HG⟩
  case round =>
    clear HV KB KF HJ HB HG
    obtain ⟨n, hn, hgg, rfl, HV, KB, KF, HJ, HB, HG⟩ := hrel
    by_cases hlt : n < l.length
    · have hltz : (n : Int) < (l.length : Int) := by omega
      obtain ⟨ad, e0, hx0⟩ := Kd.at_int HL.out (n : Int) (by omega) hltz
      cases e0
      replace hx0 := (HB.out.cell (World.block_lt_of_cell? w0 _ hx0)).trans hx0
      have hrd : rd l (n : Int) = l[n] := by simp [rd, List.getD_eq_getElem?_getD, List.getElem?_eq_getElem hlt]
      rw [hrd] at hx0
      simp only [Int.toNat_natCast] at hx0
      obtain ⟨z1, z2⟩ := HI.out l[n] (List.getElem_mem hlt)
      have hfl : (l.take (n + 1)).filter (fun x => l.any (fun y => jd.dm g true x y)) = (l.take n).filter (fun x => l.any (fun y => jd.dm g true x y)) ++ (if l.any (fun y => jd.dm g true l[n] y) = true then [l[n]] else []) := by
        rw [List.take_succ_eq_append_getElem hlt, List.filter_append, jd.filter_one]
      have hlen : ((l.take n).filter (fun x => l.any (fun y => jd.dm g true x y))).length ≤ n := Nat.le_trans (List.length_filter_le _ _) (List.length_take_le _ _)
      generalize hxx : l[n] = xx at hx0 hfl z1 z2
      obtain ⟨m, rfl⟩ : ∃ m : Nat, xx = (m : Int) := ⟨xx.toNat, by omega⟩
      have hmg : m < g.length := by omega
      have HFL := Aside0.mk hfl
      clear hfl hrd hxx z1 z2
      have hba : Below w0.heap.size w0 (wr.alloc (.cells #[.int .i64 (m : Int)] 3)) := below_alloc HB.out _
      have hga : wr.grownBy (wr.alloc (.cells #[.int .i64 (m : Int)] 3)) none := World.grownBy_alloc wr _ none
      have hJa := HJ.out.kept hga (by simp) (by simp)
      have hVa := Kd.R_alloc HV.out (.cells #[.int .i64 (m : Int)] 3)
      have eg : ∀ args w, (callFunc 86 args).run Try.prog w = .ok (.enter 86 args) w := fun args w => enters_ Try.func86 rfl rfl args w
      have hcall := jd.containsFunc 86 #[.pointer (some ⟨wr.heap.size, 0, none⟩), .pointer (some ⟨w.heap.size + 1, 0, none⟩)] eg (fun y => jd.dm g true (m : Int) y) l (some ad) cl w0 (wr.alloc (.cells #[.int .i64 (m : Int)] 3)) bm
        (fun W => jd.J g A c bj bm W ∧ W.heap[w.heap.size]? = some (.cells #[.pointer (some ⟨bj, 0, none⟩)] 69 (0, 0)) ∧ W.heap[w.heap.size + 1]? = some (.cells #[.func (.func 82) #[.pointer (some ⟨bj, 0, none⟩)] #[]] 81 (0, 0)) ∧ W.heap[wr.heap.size]? = some (.cells #[.int .i64 (m : Int)] 3 (0, 0)))
        hba ⟨hJa, blk_alloc KB.out _, blk_alloc KF.out _, heap_alloc_new wr _⟩ HL.out (fun W y hy hb hq => by
          obtain ⟨y1, y2⟩ := HI.out y hy
          obtain ⟨p, rfl⟩ : ∃ p : Nat, y = (p : Int) := ⟨y.toNat, by omega⟩
          refine (jd.clo_true g A c w0 bj bm w.heap.size (w.heap.size + 1) wr.heap.size (HCM w.heap.size).out m p hmg (by omega) W hb hq.1 hq.2.1 hq.2.2.1 hq.2.2.2).mono ?_
          rintro e w' ⟨rfl, h1, h2, h3⟩
          exact ⟨rfl, ⟨h1, blk_grown hq.2.1 h3 (jd.off hq.1 hq.2.1), blk_grown hq.2.2.1 h3 (jd.off hq.1 hq.2.2.1), blk_grown hq.2.2.2 h3 (jd.off hq.1 hq.2.2.2)⟩, h2, h3⟩)
      have HCALL := Aside0.mk hcall
      have HA := Aside0.mk (And.intro hJa (And.intro hVa (HG.out.trans (jd.but hga (some bm)))))
      clear hcall hba hga hJa hVa eg
      cases hq : l.any (fun y => jd.dm g true (m : Int) y) with
      | true =>
        rw [hq] at HCALL
        go_upto_region 9 with (go_at_call 85; refine (HCALL.out).mono ?_; rintro e w5 ⟨rfl, ⟨hJ5, hB5, hF5, hX5⟩, hb5, hG5⟩; have n0_ := Aside0.mk hB5; have n1_ := Aside0.mk hF5; have n2_ := Aside0.mk (jd.keepR HA.out.1 HA.out.2.1 hG5); have n3_ := Aside0.mk hJ5; have n4_ := Aside0.mk hb5; have n5_ := Aside0.mk (HA.out.2.2.trans hG5); have KX := Aside0.mk hX5; clear KB KF HV HJ HB HG HCALL HA hJ5 hB5 hF5 hX5 hb5 hG5 hx0; have KB := n0_; have KF := n1_; have HV := n2_; have HJ := n3_; have HB := n4_; have HG := n5_; clear n0_ n1_ n2_ n3_ n4_ n5_)
        have ox := (blk_cell KX.out 0).trans rfl
        go_wp2_with (at_builtin; refine Kd.R_append (Kd.int .i64) (w0 := w0) w0.heap.size rfl (.tmp 26) (.tmp 28) 36 3 (.int .i64 0) 8 rfl Try.underlying36 info3 rfl (by decide) (by omega) u8 ((l.take n).filter (fun x => l.any (fun y => jd.dm g true x y))) (m : Int) [.int .i64 (m : Int)] (fun k_ => w.heap.size ≤ k_) (fun _ => False) rfl rfl ?aP (fun _ hk => hk.elim) ?aF ?aO ?aB ?aS ?aL ?_; (case aP => exact rfl); (case aB => exact HB.out); (case aF => exact (fun k_ hk => Nat.le_trans HG.out.size hk)); (case aO => exact HV.out); (case aS => exact HB.out.size); (case aL => have := hlen; omega); intro v' w12 ho hb hg hat; have n0_ := Aside0.mk (blk_grown KB.out hg (Kd.R_ne HV.out KB.out (by decide))); have n1_ := Aside0.mk (blk_grown KF.out hg (Kd.R_ne HV.out KF.out (by decide))); have n2_ := Aside0.mk ho; have n3_ := Aside0.mk (HJ.out.kept hg (HJ.out.row HV.out).1 (HJ.out.row HV.out).2); have n4_ := Aside0.mk hb; have n5_ := Aside0.mk (jd.grow2 HG.out hg (fun k_ hk => HV.out.1 k_ hk)); clear ho hb hg hat HV KB KF HJ HB HG ox; have KB := n0_; have KF := n1_; have HV := n2_; have HJ := n3_; have HB := n4_; have HG := n5_; clear n0_ n1_ n2_ n3_ n4_ n5_)
        go_roundg (l.length - (n + 1))
        case measure => omega
        case rel => exact ⟨n + 1, by omega, by omega, by go_num, ⟨by rw [HFL.out, hq, if_pos rfl]; exact HV.out⟩, KB, KF, HJ, HB, HG⟩
      | false =>
        rw [hq] at HCALL
        go_wp2_with (go_at_call 85; refine (HCALL.out).mono ?_; rintro e w5 ⟨rfl, ⟨hJ5, hB5, hF5, hX5⟩, hb5, hG5⟩; have n0_ := Aside0.mk hB5; have n1_ := Aside0.mk hF5; have n2_ := Aside0.mk (jd.keepR HA.out.1 HA.out.2.1 hG5); have n3_ := Aside0.mk hJ5; have n4_ := Aside0.mk hb5; have n5_ := Aside0.mk (HA.out.2.2.trans hG5); clear KB KF HV HJ HB HG HCALL HA hJ5 hB5 hF5 hX5 hb5 hG5 hx0; have KB := n0_; have KF := n1_; have HV := n2_; have HJ := n3_; have HB := n4_; have HG := n5_; clear n0_ n1_ n2_ n3_ n4_ n5_)
        go_roundg (l.length - (n + 1))
        case measure => omega
        case rel => exact ⟨n + 1, by omega, by omega, by go_num, ⟨by rw [HFL.out, hq, if_neg (by decide), List.append_nil]; exact HV.out⟩, KB, KF, HJ, HB, HG⟩
    · have hltz : ¬ (n : Int) < (l.length : Int) := by omega
      have hnl : n = l.length := by omega
      subst hnl
      rw [List.take_length] at HV
      obtain ⟨Aq, cq, rfl⟩ := Kd.R_slice HV.out
      go_wp2
      go_ret
      exact ⟨_, rfl, HV.out, HJ.out, HB.out, HG.out⟩
set_option maxHeartbeats 1000000 in
set_option maxRecDepth 100000 in
theorem jd.dominated_false (g : List S57) (hw : jd.Wf g) (A : Option Addr) (c : Nat) (w0 : World) (hr : Kd.C k57 w0 A g.length g) (hc : g.length ≤ c) (bj bm : Nat) (hbj : w0.heap.size ≤ bj) (hbm : w0.heap.size ≤ bm)
    (l : List Int) (Al : Option Addr) (cl : Nat) (hl : Kd.C (Kd.int .i64) w0 Al l.length l) (hlc : l.length ≤ 1048576) (hin : ∀ y ∈ l, 0 ≤ y ∧ y < (g.length : Int)) (w : World) (hB : Below w0.heap.size w0 w) (hJ : jd.J g A c bj bm w) :
    Calls Try.prog 63 #[.pointer (some ⟨bj, 0, none⟩), .slice Al l.length cl, .bool false] w fun e w' => ∃ v : Value, e = .returned v ∧ Kd.R (Kd.int .i64) 3 w' w0.heap.size (fun k_ => w.heap.size ≤ k_) v (jd.doms g false l) ∧ jd.J g A c bj bm w' ∧ Below w0.heap.size w0 w' ∧ w.grownBy w' (some bm) := by
  have hbig : l.length ≤ 9223372036854775807 := hl.2.1
  have HCM := fun kb => Aside0.mk (jd.cmp_false g hw A c w0 hr hc bj bm kb hbj hbm)
  have HL := Aside0.mk hl
  have HI := Aside0.mk hin
  have hg40 := hw.1
  have hb1 : Below w.heap.size w (((w.alloc (.cells #[.pointer (some ⟨bj, 0, none⟩)] 69)).alloc (.cells #[.func (.func 84) #[] #[.pointer (some ⟨w.heap.size, 0, none⟩)]] 81)).alloc (.cells #[] 3)) := below_alloc (below_alloc (below_alloc (Below.refl _ _) _) _) _
  have KB := Aside0.mk (show (((w.alloc (.cells #[.pointer (some ⟨bj, 0, none⟩)] 69)).alloc (.cells #[.func (.func 84) #[] #[.pointer (some ⟨w.heap.size, 0, none⟩)]] 81)).alloc (.cells #[] 3)).heap[w.heap.size]? = some (.cells #[.pointer (some ⟨bj, 0, none⟩)] 69 (0, 0)) from blk_alloc (blk_alloc (heap_alloc_new w _) _) _)
  have KF := Aside0.mk (show (((w.alloc (.cells #[.pointer (some ⟨bj, 0, none⟩)] 69)).alloc (.cells #[.func (.func 84) #[] #[.pointer (some ⟨w.heap.size, 0, none⟩)]] 81)).alloc (.cells #[] 3)).heap[w.heap.size + 1]? = some (.cells #[.func (.func 84) #[] #[.pointer (some ⟨w.heap.size, 0, none⟩)]] 81 (0, 0)) by
    have z := blk_alloc (heap_alloc_new (w.alloc (.cells #[.pointer (some ⟨bj, 0, none⟩)] 69)) (.cells #[.func (.func 84) #[] #[.pointer (some ⟨w.heap.size, 0, none⟩)]] 81)) (.cells #[] 3)
    rw [World.size_alloc] at z
    exact z)
  have HV := Aside0.mk (show Kd.R (Kd.int .i64) 3 (((w.alloc (.cells #[.pointer (some ⟨bj, 0, none⟩)] 69)).alloc (.cells #[.func (.func 84) #[] #[.pointer (some ⟨w.heap.size, 0, none⟩)]] 81)).alloc (.cells #[] 3)) w0.heap.size (fun k_ => w.heap.size ≤ k_) (.slice (some ⟨w.heap.size + 1 + 1, 0, none⟩) 0 0) [] by
    have z := jd.R_empty ((w.alloc (.cells #[.pointer (some ⟨bj, 0, none⟩)] 69)).alloc (.cells #[.func (.func 84) #[] #[.pointer (some ⟨w.heap.size, 0, none⟩)]] 81)) w0.heap.size (fun k_ => w.heap.size ≤ k_) (by rw [World.size_alloc, World.size_alloc]; have := hB.size; omega) (by rw [World.size_alloc, World.size_alloc]; omega)
    rw [World.size_alloc, World.size_alloc] at z
    exact z)
  have HJ := Aside0.mk (hJ.kept (grown_of_below hb1 none) (by simp) (by simp))
  have HB := Aside0.mk (below_step hB hb1)
  have HG := Aside0.mk (grown_of_below hb1 (some bm))
  have HS := Aside0.mk hB.size
  clear hl hin hB hJ hr hc hw hb1
  have sv0_ := fun (w_ : World) (a_ : Addr) (m_ : Mode) => run_store Try.prog w_ a_ (.func (.func 82) #[.pointer (some ⟨bj, 0, none⟩)] #[]) m_ rfl
  have sv1_ := fun (w_ : World) (a_ : Addr) (m_ : Mode) => run_store Try.prog w_ a_ (.func (.func 84) #[] #[.pointer (some ⟨w.heap.size, 0, none⟩)]) m_ rfl
  go_enter Try.func63, Try.ntmps63
  go_upto_region 5 with (fail)
  clear sv0_ sv1_
  generalize (((w.alloc (.cells #[.pointer (some ⟨bj, 0, none⟩)] 69)).alloc (.cells #[.func (.func 84) #[] #[.pointer (some ⟨w.heap.size, 0, none⟩)]] 81)).alloc (.cells #[] 3)) = W1 at KB KF HV HJ HB HG ⊢
  go_wp2
  go_loopg [8, 19] l.length (fun gg s8 s19 wr => ∃ n : Nat, n ≤ l.length ∧ l.length - n ≤ gg ∧ s19 = .int .i64 n ∧ Aside0 (Kd.R (Kd.int .i64) 3 wr w0.heap.size (fun k_ => w.heap.size ≤ k_) s8 ((l.take n).filter (fun x => l.any (fun y => jd.dm g false x y)))) ∧ Aside0 (wr.heap[w.heap.size]? = some (.cells #[.pointer (some ⟨bj, 0, none⟩)] 69 (0, 0))) ∧ Aside0 (wr.heap[w.heap.size + 1]? = some (.cells #[.func (.func 84) #[] #[.pointer (some ⟨w.heap.size, 0, none⟩)]] 81 (0, 0))) ∧ Aside0 (jd.J g A c bj bm wr) ∧ Aside0 (Below w0.heap.size w0 wr) ∧ Aside0 (w.grownBy wr (some bm)))
  case atStart => exact ⟨0, Nat.zero_le _, by omega, rfl, HV, KB, KF, HJ, HB, HG⟩
  case round =>
    clear HV KB KF HJ HB HG
    obtain ⟨n, hn, hgg, rfl, HV, KB, KF, HJ, HB, HG⟩ := hrel
    by_cases hlt : n < l.length
    · have hltz : (n : Int) < (l.length : Int) := by omega
      obtain ⟨ad, e0, hx0⟩ := Kd.at_int HL.out (n : Int) (by omega) hltz
      cases e0
      replace hx0 := (HB.out.cell (World.block_lt_of_cell? w0 _ hx0)).trans hx0
      have hrd : rd l (n : Int) = l[n] := by simp [rd, List.getD_eq_getElem?_getD, List.getElem?_eq_getElem hlt]
      rw [hrd] at hx0
      simp only [Int.toNat_natCast] at hx0
      obtain ⟨z1, z2⟩ := HI.out l[n] (List.getElem_mem hlt)
      have hfl : (l.take (n + 1)).filter (fun x => l.any (fun y => jd.dm g false x y)) = (l.take n).filter (fun x => l.any (fun y => jd.dm g false x y)) ++ (if l.any (fun y => jd.dm g false l[n] y) = true then [l[n]] else []) := by
        rw [List.take_succ_eq_append_getElem hlt, List.filter_append, jd.filter_one]
      have hlen : ((l.take n).filter (fun x => l.any (fun y => jd.dm g false x y))).length ≤ n := Nat.le_trans (List.length_filter_le _ _) (List.length_take_le _ _)
      generalize hxx : l[n] = xx at hx0 hfl z1 z2
      obtain ⟨m, rfl⟩ : ∃ m : Nat, xx = (m : Int) := ⟨xx.toNat, by omega⟩
      have hmg : m < g.length := by omega
      have HFL := Aside0.mk hfl
      clear hfl hrd hxx z1 z2
      have hba : Below w0.heap.size w0 (wr.alloc (.cells #[.int .i64 (m : Int)] 3)) := below_alloc HB.out _
      have hga : wr.grownBy (wr.alloc (.cells #[.int .i64 (m : Int)] 3)) none := World.grownBy_alloc wr _ none
      have hJa := HJ.out.kept hga (by simp) (by simp)
      have hVa := Kd.R_alloc HV.out (.cells #[.int .i64 (m : Int)] 3)
      have eg : ∀ args w, (callFunc 86 args).run Try.prog w = .ok (.enter 86 args) w := fun args w => enters_ Try.func86 rfl rfl args w
      have hcall := jd.containsFunc 86 #[.pointer (some ⟨wr.heap.size, 0, none⟩), .pointer (some ⟨w.heap.size + 1, 0, none⟩)] eg (fun y => jd.dm g false (m : Int) y) l (some ad) cl w0 (wr.alloc (.cells #[.int .i64 (m : Int)] 3)) bm
        (fun W => jd.J g A c bj bm W ∧ W.heap[w.heap.size]? = some (.cells #[.pointer (some ⟨bj, 0, none⟩)] 69 (0, 0)) ∧ W.heap[w.heap.size + 1]? = some (.cells #[.func (.func 84) #[] #[.pointer (some ⟨w.heap.size, 0, none⟩)]] 81 (0, 0)) ∧ W.heap[wr.heap.size]? = some (.cells #[.int .i64 (m : Int)] 3 (0, 0)))
        hba ⟨hJa, blk_alloc KB.out _, blk_alloc KF.out _, heap_alloc_new wr _⟩ HL.out (fun W y hy hb hq => by
          obtain ⟨y1, y2⟩ := HI.out y hy
          obtain ⟨p, rfl⟩ : ∃ p : Nat, y = (p : Int) := ⟨y.toNat, by omega⟩
          refine (jd.clo_false g A c w0 bj bm w.heap.size (w.heap.size + 1) wr.heap.size (HCM w.heap.size).out m p hmg (by omega) W hb hq.1 hq.2.1 hq.2.2.1 hq.2.2.2).mono ?_
          rintro e w' ⟨rfl, h1, h2, h3⟩
          exact ⟨rfl, ⟨h1, blk_grown hq.2.1 h3 (jd.off hq.1 hq.2.1), blk_grown hq.2.2.1 h3 (jd.off hq.1 hq.2.2.1), blk_grown hq.2.2.2 h3 (jd.off hq.1 hq.2.2.2)⟩, h2, h3⟩)
      have HCALL := Aside0.mk hcall
      have HA := Aside0.mk (And.intro hJa (And.intro hVa (HG.out.trans (jd.but hga (some bm)))))
      clear hcall hba hga hJa hVa eg
      cases hq : l.any (fun y => jd.dm g false (m : Int) y) with
      | true =>
        rw [hq] at HCALL
        go_upto_region 9 with (go_at_call 85; refine (HCALL.out).mono ?_; rintro e w5 ⟨rfl, ⟨hJ5, hB5, hF5, hX5⟩, hb5, hG5⟩; have n0_ := Aside0.mk hB5; have n1_ := Aside0.mk hF5; have n2_ := Aside0.mk (jd.keepR HA.out.1 HA.out.2.1 hG5); have n3_ := Aside0.mk hJ5; have n4_ := Aside0.mk hb5; have n5_ := Aside0.mk (HA.out.2.2.trans hG5); have KX := Aside0.mk hX5; clear KB KF HV HJ HB HG HCALL HA hJ5 hB5 hF5 hX5 hb5 hG5 hx0; have KB := n0_; have KF := n1_; have HV := n2_; have HJ := n3_; have HB := n4_; have HG := n5_; clear n0_ n1_ n2_ n3_ n4_ n5_)
        have ox := (blk_cell KX.out 0).trans rfl
        go_wp2_with (at_builtin; refine Kd.R_append (Kd.int .i64) (w0 := w0) w0.heap.size rfl (.tmp 26) (.tmp 28) 36 3 (.int .i64 0) 8 rfl Try.underlying36 info3 rfl (by decide) (by omega) u8 ((l.take n).filter (fun x => l.any (fun y => jd.dm g false x y))) (m : Int) [.int .i64 (m : Int)] (fun k_ => w.heap.size ≤ k_) (fun _ => False) rfl rfl ?aP (fun _ hk => hk.elim) ?aF ?aO ?aB ?aS ?aL ?_; (case aP => exact rfl); (case aB => exact HB.out); (case aF => exact (fun k_ hk => Nat.le_trans HG.out.size hk)); (case aO => exact HV.out); (case aS => exact HB.out.size); (case aL => have := hlen; omega); intro v' w12 ho hb hg hat; have n0_ := Aside0.mk (blk_grown KB.out hg (Kd.R_ne HV.out KB.out (by decide))); have n1_ := Aside0.mk (blk_grown KF.out hg (Kd.R_ne HV.out KF.out (by decide))); have n2_ := Aside0.mk ho; have n3_ := Aside0.mk (HJ.out.kept hg (HJ.out.row HV.out).1 (HJ.out.row HV.out).2); have n4_ := Aside0.mk hb; have n5_ := Aside0.mk (jd.grow2 HG.out hg (fun k_ hk => HV.out.1 k_ hk)); clear ho hb hg hat HV KB KF HJ HB HG ox; have KB := n0_; have KF := n1_; have HV := n2_; have HJ := n3_; have HB := n4_; have HG := n5_; clear n0_ n1_ n2_ n3_ n4_ n5_)
        go_roundg (l.length - (n + 1))
        case measure => omega
        case rel => exact ⟨n + 1, by omega, by omega, by go_num, ⟨by rw [HFL.out, hq, if_pos rfl]; exact HV.out⟩, KB, KF, HJ, HB, HG⟩
      | false =>
        rw [hq] at HCALL
        go_wp2_with (go_at_call 85; refine (HCALL.out).mono ?_; rintro e w5 ⟨rfl, ⟨hJ5, hB5, hF5, hX5⟩, hb5, hG5⟩; have n0_ := Aside0.mk hB5; have n1_ := Aside0.mk hF5; have n2_ := Aside0.mk (jd.keepR HA.out.1 HA.out.2.1 hG5); have n3_ := Aside0.mk hJ5; have n4_ := Aside0.mk hb5; have n5_ := Aside0.mk (HA.out.2.2.trans hG5); clear KB KF HV HJ HB HG HCALL HA hJ5 hB5 hF5 hX5 hb5 hG5 hx0; have KB := n0_; have KF := n1_; have HV := n2_; have HJ := n3_; have HB := n4_; have HG := n5_; clear n0_ n1_ n2_ n3_ n4_ n5_)
        go_roundg (l.length - (n + 1))
        case measure => omega
        case rel => exact ⟨n + 1, by omega, by omega, by go_num, ⟨by rw [HFL.out, hq, if_neg (by decide), List.append_nil]; exact HV.out⟩, KB, KF, HJ, HB, HG⟩
    · have hltz : ¬ (n : Int) < (l.length : Int) := by omega
      have hnl : n = l.length := by omega
      subst hnl
      rw [List.take_length] at HV
      obtain ⟨Aq, cq, rfl⟩ := Kd.R_slice HV.out
      go_wp2
      go_ret
      exact ⟨_, rfl, HV.out, HJ.out, HB.out, HG.out⟩
def jd.T4 : Bool × List (List Nat × List Nat) := (true, [([], []), ([], []), ([], []), ([1, 2], [1, 2]), ([3], [3]), ([4], [4]), ([0, 5], [0, 5]), ([], []), ([], []), ([], []), ([8, 9], [8, 9]), ([10], [10]), ([11], [11]), ([7, 12, 6], [7, 12]), ([6, 13, 0, 1, 2, 3, 4, 5, 6], [6]), ([13, 14, 0, 1, 2, 3, 4, 5, 6, 7, 8, 9, 10, 11, 12, 13, 14], [13]), ([15, 0, 1, 2, 3, 4, 5, 6, 7, 8, 9, 10, 11, 12, 13, 14, 15], [])])
def jd.B4 : List Nat := [0, 0, 0, 6, 14, 30, 63, 0, 0, 0, 768, 1792, 3840, 8191, 16383, 32767, 65535]
theorem jd.tab4 : rtab .any (opsOf Try.f30 4) = jd.T4 := by kernel_rfl
theorem jd.bits4 : waitsOk jd.T4.2 jd.B4 = true := by kernel_rfl
def impl_DominatedOf.f (k : Nat) (l0 : List (S57)) (a1 : Int) : Option (List Int × List Int × Bool) := (impl_hasPosition.f k l0 a1).bind fun t => if t = true then (if (jd.wfB l0 && (decide (0 ≤ a1) && decide (a1 < (l0.length : Int)))) = true then some (jd.doms l0 true (rd_T57 l0 a1).f0, jd.doms l0 false (rd_T57 l0 a1).f1, true) else none) else some ([], [], false)
theorem impl_DominatedOf.mono : ∀ a0 a1 k, LeO (impl_DominatedOf.f k a0 a1) (impl_DominatedOf.f (k + 1) a0 a1) := by
  intro a0 a1 k
  unfold impl_DominatedOf.f
  exact LeO.bind (impl_hasPosition.mono _ _ _) (fun _ => LeO.refl _)
set_option maxHeartbeats 1000000 in
set_option maxRecDepth 100000 in
theorem impl_DominatedOf.calls (k : Nat) (A0 : Option Addr) (c0 : Nat) (l0 : List (S57)) (a1 : Int) (r1 : List Int) (r2 : List Int) (r3 : Bool) (w : World) (hr0 : Kd.C k57 w A0 l0.length l0) (hc0 : l0.length ≤ c0) (h : impl_DominatedOf.f k l0 a1 = some (r1, r2, r3)) :
    Calls Try.prog 30 #[.slice A0 l0.length c0, .int .i64 a1] w fun e w' => ∃ v0_ v1_ : Value, e = .returned (.tuple #[v0_, v1_, .bool r3]) ∧ Kd.R (Kd.int .i64) 3 w' w.heap.size (fun k_ => some k_ ≠ (v1_ : Value).ownBlock) v0_ r1 ∧ Kd.R (Kd.int .i64) 3 w' w.heap.size (fun k_ => some k_ ≠ (v0_ : Value).ownBlock) v1_ r2 ∧ Below w.heap.size w w' := by
  have h0 : ((impl_hasPosition.f k l0 a1).bind fun t => if t = true then (if (jd.wfB l0 && (decide (0 ≤ a1) && decide (a1 < (l0.length : Int)))) = true then some (jd.doms l0 true (rd_T57 l0 a1).f0, jd.doms l0 false (rd_T57 l0 a1).f1, true) else none) else some ([], [], false)) = some (r1, r2, r3) := h
  clear h
  obtain ⟨t, h1, h2⟩ := Option.bind_eq_some_iff.mp h0
  clear h0
  have H1 := Aside0.mk h1
  have HR0 := Aside0.mk hr0
  have HC0 := Aside0.mk hc0
  clear h1 hr0 hc0
  cases t with
  | false =>
    rw [if_neg (by decide)] at h2
    simp only [Option.some.injEq, Prod.mk.injEq] at h2
    obtain ⟨rfl, rfl, rfl⟩ := h2
    go_enter Try.func30, Try.ntmps30
    go_wp2_with (go_at_call 49; refine (impl_hasPosition.calls k A0 c0 l0 a1 false _ HR0.out HC0.out H1.out).mono ?_; rintro e w1 ⟨rfl, hb⟩)
    refine bodyPost_ret (results_list (rs := [.tmp 4, .tmp 5, .tmp 6]) rfl (by simp) (.tmp (.tmp (.tmp .nil)))) rfl ?_
    exact ⟨_, _, rfl, Kd.R_nil _ _ _ _ _, Kd.R_nil _ _ _ _ _, hb⟩
  | true =>
    rw [if_pos rfl] at h2
    by_cases hwf : (jd.wfB l0 && (decide (0 ≤ a1) && decide (a1 < (l0.length : Int)))) = true
    · rw [if_pos hwf] at h2
      simp only [Option.some.injEq, Prod.mk.injEq] at h2
      obtain ⟨rfl, rfl, rfl⟩ := h2
      rw [Bool.and_eq_true, Bool.and_eq_true, decide_eq_true_eq, decide_eq_true_eq] at hwf
      obtain ⟨hwB, ha0, ha1⟩ := hwf
      have hw := jd.wf_of hwB
      obtain ⟨a, rfl⟩ : ∃ a : Nat, a1 = (a : Int) := ⟨a1.toNat, by omega⟩
      have ha : a < l0.length := by omega
      have hg40 := hw.1
      go_enter Try.func30, Try.ntmps30
      go_upto_region 3 with (go_at_call 49; refine (impl_hasPosition.calls k A0 c0 l0 (a : Int) true _ HR0.out HC0.out H1.out).mono ?_; rintro e w1 ⟨rfl, hb⟩)
      have HB0 := Aside0.mk hb
      have HRW := Aside0.mk (Kd.C_below HR0.out hb)
      clear hb HR0 H1
      go_upto_region 4 with (go_at_call 59; refine (jd.new l0 A0 c0 _).mono ?_; rintro e w2 ⟨bj, bm, rfl, hbj, hbm, hJ, hb2⟩)
      obtain ⟨ada, Al, cl, Ar, cr, e1, x1, x2, l1, C1, l2, C2⟩ := at_T57 HRW.out (a : Int) (by omega) (by omega)
      cases e1
      have hin0 : ∀ y ∈ (rd_T57 l0 (a : Int)).f0, 0 ≤ y ∧ y < (l0.length : Int) := by
        rw [jd.at a ha]
        intro y hy
        have := (hw.2 a ha).1 y hy
        omega
      have hin1 : ∀ y ∈ (rd_T57 l0 (a : Int)).f1, 0 ≤ y ∧ y < (l0.length : Int) := by
        rw [jd.at a ha]
        intro y hy
        have := (hw.2 a ha).2 y hy
        omega
      have hS0 : (rd_T57 l0 (a : Int)).f0.length ≤ 1048576 := by rw [jd.at a ha]; exact (jd.short hwB a ha).1
      have hS1 : (rd_T57 l0 (a : Int)).f1.length ≤ 1048576 := by rw [jd.at a ha]; exact (jd.short hwB a ha).2
      generalize hE0 : (rd_T57 l0 (a : Int)).f0 = L0 at x1 C1 l1 hin0 hS0 ⊢
      generalize hE1 : (rd_T57 l0 (a : Int)).f1 = L1 at x2 C2 l2 hin1 hS1 ⊢
      simp only [Int.toNat_natCast] at x1 x2
      have HT := Aside0.mk (fun W hb hj => jd.dominated_true l0 hw (some ada) c0 w1 HRW.out HC0.out bj bm hbj hbm L0 Al cl C1 hS0 hin0 W hb hj)
      have HF := Aside0.mk (fun W hb hj => jd.dominated_false l0 hw (some ada) c0 w1 HRW.out HC0.out bj bm hbj hbm L1 Ar cr C2 hS1 hin1 W hb hj)
      have HX1 := Aside0.mk x1
      have HX2 := Aside0.mk x2
      have HB := Aside0.mk (below_drew1 hb2)
      have HJ := Aside0.mk (hJ.kept (grown_of_below (below_drew (Below.refl _ _)) none) (by simp) (by simp))
      have p197 := eq_true (show (0 : Int) ≤ (a : Int) by omega)
      have q197 := eq_true (show (a : Int) < (l0.length : Int) by omega)
      clear x1 x2 C1 C2 l1 l2 hin0 hin1 hS0 hS1 hw hwB hbj hbm hb2 hJ HRW hg40
      refine start_ (n := 17) (S := fun w' => w'.cell? (ada.add (a * 2)) = some (.slice Al L0.length cl) ∧ w'.cell? ⟨(ada.add (a * 2)).block, (ada.add (a * 2)).off + 1, none⟩ = some (.slice Ar L1.length cr)) (ds := []) #[false, false, false, false, false, false, false, false, false, false, false, false, false, false, false, false, false] (by kernel_rfl) rfl rfl ⟨((HB.out.cell (World.block_lt_of_cell? w1 _ HX1.out)).trans HX1.out), ((HB.out.cell (World.block_lt_of_cell? w1 _ HX2.out)).trans HX2.out)⟩ (fun hHeld => ?_); refine with_tabW jd.tab4 jd.bits4 (fun HT_ HW_ => ?_)
      generalize w2.drew = w12 at HB HJ hHeld ⊢
      refine pure_ (i := 0) (N := some 14) (v := ?_) (a' := ?_) #[true, false, false, false, false, false, false, false, false, false, false, false, false, false, false, false, false] rfl rfl (any_of HT_.out (by kernel_rfl)) (fun _ _ _ h => h) (Or.inl ⟨by rfl, ?_⟩) ?_ ?_
      rotate_left
      · intro w'
        go_simp
        with_reducible rfl
      rotate_left
      · simp only [Act.put, List.setIfInBounds_toArray, List.set_cons_zero, List.set_cons_succ, i64_w, i32_w]
        rfl
      refine pure_ (i := 1) (N := some 15) (v := ?_) (a' := ?_) #[true, true, false, false, false, false, false, false, false, false, false, false, false, false, false, false, false] rfl rfl (any_of HT_.out (by kernel_rfl)) (fun _ _ _ h => h) (Or.inl ⟨by rfl, ?_⟩) ?_ ?_
      rotate_left
      · intro w'
        go_simp
        with_reducible rfl
      rotate_left
      · simp only [Act.put, List.setIfInBounds_toArray, List.set_cons_zero, List.set_cons_succ, i64_w, i32_w]
        rfl
      refine pure_ (i := 2) (N := some 16) (v := ?_) (a' := ?_) #[true, true, true, false, false, false, false, false, false, false, false, false, false, false, false, false, false] rfl rfl (any_of HT_.out (by kernel_rfl)) (fun _ _ _ h => h) (Or.inl ⟨by rfl, ?_⟩) ?_ ?_
      rotate_left
      · intro w'
        go_simp
        with_reducible rfl
      rotate_left
      · simp only [Act.put, List.setIfInBounds_toArray, List.set_cons_zero, List.set_cons_succ, i64_w, i32_w]
        rfl
      refine pure_ (i := 3) (N := some 17) (v := ?_) (a' := ?_) #[true, true, true, true, false, false, false, false, false, false, false, false, false, false, false, false, false] rfl rfl (any_of HT_.out (by kernel_rfl)) (fun _ _ _ h => h) (Or.inl ⟨by rfl, ?_⟩) ?_ ?_
      rotate_left
      · intro w'
        go_simp
        with_reducible rfl
      rotate_left
      · simp only [Act.put, List.setIfInBounds_toArray, List.set_cons_zero, List.set_cons_succ, i64_w, i32_w]
        rfl
      refine pure_ (i := 4) (N := some 18) (v := ?_) (a' := ?_) #[true, true, true, true, true, false, false, false, false, false, false, false, false, false, false, false, false] rfl rfl (any_of HT_.out (by kernel_rfl)) (fun _ _ _ h => h) (Or.inl ⟨by rfl, ?_⟩) ?_ ?_
      rotate_left
      · intro w'
        go_simp
        with_reducible rfl
      rotate_left
      · simp only [Act.put, List.setIfInBounds_toArray, List.set_cons_zero, List.set_cons_succ, i64_w, i32_w]
        rfl
      refine pure_ (i := 7) (N := some 21) (v := ?_) (a' := ?_) #[true, true, true, true, true, false, false, true, false, false, false, false, false, false, false, false, false] rfl rfl (any_of HT_.out (by kernel_rfl)) (fun _ _ _ h => h) (Or.inl ⟨by rfl, ?_⟩) ?_ ?_
      rotate_left
      · intro w'
        go_simp
        with_reducible rfl
      rotate_left
      · simp only [Act.put, List.setIfInBounds_toArray, List.set_cons_zero, List.set_cons_succ, i64_w, i32_w]
        rfl
      refine pure_ (i := 8) (N := some 22) (v := ?_) (a' := ?_) #[true, true, true, true, true, false, false, true, true, false, false, false, false, false, false, false, false] rfl rfl (any_of HT_.out (by kernel_rfl)) (fun _ _ _ h => h) (Or.inl ⟨by rfl, ?_⟩) ?_ ?_
      rotate_left
      · intro w'
        go_simp
        with_reducible rfl
      rotate_left
      · simp only [Act.put, List.setIfInBounds_toArray, List.set_cons_zero, List.set_cons_succ, i64_w, i32_w]
        rfl
      refine pure_ (i := 9) (N := some 23) (v := ?_) (a' := ?_) #[true, true, true, true, true, false, false, true, true, true, false, false, false, false, false, false, false] rfl rfl (any_of HT_.out (by kernel_rfl)) (fun _ _ _ h => h) (Or.inl ⟨by rfl, ?_⟩) ?_ ?_
      rotate_left
      · intro w'
        go_simp
        with_reducible rfl
      rotate_left
      · simp only [Act.put, List.setIfInBounds_toArray, List.set_cons_zero, List.set_cons_succ, i64_w, i32_w]
        rfl
      refine pure_ (i := 10) (N := some 24) (v := ?_) (a' := ?_) #[true, true, true, true, true, false, false, true, true, true, true, false, false, false, false, false, false] rfl rfl (any_of HT_.out (by kernel_rfl)) (fun _ _ _ h => h) (Or.inl ⟨by rfl, ?_⟩) ?_ ?_
      rotate_left
      · intro w'
        go_simp
        with_reducible rfl
      rotate_left
      · simp only [Act.put, List.setIfInBounds_toArray, List.set_cons_zero, List.set_cons_succ, i64_w, i32_w]
        rfl
      refine pure_ (i := 11) (N := some 25) (v := ?_) (a' := ?_) #[true, true, true, true, true, false, false, true, true, true, true, true, false, false, false, false, false] rfl rfl (any_of HT_.out (by kernel_rfl)) (fun _ _ _ h => h) (Or.inl ⟨by rfl, ?_⟩) ?_ ?_
      rotate_left
      · intro w'
        go_simp
        with_reducible rfl
      rotate_left
      · simp only [Act.put, List.setIfInBounds_toArray, List.set_cons_zero, List.set_cons_succ, i64_w, i32_w]
        rfl
      refine take_ (i := 5) (N := some 19) (v := ?_) (a' := ?_) #[true, true, true, true, true, true, false, true, true, true, true, true, false, false, false, false, false] rfl rfl (take_ofW HT_.out HW_.out (by kernel_rfl)) (fun _ _ _ h => h) (Or.inl ⟨by rfl, ?_⟩) hHeld ?_ ?_
      rotate_left
      · rintro w' ⟨s0, s1⟩
        go_simp
        with_reducible rfl
      rotate_left
      · simp only [Act.put, List.setIfInBounds_toArray, List.set_cons_zero, List.set_cons_succ, i64_w, i32_w]
        rfl
      refine take_ (i := 12) (N := some 26) (v := ?_) (a' := ?_) #[true, true, true, true, true, true, false, true, true, true, true, true, true, false, false, false, false] rfl rfl (take_ofW HT_.out HW_.out (by kernel_rfl)) (fun _ _ _ h => h) (Or.inl ⟨by rfl, ?_⟩) hHeld ?_ ?_
      rotate_left
      · rintro w' ⟨s0, s1⟩
        go_simp
        with_reducible rfl
      rotate_left
      · simp only [Act.put, List.setIfInBounds_toArray, List.set_cons_zero, List.set_cons_succ, i64_w, i32_w]
        rfl
      refine one_ (i := 6) (N := some 20) #[true, true, true, true, true, true, true, true, true, true, true, true, true, false, false, false, false] rfl rfl (one_of HT_.out (by kernel_rfl)) (by decide) (fun K hK => ?_)
      refine goes_ Try.func63 (by kernel_rfl) rfl #[.pointer (some ⟨bj, 0, none⟩), .slice Al L0.length cl, .bool true] (by rfl) rfl rfl (by (try simp only [List.map_toArray, List.map_cons, List.map_nil]); first | done | rfl) ?_
      refine (HT.out _ HB.out HJ.out).mono ?_
      rintro e w14 ⟨v0, rfl, ho, hJ5, hb5, hG5⟩
      refine ⟨_, rfl, ?_⟩
      have HO1 := Aside0.mk (Kd.R_mono (ok' := fun k_ => k_ < w14.heap.size) (Kd.R_bound ho) (fun _ hk => hk.2.2.1))
      have n0_ := Aside0.mk hJ5
      have n1_ := Aside0.mk hb5
      clear HJ HB ho hJ5 hb5 hG5
      have HJ := n0_
      have HB := n1_
      clear n0_ n1_
      refine hK.out _ _ ⟨((HB.out.cell (World.block_lt_of_cell? w1 _ HX1.out)).trans HX1.out), ((HB.out.cell (World.block_lt_of_cell? w1 _ HX2.out)).trans HX2.out)⟩ (fun hHeld => ?_)
      clear hK K
      refine norm_ (a' := ?_) ?_ ?_
      rotate_left
      · show Act.put _ (some 20) _ = _
        simp only [Act.put, List.setIfInBounds_toArray, List.set_cons_zero, List.set_cons_succ, i64_w, i32_w]
        rfl
      refine one_ (i := 13) (N := some 27) #[true, true, true, true, true, true, true, true, true, true, true, true, true, true, false, false, false] rfl rfl (one_of HT_.out (by kernel_rfl)) (by decide) (fun K hK => ?_)
      refine goes_ Try.func63 (by kernel_rfl) rfl #[.pointer (some ⟨bj, 0, none⟩), .slice Ar L1.length cr, .bool false] (by rfl) rfl rfl (by (try simp only [List.map_toArray, List.map_cons, List.map_nil]); first | done | rfl) ?_
      refine (HF.out _ HB.out HJ.out).mono ?_
      rintro e w15 ⟨v1, rfl, ho, hJ5, hb5, hG5⟩
      refine ⟨_, rfl, ?_⟩
      have m0_ := Aside0.mk (jd.keepR HJ.out HO1.out hG5)
      have HO2 := Aside0.mk ho
      have n1_ := Aside0.mk hb5
      clear HJ HB HO1 ho hJ5 hb5 hG5
      have HO1 := m0_
      have HB := n1_
      clear m0_ n1_
      refine hK.out _ _ ⟨((HB.out.cell (World.block_lt_of_cell? w1 _ HX1.out)).trans HX1.out), ((HB.out.cell (World.block_lt_of_cell? w1 _ HX2.out)).trans HX2.out)⟩ (fun hHeld => ?_)
      clear hK K
      refine norm_ (a' := ?_) ?_ ?_
      rotate_left
      · show Act.put _ (some 27) _ = _
        simp only [Act.put, List.setIfInBounds_toArray, List.set_cons_zero, List.set_cons_succ, i64_w, i32_w]
        rfl
      refine pure_ (i := 14) (N := some 4) (v := ?_) (a' := ?_) #[true, true, true, true, true, true, true, true, true, true, true, true, true, true, true, false, false] rfl rfl (any_of HT_.out (by kernel_rfl)) (fun _ _ _ h => h) (Or.inl ⟨by rfl, ?_⟩) ?_ ?_
      rotate_left
      · intro w'
        go_simp
        with_reducible rfl
      rotate_left
      · simp only [Act.put, List.setIfInBounds_toArray, List.set_cons_zero, List.set_cons_succ, i64_w, i32_w]
        rfl
      refine pure_ (i := 15) (N := some 5) (v := ?_) (a' := ?_) #[true, true, true, true, true, true, true, true, true, true, true, true, true, true, true, true, false] rfl rfl (any_of HT_.out (by kernel_rfl)) (fun _ _ _ h => h) (Or.inl ⟨by rfl, ?_⟩) ?_ ?_
      rotate_left
      · intro w'
        go_simp
        with_reducible rfl
      rotate_left
      · simp only [Act.put, List.setIfInBounds_toArray, List.set_cons_zero, List.set_cons_succ, i64_w, i32_w]
        rfl
      refine pure_ (i := 16) (N := some 6) (v := ?_) (a' := ?_) #[true, true, true, true, true, true, true, true, true, true, true, true, true, true, true, true, true] rfl rfl (any_of HT_.out (by kernel_rfl)) (fun _ _ _ h => h) (Or.inl ⟨by rfl, ?_⟩) ?_ ?_
      rotate_left
      · intro w'
        go_simp
        with_reducible rfl
      rotate_left
      · simp only [Act.put, List.setIfInBounds_toArray, List.set_cons_zero, List.set_cons_succ, i64_w, i32_w]
        rfl
      refine done_ (done_of HT_.out (by kernel_rfl)) ?_
      try go_wp2
      go_ret3
      refine ⟨v0, v1, rfl, ?_, ?_, below_step HB0.out HB.out⟩
      · rw [hE0]
        exact Kd.R_lower (Kd.R_mono HO1.out (fun k_ hk e => absurd (HO2.out.1 k_ e.symm) (Nat.not_le.2 hk))) HB0.out.size
      · rw [hE1]
        exact Kd.R_lower (Kd.R_mono HO2.out (fun k_ hk e => absurd (HO1.out.1 k_ e.symm) (Nat.not_lt.2 hk))) HB0.out.size
    · rw [if_neg hwf] at h2
      cases h2

end Go.Proofs.Ytpiafobcmhfclaa.QFnExactDominatedOf
