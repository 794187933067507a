/- The Go functions that the law FnExactReversibleOf reaches, as Lean functions, and what their calls do. Written by a program of this session. -/
import Derived.Test.YtpiafobcmhfclaaQFnExactReversibleOfx0
import Derived.Test.YtpiafobcmhfclaaQFnExactReversibleOfx6
namespace Go.Proofs.Ytpiafobcmhfclaa.QFnExactReversibleOf
open Go.RowKit Go.Proofs.YtpiafobcmhfclaaW.PrintWords Go.Proofs.YtpiafobcmhfclaaW.PrintLast Go.Proofs.YtpiafobcmhfclaaW.PrintMore
attribute [local go_sem] max2_int min2_int max_two min_two max_three min_three max_four min_four   -- for this text's walks alone
set_option linter.unusedVariables false
set_option linter.unusedSimpArgs false

/-! ### impl_ReversibleOf: function 25 -/
/-! #### atMost: a table of pairs, through the recursion -/
def jd.le : Nat → List S57 → Int → Int → Bool
  | 0, _, _, _ => true
  | k + 1, g, a, b => (rd_T57 g a).f0.all (fun x => !jd.le k g b x) && (rd_T57 g b).f1.all (fun y => !jd.le k g y a)
theorem jd.all_congr {α : Type} {p q : α → Bool} : ∀ {l : List α}, (∀ x ∈ l, p x = q x) → l.all p = l.all q
  | [], _ => rfl
  | x :: l, h => by rw [List.all_cons, List.all_cons, h x (List.mem_cons_self ..), jd.all_congr (fun y hy => h y (List.mem_cons_of_mem _ hy))]
/-- Each position's options lie below it. -/
def jd.Wf (g : List S57) : Prop := g.length ≤ 40 ∧ ∀ i : Nat, ∀ h : i < g.length, (∀ x ∈ (g[i]'h).f0, 0 ≤ x ∧ x < (i : Int)) ∧ ∀ x ∈ (g[i]'h).f1, 0 ≤ x ∧ x < (i : Int)
theorem jd.at {g : List S57} (i : Nat) (h : i < g.length) : rd_T57 g (i : Int) = g[i] := by simp [rd_T57, List.getD_eq_getElem?_getD, List.getElem?_eq_getElem h]
theorem jd.stable {g : List S57} (hw : jd.Wf g) : ∀ (k k' : Nat) (a b : Nat), a < g.length → b < g.length → a + b < k → a + b < k' → jd.le k g a b = jd.le k' g a b := by
  intro k
  induction k with
  | zero => intro k' a b _ _ h; omega
  | succ k ih =>
    intro k' a b ha hb h h'
    obtain ⟨k', rfl⟩ : ∃ m, k' = m + 1 := ⟨k' - 1, by omega⟩
    have q1 : (rd_T57 g (a : Int)).f0.all (fun x => !jd.le k g b x) = (rd_T57 g (a : Int)).f0.all (fun x => !jd.le k' g b x) := by
      rw [jd.at a ha]
      refine jd.all_congr ?_
      intro x hx
      obtain ⟨x1, x2⟩ := (hw.2 a ha).1 x hx
      obtain ⟨n, rfl⟩ : ∃ n : Nat, x = (n : Int) := ⟨x.toNat, by omega⟩
      rw [ih k' b n hb (by omega) (by omega) (by omega)]
    have q2 : (rd_T57 g (b : Int)).f1.all (fun y => !jd.le k g y a) = (rd_T57 g (b : Int)).f1.all (fun y => !jd.le k' g y a) := by
      rw [jd.at b hb]
      refine jd.all_congr ?_
      intro x hx
      obtain ⟨x1, x2⟩ := (hw.2 b hb).2 x hx
      obtain ⟨n, rfl⟩ : ∃ n : Nat, x = (n : Int) := ⟨x.toNat, by omega⟩
      rw [ih k' n a (by omega) ha (by omega) (by omega)]
    unfold jd.le
    rw [q1, q2]
def jd.LE (g : List S57) (a b : Nat) : Bool := jd.le (a + b + 1) g a b
theorem jd.LE_eq {g : List S57} (hw : jd.Wf g) (a b : Nat) (ha : a < g.length) (hb : b < g.length) : jd.LE g a b = ((g[a]'ha).f0.all (fun x => !jd.LE g b x.toNat) && (g[b]'hb).f1.all (fun y => !jd.LE g y.toNat a)) := by
  unfold jd.LE
  rw [jd.le, jd.at a ha, jd.at b hb]
  congr 1
  · refine jd.all_congr ?_
    intro x hx
    obtain ⟨x1, x2⟩ := (hw.2 a ha).1 x hx
    obtain ⟨n, rfl⟩ : ∃ n : Nat, x = (n : Int) := ⟨x.toNat, by omega⟩
    rw [Int.toNat_natCast, jd.stable hw _ (b + n + 1) b n hb (by omega) (by omega) (by omega)]
  · refine jd.all_congr ?_
    intro x hx
    obtain ⟨x1, x2⟩ := (hw.2 b hb).2 x hx
    obtain ⟨n, rfl⟩ : ∃ n : Nat, x = (n : Int) := ⟨x.toNat, by omega⟩
    rw [Int.toNat_natCast, jd.stable hw _ (n + a + 1) n a (by omega) ha (by omega) (by omega)]
theorem jd.two : MpP.Two Try.prog 107 3 := ⟨⟨Try.underlying107, by kernel_rfl, by kernel_rfl, by kernel_rfl⟩, Try.underlying3, ⟨Try.prog.types.size - 1, by kernel_rfl⟩⟩
theorem jd.zB (w : World) : (zeroValue 4).run Try.prog w = .ok (.bool false) w := by kernel_rfl
/-- A judge: its game, and its table, which holds what is so. -/
def jd.J (g : List S57) (A : Option Addr) (c bj bm : Nat) (w : World) : Prop :=
  w.heap[bj]? = some (.cells #[.slice A g.length c, .map (some bm)] 103 (0, 0)) ∧ ∃ f, MpP.OwnP w Try.prog 107 4 bm f ∧ ∀ p y, f p = some y → y = jd.LE g p.1 p.2
theorem jd.J.ne {g : List S57} {A : Option Addr} {c bj bm : Nat} {w : World} (h : jd.J g A c bj bm w) : bj ≠ bm := by
  rintro rfl
  obtain ⟨h1, f, ⟨n, ⟨D, ⟨es, cl, hb, _⟩, _⟩, _⟩, _⟩ := h
  rw [h1] at hb
  cases hb
theorem jd.J.kept {g : List S57} {A : Option Addr} {c bj bm : Nat} {w w' : World} {row : Option Nat} (h : jd.J g A c bj bm w) (hg : w.grownBy w' row) (h1 : some bj ≠ row) (h2 : some bm ≠ row) : jd.J g A c bj bm w' := by
  obtain ⟨q1, f, q2, q3⟩ := h
  exact ⟨blk_grown q1 hg h1, f, q2.kept hg h2, q3⟩
theorem jd.but {a c : World} (h : a.grownBy c none) (row : Option Nat) : a.grownBy c row := ⟨h.os, h.tape, h.output, h.size, fun i hi _ => h.block i hi (by simp)⟩
theorem jd.all_snoc {α : Type} (l : List α) (p : α → Bool) (n : Nat) (h : n < l.length) : (l.take (n + 1)).all p = ((l.take n).all p && p l[n]) := by
  rw [List.take_succ_eq_append_getElem h, List.all_append]
  simp
set_option maxHeartbeats 4000000 in
set_option maxRecDepth 100000 in
theorem jd.atMost (g : List S57) (hw : jd.Wf g) (A : Option Addr) (c : Nat) (w0 : World) (hr : Kd.C k57 w0 A g.length g) (hc : g.length ≤ c) (bj bm : Nat) (hbj : w0.heap.size ≤ bj) (hbm : w0.heap.size ≤ bm) :
    ∀ (N a b : Nat), a + b < N → a < g.length → b < g.length → ∀ w, Below w0.heap.size w0 w → jd.J g A c bj bm w →
      Calls Try.prog 82 #[.pointer (some ⟨bj, 0, none⟩), .int .i64 (a : Int), .int .i64 (b : Int)] w fun e w' => e = .returned (.bool (jd.LE g a b)) ∧ jd.J g A c bj bm w' ∧ Below w0.heap.size w0 w' ∧ w.grownBy w' (some bm) := by
  intro N
  induction N with
  | zero => intro a b h; omega
  | succ N IH =>
    intro a b hab ha hb w hB hJ
    have hne := hJ.ne
    have hg40 := hw.1
    have hsm : MpP.Small (a, b) := ⟨by omega, by omega⟩
    have hLE := jd.LE_eq hw a b ha hb
    have HJ0 := Aside0.mk hJ
    have hJlt := blk_lt hJ.1
    have hJlt2 : bm < w.heap.size := by obtain ⟨_, f, q, _⟩ := hJ; exact q.lt
    obtain ⟨ada, Al, cl, Ar, cr, e1, x1, x2, l1, C1, l2, C2⟩ := at_T57 hr (a : Int) (by omega) (by omega)
    obtain ⟨adb, Bl, dl, Br, dr, e2, y1, y2, m1, D1, m2, D2⟩ := at_T57 hr (b : Int) (by omega) (by omega)
    cases e1
    cases e2
    rw [jd.at a ha] at x1 C1 l1
    rw [jd.at b hb] at y2 D2 m2
    generalize hLa : (g[a]'ha).f0 = La at x1 C1 l1 hLE
    generalize hRb : (g[b]'hb).f1 = Rb at y2 D2 m2 hLE
    have hLaw : ∀ x ∈ La, 0 ≤ x ∧ x < (a : Int) := by rw [← hLa]; exact (hw.2 a ha).1
    have hRbw : ∀ x ∈ Rb, 0 ≤ x ∧ x < (b : Int) := by rw [← hRb]; exact (hw.2 b hb).2
    have HLE := Aside0.mk hLE
    have HLA := Aside0.mk hLaw
    have HRB := Aside0.mk hRbw
    have HC1 := Aside0.mk C1
    have HD2 := Aside0.mk D2
    have X1 := Aside0.mk x1
    have Y2 := Aside0.mk y2
    clear hLE hLaw hRbw C1 C2 D1 D2 x1 x2 y1 y2 l1 l2 m1 m2 hLa hRb
    obtain ⟨hj, f, hK, hF⟩ := hJ
    have HB := Aside0.mk hB
    have HI := Aside0.mk IH
    -- the key's block
    obtain ⟨w1, hw1⟩ : ∃ w1, w1 = w.alloc (.cells #[.int .i64 (a : Int), .int .i64 (b : Int)] 107) := ⟨_, rfl⟩
    have z := heap_alloc_new w (.cells #[.int .i64 (a : Int), .int .i64 (b : Int)] 107)
    have hg1 : w.grownBy w1 none := by rw [hw1]; exact World.grownBy_alloc w _ _
    rw [← hw1] at z
    have hj1 := blk_grown hj hg1 (by simp)
    have hK1 := hK.kept hg1 (by simp)
    have B1 : Below w0.heap.size w0 w1 := by rw [hw1]; exact hB.alloc hB.size _
    have kc0 := (blk_cell z 0).trans rfl
    have kc1 := (blk_cell z 1).trans rfl
    have jc1 := (blk_cell hj1 1).trans rfl
    have hlk : ∀ n, (Instr.lookup 78 (.map (some bm)) (.agg #[.int .i64 (a : Int), .int .i64 (b : Int)]) true).run Try.prog (w1.drewN n) = .ok (.tuple #[.bool ((f (a, b)).getD false), .bool (f (a, b)).isSome]) (w1.drewN n) := fun n =>
      (hK1.kept (grown_of_below (pw_below_drewN (Below.refl w1.heap.size w1) n) none) (by simp)).run_ok jd.two Try.underlying78 Try.underlying4 (jd.zB _) hsm
    have HW1 := Aside0.mk hw1
    have HG1 := Aside0.mk hg1
    have HK1 := Aside0.mk z
    have HF := Aside0.mk hF
    clear z hj hB IH hr hw1 hg1 hj1 hK hK1
    go_enter Try.func82, Try.ntmps82
    go_upto_region 2 with (fail)
    rw [← HW1.out]
    cases hf : f (a, b) with
    | some y =>
      simp only [hf, Option.getD_some, Option.isSome_some] at hlk
      go_quiet ((fail))
      go_wp2
      go_ret
      exact ⟨by rw [HF.out _ _ hf]; rfl, HJ0.out.kept (HG1.out.trans (grown_of_below (pw_below_drewN (Below.refl w1.heap.size w1) _) none)) (by simp) (by simp), by first | exact pw_below_drewN B1 _ | exact B1, jd.but (HG1.out.trans (grown_of_below (pw_below_drewN (Below.refl w1.heap.size w1) _) none)) _⟩
    | none =>
      simp only [hf, Option.getD_none, Option.isSome_none] at hlk
      go_quiet ((fail))
      have G2 := HG1.out.trans (grown_of_below (pw_below_drewN (Below.refl w1.heap.size w1) nq) none)
      have B2 : Below w0.heap.size w0 (w1.drewN nq) := pw_below_drewN B1 _
      have K2 := Aside0.mk (blk_drewN HK1.out nq)
      obtain ⟨w2, hw2⟩ : ∃ w2, w2 = w1.drewN nq := ⟨_, rfl⟩
      rw [← hw2] at G2 B2 K2 ⊢
      have HJ := Aside0.mk (HJ0.out.kept G2 (by simp) (by simp))
      have HG := Aside0.mk (jd.but G2 (some bm))
      have HB2 := Aside0.mk B2
      have HKL := Aside0.mk (show w.heap.size ≠ bj from fun e => by rw [← e] at hJlt; exact Nat.lt_irrefl _ hJlt)
      have HKM := Aside0.mk (show w.heap.size ≠ bm from fun e => by rw [← e] at hJlt2; exact Nat.lt_irrefl _ hJlt2)
      clear hw2 G2 B2 B1 kc0 kc1 jc1 hlk hf HB HJ0 HW1 HG1 HK1 HF hJlt hJlt2
      have jc0 := (blk_cell HJ.out.1 0).trans rfl
      have x1 := (HB2.out.cell (World.block_lt_of_cell? w0 _ X1.out)).trans X1.out
      have hbga : decide ((a : Int) < (g.length : Int)) = true := decide_eq_true (by omega)
      have hbla : La.length ≤ 9223372036854775807 := HC1.out.2.1
      have hbrb : Rb.length ≤ 9223372036854775807 := HD2.out.2.1
      simp only [Int.toNat_natCast] at x1
      go_wp2
      clear jc0 x1
      go_loopg [10, 38] La.length (fun gg s10 s38 wr => ∃ n : Nat, n ≤ La.length ∧ La.length - n ≤ gg ∧ s38 = .int .i64 n ∧ s10 = .bool ((La.take n).all (fun x => !jd.LE g b x.toNat)) ∧ Aside0 (jd.J g (some ada) c bj bm wr) ∧ Aside0 (Below w0.heap.size w0 wr) ∧ Aside0 (w.grownBy wr (some bm)) ∧ Aside0 (wr.heap[w.heap.size]? = some (.cells #[.int .i64 (a : Int), .int .i64 (b : Int)] 107 (0, 0))))
      case atStart => exact ⟨0, Nat.zero_le _, by omega, rfl, rfl, HJ, HB2, HG, K2⟩
      case round =>
        clear HJ HB2 HG K2
        obtain ⟨n, hn, hg, rfl, rfl, HJ, HB2, HG, K2⟩ := hrel
        by_cases hlt : n < La.length
        · have hltz : (n : Int) < (La.length : Int) := by omega
          obtain ⟨ad, e0, hx0⟩ := Kd.at_int HC1.out (n : Int) (by omega) hltz
          cases e0
          replace hx0 := (HB2.out.cell (World.block_lt_of_cell? w0 _ hx0)).trans hx0
          have hrd : rd La (n : Int) = La[n] := by simp [rd, List.getD_eq_getElem?_getD, List.getElem?_eq_getElem hlt]
          rw [hrd] at hx0
          simp only [Int.toNat_natCast] at hx0
          have hsn := jd.all_snoc La (fun x => !jd.LE g b x.toNat) n hlt
          obtain ⟨z1, z2⟩ := HLA.out La[n] (List.getElem_mem hlt)
          generalize hxx : La[n] = xx at hx0 hsn z1 z2
          obtain ⟨m, rfl⟩ : ∃ m : Nat, xx = (m : Int) := ⟨xx.toNat, by omega⟩
          simp only [Int.toNat_natCast] at hsn
          have HS := Aside0.mk hsn
          clear hsn hrd hxx
          cases hq : (La.take n).all (fun x => !jd.LE g b x.toNat) with
          | true =>
            have HCALL := Aside0.mk (HI.out b m (by omega) hb (by omega) wr HB2.out HJ.out)
            go_wp2_with (go_at_call 82; refine (HCALL.out).mono ?_; rintro e w5 ⟨rfl, hJ5, hB5, hG5⟩; have n0_ := Aside0.mk hJ5; have n1_ := Aside0.mk hB5; have n2_ := Aside0.mk (HG.out.trans hG5); have n3_ := Aside0.mk (blk_grown K2.out hG5 (fun e => HKM.out (Option.some.inj e))); clear HJ HB2 HG K2 HCALL hJ5 hB5 hG5 hx0; have HJ := n0_; have HB2 := n1_; have HG := n2_; have K2 := n3_; clear n0_ n1_ n2_ n3_)
            go_roundg (La.length - (n + 1))
            case measure => omega
            case rel => exact ⟨n + 1, by omega, by omega, by go_num, by rw [HS.out, hq]; rfl, HJ, HB2, HG, K2⟩
          | false =>
            go_wp2
            go_roundg (La.length - (n + 1))
            case measure => omega
            case rel => exact ⟨n + 1, by omega, by omega, by go_num, by rw [HS.out, hq]; rfl, HJ, HB2, HG, K2⟩
        · have hltz : ¬ (n : Int) < (La.length : Int) := by omega
          have hnl : n = La.length := by omega
          subst hnl
          rw [List.take_length]
          have HLE2 := HLE.out
          generalize hq : La.all (fun x => !jd.LE g b x.toNat) = q at HLE2 ⊢
          have jc0 := (blk_cell HJ.out.1 0).trans rfl
          have y2 := (HB2.out.cell (World.block_lt_of_cell? w0 _ Y2.out)).trans Y2.out
          have hbgb : decide ((b : Int) < (g.length : Int)) = true := decide_eq_true (by omega)
          simp only [Int.toNat_natCast] at y2
          have HL2 := Aside0.mk HLE2
          clear hlt hltz hg hn HLE HLE2 hq
          go_wp2
          clear jc0 y2
          go_loopg [10, 60] Rb.length (fun gg s10 s60 wq => ∃ n : Nat, n ≤ Rb.length ∧ Rb.length - n ≤ gg ∧ s60 = .int .i64 n ∧ s10 = .bool (q && (Rb.take n).all (fun y => !jd.LE g y.toNat a)) ∧ Aside0 (jd.J g (some ada) c bj bm wq) ∧ Aside0 (Below w0.heap.size w0 wq) ∧ Aside0 (w.grownBy wq (some bm)) ∧ Aside0 (wq.heap[w.heap.size]? = some (.cells #[.int .i64 (a : Int), .int .i64 (b : Int)] 107 (0, 0))))
          case atStart => exact ⟨0, Nat.zero_le _, by omega, rfl, by simp, HJ, HB2, HG, K2⟩
          case round =>
            clear HJ HB2 HG K2
            obtain ⟨n, hn, hg, rfl, rfl, HJ, HB2, HG, K2⟩ := hrel
            by_cases hlt : n < Rb.length
            · have hltz : (n : Int) < (Rb.length : Int) := by omega
              obtain ⟨ad, e0, hx0⟩ := Kd.at_int HD2.out (n : Int) (by omega) hltz
              cases e0
              replace hx0 := (HB2.out.cell (World.block_lt_of_cell? w0 _ hx0)).trans hx0
              have hrd : rd Rb (n : Int) = Rb[n] := by simp [rd, List.getD_eq_getElem?_getD, List.getElem?_eq_getElem hlt]
              rw [hrd] at hx0
              simp only [Int.toNat_natCast] at hx0
              have hsn := jd.all_snoc Rb (fun y => !jd.LE g y.toNat a) n hlt
              obtain ⟨z1, z2⟩ := HRB.out Rb[n] (List.getElem_mem hlt)
              generalize hxx : Rb[n] = xx at hx0 hsn z1 z2
              obtain ⟨m, rfl⟩ : ∃ m : Nat, xx = (m : Int) := ⟨xx.toNat, by omega⟩
              simp only [Int.toNat_natCast] at hsn
              have HS := Aside0.mk hsn
              clear hsn hrd hxx
              cases hq : (q && (Rb.take n).all (fun y => !jd.LE g y.toNat a)) with
              | true =>
                have HCALL := Aside0.mk (HI.out m a (by omega) (by omega) ha wr HB2.out HJ.out)
                go_wp2_with (go_at_call 82; refine (HCALL.out).mono ?_; rintro e w5 ⟨rfl, hJ5, hB5, hG5⟩; have n0_ := Aside0.mk hJ5; have n1_ := Aside0.mk hB5; have n2_ := Aside0.mk (HG.out.trans hG5); have n3_ := Aside0.mk (blk_grown K2.out hG5 (fun e => HKM.out (Option.some.inj e))); clear HJ HB2 HG K2 HCALL hJ5 hB5 hG5 hx0; have HJ := n0_; have HB2 := n1_; have HG := n2_; have K2 := n3_; clear n0_ n1_ n2_ n3_)
                go_roundg (Rb.length - (n + 1))
                case measure => omega
                case rel => exact ⟨n + 1, by omega, by omega, by go_num, by rw [HS.out, ← Bool.and_assoc, hq]; rfl, HJ, HB2, HG, K2⟩
              | false =>
                go_wp2
                go_roundg (Rb.length - (n + 1))
                case measure => omega
                case rel => exact ⟨n + 1, by omega, by omega, by go_num, by rw [HS.out, ← Bool.and_assoc, hq]; rfl, HJ, HB2, HG, K2⟩
            · have hltz : ¬ (n : Int) < (Rb.length : Int) := by omega
              have hnl : n = Rb.length := by omega
              subst hnl
              rw [List.take_length, ← HL2.out]
              generalize hr : jd.LE g a b = r
              have HR := Aside0.mk hr
              have jc1 := (blk_cell HJ.out.1 1).trans rfl
              have kc0 := (blk_cell K2.out 0).trans rfl
              have kc1 := (blk_cell K2.out 1).trans rfl
              clear hlt hltz hg hn hr
              go_upto_region 16 with (fail)
              go_still_tail 6, (by kernel_rfl)
              obtain ⟨hj3, f3, hK3, hF3⟩ := HJ.out
              have GD : wr.grownBy wr.drew none := grown_of_below (below_drew1 (Below.refl wr.heap.size wr)) none
              have hK4 := hK3.kept GD (by simp)
              refine MpP.step_putP hK4 jd.two Try.underlying78 Try.underlying4 (.tmp 76) (.tmp 77) (.tmp 78) (a, b) hsm r rfl rfl rfl rfl rfl ?_
              intro w9 hK9 ht9
              have GT : wr.grownBy w9 (some bm) := (jd.but GD (some bm)).trans ht9.grown
              have HJ9 := Aside0.mk (show jd.J g (some ada) c bj bm w9 from ⟨blk_grown hj3 GT (fun e => hne (Option.some.inj e)), _, hK9, fun p y hp => by
                by_cases e : p = (a, b)
                · subst e
                  rw [if_pos rfl] at hp
                  rw [← Option.some.inj hp, ← HR.out]
                · rw [if_neg e] at hp
                  exact hF3 p y hp⟩)
              have HB9 := Aside0.mk (HB2.out.grown GT HB2.out.size (fun k e => by injection e with e; omega))
              have HG9 := Aside0.mk (HG.out.trans GT)
              clear hK3 hK4 hF3 hj3 hK9 ht9 GT GD
              go_wp2
              go_ret
              exact ⟨by rw [HR.out]; rfl, HJ9.out, HB9.out, HG9.out⟩
theorem jd.find_at {α : Type} (p : α → Bool) : ∀ (l : List α) (n : Nat) (h : n < l.length), (∀ j, j < n → ∀ hj : j < l.length, p l[j] = false) → p l[n] = true → l.find? p = some l[n]
  | x :: l, 0, h, _, hp => by
    have : p x = true := hp
    rw [List.find?_cons_of_pos this]
    rfl
  | x :: l, n + 1, h, hall, hp => by
    have h0 : p x = false := hall 0 (by omega) (by simp)
    rw [List.find?_cons_of_neg (by rw [h0]; decide)]
    have hl : n < l.length := by rw [List.length_cons] at h; omega
    have := jd.find_at p l n hl (fun j hj hjl => hall (j + 1) (by omega) (by rw [List.length_cons]; omega)) hp
    rw [this]
    rfl
set_option maxHeartbeats 4000000 in
set_option maxRecDepth 100000 in
theorem jd.reversal_true (g : List S57) (hw : jd.Wf g) (A : Option Addr) (c : Nat) (w0 : World) (hr : Kd.C k57 w0 A g.length g) (hc : g.length ≤ c) (bj bm : Nat) (hbj : w0.heap.size ≤ bj) (hbm : w0.heap.size ≤ bm)
    (a x : Nat) (ha : a < g.length) (hx : x < g.length) (w : World) (hB : Below w0.heap.size w0 w) (hJ : jd.J g A c bj bm w) :
    Calls Try.prog 61 #[.pointer (some ⟨bj, 0, none⟩), .slice A g.length c, .int .i64 (a : Int), .int .i64 (x : Int), .bool true] w fun e w' => e = .returned (.int .i64 (((g[x]'hx).f1.find? (fun y => jd.LE g y.toNat a)).getD (-1))) ∧ jd.J g A c bj bm w' ∧ Below w0.heap.size w0 w' ∧ w.grownBy w' (some bm) := by
  have hAT := Aside0.mk (jd.atMost g hw A c w0 hr hc bj bm hbj hbm)
  obtain ⟨adx, Al, cl, Ar, cr, e1, x1, x2, l1, C1, l2, C2⟩ := at_T57 hr (x : Int) (by omega) (by omega)
  cases e1
  rw [jd.at x hx] at x1 x2 C1 C2 l1 l2
  replace x1 := (hB.cell (World.block_lt_of_cell? w0 _ x1)).trans x1
  replace x2 := (hB.cell (World.block_lt_of_cell? w0 _ x2)).trans x2
  simp only [Int.toNat_natCast] at x1 x2
  have hlw := (hw.2 x hx).2
  generalize (g[x]'hx).f0 = L0 at x1 C1 l1 hlw ⊢
  generalize (g[x]'hx).f1 = L1 at x2 C2 l2 hlw ⊢
  have HLW := Aside0.mk hlw
  have HC := Aside0.mk C2
  have HJ := Aside0.mk hJ
  have HB := Aside0.mk hB
  have HG := Aside0.mk (World.grownBy.refl w (some bm))
  have hbig : L1.length ≤ 9223372036854775807 := C2.2.1
  have hxg : decide ((x : Int) < (g.length : Int)) = true := decide_eq_true (by omega)
  clear C1 C2 l1 l2 hlw hJ hB hr
  go_enter Try.func61, Try.ntmps61
  go_wp2
  clear x1 x2
  go_loopg [28] L1.length (fun gg s28 wr => ∃ n : Nat, n ≤ L1.length ∧ L1.length - n ≤ gg ∧ s28 = .int .i64 n ∧ Aside0 (∀ j, j < n → ∀ hj : j < L1.length, (fun y : Int => jd.LE g y.toNat a) L1[j] = false) ∧ Aside0 (jd.J g (some adx) c bj bm wr) ∧ Aside0 (Below w0.heap.size w0 wr) ∧ Aside0 (w.grownBy wr (some bm)))
  case atStart => exact ⟨0, Nat.zero_le _, by omega, rfl, ⟨fun j hj => absurd hj (Nat.not_lt_zero _)⟩, HJ, HB, HG⟩
  case round =>
    clear HJ HB HG
    obtain ⟨n, hn, hg, rfl, HA, HJ, HB, HG⟩ := hrel
    by_cases hlt : n < L1.length
    · have hltz : (n : Int) < (L1.length : Int) := by omega
      obtain ⟨ad, e0, hx0⟩ := Kd.at_int HC.out (n : Int) (by omega) hltz
      cases e0
      replace hx0 := (HB.out.cell (World.block_lt_of_cell? w0 _ hx0)).trans hx0
      have hrd : rd L1 (n : Int) = L1[n] := by simp [rd, List.getD_eq_getElem?_getD, List.getElem?_eq_getElem hlt]
      rw [hrd] at hx0
      simp only [Int.toNat_natCast] at hx0
      have hfd := jd.find_at (fun y : Int => jd.LE g y.toNat a) L1 n hlt HA.out
      obtain ⟨z1, z2⟩ := HLW.out L1[n] (List.getElem_mem hlt)
      generalize hxx : L1[n] = xx at hx0 hfd z1 z2
      obtain ⟨m, rfl⟩ : ∃ m : Nat, xx = (m : Int) := ⟨xx.toNat, by omega⟩
      simp only [Int.toNat_natCast] at hfd
      have HF := Aside0.mk hfd
      have HX := Aside0.mk hxx
      clear hfd hrd hxx
      have hcall := hAT.out (m + a + 1) m a (by omega) (by omega) (by omega) wr HB.out HJ.out
      cases hq : jd.LE g m a with
      | true =>
        rw [hq] at hcall
        have HCALL := Aside0.mk hcall
        clear hcall
        go_wp2_with (go_at_call 82; refine (HCALL.out).mono ?_; rintro e w5 ⟨rfl, hJ5, hB5, hG5⟩; have n0_ := Aside0.mk hJ5; have n1_ := Aside0.mk hB5; have n2_ := Aside0.mk (HG.out.trans hG5); clear HJ HB HG HCALL hJ5 hB5 hG5 hx0; have HJ := n0_; have HB := n1_; have HG := n2_; clear n0_ n1_ n2_)
        go_ret
        exact ⟨by rw [HF.out hq]; rfl, HJ.out, HB.out, HG.out⟩
      | false =>
        rw [hq] at hcall
        have HCALL := Aside0.mk hcall
        clear hcall
        go_wp2_with (go_at_call 82; refine (HCALL.out).mono ?_; rintro e w5 ⟨rfl, hJ5, hB5, hG5⟩; have n0_ := Aside0.mk hJ5; have n1_ := Aside0.mk hB5; have n2_ := Aside0.mk (HG.out.trans hG5); clear HJ HB HG HCALL hJ5 hB5 hG5 hx0; have HJ := n0_; have HB := n1_; have HG := n2_; clear n0_ n1_ n2_)
        go_roundg (L1.length - (n + 1))
        case measure => omega
        case rel =>
          refine ⟨n + 1, by omega, by omega, by go_num, ⟨fun j hj hjl => ?_⟩, HJ, HB, HG⟩
          by_cases e : j = n
          · subst e
            rw [HX.out]
            simpa using hq
          · exact HA.out j (by omega) hjl
    · have hltz : ¬ (n : Int) < (L1.length : Int) := by omega
      have hnl : n = L1.length := by omega
      have HN := Aside0.mk (show L1.find? (fun y : Int => jd.LE g y.toNat a) = none from by
        rw [List.find?_eq_none]
        intro z hz
        obtain ⟨j, hj, rfl⟩ := List.mem_iff_getElem.1 hz
        have z := HA.out j (by omega) hj
        simpa using z)
      clear HA hnl
      go_wp2
      go_ret
      exact ⟨by rw [HN.out]; rfl, HJ.out, HB.out, HG.out⟩
set_option maxHeartbeats 4000000 in
set_option maxRecDepth 100000 in
theorem jd.reversal_false (g : List S57) (hw : jd.Wf g) (A : Option Addr) (c : Nat) (w0 : World) (hr : Kd.C k57 w0 A g.length g) (hc : g.length ≤ c) (bj bm : Nat) (hbj : w0.heap.size ≤ bj) (hbm : w0.heap.size ≤ bm)
    (a x : Nat) (ha : a < g.length) (hx : x < g.length) (w : World) (hB : Below w0.heap.size w0 w) (hJ : jd.J g A c bj bm w) :
    Calls Try.prog 61 #[.pointer (some ⟨bj, 0, none⟩), .slice A g.length c, .int .i64 (a : Int), .int .i64 (x : Int), .bool false] w fun e w' => e = .returned (.int .i64 (((g[x]'hx).f0.find? (fun y => jd.LE g a y.toNat)).getD (-1))) ∧ jd.J g A c bj bm w' ∧ Below w0.heap.size w0 w' ∧ w.grownBy w' (some bm) := by
  have hAT := Aside0.mk (jd.atMost g hw A c w0 hr hc bj bm hbj hbm)
  obtain ⟨adx, Al, cl, Ar, cr, e1, x1, x2, l1, C1, l2, C2⟩ := at_T57 hr (x : Int) (by omega) (by omega)
  cases e1
  rw [jd.at x hx] at x1 x2 C1 C2 l1 l2
  replace x1 := (hB.cell (World.block_lt_of_cell? w0 _ x1)).trans x1
  replace x2 := (hB.cell (World.block_lt_of_cell? w0 _ x2)).trans x2
  simp only [Int.toNat_natCast] at x1 x2
  have hlw := (hw.2 x hx).1
  generalize (g[x]'hx).f0 = L0 at x1 C1 l1 hlw ⊢
  generalize (g[x]'hx).f1 = L1 at x2 C2 l2 hlw ⊢
  have HLW := Aside0.mk hlw
  have HC := Aside0.mk C1
  have HJ := Aside0.mk hJ
  have HB := Aside0.mk hB
  have HG := Aside0.mk (World.grownBy.refl w (some bm))
  have hbig : L0.length ≤ 9223372036854775807 := C1.2.1
  have hxg : decide ((x : Int) < (g.length : Int)) = true := decide_eq_true (by omega)
  clear C1 C2 l1 l2 hlw hJ hB hr
  go_enter Try.func61, Try.ntmps61
  go_wp2
  clear x1 x2
  go_loopg [28] L0.length (fun gg s28 wr => ∃ n : Nat, n ≤ L0.length ∧ L0.length - n ≤ gg ∧ s28 = .int .i64 n ∧ Aside0 (∀ j, j < n → ∀ hj : j < L0.length, (fun y : Int => jd.LE g a y.toNat) L0[j] = false) ∧ Aside0 (jd.J g (some adx) c bj bm wr) ∧ Aside0 (Below w0.heap.size w0 wr) ∧ Aside0 (w.grownBy wr (some bm)))
  case atStart => exact ⟨0, Nat.zero_le _, by omega, rfl, ⟨fun j hj => absurd hj (Nat.not_lt_zero _)⟩, HJ, HB, HG⟩
  case round =>
    clear HJ HB HG
    obtain ⟨n, hn, hg, rfl, HA, HJ, HB, HG⟩ := hrel
    by_cases hlt : n < L0.length
    · have hltz : (n : Int) < (L0.length : Int) := by omega
      obtain ⟨ad, e0, hx0⟩ := Kd.at_int HC.out (n : Int) (by omega) hltz
      cases e0
      replace hx0 := (HB.out.cell (World.block_lt_of_cell? w0 _ hx0)).trans hx0
      have hrd : rd L0 (n : Int) = L0[n] := by simp [rd, List.getD_eq_getElem?_getD, List.getElem?_eq_getElem hlt]
      rw [hrd] at hx0
      simp only [Int.toNat_natCast] at hx0
      have hfd := jd.find_at (fun y : Int => jd.LE g a y.toNat) L0 n hlt HA.out
      obtain ⟨z1, z2⟩ := HLW.out L0[n] (List.getElem_mem hlt)
      generalize hxx : L0[n] = xx at hx0 hfd z1 z2
      obtain ⟨m, rfl⟩ : ∃ m : Nat, xx = (m : Int) := ⟨xx.toNat, by omega⟩
      simp only [Int.toNat_natCast] at hfd
      have HF := Aside0.mk hfd
      have HX := Aside0.mk hxx
      clear hfd hrd hxx
      have hcall := hAT.out (a + m + 1) a m (by omega) (by omega) (by omega) wr HB.out HJ.out
      cases hq : jd.LE g a m with
      | true =>
        rw [hq] at hcall
        have HCALL := Aside0.mk hcall
        clear hcall
        go_wp2_with (go_at_call 82; refine (HCALL.out).mono ?_; rintro e w5 ⟨rfl, hJ5, hB5, hG5⟩; have n0_ := Aside0.mk hJ5; have n1_ := Aside0.mk hB5; have n2_ := Aside0.mk (HG.out.trans hG5); clear HJ HB HG HCALL hJ5 hB5 hG5 hx0; have HJ := n0_; have HB := n1_; have HG := n2_; clear n0_ n1_ n2_)
        go_ret
        exact ⟨by rw [HF.out hq]; rfl, HJ.out, HB.out, HG.out⟩
      | false =>
        rw [hq] at hcall
        have HCALL := Aside0.mk hcall
        clear hcall
        go_wp2_with (go_at_call 82; refine (HCALL.out).mono ?_; rintro e w5 ⟨rfl, hJ5, hB5, hG5⟩; have n0_ := Aside0.mk hJ5; have n1_ := Aside0.mk hB5; have n2_ := Aside0.mk (HG.out.trans hG5); clear HJ HB HG HCALL hJ5 hB5 hG5 hx0; have HJ := n0_; have HB := n1_; have HG := n2_; clear n0_ n1_ n2_)
        go_roundg (L0.length - (n + 1))
        case measure => omega
        case rel =>
          refine ⟨n + 1, by omega, by omega, by go_num, ⟨fun j hj hjl => ?_⟩, HJ, HB, HG⟩
          by_cases e : j = n
          · subst e
            rw [HX.out]
            simpa using hq
          · exact HA.out j (by omega) hjl
    · have hltz : ¬ (n : Int) < (L0.length : Int) := by omega
      have hnl : n = L0.length := by omega
      have HN := Aside0.mk (show L0.find? (fun y : Int => jd.LE g a y.toNat) = none from by
        rw [List.find?_eq_none]
        intro z hz
        obtain ⟨j, hj, rfl⟩ := List.mem_iff_getElem.1 hz
        have z := HA.out j (by omega) hj
        simpa using z)
      clear HA hnl
      go_wp2
      go_ret
      exact ⟨by rw [HN.out]; rfl, HJ.out, HB.out, HG.out⟩
set_option maxHeartbeats 1000000 in
set_option maxRecDepth 100000 in
theorem jd.new (g : List S57) (A : Option Addr) (c : Nat) (w : World) : Calls Try.prog 59 #[.slice A g.length c] w fun e w' => ∃ bj bm : Nat, e = .returned (.pointer (some ⟨bj, 0, none⟩)) ∧ w.heap.size ≤ bj ∧ w.heap.size ≤ bm ∧ jd.J g A c bj bm w' ∧ Below w.heap.size w w' := by
  have hmm := @run_makeMap Try.prog
  go_enter Try.func59, Try.ntmps59
  go_wp2
  go_ret
  refine ⟨w.heap.size + 1, w.heap.size, rfl, by omega, by omega, ⟨?_, _, (MpP.OwnP.made w Try.prog 107 4).kept (World.grownBy_alloc _ _ none) (by simp), fun p y h => by cases h⟩, (((Below.refl _ w).alloc (Nat.le_refl _) _).alloc (by simp) _)⟩
  have z := heap_alloc_new (w.alloc (.map #[] 0)) (.cells #[.slice A g.length c, .map (some w.heap.size)] 103)
  rw [World.size_alloc] at z
  exact z
/-! #### ReversibleOf -/
def jd.wfB (g : List S57) : Bool := decide (g.length ≤ 40) && (List.range g.length).all fun i => (rd_T57 g (i : Int)).f0.all (fun x => decide (0 ≤ x) && decide (x < (i : Int))) && (rd_T57 g (i : Int)).f1.all (fun x => decide (0 ≤ x) && decide (x < (i : Int))) && (decide ((rd_T57 g (i : Int)).f0.length ≤ 1048576) && decide ((rd_T57 g (i : Int)).f1.length ≤ 1048576))
theorem jd.wf_of {g : List S57} (h : jd.wfB g = true) : jd.Wf g := by
  unfold jd.wfB at h
  rw [Bool.and_eq_true, decide_eq_true_eq, List.all_eq_true] at h
  refine ⟨h.1, fun i hi => ?_⟩
  have := h.2 i (List.mem_range.2 hi)
  rw [jd.at i hi, Bool.and_eq_true, Bool.and_eq_true, List.all_eq_true, List.all_eq_true] at this
  refine ⟨fun x hx => ?_, fun x hx => ?_⟩
  · have := this.1.1 x hx
    simpa using this
  · have := this.1.2 x hx
    simpa using this
theorem jd.short {g : List S57} (h : jd.wfB g = true) (i : Nat) (hi : i < g.length) : (g[i]'hi).f0.length ≤ 1048576 ∧ (g[i]'hi).f1.length ≤ 1048576 := by
  unfold jd.wfB at h
  rw [Bool.and_eq_true, decide_eq_true_eq, List.all_eq_true] at h
  have := h.2 i (List.mem_range.2 hi)
  rw [jd.at i hi, Bool.and_eq_true, Bool.and_eq_true] at this
  simpa using this.2
def jd.isrev (g : List S57) (a x : Int) (left : Bool) : Bool := (if left = true then (rd_T57 g x).f1 else (rd_T57 g x).f0).any (fun y => if left = true then jd.LE g y.toNat a.toNat else jd.LE g a.toNat y.toNat)
def jd.revs (g : List S57) (a : Int) (left : Bool) : List Int := (if left = true then (rd_T57 g a).f0 else (rd_T57 g a).f1).filter (fun x => jd.isrev g a x left)
theorem jd.filter_one {α : Type} (p : α → Bool) (x : α) : [x].filter p = if p x = true then [x] else [] := by
  cases h : p x <;> simp [h]
theorem jd.find_any (l : List Int) (p : Int → Bool) (h : ∀ x ∈ l, 0 ≤ x) : decide (0 ≤ (l.find? p).getD (-1)) = l.any p := by
  cases hf : l.find? p with
  | none =>
    have : l.any p = false := by
      rw [List.any_eq_false]
      rw [List.find?_eq_none] at hf
      exact hf
    rw [this]
    rfl
  | some x =>
    have h1 := List.mem_of_find?_eq_some hf
    have h2 := List.find?_some hf
    rw [List.any_eq_true.2 ⟨x, h1, h2⟩]
    exact decide_eq_true (h x h1)
theorem jd.J.map {g : List S57} {A : Option Addr} {c bj bm : Nat} {w : World} (h : jd.J g A c bj bm w) : ∃ es cl, w.heap[bm]? = some (.map es cl) := by
  obtain ⟨_, f, ⟨n, ⟨D, ⟨es, cl, hb, _⟩, _⟩, _⟩, _⟩ := h
  exact ⟨es, cl, hb⟩
theorem jd.notmap {w : World} {bm : Nat} {es : Array MapEntry} {cl : Nat} (h : w.heap[bm]? = some (.map es cl)) {k q : Nat} {cs : Array Value} (hk : w.heap[k]? = some (.cells cs q (0, 0))) : k ≠ bm := by
  rintro rfl
  rw [h] at hk
  cases hk
theorem jd.keepR {g : List S57} {A : Option Addr} {c bj bm : Nat} {w w' : World} (h : jd.J g A c bj bm w) {base : Nat} {ok : Nat → Prop} {v : Value} {xs : List Int} (hr : Kd.R (Kd.int .i64) 3 w base ok v xs) (hg : w.grownBy w' (some bm)) : Kd.R (Kd.int .i64) 3 w' base ok v xs := by
  obtain ⟨es, cl, hm⟩ := h.map
  refine Kd.R_mono (Kd.R_move (Kd.R_bound hr) (fun k hk => hg.block k hk.2.2.1 (fun e => ?_))) (fun _ hk => hk.1)
  obtain ⟨_, _, _, q, _, cells, hc⟩ := hk
  exact jd.notmap hm hc (Option.some.inj e)
theorem jd.J.row {g : List S57} {A : Option Addr} {c bj bm : Nat} {w : World} (h : jd.J g A c bj bm w) {base : Nat} {ok : Nat → Prop} {v : Value} {xs : List Int} (hr : Kd.R (Kd.int .i64) 3 w base ok v xs) : some bj ≠ v.ownBlock ∧ some bm ≠ v.ownBlock := by
  refine ⟨Kd.R_ne hr h.1 (by decide), fun e => ?_⟩
  obtain ⟨es, cl, hm⟩ := h.map
  obtain ⟨_, _, _, q, _, cells, hc⟩ := (Kd.R_bound hr).1 bm e.symm
  exact jd.notmap hm hc rfl
theorem jd.grown_set (w : World) (p : Addr) (u : Value) : w.grownBy (w.setCell p u) (some p.block) := ⟨rfl, rfl, rfl, by simp [World.setCell], fun k _ hk => Below.heap_setCell w p u k (fun e => hk (by rw [e]))⟩
set_option maxHeartbeats 1000000 in
set_option maxRecDepth 100000 in
theorem jd.sided (A0 A1 : Option Addr) (n0 c0 n1 c1 : Nat) (left : Bool) (w : World) : Calls Try.prog 60 #[.agg #[.slice A0 n0 c0, .slice A1 n1 c1], .bool left] w fun e w' => e = .returned (if left = true then .slice A0 n0 c0 else .slice A1 n1 c1) ∧ Below w.heap.size w w' := by
  have hu57 := Try.underlying57
  cases left with
  | true =>
    go_enter Try.func60, Try.ntmps60
    go_wp2
    go_ret
    exact ⟨rfl, (Below.refl _ w).alloc (Nat.le_refl _) _⟩
  | false =>
    go_enter Try.func60, Try.ntmps60
    go_wp2
    go_ret
    exact ⟨rfl, (Below.refl _ w).alloc (Nat.le_refl _) _⟩
def impl_ReversibleOf.f (k : Nat) (l0 : List (S57)) (a1 : Int) : Option (List Int × List Int × Bool) := (impl_hasPosition.f k l0 a1).bind fun t => if t = true then (if (jd.wfB l0 && (decide (0 ≤ a1) && decide (a1 < (l0.length : Int)))) = true then some (jd.revs l0 a1 true, jd.revs l0 a1 false, true) else none) else some ([], [], false)
theorem impl_ReversibleOf.mono : ∀ a0 a1 k, LeO (impl_ReversibleOf.f k a0 a1) (impl_ReversibleOf.f (k + 1) a0 a1) := by
  intro a0 a1 k
  unfold impl_ReversibleOf.f
  exact LeO.bind (impl_hasPosition.mono _ _ _) (fun _ => LeO.refl _)
set_option maxHeartbeats 4000000 in
set_option maxRecDepth 100000 in
theorem impl_ReversibleOf.calls (k : Nat) (A0 : Option Addr) (c0 : Nat) (l0 : List (S57)) (a1 : Int) (r1 : List Int) (r2 : List Int) (r3 : Bool) (w : World) (hr0 : Kd.C k57 w A0 l0.length l0) (hc0 : l0.length ≤ c0) (h : impl_ReversibleOf.f k l0 a1 = some (r1, r2, r3)) :
    Calls Try.prog 25 #[.slice A0 l0.length c0, .int .i64 a1] w fun e w' => ∃ v0_ v1_ : Value, e = .returned (.tuple #[v0_, v1_, .bool r3]) ∧ Kd.R (Kd.int .i64) 3 w' w.heap.size (fun k_ => some k_ ≠ (v1_ : Value).ownBlock) v0_ r1 ∧ Kd.R (Kd.int .i64) 3 w' w.heap.size (fun k_ => some k_ ≠ (v0_ : Value).ownBlock) v1_ r2 ∧ Below w.heap.size w w' := by
  have h0 : ((impl_hasPosition.f k l0 a1).bind fun t => if t = true then (if (jd.wfB l0 && (decide (0 ≤ a1) && decide (a1 < (l0.length : Int)))) = true then some (jd.revs l0 a1 true, jd.revs l0 a1 false, true) else none) else some ([], [], false)) = some (r1, r2, r3) := h
  clear h
  obtain ⟨t, h1, h2⟩ := Option.bind_eq_some_iff.mp h0
  clear h0
  have H1 := Aside0.mk h1
  have HR0 := Aside0.mk hr0
  have HC0 := Aside0.mk hc0
  clear h1 hr0 hc0
  cases t with
  | false =>
    rw [if_neg (by decide)] at h2
    simp only [Option.some.injEq, Prod.mk.injEq] at h2
    obtain ⟨rfl, rfl, rfl⟩ := h2
    go_enter Try.func25, Try.ntmps25
    go_wp2_with (go_at_call 49; refine (impl_hasPosition.calls k A0 c0 l0 a1 false _ HR0.out HC0.out H1.out).mono ?_; rintro e w1 ⟨rfl, hb⟩)
    refine bodyPost_ret (results_list (rs := [.tmp 4, .tmp 5, .tmp 6]) rfl (by simp) (.tmp (.tmp (.tmp .nil)))) rfl ?_
    exact ⟨_, _, rfl, Kd.R_nil _ _ _ _ _, Kd.R_nil _ _ _ _ _, hb⟩
  | true =>
    rw [if_pos rfl] at h2
    by_cases hwf : (jd.wfB l0 && (decide (0 ≤ a1) && decide (a1 < (l0.length : Int)))) = true
    · rw [if_pos hwf] at h2
      simp only [Option.some.injEq, Prod.mk.injEq] at h2
      obtain ⟨rfl, rfl, rfl⟩ := h2
      rw [Bool.and_eq_true, Bool.and_eq_true, decide_eq_true_eq, decide_eq_true_eq] at hwf
      obtain ⟨hwB, ha0, ha1⟩ := hwf
      have hw := jd.wf_of hwB
      obtain ⟨a, rfl⟩ : ∃ a : Nat, a1 = (a : Int) := ⟨a1.toNat, by omega⟩
      have ha : a < l0.length := by omega
      have hg40 := hw.1
      go_enter Try.func25, Try.ntmps25
      go_upto_region 3 with (go_at_call 49; refine (impl_hasPosition.calls k A0 c0 l0 (a : Int) true _ HR0.out HC0.out H1.out).mono ?_; rintro e w1 ⟨rfl, hb⟩)
      have HB0 := Aside0.mk hb
      have HRW := Aside0.mk (Kd.C_below HR0.out hb)
      clear hb HR0 H1
      have hzero : (zeroValue 71).run Try.prog w1 = .ok (.agg #[.slice none 0 0, .slice none 0 0]) w1 := by kernel_rfl
      go_upto_region 4 with (go_at_call 59; refine (jd.new l0 A0 c0 _).mono ?_; rintro e w2 ⟨bj, bm, rfl, hbj, hbm, hJ, hb2⟩)
      have HJ := Aside0.mk (hJ.kept (World.grownBy_alloc w2 (.cells #[.slice none 0 0, .slice none 0 0] 71) none) (by simp) (by simp))
      have HB := Aside0.mk (below_alloc hb2 (.cells #[.slice none 0 0, .slice none 0 0] 71))
      have HO := Aside0.mk (heap_alloc_new w2 (.cells #[.slice none 0 0, .slice none 0 0] 71))
      obtain ⟨ob, hob⟩ : ∃ ob, ob = w2.heap.size := ⟨_, rfl⟩
      have HOB := Aside0.mk (show w1.heap.size ≤ ob by rw [hob]; exact hb2.size)
      obtain ⟨w3, hw3⟩ : ∃ w3, w3 = w2.alloc (.cells #[.slice none 0 0, .slice none 0 0] 71) := ⟨_, rfl⟩
      rw [← hob, ← hw3] at HO
      rw [← hw3] at HJ HB
      rw [← hob, ← hw3]
      clear hJ hb2 hw3 hob
      have HRT := Aside0.mk (fun x hx => jd.reversal_true l0 hw A0 c0 w1 HRW.out HC0.out bj bm hbj hbm a x ha hx)
      have HRF := Aside0.mk (fun x hx => jd.reversal_false l0 hw A0 c0 w1 HRW.out HC0.out bj bm hbj hbm a x ha hx)
      obtain ⟨ada, Al, cl, Ar, cr, e1, x1, x2, l1, C1, l2, C2⟩ := at_T57 HRW.out (a : Int) (by omega) (by omega)
      cases e1
      rw [jd.at a ha] at x1 x2 C1 C2 l1 l2
      have HL0 := Aside0.mk (show (l0[a]'ha).f0 = (rd_T57 l0 (a : Int)).f0 by rw [jd.at a ha])
      have HL1 := Aside0.mk (show (l0[a]'ha).f1 = (rd_T57 l0 (a : Int)).f1 by rw [jd.at a ha])
      have hW0 := (hw.2 a ha).1
      have hW1 := (hw.2 a ha).2
      have hS0 := (jd.short hwB a ha).1
      have hS1 := (jd.short hwB a ha).2
      generalize (l0[a]'ha).f0 = L0 at x1 C1 l1 hW0 HL0 hS0
      generalize (l0[a]'ha).f1 = L1 at x2 C2 l2 hW1 HL1 hS1
      have HV0 := Aside0.mk (show jd.revs l0 (a : Int) true = L0.filter (fun x => jd.isrev l0 (a : Int) x true) by unfold jd.revs; rw [if_pos rfl, HL0.out])
      have HV1 := Aside0.mk (show jd.revs l0 (a : Int) false = L1.filter (fun x => jd.isrev l0 (a : Int) x false) by unfold jd.revs; rw [if_neg (by decide), HL1.out])
      have HW0 := Aside0.mk hW0
      have HW1 := Aside0.mk hW1
      have HX1 := Aside0.mk x1
      have HX2 := Aside0.mk x2
      have HC1 := Aside0.mk C1
      have HC2 := Aside0.mk C2
      have HWF := Aside0.mk hw
      have HCL0 := Aside0.mk hS0
      have HCL1 := Aside0.mk hS1
      clear hS0 hS1
      have hag : decide ((a : Int) < (l0.length : Int)) = true := decide_eq_true (by omega)
      have hb0 : L0.length ≤ 9223372036854775807 := C1.2.1
      have hb1 : L1.length ≤ 9223372036854775807 := C2.2.1
      have hn0 : 0 ≤ (a : Int) := by omega
      clear x1 x2 C1 C2 l1 l2 hW0 hW1 hw HL0 HL1 HRW hwB hbj hbm
      go_wp2
      go_loopg [21] 3 (fun gg s21 wr => ∃ (s : Nat) (v0 v1 : Value), s ≤ 2 ∧ 3 - s ≤ gg ∧ s21 = .int .i64 s ∧ Aside0 (wr.heap[ob]? = some (.cells #[v0, v1] 71 (0, 0))) ∧ Aside0 (Kd.R (Kd.int .i64) 3 wr w1.heap.size (fun k_ => some k_ ≠ v1.ownBlock) v0 (if 1 ≤ s then jd.revs l0 (a : Int) true else [])) ∧ Aside0 (Kd.R (Kd.int .i64) 3 wr w1.heap.size (fun k_ => some k_ ≠ v0.ownBlock) v1 (if 2 ≤ s then jd.revs l0 (a : Int) false else [])) ∧ Aside0 (jd.J l0 (some ada) c0 bj bm wr) ∧ Aside0 (Below w1.heap.size w1 wr))
      case atStart => exact ⟨0, _, _, by omega, by omega, rfl, HO, ⟨Kd.R_nil _ _ _ _ _⟩, ⟨Kd.R_nil _ _ _ _ _⟩, HJ, HB⟩
      case round =>
        clear HO HJ HB
        obtain ⟨s, v0, v1, hs, hg, rfl, HO, HR0, HR1, HJ, HB⟩ := hrel
        rcases (by omega : s = 0 ∨ s = 1 ∨ s = 2) with rfl | rfl | rfl
        · have x1 := (HB.out.cell (World.block_lt_of_cell? w1 _ HX1.out)).trans HX1.out
          have x2 := (HB.out.cell (World.block_lt_of_cell? w1 _ HX2.out)).trans HX2.out
          simp only [Int.toNat_natCast] at x1 x2
          have hix : ∀ w' : World, (Instr.index 72 (.agg #[.bool true, .bool false]) (.int .i64 0)).run Try.prog w' = .ok (.bool true) w' := fun w' => by kernel_rfl
          rw [show (if 1 ≤ 0 then jd.revs l0 (a : Int) true else []) = [] from by exact if_neg (by decide)] at HR0
          rw [show (if 2 ≤ 0 then jd.revs l0 (a : Int) false else []) = [] from if_neg (by decide)] at HR1
          go_wp2_with (go_at_call 60; refine (jd.sided Al Ar L0.length cl L1.length cr true _).mono ?_; rintro e w5 ⟨rfl, hb5⟩; rw [if_pos rfl]; have n0_ := Aside0.mk (blk_below HO.out hb5); have n1_ := Aside0.mk (Kd.R_below HR0.out hb5); have n2_ := Aside0.mk (Kd.R_below HR1.out hb5); have n3_ := Aside0.mk (HJ.out.kept (grown_of_below hb5 none) (by simp) (by simp)); have n4_ := Aside0.mk (below_step HB.out hb5); clear HO HR0 HR1 HJ HB hb5 x1 x2; have HO := n0_; have HR0 := n1_; have HR1 := n2_; have HJ := n3_; have HB := n4_; clear n0_ n1_ n2_ n3_ n4_)
          go_loopg [32] L0.length (fun gg s32 wr => ∃ (n : Nat) (v : Value), n ≤ L0.length ∧ L0.length - n ≤ gg ∧ s32 = .int .i64 n ∧ Aside0 (wr.heap[ob]? = some (.cells #[v, v1] 71 (0, 0))) ∧ Aside0 (Kd.R (Kd.int .i64) 3 wr w1.heap.size (fun k_ => some k_ ≠ v1.ownBlock) v ((L0.take n).filter (fun x => jd.isrev l0 (a : Int) x true))) ∧ Aside0 (Kd.R (Kd.int .i64) 3 wr w1.heap.size (fun k_ => some k_ ≠ v.ownBlock) v1 []) ∧ Aside0 (jd.J l0 (some ada) c0 bj bm wr) ∧ Aside0 (Below w1.heap.size w1 wr))
          case atStart => exact ⟨0, v0, by omega, by omega, rfl, HO, HR0, HR1, HJ, HB⟩
          case round =>
            clear HO HR0 HR1 HJ HB
            obtain ⟨n, v, hn, hgg, rfl, HO, HV, HU, HJ, HB⟩ := hrel
            by_cases hlt : n < L0.length
            · have hltz : (n : Int) < (L0.length : Int) := by omega
              obtain ⟨ad, e0, hx0⟩ := Kd.at_int HC1.out (n : Int) (by omega) hltz
              cases e0
              replace hx0 := (HB.out.cell (World.block_lt_of_cell? w1 _ hx0)).trans hx0
              have hrd : rd L0 (n : Int) = L0[n] := by simp [rd, List.getD_eq_getElem?_getD, List.getElem?_eq_getElem hlt]
              rw [hrd] at hx0
              simp only [Int.toNat_natCast] at hx0
              obtain ⟨z1, z2⟩ := HW0.out L0[n] (List.getElem_mem hlt)
              have hfl : (L0.take (n + 1)).filter (fun x => jd.isrev l0 (a : Int) x true) = (L0.take n).filter (fun x => jd.isrev l0 (a : Int) x true) ++ (if jd.isrev l0 (a : Int) L0[n] true = true then [L0[n]] else []) := by
                rw [List.take_succ_eq_append_getElem hlt, List.filter_append, jd.filter_one]
              have hlen : ((L0.take n).filter (fun x => jd.isrev l0 (a : Int) x true)).length ≤ n := Nat.le_trans (List.length_filter_le _ _) (List.length_take_le _ _)
              generalize hxx : L0[n] = xx at hx0 hfl z1 z2
              obtain ⟨m, rfl⟩ : ∃ m : Nat, xx = (m : Int) := ⟨xx.toNat, by omega⟩
              have hmg : m < l0.length := by omega
              have hcall := HRT.out m hmg _ HB.out HJ.out
              obtain ⟨r, hr⟩ : ∃ r, r = (((l0[m]'hmg).f1).find? (fun y => jd.LE l0 y.toNat a)).getD (-1) := ⟨_, rfl⟩
              have hd : decide (0 ≤ r) = jd.isrev l0 (a : Int) (m : Int) true := by
                rw [hr, jd.find_any _ _ (fun y hy => ((HWF.out.2 m hmg).2 y hy).1)]
                unfold jd.isrev
                rw [if_pos rfl, jd.at m hmg]
                simp only [Int.toNat_natCast, if_true]
              rw [← hr] at hcall
              have HFL := Aside0.mk hfl
              have HCALL := Aside0.mk hcall
              clear hfl hcall hr hrd hxx
              cases hq : jd.isrev l0 (a : Int) (m : Int) true with
              | true =>
                rw [hq] at hd
                have hp0 : 0 ≤ r := of_decide_eq_true hd
                go_upto_region 11 with (go_at_call 61; refine (HCALL.out).mono ?_; rintro e w6 ⟨rfl, hJ6, hB6, hG6⟩; have n0_ := Aside0.mk (blk_grown HO.out hG6 (fun e => by obtain ⟨es, cl, hm⟩ := HJ.out.map; exact jd.notmap hm HO.out (Option.some.inj e))); have n1_ := Aside0.mk (jd.keepR HJ.out HV.out hG6); have n2_ := Aside0.mk (jd.keepR HJ.out HU.out hG6); have n3_ := Aside0.mk hJ6; have n4_ := Aside0.mk hB6; clear HO HV HU HJ HB HCALL hJ6 hB6 hG6 hx0; have HO := n0_; have HV := n1_; have HU := n2_; have HJ := n3_; have HB := n4_; clear n0_ n1_ n2_ n3_ n4_)
                have oc := (blk_cell HO.out 0).trans rfl
                go_wp2_with (at_builtin; refine Kd.R_append (Kd.int .i64) (w0 := w1) w1.heap.size rfl (.tmp 46) (.tmp 48) 36 3 (.int .i64 0) 8 rfl Try.underlying36 info3 rfl (by decide) (by omega) v ((L0.take n).filter (fun x => jd.isrev l0 (a : Int) x true)) (m : Int) [.int .i64 (m : Int)] (fun k_ => some k_ ≠ v1.ownBlock) (fun _ => False) rfl rfl ?aP (fun _ hk => hk.elim) ?aF ?aO ?aB ?aS ?aL ?_; (case aP => exact rfl); (case aB => exact HB.out); (case aF => exact (fun k_ hk => Kd.fresh' (Kd.R_lt HU.out) k_ hk)); (case aO => exact HV.out); (case aS => exact HB.out.size); (case aL => have := hlen; have := HCL0.out; omega); intro v' w12 ho hb hg hat; have n0_ := Aside0.mk (blk_grown HO.out hg (Kd.R_ne HV.out HO.out (by decide))); have n2_ := Aside0.mk (Kd.R_mono (ok' := fun k_ => some k_ ≠ v'.ownBlock) (Kd.R_after (ok := fun _ => True) (Kd.R_mono HU.out (fun _ hk => ⟨trivial, hk⟩)) hg hat) (fun _ hk => hk.2)); have n3_ := Aside0.mk (HJ.out.kept hg (HJ.out.row HV.out).1 (HJ.out.row HV.out).2); have n4_ := Aside0.mk hb; have n1_ := Aside0.mk ho; obtain ⟨Aq, cq, eq_⟩ := Kd.R_slice ho; rw [List.length_append, List.length_singleton] at eq_; subst eq_; clear ho hb hg hat HO HV HU HJ HB oc; have HO := n0_; have HV := n1_; have HU := n2_; have HJ := n3_; have HB := n4_; clear n0_ n1_ n2_ n3_ n4_; have oc := (blk_cell HO.out 0).trans rfl; have of_ := blk_frozen HO.out 0)
                go_roundg (L0.length - (n + 1))
                case measure => omega
                case rel =>
                  refine ⟨n + 1, _, by omega, by omega, by go_num, ⟨blk_put (cs := #[v, v1]) HO.out 0 _ rfl⟩, ⟨?_⟩, ⟨Kd.R_set HU.out HO.out (by decide) 0 _⟩, ⟨HJ.out.kept (jd.grown_set _ _ _) (fun e => ?_) (fun e => ?_)⟩, ⟨below_set HB.out HOB.out⟩⟩
                  · rw [HFL.out, hq, if_pos rfl]
                    exact Kd.R_set HV.out HO.out (by decide) 0 _
                  · have e' : bj = ob := Option.some.inj e
                    have q := HJ.out.1
                    rw [e', HO.out] at q
                    injection q with q
                    injection q with q1 q2
                    exact absurd q2 (by decide)
                  · obtain ⟨es, cl, hm⟩ := HJ.out.map
                    exact jd.notmap hm HO.out (Option.some.inj e).symm
              | false =>
                rw [hq] at hd
                have hp0 : ¬ 0 ≤ r := of_decide_eq_false hd
                go_wp2_with (go_at_call 61; refine (HCALL.out).mono ?_; rintro e w6 ⟨rfl, hJ6, hB6, hG6⟩; have n0_ := Aside0.mk (blk_grown HO.out hG6 (fun e => by obtain ⟨es, cl, hm⟩ := HJ.out.map; exact jd.notmap hm HO.out (Option.some.inj e))); have n1_ := Aside0.mk (jd.keepR HJ.out HV.out hG6); have n2_ := Aside0.mk (jd.keepR HJ.out HU.out hG6); have n3_ := Aside0.mk hJ6; have n4_ := Aside0.mk hB6; clear HO HV HU HJ HB HCALL hJ6 hB6 hG6 hx0; have HO := n0_; have HV := n1_; have HU := n2_; have HJ := n3_; have HB := n4_; clear n0_ n1_ n2_ n3_ n4_)
                go_roundg (L0.length - (n + 1))
                case measure => omega
                case rel => exact ⟨n + 1, v, by omega, by omega, by go_num, HO, ⟨by rw [HFL.out, hq, if_neg (by decide), List.append_nil]; exact HV.out⟩, HU, HJ, HB⟩
            · have hltz : ¬ (n : Int) < (L0.length : Int) := by omega
              have hnl : n = L0.length := by omega
              subst hnl
              rw [List.take_length, ← HV0.out] at HV
              go_wp2
              go_roundg (2)
              case measure => omega
              case rel => exact ⟨0 + 1, v, v1, by omega, by omega, by go_num, HO, ⟨by rw [if_pos (by decide)]; exact HV.out⟩, ⟨by rw [if_neg (by decide)]; exact HU.out⟩, HJ, HB⟩
        · have x1 := (HB.out.cell (World.block_lt_of_cell? w1 _ HX1.out)).trans HX1.out
          have x2 := (HB.out.cell (World.block_lt_of_cell? w1 _ HX2.out)).trans HX2.out
          simp only [Int.toNat_natCast] at x1 x2
          have hix : ∀ w' : World, (Instr.index 72 (.agg #[.bool true, .bool false]) (.int .i64 1)).run Try.prog w' = .ok (.bool false) w' := fun w' => by kernel_rfl
          rw [show (if 1 ≤ 1 then jd.revs l0 (a : Int) true else []) = jd.revs l0 (a : Int) true from by exact if_pos (by decide)] at HR0
          rw [show (if 2 ≤ 1 then jd.revs l0 (a : Int) false else []) = [] from if_neg (by decide)] at HR1
          go_wp2_with (go_at_call 60; refine (jd.sided Al Ar L0.length cl L1.length cr false _).mono ?_; rintro e w5 ⟨rfl, hb5⟩; rw [if_neg (by decide)]; have n0_ := Aside0.mk (blk_below HO.out hb5); have n1_ := Aside0.mk (Kd.R_below HR0.out hb5); have n2_ := Aside0.mk (Kd.R_below HR1.out hb5); have n3_ := Aside0.mk (HJ.out.kept (grown_of_below hb5 none) (by simp) (by simp)); have n4_ := Aside0.mk (below_step HB.out hb5); clear HO HR0 HR1 HJ HB hb5 x1 x2; have HO := n0_; have HR0 := n1_; have HR1 := n2_; have HJ := n3_; have HB := n4_; clear n0_ n1_ n2_ n3_ n4_)
          go_loopg [32] L1.length (fun gg s32 wr => ∃ (n : Nat) (v : Value), n ≤ L1.length ∧ L1.length - n ≤ gg ∧ s32 = .int .i64 n ∧ Aside0 (wr.heap[ob]? = some (.cells #[v0, v] 71 (0, 0))) ∧ Aside0 (Kd.R (Kd.int .i64) 3 wr w1.heap.size (fun k_ => some k_ ≠ v0.ownBlock) v ((L1.take n).filter (fun x => jd.isrev l0 (a : Int) x false))) ∧ Aside0 (Kd.R (Kd.int .i64) 3 wr w1.heap.size (fun k_ => some k_ ≠ v.ownBlock) v0 (jd.revs l0 (a : Int) true)) ∧ Aside0 (jd.J l0 (some ada) c0 bj bm wr) ∧ Aside0 (Below w1.heap.size w1 wr))
          case atStart => exact ⟨0, v1, by omega, by omega, rfl, HO, HR1, HR0, HJ, HB⟩
          case round =>
            clear HO HR0 HR1 HJ HB
            obtain ⟨n, v, hn, hgg, rfl, HO, HV, HU, HJ, HB⟩ := hrel
            by_cases hlt : n < L1.length
            · have hltz : (n : Int) < (L1.length : Int) := by omega
              obtain ⟨ad, e0, hx0⟩ := Kd.at_int HC2.out (n : Int) (by omega) hltz
              cases e0
              replace hx0 := (HB.out.cell (World.block_lt_of_cell? w1 _ hx0)).trans hx0
              have hrd : rd L1 (n : Int) = L1[n] := by simp [rd, List.getD_eq_getElem?_getD, List.getElem?_eq_getElem hlt]
              rw [hrd] at hx0
              simp only [Int.toNat_natCast] at hx0
              obtain ⟨z1, z2⟩ := HW1.out L1[n] (List.getElem_mem hlt)
              have hfl : (L1.take (n + 1)).filter (fun x => jd.isrev l0 (a : Int) x false) = (L1.take n).filter (fun x => jd.isrev l0 (a : Int) x false) ++ (if jd.isrev l0 (a : Int) L1[n] false = true then [L1[n]] else []) := by
                rw [List.take_succ_eq_append_getElem hlt, List.filter_append, jd.filter_one]
              have hlen : ((L1.take n).filter (fun x => jd.isrev l0 (a : Int) x false)).length ≤ n := Nat.le_trans (List.length_filter_le _ _) (List.length_take_le _ _)
              generalize hxx : L1[n] = xx at hx0 hfl z1 z2
              obtain ⟨m, rfl⟩ : ∃ m : Nat, xx = (m : Int) := ⟨xx.toNat, by omega⟩
              have hmg : m < l0.length := by omega
              have hcall := HRF.out m hmg _ HB.out HJ.out
              obtain ⟨r, hr⟩ : ∃ r, r = (((l0[m]'hmg).f0).find? (fun y => jd.LE l0 a y.toNat)).getD (-1) := ⟨_, rfl⟩
              have hd : decide (0 ≤ r) = jd.isrev l0 (a : Int) (m : Int) false := by
                rw [hr, jd.find_any _ _ (fun y hy => ((HWF.out.2 m hmg).1 y hy).1)]
                unfold jd.isrev
                rw [if_neg (by decide), jd.at m hmg]
                simp only [Int.toNat_natCast, Bool.false_eq_true, if_false]
              rw [← hr] at hcall
              have HFL := Aside0.mk hfl
              have HCALL := Aside0.mk hcall
              clear hfl hcall hr hrd hxx
              cases hq : jd.isrev l0 (a : Int) (m : Int) false with
              | true =>
                rw [hq] at hd
                have hp0 : 0 ≤ r := of_decide_eq_true hd
                go_upto_region 11 with (go_at_call 61; refine (HCALL.out).mono ?_; rintro e w6 ⟨rfl, hJ6, hB6, hG6⟩; have n0_ := Aside0.mk (blk_grown HO.out hG6 (fun e => by obtain ⟨es, cl, hm⟩ := HJ.out.map; exact jd.notmap hm HO.out (Option.some.inj e))); have n1_ := Aside0.mk (jd.keepR HJ.out HV.out hG6); have n2_ := Aside0.mk (jd.keepR HJ.out HU.out hG6); have n3_ := Aside0.mk hJ6; have n4_ := Aside0.mk hB6; clear HO HV HU HJ HB HCALL hJ6 hB6 hG6 hx0; have HO := n0_; have HV := n1_; have HU := n2_; have HJ := n3_; have HB := n4_; clear n0_ n1_ n2_ n3_ n4_)
                have oc := (blk_cell HO.out 1).trans rfl
                go_wp2_with (at_builtin; refine Kd.R_append (Kd.int .i64) (w0 := w1) w1.heap.size rfl (.tmp 46) (.tmp 48) 36 3 (.int .i64 0) 8 rfl Try.underlying36 info3 rfl (by decide) (by omega) v ((L1.take n).filter (fun x => jd.isrev l0 (a : Int) x false)) (m : Int) [.int .i64 (m : Int)] (fun k_ => some k_ ≠ v0.ownBlock) (fun _ => False) rfl rfl ?aP (fun _ hk => hk.elim) ?aF ?aO ?aB ?aS ?aL ?_; (case aP => exact rfl); (case aB => exact HB.out); (case aF => exact (fun k_ hk => Kd.fresh' (Kd.R_lt HU.out) k_ hk)); (case aO => exact HV.out); (case aS => exact HB.out.size); (case aL => have := hlen; have := HCL1.out; omega); intro v' w12 ho hb hg hat; have n0_ := Aside0.mk (blk_grown HO.out hg (Kd.R_ne HV.out HO.out (by decide))); have n2_ := Aside0.mk (Kd.R_mono (ok' := fun k_ => some k_ ≠ v'.ownBlock) (Kd.R_after (ok := fun _ => True) (Kd.R_mono HU.out (fun _ hk => ⟨trivial, hk⟩)) hg hat) (fun _ hk => hk.2)); have n3_ := Aside0.mk (HJ.out.kept hg (HJ.out.row HV.out).1 (HJ.out.row HV.out).2); have n4_ := Aside0.mk hb; have n1_ := Aside0.mk ho; obtain ⟨Aq, cq, eq_⟩ := Kd.R_slice ho; rw [List.length_append, List.length_singleton] at eq_; subst eq_; clear ho hb hg hat HO HV HU HJ HB oc; have HO := n0_; have HV := n1_; have HU := n2_; have HJ := n3_; have HB := n4_; clear n0_ n1_ n2_ n3_ n4_; have oc := (blk_cell HO.out 1).trans rfl; have of_ := blk_frozen HO.out 1)
                go_roundg (L1.length - (n + 1))
                case measure => omega
                case rel =>
                  refine ⟨n + 1, _, by omega, by omega, by go_num, ⟨blk_put (cs := #[v0, v]) HO.out 1 _ rfl⟩, ⟨?_⟩, ⟨Kd.R_set HU.out HO.out (by decide) 1 _⟩, ⟨HJ.out.kept (jd.grown_set _ _ _) (fun e => ?_) (fun e => ?_)⟩, ⟨below_set HB.out HOB.out⟩⟩
                  · rw [HFL.out, hq, if_pos rfl]
                    exact Kd.R_set HV.out HO.out (by decide) 1 _
                  · have e' : bj = ob := Option.some.inj e
                    have q := HJ.out.1
                    rw [e', HO.out] at q
                    injection q with q
                    injection q with q1 q2
                    exact absurd q2 (by decide)
                  · obtain ⟨es, cl, hm⟩ := HJ.out.map
                    exact jd.notmap hm HO.out (Option.some.inj e).symm
              | false =>
                rw [hq] at hd
                have hp0 : ¬ 0 ≤ r := of_decide_eq_false hd
                go_wp2_with (go_at_call 61; refine (HCALL.out).mono ?_; rintro e w6 ⟨rfl, hJ6, hB6, hG6⟩; have n0_ := Aside0.mk (blk_grown HO.out hG6 (fun e => by obtain ⟨es, cl, hm⟩ := HJ.out.map; exact jd.notmap hm HO.out (Option.some.inj e))); have n1_ := Aside0.mk (jd.keepR HJ.out HV.out hG6); have n2_ := Aside0.mk (jd.keepR HJ.out HU.out hG6); have n3_ := Aside0.mk hJ6; have n4_ := Aside0.mk hB6; clear HO HV HU HJ HB HCALL hJ6 hB6 hG6 hx0; have HO := n0_; have HV := n1_; have HU := n2_; have HJ := n3_; have HB := n4_; clear n0_ n1_ n2_ n3_ n4_)
                go_roundg (L1.length - (n + 1))
                case measure => omega
                case rel => exact ⟨n + 1, v, by omega, by omega, by go_num, HO, ⟨by rw [HFL.out, hq, if_neg (by decide), List.append_nil]; exact HV.out⟩, HU, HJ, HB⟩
            · have hltz : ¬ (n : Int) < (L1.length : Int) := by omega
              have hnl : n = L1.length := by omega
              subst hnl
              rw [List.take_length, ← HV1.out] at HV
              go_wp2
              go_roundg (1)
              case measure => omega
              case rel => exact ⟨1 + 1, v0, v, by omega, by omega, by go_num, HO, ⟨by rw [if_pos (by decide)]; exact HU.out⟩, ⟨by rw [if_pos (by decide)]; exact HV.out⟩, HJ, HB⟩
        · rw [show (if 1 ≤ 2 then jd.revs l0 (a : Int) true else []) = jd.revs l0 (a : Int) true from if_pos (by decide)] at HR0
          rw [show (if 2 ≤ 2 then jd.revs l0 (a : Int) false else []) = jd.revs l0 (a : Int) false from if_pos (by decide)] at HR1
          have oc0 := (blk_cell HO.out 0).trans rfl
          have oc1 := (blk_cell HO.out 1).trans rfl
          go_upto_region 14 with (fail)
          go_quiet ((fail))
          go_wp2
          refine bodyPost_ret (results_list (rs := [.tmp 4, .tmp 5, .tmp 6]) rfl (by simp) (.tmp (.tmp (.tmp .nil)))) rfl ?_
          exact ⟨v0, v1, rfl, Kd.R_lower (Kd.R_drewN HR0.out _) HB0.out.size, Kd.R_lower (Kd.R_drewN HR1.out _) HB0.out.size, below_step HB0.out (pw_below_drewN HB.out _)⟩
    · rw [if_neg hwf] at h2
      cases h2

/-! ### laws_heldIntS: function 28 -/
def laws_heldIntS.l0 : Nat → List Int → Int → Int → Option (Int)
  | 0, _, _, _ => none
  | k + 1, x0, x1, x5 => if x5 < (x0.length : Int) then (if 0 ≤ x5 then (if (rd x0 x5) = x1 then (laws_heldIntS.l0 k x0 (wrap64 (x1 + 1)) (wrap64 (x5 + 1))) else (some (-1))) else (none)) else (some x1)
def laws_heldIntS.f (k : Nat) (l0 : List Int) (a1 : Int) : Option (Int) := laws_heldIntS.l0 k l0 a1 0
theorem laws_heldIntS.mono_l : ∀ k, (∀ y0 y1 y2, LeO (laws_heldIntS.l0 k y0 y1 y2) (laws_heldIntS.l0 (k + 1) y0 y1 y2))
  | 0 => fun _ _ _ r h => by simp [laws_heldIntS.l0] at h
  | k + 1 => by
    have ih0 := laws_heldIntS.mono_l k
    · intro y0 y1 y2
      unfold laws_heldIntS.l0
      repeat' first
      | (with_reducible exact ih0 _ _ _)
      | (with_reducible exact LeO.refl _)
      | (with_reducible exact LeO.none _)
      | (with_reducible refine LeO.ite ?_ ?_)
      | (with_reducible refine LeO.bind ?_ (fun _ => ?_))
      | exact ih0 _ _ _
      | exact LeO.none _
      | refine LeO.ite ?_ ?_
      | refine LeO.bind ?_ (fun _ => ?_)
theorem laws_heldIntS.mono : ∀ a0 a1 k, LeO (laws_heldIntS.f k a0 a1) (laws_heldIntS.f (k + 1) a0 a1) := by
  intro a0 a1 k
  have ih0 := laws_heldIntS.mono_l k
  unfold laws_heldIntS.f
  repeat' first
      | (with_reducible exact ih0 _ _ _)
      | (with_reducible exact LeO.refl _)
      | (with_reducible exact LeO.none _)
      | (with_reducible refine LeO.ite ?_ ?_)
      | (with_reducible refine LeO.bind ?_ (fun _ => ?_))
      | exact ih0 _ _ _
      | exact LeO.none _
      | refine LeO.ite ?_ ?_
      | refine LeO.bind ?_ (fun _ => ?_)
set_option maxHeartbeats 8000000 in
set_option maxRecDepth 100000 in
theorem laws_heldIntS.calls (k : Nat) (A0 : Option Addr) (c0 : Nat) (l0 : List Int) (a1 : Int) (r : Int) (w : World) (hr0 : Kd.C (Kd.int .i64) w A0 l0.length l0) (hc0 : l0.length ≤ c0) (h : laws_heldIntS.f k l0 a1 = some r) :
    Calls Try.prog 28 #[.slice A0 l0.length c0, .int .i64 a1] w fun e w' => e = .returned (.int .i64 r) ∧ Drawn0 w w' := by
  have HR0 := Aside0.mk hr0
  have HC0 := Aside0.mk hc0
  clear hr0 hc0
  have H : (laws_heldIntS.l0 k l0 a1 0) = some r := h
  clear h
  have H' := Aside0.mk H
  clear H
  go_enter Try.func28, Try.ntmps28
  go_wp2
  go_loopg [1, 5] k (fun kq v1 v5 w' => ∃ (x1_1 : Int) (x5_1 : Int), v1 = .int .i64 x1_1 ∧ v5 = .int .i64 x5_1 ∧ Aside0 (laws_heldIntS.l0 kq l0 x1_1 x5_1 = some r) ∧ Aside0 (kq ≤ k) ∧ Drawn0 w w')
  case atStart => exact ⟨(a1), (0), (by first | rfl | (simp; done) | (simp [*]; done)), (by first | rfl | (simp; done) | (simp [*]; done)), H', ⟨Nat.le_refl _⟩, by repeat (first | exact Drawn0.refl _ | apply Drawn0.step)⟩
  case round =>
    clear H'
    try clear c2
    try clear p2
    obtain ⟨x1_1, x5_1, rfl, rfl, HA, HK1, ⟨m1, rfl⟩⟩ := hrel
    cases gk with
    | zero => exact absurd HA.out (by simp [laws_heldIntS.l0])
    | succ k1 =>
      have H := HA.out
      clear HA
      simp only [laws_heldIntS.l0] at H
      by_cases c3 : x5_1 < (l0.length : Int)
      · rw [if_pos c3] at H
        have c3b0 : decide (x5_1 < (l0.length : Int)) = true := decide_eq_true c3
        clear c3
        by_cases c4 : 0 ≤ x5_1
        · rw [if_pos c4] at H
          have c4b0 : decide (0 ≤ x5_1) = true := decide_eq_true c4
          clear c4
          by_cases c5 : (rd l0 x5_1) = x1_1
          · rw [if_pos c5] at H
            have c5b0 : ((rd l0 x5_1) == x1_1) = true := beq_iff_eq.mpr c5
            have c5b1 : ((rd l0 x5_1) != x1_1) = false := bne_eq_false_iff_eq.mpr c5
            clear c5
            have H' := Aside0.mk H
            clear H
            have p224 : 0 ≤ (x5_1 : Int) := of_decide_eq_true (by first | (with_reducible assumption) | assumption)
            have q224 : x5_1 < (l0.length : Int) := of_decide_eq_true (by first | (with_reducible assumption) | assumption)
            obtain ⟨ad224, e224, hx224_0⟩ := Kd.at_int HR0.out x5_1 p224 q224
            cases e224
            replace p224 := eq_true p224
            replace q224 := eq_true q224
            go_wp2
            go_roundg k1
            case measure => have := HK1.out; omega
            case rel => exact ⟨(wrap64 (x1_1 + 1)), (wrap64 (x5_1 + 1)), (by first | rfl | (simp; done) | (simp [*]; done)), (by first | rfl | (simp; done) | (simp [*]; done)), H', ⟨by have := HK1.out; omega⟩, by repeat (first | exact Drawn0.refl _ | apply Drawn0.step)⟩
          · rw [if_neg c5] at H
            have c5b0 : ((rd l0 x5_1) == x1_1) = false := beq_eq_false_iff_ne.mpr c5
            have c5b1 : ((rd l0 x5_1) != x1_1) = true := bne_iff_ne.mpr c5
            obtain rfl := Option.some.inj H
            have p224 : 0 ≤ (x5_1 : Int) := of_decide_eq_true (by first | (with_reducible assumption) | assumption)
            have q224 : x5_1 < (l0.length : Int) := of_decide_eq_true (by first | (with_reducible assumption) | assumption)
            obtain ⟨ad224, e224, hx224_0⟩ := Kd.at_int HR0.out x5_1 p224 q224
            cases e224
            replace p224 := eq_true p224
            replace q224 := eq_true q224
            go_wp2
            go_ret
            exact ⟨by first | rfl | (simp; done) | (simp [*]; done), by repeat (first | exact Drawn0.refl _ | apply Drawn0.step)⟩
        · rw [if_neg c4] at H
          exact absurd H (by simp)
      · rw [if_neg c3] at H
        have c3b0 : decide (x5_1 < (l0.length : Int)) = false := decide_eq_false c3
        clear c3
        obtain rfl := Option.some.inj H
        go_wp2
        go_ret
        exact ⟨by first | rfl | (simp; done) | (simp [*]; done), by repeat (first | exact Drawn0.refl _ | apply Drawn0.step)⟩

end Go.Proofs.Ytpiafobcmhfclaa.QFnExactReversibleOf
