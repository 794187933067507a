/- The Go functions that the law FnExactPlayHydra reaches, as Lean functions, and what their calls do. Written by a program of this session. -/
import Derived.Test.YtgjpfhedhehmdaaQFnExactPlayHydrax0
namespace Go.Proofs.Ytgjpfhedhehmdaa.QFnExactPlayHydra
open Go.RowKit Go.Proofs.YtgjpfhedhehmdaaW.PrintWords Go.Proofs.YtgjpfhedhehmdaaW.PrintLast Go.Proofs.YtgjpfhedhehmdaaW.PrintMore
attribute [local go_sem] max2_int min2_int max_two min_two max_three min_three max_four min_four   -- for this text's walks alone
set_option linter.unusedVariables false
set_option linter.unusedSimpArgs false

/-! ### impl_chop: function 58 -/
/-! #### the tree of a hydra: nodes (blocks of type 81), rows of pointers (78) of which no two share a block -/
def hy.kp : Kd Nat := Kd.scalar (fun b => Value.pointer (some ⟨b, 0, none⟩)) (fun _ => rfl)
/-- Rows of pointers, each with an owner of its own. -/
def hy.Fam (W : World) (base : Nat) (L : List (Value × List Nat)) : Prop := ∃ f : Nat → Nat, ∀ (i : Nat) (x : Value × List Nat), L[i]? = some x → Kd.R hy.kp 78 W base (fun k => f k = i) x.1 x.2
theorem hy.Fam.step {W W' : World} {base : Nat} {L : List (Value × List Nat)} (h : hy.Fam W base L) (hm : ∀ k, k < W.heap.size → (∃ cells, W.heap[k]? = some (.cells cells 78 (0, 0))) → W'.heap[k]? = W.heap[k]?) : hy.Fam W' base L := by
  obtain ⟨f, hf⟩ := h
  refine ⟨f, fun i x hx => Kd.R_mono (Kd.R_step (Kd.R_bound (hf i x hx)) (fun k hk hlt => hm k hlt ?_)) (fun _ hk => hk.1)⟩
  obtain ⟨_, _, _, q, hq, cs, hc⟩ := hk
  obtain rfl : q = 78 := by simpa [hy.kp, Kd.scalar] using hq
  exact ⟨cs, hc⟩
theorem hy.Fam.below {W W' : World} {base : Nat} {L : List (Value × List Nat)} (h : hy.Fam W base L) (hb : Below W.heap.size W W') : hy.Fam W' base L := h.step (fun k hk _ => hb.block k hk)
/-- A cell of a block of another type is written. -/
theorem hy.Fam.set {W : World} {base : Nat} {L : List (Value × List Nat)} (h : hy.Fam W base L) {b t : Nat} {cs : Array Value} (hb : W.heap[b]? = some (.cells cs t (0, 0))) (ht : t ≠ 78) (j : Nat) (u : Value) : hy.Fam (W.setCell ⟨b, j, none⟩ u) base L :=
  h.step (fun k _ ⟨cells, hc⟩ => Below.heap_setCell W ⟨b, j, none⟩ u k (fun e => by
    have e2 : k = b := e
    subst e2
    rw [hb] at hc
    cases hc
    exact ht rfl))
theorem hy.Fam.push {W : World} {base : Nat} {L : List (Value × List Nat)} (h : hy.Fam W base L) : hy.Fam W base (L ++ [(.slice none 0 0, [])]) := by
  obtain ⟨f, hf⟩ := h
  refine ⟨f, fun i x hx => ?_⟩
  by_cases hi : i < L.length
  · rw [List.getElem?_append_left hi] at hx
    exact hf i x hx
  · rw [List.getElem?_append_right (by omega)] at hx
    cases hd : i - L.length with
    | zero =>
      rw [hd] at hx
      obtain rfl : ((.slice none 0 0, []) : Value × List Nat) = x := by simpa using hx
      exact Kd.R_nil _ _ _ _ _
    | succ d =>
      rw [hd] at hx
      simp at hx
theorem hy.Fam.put {W W' : World} {base : Nat} {L : List (Value × List Nat)} {f : Nat → Nat} (hf : ∀ (i : Nat) (x : Value × List Nat), L[i]? = some x → Kd.R hy.kp 78 W base (fun k => f k = i) x.1 x.2) (i : Nat) (x : Value × List Nat) (hx : L[i]? = some x) (hg : W.grownBy W' x.1.ownBlock) {v : Value} {ys : List Nat} (ho : Kd.R hy.kp 78 W' base (fun k => (if W.heap.size ≤ k then i else f k) = i) v ys) : hy.Fam W' base (L.set i (v, ys)) := by
  refine ⟨fun k => if W.heap.size ≤ k then i else f k, fun j y hy => ?_⟩
  by_cases e : j = i
  · subst e
    have hl : j < L.length := (List.getElem?_eq_some_iff.1 hx).1
    rw [List.getElem?_set_self hl] at hy
    cases hy
    exact ho
  · rw [List.getElem?_set_ne (Ne.symm e)] at hy
    have h1 := hf j y hy
    have h2 := hf i x hx
    refine Kd.R_mono (Kd.R_grown (Kd.R_bound h1) hg (fun k hk e2 => ?_)) (fun k hk => ?_)
    · have := h2.1 k e2.symm
      exact e (hk.1.symm.trans this)
    · show (if W.heap.size ≤ k then i else f k) = j
      rw [if_neg (by have := hk.2.2.1; omega)]
      exact hk.1
/-- The row's facts, as an append wants them. -/
theorem hy.Fam.row {W : World} {base : Nat} {L : List (Value × List Nat)} {f : Nat → Nat} (hf : ∀ (i : Nat) (x : Value × List Nat), L[i]? = some x → Kd.R hy.kp 78 W base (fun k => f k = i) x.1 x.2) (i : Nat) (x : Value × List Nat) (hx : L[i]? = some x) : Kd.R hy.kp 78 W base (fun k => (if W.heap.size ≤ k then i else f k) = i) x.1 x.2 :=
  Kd.R_mono (Kd.R_bound (hf i x hx)) (fun k hk => by
    show (if W.heap.size ≤ k then i else f k) = i
    rw [if_neg (by have := hk.2.2.1; omega)]
    exact hk.1)
structure hy.Tr (W : World) (base : Nat) (v : Value) (bs : List Nat) (ks : List (Value × List Nat)) : Prop where
  fam : hy.Fam W base ((v, bs) :: ks)
  len : ks.length = bs.length
  nd : bs.Nodup
  node : ∀ (j b : Nat), bs[j]? = some b → base ≤ b ∧ ∃ x, ks[j]? = some x ∧ W.heap[b]? = some (.cells #[.int .i64 (j : Int), x.1] 81 (0, 0))
theorem hy.Tr.below {W W' : World} {base : Nat} {v : Value} {bs : List Nat} {ks : List (Value × List Nat)} (h : hy.Tr W base v bs ks) (hb : Below W.heap.size W W') : hy.Tr W' base v bs ks :=
  ⟨h.fam.below hb, h.len, h.nd, fun j b hj => by
    obtain ⟨h1, x, h2, h3⟩ := h.node j b hj
    exact ⟨h1, x, h2, blk_below h3 hb⟩⟩
/-- A node that is not of a row stays when a row is written. -/
theorem hy.stay {W W2 : World} {base : Nat} {ok : Nat → Prop} {v : Value} {xs : List Nat} (hr : Kd.R hy.kp 78 W base ok v xs) (hg : W.grownBy W2 v.ownBlock) {b : Nat} {cs : Array Value} (hb : W.heap[b]? = some (.cells cs 81 (0, 0))) : W2.heap[b]? = some (.cells cs 81 (0, 0)) := blk_grown hb hg (Kd.R_ne hr hb (by decide))
theorem hy.Tr.snoc {W W1 W2 : World} {base : Nat} {v v1 : Value} {bs : List Nat} {b0 : Nat} {ks : List (Value × List Nat)} (h : hy.Tr W base v bs ks) (hbase : base ≤ W.heap.size) (hb1 : Below W.heap.size W W1) (hbx : W1.heap[b0]? = some (.cells #[.int .i64 (bs.length : Int), .slice none 0 0] 81 (0, 0))) (hb0 : W.heap.size ≤ b0) {f : Nat → Nat}
    (hf : ∀ (i : Nat) (x : Value × List Nat), (((v, bs) :: ks) ++ [(.slice none 0 0, [])])[i]? = some x → Kd.R hy.kp 78 W1 base (fun k => f k = i) x.1 x.2)
    (hg : W1.grownBy W2 v.ownBlock) (ho : Kd.R hy.kp 78 W2 base (fun k => (if W1.heap.size ≤ k then 0 else f k) = 0) v1 (bs ++ [b0])) :
    hy.Tr W2 base v1 (bs ++ [b0]) (ks ++ [(.slice none 0 0, [])]) := by
  have h0 := hf 0 (v, bs) rfl
  have hlt : ∀ (j b : Nat), bs[j]? = some b → b < W.heap.size := fun j b hj => by
    obtain ⟨_, x, _, h3⟩ := h.node j b hj
    exact blk_lt h3
  refine ⟨hy.Fam.put hf 0 (v, bs) rfl hg ho, by rw [List.length_append, List.length_append, h.len]; rfl, ?_, ?_⟩
  · refine List.nodup_append.2 ⟨h.nd, by simp, ?_⟩
    intro a ha b hb e
    rw [List.mem_singleton] at hb
    subst hb
    obtain ⟨j, hj⟩ := List.mem_iff_getElem?.1 ha
    have := hlt j a hj
    omega
  · intro j b hj
    by_cases hjl : j < bs.length
    · rw [List.getElem?_append_left hjl] at hj
      obtain ⟨h1, x, h2, h3⟩ := h.node j b hj
      exact ⟨h1, x, by rw [List.getElem?_append_left (by rw [h.len]; exact hjl)]; exact h2, hy.stay h0 hg (blk_below h3 hb1)⟩
    · rw [List.getElem?_append_right (by omega)] at hj
      cases hd : j - bs.length with
      | zero =>
        rw [hd] at hj
        obtain rfl : b0 = b := by simpa using hj
        obtain rfl : j = bs.length := by omega
        exact ⟨Nat.le_trans hbase hb0, (.slice none 0 0, []), by rw [List.getElem?_append_right (by rw [h.len]; exact Nat.le_refl _), h.len, Nat.sub_self]; rfl, hy.stay h0 hg hbx⟩
      | succ d =>
        rw [hd] at hj
        simp at hj
theorem hy.Tr.child {W W2 : World} {base : Nat} {v v2 : Value} {bs : List Nat} {ks : List (Value × List Nat)} (h : hy.Tr W base v bs ks) {f : Nat → Nat} (hf : ∀ (i : Nat) (x : Value × List Nat), ((v, bs) :: ks)[i]? = some x → Kd.R hy.kp 78 W base (fun k => f k = i) x.1 x.2)
    (q bq : Nat) (x : Value × List Nat) (hq : bs[q]? = some bq) (hx : ks[q]? = some x) (hg : W.grownBy W2 x.1.ownBlock) {ys : List Nat} (ho : Kd.R hy.kp 78 W2 base (fun k => (if W.heap.size ≤ k then q + 1 else f k) = q + 1) v2 ys) :
    hy.Tr (W2.setCell ⟨bq, 1, none⟩ v2) base v bs (ks.set q (v2, ys)) := by
  have hx1 := hf (q + 1) x hx
  obtain ⟨_, x', e1, e2⟩ := h.node q bq hq
  rw [hx] at e1
  cases e1
  have hbq : W2.heap[bq]? = some (.cells #[.int .i64 (q : Int), x.1] 81 (0, 0)) := hy.stay hx1 hg e2
  refine ⟨(hy.Fam.put hf (q + 1) x hx hg ho).set hbq (by decide) 1 v2, by rw [List.length_set]; exact h.len, h.nd, fun j b hj => ?_⟩
  obtain ⟨h1, y, h2, h3⟩ := h.node j b hj
  by_cases e : j = q
  · subst e
    rw [hq] at hj
    cases hj
    have hl : j < ks.length := (List.getElem?_eq_some_iff.1 hx).1
    exact ⟨h1, (v2, ys), by rw [List.getElem?_set_self hl], blk_put (cs := #[.int .i64 (j : Int), x.1]) hbq 1 _ rfl⟩
  · refine ⟨h1, y, by rw [List.getElem?_set_ne (Ne.symm e)]; exact h2, ?_⟩
    have hne : b ≠ bq := fun e3 => by
      subst e3
      have hjl := (List.getElem?_eq_some_iff.1 hj).1
      exact e ((List.getElem?_inj hjl h.nd).1 (hj.trans hq.symm))
    exact (Below.heap_setCell W2 ⟨bq, 1, none⟩ v2 b hne).trans (hy.stay hx1 hg h3)
def hy.ch (ps : List Int) (i j : Nat) : List Nat := (List.range i).filter (fun m => decide (ps.getD m 0 = (j : Int)))
theorem hy.info78 : (Try.prog.info? 78).map (fun i => (i.zero, i.size, i.bytes)) = some (some (.pointer none), 1, 8) := by kernel_rfl
theorem hy.elem {W : World} {base g n c : Nat} {ok : Nat → Prop} {L : List Nat} (h : Kd.R hy.kp 78 W base ok (.slice (some ⟨g, 0, none⟩) n c) L) (k : Nat) (hk : k < n) : W.cell? ⟨g, k, none⟩ = some (.pointer (some ⟨L.getD k 0, 0, none⟩)) := by
  obtain ⟨cs, hcl, hM, hcc, hfr⟩ := Kd.R_elem h 0 (k : Int) (by omega) (by omega)
  rw [Int.toNat_natCast] at hM hcc hfr
  have hM' : cs = [.pointer (some ⟨L.getD k 0, 0, none⟩)] := hM
  subst hM'
  have h1 := hcc 0 _ rfl
  simp only [show hy.kp.sz = 1 from rfl, Nat.mul_one, Nat.add_zero] at h1
  exact h1
theorem hy.ch_succ (ps : List Int) (i j : Nat) : hy.ch ps (i + 1) j = if ps.getD i 0 = (j : Int) then hy.ch ps i j ++ [i] else hy.ch ps i j := by
  unfold hy.ch
  rw [List.range_succ, List.filter_append]
  by_cases h : ps.getD i 0 = (j : Int)
  · rw [if_pos h]
    simp only [List.filter_cons, decide_eq_true h, if_true, List.filter_nil]
  · rw [if_neg h]
    simp only [List.filter_cons, decide_eq_false h, Bool.false_eq_true, if_false, List.filter_nil, List.append_nil]
theorem hy.ch_lt (ps : List Int) (i j m : Nat) (h : m ∈ hy.ch ps i j) : m < i := by
  unfold hy.ch at h
  rw [List.mem_filter, List.mem_range] at h
  exact h.1
theorem hy.ch_map (ps : List Int) (i j : Nat) (bs : List Nat) (b : Nat) (hb : bs.length = i) : (hy.ch ps i j).map (fun m => (bs ++ [b]).getD m 0) = (hy.ch ps i j).map (fun m => bs.getD m 0) :=
  List.map_congr_left (fun m hm => by
    have := hy.ch_lt ps i j m hm
    rw [List.getD_eq_getElem?_getD, List.getD_eq_getElem?_getD, List.getElem?_append_left (by omega)])
theorem hy.ch_len (ps : List Int) (i j : Nat) : (hy.ch ps i j).length ≤ i := by
  unfold hy.ch
  exact Nat.le_trans (List.length_filter_le _ _) (by rw [List.length_range]; exact Nat.le_refl _)
theorem hy.ch_self (ps : List Int) (i j : Nat) (hps : ∀ m, m < i → ps.getD m 0 < (m : Int)) (hj : i ≤ j + 1) : hy.ch ps i j = [] := by
  unfold hy.ch
  rw [List.filter_eq_nil_iff]
  intro m hm
  have hm := List.mem_range.1 hm
  have := hps m hm
  simp only [decide_eq_true_eq]
  omega
/-- The children as the list of the nodes' blocks has them. -/
def hy.Kids (ps : List Int) (i : Nat) (bs : List Nat) (ks : List (Value × List Nat)) : Prop := ∀ (j : Nat) (x : Value × List Nat), ks[j]? = some x → x.2 = (hy.ch ps i j).map (fun m => bs.getD m 0)
theorem hy.Kids.snoc {ps : List Int} {i b : Nat} {bs : List Nat} {ks : List (Value × List Nat)} (h : hy.Kids ps i bs ks) (hb : bs.length = i) (hk : ks.length = i) (hps : ∀ m, m < i → ps.getD m 0 < (m : Int)) : hy.Kids ps i (bs ++ [b]) (ks ++ [(.slice none 0 0, [])]) := by
  intro j x hx
  rw [hy.ch_map ps i j bs b hb]
  by_cases hj : j < ks.length
  · rw [List.getElem?_append_left hj] at hx
    exact h j x hx
  · rw [List.getElem?_append_right (by omega)] at hx
    have hl := (List.getElem?_eq_some_iff.1 hx).1
    simp only [List.length_cons, List.length_nil] at hl
    have e : j - ks.length = 0 := by omega
    rw [e] at hx
    obtain rfl : ((.slice none 0 0, []) : Value × List Nat) = x := by simpa using hx
    rw [hy.ch_self ps i j hps (by omega)]
    rfl
theorem hy.Kids.none {ps : List Int} {i : Nat} {bs : List Nat} {ks : List (Value × List Nat)} (h : hy.Kids ps i bs ks) (hp : ps.getD i 0 < 0) : hy.Kids ps (i + 1) bs ks := fun j x hx => by
  rw [hy.ch_succ, if_neg (by omega)]
  exact h j x hx
theorem hy.Kids.one {ps : List Int} {i q b : Nat} {bs : List Nat} {ks : List (Value × List Nat)} {x : Value × List Nat} {v : Value} (h : hy.Kids ps i bs ks) (hp : ps.getD i 0 = (q : Int)) (hx : ks[q]? = some x) (hb : bs.getD i 0 = b) : hy.Kids ps (i + 1) bs (ks.set q (v, x.2 ++ [b])) := fun j y hyy => by
  rw [hy.ch_succ]
  by_cases e : j = q
  · subst e
    rw [List.getElem?_set_self (List.getElem?_eq_some_iff.1 hx).1] at hyy
    cases hyy
    rw [if_pos hp, List.map_append, ← h j x hx]
    show x.2 ++ [b] = x.2 ++ [bs.getD i 0]
    rw [hb]
  · rw [List.getElem?_set_ne (Ne.symm e)] at hyy
    rw [if_neg (by omega)]
    exact h j y hyy
def hy.r8.T : Bool × List (List Nat × List Nat) := (true, [([], []), ([], []), ([0, 1], [0, 1]), ([2], [2]), ([], []), ([], []), ([4, 5], [4, 5]), ([6], [6]), ([7], [7]), ([8], [8]), ([9], [9]), ([], []), ([11], [11]), ([10, 12], [10, 12]), ([3, 0, 1, 2, 3, 4, 5, 6, 7, 8, 9, 10, 11, 12, 13], [3]), ([14, 0, 1, 2, 3, 4, 5, 6, 7, 8, 9, 10, 11, 12, 13], [14]), ([15, 13, 13, 0, 1, 2, 3, 4, 5, 6, 7, 8, 9, 10, 11, 12, 13], [13, 15])])
def hy.r8.B : List Nat := [0, 0, 3, 7, 0, 0, 48, 112, 240, 496, 1008, 0, 2048, 8176, 16383, 32767, 65535]
theorem hy.r8.tab : rtab .any (opsOf Try.f72 8) = hy.r8.T := by kernel_rfl
theorem hy.r8.bits : waitsOk hy.r8.T.2 hy.r8.B = true := by kernel_rfl

theorem hy.start {W : World} {base g : Nat} (h : W.heap[g]? = some (.cells #[] 78 (0, 0))) (hb : base ≤ g) : hy.Tr W base (.slice (some ⟨g, 0, none⟩) 0 0) [] [] := by
  refine ⟨⟨fun _ => 0, fun i x hx => ?_⟩, rfl, List.Pairwise.nil, fun j b hj => by simp at hj⟩
  cases i with
  | zero =>
    obtain rfl : ((.slice (some ⟨g, 0, none⟩) 0 0, []) : Value × List Nat) = x := by simpa using hx
    exact ⟨fun k _ => rfl, [], ⟨rfl, .inr ⟨g, 0, #[], rfl, hb, h, Nat.le_refl _, Nat.zero_le _, rfl, rfl⟩⟩, rfl, fun j p hj => by cases hj⟩
  | succ i => simp at hx
set_option maxHeartbeats 1000000 in
set_option maxRecDepth 100000 in
theorem hy.treeOf (ps : List Int) (A0 : Option Addr) (c0 : Nat) (w : World) (hr0 : Kd.C (Kd.int .i64) w A0 ps.length ps) (hc0 : ps.length ≤ c0) (h40 : ps.length ≤ 40) (hps : ∀ i, i < ps.length → ps.getD i 0 < (i : Int)) :
    Calls Try.prog 72 #[.agg #[.slice A0 ps.length c0]] w fun e w' => ∃ v bs ks, e = .returned v ∧ hy.Tr w' w.heap.size v bs ks ∧ bs.length = ps.length ∧ hy.Kids ps ps.length bs ks ∧ Below w.heap.size w w' := by
  have HR := Aside0.mk hr0
  clear hr0
  have hz81 : ∀ w, (zeroValue 81).run Try.prog w = .ok (.agg #[.int .i64 0, .slice none 0 0]) w := fun w => by kernel_rfl
  go_enter Try.func72, Try.ntmps72
  go_wp2
  go_loopg [3, 11] ps.length (fun gg s3 s11 wr => ∃ (i : Nat) (bs : List Nat) (ks : List (Value × List Nat)), i ≤ ps.length ∧ ps.length - i ≤ gg ∧ s11 = .int .i64 (i : Int) ∧ bs.length = i ∧ Aside0 (hy.Tr wr w.heap.size s3 bs ks) ∧ Aside0 (hy.Kids ps i bs ks) ∧ Aside0 (Below w.heap.size w wr))
  case atStart =>
    refine ⟨0, [], [], Nat.zero_le _, by omega, rfl, rfl, ⟨hy.start ?_ ?_⟩, ⟨fun j x hx => by simp at hx⟩, ⟨?_⟩⟩
    · have z := heap_alloc_new (w.alloc (.cells #[.slice A0 ps.length c0] 43)) (.cells #[] 78)
      rw [World.size_alloc] at z
      exact z
    · omega
    · exact ((Below.refl w.heap.size w).alloc (Nat.le_refl _) _).alloc (by rw [World.size_alloc]; omega) _
  case round =>
    obtain ⟨i, bs, ks, hi, hgg, rfl, hbl, HT, HK, HB⟩ := hrel
    by_cases hil : i < ps.length
    · cases gk with
      | zero => omega
      | succ k1 =>
      have hltz : (i : Int) < (ps.length : Int) := by omega
      have hiz : (0 : Int) ≤ (i : Int) := Int.natCast_nonneg _
      obtain ⟨ac, e0, hxc⟩ := Kd.at_int (Kd.C_below HR.out HB.out) (i : Int) hiz hltz
      cases e0
      rw [Int.toNat_natCast] at hxc
      have hrd : rd ps (i : Int) = ps.getD i 0 := by simp [rd]
      rw [hrd] at hxc
      have hpi := hps i hil
      have HPS := Aside0.mk hps
      clear hps
      obtain ⟨p, hp⟩ : ∃ p, ps.getD i 0 = p := ⟨_, rfl⟩
      rw [hp] at hxc hpi
      have HP := Aside0.mk hp
      clear hp
      subst hbl
      have HL := Aside0.mk h40
      by_cases hp0 : 0 ≤ p
      · obtain ⟨q, rfl⟩ : ∃ q : Nat, p = (q : Int) := ⟨p.toNat, by omega⟩
        have hqi : q < bs.length := by omega
        have d1 : decide (0 ≤ (q : Int)) = true := decide_eq_true hp0
        go_wp2_with (first
          | ((with_reducible refine gate_dst (N := 18) rfl ?_); refine box_event ?hg (N := 18) ?hd (cs := #[.int .i64 (bs.length : Int), .slice none 0 0]) (t := 81) ?hr ?_; (case hd => rfl); (case hg => rfl); (case hr => first | (go_simp; done) | (go_simp; rfl)); intro tb htb wb hbox hb1; obtain ⟨f, hf⟩ := (HT.out.fam.below hb1).push; have hR0 := hy.Fam.row hf 0 (_, bs) rfl; obtain ⟨A3, c3, e3⟩ := Kd.R_slice hR0; dsimp only at e3; subst e3; have hBw := HB.out.trans (hb1.mono HB.out.size); have HB1 := Aside0.mk hb1; have HBX := Aside0.mk hbox; have HTB := Aside0.mk (Nat.le_of_eq htb.symm); clear hb1 hbox htb)
          | ((with_reducible refine gate_builtin (b := .append) (xs := #[.tmp 19, .tmp 21]) rfl ?_); at_builtin; refine Kd.R_append hy.kp (w0 := w) w.heap.size rfl (.tmp 19) (.tmp 21) 76 78 (.pointer none) 8 rfl Try.underlying76 hy.info78 rfl (by decide) (by omega) (.slice A3 bs.length c3) bs tb [.pointer (some ⟨tb, 0, none⟩)] (fun k => (if wb.heap.size ≤ k then 0 else f k) = 0) (fun _ => False) rfl rfl ?aP (fun _ hk => hk.elim) ?aF hR0 hBw hBw.size ?aL ?_; (case aP => exact rfl); (case aF => exact fun k hk => if_pos hk); (case aL => have := HL.out; omega); intro v6 w6 ho hb6 hg hat; have HT6 := Aside0.mk (HT.out.snoc HB.out.size HB1.out HBX.out HTB.out hf hg ho); have HB6 := Aside0.mk hb6; have HK6 := Aside0.mk (hy.Kids.snoc (b := tb) HK.out rfl HT.out.len (fun m hm => HPS.out m (by omega))); clear ho hb6 hg hat))
        have hbd := below_drew1 (Below.refl w6.heap.size w6)
        have HT4 := Aside0.mk (HT6.out.below hbd)
        have HB4 := Aside0.mk (HB6.out.trans (hbd.mono HB6.out.size))
        clear HT6 HB6 hbd HT HB
        obtain ⟨w4, hw4⟩ : ∃ w4, w4 = w6.drew := ⟨_, rfl⟩
        rw [← hw4] at HT4 HB4
        obtain ⟨f4, hf4⟩ := HT4.out.fam
        obtain ⟨g3, c3', ev, _, _, _⟩ := Kd.R_form (hf4 0 _ rfl) (by simp)
        dsimp only at ev
        subst ev
        rw [show (bs ++ [tb]).length = bs.length + 1 by simp] at *
        obtain ⟨bq, hbq0⟩ : ∃ bq, bs[q]? = some bq := ⟨bs[q], List.getElem?_eq_getElem hqi⟩
        have hbq : (bs ++ [tb])[q]? = some bq := by rw [List.getElem?_append_left hqi]; exact hbq0
        obtain ⟨hbase, ⟨vq, yq⟩, hxq, hnode⟩ := HT4.out.node q bq hbq
        have hRq := hy.Fam.row hf4 (q + 1) (vq, yq) hxq
        obtain ⟨Aq, cq, eq⟩ := Kd.R_slice hRq
        dsimp only at eq hnode
        subst eq
        have HLq : Aside0 (yq.length ≤ 40) := ⟨by
          have h := HK6.out q _ hxq
          dsimp only at h
          rw [h, List.length_map]
          have := hy.ch_len ps bs.length q
          omega⟩
        have hS0 : w4.cell? ⟨g3, q, none⟩ = some (.pointer (some ⟨bq, 0, none⟩)) := (hy.elem (hf4 0 _ rfl) q (by omega)).trans (by rw [List.getD_eq_getElem?_getD, hbq]; rfl)
        have hS1 : w4.cell? ⟨bq, 1, none⟩ = some (.slice Aq yq.length cq) := (blk_cell hnode 1).trans rfl
        have q1_ : (q : Int) < ((bs.length + 1 : Nat) : Int) := by omega
        have q2_ : (q : Int) < (bs.length : Int) + 1 := by omega
        refine start_ (n := 17) (S := fun w' => w'.cell? ⟨g3, q, none⟩ = some (.pointer (some ⟨bq, 0, none⟩)) ∧ w'.cell? ⟨bq, 1, none⟩ = some (.slice Aq yq.length cq)) (ds := [16]) #[false, false, false, false, false, false, false, false, false, false, false, false, false, false, false, false, false] (by kernel_rfl) rfl rfl ⟨by rw [← hw4]; exact hS0, by rw [← hw4]; exact hS1⟩ (fun hHeld => ?_)
        refine with_tabW hy.r8.tab hy.r8.bits (fun HT_ HW_ => ?_)
        rw [← hw4] at hHeld ⊢
        clear hw4
        refine pure_ (i := 0) (N := (some 25)) (v := ?_) (a' := ?_) #[true, false, false, false, false, false, false, false, false, false, false, false, false, false, false, false, false] rfl rfl (any_of HT_.out (by kernel_rfl)) (fun _ _ _ h => h) (Or.inl ⟨by rfl, ?_⟩) ?_ ?_
        rotate_left
        · intro w'
          go_simp
          with_reducible rfl
        rotate_left
        · simp only [Act.put, List.setIfInBounds_toArray, List.set_cons_zero, List.set_cons_succ, i64_w, i32_w]
          rfl
        refine pure_ (i := 1) (N := (some 26)) (v := ?_) (a' := ?_) #[true, true, false, false, false, false, false, false, false, false, false, false, false, false, false, false, false] rfl rfl (any_of HT_.out (by kernel_rfl)) (fun _ _ _ h => h) (Or.inl ⟨by rfl, ?_⟩) ?_ ?_
        rotate_left
        · intro w'
          go_simp
          with_reducible rfl
        rotate_left
        · simp only [Act.put, List.setIfInBounds_toArray, List.set_cons_zero, List.set_cons_succ, i64_w, i32_w]
          rfl
        refine pure_ (i := 2) (N := (some 27)) (v := ?_) (a' := ?_) #[true, true, true, false, false, false, false, false, false, false, false, false, false, false, false, false, false] rfl rfl (any_of HT_.out (by kernel_rfl)) (fun _ _ _ h => h) (Or.inl ⟨by rfl, ?_⟩) ?_ ?_
        rotate_left
        · intro w'
          go_simp
          with_reducible rfl
        rotate_left
        · simp only [Act.put, List.setIfInBounds_toArray, List.set_cons_zero, List.set_cons_succ, i64_w, i32_w]
          rfl
        refine pure_ (i := 4) (N := (some 29)) (v := ?_) (a' := ?_) #[true, true, true, false, true, false, false, false, false, false, false, false, false, false, false, false, false] rfl rfl (any_of HT_.out (by kernel_rfl)) (fun _ _ _ h => h) (Or.inl ⟨by rfl, ?_⟩) ?_ ?_
        rotate_left
        · intro w'
          go_simp
          with_reducible rfl
        rotate_left
        · simp only [Act.put, List.setIfInBounds_toArray, List.set_cons_zero, List.set_cons_succ, i64_w, i32_w]
          rfl
        refine pure_ (i := 5) (N := (some 30)) (v := ?_) (a' := ?_) #[true, true, true, false, true, true, false, false, false, false, false, false, false, false, false, false, false] rfl rfl (any_of HT_.out (by kernel_rfl)) (fun _ _ _ h => h) (Or.inl ⟨by rfl, ?_⟩) ?_ ?_
        rotate_left
        · intro w'
          go_simp
          with_reducible rfl
        rotate_left
        · simp only [Act.put, List.setIfInBounds_toArray, List.set_cons_zero, List.set_cons_succ, i64_w, i32_w]
          rfl
        refine pure_ (i := 6) (N := (some 31)) (v := ?_) (a' := ?_) #[true, true, true, false, true, true, true, false, false, false, false, false, false, false, false, false, false] rfl rfl (any_of HT_.out (by kernel_rfl)) (fun _ _ _ h => h) (Or.inl ⟨by rfl, ?_⟩) ?_ ?_
        rotate_left
        · intro w'
          go_simp
          with_reducible rfl
        rotate_left
        · simp only [Act.put, List.setIfInBounds_toArray, List.set_cons_zero, List.set_cons_succ, i64_w, i32_w]
          rfl
        refine pure_ (i := 11) (N := (some 36)) (v := ?_) (a' := ?_) #[true, true, true, false, true, true, true, false, false, false, false, true, false, false, false, false, false] rfl rfl (any_of HT_.out (by kernel_rfl)) (fun _ _ _ h => h) (Or.inl ⟨by rfl, ?_⟩) ?_ ?_
        rotate_left
        · intro w'
          go_simp
          with_reducible rfl
        rotate_left
        · simp only [Act.put, List.setIfInBounds_toArray, List.set_cons_zero, List.set_cons_succ, i64_w, i32_w]
          rfl
        refine take_ (i := 3) (N := (some 28)) (v := ?_) (a' := ?_) #[true, true, true, true, true, true, true, false, false, false, false, true, false, false, false, false, false] rfl rfl (take_ofW HT_.out HW_.out (by kernel_rfl)) (fun _ _ _ h => h) (Or.inl ⟨by rfl, ?_⟩) hHeld ?_ ?_
        rotate_left
        · rintro w' ⟨s0, s1⟩
          go_simp
          with_reducible rfl
        rotate_left
        · simp only [Act.put, List.setIfInBounds_toArray, List.set_cons_zero, List.set_cons_succ, i64_w, i32_w]
          rfl
        refine take_ (i := 7) (N := (some 32)) (v := ?_) (a' := ?_) #[true, true, true, true, true, true, true, true, false, false, false, true, false, false, false, false, false] rfl rfl (take_ofW HT_.out HW_.out (by kernel_rfl)) (fun _ _ _ h => h) (Or.inl ⟨by rfl, ?_⟩) hHeld ?_ ?_
        rotate_left
        · rintro w' ⟨s0, s1⟩
          go_simp
          with_reducible rfl
        rotate_left
        · simp only [Act.put, List.setIfInBounds_toArray, List.set_cons_zero, List.set_cons_succ, i64_w, i32_w]
          rfl
        refine pure_ (i := 8) (N := (some 33)) (v := ?_) (a' := ?_) #[true, true, true, true, true, true, true, true, true, false, false, true, false, false, false, false, false] rfl rfl (any_of HT_.out (by kernel_rfl)) (fun _ _ _ h => h) (Or.inl ⟨by rfl, ?_⟩) ?_ ?_
        rotate_left
        · intro w'
          go_simp
          with_reducible rfl
        rotate_left
        · simp only [Act.put, List.setIfInBounds_toArray, List.set_cons_zero, List.set_cons_succ, i64_w, i32_w]
          rfl
        refine pure_ (i := 9) (N := (some 34)) (v := ?_) (a' := ?_) #[true, true, true, true, true, true, true, true, true, true, false, true, false, false, false, false, false] rfl rfl (any_of HT_.out (by kernel_rfl)) (fun _ _ _ h => h) (Or.inl ⟨by rfl, ?_⟩) ?_ ?_
        rotate_left
        · intro w'
          go_simp
          with_reducible rfl
        rotate_left
        · simp only [Act.put, List.setIfInBounds_toArray, List.set_cons_zero, List.set_cons_succ, i64_w, i32_w]
          rfl
        refine take_ (i := 10) (N := (some 35)) (v := ?_) (a' := ?_) #[true, true, true, true, true, true, true, true, true, true, true, true, false, false, false, false, false] rfl rfl (take_ofW HT_.out HW_.out (by kernel_rfl)) (fun _ _ _ h => h) (Or.inl ⟨by rfl, ?_⟩) hHeld ?_ ?_
        rotate_left
        · rintro w' ⟨s0, s1⟩
          go_simp
          with_reducible rfl
        rotate_left
        · simp only [Act.put, List.setIfInBounds_toArray, List.set_cons_zero, List.set_cons_succ, i64_w, i32_w]
          rfl
        refine one_ (i := 12) (N := some 37) #[true, true, true, true, true, true, true, true, true, true, true, true, true, false, false, false, false] rfl rfl (one_of HT_.out (by kernel_rfl)) (by decide) (fun K hK => ?_)
        refine value_ (w1 := ?_) (v := ?_) (by rfl) rfl ?_ ?_
        rotate_left 2
        · go_simp
          constructor
          · rfl
          · rfl
        refine hK.out _ _ ⟨(World.cell?_alloc_lt _ _ _ (World.block_lt_of_cell? _ _ hS0)).trans hS0, (World.cell?_alloc_lt _ _ _ (World.block_lt_of_cell? _ _ hS1)).trans hS1⟩ (fun hHeld => ?_)
        clear hK K
        refine norm_ (a' := ?_) ?_ ?_
        rotate_left
        · show Act.put _ (some 37) _ = _
          simp only [Act.put, List.setIfInBounds_toArray, List.set_cons_zero, List.set_cons_succ, i64_w, i32_w]
          rfl
        refine one_ (i := 13) (N := some 38) #[true, true, true, true, true, true, true, true, true, true, true, true, true, true, false, false, false] rfl rfl (one_of HT_.out (by kernel_rfl)) (by decide) (fun K hK => ?_)
        refine Kd.R_append_step hy.kp (w0 := w) w.heap.size (by rfl) (.tmp 35) (.tmp 37) 76 78 (.pointer none) 8 rfl Try.underlying76 hy.info78 rfl (by decide) (by omega) (.slice Aq yq.length cq) yq tb [.pointer (some ⟨tb, 0, none⟩)] (fun k => (if w4.heap.size ≤ k then q + 1 else f4 k) = q + 1) (fun _ => False) rfl rfl ?aP (fun _ hk => hk.elim) ?aF hRq HB4.out HB4.out.size ?aL ?_
        (case aP => exact rfl)
        (case aF => exact fun k hk => if_pos hk)
        (case aL => have := HLq.out; omega)
        intro v11 w11 ho hb hg hat
        obtain ⟨Av, nv, cv, rfl⟩ : ∃ A n c, v11 = Value.slice A n c := by obtain ⟨A, c, e⟩ := Kd.R_slice ho; exact ⟨A, _, c, e⟩
        have hTc := HT4.out.child hf4 q bq (.slice Aq yq.length cq, yq) hbq hxq hg ho
        have hbq11 := hy.stay hRq hg hnode
        have HTC := Aside0.mk hTc
        have HBC : Aside0 (Below w.heap.size w (w11.setCell ⟨bq, 1, none⟩ (.slice Av nv cv))) := ⟨below_set hb hbase⟩
        have z0 := (blk_cell hbq11 1).trans rfl
        have z1 := blk_frozen hbq11 1
        have hS2 : w11.cell? ⟨g3, q, none⟩ = some (.pointer (some ⟨bq, 0, none⟩)) := (hy.elem (Kd.R_grown (hf4 0 _ rfl) hg (fun k hk e => by have h2 := (hf4 (q + 1) _ hxq).1 k e.symm; have h3 : f4 k = 0 := hk; omega)) q (by omega)).trans (by rw [List.getD_eq_getElem?_getD, hbq]; rfl)
        clear ho hb hg hat hTc hbq11
        refine hK.out _ _ ⟨hS2, z0⟩ (fun hHeld => ?_)
        clear hK K
        refine norm_ (a' := ?_) ?_ ?_
        rotate_left
        · show Act.put _ (some 38) _ = _
          simp only [Act.put, List.setIfInBounds_toArray, List.set_cons_zero, List.set_cons_succ, i64_w, i32_w]
          rfl
        refine pure_ (i := 14) (N := (some 39)) (v := ?_) (a' := ?_) #[true, true, true, true, true, true, true, true, true, true, true, true, true, true, true, false, false] rfl rfl (any_of HT_.out (by kernel_rfl)) (fun _ _ _ h => h) (Or.inl ⟨by rfl, ?_⟩) ?_ ?_
        rotate_left
        · intro w'
          go_simp
          with_reducible rfl
        rotate_left
        · simp only [Act.put, List.setIfInBounds_toArray, List.set_cons_zero, List.set_cons_succ, i64_w, i32_w]
          rfl
        refine pure_ (i := 15) (N := (some 40)) (v := ?_) (a' := ?_) #[true, true, true, true, true, true, true, true, true, true, true, true, true, true, true, true, false] rfl rfl (any_of HT_.out (by kernel_rfl)) (fun _ _ _ h => h) (Or.inl ⟨by rfl, ?_⟩) ?_ ?_
        rotate_left
        · intro w'
          go_simp
          with_reducible rfl
        rotate_left
        · simp only [Act.put, List.setIfInBounds_toArray, List.set_cons_zero, List.set_cons_succ, i64_w, i32_w]
          rfl
        refine last_ (i := 16) (N := none) #[true, true, true, true, true, true, true, true, true, true, true, true, true, true, true, true, true] rfl rfl (one_of HT_.out (by kernel_rfl)) (by decide) (fun K hK => ?_)
        refine skip_ (w1 := w11.setCell ⟨bq, 1, none⟩ (.slice Av nv cv)) (by rfl) rfl ?_ ?_
        · go_simp
        refine hK.out _ _ ?_
        clear hK K
        refine done_ (done_of HT_.out (by kernel_rfl)) ?_
        try go_wp2
        go_roundg k1
        case measure => omega
        case rel => exact ⟨bs.length + 1, bs ++ [tb], _, by omega, by omega, congrArg (Value.int .i64) (by omega), by simp, HTC, ⟨hy.Kids.one HK6.out HP.out hxq (by rw [List.getD_eq_getElem?_getD, List.getElem?_append_right (Nat.le_refl _), Nat.sub_self]; rfl)⟩, HBC⟩
      · have d1 : decide (0 ≤ p) = false := decide_eq_false hp0
        go_wp2_with (first
          | ((with_reducible refine gate_dst (N := 18) rfl ?_); refine box_event ?hg (N := 18) ?hd (cs := #[.int .i64 (bs.length : Int), .slice none 0 0]) (t := 81) ?hr ?_; (case hd => rfl); (case hg => rfl); (case hr => first | (go_simp; done) | (go_simp; rfl)); intro tb htb wb hbox hb1; obtain ⟨f, hf⟩ := (HT.out.fam.below hb1).push; have hR0 := hy.Fam.row hf 0 (_, bs) rfl; obtain ⟨A3, c3, e3⟩ := Kd.R_slice hR0; dsimp only at e3; subst e3; have hBw := HB.out.trans (hb1.mono HB.out.size); have HB1 := Aside0.mk hb1; have HBX := Aside0.mk hbox; have HTB := Aside0.mk (Nat.le_of_eq htb.symm); clear hb1 hbox htb)
          | ((with_reducible refine gate_builtin (b := .append) (xs := #[.tmp 19, .tmp 21]) rfl ?_); at_builtin; refine Kd.R_append hy.kp (w0 := w) w.heap.size rfl (.tmp 19) (.tmp 21) 76 78 (.pointer none) 8 rfl Try.underlying76 hy.info78 rfl (by decide) (by omega) (.slice A3 bs.length c3) bs tb [.pointer (some ⟨tb, 0, none⟩)] (fun k => (if wb.heap.size ≤ k then 0 else f k) = 0) (fun _ => False) rfl rfl ?aP (fun _ hk => hk.elim) ?aF hR0 hBw hBw.size ?aL ?_; (case aP => exact rfl); (case aF => exact fun k hk => if_pos hk); (case aL => have := HL.out; omega); intro v6 w6 ho hb6 hg hat; have HT6 := Aside0.mk (HT.out.snoc HB.out.size HB1.out HBX.out HTB.out hf hg ho); have HB6 := Aside0.mk hb6; have HK6 := Aside0.mk (hy.Kids.snoc (b := tb) HK.out rfl HT.out.len (fun m hm => HPS.out m (by omega))); clear ho hb6 hg hat))
        go_roundg k1
        case measure => omega
        case rel => exact ⟨bs.length + 1, bs ++ [tb], ks ++ [(.slice none 0 0, [])], by omega, by omega, congrArg (Value.int .i64) (by omega), by simp, HT6, ⟨hy.Kids.none HK6.out (by rw [HP.out]; omega)⟩, HB6⟩
    · have hltz : ¬ (i : Int) < (ps.length : Int) := by omega
      obtain rfl : i = ps.length := by omega
      go_wp2
      go_ret
      exact ⟨_, rfl, bs, ks, HT.out, hbl, HK.out, HB.out⟩
theorem hy.Tr.step {W W' : World} {base : Nat} {v : Value} {bs : List Nat} {ks : List (Value × List Nat)} (h : hy.Tr W base v bs ks) (hm : ∀ (k t : Nat) (cells : Array Value), W.heap[k]? = some (.cells cells t (0, 0)) → (t = 78 ∨ t = 81) → W'.heap[k]? = some (.cells cells t (0, 0))) : hy.Tr W' base v bs ks :=
  ⟨h.fam.step (fun k _ ⟨cells, hc⟩ => (hm k 78 cells hc (.inl rfl)).trans hc.symm), h.len, h.nd, fun j b hj => by
    obtain ⟨h1, x, h2, h3⟩ := h.node j b hj
    exact ⟨h1, x, h2, hm b 81 _ h3 (.inr rfl)⟩⟩
def hy.wk (D : Nat → List Nat) : Nat → List Int → Nat → Int → List Int × Bool
  | 0, h, _, _ => (h, false)
  | N + 1, h, i, par => if 40 ≤ h.length then (h ++ [par], false) else (D i).foldl (fun s c => if s.2 = true then hy.wk D N s.1 c (h.length : Int) else s) (h ++ [par], true)
theorem hy.wk_len (D : Nat → List Nat) : ∀ (N : Nat) (h : List Int) (i : Nat) (par : Int), h.length ≤ 40 → (hy.wk D N h i par).1.length ≤ 41 ∧ ((hy.wk D N h i par).2 = true → (hy.wk D N h i par).1.length ≤ 40)
  | 0, h, i, par, hl => ⟨by simp only [hy.wk]; omega, fun e => by simp [hy.wk] at e⟩
  | N + 1, h, i, par, hl => by
    unfold hy.wk
    by_cases hc : 40 ≤ h.length
    · rw [if_pos hc]
      exact ⟨by simp only [List.length_append, List.length_cons, List.length_nil]; omega, fun e => by simp at e⟩
    · rw [if_neg hc]
      have key : ∀ (l : List Nat) (s : List Int × Bool), s.1.length ≤ 41 → (s.2 = true → s.1.length ≤ 40) → (l.foldl (fun s c => if s.2 = true then hy.wk D N s.1 c (h.length : Int) else s) s).1.length ≤ 41 ∧ ((l.foldl (fun s c => if s.2 = true then hy.wk D N s.1 c (h.length : Int) else s) s).2 = true → (l.foldl (fun s c => if s.2 = true then hy.wk D N s.1 c (h.length : Int) else s) s).1.length ≤ 40) := by
        intro l
        induction l with
        | nil => intro s h1 h2; exact ⟨h1, h2⟩
        | cons c l ih =>
          intro s h1 h2
          rw [List.foldl_cons]
          by_cases hs : s.2 = true
          · rw [if_pos hs]
            obtain ⟨a1, a2⟩ := hy.wk_len D N s.1 c (h.length : Int) (h2 hs)
            exact ih _ a1 a2
          · rw [if_neg hs]
            exact ih _ h1 h2
      exact key (D i) (h ++ [par], true) (by simp only [List.length_append, List.length_cons, List.length_nil]; omega) (fun _ => by simp only [List.length_append, List.length_cons, List.length_nil]; omega)
theorem hy.wk_stop (D : Nat → List Nat) (N : Nat) (own : Int) : ∀ (l : List Nat) (s : List Int × Bool), s.2 = false → l.foldl (fun s c => if s.2 = true then hy.wk D N s.1 c own else s) s = s
  | [], s, _ => rfl
  | c :: l, s, h => by
    rw [List.foldl_cons, if_neg (by rw [h]; decide)]
    exact hy.wk_stop D N own l s h
/-- What a walk's calls keep. -/
structure hy.Wl (w0 : World) (hb wb rb : Nat) (tv : Value) (bs : List Nat) (ks : List (Value × List Nat)) (v : Value) (h : List Int) (W : World) : Prop where
  hbx : W.heap[hb]? = some (.cells #[v] 43 (0, 0))
  wbx : W.heap[wb]? = some (.cells #[.func (.func 81) #[] #[.pointer (some ⟨hb, 0, none⟩), .pointer (some ⟨wb, 0, none⟩)]] 87 (0, 0))
  row : Kd.R (Kd.int .i64) 3 W w0.heap.size (fun _ => True) v h
  tr : hy.Tr W w0.heap.size tv bs ks
  B : Below w0.heap.size w0 W
  le : w0.heap.size ≤ hb
  rbx : W.heap[rb]? = some (.cells #[.slice none 0 0] 43 (0, 0))
  ne : rb ≠ hb
/-- A number is appended to the hydra's row. -/
theorem hy.Wl.more {w0 W W2 : World} {hb wb rb : Nat} {tv v v2 : Value} {bs : List Nat} {ks : List (Value × List Nat)} {h h2 : List Int} (H : hy.Wl w0 hb wb rb tv bs ks v h W) (hg : W.grownBy W2 v.ownBlock) (ho : Kd.R (Kd.int .i64) 3 W2 w0.heap.size (fun _ => True) v2 h2) (hb2 : Below w0.heap.size w0 W2) : hy.Wl w0 hb wb rb tv bs ks v2 h2 (W2.setCell ⟨hb, 0, none⟩ v2) := by
  have stay : ∀ {k t : Nat} {cells : Array Value}, W.heap[k]? = some (.cells cells t (0, 0)) → 3 ≠ t → W2.heap[k]? = some (.cells cells t (0, 0)) := fun hk ht => blk_grown hk hg (Kd.R_ne H.row hk ht)
  have hh := stay H.hbx (by decide)
  have far : ∀ {k t : Nat} {cells : Array Value}, W2.heap[k]? = some (.cells cells t (0, 0)) → t ≠ 43 → (W2.setCell ⟨hb, 0, none⟩ v2).heap[k]? = some (.cells cells t (0, 0)) := fun {k t cells} hk ht => (Below.heap_setCell W2 ⟨hb, 0, none⟩ v2 k (fun e => by
    have e2 : k = hb := e
    subst e2
    rw [hh] at hk
    cases hk
    exact ht rfl)).trans hk
  refine ⟨blk_put (cs := #[v]) hh 0 _ rfl, far (stay H.wbx (by decide)) (by decide), ?_, H.tr.step (fun k t cells hk ht => far (stay hk (by rcases ht with rfl | rfl <;> decide)) (by rcases ht with rfl | rfl <;> decide)), below_set hb2 H.le, H.le, (Below.heap_setCell W2 ⟨hb, 0, none⟩ v2 rb H.ne).trans (stay H.rbx (by decide)), H.ne⟩
  refine Kd.R_mono (Kd.R_step (Kd.R_bound ho) (fun k hk hlt => Below.heap_setCell W2 ⟨hb, 0, none⟩ v2 k (fun e => ?_))) (fun _ _ => trivial)
  obtain ⟨_, _, _, q, hq, cs, hc⟩ := hk
  have e2 : k = hb := e
  subst e2
  rw [hh] at hc
  cases hc
  revert hq
  decide
theorem hy.info3 : (Try.prog.info? 3).map (fun i => (i.zero, i.size, i.bytes)) = some (some (.int .i64 0), 1, 8) := by kernel_rfl
theorem hy.Wl.slice {w0 W : World} {hb wb rb : Nat} {tv v : Value} {bs : List Nat} {ks : List (Value × List Nat)} {h : List Int} (H : hy.Wl w0 hb wb rb tv bs ks v h W) : ∃ A c, v = .slice A h.length c := Kd.R_slice H.row
theorem hy.at {W : World} {base n c : Nat} {ok : Nat → Prop} {A : Option Addr} {L : List Nat} (h : Kd.R hy.kp 78 W base ok (.slice A n c) L) (j : Nat) (hj : j < n) : ∃ ad, A = some ad ∧ W.cell? (ad.add j) = some (.pointer (some ⟨L.getD j 0, 0, none⟩)) := by
  obtain ⟨ad, e, hx⟩ := ReadsOf.at_ (Kd.reads_of_C (enc := fun b : Nat => Value.pointer (some ⟨b, 0, none⟩)) (d := (0 : Nat)) (h1 := fun _ => rfl) (Kd.R_reads' h).2.2) (j : Int) (by omega) (by have := (Kd.R_reads' h).1; omega)
  rw [Int.toNat_natCast] at hx
  refine ⟨ad, e, hx.trans ?_⟩
  simp [rdOf]
set_option maxHeartbeats 1000000 in
set_option maxRecDepth 100000 in
theorem hy.walk (w0 : World) (hb wb rb : Nat) (tv : Value) (bs : List Nat) (ks : List (Value × List Nat)) (D : Nat → List Nat) (hD : ∀ j, j < bs.length → ∀ c ∈ D j, j < c ∧ c < bs.length) (hDl : ∀ j, (D j).length ≤ 1000) (hks : ∀ j x, ks[j]? = some x → x.2 = (D j).map (fun m => bs.getD m 0)) :
    ∀ (N i : Nat), i < bs.length → bs.length - i ≤ N → ∀ (h : List Int) (par : Int) (v : Value) (W : World), h.length ≤ 40 → hy.Wl w0 hb wb rb tv bs ks v h W →
    Calls Try.prog 81 #[.pointer (some ⟨bs.getD i 0, 0, none⟩), .int .i64 par, .pointer (some ⟨hb, 0, none⟩), .pointer (some ⟨wb, 0, none⟩)] W fun e W' => e = .returned (.bool (hy.wk D N h i par).2) ∧ ∃ v', hy.Wl w0 hb wb rb tv bs ks v' (hy.wk D N h i par).1 W' := by
  intro N
  induction N with
  | zero => intro i hi hN; omega
  | succ N IH =>
    intro i hi hN h par v W hl hW
    have HI := Aside0.mk IH
    clear IH
    obtain ⟨Av, cv, rfl⟩ := hW.slice
    have b0 := (blk_cell hW.hbx 0).trans rfl
    have b1 := blk_frozen hW.hbx 0
    have HW := Aside0.mk hW
    have HL := Aside0.mk hl
    have HKS := Aside0.mk hks
    have HDD := Aside0.mk hD
    clear hW hks hD
    obtain ⟨bq, hbq⟩ : ∃ bq, bs.getD i 0 = bq := ⟨_, rfl⟩
    rw [hbq]
    by_cases hc : 40 ≤ h.length
    · have hwk : hy.wk D (N + 1) h i par = (h ++ [par], false) := by unfold hy.wk; rw [if_pos hc]
      have HWK := Aside0.mk hwk
      have hge : (40 : Int) ≤ (h.length : Int) := by omega
      rw [hwk]
      clear hwk
      go_enter Try.func81, Try.ntmps81
      go_wp2_with (first | ((with_reducible refine gate_builtin (b := .append) (xs := #[.tmp 14, .tmp 16]) rfl ?_); at_builtin; refine Kd.R_append (Kd.int .i64) (w0 := w0) w0.heap.size rfl (.tmp 14) (.tmp 16) 33 3 (.int .i64 0) 8 rfl Try.underlying33 hy.info3 rfl (by decide) (by omega) (.slice Av h.length cv) h par [.int .i64 par] (fun _ => True) (fun _ => False) rfl rfl ?aP (fun _ hk => hk.elim) ?aF HW.out.row HW.out.B HW.out.B.size ?aL ?_; (case aP => exact rfl); (case aF => exact fun _ _ => trivial); (case aL => have := HL.out; omega); intro v6 w6 ho hb6 hg hat; have HW6 := Aside0.mk (HW.out.more hg ho hb6); have z0 := (blk_cell (blk_grown HW.out.hbx hg (Kd.R_ne HW.out.row HW.out.hbx (by decide))) 0).trans rfl; have z1 := blk_frozen (blk_grown HW.out.hbx hg (Kd.R_ne HW.out.row HW.out.hbx (by decide))) 0; obtain ⟨A6, n6, c6, rfl⟩ : ∃ A n c, v6 = Value.slice A n c := (by obtain ⟨A, c, e⟩ := Kd.R_slice ho; exact ⟨A, _, c, e⟩); clear ho hb6 hg hat b0 b1))
      go_ret
      exact ⟨rfl, _, HW6.out⟩
    · have hwk : hy.wk D (N + 1) h i par = (D i).foldl (fun s c => if s.2 = true then hy.wk D N s.1 c (h.length : Int) else s) (h ++ [par], true) := by rw [hy.wk, if_neg hc]
      have hge : ¬ (40 : Int) ≤ (h.length : Int) := by omega
      have hbs : bs[i]? = some bq := by rw [List.getElem?_eq_getElem hi, ← hbq, List.getD_eq_getElem?_getD, List.getElem?_eq_getElem hi]; rfl
      obtain ⟨_, ⟨xi, yi⟩, hx, _⟩ := HW.out.tr.node i bq hbs
      have hyi := HKS.out i _ hx
      dsimp only at hyi
      obtain ⟨Ai, ci, hxi⟩ : ∃ A c, xi = Value.slice A yi.length c := by
        obtain ⟨f, hf⟩ := HW.out.tr.fam
        exact Kd.R_slice (hf (i + 1) _ hx)
      subst hxi
      have hyl : yi.length = (D i).length := by rw [hyi, List.length_map]
      rw [hwk]
      generalize hown : (h.length : Int) = own at hge
      clear hwk
      go_enter Try.func81, Try.ntmps81
      go_wp2_with (first | ((with_reducible refine gate_builtin (b := .append) (xs := #[.tmp 14, .tmp 16]) rfl ?_); at_builtin; refine Kd.R_append (Kd.int .i64) (w0 := w0) w0.heap.size rfl (.tmp 14) (.tmp 16) 33 3 (.int .i64 0) 8 rfl Try.underlying33 hy.info3 rfl (by decide) (by omega) (.slice Av h.length cv) h par [.int .i64 par] (fun _ => True) (fun _ => False) rfl rfl ?aP (fun _ hk => hk.elim) ?aF HW.out.row HW.out.B HW.out.B.size ?aL ?_; (case aP => exact rfl); (case aF => exact fun _ _ => trivial); (case aL => have := HL.out; omega); intro v6 w6 ho hb6 hg hat; have HW6 := Aside0.mk (HW.out.more hg ho hb6); have z0 := (blk_cell (blk_grown HW.out.hbx hg (Kd.R_ne HW.out.row HW.out.hbx (by decide))) 0).trans rfl; have z1 := blk_frozen (blk_grown HW.out.hbx hg (Kd.R_ne HW.out.row HW.out.hbx (by decide))) 0; obtain ⟨A6, n6, c6, rfl⟩ : ∃ A n c, v6 = Value.slice A n c := (by obtain ⟨A, c, e⟩ := Kd.R_slice ho; exact ⟨A, _, c, e⟩); obtain ⟨_, x6, hx6, hn6⟩ := HW6.out.tr.node i bq hbs; rw [hx] at hx6; cases hx6; have n1 := (blk_cell hn6 1).trans rfl; clear ho hb6 hg hat b0 b1 hn6))
      go_loopg [26] (D i).length (fun gg s26 wr => ∃ (j : Nat) (v' : Value) (h' : List Int), j ≤ (D i).length ∧ (D i).length - j ≤ gg ∧ s26 = .int .i64 (j : Int) ∧ Aside0 (hy.Wl w0 hb wb rb tv bs ks v' h' wr) ∧ ((D i).take j).foldl (fun s c => if s.2 = true then hy.wk D N s.1 c own else s) (h ++ [par], true) = (h', true) ∧ h'.length ≤ 40)
      case atStart => exact ⟨0, _, _, Nat.zero_le _, by omega, rfl, HW6, rfl, by simp only [List.length_append, List.length_cons, List.length_nil]; omega⟩
      case round =>
        obtain ⟨j, v', h', hj, hgg, rfl, HWj, hfold, hl'⟩ := hrel
        by_cases hjl : j < (D i).length
        · cases gk with
          | zero => omega
          | succ k1 =>
          have hltz : (j : Int) < (yi.length : Int) := by omega
          have hjz : (0 : Int) ≤ (j : Int) := Int.natCast_nonneg _
          have hb_ : yi.length ≤ 1000 := by have := hDl i; omega
          obtain ⟨f, hf⟩ := HWj.out.tr.fam
          obtain ⟨ad, e0, hxc⟩ := hy.at (hf (i + 1) _ hx) j (by omega)
          cases e0
          have hcm := HDD.out i hi ((D i)[j]) (List.getElem_mem hjl)
          have hyc : yi.getD j 0 = bs.getD ((D i)[j]) 0 := by rw [hyi, List.getD_eq_getElem?_getD, List.getElem?_map, List.getElem?_eq_getElem hjl]; rfl
          rw [hyc] at hxc
          have htk : ((D i).take (j + 1)).foldl (fun s c => if s.2 = true then hy.wk D N s.1 c own else s) (h ++ [par], true) = hy.wk D N h' ((D i)[j]) own := by rw [List.take_succ_eq_append_getElem hjl, List.foldl_append, hfold]; rfl
          have hdr : (D i).foldl (fun s c => if s.2 = true then hy.wk D N s.1 c own else s) (h ++ [par], true) = ((D i).drop (j + 1)).foldl (fun s c => if s.2 = true then hy.wk D N s.1 c own else s) (hy.wk D N h' ((D i)[j]) own) := by rw [← htk, ← List.foldl_append, List.take_append_drop]
          obtain ⟨_, hlen⟩ := hy.wk_len D N h' ((D i)[j]) own hl'
          have hcall := HI.out ((D i)[j]) (by omega) (by omega) h' own v' wr hl' HWj.out
          generalize (D i)[j] = c at hxc htk hdr hcall hlen
          generalize hy.wk D N h' c own = r at htk hdr hcall hlen
          obtain ⟨h7, b7⟩ := r
          dsimp only at hlen hcall
          have w0_ := (blk_cell HWj.out.wbx 0).trans rfl
          have HTK := Aside0.mk htk
          have HDR := Aside0.mk hdr
          have HCL := Aside0.mk hcall
          have HLN := Aside0.mk hlen
          clear htk hdr hcall hlen hfold hcm hyc hf
          generalize bs.getD c 0 = bc at hxc HCL
          cases b7 with
          | true =>
            go_wp2_with (first | (go_at_call 81; refine HCL.out.mono ?_; rintro e w7 ⟨rfl, v7, hW7⟩; have HW7 := Aside0.mk hW7; clear hW7))
            go_roundg k1
            case measure => omega
            case rel => exact ⟨j + 1, _, h7, by omega, by omega, congrArg (Value.int .i64) (by omega), HW7, HTK.out, HLN.out trivial⟩
          | false =>
            have hst := hy.wk_stop D N own ((D i).drop (j + 1)) (h7, false) rfl
            rw [hst] at HDR
            go_wp2_with (first | (go_at_call 81; refine HCL.out.mono ?_; rintro e w7 ⟨rfl, v7, hW7⟩; have HW7 := Aside0.mk hW7; clear hW7))
            go_ret
            rw [HDR.out]
            exact ⟨rfl, _, HW7.out⟩
        · have hltz : ¬ (j : Int) < (yi.length : Int) := by omega
          obtain rfl : j = (D i).length := by omega
          rw [List.take_length] at hfold
          have HFD := Aside0.mk hfold
          clear hfold
          go_wp2
          go_ret
          rw [HFD.out]
          exact ⟨rfl, _, HWj.out⟩
theorem hy.info43 : (Try.prog.info? 43).map (·.size) = some 1 := by kernel_rfl
theorem hy.far43 {W : World} {base b : Nat} {u : Value} {l : List Int} {ok : Nat → Prop} {cs : Array Value} (h : Kd.R (Kd.int .i64) 3 W base ok u l) (hb : W.heap[b]? = some (.cells cs 43 (0, 0))) (v : Value) : Kd.R (Kd.int .i64) 3 (W.setCell ⟨b, 0, none⟩ v) base ok u l := by
  refine Kd.R_mono (Kd.R_step (Kd.R_bound h) (fun k hk hlt => Below.heap_setCell W ⟨b, 0, none⟩ v k (fun e => ?_))) (fun _ hk => hk.1)
  obtain ⟨_, _, _, q, hq, cs, hc⟩ := hk
  have e2 : k = b := e
  subst e2
  rw [hb] at hc
  cases hc
  revert hq
  decide
set_option maxHeartbeats 1000000 in
set_option maxRecDepth 100000 in
theorem hy.hydraOf (w0 : World) (tv : Value) (bs : List Nat) (ks : List (Value × List Nat)) (D : Nat → List Nat) (hD : ∀ j, j < bs.length → ∀ c ∈ D j, j < c ∧ c < bs.length) (hDl : ∀ j, (D j).length ≤ 1000) (hks : ∀ j x, ks[j]? = some x → x.2 = (D j).map (fun m => bs.getD m 0)) (h0 : 0 < bs.length) (W : World) (hT : hy.Tr W w0.heap.size tv bs ks) (hB : Below w0.heap.size w0 W) :
    Calls Try.prog 75 #[.pointer (some ⟨bs.getD 0 0, 0, none⟩)] W fun e W' => ∃ v, e = .returned (.tuple #[.agg #[v], .bool (hy.wk D bs.length [] 0 (-1)).2]) ∧ Kd.R (Kd.int .i64) 3 W' w0.heap.size (fun _ => True) v (if (hy.wk D bs.length [] 0 (-1)).2 = true then (hy.wk D bs.length [] 0 (-1)).1 else []) ∧ Below w0.heap.size w0 W' := by
  have hz43 : ∀ w, (zeroValue 43).run Try.prog w = .ok (.agg #[.slice none 0 0]) w := fun w => by kernel_rfl

  have hb3 : Below W.heap.size W (((W.alloc (.cells #[.slice none 0 0] 43)).alloc (.cells #[.slice none 0 0] 43)).alloc (.cells #[.func (.func 81) #[] #[.pointer (some ⟨W.heap.size + 1, 0, none⟩), .pointer (some ⟨W.heap.size + 1 + 1, 0, none⟩)]] 87)) := (((Below.refl W.heap.size W).alloc (Nat.le_refl _) _).alloc (by rw [World.size_alloc]; omega) _).alloc (by rw [World.size_alloc, World.size_alloc]; omega) _
  have z1 := heap_alloc_new (W.alloc (.cells #[.slice none 0 0] 43)) (.cells #[.slice none 0 0] 43)
  rw [World.size_alloc] at z1
  have z2 := heap_alloc_new ((W.alloc (.cells #[.slice none 0 0] 43)).alloc (.cells #[.slice none 0 0] 43)) (.cells #[.func (.func 81) #[] #[.pointer (some ⟨W.heap.size + 1, 0, none⟩), .pointer (some ⟨W.heap.size + 1 + 1, 0, none⟩)]] 87)
  rw [World.size_alloc, World.size_alloc] at z2
  have hW1 : hy.Wl w0 (W.heap.size + 1) (W.heap.size + 1 + 1) W.heap.size tv bs ks (.slice none 0 0) [] (((W.alloc (.cells #[.slice none 0 0] 43)).alloc (.cells #[.slice none 0 0] 43)).alloc (.cells #[.func (.func 81) #[] #[.pointer (some ⟨W.heap.size + 1, 0, none⟩), .pointer (some ⟨W.heap.size + 1 + 1, 0, none⟩)]] 87)) := ⟨blk_alloc z1 _, z2, Kd.R_nil _ _ _ _ _, hT.below hb3, hB.trans (hb3.mono hB.size), by have := hB.size; omega, blk_alloc (blk_alloc (heap_alloc_new W _) _) _, by omega⟩
  have hwalk := hy.walk w0 (W.heap.size + 1) (W.heap.size + 1 + 1) W.heap.size tv bs ks D hD hDl hks bs.length 0 h0 (by omega) [] (-1) (.slice none 0 0) _ (by simp) hW1
  have HWK := Aside0.mk hwalk
  have HBS := Aside0.mk hB.size
  clear hb3 z1 z2 hW1 hwalk hks hD hDl hT hB
  generalize hy.wk D bs.length [] 0 (-1) = r at HWK ⊢
  obtain ⟨h7, b7⟩ := r
  dsimp only at HWK ⊢
  generalize bs.getD 0 0 = b0 at HWK ⊢
  have sv0_ := fun (w_ : World) (a_ : Addr) (m_ : Mode) => run_store Try.prog w_ a_ (.func (.func 81) #[] #[.pointer (some ⟨W.heap.size + 1, 0, none⟩), .pointer (some ⟨W.heap.size + 1 + 1, 0, none⟩)]) m_ rfl
  go_enter Try.func75, Try.ntmps75
  cases b7 with
  | true =>
    go_wp2_with (first | (go_at_call 81; refine HWK.out.mono ?_; rintro e w7 ⟨rfl, v7, hW7⟩; have HW7 := Aside0.mk hW7; have c0_ := (blk_cell hW7.hbx 0).trans rfl; have c1_ := (blk_cell hW7.rbx 0).trans rfl; have c2_ := blk_frozen hW7.rbx 0; obtain ⟨A7, c7, rfl⟩ := hW7.slice; clear hW7))
    refine bodyPost_ret (results_list (rs := [.cell 2 43, .tmp 3]) rfl (by simp) (.cell _ 43 #[.slice A7 h7.length c7] (0, 0) _ rfl (blk_put HW7.out.rbx 0 _ rfl) Try.underlying43 rfl hy.info43 (.tmp .nil))) rfl ?_
    exact ⟨_, rfl, hy.far43 HW7.out.row HW7.out.rbx _, below_set HW7.out.B HBS.out⟩
  | false =>
    go_wp2_with (first | (go_at_call 81; refine HWK.out.mono ?_; rintro e w7 ⟨rfl, v7, hW7⟩; have HW7 := Aside0.mk hW7; have c1_ := (blk_cell hW7.rbx 0).trans rfl; have c2_ := blk_frozen hW7.rbx 0; clear hW7))
    refine bodyPost_ret (results_list (rs := [.cell 2 43, .tmp 3]) rfl (by simp) (.cell _ 43 #[.slice none 0 0] (0, 0) _ rfl (blk_put HW7.out.rbx 0 _ rfl) Try.underlying43 rfl hy.info43 (.tmp .nil))) rfl ?_
    exact ⟨_, rfl, Kd.R_nil _ _ _ _ _, below_set HW7.out.B HBS.out⟩
/-! #### chop's closure -/
set_option maxHeartbeats 400000 in
set_option maxRecDepth 100000 in
theorem hy.eqn (x b : Nat) (num head : Int) (W : World) (h1 : W.cell? ⟨x, 0, none⟩ = some (.int .i64 num)) (h2 : W.cell? ⟨b, 0, none⟩ = some (.int .i64 head)) :
    Calls Try.prog 74 #[.pointer (some ⟨x, 0, none⟩), .pointer (some ⟨b, 0, none⟩)] W fun e w' => e = .returned (.bool (num == head)) ∧ Below W.heap.size W w' := by
  have HB := Aside0.mk (Below.refl W.heap.size W)
  have h1d : ∀ n, (W.drewN n).cell? ⟨x, 0, none⟩ = some (.int .i64 num) := fun _ => h1
  have h2d : ∀ n, (W.drewN n).cell? ⟨b, 0, none⟩ = some (.int .i64 head) := fun _ => h2
  have h1e : W.drew.cell? ⟨x, 0, none⟩ = some (.int .i64 num) := h1
  have h2e : W.drew.cell? ⟨b, 0, none⟩ = some (.int .i64 head) := h2
  go_enter Try.func74, Try.ntmps74
  go_wp2
  go_quiet ((fail))
  go_wp2
  go_ret
  exact ⟨rfl, pw_below_drewN HB.out _⟩
/-- A predicate on pointers, handed over: what it tells in whatever world of a kind Q. -/
def hy.Pred (g : Nat) (lb : Array Value) (p : Nat → Bool) (l : List Nat) (Q : World → Prop) : Prop :=
  ∀ (W : World) (x : Nat), x ∈ l → Q W → Calls Try.prog g (#[.pointer (some ⟨x, 0, none⟩)] ++ lb) W fun e w' => e = .returned (.bool (p x)) ∧ Below W.heap.size W w'
theorem hy.atC {W : World} {n : Nat} {A : Option Addr} {L : List Nat} (h : Kd.C hy.kp W A n L) (j : Nat) (hj : j < n) (hl : n = L.length) : ∃ ad, A = some ad ∧ W.cell? (ad.add j) = some (.pointer (some ⟨L.getD j 0, 0, none⟩)) := by
  obtain ⟨ad, e, hx⟩ := ReadsOf.at_ (Kd.reads_of_C (enc := fun b : Nat => Value.pointer (some ⟨b, 0, none⟩)) (d := (0 : Nat)) (h1 := fun _ => rfl) h) (j : Int) (by omega) (by omega)
  rw [Int.toNat_natCast] at hx
  refine ⟨ad, e, hx.trans ?_⟩
  simp [rdOf]
set_option maxHeartbeats 400000 in
set_option maxRecDepth 100000 in
theorem hy.indexFunc (g : Nat) (lb : Array Value) (eg : ∀ args w, (callFunc g args).run Try.prog w = .ok (.enter g args) w) (p : Nat → Bool) (l : List Nat) (A : Option Addr) (c : Nat) (Q : World → Prop) (hQb : ∀ W W', Q W → Below W.heap.size W W' → Q W') (w : World) (h0 : Q w)
    (hr : Kd.C hy.kp w A l.length l) (hp : hy.Pred g lb p l Q) :
    Calls Try.prog 80 #[.slice A l.length c, .func (.func g) #[] lb] w fun e w' => ∃ r : Int, e = .returned (.int .i64 r) ∧ Below w.heap.size w w' ∧
      ((r = -1 ∧ ∀ x ∈ l, p x = false) ∨ ∃ k : Nat, ∃ hk : k < l.length, r = (k : Int) ∧ p l[k] = true ∧ ∀ j, j < k → ∀ hj : j < l.length, p l[j] = false) := by
  have hbig : l.length ≤ 9223372036854775807 := hr.2.1
  have HR := Aside0.mk hr
  have HP := Aside0.mk hp
  have H0 := Aside0.mk h0
  clear hr hp h0
  go_enter Try.func80, Try.ntmps80
  go_wp2
  go_loopg [5, 8] l.length (fun gg _ s8 wr => ∃ kk : Nat, kk ≤ l.length ∧ l.length - kk ≤ gg ∧ s8 = .int .i64 kk ∧ Aside0 (Below w.heap.size w wr) ∧ Aside0 (∀ j, j < kk → ∀ hj : j < l.length, p l[j] = false))
  case atStart => exact ⟨0, Nat.zero_le _, by omega, rfl, ⟨Below.refl _ w⟩, ⟨fun j hj => absurd hj (Nat.not_lt_zero _)⟩⟩
  case round =>
    obtain ⟨kk, hkk, hg, rfl, BW, AF⟩ := hrel
    by_cases hlt : kk < l.length
    · have hltz : (kk : Int) < (l.length : Int) := by omega
      obtain ⟨ad, e0, hx0⟩ := hy.atC HR.out kk hlt rfl
      cases e0
      replace hx0 := (BW.out.cell (World.block_lt_of_cell? w _ hx0)).trans hx0
      have hcall := HP.out wr l[kk] (List.getElem_mem hlt) (hQb w wr H0.out BW.out)
      have hrd : l.getD kk 0 = l[kk] := by simp [List.getD_eq_getElem?_getD, List.getElem?_eq_getElem hlt]
      rw [hrd] at hx0
      clear hrd
      generalize hyy : l[kk] = y at hx0 hcall
      have B : Aside0 (l[kk] = y) := ⟨hyy⟩
      clear hyy
      cases hq : p y with
      | true =>
        rw [hq] at hcall
        go_wp2_with (go_at_fn g; refine hcall.mono ?_; rintro e w' ⟨rfl, hb'⟩)
        go_ret
        exact ⟨_, rfl, below_then BW.out BW.out.size hb', Or.inr ⟨kk, hlt, rfl, by rw [B.out]; exact hq, AF.out⟩⟩
      | false =>
        rw [hq] at hcall
        go_wp2_with (go_at_fn g; refine hcall.mono ?_; rintro e w' ⟨rfl, hb'⟩)
        go_roundg (l.length - (kk + 1))
        case measure => omega
        case rel =>
          refine ⟨kk + 1, by omega, by omega, by go_num, ⟨below_then BW.out BW.out.size hb'⟩, ⟨fun j hj hjl => ?_⟩⟩
          by_cases e : j = kk
          · subst e
            rw [B.out]; exact hq
          · exact AF.out j (by omega) hjl
    · have hltz : ¬ (kk : Int) < (l.length : Int) := by omega
      have : kk = l.length := by omega
      go_wp2
      go_ret
      refine ⟨_, rfl, BW.out, Or.inl ⟨rfl, fun x hx => ?_⟩⟩
      obtain ⟨j, hj, rfl⟩ := List.mem_iff_getElem.1 hx
      exact AF.out j (by omega) hj
/-- 'clear(s)': what lies there is zero values; nothing else turns. -/
theorem hy.clear (w : World) (b o n c : Nat) (hn : 0 < n)
    (hc : ∀ j, j < n * 1 → (w.cell? ⟨b, o + j, none⟩).isSome = true) (hf : ∀ j, j < n * 1 → w.frozen? ⟨b, o + j, none⟩ = false) :
    ∃ L : List Value, L.length = n * 1 ∧ ∀ ty : TypeId, (Builtin.clear_ #[76] ty #[.slice (some ⟨b, o, none⟩) n c]).run Try.prog w = .ok (.tuple #[]) (w.setCells b o L) := by
  have hv : ∀ w : World, (zeroValue 78).run Try.prog w = .ok (.pointer none) w := fun w => by kernel_rfl
  have hu := run_underlying Try.underlying76
  obtain ⟨L, hL⟩ : ∃ L, (Builtin.zeroCells (Value.pointer none).cells n).toList = L := ⟨_, rfl⟩
  have hlen : L.length = n * 1 := by
    rw [← hL]
    simp [Builtin.zeroCells, Value.cells]
  have hone : ∀ v ∈ L, v.oneCell' = true := by
    intro v hv'
    rw [← hL] at hv'
    simp only [Builtin.zeroCells, Array.toList_map, List.mem_map] at hv'
    obtain ⟨i, _, rfl⟩ := hv'
    have hs : (Value.pointer none).cells.size = 1 := by simp [Value.cells]
    rw [hs]
    have hi : i % 1 < 3 := by omega
    have e0 : i % 1 = 0 := by omega
    rw [e0]
    rfl
  have hst := run_storeCells_cells (P := Try.prog) b o L 0 w (by rw [hlen]; simpa using hc) (by rw [hlen]; simpa using hf) hone
  simp only [Nat.add_zero] at hst
  obtain ⟨m, rfl⟩ : ∃ m, n = m + 1 := ⟨n - 1, by omega⟩
  refine ⟨L, hlen, fun ty => ?_⟩
  simp [Builtin.clear_, hu, hv, hL, hst]
/-- A row cut at i, and what lies behind it written over. -/
theorem hy.past {w : World} {B g n cap i : Nat} {ok : Nat → Prop} {xs : List Nat} (h : Kd.R hy.kp 78 w B ok (.slice (some ⟨g, 0, none⟩) n cap) xs) (hi : i ≤ n) (L : List Value) (hL : L.length = (n - i) * 1) :
    Kd.R hy.kp 78 (w.setCells g (i * 1) L) B ok (.slice (some ⟨g, 0, none⟩) i cap) (xs.take i) ∧ w.grownBy (w.setCells g (i * 1) L) (some g) := by
  have hn := (Kd.R_reads' h).1
  have h' := Kd.R_take h (m := i) (by omega)
  have hil : (xs.take i).length = i := by rw [List.length_take]; omega
  obtain ⟨hok, inner, ho, hr⟩ := h'
  obtain ⟨_, inner0, ho0, _⟩ := h
  obtain ⟨s1, s2, s3, s4⟩ := setCells_same g L (i * 1) w
  have hfar : ∀ k, k ≠ g → (w.setCells g (i * 1) L).heap[k]? = w.heap[k]? := fun k hk => setCells_far L _ k hk
  refine ⟨⟨hok, inner, ?_, ?_⟩, ⟨s1, s2, s3, by rw [s4]; exact Nat.le_refl _, fun k _ hk => hfar k (fun he => hk (by rw [he]))⟩⟩
  · obtain ⟨ho1, ho2⟩ := ho
    refine ⟨ho1, ?_⟩
    rcases ho2 with ⟨hv, _⟩ | ⟨g', cap', cur, hv, hb, hh, hnc, hcm, hcs, ht⟩
    · cases hv
    injection hv with ha hl hc
    injection ha with ha
    injection ha with hg
    subst hg; subst hc
    have hcapn : n ≤ cap := by
      rcases ho0.2 with ⟨hv0, _⟩ | ⟨g0, cap0, cur0, hv0, _, _, hnc0, _⟩
      · cases hv0
      · injection hv0 with _ q1 q2
        omega
    have hsz : hy.kp.sz = 1 := rfl
    rw [hsz] at hcs ht ⊢
    obtain ⟨cur', h3, h4, h5⟩ := setCells_row L (i * 1) w cur hh (by rw [hL, hcs]; omega)
    refine .inr ⟨g, cap, cur', by rw [hil], hb, h3, hnc, hcm, by rw [h4, hcs], ?_⟩
    rw [h5, ← ht, hil]
    have hle : i * 1 ≤ cur.toList.length := by rw [Array.length_toList, hcs]; omega
    rw [List.append_assoc, List.take_append_of_le_length (by rw [List.length_take]; omega), List.take_take, Nat.min_self]
  · refine hr.imp_ (fun p c hp => hy.kp.M_move (fun k hk => hfar k (fun e => ?_)) hp)
    subst e
    exact hk.2 (by simp [Value.ownBlock])
theorem hy.taken {p : Nat → Bool} {l : List Nat} {j : Nat} (hj : j < l.length) : (l.take (j + 1)).filter (fun x => !p x) = (l.take j).filter (fun x => !p x) ++ if p l[j] = true then [] else [l[j]] := by
  rw [List.take_succ_eq_append_getElem hj, List.filter_append]
  congr 1
  cases h : p l[j] <;> simp [h]
theorem hy.setTake {l : List Nat} {i : Nat} (x : Nat) (h : i < l.length) : (l.set i x).take (i + 1) = l.take i ++ [x] := by
  rw [List.take_set, List.take_succ_eq_append_getElem h, List.set_append_right _ _ (by rw [List.length_take]; omega)]
  have : min i l.length = i := by omega
  simp [this]
theorem hy.gtrans {A B C : World} {r : Option Nat} (h : A.grownBy B r) (k : B.grownBy C r) : A.grownBy C r := ⟨k.os.trans h.os, k.tape.trans h.tape, k.output.trans h.output, Nat.le_trans h.size k.size, fun i hi hne => (k.block i (Nat.lt_of_lt_of_le hi h.size) hne).trans (h.block i hi hne)⟩
theorem hy.gset (w : World) (p : Addr) (u : Value) : w.grownBy (w.setCell p u) (some p.block) := ⟨rfl, rfl, rfl, by simp [World.setCell], fun k _ hk => Below.heap_setCell w p u k (fun e => hk (by rw [e]))⟩
theorem hy.elemP {W : World} {base g n c : Nat} {ok : Nat → Prop} {L : List Nat} (h : Kd.R hy.kp 78 W base ok (.slice (some ⟨g, 0, none⟩) n c) L) (k : Nat) (hk : k < n) : W.cell? ⟨g, k, none⟩ = some (.pointer (some ⟨L.getD k 0, 0, none⟩)) ∧ W.frozen? ⟨g, k, none⟩ = false := by
  obtain ⟨cs, hcl, hM, hcc, hfr⟩ := Kd.R_elem h 0 (k : Int) (by omega) (by omega)
  rw [Int.toNat_natCast] at hM hcc hfr
  have hM' : cs = [.pointer (some ⟨L.getD k 0, 0, none⟩)] := hM
  subst hM'
  have h1 := hcc 0 _ rfl
  have h2 := hfr 0
  simp only [show hy.kp.sz = 1 from rfl, Nat.mul_one, Nat.add_zero] at h1 h2
  exact ⟨h1, h2⟩
theorem hy.putP {W : World} {base g n c : Nat} {ok : Nat → Prop} {L : List Nat} (h : Kd.R hy.kp 78 W base ok (.slice (some ⟨g, 0, none⟩) n c) L) (k : Nat) (hk : k < n) (b : Nat) : Kd.R hy.kp 78 (W.setCell ⟨g, k, none⟩ (.pointer (some ⟨b, 0, none⟩))) base ok (.slice (some ⟨g, 0, none⟩) n c) (L.set k b) := by
  obtain ⟨cs, hcl, hM, hcc, hfr⟩ := Kd.R_elem h 0 (k : Int) (by omega) (by omega)
  have h1 := Kd.R_seg h (k : Int) (by omega) (by omega) (c := cs) (seg := [.pointer (some ⟨b, 0, none⟩)]) (j := 0) (x' := b) (okp := fun _ => False) hcl hcc (Nat.le_refl _) (by
    have e : cs.drop (0 + [Value.pointer (some ⟨b, 0, none⟩)].length) = [] := List.drop_of_length_le (by rw [hcl]; exact Nat.le_refl _)
    show cs.take 0 ++ [Value.pointer (some ⟨b, 0, none⟩)] ++ cs.drop (0 + [Value.pointer (some ⟨b, 0, none⟩)].length) = [Value.pointer (some ⟨b, 0, none⟩)]
    rw [e]
    rfl) (fun _ hk => hk.elim)
  rw [Int.toNat_natCast] at h1
  have e2 : k * hy.kp.sz + 0 = k := by show k * 1 + 0 = k; omega
  rw [e2] at h1
  exact h1.1
set_option maxHeartbeats 2000000 in
set_option maxRecDepth 100000 in
theorem hy.deleteFunc (g : Nat) (lb : Array Value) (eg : ∀ args w, (callFunc g args).run Try.prog w = .ok (.enter g args) w) (p : Nat → Bool) (l : List Nat) (v : Value) (ok : Nat → Prop) (Q : World → Prop) (w : World) (B : Nat) (hQb : ∀ W W', Q W → Below W.heap.size W W' → Q W') (hQs : ∀ W g1 j u, Q W → v.ownBlock = some g1 → Q (W.setCell ⟨g1, j, none⟩ u)) (h0 : Q w) (hsm : l.length ≤ 1000000)
    (ho : Kd.R hy.kp 78 w B ok v l) (hp : hy.Pred g lb p l Q) :
    Calls Try.prog 73 #[v, .func (.func g) #[] lb] w fun e w' => ∃ v' : Value, e = .returned v' ∧ Kd.R hy.kp 78 w' B ok v' (l.filter fun x => !p x) ∧ w.grownBy w' v.ownBlock ∧ v'.ownBlock = v.ownBlock := by
  obtain ⟨A, c, rfl, hAc, hrd⟩ := Kd.R_reads ho
  have eIF : ∀ args w, (callFunc 80 args).run Try.prog w = .ok (.enter 80 args) w := fun args w => enters_ Try.func80 rfl rfl args w
  have hIF := hy.indexFunc g lb eg p l A c Q hQb w h0 hrd hp
  have HO := Aside0.mk ho
  have HP := Aside0.mk hp
  have H0 := Aside0.mk h0
  clear ho hp h0 hrd
  go_enter Try.func73, Try.ntmps73
  go_upto_region 2 with (first | (go_at_fn 80; refine hIF.mono ?_; rintro e w1 ⟨r, rfl, hb1, hh⟩))
  rcases hh with ⟨rfl, hall⟩ | ⟨k, hk, rfl, hpk, hall⟩
  · go_wp2
    go_ret
    have e : (l.filter fun x => !p x) = l := List.filter_eq_self.2 (fun x hx => by rw [hall x hx]; rfl)
    exact ⟨_, rfl, by rw [e]; exact Kd.R_below HO.out hb1, grown_of_below hb1 _, rfl⟩
  · have hne : ((k : Int) == -1) = false := beq_eq_false_iff_ne.2 (by omega)
    obtain ⟨g1, cap, e1, hg1, hg2, _⟩ := Kd.R_form HO.out (by omega)
    injection e1 with e1 _ e2
    subst e1; subst e2
    have HR1 := Aside0.mk (Kd.R_below HO.out hb1)
    have HQ1 := Aside0.mk (hQb w w1 H0.out hb1)
    have HG1 := Aside0.mk (grown_of_below hb1 (some g1))
    clear HO hIF hb1 H0
    have HALL := Aside0.mk hall
    have HPK := Aside0.mk hpk
    clear hall hpk
    go_wp2
    go_loopg [5, 6] l.length (fun gg s5 s6 wr => ∃ (i j : Nat) (dk : List Nat), s5 = .int .i64 (i : Int) ∧ s6 = .int .i64 (j : Int) ∧ j ≤ l.length ∧ l.length - j ≤ gg ∧ i < j ∧ dk.length = l.length ∧ Aside0 (dk.take i = (l.take j).filter fun x => !p x) ∧ Aside0 (dk.drop j = l.drop j) ∧ Aside0 (Kd.R hy.kp 78 wr B ok (.slice (some ⟨g1, 0, none⟩) l.length c) dk) ∧ Aside0 (w.grownBy wr (some g1)) ∧ Aside0 (Q wr))
    case atStart =>
      refine ⟨k, k + 1, l, rfl, by go_num, by omega, by omega, by omega, rfl, ⟨?_⟩, ⟨rfl⟩, HR1, HG1, HQ1⟩
      rw [hy.taken hk, if_pos HPK.out, List.append_nil]
      refine (List.filter_eq_self.2 (fun x hx => ?_)).symm
      obtain ⟨q, hq, rfl⟩ := List.mem_iff_getElem.1 hx
      rw [List.length_take] at hq
      rw [List.getElem_take, HALL.out q (by omega) (by omega)]
      rfl
    case round =>
      clear HR1 HQ1 HG1
      obtain ⟨i, j, dk, rfl, rfl, hj, hgg, hij, hdl, HT, HD, HO, HG, HQ⟩ := hrel
      by_cases hlt : j < l.length
      · have hltz : (j : Int) < (l.length : Int) := by omega
        have hltz2 : (i : Int) < (l.length : Int) := by omega
        have hjd : j < dk.length := by omega
        have hdj : dk[j] = l[j] := by
          have := congrArg (fun m : List Nat => m[0]?) HD.out
          simp only [List.getElem?_drop, Nat.add_zero, List.getElem?_eq_getElem hjd, List.getElem?_eq_getElem hlt, Option.some.injEq] at this
          exact this
        obtain ⟨hx0, _⟩ := hy.elemP HO.out j hlt
        have hget : dk.getD j 0 = l[j] := by rw [List.getD_eq_getElem?_getD, List.getElem?_eq_getElem hjd, Option.getD_some, hdj]
        rw [hget] at hx0
        have hym := List.getElem_mem hlt
        obtain ⟨y, hyy⟩ : ∃ y, l[j] = y := ⟨_, rfl⟩
        rw [hyy] at hx0 hym
        have HY := Aside0.mk hyy
        have hcall := HP.out wr y hym HQ.out
        clear hyy hget hdj hym
        cases hq : p y with
        | true =>
          simp only [hq] at hcall
          go_wp2_with (go_at_fn g; refine hcall.mono ?_; rintro e w5 ⟨rfl, hb5⟩; have n0_ := Aside0.mk (Kd.R_below HO.out hb5); have n1_ := Aside0.mk (hy.gtrans HG.out (grown_of_below hb5 _)); have n2_ := Aside0.mk (hQb _ _ HQ.out hb5); clear HO HG HQ; have HO := n0_; have HG := n1_; have HQ := n2_; clear n0_ n1_ n2_ hb5)
          go_roundg (l.length - (j + 1))
          case measure => omega
          case rel =>
            refine ⟨i, j + 1, dk, rfl, by go_num, by omega, by omega, by omega, hdl, ⟨?_⟩, ⟨?_⟩, HO, HG, HQ⟩
            · rw [hy.taken hlt, HY.out, hq, if_pos rfl, List.append_nil]
              exact HT.out
            · have := congrArg (List.drop 1) HD.out
              simpa [List.drop_drop] using this
        | false =>
          simp only [hq] at hcall
          have hi_ : i < l.length := by omega
          go_wp2_with (go_at_fn g; refine hcall.mono ?_; rintro e w5 ⟨rfl, hb5⟩; have n0_ := Aside0.mk (Kd.R_below HO.out hb5); have n1_ := Aside0.mk (hy.gtrans HG.out (grown_of_below hb5 _)); have n2_ := Aside0.mk (hQb _ _ HQ.out hb5); have z0_ := (hy.elemP n0_.out i hi_).1; have z1_ := (hy.elemP n0_.out i hi_).2; clear HO HG HQ; have HO := n0_; have HG := n1_; have HQ := n2_; clear n0_ n1_ n2_ hb5)
          go_roundg (l.length - (j + 1))
          case measure => omega
          case rel =>
            refine ⟨i + 1, j + 1, dk.set i y, by go_num, by go_num, by omega, by omega, by omega, by rw [List.length_set]; exact hdl, ⟨?_⟩, ⟨?_⟩, ⟨hy.putP HO.out i hi_ y⟩, ⟨hy.gtrans HG.out (hy.gset _ _ _)⟩, ⟨hQs _ _ _ _ HQ.out rfl⟩⟩
            · rw [hy.taken hlt, HY.out, hq, if_neg (by decide), hy.setTake y (by omega), HT.out]
            · rw [List.drop_set_of_lt (by omega)]
              have := congrArg (List.drop 1) HD.out
              simpa [List.drop_drop] using this
      · obtain rfl : j = l.length := by omega
        have hltz : ¬ (l.length : Int) < (l.length : Int) := by omega
        have hile : (i : Int) ≤ (l.length : Int) := by omega
        have hil2 : i ≤ l.length := by omega
        have hcz : (l.length : Int) ≤ (c : Int) := by omega
        have hiz : (0 : Int) ≤ (i : Int) := Int.natCast_nonneg _
        obtain ⟨L, hL, hcl⟩ := hy.clear wr g1 (i * 1) (l.length - i) (c - i) (by omega) (fun q hq => by
          have h1 := (hy.elemP HO.out (i + q) (by omega)).1
          rw [show i * 1 + q = i + q by omega, h1]
          rfl) (fun q hq => by
          have h1 := (hy.elemP HO.out (i + q) (by omega)).2
          rw [show i * 1 + q = i + q by omega]
          exact h1)
        have hpast := hy.past HO.out hil2 L hL
        rw [Nat.mul_one] at hcl hpast
        have hfin := HT.out
        rw [List.take_length] at hfin
        rw [hfin] at hpast
        go_wp2
        go_ret
        exact ⟨_, rfl, hpast.1, hy.gtrans HG.out hpast.2, rfl⟩
def hy.D (ps : List Int) (hd gr j : Nat) : List Nat :=
  (if j = (ps.getD hd 0).toNat then (hy.ch ps ps.length j).filter (fun m => !decide (m = hd)) else hy.ch ps ps.length j) ++ (if 0 < (ps.getD hd 0).toNat ∧ j = (ps.getD (ps.getD hd 0).toNat 0).toNat then List.replicate gr (ps.getD hd 0).toNat else [])
theorem hy.cell_far (W : World) (p : Addr) (u : Value) (a : Addr) (h : a.block ≠ p.block) : (W.setCell p u).cell? a = W.cell? a := by
  unfold World.cell?
  rw [Below.heap_setCell W p u a.block h]
theorem hy.same_num {bs : List Nat} (h : bs.Nodup) {m k : Nat} (hm : m < bs.length) (hk : k < bs.length) : decide (bs.getD m 0 = bs.getD k 0) = ((m : Int) == (k : Int)) := by
  rw [List.getD_eq_getElem?_getD, List.getD_eq_getElem?_getD, List.getElem?_eq_getElem hm, List.getElem?_eq_getElem hk, Option.getD_some, Option.getD_some]
  by_cases e : m = k
  · subst e
    simp
  · have h1 : ¬ bs[m] = bs[k] := fun e2 => e ((List.getElem?_inj hm h).1 (by rw [List.getElem?_eq_getElem hm, List.getElem?_eq_getElem hk, e2]))
    rw [decide_eq_false h1]
    exact (beq_eq_false_iff_ne.2 (by omega)).symm
theorem hy.Kids.at {ps : List Int} {i : Nat} {bs : List Nat} {ks : List (Value × List Nat)} (h : hy.Kids ps i bs ks) {j : Nat} {v : Value} {y : List Nat} (hj : ks[j]? = some (v, y)) : y = (hy.ch ps i j).map (fun m => bs.getD m 0) := h j (v, y) hj
theorem hy.cut_row {ps : List Int} {bs : List Nat} {j hd : Nat} (h : bs.Nodup) (hl : ps.length ≤ bs.length) (hh : hd < bs.length) : ((hy.ch ps ps.length j).map (fun m => bs.getD m 0)).filter (fun x => !decide (x = bs.getD hd 0)) = ((hy.ch ps ps.length j).filter (fun m => !decide (m = hd))).map (fun m => bs.getD m 0) := by
  rw [List.filter_map]
  congr 1
  refine List.filter_congr (fun m hm => ?_)
  have := hy.ch_lt ps ps.length j m hm
  show (!decide (bs.getD m 0 = bs.getD hd 0)) = !decide (m = hd)
  rw [hy.same_num h (by omega) hh]
  by_cases e : m = hd
  · subst e
    simp
  · have e2 : ¬ (m : Int) = (hd : Int) := by omega
    simp [e, e2]
theorem hy.D_down {ps : List Int} {hd gr : Nat} (hps : ∀ i, i < ps.length → ps.getD i 0 < (i : Int)) (hpos : ∀ i, 0 < i → i < ps.length → 0 ≤ ps.getD i 0) (h0 : 0 < hd) (hd1 : hd < ps.length) (j c : Nat) (hc : c ∈ hy.D ps hd gr j) : j < c ∧ c < ps.length := by
  have key : ∀ c, c ∈ hy.ch ps ps.length j → j < c ∧ c < ps.length := by
    intro c hc
    have h1 := hy.ch_lt ps ps.length j c hc
    unfold hy.ch at hc
    rw [List.mem_filter] at hc
    have h2 := of_decide_eq_true hc.2
    have h3 := hps c h1
    omega
  unfold hy.D at hc
  rw [List.mem_append] at hc
  rcases hc with hc | hc
  · by_cases e : j = (ps.getD hd 0).toNat
    · rw [if_pos e, List.mem_filter] at hc
      exact key c hc.1
    · rw [if_neg e] at hc
      exact key c hc
  · by_cases e : 0 < (ps.getD hd 0).toNat ∧ j = (ps.getD (ps.getD hd 0).toNat 0).toNat
    · rw [if_pos e, List.mem_replicate] at hc
      obtain ⟨_, rfl⟩ := hc
      have h2 := hps hd hd1
      have h3 := hps (ps.getD hd 0).toNat (by omega)
      omega
    · rw [if_neg e] at hc
      simp at hc
theorem hy.D_len (ps : List Int) (hd gr j : Nat) (h40 : ps.length ≤ 40) (hg : gr ≤ 99) : (hy.D ps hd gr j).length ≤ 1000 := by
  unfold hy.D
  rw [List.length_append]
  have h1 := hy.ch_len ps ps.length j
  have h2 : (if j = (ps.getD hd 0).toNat then (hy.ch ps ps.length j).filter (fun m => !decide (m = hd)) else hy.ch ps ps.length j).length ≤ 40 := by
    by_cases e : j = (ps.getD hd 0).toNat
    · rw [if_pos e]
      exact Nat.le_trans (List.length_filter_le _ _) (by omega)
    · rw [if_neg e]
      omega
  have h3 : (if 0 < (ps.getD hd 0).toNat ∧ j = (ps.getD (ps.getD hd 0).toNat 0).toNat then List.replicate gr (ps.getD hd 0).toNat else []).length ≤ 99 := by
    by_cases e : 0 < (ps.getD hd 0).toNat ∧ j = (ps.getD (ps.getD hd 0).toNat 0).toNat
    · rw [if_pos e, List.length_replicate]
      exact hg
    · rw [if_neg e]
      exact Nat.zero_le _
  omega
set_option maxHeartbeats 2000000 in
set_option maxRecDepth 100000 in
theorem hy.chop (ps : List Int) (hd gr : Nat) (A0 : Option Addr) (c0 : Nat) (w : World) (hr0 : Kd.C (Kd.int .i64) w A0 ps.length ps) (hc0 : ps.length ≤ c0) (h40 : ps.length ≤ 40) (hps : ∀ i, i < ps.length → ps.getD i 0 < (i : Int)) (hpos : ∀ i, 0 < i → i < ps.length → 0 ≤ ps.getD i 0) (h0 : 0 < hd) (hd1 : hd < ps.length) (hg : gr ≤ 99) :
    Calls Try.prog 58 #[.agg #[.slice A0 ps.length c0], .int .i64 (hd : Int), .int .i64 (gr : Int)] w fun e w' => ∃ v, e = .returned (.tuple #[.agg #[v], .bool (hy.wk (hy.D ps hd gr) ps.length [] 0 (-1)).2]) ∧ Kd.R (Kd.int .i64) 3 w' w.heap.size (fun _ => True) v (if (hy.wk (hy.D ps hd gr) ps.length [] 0 (-1)).2 = true then (hy.wk (hy.D ps hd gr) ps.length [] 0 (-1)).1 else []) ∧ Below w.heap.size w w' := by
  have hz43 : ∀ w, (zeroValue 43).run Try.prog w = .ok (.agg #[.slice none 0 0]) w := fun w => by kernel_rfl
  have HR := Aside0.mk hr0
  clear hr0
  obtain ⟨w3, hw3⟩ : ∃ w3, w3 = ((w.alloc (.cells #[.slice A0 ps.length c0] 43)).alloc (.cells #[.int .i64 (hd : Int)] 3)).alloc (.cells #[.slice none 0 0] 43) := ⟨_, rfl⟩
  have hb3 : Below w.heap.size w w3 := by rw [hw3]; exact (((Below.refl w.heap.size w).alloc (Nat.le_refl _) _).alloc (by rw [World.size_alloc]; omega) _).alloc (by rw [World.size_alloc, World.size_alloc]; omega) _
  have htree := hy.treeOf ps A0 c0 w3 (Kd.C_below HR.out hb3) hc0 h40 hps
  rw [hw3] at htree
  have HTREE := Aside0.mk htree
  clear htree
  obtain ⟨r_, hwk⟩ : ∃ r, r = hy.wk (hy.D ps hd gr) ps.length [] 0 (-1) := ⟨_, rfl⟩
  rw [← hwk]
  generalize hrl : (if r_.2 = true then r_.1 else []) = rl
  have HRL := Aside0.mk hrl
  have HWK := Aside0.mk hwk
  clear hwk hrl
  have HDL := Aside0.mk (fun j => hy.D_len ps hd gr j h40 hg)
  go_enter Try.func58, Try.ntmps58
  go_upto_region 2 with (first | (go_at_call 72; refine HTREE.out.mono ?_; rintro e w1 ⟨v1, bs, ks, rfl, hT, hbl, hK, hB1⟩))
  rw [← hw3] at hT hB1
  have z0 := heap_alloc_new w (.cells #[.slice A0 ps.length c0] 43)
  have z1 := heap_alloc_new (w.alloc (.cells #[.slice A0 ps.length c0] 43)) (.cells #[.int .i64 (hd : Int)] 3)
  rw [World.size_alloc] at z1
  have z2 := heap_alloc_new ((w.alloc (.cells #[.slice A0 ps.length c0] 43)).alloc (.cells #[.int .i64 (hd : Int)] 3)) (.cells #[.slice none 0 0] 43)
  rw [World.size_alloc, World.size_alloc] at z2
  have HX : Aside0 (w3.heap[w.heap.size]? = some (.cells #[.slice A0 ps.length c0] 43 (0, 0))) := ⟨by rw [hw3]; exact blk_alloc (blk_alloc z0 _) _⟩
  have HE : Aside0 (w3.heap[w.heap.size + 1]? = some (.cells #[.int .i64 (hd : Int)] 3 (0, 0))) := ⟨by rw [hw3]; exact blk_alloc z1 _⟩
  have HS : Aside0 (w3.heap[w.heap.size + 1 + 1]? = some (.cells #[.slice none 0 0] 43 (0, 0))) := ⟨by rw [hw3]; exact z2⟩
  have HB3 := Aside0.mk hb3
  clear z0 z1 z2 HTREE hw3 hb3
  obtain ⟨q, hq⟩ := (⟨(ps.getD hd 0).toNat, by have := hpos hd h0 hd1; omega⟩ : ∃ q : Nat, ps.getD hd 0 = (q : Int))
  have hqh := hps hd hd1
  rw [hq] at hqh
  have hqn : q < ps.length := by omega
  obtain ⟨g1, c1, ev, _, _, _⟩ : ∃ g cap, v1 = .slice (some ⟨g, 0, none⟩) bs.length cap ∧ True ∧ True ∧ True := by
    obtain ⟨f, hf⟩ := hT.fam
    obtain ⟨g, cap, e, _⟩ := Kd.R_form (hf 0 _ rfl) (by show 0 < bs.length; omega)
    exact ⟨g, cap, e, trivial, trivial, trivial⟩
  subst ev
  have hX1 := blk_below HX.out hB1
  have hE1 := blk_below HE.out hB1
  have x0_ := (blk_cell hX1 0).trans rfl
  have x1_ := (blk_cell hE1 0).trans rfl
  obtain ⟨ac, e0, hxc⟩ := Kd.at_int (Kd.C_below HR.out (HB3.out.trans (hB1.mono HB3.out.size))) (hd : Int) (by omega) (by omega)
  cases e0
  rw [Int.toNat_natCast, show rd ps (hd : Int) = ps.getD hd 0 by simp [rd], hq] at hxc
  have hn0 : w1.cell? ⟨g1, q, none⟩ = some (.pointer (some ⟨bs.getD q 0, 0, none⟩)) := by
    obtain ⟨f, hf⟩ := hT.fam
    exact (hy.elemP (hf 0 _ rfl) q (by omega)).1
  have j1_ : (hd : Int) < (ps.length : Int) := by omega
  have j2_ : (q : Int) < (ps.length : Int) := by omega
  rw [hbl] at hT ⊢
  have HDD : Aside0 (∀ j, j < bs.length → ∀ c ∈ hy.D ps hd gr j, j < c ∧ c < bs.length) := ⟨fun j _ c hc => by rw [hbl]; exact hy.D_down hps hpos h0 hd1 j c hc⟩
  generalize hbq : bs.getD q 0 = bq at hn0
  go_upto_region 3 with (fail)
  have hbs : bs[q]? = some bq := by rw [List.getElem?_eq_getElem (by omega), ← hbq, List.getD_eq_getElem?_getD, List.getElem?_eq_getElem (by omega)]; rfl
  obtain ⟨hbase, ⟨xq, yq⟩, hxq, hnode⟩ := hT.node q bq hbs
  obtain ⟨f, hf⟩ := hT.fam
  have hRq := hy.Fam.row hf (q + 1) (xq, yq) hxq
  obtain ⟨Aq, cq, eq⟩ := Kd.R_slice hRq
  dsimp only at eq hnode
  subst eq
  have hyq := hK q _ hxq
  dsimp only at hyq
  have hnum : ∀ m, m < ps.length → w1.cell? ⟨bs.getD m 0, 0, none⟩ = some (.int .i64 (m : Int)) := by
    intro m hm
    obtain ⟨_, x, _, h3⟩ := hT.node m (bs.getD m 0) (by rw [List.getD_eq_getElem?_getD, List.getElem?_eq_getElem (by omega)]; rfl)
    exact (blk_cell h3 0).trans rfl
  have hown : ∀ g m, (Value.slice Aq yq.length cq).ownBlock = some g → m < ps.length → bs.getD m 0 ≠ g := by
    intro g m hg hm e
    obtain ⟨_, x, _, h3⟩ := hT.node m (bs.getD m 0) (by rw [List.getD_eq_getElem?_getD, List.getElem?_eq_getElem (by omega)]; rfl)
    rw [e] at h3
    exact Kd.R_ne hRq h3 (by decide) hg.symm
  have hownh : ∀ g, (Value.slice Aq yq.length cq).ownBlock = some g → w.heap.size + 1 ≠ g := fun g hg e => Kd.R_ne hRq (e ▸ hE1) (by decide) hg.symm
  have hdel := hy.deleteFunc 74 #[.pointer (some ⟨w.heap.size + 1, 0, none⟩)] (fun args w => enters_ Try.func74 rfl rfl args w) (fun x => decide (x = bs.getD hd 0)) yq (.slice Aq yq.length cq) _ (fun W => (∀ m, m < ps.length → W.cell? ⟨bs.getD m 0, 0, none⟩ = some (.int .i64 (m : Int))) ∧ W.cell? ⟨w.heap.size + 1, 0, none⟩ = some (.int .i64 (hd : Int))) w1 w3.heap.size
    (fun W W' h hb => ⟨fun m hm => pw_cell_below hb (h.1 m hm), pw_cell_below hb h.2⟩)
    (fun W g j u h hg => ⟨fun m hm => (hy.cell_far W ⟨g, j, none⟩ u _ (hown g m hg hm)).trans (h.1 m hm), (hy.cell_far W ⟨g, j, none⟩ u _ (hownh g hg)).trans h.2⟩)
    ⟨hnum, x1_⟩ (by rw [hyq, List.length_map]; have := hy.ch_len ps ps.length q; omega) hRq
    (fun W x hx hQ => by
      rw [hyq] at hx
      obtain ⟨m, hm, rfl⟩ := List.mem_map.1 hx
      have hml := hy.ch_lt ps ps.length q m hm
      have e : decide (bs.getD m 0 = bs.getD hd 0) = ((m : Int) == (hd : Int)) := hy.same_num hT.nd (by omega) (by omega)
      dsimp only
      rw [e]
      exact hy.eqn (bs.getD m 0) (w.heap.size + 1) (m : Int) (hd : Int) W (hQ.1 m hml) hQ.2)
  have hlt3 : w.heap.size + 1 + 1 < w3.heap.size := blk_lt HS.out
  have HK := Aside0.mk hK
  have HT := Aside0.mk hT
  have HDEL := Aside0.mk hdel
  clear hdel hK hyq hnum hown hownh x0_ x1_ hxc hn0
  have n0_ := (blk_cell hnode 1).trans rfl
  go_upto_region 4 with (first | (go_at_call 73; refine HDEL.out.mono ?_; rintro e w4 ⟨v4, rfl, ho4, hg4, _⟩; have HT5 := Aside0.mk (HT.out.child hf q bq (.slice Aq yq.length cq, yq) hbs hxq hg4 ho4); have HB4 := Aside0.mk (Below.grown hB1 hg4 hB1.size (fun k hk => Kd.R_base hRq k hk)); obtain ⟨A4, n4, c4, rfl⟩ : ∃ A n c, v4 = Value.slice A n c := (by obtain ⟨A, c, e⟩ := Kd.R_slice ho4; exact ⟨A, _, c, e⟩); have z4_ := (blk_cell (hy.stay hRq hg4 hnode) 1).trans rfl; have z5_ := blk_frozen (hy.stay hRq hg4 hnode) 1))
  have HB5 : Aside0 (Below w3.heap.size w3 (w4.setCell ⟨bq, 1, none⟩ (.slice A4 n4 c4))) := ⟨below_set HB4.out hbase⟩
  have hx5 : (ks.set q (.slice A4 n4 c4, yq.filter fun x => !decide (x = bs.getD hd 0)))[q]? = some (.slice A4 n4 c4, yq.filter fun x => !decide (x = bs.getD hd 0)) := List.getElem?_set_self (List.getElem?_eq_some_iff.1 hxq).1
  have HK5 : Aside0 (∀ j x, (ks.set q (.slice A4 n4 c4, yq.filter fun x => !decide (x = bs.getD hd 0)))[j]? = some x → x.2 = (if j = q then (hy.ch ps ps.length j).filter (fun m => !decide (m = hd)) else hy.ch ps ps.length j).map (fun m => bs.getD m 0)) := ⟨by
    intro j x hx
    by_cases e : j = q
    · subst e
      rw [hx5] at hx
      cases hx
      rw [if_pos rfl]
      dsimp only
      rw [hy.Kids.at HK.out hxq]
      exact hy.cut_row HT.out.nd (by omega) (by omega)
    · rw [List.getElem?_set_ne (Ne.symm e)] at hx
      rw [if_neg e]
      exact HK.out j x hx⟩
  generalize ks.set q (.slice A4 n4 c4, yq.filter fun x => !decide (x = bs.getD hd 0)) = ks5 at HT5 HK5 hx5
  generalize (w4.setCell ⟨bq, 1, none⟩ (.slice A4 n4 c4)) = w5 at HT5 HB5 ⊢
  clear z4_ z5_ ho4 hg4 hRq hnode n0_ HB4 hX1 hE1 hB1 HDEL hf HT
  have h5_ : w5.cell? ⟨bq, 0, none⟩ = some (.int .i64 (q : Int)) := by
    obtain ⟨_, x5, _, h3⟩ := HT5.out.node q bq hbs
    exact (blk_cell h3 0).trans rfl
  by_cases hq0 : 0 < q
  · have hgt : (0 : Int) < (q : Int) := by omega
    obtain ⟨a, ha⟩ := (⟨(ps.getD q 0).toNat, by have := hpos q hq0 hqn; omega⟩ : ∃ a : Nat, ps.getD q 0 = (a : Int))
    have haq := hps q hqn
    rw [ha] at haq
    have han : a < ps.length := by omega
    have hxa : ∃ b9, bs[a]? = some b9 := ⟨_, List.getElem?_eq_getElem (by omega)⟩
    obtain ⟨ba, hba⟩ := hxa
    have hbad : bs.getD a 0 = ba := by rw [List.getD_eq_getElem?_getD, hba]; rfl
    obtain ⟨_, ⟨xa, ya⟩, hxa, _⟩ := HT5.out.node a ba hba
    have hya := HK5.out a _ hxa
    rw [if_neg (by omega)] at hya
    dsimp only at hya
    have hyal : ya.length ≤ 40 := by
      rw [hya, List.length_map]
      have := hy.ch_len ps ps.length a
      omega
    have hp1 : w5.cell? ⟨w.heap.size, 0, none⟩ = some (.slice (some ac) ps.length c0) := (blk_cell (blk_below HX.out HB5.out) 0).trans rfl
    have hp2 : w5.cell? (ac.add q) = some (.int .i64 (a : Int)) := by
      obtain ⟨ac', e0, hxc⟩ := Kd.at_int (Kd.C_below HR.out (HB3.out.trans (HB5.out.mono HB3.out.size))) (q : Int) (by omega) (by omega)
      cases e0
      rw [Int.toNat_natCast, show rd ps (q : Int) = ps.getD q 0 by simp [rd], ha] at hxc
      exact hxc
    have hp3 : w5.cell? ⟨g1, a, none⟩ = some (.pointer (some ⟨ba, 0, none⟩)) := by
      obtain ⟨f9, hf9⟩ := HT5.out.fam
      rw [← hbad]
      exact (hy.elemP (hf9 0 _ rfl) a (by omega)).1
    have d0_ : ∀ n, (w5.drewN n).cell? ⟨bq, 0, none⟩ = some (.int .i64 (q : Int)) := fun _ => h5_
    have d1_ : ∀ n, (w5.drewN n).cell? ⟨w.heap.size, 0, none⟩ = some (.slice (some ac) ps.length c0) := fun _ => hp1
    have d2_ : ∀ n, (w5.drewN n).cell? (ac.add q) = some (.int .i64 (a : Int)) := fun _ => hp2
    have d3_ : ∀ n, (w5.drewN n).cell? ⟨g1, a, none⟩ = some (.pointer (some ⟨ba, 0, none⟩)) := fun _ => hp3
    have j4_ : (a : Int) < (ps.length : Int) := by omega
    go_upto_region 5 with (fail)
    go_quiet ((fail))
    go_wp2
    go_loopg [47] gr (fun gg s47 wr => ∃ (k : Nat) (va : Value), k ≤ gr ∧ gr - k ≤ gg ∧ s47 = .int .i64 (k : Int) ∧ Aside0 (hy.Tr wr w3.heap.size (.slice (some ⟨g1, 0, none⟩) ps.length c1) bs (ks5.set a (va, ya ++ List.replicate k bq))) ∧ Aside0 (Below w3.heap.size w3 wr))
    case atStart =>
      refine ⟨0, xa, Nat.zero_le _, by omega, rfl, ?_, ⟨pw_below_drewN HB5.out _⟩⟩
      have e : ks5.set a (xa, ya ++ List.replicate 0 bq) = ks5 := by
        rw [List.replicate_zero, List.append_nil]
        have h1 := (List.getElem?_eq_some_iff.1 hxa)
        obtain ⟨h1, h2⟩ := h1
        rw [← h2]
        exact List.set_getElem_self h1
      rw [e]
      exact ⟨HT5.out.below (pw_below_drewN (Below.refl _ _) _)⟩
    case round =>
      obtain ⟨k, va, hk, hgg, rfl, HTr, HBr⟩ := hrel
      by_cases hkl : k < gr
      · cases gk with
        | zero => omega
        | succ k1 =>
        obtain ⟨yk, hyk⟩ : ∃ yk, yk = ya ++ List.replicate k bq := ⟨_, rfl⟩
        rw [← hyk] at HTr
        have hltz : (k : Int) < (gr : Int) := by omega
        obtain ⟨hbase2, ⟨va', ya'⟩, hxr, hnr⟩ := HTr.out.node a ba hba
        have hxs := List.getElem?_set_self (a := (va, yk)) (List.getElem?_eq_some_iff.1 hxa).1
        rw [hxs] at hxr
        cases hxr
        obtain ⟨fr, hfr⟩ := HTr.out.fam
        have hRa := hy.Fam.row hfr (a + 1) (va, yk) hxs
        dsimp only at hnr
        obtain ⟨Aa, ca, ea⟩ := Kd.R_slice hRa
        dsimp only at ea
        subst ea
        have r1_ := (blk_cell hnr 1).trans rfl
        have hll : yk.length ≤ 200 := by rw [hyk, List.length_append, List.length_replicate]; omega
        have HYK := Aside0.mk hyk
        clear hyk
        go_wp2_with (first
          | ((with_reducible refine gate_builtin (b := .append) (xs := #[.tmp 53, .tmp 55]) rfl ?_); at_builtin; refine Kd.R_append hy.kp (w0 := w3) w3.heap.size rfl (.tmp 53) (.tmp 55) 76 78 (.pointer none) 8 rfl Try.underlying76 hy.info78 rfl (by decide) (by omega) (.slice Aa yk.length ca) yk bq [.pointer (some ⟨bq, 0, none⟩)] (fun k_ => (if wr.heap.size ≤ k_ then a + 1 else fr k_) = a + 1) (fun _ => False) rfl rfl ?aP (fun _ hk => hk.elim) ?aF hRa HBr.out HBr.out.size ?aL ?_; (case aP => exact rfl); (case aF => exact fun k hk => if_pos hk); (case aL => omega); intro v6 w6 ho hb6 hg6 hat; obtain ⟨A6, n6, c6, rfl⟩ : ∃ A n c, v6 = Value.slice A n c := (by obtain ⟨A, c, e⟩ := Kd.R_slice ho; exact ⟨A, _, c, e⟩); have HT6 := Aside0.mk (HTr.out.child hfr a ba _ hba hxs hg6 ho); have HB6 : Aside0 (Below w3.heap.size w3 (w6.setCell ⟨ba, 1, none⟩ (.slice A6 n6 c6))) := ⟨below_set hb6 hbase2⟩; have y0_ := (blk_cell (hy.stay hRa hg6 hnr) 1).trans rfl; have y1_ := blk_frozen (hy.stay hRa hg6 hnr) 1; clear ho hb6 hg6 hat r1_ hnr))
        go_roundg k1
        case measure => omega
        case rel =>
          refine ⟨k + 1, .slice A6 n6 c6, by omega, by omega, congrArg (Value.int .i64) (by omega), ⟨?_⟩, HB6⟩
          have h := HT6.out
          rw [HYK.out, List.set_set, List.append_assoc, show List.replicate k bq ++ [bq] = List.replicate (k + 1) bq from List.replicate_succ'.symm] at h
          exact h
      · have hltz : ¬ (k : Int) < (gr : Int) := by omega
        obtain rfl : k = gr := by omega
        have hKF : ∀ j x, (ks5.set a (va, ya ++ List.replicate k bq))[j]? = some x → x.2 = (hy.D ps hd k j).map (fun m => bs.getD m 0) := by
          intro j x hx
          rw [hy.D, hq, Int.toNat_natCast, ha, Int.toNat_natCast]
          by_cases e : j = a
          · rw [e] at hx ⊢
            rw [List.getElem?_set_self (List.getElem?_eq_some_iff.1 hxa).1] at hx
            cases hx
            rw [if_neg (c := a = q) (by omega), if_pos (c := 0 < q ∧ a = a) ⟨hq0, rfl⟩, List.map_append, ← hya, List.map_replicate, hbq]
          · rw [List.getElem?_set_ne (Ne.symm e)] at hx
            rw [HK5.out j x hx, if_neg (c := 0 < q ∧ j = a) (fun e2 => e e2.2), List.append_nil]
        have hn00 : wr.cell? ⟨g1, 0, none⟩ = some (.pointer (some ⟨bs.getD 0 0, 0, none⟩)) := by
          obtain ⟨f9, hf9⟩ := HTr.out.fam
          exact (hy.elemP (hf9 0 _ rfl) 0 (by omega)).1
        have hcall := hy.hydraOf w3 _ bs (ks5.set a (va, ya ++ List.replicate k bq)) (hy.D ps hd k) HDD.out HDL.out hKF (by omega) wr HTr.out HBr.out
        rw [hbl, ← HWK.out, HRL.out] at hcall
        have HCALL := Aside0.mk hcall
        clear hcall
        have j3_ : (0 : Int) < (ps.length : Int) := by omega
        go_wp2_with (first | (go_at_call 75; refine HCALL.out.mono ?_; rintro e w7 ⟨v7, rfl, hR7, hB7⟩; have HR7 := Aside0.mk hR7; have HB7 := Aside0.mk hB7; have s7 := blk_below HS.out hB7; have c1_ := (blk_cell s7 0).trans rfl; have c2_ := blk_frozen s7 0; obtain ⟨A7, n7, c7, rfl⟩ : ∃ A n c, v7 = Value.slice A n c := (by obtain ⟨A, c, e⟩ := Kd.R_slice hR7; exact ⟨A, _, c, e⟩); have S7 := Aside0.mk s7; clear hR7 hB7 s7))
        refine bodyPost_ret (results_list (rs := [.cell 6 43, .tmp 7]) rfl (by simp) (.cell _ 43 #[.slice A7 n7 c7] (0, 0) _ rfl (blk_put S7.out 0 _ rfl) Try.underlying43 rfl hy.info43 (.tmp .nil))) rfl ?_
        refine ⟨_, rfl, ?_, below_set (HB3.out.trans (HB7.out.mono HB3.out.size)) (by omega)⟩
        have h9 := Kd.R_lower (hy.far43 HR7.out S7.out (.slice A7 n7 c7)) HB3.out.size
        exact h9
  · have hgt : ¬ (0 : Int) < (q : Int) := by omega
    have hKF : ∀ j x, ks5[j]? = some x → x.2 = (hy.D ps hd gr j).map (fun m => bs.getD m 0) := by
      intro j x hx
      rw [HK5.out j x hx, hy.D, hq, Int.toNat_natCast, if_neg (c := 0 < q ∧ j = (ps.getD q 0).toNat) (fun e => hq0 e.1), List.append_nil]
    have hn00 : w5.cell? ⟨g1, 0, none⟩ = some (.pointer (some ⟨bs.getD 0 0, 0, none⟩)) := by
      obtain ⟨f9, hf9⟩ := HT5.out.fam
      exact (hy.elemP (hf9 0 _ rfl) 0 (by omega)).1
    have hcall := hy.hydraOf w3 _ bs ks5 (hy.D ps hd gr) HDD.out HDL.out hKF (by omega) w5 HT5.out HB5.out
    rw [hbl, ← HWK.out, HRL.out] at hcall
    have HCALL := Aside0.mk hcall
    clear hcall
    have j3_ : (0 : Int) < (ps.length : Int) := by omega
    go_wp2_with (first | (go_at_call 75; refine HCALL.out.mono ?_; rintro e w7 ⟨v7, rfl, hR7, hB7⟩; have HR7 := Aside0.mk hR7; have HB7 := Aside0.mk hB7; have s7 := blk_below HS.out hB7; have c1_ := (blk_cell s7 0).trans rfl; have c2_ := blk_frozen s7 0; obtain ⟨A7, n7, c7, rfl⟩ : ∃ A n c, v7 = Value.slice A n c := (by obtain ⟨A, c, e⟩ := Kd.R_slice hR7; exact ⟨A, _, c, e⟩); have S7 := Aside0.mk s7; clear hR7 hB7 s7))
    refine bodyPost_ret (results_list (rs := [.cell 6 43, .tmp 7]) rfl (by simp) (.cell _ 43 #[.slice A7 n7 c7] (0, 0) _ rfl (blk_put S7.out 0 _ rfl) Try.underlying43 rfl hy.info43 (.tmp .nil))) rfl ?_
    refine ⟨_, rfl, ?_, below_set (HB3.out.trans (HB7.out.mono HB3.out.size)) (by omega)⟩
    have h9 := Kd.R_lower (hy.far43 HR7.out S7.out (.slice A7 n7 c7)) HB3.out.size
    exact h9
/-- A hydra as chop is handed it. -/
def hy.Fit (l : List Int) (h g : Int) : Prop := l.length ≤ 40 ∧ (∀ i, i < l.length → l.getD i 0 < (i : Int) ∧ (0 < i → 0 ≤ l.getD i 0)) ∧ 0 < h ∧ h < (l.length : Int) ∧ 0 ≤ g ∧ g ≤ 99
instance (l : List Int) (h g : Int) : Decidable (hy.Fit l h g) := inferInstanceAs (Decidable (_ ∧ _))
def hy.cut (l : List Int) (h g : Int) : List Int × Bool := hy.wk (hy.D l h.toNat g.toNat) l.length [] 0 (-1)
def impl_chop.f (k : Nat) (l0_0 : List Int) (a1 : Int) (a2 : Int) : Option (List Int × Bool) := if hy.Fit l0_0 a1 a2 then some (if (hy.cut l0_0 a1 a2).2 = true then (hy.cut l0_0 a1 a2).1 else [], (hy.cut l0_0 a1 a2).2) else none
theorem impl_chop.mono : ∀ a0 a1 a2 k, LeO (impl_chop.f k a0 a1 a2) (impl_chop.f (k + 1) a0 a1 a2) := fun _ _ _ _ => LeO.refl _
theorem impl_chop.calls (k : Nat) (A0_0 : Option Addr) (c0_0 : Nat) (l0_0 : List Int) (a1 : Int) (a2 : Int) (r1 : List Int) (r2 : Bool) (w : World) (hr0_0 : Kd.C (Kd.int .i64) w A0_0 l0_0.length l0_0) (hc0_0 : l0_0.length ≤ c0_0) (h : impl_chop.f k l0_0 a1 a2 = some (r1, r2)) :
    Calls Try.prog 58 #[.agg #[.slice A0_0 l0_0.length c0_0], .int .i64 a1, .int .i64 a2] w fun e w' => ∃ v0_ : Value, e = .returned (.tuple #[.agg #[v0_], .bool r2]) ∧ Kd.R (Kd.int .i64) 3 w' w.heap.size (fun _ => True) v0_ r1 ∧ Below w.heap.size w w' := by
  unfold impl_chop.f at h
  by_cases hc : hy.Fit l0_0 a1 a2
  · rw [if_pos hc] at h
    obtain ⟨h40, hps, h0, h1, h2, h3⟩ := hc
    simp only [Option.some.injEq, Prod.mk.injEq] at h
    obtain ⟨rfl, rfl⟩ := h
    have e1 : ((a1.toNat : Nat) : Int) = a1 := Int.toNat_of_nonneg (by omega)
    have e2 : ((a2.toNat : Nat) : Int) = a2 := Int.toNat_of_nonneg h2
    have := hy.chop l0_0 a1.toNat a2.toNat A0_0 c0_0 w hr0_0 hc0_0 h40 (fun i hi => (hps i hi).1) (fun i h5 hi => (hps i hi).2 h5) (by omega) (by omega) (by omega)
    rw [e1, e2] at this
    exact this
  · rw [if_neg hc] at h
    cases h

end Go.Proofs.Ytgjpfhedhehmdaa.QFnExactPlayHydra
