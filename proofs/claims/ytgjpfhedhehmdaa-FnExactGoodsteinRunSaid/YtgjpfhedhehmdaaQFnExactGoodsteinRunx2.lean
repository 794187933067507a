/- The Go functions that the law FnExactGoodsteinRun reaches, as Lean functions, and what their calls do. Written by a program of this session. -/
import Derived.Test.YtgjpfhedhehmdaaQFnExactGoodsteinRunx0
namespace Go.Proofs.Ytgjpfhedhehmdaa.QFnExactGoodsteinRun
open Go.RowKit Go.Proofs.YtgjpfhedhehmdaaW.PrintWords Go.Proofs.YtgjpfhedhehmdaaW.PrintLast Go.Proofs.YtgjpfhedhehmdaaW.PrintMore
attribute [local go_sem] max2_int min2_int max_two min_two max_three min_three max_four min_four   -- for this text's walks alone
set_option linter.unusedVariables false
set_option linter.unusedSimpArgs false

/-! ### spec_deForm: function 67 -/
open Go.Shelf
attribute [local go_sem] Oper.semAt_some
/-! #### slices.Backward over a row of numbers -/
def rb.come (zs : List Int) (r : Nat) : List (Fin zs.length) := ((List.finRange zs.length).drop r).reverse
theorem rb.come_step (zs : List Int) (m : Nat) (h : m < zs.length) : rb.come zs m = rb.come zs (m + 1) ++ [⟨m, h⟩] := by
  unfold rb.come
  rw [List.drop_eq_getElem_cons (by rw [List.length_finRange]; exact h), List.reverse_cons, List.getElem_finRange]
  rfl
theorem rb.come_len (zs : List Int) (r : Nat) : (rb.come zs r).length = zs.length - r := by simp [rb.come]
theorem rb.come_top (zs : List Int) : rb.come zs zs.length = [] := by
  unfold rb.come
  rw [List.drop_of_length_le (by rw [List.length_finRange]; exact Nat.le_refl _)]
  rfl
def rb.dig (zs : List Int) (x : Fin zs.length) : Int := zs[x.1]?.getD 0
def rb.encs (zs : List Int) (x : Fin zs.length) : Array Value := #[.int .i64 (x.1 : Int), .int .i64 (rb.dig zs x)]
set_option maxRecDepth 100000 in
set_option maxHeartbeats 2000000 in
theorem rb.back1 (n : Nat) (hn : 1 ≤ n) (l Bs b off cap : Nat) (zs : List Int) (hreach : zs.length * 8 ≤ 140737488351232) (J Jx : List (Fin zs.length) → World → Prop)
    (hY : ∀ pre x W, J pre W → pre.length < zs.length → YieldAt Fence.wide (n - 1) Try.prog l (rb.encs zs x) W fun e W' =>
      (e = .returned (.bool true) ∧ J (pre ++ [x]) W' ∧ Rf.Kp Bs b W W') ∨ (e = .returned (.bool false) ∧ Jx (pre ++ [x]) W'))
    (W : World) (hBs : W.cell? ⟨Bs, 0, none⟩ = some (.slice (some ⟨b, off, none⟩) zs.length cap)) (hc : ∀ j (h : j < zs.length), W.cell? ⟨b, off + j, none⟩ = some (.int .i64 (rb.dig zs ⟨j, h⟩))) (h0 : J [] W) :
    CallsIn Fence.wide n Try.prog 78 #[.func (.yield l) #[] #[], .pointer (some ⟨Bs, 0, none⟩)] W fun e W' => (∃ v, e = .returned v) ∧
      ((∃ ys, ys = rb.come zs 0 ∧ J ys W') ∨ (∃ pre, True ∧ Jx pre W')) := by
  refine callsIn_of_wp Try.func78 rfl trivial ?_ rfl
  simp only [Try.ntmps78, List.size_toArray, List.length_cons, List.length_nil, Nat.reduceAdd, Nat.reduceSub, Array.replicate_succ, Array.replicate_zero, List.push_toArray, List.append_toArray, List.nil_append, List.cons_append]
  have hw0 : wrap64 ((zs.length : Int) - 1) = (zs.length : Int) - 1 := by unfold wrap64; omega
  gi_wp2
  gi_loopw [3] (fun i wr => ∃ r : Nat, r ≤ zs.length ∧ i = .int .i64 ((r : Int) - 1) ∧ J (rb.come zs r) wr ∧ Rf.Kp Bs b W wr)
    (fun i _ => (intOf i + 1).toNat)
  case atStart => exact ⟨zs.length, Nat.le_refl _, by first | rfl | rw [hw0], by rw [rb.come_top]; exact h0, rfl, rfl⟩
  case round =>
    obtain ⟨r, hr, rfl, hJs, hk1, hk2⟩ := hrel
    have hBr : wr.cell? ⟨Bs, 0, none⟩ = some (.slice (some ⟨b, off, none⟩) zs.length cap) := by rw [← hBs]; unfold World.cell?; rw [hk1]
    cases r with
    | zero =>
      have e : (((0 : Nat) : Int) - 1) = -1 := rfl
      rw [e]
      gi_wp2
      go_end0
      exact ⟨⟨_, rfl⟩, .inl ⟨_, rfl, hJs⟩⟩
    | succ m =>
      have e : (((m + 1 : Nat) : Int) - 1) = (m : Int) := by omega
      rw [e]
      have hcx : wr.cell? ⟨b, off + m, none⟩ = some (.int .i64 (rb.dig zs ⟨m, by omega⟩)) := by rw [← hc m (by omega)]; unfold World.cell?; rw [hk2]
      have hge : decide ((0 : Int) ≤ (m : Int)) = true := decide_eq_true (by omega)
      have hlt : (m : Int) < (zs.length : Int) := by omega
      obtain ⟨fn, tmps, assign, body, hy, hR⟩ := hY _ ⟨m, by omega⟩ wr hJs (by rw [rb.come_len]; omega)
      dsimp only [rb.encs] at hy
      gi_wp2
      refine hR.mono ?_
      rintro e W3 (⟨rfl, hJ3, hk3⟩ | ⟨rfl, hJx3⟩)
      · have hw1 : wrap64 ((m : Int) - 1) = (m : Int) - 1 := by unfold wrap64; omega
        gi_wp2
        go_roundw
        case rel => exact ⟨m, by clear hw1; omega, by first | rfl | rw [hw1], by rw [rb.come_step zs m (by clear hw1; omega)]; exact hJ3, (show Rf.Kp Bs b W wr from ⟨hk1, hk2⟩).t hk3⟩
        case measure => first | (simp [intOf]; done) | (simp [intOf]; rw [hw1]; clear hw1; omega)
      · gi_wp2
        refine bodyPost_ret (results_none rfl _ _ _) rfl ?_
        exact ⟨⟨_, rfl⟩, .inr ⟨_, trivial, hJx3⟩⟩
/-- slices.Backward(s): the row is boxed, the function's value holds the box. -/
theorem rb.back (A : Option Addr) (len cap : Nat) (w : World) : Calls Try.prog 68 #[.slice A len cap] w fun e w' => e = .returned (.func (.func 78) #[] #[.pointer (some ⟨w.heap.size, 0, none⟩)]) ∧ w' = w.alloc (.cells #[.slice A len cap] 33) := by
  go_enter Try.func68, Try.ntmps68
  go_wp2
  go_ret
  exact ⟨rfl, rfl⟩
set_option maxRecDepth 100000 in
set_option maxHeartbeats 1000000 in
theorem rb.back0 (n : Nat) (l Bs : Nat) (A : Option Addr) (c : Nat) {α : Type} (J : List α → World → Prop) (W : World) (hBs : W.cell? ⟨Bs, 0, none⟩ = some (.slice A 0 c)) (h0 : J [] W) :
    CallsIn Fence.wide n Try.prog 78 #[.func (.yield l) #[] #[], .pointer (some ⟨Bs, 0, none⟩)] W fun e W' => (∃ v, e = .returned v) ∧ J [] W' := by
  refine callsIn_of_wp Try.func78 rfl trivial ?_ rfl
  simp only [Try.ntmps78, List.size_toArray, List.length_cons, List.length_nil, Nat.reduceAdd, Nat.reduceSub, Array.replicate_succ, Array.replicate_zero, List.push_toArray, List.append_toArray, List.nil_append, List.cons_append]
  gi_wp2
  gi_loopw [3] (fun i wr => i = .int .i64 (-1) ∧ J [] wr) (fun _ _ => 0)
  case atStart => exact ⟨rfl, h0⟩
  case round =>
    obtain ⟨rfl, hJs⟩ := hrel
    gi_wp2
    go_end0
    exact ⟨⟨_, rfl⟩, hJs⟩
theorem rb.stops (n : Nat) (hn : 1 ≤ n) (Bs b off cap : Nat) (zs : List Int) (hreach : zs.length * 8 ≤ 140737488351232) (w : World) (hlt : Bs < w.heap.size) (hltb : b < w.heap.size)
    (hBs : w.cell? ⟨Bs, 0, none⟩ = some (.slice (some ⟨b, off, none⟩) zs.length cap)) (hc : ∀ j (h : j < zs.length), w.cell? ⟨b, off + j, none⟩ = some (.int .i64 (rb.dig zs ⟨j, h⟩))) :
    SeqStopsK Fence.wide n Try.prog 78 #[.pointer (some ⟨Bs, 0, none⟩)] (rb.encs zs) (Rf.Kp Bs b) (fun ys => ys = rb.come zs 0) (fun _ => True) zs.length w := fun l J Jx W hW _ _ hY h0 =>
  rb.back1 n hn l Bs b off cap zs hreach J Jx hY W ((hW.cell (p := ⟨Bs, 0, none⟩) hlt).trans hBs) (fun j hj => (hW.cell (p := ⟨b, off + j, none⟩) hltb).trans (hc j hj)) h0
/-! #### hereditary: the digits, from the last one down; each exponent by the same again -/
def he.digs : Nat → Int → Int → List Int
  | 0, _, _ => []
  | k + 1, b, n => if n > 0 then n % b :: he.digs k b (n / b) else []
def he.add (h : Int → List S69) (zs : List Int) (acc : List S69) (x : Fin zs.length) : List S69 := if rb.dig zs x > 0 then acc ++ [⟨⟨h (x.1 : Int)⟩, rb.dig zs x⟩] else acc
def he.f : Nat → Int → Int → List S69
  | 0, _, _ => []
  | N + 1, b, n => (rb.come (he.digs 64 b n) 0).foldl (he.add (he.f N b) (he.digs 64 b n)) []
theorem he.step {k : Nat} {b n : Int} (hb : 2 ≤ b) (h0 : 0 < n) (h : n < 2 ^ (k + 1)) : 0 ≤ n / b ∧ n / b < 2 ^ k ∧ n / b < n := by
  have h2 : 0 ≤ n / b := Int.ediv_nonneg (by omega) (by omega)
  have h3 : b * (n / b) ≤ n := Int.mul_ediv_self_le (by omega)
  have h4 : 2 * (n / b) ≤ b * (n / b) := Int.mul_le_mul_of_nonneg_right hb h2
  have e : (2 : Int) ^ (k + 1) = 2 * 2 ^ k := by rw [Int.pow_succ]; omega
  exact ⟨h2, by omega, by omega⟩
theorem he.digs_len {b : Int} (hb : 2 ≤ b) : ∀ (k : Nat) (n : Int), 0 ≤ n → n < 2 ^ k → ((he.digs k b n).length : Int) ≤ n
  | 0, n, h0, h => by simp only [he.digs, List.length_nil]; omega
  | k + 1, n, h0, h => by
    unfold he.digs
    by_cases hn : n > 0
    · rw [if_pos hn, List.length_cons]
      obtain ⟨a1, a2, a3⟩ := he.step hb hn h
      have := he.digs_len hb k (n / b) a1 a2
      omega
    · rw [if_neg hn, List.length_nil]
      omega
theorem he.digs_k {b : Int} : ∀ (k : Nat) (n : Int), (he.digs k b n).length ≤ k
  | 0, n => by simp [he.digs]
  | k + 1, n => by
    unfold he.digs
    split
    · rw [List.length_cons]; have := he.digs_k (b := b) k (n / b); omega
    · simp
theorem he.empty {w : World} {base g : Nat} {ok : Nat → Prop} (h : w.heap[g]? = some (.cells #[] 3 (0, 0))) (hb : base ≤ g) (hok : ok g) : Kd.R (Kd.int .i64) 3 w base ok (.slice (some ⟨g, 0, none⟩) 0 0) [] :=
  ⟨fun k hk => by have e : g = k := by simpa [Value.ownBlock] using hk
                  exact e ▸ hok, [], ⟨rfl, .inr ⟨g, 0, #[], rfl, hb, h, Nat.le_refl _, Nat.zero_le _, rfl, rfl⟩⟩, rfl, fun j p hj => by cases hj⟩
theorem he.info69 : (Try.prog.info? 69).map (fun i => (i.zero, i.size, i.bytes)) = some (some (.agg #[(.slice none 0 0), (.int .i64 0)]), 2, 32) := by kernel_rfl
theorem he.info3 : (Try.prog.info? 3).map (fun i => (i.zero, i.size, i.bytes)) = some (some (.int .i64 0), 1, 8) := by kernel_rfl
theorem he.seq (zs : List Int) (A : Option Addr) (c base sB : Nat) (ok : Nat → Prop) (w : World) (hs : w.heap[sB]? = some (.cells #[.slice A zs.length c] 33 (0, 0))) (hR : Kd.R (Kd.int .i64) 3 w base ok (.slice A zs.length c) zs) (hl : zs.length ≤ 64) :
    ∃ dB ds t, t ≠ 69 ∧ t ≠ 24 ∧ w.heap[dB]? = some (.cells ds t (0, 0)) ∧ SeqStopsK Fence.wide 2 Try.prog 78 #[.pointer (some ⟨sB, 0, none⟩)] (rb.encs zs) (Rf.Kp sB dB) (fun ys => ys = rb.come zs 0) (fun _ => True) zs.length w := by
  have hsc := (blk_cell hs 0).trans rfl
  by_cases hz : zs.length = 0
  · have hz' : zs = [] := List.eq_nil_of_length_eq_zero hz
    subst hz'
    refine ⟨sB, _, 33, by decide, by decide, hs, fun l J Jx W hW _ _ _ h0 => ?_⟩
    exact (rb.back0 2 l sB A c J W ((hW.cell (p := ⟨sB, 0, none⟩) (blk_lt hs)).trans hsc) h0).mono fun e W' ⟨he, hj⟩ => ⟨he, .inl ⟨_, rfl, hj⟩⟩
  · obtain ⟨g, cap, e, hbg, hgl, ds, hds⟩ := Kd.R_form hR (by omega)
    injection e with e1 e2 e3
    subst e1 e3
    refine ⟨g, ds, 3, by decide, by decide, hds, rb.stops 2 (by omega) sB g 0 c zs (by omega) w (blk_lt hs) hgl hsc (fun j hj => ?_)⟩
    obtain ⟨ad, e0, hx⟩ := Kd.at_int (Kd.R_reads' hR).2.2 (j : Int) (by omega) (by omega)
    cases e0
    rw [Int.toNat_natCast] at hx
    have hrd : rd zs (j : Int) = zs[j]?.getD 0 := by simp [rd, List.getD_eq_getElem?_getD]
    rw [hrd] at hx
    rw [← add_plain, Nat.zero_add]
    exact hx
/-- What the round knows, and keeps, but for the row that it makes. -/
structure he.J (w : World) (b : Int) (ob sB dB : Nat) (so d : Obj) (v : Value) (W : World) : Prop where
  o : W.heap[ob]? = some (.cells #[v] 24 (0, 0))
  b : W.heap[w.heap.size]? = some (.cells #[.int .i64 b] 3 (0, 0))
  c : W.heap[w.heap.size + 1]? = some (.cells #[.slice none 0 0] 24 (0, 0))
  s : W.heap[sB]? = some so
  d : W.heap[dB]? = some d
  B : Below w.heap.size w W
theorem he.J.grown {w : World} {b : Int} {ob sB dB : Nat} {so d : Obj} {v : Value} {W W' : World} {row : Option Nat} (h : he.J w b ob sB dB so d v W) (hg : W.grownBy W' row) (hrow : ∀ r, row = some r → w.heap.size ≤ r ∧ r ≠ ob ∧ r ≠ w.heap.size ∧ r ≠ w.heap.size + 1 ∧ r ≠ sB ∧ r ≠ dB) : he.J w b ob sB dB so d v W' :=
  ⟨blk_grown h.o hg (fun e => (hrow _ e.symm).2.1 rfl), blk_grown h.b hg (fun e => (hrow _ e.symm).2.2.1 rfl), blk_grown h.c hg (fun e => (hrow _ e.symm).2.2.2.1 rfl), blk_grown h.s hg (fun e => (hrow _ e.symm).2.2.2.2.1 rfl), blk_grown h.d hg (fun e => (hrow _ e.symm).2.2.2.2.2 rfl), h.B.grown hg h.B.size (fun k e => (hrow k e).1)⟩
theorem he.J.below {w : World} {b : Int} {ob sB dB : Nat} {so d : Obj} {v : Value} {W W' : World} (h : he.J w b ob sB dB so d v W) (hb : Below W.heap.size W W') : he.J w b ob sB dB so d v W' :=
  h.grown (grown_of_below hb none) (fun r e => by cases e)
theorem he.grown_set (w : World) (p : Addr) (u : Value) : w.grownBy (w.setCell p u) (some p.block) := ⟨rfl, rfl, rfl, by simp [World.setCell], fun k _ hk => Below.heap_setCell w p u k (fun e => hk (by rw [e]))⟩
theorem he.J.row {w : World} {b : Int} {ob sB dB : Nat} {cs ds : Array Value} {t : Nat} {v : Value} {W : World} {u : Value} {xs : List S69} {ok : Nat → Prop} (h : he.J w b ob sB dB (.cells cs 33 (0, 0)) (.cells ds t (0, 0)) v W) (ht : t ≠ 69) (hr : Kd.R k69 69 W w.heap.size ok u xs) : ∀ r, u.ownBlock = some r → w.heap.size ≤ r ∧ r ≠ ob ∧ r ≠ w.heap.size ∧ r ≠ w.heap.size + 1 ∧ r ≠ sB ∧ r ≠ dB := fun r e => by
  have ne : ∀ {k : Nat} {cells : Array Value} {q : Nat}, W.heap[k]? = some (.cells cells q (0, 0)) → 69 ≠ q → r ≠ k := fun hk hq e2 => Kd.R_ne hr hk hq (by rw [e, e2])
  exact ⟨Kd.R_base hr r e, ne h.o (by decide), ne h.b (by decide), ne h.c (by decide), ne h.s (by decide), ne h.d ht.symm⟩
theorem he.J.seto {w : World} {b : Int} {ob sB dB : Nat} {so d : Obj} {v : Value} {W : World} (h : he.J w b ob sB dB so d v W) (u : Value) (hob : w.heap.size ≤ ob) (h1 : ob ≠ w.heap.size) (h2 : ob ≠ w.heap.size + 1) (h3 : ob ≠ sB) (h4 : ob ≠ dB) : he.J w b ob sB dB so d u (W.setCell ⟨ob, 0, none⟩ u) := by
  have hg := he.grown_set W ⟨ob, 0, none⟩ u
  have ne : ∀ {k : Nat}, ob ≠ k → some k ≠ some (⟨ob, 0, none⟩ : Addr).block := fun hk e => hk (Option.some.inj e).symm
  exact ⟨blk_put h.o 0 _ rfl, blk_grown h.b hg (ne h1), blk_grown h.c hg (ne h2), blk_grown h.s hg (ne h3), blk_grown h.d hg (ne h4), h.B.grown hg h.B.size (fun k e => by cases e; exact hob)⟩
def he.I (w : World) (b : Int) (ob sB dB : Nat) (so d : Obj) (xs : List S69) (v : Value) (W : World) : Prop := he.J w b ob sB dB so d v W ∧ Kd.R k69 69 W w.heap.size (fun _ => True) v xs
theorem he.I.from {w : World} {b : Int} {ob sB dB : Nat} {so d : Obj} {ds cs : Array Value} {t u : Nat} {β : Type} {G : List β → List S69} (hd : d = .cells ds t (0, 0)) (hs : so = .cells cs u (0, 0)) (N : Nat) (hN : w.heap.size ≤ N) : OwnFrom N (fun (pre : List β) W => ∃ v, he.I w b ob sB dB so d (G pre) v W) := by
  intro pre W W' row ⟨v, h, hR⟩ hg hr
  have hne : ∀ r k cs t, row = some r → W.heap[k]? = some (.cells cs t (0, 0)) → r ≠ k := by
    rintro r k cs t e hk rfl
    obtain ⟨_, o, ho, hc⟩ := hr _ e
    rw [ho] at hk
    cases hk
    cases hc
  refine ⟨v, h.grown hg (fun r e => ⟨Nat.le_trans hN (hr r e).1, hne r _ _ _ e h.o, hne r _ _ _ e h.b, hne r _ _ _ e h.c, hne r _ _ _ e (hs ▸ h.s), hne r _ _ _ e (hd ▸ h.d)⟩), ?_⟩
  refine Kd.R_mono (Kd.R_step (Kd.R_bound hR) (fun k hk hlt => hg.block k hlt (fun e => ?_))) (fun _ _ => trivial)
  obtain ⟨_, _, _, q, hq, cs, hc⟩ := hk
  exact hne k k _ _ e.symm hc rfl
theorem he.keeps {W W' : World} (h : Below W.heap.size W W') : KeepsOthers W W' := ⟨h.size, fun k o hk _ => (h.block k (blk_lt hk)).trans hk⟩
theorem he.keeps_row {W W' : World} {v : Value} {xs : List S69} {base : Nat} {ok : Nat → Prop} (hr : Kd.R k69 69 W base ok v xs) (h : W.grownBy W' v.ownBlock) : KeepsOthers W W' := KeepsOthers.of_grownBy h (fun j o e hj => by
  obtain ⟨cs, hc⟩ := Kd.R_typed hr j e
  rw [hc] at hj
  cases hj
  rfl)
/-- The element that was appended as nothing: its cells. -/
theorem he.elem {W : World} {base g c : Nat} {acc : List S69} (hR : Kd.R k69 69 W base (fun _ => True) (.slice (some ⟨g, 0, none⟩) (acc.length + 1) c) (acc ++ [z69])) :
    ∃ v0, W.cell? ⟨g, acc.length * 2, none⟩ = some v0 ∧ W.cell? ⟨g, acc.length * 2 + 1, none⟩ = some (.int .i64 0) ∧ W.frozen? ⟨g, acc.length * 2, none⟩ = false ∧ W.frozen? ⟨g, acc.length * 2 + 1, none⟩ = false := by
  obtain ⟨cs, hcl, hM, hcc, hfr⟩ := Kd.R_elem hR z69 (acc.length : Int) (by omega) (by omega)
  have e : (acc ++ [z69]).getD ((acc.length : Int).toNat) z69 = z69 := by simp
  rw [e] at hM
  obtain ⟨v0, rfl, _⟩ := k69_openM hM
  exact ⟨v0, hcc 0 _ rfl, hcc 1 _ rfl, hfr 0, hfr 1⟩
theorem he.put {W : World} {base g c : Nat} {acc l : List S69} {vi : Value} (hR : Kd.R k69 69 W base (fun _ => True) (.slice (some ⟨g, 0, none⟩) (acc.length + 1) c) (acc ++ [z69])) (hri : Kd.R k69 69 W base (fun k => k ≠ g) vi l) (d : Int) :
    Kd.R k69 69 (W.setCells g (acc.length * 2) [vi, .int .i64 d]) base (fun _ => True) (.slice (some ⟨g, 0, none⟩) (acc.length + 1) c) (acc ++ [⟨⟨l⟩, d⟩]) ∧ W.grownBy (W.setCells g (acc.length * 2) [vi, .int .i64 d]) (some g) := by
  obtain ⟨cs, hcl, hM, hcc, hfr⟩ := Kd.R_elem hR z69 (acc.length : Int) (by omega) (by omega)
  have e : (acc ++ [z69]).getD ((acc.length : Int).toNat) z69 = z69 := by simp
  rw [e] at hM
  obtain ⟨v0, rfl, _⟩ := k69_openM hM
  have h := Kd.R_seg hR (acc.length : Int) (by omega) (by omega) (c := [v0, .int .i64 z69.f1]) (seg := [vi, .int .i64 d]) (j := 0) (x' := (⟨⟨l⟩, d⟩ : S69)) (okp := fun k => k ≠ g) rfl hcc (Nat.le_refl 2) (k69_mkM W base _ (⟨⟨l⟩, d⟩ : S69) hri) (fun k hk => ⟨trivial, hk⟩)
  have e2 : (acc ++ [z69]).set ((acc.length : Int).toNat) (⟨⟨l⟩, d⟩ : S69) = acc ++ [⟨⟨l⟩, d⟩] := by simp
  rw [e2] at h
  exact h
/-- What the inner call has made is elsewhere. -/
theorem he.inner {Wc W2 Wa W9 : World} {base g : Nat} {vi v v1 : Value} {l : List S69} (h : Kd.R k69 69 W2 Wc.heap.size (fun _ => True) vi l) (hda : Below W2.heap.size W2 Wa) (hg : Wa.grownBy W9 v.ownBlock) (hlt : ∀ k, v.ownBlock = some k → k < Wc.heap.size) (hat : v1.ownBlock = v.ownBlock ∨ ∃ b, v1.ownBlock = some b ∧ Wa.heap.size ≤ b) (hg1 : v1.ownBlock = some g) (hbase : base ≤ Wc.heap.size) : Kd.R k69 69 W9 base (fun k => k ≠ g) vi l := by
  have h1 := Kd.R_bound h
  have h2 := Kd.R_step h1 (w1 := W9) (fun k hk hlt2 => (hg.block k (Nat.lt_of_lt_of_le hlt2 hda.size) (fun e => by have := hlt k e.symm; have := hk.2.1; omega)).trans (hda.block k hlt2))
  refine Kd.R_mono (Kd.R_lower h2 hbase) (fun k hk e => ?_)
  subst e
  rcases hat with hat | ⟨b, hb, hle⟩
  · have := hlt k (hat.symm.trans hg1)
    have := hk.2.1
    omega
  · rw [hg1] at hb
    injection hb with hb
    have := hda.size
    have := hk.2.2.1
    omega
theorem he.one_row {W : World} {g : Nat} (h : W.heap[g]? = some (.cells #[.slice none 0 0, .int .i64 0] 69 (0, 0))) : ReadsRow (fun (p : S69) cs => p = z69 ∧ cs = [.slice none 0 0, .int .i64 0]) 2 W (some ⟨g, 0, none⟩) 1 [z69] := by
  refine ⟨rfl, by decide, fun _ => ⟨⟨g, 0, none⟩, rfl, fun j p hj => ?_⟩⟩
  cases j with
  | zero =>
    obtain rfl : z69 = p := by simpa using hj
    refine ⟨[.slice none 0 0, .int .i64 0], rfl, ⟨rfl, rfl⟩, fun i u hu => ?_⟩
    rw [add_at]
    have hc := blk_cell h i
    simp only [Nat.zero_add, Nat.zero_mul]
    rw [hc]
    simpa using hu
  | succ j => simp at hj
theorem he.farD {W : World} {D base : Nat} {o o' : Obj} {u : Value} {l : List S69} {ok : Nat → Prop} (ho : W.heap[D]? = some o) (hn : o.isCells = false) (h : Kd.R k69 69 W base ok u l) : Kd.R k69 69 (W.putObj D o') base ok u l := by
  refine Kd.R_mono (Kd.R_step (Kd.R_bound h) (fun k hk hlt => Rf.putObj_ne W D o' k (fun e => ?_))) (fun _ hk => hk.1)
  obtain ⟨_, _, _, q, hq, cs, hc⟩ := hk
  subst e
  rw [ho] at hc
  cases hc
  cases hn
theorem he.farR {W : World} {ob base : Nat} {v u : Value} {l : List S69} {ok : Nat → Prop} (ho : W.heap[ob]? = some (.cells #[v] 24 (0, 0))) (h : Kd.R k69 69 W base ok u l) (W' : World) (hg : W.grownBy W' (some ob)) : Kd.R k69 69 W' base ok u l := by
  refine Kd.R_mono (Kd.R_step (Kd.R_bound h) (fun k hk hlt => hg.block k hlt (fun e => ?_))) (fun _ hk => hk.1)
  obtain ⟨_, _, _, q, hq, cs, hc⟩ := hk
  have hq69 : q = 69 := by rcases List.mem_cons.1 hq with h | h
                           · exact h
                           · exact List.mem_singleton.1 h
  subst hq69
  injection e with e
  subst e
  rw [ho] at hc
  cases hc
theorem he.two_last {P : Program} {md : Region.Mode} {ops : Array Oper} {Q : Exit → Act → World → Prop} {S : World → Prop} {ds : List Nat} {i j : Nat} {Ni Nj : Option Tmp} {oi oj : Oper} {fuel : Nat} {l : Array Bool} {a : Act} {w : World} (li lj : Array Bool) (hi : ops[i]? = some oi) (hj : ops[j]? = some oj) (hNi : oi.dst = Ni) (hNj : oj.dst = Nj)
    (hc : (Region.ready md ops l == [i, j] && l.setIfInBounds i true == li && l.setIfInBounds j true == lj) = true) (hdi : i ∈ ds) (hdj : j ∈ ds)
    (h1 : ∀ K : Act → World → Prop, Shut (∀ a' w', wpAnyLast P md ops Q S ds fuel li a' w' → K a' w') → if Region.wanted oi (yielded ops a.tmps) = true then Oper.wp P oi a w K Q else K (a.put Ni undef) w)
    (h2 : ∀ K : Act → World → Prop, Shut (∀ a' w', wpAnyLast P md ops Q S ds fuel lj a' w' → K a' w') → if Region.wanted oj (yielded ops a.tmps) = true then Oper.wp P oj a w K Q else K (a.put Nj undef) w) :
    wpAnyLast P md ops Q S ds (fuel + 1) l a w := by
  subst hNi
  subst hNj
  simp only [Bool.and_eq_true, beq_iff_eq] at hc
  obtain ⟨⟨h3, h4⟩, h5⟩ := hc
  subst h4
  subst h5
  exact wpAnyLast_ready h3 (by simp) (AllReadyL.cons_last hi hdi (fun K hK => h1 K hK) (AllReadyL.cons_last hj hdj (fun K hK => h2 K hK) AllReadyL.nil))
def he.r10.T : Bool × List (List Nat × List Nat) := (true, [([], []), ([0], [0]), ([], []), ([], []), ([2, 3], [2, 3]), ([], []), ([4, 5], [4, 5]), ([1], [1]), ([], []), ([1, 8, 4, 0, 1, 2, 3, 4, 5, 6, 7, 8], [1, 8]), ([9, 7, 0, 1, 2, 3, 4, 5, 6, 7, 8, 9], [7, 9]), ([10, 6, 9, 0, 1, 2, 3, 4, 5, 6, 7, 8, 9], [6, 10]), ([0, 1, 2, 3, 4, 5, 6, 7, 8, 9], []), ([12, 9, 9, 0, 1, 2, 3, 4, 5, 6, 7, 8, 9], [9, 12])])
def he.r10.B : List Nat := [0, 1, 0, 0, 12, 0, 60, 3, 0, 511, 1023, 2047, 1023, 5119]
theorem he.r10.tab : rtab .any (opsOf Try.f47 10) = he.r10.T := by kernel_rfl
theorem he.r10.bits : waitsOk he.r10.T.2 he.r10.B = true := by kernel_rfl
theorem he.acc_len (h : Int → List S69) (zs : List Int) : ∀ (pre : List (Fin zs.length)) (acc : List S69), (pre.foldl (he.add h zs) acc).length ≤ acc.length + pre.length
  | [], acc => Nat.le_refl _
  | x :: pre, acc => by
    rw [List.foldl_cons]
    refine Nat.le_trans (he.acc_len h zs pre _) ?_
    have : (he.add h zs acc x).length ≤ acc.length + 1 := by unfold he.add; split <;> simp
    rw [List.length_cons]
    omega
theorem he.info24 : (Try.prog.info? 24).map (·.size) = some 1 := by kernel_rfl
theorem he.zero24 (w : World) : (zeroValue 24).run Try.prog w = .ok (.agg #[.slice none 0 0]) w := by kernel_rfl
set_option maxHeartbeats 1000000 in
set_option maxRecDepth 100000 in
theorem he.calls (b : Int) (hb : 2 ≤ b) (hb2 : b ≤ 2000000) : ∀ (N : Nat) (n : Int), 0 ≤ n → n < N → n ≤ 1000000 → ∀ w, Calls Try.prog 47 #[.int .i64 n, .int .i64 b] w fun e w' => ∃ v, e = .returned (.agg #[v]) ∧ Kd.R k69 69 w' w.heap.size (fun _ => True) v (he.f N b n) ∧ Below w.heap.size w w' := by
  intro N
  induction N with
  | zero => intro n h0 h; omega
  | succ N IH =>
    intro n hn0 hnN hnM w
    have HI := Aside0.mk IH
    clear IH
    have hz := he.zero24
    have hb0 : (b == 0) = false := by simp; omega
    refine (callsIn_wide (n := 3)).1 (callsIn_of_wp_marks Try.func47 rfl trivial ?_ rfl)
    refine wpIn_wide.2 ?_
    simp only [Try.ntmps47, List.size_toArray, List.length_cons, List.length_nil, Nat.reduceAdd, Nat.reduceSub, Array.replicate_succ, Array.replicate_zero, List.push_toArray, List.append_toArray, List.nil_append, List.cons_append]
    go_wp2
    obtain ⟨w3, hw3⟩ : ∃ w3, w3 = ((w.alloc (.cells #[.int .i64 b] 3)).alloc (.cells #[.slice none 0 0] 24)).alloc (.cells #[] 3) := ⟨_, rfl⟩
    have hbb : w3.heap[w.heap.size]? = some (.cells #[.int .i64 b] 3 (0, 0)) := by rw [hw3]; exact blk_alloc (blk_alloc (heap_alloc_new w _) _) _
    have hrc : w3.heap[w.heap.size + 1]? = some (.cells #[.slice none 0 0] 24 (0, 0)) := by
      rw [hw3]
      have z := heap_alloc_new (w.alloc (.cells #[.int .i64 b] 3)) (.cells #[.slice none 0 0] 24)
      rw [World.size_alloc] at z
      exact blk_alloc z _
    have hdg : w3.heap[w.heap.size + 1 + 1]? = some (.cells #[] 3 (0, 0)) := by
      rw [hw3]
      have z := heap_alloc_new ((w.alloc (.cells #[.int .i64 b] 3)).alloc (.cells #[.slice none 0 0] 24)) (.cells #[] 3)
      rw [World.size_alloc, World.size_alloc] at z
      exact z
    have hB3 : Below w.heap.size w w3 := by rw [hw3]; exact (((Below.refl _ w).alloc (Nat.le_refl _) _).alloc (by simp) _).alloc (by simp only [World.size_alloc]; omega) _
    rw [← hw3]
    have hp64 : n < 2 ^ 64 := by omega
    go_loopg [0, 5] 64 (fun gg s0 s5 wr => ∃ (m : Int) (xs : List Int), s0 = .int .i64 m ∧ 0 ≤ m ∧ m < 2 ^ gg ∧ m ≤ n ∧ xs ++ he.digs gg b m = he.digs 64 b n ∧ Aside0 (Kd.R (Kd.int .i64) 3 wr w.heap.size (fun k => k ≠ w.heap.size) s5 xs) ∧ Aside0 (wr.heap[w.heap.size]? = some (.cells #[.int .i64 b] 3 (0, 0))) ∧ Aside0 (wr.heap[w.heap.size + 1]? = some (.cells #[.slice none 0 0] 24 (0, 0))) ∧ Aside0 (Below w.heap.size w wr))
    case atStart => exact ⟨n, [], rfl, hn0, hp64, Int.le_refl _, rfl, ⟨he.empty hdg (by omega) (by omega)⟩, ⟨hbb⟩, ⟨hrc⟩, ⟨hB3⟩⟩
    case round =>
      obtain ⟨m, xs, rfl, hm0, hmk, hmn, hxs, HR, HBB, HRC, HB⟩ := hrel
      clear hbb hrc hdg hB3 hw3 hp64
      by_cases hpos : 0 < m
      · cases gk with
        | zero => exact absurd hmk (by simp; omega)
        | succ k =>
          obtain ⟨q1, q2, q3⟩ := he.step hb hpos hmk
          have hgt : decide (0 < m) = true := decide_eq_true hpos
          have hdd : he.digs (k + 1) b m = m % b :: he.digs k b (m / b) := by show (if m > 0 then _ else _) = _; rw [if_pos hpos]
          rw [hdd] at hxs
          have hlen : xs.length ≤ 64 := by
            have := congrArg List.length hxs
            rw [List.length_append] at this
            have := he.digs_k (b := b) 64 n
            omega
          have bc0 := (blk_cell HBB.out 0).trans rfl
          obtain ⟨A5, c5, rfl⟩ := Kd.R_slice HR.out
          have HXS := Aside0.mk hxs
          clear hxs hdd
          go_wp2_with (first | ((with_reducible refine gate_builtin (b := .append) (xs := #[.tmp 15, .tmp 19]) rfl ?_); at_builtin; refine Kd.R_append (Kd.int .i64) (w0 := w) w.heap.size rfl (.tmp 15) (.tmp 19) 33 3 (.int .i64 0) 8 rfl Try.underlying33 he.info3 rfl (by decide) (by omega) (.slice A5 xs.length c5) xs (m % b) [.int .i64 (m % b)] (fun k => k ≠ w.heap.size) (fun _ => False) rfl rfl ?aP (fun _ hk => hk.elim) ?aF ?aO ?aB ?aS ?aL ?_; (case aP => exact rfl); (case aB => exact HB.out); (case aF => exact fun k hk e => by have := blk_lt HBB.out; omega); (case aO => exact HR.out); (case aS => exact below_size HB.out); (case aL => omega); intro v6 w6 ho hb6 hg hat; have n0_ := Aside0.mk ho; have n1_ := Aside0.mk hb6; have n2_ := Aside0.mk (blk_grown HBB.out hg (fun e => HR.out.1 _ e.symm rfl)); have n3_ := Aside0.mk (blk_grown HRC.out hg (Kd.R_ne HR.out HRC.out (by decide))); clear HR HB HBB HRC ho hb6 hg hat bc0; have HR := n0_; have HB := n1_; have HBB := n2_; have HRC := n3_; clear n0_ n1_ n2_ n3_; have bc0 := (blk_cell HBB.out 0).trans rfl))
          go_roundg k
          case measure => omega
          case rel => exact ⟨_, xs ++ [m % b], rfl, q1, q2, by omega, by rw [List.append_assoc]; exact HXS.out, HR, HBB, HRC, HB⟩
      · obtain rfl : m = 0 := by omega
        have hz0 : he.digs gk b 0 = [] := by cases gk <;> simp [he.digs]
        rw [hz0, List.append_nil] at hxs
        clear hmk hmn hpos hz0
        have hlen : xs.length ≤ 64 := by rw [hxs]; exact he.digs_k 64 n
        have HXS := Aside0.mk hxs
        clear hxs
        obtain ⟨A5, c5, rfl⟩ := Kd.R_slice HR.out
        go_wp2
        obtain ⟨w2, hw2⟩ : ∃ w2, w2 = (wr.alloc (.cells #[.slice none 0 0] 24)).alloc (.cells #[.slice A5 xs.length c5] 33) := ⟨_, rfl⟩
        have ho2 : w2.heap[wr.heap.size]? = some (.cells #[.slice none 0 0] 24 (0, 0)) := by rw [hw2]; exact blk_alloc (heap_alloc_new wr _) _
        have hs2 : w2.heap[wr.heap.size + 1]? = some (.cells #[.slice A5 xs.length c5] 33 (0, 0)) := by
          rw [hw2]
          have z := heap_alloc_new (wr.alloc (.cells #[.slice none 0 0] 24)) (.cells #[.slice A5 xs.length c5] 33)
          rw [World.size_alloc] at z
          exact z
        have hR2 := Kd.R_alloc (Kd.R_alloc HR.out (.cells #[.slice none 0 0] 24)) (.cells #[.slice A5 xs.length c5] 33)
        have hb2 := blk_alloc (blk_alloc HBB.out (.cells #[.slice none 0 0] 24)) (.cells #[.slice A5 xs.length c5] 33)
        have hc2 := blk_alloc (blk_alloc HRC.out (.cells #[.slice none 0 0] 24)) (.cells #[.slice A5 xs.length c5] 33)
        have hB2 : Below w.heap.size w w2 := by rw [hw2]; exact (HB.out.alloc HB.out.size _).alloc (by rw [World.size_alloc]; exact Nat.le_succ_of_le HB.out.size) _
        have hsz := blk_lt HRC.out
        rw [← hw2] at hR2 hb2 hc2 ⊢
        clear HR HBB HRC HB hw2
        obtain ⟨ob, hob⟩ : ∃ ob, ob = wr.heap.size := ⟨_, rfl⟩
        rw [← hob] at ho2 hs2 hsz ⊢
        clear hob
        obtain ⟨dB, ds, td, htd, htd2, hd2, hseq⟩ := he.seq xs A5 c5 _ _ _ w2 hs2 hR2 hlen
        clear hR2
        refine (wpIn_wide (n := 3)).1 ?_
        refine wpIn_rangeFunc_ownF (F := Fence.wide) (n := 3) rfl (by omega) (gf := 78) (lb := #[.pointer (some ⟨ob + 1, 0, none⟩)]) rfl trivial (enters_of Try.func78 (by kernel_rfl) rfl) hseq (fun h k => Rf.Kp.t h k) (fun W l o o' hl h1 h2 h3 => Rf.Kp.b (blk_lt hs2) (blk_lt hd2) W l o o' hl h1 h2 h3) (Below.refl _ _) (fun _ => rfl)
          (fun pre W => ∃ v, he.I w b ob (ob + 1) dB (.cells #[.slice A5 xs.length c5] 33 (0, 0)) (.cells ds td (0, 0)) (pre.foldl (he.add (he.f N b) xs) []) v W) (fun _ _ _ => False) (he.I.from (G := fun pre => pre.foldl (he.add (he.f N b) xs) []) rfl rfl _ hB2.size) (fun _ _ _ _ _ h _ _ => h) ⟨_, ⟨ho2, hb2, hc2, hs2, hd2, hB2⟩, Kd.R_nil _ _ _ _ _⟩ ?a1 ?assign ?body ?done ?stop
        case assign =>
          intro l x W K hK
          simp only [rb.encs]
          gi_wp2
          exact hK
        case body =>
          rintro l pre x W ⟨v, hI⟩ hlt
          have hfold : (pre ++ [x]).foldl (he.add (he.f N b) xs) [] = he.add (he.f N b) xs (pre.foldl (he.add (he.f N b) xs) []) x := by rw [List.foldl_append]; rfl
          by_cases hd0 : rb.dig xs x > 0
          · have hgt : decide (0 < rb.dig xs x) = true := decide_eq_true hd0
            have haddl : he.add (he.f N b) xs (pre.foldl (he.add (he.f N b) xs) []) x = pre.foldl (he.add (he.f N b) xs) [] ++ [⟨⟨he.f N b (x.1 : Int)⟩, rb.dig xs x⟩] := by unfold he.add; rw [if_pos hd0]
            rw [haddl] at hfold
            have hal := he.acc_len (he.f N b) xs pre []
            simp only [List.length_nil, Nat.zero_add] at hal
            generalize hacc : pre.foldl (he.add (he.f N b) xs) [] = acc at hI hfold hal
            have hxl : (x.1 : Int) < n := by
              have h1 := he.digs_len hb 64 n hn0 (by omega)
              rw [← HXS.out] at h1
              have := x.2
              omega
            have HCALL := Aside0.mk (fun W' => HI.out (x.1 : Int) (by omega) (by omega) (by omega) W')
            have HFO := Aside0.mk hfold
            have HLT := Aside0.mk (show acc.length ≤ 64 by omega)
            obtain ⟨dg, hdg⟩ : ∃ dg, dg = rb.dig xs x := ⟨_, rfl⟩
            have HDG := Aside0.mk hdg
            clear hfold hxl haddl hacc hal hdg
            gi_wp2
            obtain ⟨Av, cv, rfl⟩ := Kd.R_slice hI.2
            have HS2 := Aside0.mk hs2
            have HSZ := Aside0.mk (show w.heap.size ≤ ob ∧ ob ≠ w.heap.size ∧ ob ≠ w.heap.size + 1 ∧ ob ≠ ob + 1 ∧ ob ≠ dB by
              refine ⟨by omega, by omega, by omega, by omega, fun e => ?_⟩
              rw [e, hd2] at ho2
              injection ho2 with e1
              injection e1 with e2 e3
              exact htd2 e3)
            have HTD := Aside0.mk htd
            have KW := Aside0.mk hI
            have hI1 : he.I w b ob (ob + 1) dB (.cells #[.slice A5 xs.length c5] 33 (0, 0)) (.cells ds td (0, 0)) acc (.slice Av acc.length cv) W.drew := ⟨hI.1.below (below_drew1 (Below.refl W.heap.size W)), Kd.R_drew hI.2⟩
            have HI1 := Aside0.mk hI1
            have KO := Aside0.mk (KeepsOthers.drew W)
            rw [← HDG.out]
            refine Rf.start (n := 14) (S := fun w' => w'.cell? ⟨ob, 0, none⟩ = some (.slice Av acc.length cv) ∧ w'.cell? ⟨w.heap.size, 0, none⟩ = some (.int .i64 b)) (ds := [9, 11, 13]) #[false, false, false, false, false, false, false, false, false, false, false, false, false, false] (by kernel_rfl) (by kernel_rfl) (by rintro ⟨a, w, h⟩; exact h) rfl rfl ⟨(blk_cell hI1.1.o 0).trans rfl, (blk_cell hI1.1.b 0).trans rfl⟩ (fun hHeld => ?_); refine with_tabW he.r10.tab he.r10.bits (fun HT_ HW_ => ?_)
            clear hI hI1 ho2 hb2 hc2 hs2 hd2 hB2 hseq htd htd2 hsz
            generalize W.drew = w4 at HI1 KO hHeld ⊢
            refine pure_ (i := 0) (N := (some 28)) (v := ?_) (a' := ?_) #[true, false, false, false, false, false, false, false, false, false, false, false, false, false] rfl rfl (any_of HT_.out (by kernel_rfl)) (fun _ _ _ h => h) (Or.inl ⟨by rfl, ?_⟩) ?_ ?_
            rotate_left
            · intro w'
              go_simp
              with_reducible rfl
            rotate_left
            · simp only [Act.put, List.setIfInBounds_toArray, List.set_cons_zero, List.set_cons_succ, i64_w, i32_w]
              rfl
            refine pure_ (i := 2) (N := (some 30)) (v := ?_) (a' := ?_) #[true, false, true, false, false, false, false, false, false, false, false, false, false, false] rfl rfl (any_of HT_.out (by kernel_rfl)) (fun _ _ _ h => h) (Or.inl ⟨by rfl, ?_⟩) ?_ ?_
            rotate_left
            · intro w'
              go_simp
              with_reducible rfl
            rotate_left
            · simp only [Act.put, List.setIfInBounds_toArray, List.set_cons_zero, List.set_cons_succ, i64_w, i32_w]
              rfl
            refine take_ (i := 1) (N := (some 29)) (v := ?_) (a' := ?_) #[true, true, true, false, false, false, false, false, false, false, false, false, false, false] rfl rfl (take_ofW HT_.out HW_.out (by kernel_rfl)) (fun _ _ _ h => h) (Or.inl ⟨by rfl, ?_⟩) hHeld ?_ ?_
            rotate_left
            · rintro w' ⟨s0, s1⟩
              go_simp
              with_reducible rfl
            rotate_left
            · simp only [Act.put, List.setIfInBounds_toArray, List.set_cons_zero, List.set_cons_succ, i64_w, i32_w]
              rfl
            refine take_ (i := 3) (N := (some 31)) (v := ?_) (a' := ?_) #[true, true, true, true, false, false, false, false, false, false, false, false, false, false] rfl rfl (take_ofW HT_.out HW_.out (by kernel_rfl)) (fun _ _ _ h => h) (Or.inl ⟨by rfl, ?_⟩) hHeld ?_ ?_
            rotate_left
            · rintro w' ⟨s0, s1⟩
              go_simp
              with_reducible rfl
            rotate_left
            · simp only [Act.put, List.setIfInBounds_toArray, List.set_cons_zero, List.set_cons_succ, i64_w, i32_w]
              rfl
            refine pure_ (i := 5) (N := (some 33)) (v := ?_) (a' := ?_) #[true, true, true, true, false, true, false, false, false, false, false, false, false, false] rfl rfl (any_of HT_.out (by kernel_rfl)) (fun _ _ _ h => h) (Or.inl ⟨by rfl, ?_⟩) ?_ ?_
            rotate_left
            · intro w'
              go_simp
              with_reducible rfl
            rotate_left
            · simp only [Act.put, List.setIfInBounds_toArray, List.set_cons_zero, List.set_cons_succ, i64_w, i32_w]
              rfl
            refine pure_ (i := 7) (N := (some 35)) (v := ?_) (a' := ?_) #[true, true, true, true, false, true, false, true, false, false, false, false, false, false] rfl rfl (any_of HT_.out (by kernel_rfl)) (fun _ _ _ h => h) (Or.inl ⟨by rfl, ?_⟩) ?_ ?_
            rotate_left
            · intro w'
              go_simp
              with_reducible rfl
            rotate_left
            · simp only [Act.put, List.setIfInBounds_toArray, List.set_cons_zero, List.set_cons_succ, i64_w, i32_w]
              rfl
            refine join_ (σ := Value × Nat) 5 #[true, true, true, true, true, true, true, true, true, false, false, false, false, false] (fun s => [(32, .agg #[s.1]), (34, .agg #[s.1, .int .i64 dg]), (36, .slice (some ⟨s.2, 0, none⟩) 1 1)]) (fun (s : Value × Nat) (Wa : World) => ∃ (Wc W2 : World) (Ai : Option Addr) (ci : Nat), s.1 = .slice Ai (he.f N b (x.1 : Int)).length ci ∧ Kd.R k69 69 W2 Wc.heap.size (fun _ => True) s.1 (he.f N b (x.1 : Int)) ∧ w4.heap.size ≤ Wc.heap.size ∧ Below W2.heap.size W2 Wa ∧ he.I w b ob (ob + 1) dB (.cells #[.slice A5 xs.length c5] 33 (0, 0)) (.cells ds td (0, 0)) acc (.slice Av acc.length cv) Wa ∧ Wa.heap[s.2]? = some (.cells #[.slice none 0 0, .int .i64 0] 69 (0, 0)) ∧ KeepsOthers W Wa) ?hcont (fun hcont => ?_)
            rotate_left
            · refine two_ (i := 4) (j := 8) (Ni := some 32) (Nj := some 36) #[true, true, true, true, true, true, false, true, false, false, false, false, false, false] #[true, true, true, true, false, true, false, true, true, false, false, false, false, false] rfl rfl rfl rfl (two_of HT_.out (by kernel_rfl)) (by decide) (by decide) (fun K hK => ?_) (fun K hK => ?_)
              · refine goes_ Try.func47 (by kernel_rfl) rfl #[.int .i64 (x.1 : Int), .int .i64 b] (by rfl) rfl rfl (by (try simp only [List.map_toArray, List.map_cons, List.map_nil]); first | done | rfl) ?_
                refine (HCALL.out _).mono ?_
                rintro e w5 ⟨vi, rfl, hri, hbi⟩
                refine ⟨_, rfl, ?_⟩
                obtain ⟨Ai, ci, rfl⟩ := Kd.R_slice hri
                have hI5 : he.I w b ob (ob + 1) dB (.cells #[.slice A5 xs.length c5] 33 (0, 0)) (.cells ds td (0, 0)) acc (.slice Av acc.length cv) w5 := ⟨HI1.out.1.below hbi, Kd.R_below HI1.out.2 hbi⟩
                refine hK.out _ _ ⟨(blk_cell (hI5).1.o 0).trans rfl, (blk_cell (hI5).1.b 0).trans rfl⟩ (fun hHeld => ?_)
                clear hK K
                refine norm_ (a' := ?_) ?_ ?_
                rotate_left
                · show Act.put _ (some 32) _ = _
                  simp only [Act.put, List.setIfInBounds_toArray, List.set_cons_zero, List.set_cons_succ, i64_w, i32_w]
                  rfl
                refine pure_ (i := 6) (N := (some 34)) (v := ?_) (a' := ?_) #[true, true, true, true, true, true, true, true, false, false, false, false, false, false] rfl rfl (any_of HT_.out (by kernel_rfl)) (fun _ _ _ h => h) (Or.inl ⟨by rfl, ?_⟩) ?_ ?_
                rotate_left
                · intro w'
                  go_simp
                  with_reducible rfl
                rotate_left
                · simp only [Act.put, List.setIfInBounds_toArray, List.set_cons_zero, List.set_cons_succ, i64_w, i32_w]
                  rfl
                refine one_ (i := 8) (N := some 36) #[true, true, true, true, true, true, true, true, true, false, false, false, false, false] rfl rfl (one_of HT_.out (by kernel_rfl)) (by decide) (fun K hK => ?_)
                refine value_ (w1 := ?_) (v := ?_) (by rfl) rfl ?_ ?_
                rotate_left 2
                · go_simp
                  constructor
                  · rfl
                  · rfl
                have hI6 : he.I w b ob (ob + 1) dB (.cells #[.slice A5 xs.length c5] 33 (0, 0)) (.cells ds td (0, 0)) acc (.slice Av acc.length cv) (w5.alloc (.cells #[.slice none 0 0, .int .i64 0] 69)) := ⟨hI5.1.below (below_alloc (Below.refl _ _) _), Kd.R_alloc hI5.2 _⟩
                refine hK.out _ _ ⟨(blk_cell (hI6).1.o 0).trans rfl, (blk_cell (hI6).1.b 0).trans rfl⟩ (fun hHeld => ?_)
                clear hK K
                exact hcont (.slice Ai (he.f N b (x.1 : Int)).length ci, w5.heap.size) _ ⟨w4, w5, Ai, ci, rfl, hri, Nat.le_refl _, below_alloc (Below.refl _ _) _, hI6, heap_alloc_new w5 _, (KO.out.trans (he.keeps hbi)).trans (KeepsOthers.alloc _ _)⟩
              · refine value_ (w1 := ?_) (v := ?_) (by rfl) rfl ?_ ?_
                rotate_left 2
                · go_simp
                  constructor
                  · rfl
                  · rfl
                have hI5 : he.I w b ob (ob + 1) dB (.cells #[.slice A5 xs.length c5] 33 (0, 0)) (.cells ds td (0, 0)) acc (.slice Av acc.length cv) (w4.alloc (.cells #[.slice none 0 0, .int .i64 0] 69)) := ⟨HI1.out.1.below (below_alloc (Below.refl _ _) _), Kd.R_alloc HI1.out.2 _⟩
                have hz5 := heap_alloc_new w4 (.cells #[.slice none 0 0, .int .i64 0] 69)
                have ko5 := KO.out.trans (KeepsOthers.alloc w4 (.cells #[.slice none 0 0, .int .i64 0] 69))
                have hsz5 : w4.heap.size ≤ (w4.alloc (.cells #[.slice none 0 0, .int .i64 0] 69)).heap.size := by rw [World.size_alloc]; exact Nat.le_succ _
                refine hK.out _ _ ⟨(blk_cell (hI5).1.o 0).trans rfl, (blk_cell (hI5).1.b 0).trans rfl⟩ (fun hHeld => ?_)
                clear hK K
                refine norm_ (a' := ?_) ?_ ?_
                rotate_left
                · show Act.put _ (some 36) _ = _
                  simp only [Act.put, List.setIfInBounds_toArray, List.set_cons_zero, List.set_cons_succ, i64_w, i32_w]
                  rfl
                generalize w4.alloc (.cells #[.slice none 0 0, .int .i64 0] 69) = w5 at hI5 hz5 ko5 hsz5 hHeld ⊢
                refine one_ (i := 4) (N := some 32) #[true, true, true, true, true, true, false, true, true, false, false, false, false, false] rfl rfl (one_of HT_.out (by kernel_rfl)) (by decide) (fun K hK => ?_)
                refine goes_ Try.func47 (by kernel_rfl) rfl #[.int .i64 (x.1 : Int), .int .i64 b] (by rfl) rfl rfl (by (try simp only [List.map_toArray, List.map_cons, List.map_nil]); first | done | rfl) ?_
                refine (HCALL.out _).mono ?_
                rintro e w6 ⟨vi, rfl, hri, hbi⟩
                refine ⟨_, rfl, ?_⟩
                obtain ⟨Ai, ci, rfl⟩ := Kd.R_slice hri
                have hI6 : he.I w b ob (ob + 1) dB (.cells #[.slice A5 xs.length c5] 33 (0, 0)) (.cells ds td (0, 0)) acc (.slice Av acc.length cv) w6 := ⟨hI5.1.below hbi, Kd.R_below hI5.2 hbi⟩
                refine hK.out _ _ ⟨(blk_cell (hI6).1.o 0).trans rfl, (blk_cell (hI6).1.b 0).trans rfl⟩ (fun hHeld => ?_)
                clear hK K
                refine norm_ (a' := ?_) ?_ ?_
                rotate_left
                · show Act.put _ (some 32) _ = _
                  simp only [Act.put, List.setIfInBounds_toArray, List.set_cons_zero, List.set_cons_succ, i64_w, i32_w]
                  rfl
                refine pure_ (i := 6) (N := (some 34)) (v := ?_) (a' := ?_) #[true, true, true, true, true, true, true, true, true, false, false, false, false, false] rfl rfl (any_of HT_.out (by kernel_rfl)) (fun _ _ _ h => h) (Or.inl ⟨by rfl, ?_⟩) ?_ ?_
                rotate_left
                · intro w'
                  go_simp
                  with_reducible rfl
                rotate_left
                · simp only [Act.put, List.setIfInBounds_toArray, List.set_cons_zero, List.set_cons_succ, i64_w, i32_w]
                  rfl
                exact hcont (.slice Ai (he.f N b (x.1 : Int)).length ci, w4.heap.size) _ ⟨w5, w6, Ai, ci, rfl, hri, hsz5, Below.refl _ _, hI6, blk_below hz5 hbi, ko5.trans (he.keeps hbi)⟩
            rintro ⟨vi, g8⟩ Wa ⟨Wc, W2, Ai, ci, e1, hri, hcs, hda, hIa, hz8, koa⟩
            dsimp only at e1 hri hz8
            subst e1
            refine norm_ (a' := ?_) ?_ ?_
            rotate_left
            · simp only [putAll, Act.put, List.setIfInBounds_toArray, List.set_cons_zero, List.set_cons_succ, i64_w, i32_w]
              rfl
            have hlt_ : ∀ k, (Value.slice Av acc.length cv).ownBlock = some k → k < Wc.heap.size := fun k e => Nat.lt_of_lt_of_le (Kd.R_lt HI1.out.2 k e) hcs
            refine last_ (i := 9) (N := some 37) #[true, true, true, true, true, true, true, true, true, true, false, false, false, false] rfl rfl (one_of HT_.out (by kernel_rfl)) (by decide) (fun K hK => ?_)
            refine Kd.R_append_rows_step k69 (Rr := fun p cs => p = z69 ∧ cs = [.slice none 0 0, .int .i64 0]) (w0 := w) w.heap.size (by rfl) (.tmp 29) (.tmp 36) 22 69 (.agg #[(.slice none 0 0), (.int .i64 0)]) 32 rfl Try.underlying22 info69 rfl (by decide) (by omega) (.slice Av acc.length cv) acc [z69] (some ⟨g8, 0, none⟩) 1 1 (fun _ => True) (fun _ => False) rfl rfl hIa.2 ?aR ?aM (fun _ hk => hk.elim) (fun _ _ => trivial) hIa.1.B hIa.1.B.size ?aL ?_
            (case aR => exact he.one_row hz8)
            (case aM => rintro p cs ⟨rfl, rfl⟩; exact k69_mkM _ _ _ z69 (Kd.R_nil _ _ _ _ _))
            (case aL => have := HLT.out; omega)
            intro v1 w9 ho hb9 hg hat
            obtain ⟨g, c1, ev1, hbg, hgl, _, _⟩ := Kd.R_form ho (by simp)
            subst ev1
            have hl1 : (acc ++ [z69]).length = acc.length + 1 := by simp
            rw [hl1] at ho hat ⊢
            have hri9 := he.inner hri hda hg hlt_ hat rfl (Nat.le_trans HI1.out.1.B.size hcs)
            have hJ9 := hIa.1.grown hg (hIa.1.row HTD.out hIa.2)
            have ko9 := koa.trans (he.keeps_row hIa.2 hg)
            have KR := Aside0.mk ho
            have KI := Aside0.mk hri9
            have KJ := Aside0.mk hJ9
            have KK := Aside0.mk ko9
            clear ho hb9 hg hat hri9 hJ9 ko9 hri hda hIa hz8 koa hlt_ hcs
            refine hK.out _ _ ?_
            clear hK K
            refine norm_ (a' := ?_) ?_ ?_
            rotate_left
            · show Act.put _ (some 37) _ = _
              simp only [Act.put, List.setIfInBounds_toArray, List.set_cons_zero, List.set_cons_succ, i64_w, i32_w]
              rfl
            have hd1_ : decide ((acc.length : Int) < ((acc.length + 1 : Nat) : Int)) = true := decide_eq_true (by omega)
            have hd2_ : (acc.length : Int) < (acc.length : Int) + 1 := by omega
            have hd3_ : decide ((acc.length : Int) < (acc.length : Int) + 1) = true := decide_eq_true (by omega)
            refine pure_ (i := 10) (N := (some 38)) (v := ?_) (a' := ?_) #[true, true, true, true, true, true, true, true, true, true, true, false, false, false] rfl rfl (any_of HT_.out (by kernel_rfl)) (fun _ _ _ h => h) (Or.inl ⟨by rfl, ?_⟩) ?_ ?_
            rotate_left
            · intro w'
              go_simp
              with_reducible rfl
            rotate_left
            · simp only [Act.put, List.setIfInBounds_toArray, List.set_cons_zero, List.set_cons_succ, i64_w, i32_w]
              rfl
            refine pure_ (i := 12) (N := (some 39)) (v := ?_) (a' := ?_) #[true, true, true, true, true, true, true, true, true, true, true, false, true, false] rfl rfl (any_of HT_.out (by kernel_rfl)) (fun _ _ _ h => h) (Or.inl ⟨by rfl, ?_⟩) ?_ ?_
            rotate_left
            · intro w'
              go_simp
              with_reducible rfl
            rotate_left
            · simp only [Act.put, List.setIfInBounds_toArray, List.set_cons_zero, List.set_cons_succ, i64_w, i32_w]
              rfl
            refine he.two_last (i := 11) (j := 13) (Ni := none) (Nj := none) #[true, true, true, true, true, true, true, true, true, true, true, true, true, false] #[true, true, true, true, true, true, true, true, true, true, true, false, true, true] rfl rfl rfl rfl (two_of HT_.out (by kernel_rfl)) (by decide) (by decide) (fun K hK => ?_) (fun K hK => ?_)
            · obtain ⟨v0, e0, e1, e2, e3⟩ := he.elem KR.out
              refine skip_ (w1 := w9.setCells g (acc.length * 2) [.slice Ai (he.f N b (x.1 : Int)).length ci, .int .i64 dg]) (by rfl) rfl ?_ ?_
              · go_simp
                rfl
              obtain ⟨hrx, hgx⟩ := he.put KR.out KI.out dg
              have hJx := KJ.out.grown hgx (KJ.out.row HTD.out KR.out)
              have kox := KK.out.trans (he.keeps_row KR.out hgx)
              refine hK.out _ _ ?_
              clear hK K
              generalize w9.setCells g (acc.length * 2) [.slice Ai (he.f N b (x.1 : Int)).length ci, .int .i64 dg] = w10 at hrx hgx hJx kox ⊢
              have oc := (blk_cell hJx.o 0).trans rfl
              have of := blk_frozen hJx.o 0
              refine last_ (i := 13) (N := none) #[true, true, true, true, true, true, true, true, true, true, true, true, true, true] rfl rfl (one_of HT_.out (by kernel_rfl)) (by decide) (fun K hK => ?_)
              refine skip_ (w1 := w10.setCell ⟨ob, 0, none⟩ (.slice (some ⟨g, 0, none⟩) (acc.length + 1) c1)) (by rfl) rfl ?_ ?_
              · go_simp
              have hJf := hJx.seto (.slice (some ⟨g, 0, none⟩) (acc.length + 1) c1) HSZ.out.1 HSZ.out.2.1 HSZ.out.2.2.1 HSZ.out.2.2.2.1 HSZ.out.2.2.2.2
              have hrf := he.farR hJx.o hrx (w10.setCell ⟨ob, 0, none⟩ (.slice (some ⟨g, 0, none⟩) (acc.length + 1) c1)) (he.grown_set w10 ⟨ob, 0, none⟩ (.slice (some ⟨g, 0, none⟩) (acc.length + 1) c1))
              refine hK.out _ _ ?_
              clear hK K
              refine done_ (done_of HT_.out (by kernel_rfl)) ?_
              refine ⟨kox.trans (KeepsOthers.setCell _ _ _), ⟨(hJf).s.trans KW.out.1.s.symm, (hJf).d.trans KW.out.1.d.symm⟩, _, hJf, ?_⟩
              rw [HFO.out, ← HDG.out]
              exact hrf
            · have oc := (blk_cell KJ.out.o 0).trans rfl
              have of := blk_frozen KJ.out.o 0
              refine skip_ (w1 := w9.setCell ⟨ob, 0, none⟩ (.slice (some ⟨g, 0, none⟩) (acc.length + 1) c1)) (by rfl) rfl ?_ ?_
              · go_simp
              have hJx := KJ.out.seto (.slice (some ⟨g, 0, none⟩) (acc.length + 1) c1) HSZ.out.1 HSZ.out.2.1 HSZ.out.2.2.1 HSZ.out.2.2.2.1 HSZ.out.2.2.2.2
              have hrx := he.farR KJ.out.o KR.out (w9.setCell ⟨ob, 0, none⟩ (.slice (some ⟨g, 0, none⟩) (acc.length + 1) c1)) (he.grown_set w9 ⟨ob, 0, none⟩ (.slice (some ⟨g, 0, none⟩) (acc.length + 1) c1))
              have hix := he.farR KJ.out.o KI.out (w9.setCell ⟨ob, 0, none⟩ (.slice (some ⟨g, 0, none⟩) (acc.length + 1) c1)) (he.grown_set w9 ⟨ob, 0, none⟩ (.slice (some ⟨g, 0, none⟩) (acc.length + 1) c1))
              have kox := KK.out.trans (KeepsOthers.setCell w9 ⟨ob, 0, none⟩ (.slice (some ⟨g, 0, none⟩) (acc.length + 1) c1))
              refine hK.out _ _ ?_
              clear hK K
              generalize w9.setCell ⟨ob, 0, none⟩ (.slice (some ⟨g, 0, none⟩) (acc.length + 1) c1) = w10 at hrx hix hJx kox ⊢
              obtain ⟨v0, e0, e1, e2, e3⟩ := he.elem hrx
              refine last_ (i := 11) (N := none) #[true, true, true, true, true, true, true, true, true, true, true, true, true, true] rfl rfl (one_of HT_.out (by kernel_rfl)) (by decide) (fun K hK => ?_)
              refine skip_ (w1 := w10.setCells g (acc.length * 2) [.slice Ai (he.f N b (x.1 : Int)).length ci, .int .i64 dg]) (by rfl) rfl ?_ ?_
              · go_simp
                rfl
              obtain ⟨hrf, hgx⟩ := he.put hrx hix dg
              have hJf := hJx.grown hgx (hJx.row HTD.out hrx)
              refine hK.out _ _ ?_
              clear hK K
              refine done_ (done_of HT_.out (by kernel_rfl)) ?_
              refine ⟨kox.trans (he.keeps_row hrx hgx), ⟨(hJf).s.trans KW.out.1.s.symm, (hJf).d.trans KW.out.1.d.symm⟩, _, hJf, ?_⟩
              rw [HFO.out, ← HDG.out]
              exact hrf
          · have hgt : decide (0 < rb.dig xs x) = false := decide_eq_false hd0
            have hadd : he.add (he.f N b) xs (pre.foldl (he.add (he.f N b) xs) []) x = pre.foldl (he.add (he.f N b) xs) [] := by unfold he.add; rw [if_neg hd0]
            gi_wp2
            exact ⟨KeepsOthers.refl _, ⟨rfl, rfl⟩, v, by rw [hfold, hadd]; exact hI⟩
        case done =>
          rintro D ys W hD rfl ⟨v, hI⟩ hK
          have o0 := (blk_cell hI.1.o 0).trans rfl
          have c0 := (blk_cell hI.1.c 0).trans rfl
          have cf := blk_frozen hI.1.c 0
          obtain ⟨Av, cv, rfl⟩ := Kd.R_slice hI.2
          have HI := Aside0.mk hI
          have HKD := Aside0.mk hK
          clear hI hK hseq
          go_wp2
          have hI := HI.out
          obtain ⟨Vv, hVv⟩ : ∃ Vv : Value, Vv = .slice Av (List.foldl (he.add (he.f N b) xs) [] (rb.come xs 0)).length cv := ⟨_, rfl⟩
          have hKx : (W.setCell ⟨w.heap.size + 1, 0, none⟩ Vv).heap[D]? = some (.deferred (some [])) := (KeepsOthers.setCell W ⟨w.heap.size + 1, 0, none⟩ Vv).same D _ HKD.out rfl
          have hcx := blk_put hI.1.c 0 Vv rfl
          have hrx := he.farR hI.1.c hI.2 (W.setCell ⟨w.heap.size + 1, 0, none⟩ Vv) (he.grown_set W ⟨w.heap.size + 1, 0, none⟩ Vv)
          have hbx : Below w.heap.size w (W.setCell ⟨w.heap.size + 1, 0, none⟩ Vv) := below_set hI.1.B (Nat.le_succ _)
          have hne : w.heap.size + 1 ≠ D := by have := blk_lt hc2; omega
          rw [← hVv] at hrx ⊢
          generalize W.setCell ⟨w.heap.size + 1, 0, none⟩ Vv = Wx at hKx hcx hrx hbx ⊢
          refine ⟨by simp, .inl ⟨_, _, rfl, run_takeDeferred hKx, ?_⟩⟩
          have hcy := (Rf.putObj_ne Wx D (.deferred none) (w.heap.size + 1) hne).trans hcx
          refine ⟨_, results_single (r := .cell 4 24) rfl (.cell _ 24 _ (0, 0) _ rfl hcy Try.underlying24 rfl he.info24 .nil), ?_⟩
          refine ⟨_, rfl, ?_, hbx.grown (grownBy_putObj' Wx D (.deferred none)) hbx.size (fun k e => by injection e with e; have := blk_lt hc2; omega)⟩
          have e1 : he.f (N + 1) b n = (rb.come xs 0).foldl (he.add (he.f N b) xs) [] := by
            have hx := HXS.out
            subst hx
            rfl
          rw [e1]
          exact he.farD hKx rfl hrx
        case stop =>
          rintro D c pre W _ _ h _
          exact h.elim
/-! #### deForm: the digits upward, each term ahead of those before it -/
def de.go (h : Int → List S69) : List Int → Nat → List S69 → List S69
  | [], _, acc => acc
  | d :: ds, e, acc => de.go h ds (e + 1) (if d > 0 then ⟨⟨h (e : Int)⟩, d⟩ :: acc else acc)
theorem de.same (h : Int → List S69) (zs : List Int) : ∀ (k r : Nat), r + k = zs.length → ∀ acc, de.go h (zs.drop r) r acc = (rb.come zs r).foldl (he.add h zs) [] ++ acc := by
  intro k
  induction k with
  | zero =>
    intro r hr acc
    have e : r = zs.length := by omega
    subst e
    rw [List.drop_length, rb.come_top]
    rfl
  | succ k ih =>
    intro r hr acc
    have hl : r < zs.length := by omega
    rw [List.drop_eq_getElem_cons hl, rb.come_step zs r hl, List.foldl_append, List.foldl_cons, List.foldl_nil]
    show de.go h (zs.drop (r + 1)) (r + 1) _ = _
    rw [ih (r + 1) (by omega)]
    have hd : rb.dig zs ⟨r, hl⟩ = zs[r] := by simp [rb.dig, List.getElem?_eq_getElem hl]
    unfold he.add
    rw [hd]
    by_cases hp : zs[r] > 0
    · rw [if_pos hp, if_pos hp]
      simp
    · rw [if_neg hp, if_neg hp]
theorem de.eq (h : Int → List S69) (zs : List Int) : de.go h zs 0 [] = (rb.come zs 0).foldl (he.add h zs) [] := by
  have := de.same h zs zs.length 0 (by omega) []
  rwa [List.drop_zero, List.append_nil] at this
theorem de.go_len (h : Int → List S69) : ∀ (ds : List Int) (e : Nat) (acc : List S69), acc.length ≤ (de.go h ds e acc).length
  | [], _, _ => Nat.le_refl _
  | d :: ds, e, acc => by
    refine Nat.le_trans ?_ (de.go_len h ds (e + 1) _)
    split <;> simp
theorem de.reps {w : World} {base : Nat} {ok : Nat → Prop} {l : List S69} {vi : Value} {d : Int} (h : Kd.R k69 69 w base ok vi l) : Reps (k69.M w base ok) k69.sz [(⟨⟨l⟩, d⟩ : S69)] [vi, .int .i64 d] := by
  refine ⟨rfl, fun j p hj => ?_⟩
  cases j with
  | zero =>
    obtain rfl : (⟨⟨l⟩, d⟩ : S69) = p := by simpa using hj
    exact k69_mkM w base ok (⟨⟨l⟩, d⟩ : S69) h
  | succ j => simp at hj
theorem de.lit {w : World} {base : Nat} {vi : Value} {l : List S69} (d : Int) (h : Kd.R k69 69 w base (fun k => k < w.heap.size) vi l) (hb : base ≤ w.heap.size) : Kd.R k69 69 (w.alloc (.cells #[vi, .int .i64 d] 69)) base (fun _ => True) (.slice (some ⟨w.heap.size, 0, none⟩) 1 1) [⟨⟨l⟩, d⟩] := by
  refine ⟨fun _ _ => trivial, [vi, .int .i64 d], ?_, ?_⟩
  · have h2 := World.ownsRow_lit (base := base) (e := 69) (size := 2) w #[vi, .int .i64 d] 1 hb (by simp [maxLen]) rfl
    have h3 : (w.alloc (.cells #[vi, .int .i64 d] 69)).ownsRow base 69 2 (.slice (some ⟨w.heap.size, 0, none⟩) 1 1) 1 [vi, .int .i64 d] := by simpa using h2
    exact h3
  · exact de.reps (Kd.R_mono (Kd.R_alloc h (.cells #[vi, .int .i64 d] 69)) (fun k hk => ⟨trivial, fun e => by simp [Value.ownBlock] at e; omega⟩))
theorem de.inner {Wc W2 Wf : World} {base : Nat} {f : Nat} {vi : Value} {l : List S69} (h : Kd.R k69 69 W2 Wc.heap.size (fun _ => True) vi l) (hs : ∀ k, k < W2.heap.size → k ≠ f → Wf.heap[k]? = W2.heap[k]?) (hf : W2.heap.size ≤ f ∨ f < Wc.heap.size) (hb : base ≤ Wc.heap.size) (hw : W2.heap.size ≤ Wf.heap.size) : Kd.R k69 69 Wf base (fun k => k < Wf.heap.size) vi l := by
  refine Kd.R_mono (Kd.R_lower (Kd.R_step (Kd.R_bound h) (fun k hk hlt => hs k hlt (fun e => ?_))) hb) (fun k hk => Nat.lt_of_lt_of_le hk.2.2.1 hw)
  have := hk.2.1
  omega
theorem de.oldrow {W : World} {base : Nat} {v : Value} {acc : List S69} {N : Nat} (h : Kd.R k69 69 W base (fun k => k < N) v acc) : ∃ A c, v = .slice A acc.length c ∧ ReadsRow (k69.M W base (fun k => k < N)) k69.sz W A acc.length acc := by
  obtain ⟨A, c, e, _, hr⟩ := OwnRow.reads h.2
  exact ⟨A, c, e, hr.imp_ (Below.refl _ _) (fun _ _ hp => k69.M_mono (fun k hk => hk.1) hp)⟩
theorem de.zero69 (w : World) : (zeroValue 69).run Try.prog w = .ok (.agg #[.slice none 0 0, .int .i64 0]) w := by kernel_rfl
def de.r6.T : Bool × List (List Nat × List Nat) := (true, [([], []), ([], []), ([0, 1], [0, 1]), ([], []), ([], []), ([3, 4], [3, 4]), ([2, 5], [2, 5]), ([], []), ([7, 6, 2, 0, 1, 2, 3, 4, 5, 6, 7], [6, 7])])
def de.r6.B : List Nat := [0, 0, 3, 0, 0, 24, 63, 0, 255]
theorem de.r6.tab : rtab .any (opsOf Try.f67 6) = de.r6.T := by kernel_rfl
theorem de.r6.bits : waitsOk de.r6.T.2 de.r6.B = true := by kernel_rfl
set_option maxHeartbeats 1000000 in
set_option maxRecDepth 100000 in
theorem de.calls (b : Int) (hb : 2 ≤ b) (hb2 : b ≤ 2000000) : ∀ (N : Nat) (n : Int), 0 ≤ n → n < N → n ≤ 1000000 → ∀ w, Calls Try.prog 67 #[.int .i64 n, .int .i64 b] w fun e w' => ∃ v, e = .returned (.agg #[v]) ∧ Kd.R k69 69 w' w.heap.size (fun _ => True) v (he.f N b n) ∧ Below w.heap.size w w' := by
  intro N
  induction N with
  | zero => intro n h0 h; omega
  | succ N IH =>
    intro n hn0 hnN hnM w
    have HI := Aside0.mk IH
    clear IH
    have hz := he.zero24
    have hb0 : (b == 0) = false := by simp; omega
    have hfull : de.go (he.f N b) (he.digs 64 b n) 0 [] = he.f (N + 1) b n := de.eq _ _
    go_enter Try.func67, Try.ntmps67
    go_wp2
    obtain ⟨w3, hw3⟩ : ∃ w3, w3 = (w.alloc (.cells #[.slice none 0 0] 24)).alloc (.cells #[.slice none 0 0] 24) := ⟨_, rfl⟩
    have hrc : w3.heap[w.heap.size]? = some (.cells #[.slice none 0 0] 24 (0, 0)) := by rw [hw3]; exact blk_alloc (heap_alloc_new w _) _
    have hou : w3.heap[w.heap.size + 1]? = some (.cells #[.slice none 0 0] 24 (0, 0)) := by
      rw [hw3]
      have z := heap_alloc_new (w.alloc (.cells #[.slice none 0 0] 24)) (.cells #[.slice none 0 0] 24)
      rw [World.size_alloc] at z
      exact z
    have hB3 : Below w.heap.size w w3 := by rw [hw3]; exact ((Below.refl _ w).alloc (Nat.le_refl _) _).alloc (by simp) _
    rw [← hw3]
    have hp64 : n < 2 ^ 64 := by omega
    go_loopg [0, 6] 64 (fun gg s0 s6 wr => ∃ (m : Int) (e : Nat) (acc : List S69) (vo : Value), s0 = .int .i64 m ∧ s6 = .int .i64 (e : Int) ∧ 0 ≤ m ∧ m < 2 ^ gg ∧ m ≤ n ∧ e + gg = 64 ∧ (0 < m → (e : Int) + m ≤ n) ∧ acc.length ≤ e ∧ de.go (he.f N b) (he.digs gg b m) e acc = he.f (N + 1) b n ∧ Aside0 (Kd.R k69 69 wr w.heap.size (fun _ => True) vo acc) ∧ Aside0 (wr.heap[w.heap.size + 1]? = some (.cells #[vo] 24 (0, 0))) ∧ Aside0 (wr.heap[w.heap.size]? = some (.cells #[.slice none 0 0] 24 (0, 0))) ∧ Aside0 (Below w.heap.size w wr))
    case atStart => exact ⟨n, 0, [], _, rfl, rfl, hn0, hp64, Int.le_refl _, by omega, by omega, by simp, hfull, ⟨Kd.R_nil _ _ _ _ _⟩, ⟨hou⟩, ⟨hrc⟩, ⟨hB3⟩⟩
    case round =>
      obtain ⟨m, e, acc, vo, rfl, rfl, hm0, hmk, hmn, hek, hen, hal, hgo, HR, HOU, HRC, HB⟩ := hrel
      clear hrc hou hB3 hw3 hp64 hfull
      by_cases hpos : 0 < m
      · cases gk with
        | zero => exact absurd hmk (by simp; omega)
        | succ k =>
          obtain ⟨q1, q2, q3⟩ := he.step hb hpos hmk
          have hgt : decide (0 < m) = true := decide_eq_true hpos
          have hdd : he.digs (k + 1) b m = m % b :: he.digs k b (m / b) := by show (if m > 0 then _ else _) = _; rw [if_pos hpos]
          rw [hdd] at hgo
          have hgo2 : de.go (he.f N b) (he.digs k b (m / b)) (e + 1) (if m % b > 0 then ⟨⟨he.f N b (e : Int)⟩, m % b⟩ :: acc else acc) = he.f (N + 1) b n := hgo
          have hen2 : 0 < m / b → ((e + 1 : Nat) : Int) + m / b ≤ n := by intro h; have := hen hpos; omega
          clear hgo hdd
          have HGO := Aside0.mk hgo2
          obtain ⟨Ao, co, rfl⟩ := Kd.R_slice HR.out
          clear hgo2
          by_cases hrem : m % b > 0
          · have hrt : decide (0 < m % b) = true := decide_eq_true hrem
            rw [if_pos hrem] at HGO
            have hz9 := de.zero69
            go_upto_region 6 with (fail)
            have HCALL := Aside0.mk (fun W' => HI.out (e : Int) (by omega) (by have := hen hpos; omega) (by have := hen hpos; omega) W')
            have HF2 := Aside0.mk hen2
            refine start_ (n := 9) (S := fun _ => True) (ds := [8]) #[false, false, false, false, false, false, false, false, false] (by kernel_rfl) rfl rfl trivial (fun hHeld => ?_); refine with_tabW de.r6.tab de.r6.bits (fun HT_ HW_ => ?_)
            have KB := Aside0.mk (below_drew1 (Below.refl wr.heap.size wr))
            generalize wr.drew = w4 at KB ⊢
            refine pure_ (i := 0) (N := (some 17)) (v := ?_) (a' := ?_) #[true, false, false, false, false, false, false, false, false] rfl rfl (any_of HT_.out (by kernel_rfl)) (fun _ _ _ h => h) (Or.inl ⟨by rfl, ?_⟩) ?_ ?_
            rotate_left
            · intro w'
              go_simp
              with_reducible rfl
            rotate_left
            · simp only [Act.put, List.setIfInBounds_toArray, List.set_cons_zero, List.set_cons_succ, i64_w, i32_w]
              rfl
            refine pure_ (i := 1) (N := (some 18)) (v := ?_) (a' := ?_) #[true, true, false, false, false, false, false, false, false] rfl rfl (any_of HT_.out (by kernel_rfl)) (fun _ _ _ h => h) (Or.inl ⟨by rfl, ?_⟩) ?_ ?_
            rotate_left
            · intro w'
              go_simp
              with_reducible rfl
            rotate_left
            · simp only [Act.put, List.setIfInBounds_toArray, List.set_cons_zero, List.set_cons_succ, i64_w, i32_w]
              rfl
            refine pure_ (i := 3) (N := (some 20)) (v := ?_) (a' := ?_) #[true, true, false, true, false, false, false, false, false] rfl rfl (any_of HT_.out (by kernel_rfl)) (fun _ _ _ h => h) (Or.inl ⟨by rfl, ?_⟩) ?_ ?_
            rotate_left
            · intro w'
              go_simp
              with_reducible rfl
            rotate_left
            · simp only [Act.put, List.setIfInBounds_toArray, List.set_cons_zero, List.set_cons_succ, i64_w, i32_w]
              rfl
            refine pure_ (i := 4) (N := (some 21)) (v := ?_) (a' := ?_) #[true, true, false, true, true, false, false, false, false] rfl rfl (any_of HT_.out (by kernel_rfl)) (fun _ _ _ h => h) (Or.inl ⟨by rfl, ?_⟩) ?_ ?_
            rotate_left
            · intro w'
              go_simp
              with_reducible rfl
            rotate_left
            · simp only [Act.put, List.setIfInBounds_toArray, List.set_cons_zero, List.set_cons_succ, i64_w, i32_w]
              rfl
            refine pure_ (i := 5) (N := (some 22)) (v := ?_) (a' := ?_) #[true, true, false, true, true, true, false, false, false] rfl rfl (any_of HT_.out (by kernel_rfl)) (fun _ _ _ h => h) (Or.inl ⟨by rfl, ?_⟩) ?_ ?_
            rotate_left
            · intro w'
              go_simp
              rw [if_neg (by omega), Int.tmod_eq_emod_of_nonneg hm0]
            rotate_left
            · simp only [Act.put, List.setIfInBounds_toArray, List.set_cons_zero, List.set_cons_succ, i64_w, i32_w]
              rfl
            refine join_ (σ := Value × Nat) 1 #[true, true, true, true, true, true, true, true, false] (fun s => [(19, .agg #[s.1]), (23, .agg #[s.1, .int .i64 (m % b)]), (7, .pointer (some ⟨s.2, 0, none⟩))]) (fun (s : Value × Nat) (Wa : World) => ∃ (Wc W2 : World) (Ai : Option Addr) (ci : Nat), s.1 = .slice Ai (he.f N b (e : Int)).length ci ∧ Kd.R k69 69 W2 Wc.heap.size (fun _ => True) s.1 (he.f N b (e : Int)) ∧ wr.heap.size ≤ Wc.heap.size ∧ Below W2.heap.size W2 Wa ∧ Below wr.heap.size wr Wa ∧ Wa.heap[s.2]? = some (.cells #[.slice none 0 0, .int .i64 0] 69 (0, 0)) ∧ wr.heap.size ≤ s.2 ∧ (W2.heap.size ≤ s.2 ∨ s.2 < Wc.heap.size)) ?hcont (fun hcont => ?_)
            rotate_left
            · refine two_ (i := 2) (j := 7) (Ni := some 19) (Nj := some 7) #[true, true, true, true, true, true, false, false, false] #[true, true, false, true, true, true, false, true, false] rfl rfl rfl rfl (two_of HT_.out (by kernel_rfl)) (by decide) (by decide) (fun K hK => ?_) (fun K hK => ?_)
              · refine goes_ Try.func67 (by kernel_rfl) rfl #[.int .i64 (e : Int), .int .i64 b] (by rfl) rfl rfl (by (try simp only [List.map_toArray, List.map_cons, List.map_nil]); first | done | rfl) ?_
                refine (HCALL.out _).mono ?_
                rintro e5 w5 ⟨vi, rfl, hri, hbi⟩
                refine ⟨_, rfl, ?_⟩
                obtain ⟨Ai, ci, rfl⟩ := Kd.R_slice hri
                refine hK.out _ _ trivial (fun hHeld => ?_)
                clear hK K
                refine norm_ (a' := ?_) ?_ ?_
                rotate_left
                · show Act.put _ (some 19) _ = _
                  simp only [Act.put, List.setIfInBounds_toArray, List.set_cons_zero, List.set_cons_succ, i64_w, i32_w]
                  rfl
                refine pure_ (i := 6) (N := (some 23)) (v := ?_) (a' := ?_) #[true, true, true, true, true, true, true, false, false] rfl rfl (any_of HT_.out (by kernel_rfl)) (fun _ _ _ h => h) (Or.inl ⟨by rfl, ?_⟩) ?_ ?_
                rotate_left
                · intro w'
                  go_simp
                  with_reducible rfl
                rotate_left
                · simp only [Act.put, List.setIfInBounds_toArray, List.set_cons_zero, List.set_cons_succ, i64_w, i32_w]
                  rfl
                refine one_ (i := 7) (N := some 7) #[true, true, true, true, true, true, true, true, false] rfl rfl (one_of HT_.out (by kernel_rfl)) (by decide) (fun K hK => ?_)
                refine value_ (w1 := ?_) (v := ?_) (by rfl) rfl ?_ ?_
                rotate_left 2
                · go_simp
                  constructor
                  · rfl
                  · rfl
                refine hK.out _ _ trivial (fun hHeld => ?_)
                clear hK K
                exact hcont (.slice Ai (he.f N b (e : Int)).length ci, w5.heap.size) _ ⟨w4, w5, Ai, ci, rfl, hri, KB.out.size, below_alloc (Below.refl _ _) _, below_step KB.out (below_step hbi (below_alloc (Below.refl _ _) _)), heap_alloc_new w5 _, Nat.le_trans KB.out.size hbi.size, .inl (Nat.le_refl _)⟩
              · refine value_ (w1 := ?_) (v := ?_) (by rfl) rfl ?_ ?_
                rotate_left 2
                · go_simp
                  constructor
                  · rfl
                  · rfl
                have hz5 := heap_alloc_new w4 (.cells #[.slice none 0 0, .int .i64 0] 69)
                have kb5 := below_step KB.out (below_alloc (Below.refl w4.heap.size w4) (.cells #[.slice none 0 0, .int .i64 0] 69))
                have hlt5 : w4.heap.size < (w4.alloc (.cells #[.slice none 0 0, .int .i64 0] 69)).heap.size := by rw [World.size_alloc]; exact Nat.lt_succ_self _
                refine hK.out _ _ trivial (fun hHeld => ?_)
                clear hK K
                refine norm_ (a' := ?_) ?_ ?_
                rotate_left
                · show Act.put _ (some 7) _ = _
                  simp only [Act.put, List.setIfInBounds_toArray, List.set_cons_zero, List.set_cons_succ, i64_w, i32_w]
                  rfl
                generalize w4.alloc (.cells #[.slice none 0 0, .int .i64 0] 69) = w5 at hz5 kb5 hlt5 ⊢
                refine one_ (i := 2) (N := some 19) #[true, true, true, true, true, true, false, true, false] rfl rfl (one_of HT_.out (by kernel_rfl)) (by decide) (fun K hK => ?_)
                refine goes_ Try.func67 (by kernel_rfl) rfl #[.int .i64 (e : Int), .int .i64 b] (by rfl) rfl rfl (by (try simp only [List.map_toArray, List.map_cons, List.map_nil]); first | done | rfl) ?_
                refine (HCALL.out _).mono ?_
                rintro e6 w6 ⟨vi, rfl, hri, hbi⟩
                refine ⟨_, rfl, ?_⟩
                obtain ⟨Ai, ci, rfl⟩ := Kd.R_slice hri
                refine hK.out _ _ trivial (fun hHeld => ?_)
                clear hK K
                refine norm_ (a' := ?_) ?_ ?_
                rotate_left
                · show Act.put _ (some 19) _ = _
                  simp only [Act.put, List.setIfInBounds_toArray, List.set_cons_zero, List.set_cons_succ, i64_w, i32_w]
                  rfl
                refine pure_ (i := 6) (N := (some 23)) (v := ?_) (a' := ?_) #[true, true, true, true, true, true, true, true, false] rfl rfl (any_of HT_.out (by kernel_rfl)) (fun _ _ _ h => h) (Or.inl ⟨by rfl, ?_⟩) ?_ ?_
                rotate_left
                · intro w'
                  go_simp
                  with_reducible rfl
                rotate_left
                · simp only [Act.put, List.setIfInBounds_toArray, List.set_cons_zero, List.set_cons_succ, i64_w, i32_w]
                  rfl
                exact hcont (.slice Ai (he.f N b (e : Int)).length ci, w4.heap.size) _ ⟨w5, w6, Ai, ci, rfl, hri, kb5.size, Below.refl _ _, below_step kb5 hbi, blk_below hz5 hbi, KB.out.size, .inr hlt5⟩
            rintro ⟨vi, f⟩ Wa ⟨Wc, W2, Ai, ci, e1, hri, hcs, hda, hwa, hz8, hf0, hff⟩
            dsimp only at e1 hri hz8 hf0 hff
            subst e1
            refine norm_ (a' := ?_) ?_ ?_
            rotate_left
            · simp only [putAll, Act.put, List.setIfInBounds_toArray, List.set_cons_zero, List.set_cons_succ, i64_w, i32_w]
              rfl
            have z0_ := (blk_cell hz8 0).trans rfl
            have z1_ := (blk_cell hz8 1).trans rfl
            have z2_ := blk_frozen hz8 0
            have z3_ := blk_frozen hz8 1
            refine last_ (i := 8) (N := none) #[true, true, true, true, true, true, true, true, true] rfl rfl (one_of HT_.out (by kernel_rfl)) (by decide) (fun K hK => ?_)
            refine skip_ (w1 := ((Wa.setCell ⟨f, 0, none⟩ (.slice Ai (he.f N b (e : Int)).length ci)).setCell ⟨f, 1, none⟩ (.int .i64 (m % b)))) (by rfl) rfl ?_ ?_
            · go_simp
            have hf1 : ((Wa.setCell ⟨f, 0, none⟩ (.slice Ai (he.f N b (e : Int)).length ci)).setCell ⟨f, 1, none⟩ (.int .i64 (m % b))).heap[f]? = some (.cells #[.slice Ai (he.f N b (e : Int)).length ci, .int .i64 (m % b)] 69 (0, 0)) := blk_put (cs := #[.slice Ai (he.f N b (e : Int)).length ci, .int .i64 0]) (blk_put hz8 0 _ rfl) 1 _ rfl
            have hgf := (he.grown_set Wa ⟨f, 0, none⟩ (.slice Ai (he.f N b (e : Int)).length ci)).trans (he.grown_set (Wa.setCell ⟨f, 0, none⟩ (.slice Ai (he.f N b (e : Int)).length ci)) ⟨f, 1, none⟩ (.int .i64 (m % b)))
            have hf3 : Below wr.heap.size wr ((Wa.setCell ⟨f, 0, none⟩ (.slice Ai (he.f N b (e : Int)).length ci)).setCell ⟨f, 1, none⟩ (.int .i64 (m % b))) := hwa.grown hgf hwa.size (fun k e2 => by cases e2; exact hf0)
            have hin := de.inner (base := w.heap.size) (Wf := ((Wa.setCell ⟨f, 0, none⟩ (.slice Ai (he.f N b (e : Int)).length ci)).setCell ⟨f, 1, none⟩ (.int .i64 (m % b)))) hri (fun k hk hkf => (hgf.block k (Nat.lt_of_lt_of_le hk hda.size) (fun e2 => hkf (Option.some.inj e2))).trans (hda.block k hk)) hff (Nat.le_trans HB.out.size hcs) (Nat.le_trans hda.size hgf.size)
            refine hK.out _ _ ?_
            clear hK K z0_ z1_ z2_ z3_ hri hda hwa hz8 hff hgf
            generalize ((Wa.setCell ⟨f, 0, none⟩ (.slice Ai (he.f N b (e : Int)).length ci)).setCell ⟨f, 1, none⟩ (.int .i64 (m % b))) = w10 at hf1 hf3 hin ⊢
            refine done_ (done_of HT_.out (by kernel_rfl)) ?_
            clear HT_ HW_ hHeld HCALL KB
            have c70 := (blk_cell hf1 0).trans rfl
            have c71 := (blk_cell hf1 1).trans rfl
            have HRO := Aside0.mk (Kd.R_mono (ok' := fun k => k < w10.heap.size) (Kd.R_bound (Kd.R_below HR.out hf3)) (fun k hk => hk.2.2.1))
            have HBF := Aside0.mk ((below_step HB.out hf3).alloc (below_step HB.out hf3).size (.cells #[.slice Ai (he.f N b (e : Int)).length ci, .int .i64 (m % b)] 69))
            have HOF := Aside0.mk (blk_alloc (blk_below HOU.out hf3) (.cells #[.slice Ai (he.f N b (e : Int)).length ci, .int .i64 (m % b)] 69))
            have HCF := Aside0.mk (blk_alloc (blk_below HRC.out hf3) (.cells #[.slice Ai (he.f N b (e : Int)).length ci, .int .i64 (m % b)] 69))
            have KR := Aside0.mk (de.lit (m % b) hin (below_step HB.out hf3).size)
            have HRA := Aside0.mk (Kd.R_alloc HRO.out (.cells #[.slice Ai (he.f N b (e : Int)).length ci, .int .i64 (m % b)] 69))
            have o0 := (blk_cell HOF.out 0).trans rfl
            clear hf1 hf3 hin HOU HR HB HRC
            go_wp2_with (first
              | ((with_reducible refine gate_builtin (b := .append) (xs := #[.tmp 25, .tmp 27]) rfl ?_); at_builtin; refine Kd.R_append_rows k69 (Rr := k69.M (w10.alloc (.cells #[.slice Ai (he.f N b (e : Int)).length ci, .int .i64 (m % b)] 69)) w.heap.size (fun k => k < w10.heap.size)) (w0 := w) w.heap.size rfl (.tmp 25) (.tmp 27) 22 69 (.agg #[(.slice none 0 0), (.int .i64 0)]) 32 rfl Try.underlying22 he.info69 rfl (by decide) (by omega) (.slice (some ⟨w10.heap.size, 0, none⟩) 1 1) [(⟨⟨he.f N b (e : Int)⟩, m % b⟩ : S69)] acc Ao acc.length co (fun _ => True) (fun k => k < w10.heap.size) rfl rfl KR.out ?aR (fun _ _ h => h) ?aO (fun _ _ => trivial) HBF.out HBF.out.size ?aL ?_; (case aR => obtain ⟨A, c, e2, hr⟩ := de.oldrow HRA.out; cases e2; exact hr); (case aO => intro k hk; exact ⟨trivial, fun e2 => by simp [Value.ownBlock] at e2; omega⟩); (case aL => simp; omega); intro v28 w9 ho hb9 hg9 hat9; obtain ⟨A28, c28, rfl⟩ := Kd.R_slice ho; have KN := Aside0.mk ho; have n1_ := Aside0.mk hb9; have n2_ := Aside0.mk (blk_grown HOF.out hg9 (Kd.R_ne KR.out HOF.out (by decide))); have n3_ := Aside0.mk (blk_grown HCF.out hg9 (Kd.R_ne KR.out HCF.out (by decide))); clear ho hb9 hg9 hat9 HBF HOF HCF o0; have HBF := n1_; have HOF := n2_; have HCF := n3_; clear n1_ n2_ n3_; have o0 := (blk_cell HOF.out 0).trans rfl; have of := blk_frozen HOF.out 0))
            go_roundg k
            case measure => omega
            case rel => exact ⟨m / b, e + 1, _, _, rfl, by go_num, q1, q2, by omega, by omega, HF2.out, by simp; omega, HGO.out, ⟨he.farR HOF.out KN.out _ (he.grown_set w9 ⟨w.heap.size + 1, 0, none⟩ _)⟩, ⟨blk_put HOF.out 0 _ rfl⟩, ⟨blk_grown HCF.out (he.grown_set w9 ⟨w.heap.size + 1, 0, none⟩ _) (fun e2 => by have := Option.some.inj e2; simp only at this; omega)⟩, ⟨below_set HBF.out (Nat.le_succ _)⟩⟩
          · have hrt : decide (0 < m % b) = false := decide_eq_false hrem
            rw [if_neg hrem] at HGO
            go_wp2
            go_roundg k
            case measure => omega
            case rel => exact ⟨m / b, e + 1, acc, _, rfl, by go_num, q1, q2, by omega, by omega, hen2, by omega, HGO.out, HR, HOU, HRC, HB⟩
      · obtain rfl : m = 0 := by omega
        have hz0 : he.digs gk b 0 = [] := by cases gk <;> simp [he.digs]
        rw [hz0] at hgo
        have hgo2 : acc = he.f (N + 1) b n := hgo
        clear hmk hmn hpos hz0 hgo hen
        subst hgo2
        obtain ⟨Av, cv, rfl⟩ := Kd.R_slice HR.out
        have o0 := (blk_cell HOU.out 0).trans rfl
        have c0 := (blk_cell HRC.out 0).trans rfl
        have cf := blk_frozen HRC.out 0
        go_wp2
        refine bodyPost_ret (results_single (r := .cell 4 24) rfl (.cell _ 24 #[.slice Av (he.f (N + 1) b n).length cv] (0, 0) _ rfl (blk_put HRC.out 0 _ rfl) Try.underlying24 rfl he.info24 .nil)) rfl ?_
        exact ⟨_, rfl, he.farR HRC.out HR.out _ (he.grown_set wr ⟨w.heap.size, 0, none⟩ _), below_set HB.out (Nat.le_refl _)⟩
def spec_deForm.f (a0 a1 : Int) : Option (List (S69)) := if 0 ≤ a0 ∧ a0 ≤ 1000000 ∧ 2 ≤ a1 ∧ a1 ≤ 2000000 then some (he.f (a0.toNat + 1) a1 a0) else none
theorem spec_deForm.calls (a0 : Int) (a1 : Int) (r : List (S69)) (w : World) (h : spec_deForm.f a0 a1 = some r) :
    Calls Try.prog 67 #[.int .i64 a0, .int .i64 a1] w fun e w' => ∃ v0_ : Value, e = .returned (.agg #[v0_]) ∧ Kd.R k69 69 w' w.heap.size (fun _ => True) v0_ r ∧ Below w.heap.size w w' := by
  unfold spec_deForm.f at h
  by_cases hc : 0 ≤ a0 ∧ a0 ≤ 1000000 ∧ 2 ≤ a1 ∧ a1 ≤ 2000000
  · rw [if_pos hc] at h
    obtain rfl := Option.some.inj h
    exact de.calls a1 hc.2.2.1 hc.2.2.2 (a0.toNat + 1) a0 hc.1 (by omega) hc.2.1 w
  · rw [if_neg hc] at h
    cases h

end Go.Proofs.Ytgjpfhedhehmdaa.QFnExactGoodsteinRun
