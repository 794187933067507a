/- The Go functions that the law FnExactProveOrder reaches, as Lean functions, and what their calls do. Written by a program of this session. -/
import Derived.Test.YtpiafobcmhfclaaQFnExactProveOrderx0
import Derived.Test.YtpiafobcmhfclaaQFnExactProveOrderx4
namespace Go.Proofs.Ytpiafobcmhfclaa.QFnExactProveOrder
open Go.RowKit Go.Proofs.YtpiafobcmhfclaaW.PrintWords Go.Proofs.YtpiafobcmhfclaaW.PrintLast Go.Proofs.YtpiafobcmhfclaaW.PrintMore
attribute [local go_sem] max2_int min2_int max_two min_two max_three min_three max_four min_four   -- for this text's walks alone
set_option linter.unusedVariables false
set_option linter.unusedSimpArgs false

/-! ### impl_ProveOrder: function 32 -/
/-- Each position's options lie below it. -/
def jd.Wf (g : List S57) : Prop := g.length ≤ 40 ∧ ∀ i : Nat, ∀ h : i < g.length, (∀ x ∈ (g[i]'h).f0, 0 ≤ x ∧ x < (i : Int)) ∧ ∀ x ∈ (g[i]'h).f1, 0 ≤ x ∧ x < (i : Int)
theorem jd.at {g : List S57} (i : Nat) (h : i < g.length) : rd_T57 g (i : Int) = g[i] := by simp [rd_T57, List.getD_eq_getElem?_getD, List.getElem?_eq_getElem h]
def jd.wfB (g : List S57) : Bool := decide (g.length ≤ 40) && (List.range g.length).all fun i => (rd_T57 g (i : Int)).f0.all (fun x => decide (0 ≤ x) && decide (x < (i : Int))) && (rd_T57 g (i : Int)).f1.all (fun x => decide (0 ≤ x) && decide (x < (i : Int))) && (decide ((rd_T57 g (i : Int)).f0.length ≤ 1048576) && decide ((rd_T57 g (i : Int)).f1.length ≤ 1048576))
theorem jd.wf_of {g : List S57} (h : jd.wfB g = true) : jd.Wf g := by
  unfold jd.wfB at h
  rw [Bool.and_eq_true, decide_eq_true_eq, List.all_eq_true] at h
  refine ⟨h.1, fun i hi => ?_⟩
  have := h.2 i (List.mem_range.2 hi)
  rw [jd.at i hi, Bool.and_eq_true, Bool.and_eq_true, List.all_eq_true, List.all_eq_true] at this
  refine ⟨fun x hx => ?_, fun x hx => ?_⟩
  · have := this.1.1 x hx
    simpa using this
  · have := this.1.2 x hx
    simpa using this
/-! #### prove: the claims behind one another, with a table of pairs -/
def pv.look (L : List S84) (a b : Int) : Option Bool := (L.find? (fun c => c.f0 == a && c.f1 == b)).map (fun c => c.f2)
/-- One option of a position: the reason, if none was there. -/
def pv.step (run : List S84 → Int → List S84 × Bool) (mk : Int → S84) (s : List S84 × S84) (x : Int) : List S84 × S84 :=
  if s.2.f2 = true then ((run s.1 x).1, if (run s.1 x).2 = true then mk x else s.2) else s
def pv.run : Nat → List S57 → List S84 → Int → Int → List S84 × Bool
  | 0, _, L, _, _ => (L, true)
  | N + 1, g, L, a, b => match pv.look L a b with
    | some h => (L, h)
    | none =>
      let s1 := (rd_T57 g a).f0.foldl (pv.step (fun L x => pv.run N g L b x) (fun x => ⟨a, b, false, x, 0⟩)) (L, ⟨a, b, true, 0, 0⟩)
      let s2 := (rd_T57 g b).f1.foldl (pv.step (fun L y => pv.run N g L y a) (fun y => ⟨a, b, false, y, 1⟩)) s1
      (s2.1 ++ [s2.2], s2.2.f2)
theorem pv.look_snoc (L : List S84) (c : S84) (a b : Int) : pv.look (L ++ [c]) a b = match pv.look L a b with | some h => some h | none => if c.f0 = a ∧ c.f1 = b then some c.f2 else none := by
  unfold pv.look
  rw [List.find?_append]
  cases hf : L.find? (fun c => c.f0 == a && c.f1 == b) with
  | some d => rfl
  | none =>
    simp only [Option.none_or, Option.map_none, List.find?_cons, List.find?_nil]
    by_cases h : c.f0 = a ∧ c.f1 = b
    · rw [if_pos h, h.1, h.2]; simp
    · rw [if_neg h]
      have : (c.f0 == a && c.f1 == b) = false := by
        rw [Bool.and_eq_false_iff]
        by_cases h1 : c.f0 = a
        · right; simpa using fun h2 => h ⟨h1, h2⟩
        · left; simpa using h1
      rw [this]
      rfl
theorem pv.look_other (L : List S84) (c : S84) (a b : Int) (h : ¬ (c.f0 = a ∧ c.f1 = b)) : pv.look (L ++ [c]) a b = pv.look L a b := by
  rw [pv.look_snoc]
  cases pv.look L a b with
  | some h => rfl
  | none => simp only [if_neg h]
/-- What a fold over options keeps: the claims' keys of great sum, and the claim's own key. -/
theorem pv.fold_keep (run : List S84 → Int → List S84 × Bool) (mk : Int → S84) (P : List S84 → Prop) (a b : Int) (hmk : ∀ x, (mk x).f0 = a ∧ (mk x).f1 = b) : ∀ (xs : List Int) (s : List S84 × S84), (∀ x ∈ xs, ∀ L, P L → P (run L x).1) → P s.1 → s.2.f0 = a ∧ s.2.f1 = b →
    P (xs.foldl (pv.step run mk) s).1 ∧ (xs.foldl (pv.step run mk) s).2.f0 = a ∧ (xs.foldl (pv.step run mk) s).2.f1 = b
  | [], s, _, hP, hs => ⟨hP, hs⟩
  | x :: xs, s, hr, hP, hs => by
    rw [List.foldl_cons]
    refine pv.fold_keep run mk P a b hmk xs _ (fun y hy => hr y (List.mem_cons_of_mem _ hy)) ?_ ?_
    · unfold pv.step
      split
      · exact hr x (List.mem_cons_self ..) _ hP
      · exact hP
    · unfold pv.step
      split
      · show (if _ then mk x else s.2).f0 = a ∧ (if _ then mk x else s.2).f1 = b
        split
        · exact hmk x
        · exact hs
      · exact hs
theorem pv.keep {g : List S57} (hw : jd.Wf g) (p q : Int) (h : Option Bool) : ∀ (N a b : Nat), a < g.length → b < g.length → (a : Int) + b < p + q → ∀ L, pv.look L p q = h → pv.look (pv.run N g L a b).1 p q = h := by
  intro N
  induction N with
  | zero => intro a b _ _ _ L hL; exact hL
  | succ N ih =>
    intro a b ha hb hab L hL
    rw [pv.run]
    cases hk : pv.look L a b with
    | some v => exact hL
    | none =>
      have hA : ∀ x ∈ (rd_T57 g (a : Int)).f0, 0 ≤ x ∧ x < (a : Int) := by rw [jd.at a ha]; exact (hw.2 a ha).1
      have hB : ∀ x ∈ (rd_T57 g (b : Int)).f1, 0 ≤ x ∧ x < (b : Int) := by rw [jd.at b hb]; exact (hw.2 b hb).2
      have k1 := pv.fold_keep (fun L x => pv.run N g L b x) (fun x => (⟨a, b, false, x, 0⟩ : S84)) (fun L => pv.look L p q = h) a b (fun x => ⟨rfl, rfl⟩) _ (L, ⟨a, b, true, 0, 0⟩) (fun x hx L hL => by
        obtain ⟨x0, x1⟩ := hA x hx
        obtain ⟨n, rfl⟩ : ∃ n : Nat, x = (n : Int) := ⟨x.toNat, by omega⟩
        exact ih b n hb (by omega) (by omega) L hL) hL ⟨rfl, rfl⟩
      have k2 := pv.fold_keep (fun L y => pv.run N g L y a) (fun y => (⟨a, b, false, y, 1⟩ : S84)) (fun L => pv.look L p q = h) a b (fun x => ⟨rfl, rfl⟩) _ _ (fun x hx L hL => by
        obtain ⟨x0, x1⟩ := hB x hx
        obtain ⟨n, rfl⟩ : ∃ n : Nat, x = (n : Int) := ⟨x.toNat, by omega⟩
        exact ih n a (by omega) ha (by omega) L hL) k1.1 k1.2
      show pv.look (_ ++ [_]) p q = h
      rw [pv.look_other _ _ _ _ (fun e => by have := k2.2.1.symm.trans e.1; have := k2.2.2.symm.trans e.2; omega)]
      exact k2.1
theorem pv.fold_grow (run : List S84 → Int → List S84 × Bool) (mk : Int → S84) (hr : ∀ L x, L.length ≤ (run L x).1.length) : ∀ (xs : List Int) (s : List S84 × S84), s.1.length ≤ (xs.foldl (pv.step run mk) s).1.length
  | [], s => Nat.le_refl _
  | x :: xs, s => by
    rw [List.foldl_cons]
    refine Nat.le_trans ?_ (pv.fold_grow run mk hr xs _)
    unfold pv.step
    split
    · exact hr s.1 x
    · exact Nat.le_refl _
theorem pv.grow : ∀ (N : Nat) (g : List S57) (L : List S84) (a b : Int), L.length ≤ (pv.run N g L a b).1.length
  | 0, g, L, a, b => Nat.le_refl _
  | N + 1, g, L, a, b => by
    rw [pv.run]
    cases pv.look L a b with
    | some h => exact Nat.le_refl _
    | none =>
      have k1 := pv.fold_grow (fun L x => pv.run N g L b x) (fun x => (⟨a, b, false, x, 0⟩ : S84)) (fun L x => pv.grow N g L b x) (rd_T57 g a).f0 (L, ⟨a, b, true, 0, 0⟩)
      have k2 := pv.fold_grow (fun L y => pv.run N g L y a) (fun y => (⟨a, b, false, y, 1⟩ : S84)) (fun L y => pv.grow N g L y a) (rd_T57 g b).f1 ((rd_T57 g a).f0.foldl (pv.step (fun L x => pv.run N g L b x) (fun x => (⟨a, b, false, x, 0⟩ : S84))) (L, ⟨a, b, true, 0, 0⟩))
      show L.length ≤ (_ ++ [_] : List S84).length
      rw [List.length_append]
      exact Nat.le_trans (Nat.le_trans k1 k2) (Nat.le_add_right _ _)
theorem pv.two : MpP.Two Try.prog 107 3 := ⟨⟨Try.underlying107, by kernel_rfl, by kernel_rfl, by kernel_rfl⟩, Try.underlying3, ⟨Try.prog.types.size - 1, by kernel_rfl⟩⟩
theorem pv.zB (w : World) : (zeroValue 4).run Try.prog w = .ok (.bool false) w := by kernel_rfl
/-- The prover in memory: its positions, its claims, its table. -/
def pv.J (g : List S57) (A : Option Addr) (c bj bm base : Nat) (L : List S84) (v : Value) (w : World) : Prop :=
  w.heap[bj]? = some (.cells #[.slice A g.length c, v, .map (some bm)] 80 (0, 0)) ∧ Kd.R k84 84 w base (fun _ => True) v L ∧ ∃ f, MpP.OwnP w Try.prog 107 4 bm f ∧ ∀ p : Nat × Nat, f p = pv.look L p.1 p.2
theorem pv.J.kept {g : List S57} {A : Option Addr} {c bj bm base : Nat} {L : List S84} {v : Value} {w w' : World} (h : pv.J g A c bj bm base L v w) (hg : w.grownBy w' none) : pv.J g A c bj bm base L v w' := by
  obtain ⟨q1, qr, f, q2, q3⟩ := h
  exact ⟨blk_grown q1 hg (by simp), Kd.R_grown qr hg (by simp), f, q2.kept hg (by simp), q3⟩
def pv.S (bj bm : Nat) (v : Value) (k : Nat) : Prop := k = bj ∨ k = bm ∨ v.ownBlock = some k
theorem pv.grown_set (w : World) (p : Addr) (u : Value) : w.grownBy (w.setCell p u) (some p.block) := ⟨rfl, rfl, rfl, by simp [World.setCell], fun k _ hk => Below.heap_setCell w p u k (fun e => hk (by rw [e]))⟩
theorem pv.next {g : List S57} {A : Option Addr} {c bj bm base kc : Nat} {L : List S84} {v v' v5 : Value} {w wr w5 : World} {cs ks : Array Value} (hbj : bj < w.heap.size) (hbm : bm < w.heap.size) (hkc : w.heap.size < kc) (HJ : pv.J g A c bj bm base L v' wr)
    (KC : wr.heap[kc]? = some (.cells cs 84 (0, 0))) (K3 : wr.heap[w.heap.size]? = some (.cells ks 107 (0, 0))) (HKP : Kept w wr (pv.S bj bm v)) (HOW : v'.ownBlock = v.ownBlock ∨ ∃ b, v'.ownBlock = some b ∧ w.heap.size ≤ b) (HNE : v'.ownBlock ≠ some kc)
    (hK5 : Kept wr w5 (pv.S bj bm v')) (hO5 : v5.ownBlock = v'.ownBlock ∨ ∃ b, v5.ownBlock = some b ∧ wr.heap.size ≤ b) :
    w5.heap[kc]? = some (.cells cs 84 (0, 0)) ∧ w5.heap[w.heap.size]? = some (.cells ks 107 (0, 0)) ∧ Kept w w5 (pv.S bj bm v) ∧ (v5.ownBlock = v.ownBlock ∨ ∃ b, v5.ownBlock = some b ∧ w.heap.size ≤ b) ∧ v5.ownBlock ≠ some kc := by
  have hlt := blk_lt KC
  refine ⟨(hK5.2 kc hlt ?_).trans KC, (hK5.2 _ (blk_lt K3) ?_).trans K3, HKP.then_ hK5 ?_, ?_, ?_⟩
  · rintro (e | e | e)
    · omega
    · omega
    · exact HNE e
  · rintro (e | e | e)
    · omega
    · omega
    · exact Kd.R_ne HJ.2.1 K3 (by decide) e.symm
  · rintro k (e | e | e)
    · exact Or.inl (Or.inl e)
    · exact Or.inl (Or.inr (Or.inl e))
    · rcases HOW with q | ⟨b, q1, q2⟩
      · exact Or.inl (Or.inr (Or.inr (q.symm.trans e)))
      · rw [q1] at e
        injection e with e
        exact Or.inr (by omega)
  · rcases hO5 with q | ⟨b, q1, q2⟩
    · rcases HOW with q' | ⟨b, q1, q2⟩
      · exact Or.inl (q.trans q')
      · exact Or.inr ⟨b, q.trans q1, q2⟩
    · exact Or.inr ⟨b, q1, Nat.le_trans HKP.1 q2⟩
  · intro e
    rcases hO5 with q | ⟨b, q1, q2⟩
    · exact HNE (q.symm.trans e)
    · rw [q1] at e
      injection e with e
      omega
theorem pv.J.far {g : List S57} {A : Option Addr} {c bj bm base kc : Nat} {L : List S84} {v : Value} {w w' : World} (h : pv.J g A c bj bm base L v w) (hg : w.grownBy w' (some kc)) (h1 : bj ≠ kc) (h2 : bm ≠ kc) (h3 : v.ownBlock ≠ some kc) : pv.J g A c bj bm base L v w' := by
  obtain ⟨q1, qr, f, q2, q3⟩ := h
  exact ⟨blk_grown q1 hg (fun e => h1 (Option.some.inj e)), Kd.R_mono (ok' := fun _ => True) (Kd.R_grown (ok := fun k => k ≠ kc) ⟨fun k hk e => h3 (by rw [hk, e]), qr.2⟩ hg (fun k hk e => hk (Option.some.inj e))) (fun _ _ => trivial), f, q2.kept hg (fun e => h2 (Option.some.inj e)), q3⟩
theorem pv.notmap {w : World} {bm : Nat} {es : Array MapEntry} {cl : Nat} (h : w.heap[bm]? = some (.map es cl)) {k q : Nat} {cs : Array Value} (hk : w.heap[k]? = some (.cells cs q (0, 0))) : k ≠ bm := by
  rintro rfl
  rw [h] at hk
  cases hk
theorem pv.mapOf {w : World} {bm : Nat} {f : Nat × Nat → Option Bool} (h : MpP.OwnP w Try.prog 107 4 bm f) : ∃ es cl, w.heap[bm]? = some (.map es cl) := by
  obtain ⟨n, ⟨D, ⟨es, cl, hb, _⟩, _⟩, _⟩ := h
  exact ⟨es, cl, hb⟩
theorem pv.rowNe {w : World} {bm base : Nat} {f : Nat × Nat → Option Bool} {ok : Nat → Prop} {v : Value} {L : List S84} (h : MpP.OwnP w Try.prog 107 4 bm f) (hr : Kd.R k84 84 w base ok v L) : some bm ≠ v.ownBlock := fun e => by
  obtain ⟨es, cl, hm⟩ := pv.mapOf h
  obtain ⟨_, _, _, q, _, cells, hc⟩ := (Kd.R_bound hr).1 bm e.symm
  exact pv.notmap hm hc rfl
theorem pv.mapkept {g : List S57} {A : Option Addr} {c bj bm base : Nat} {L : List S84} {v : Value} {w w' : World} (h : pv.J g A c bj bm base L v w) (hg : w.grownBy w' v.ownBlock) : ∃ f, MpP.OwnP w' Try.prog 107 4 bm f ∧ ∀ p : Nat × Nat, f p = pv.look L p.1 p.2 := by
  obtain ⟨q1, qr, f, q2, q3⟩ := h
  exact ⟨f, q2.kept hg (pv.rowNe q2 qr), q3⟩
theorem pv.keepR {w w' : World} {bm base : Nat} {f : Nat × Nat → Option Bool} {ok : Nat → Prop} {v : Value} {L : List S84} (h : MpP.OwnP w Try.prog 107 4 bm f) (hr : Kd.R k84 84 w base ok v L) (hg : w.grownBy w' (some bm)) : Kd.R k84 84 w' base ok v L := by
  obtain ⟨es, cl, hm⟩ := pv.mapOf h
  refine Kd.R_mono (Kd.R_move (Kd.R_bound hr) (fun k hk => hg.block k hk.2.2.1 (fun e => ?_))) (fun _ hk => hk.1)
  obtain ⟨_, _, _, q, _, cells, hc⟩ := hk
  exact pv.notmap hm hc (Option.some.inj e)
theorem pv.rowS {bj bm n : Nat} {v v2 : Value} (h : v2.ownBlock = v.ownBlock ∨ ∃ b, v2.ownBlock = some b ∧ n ≤ b) : ∀ k, v2.ownBlock = some k → pv.S bj bm v k ∨ n ≤ k := by
  intro k e
  rcases h with h | ⟨b, h1, h2⟩
  · exact Or.inl (Or.inr (Or.inr (h.symm.trans e)))
  · rw [h1] at e
    injection e with e
    exact Or.inr (by omega)
theorem pv.own2 {n m : Nat} {v v2 v6 : Value} (h : v2.ownBlock = v.ownBlock ∨ ∃ b, v2.ownBlock = some b ∧ n ≤ b) (h6 : v6.ownBlock = v2.ownBlock ∨ ∃ b, v6.ownBlock = some b ∧ m ≤ b) (hle : n ≤ m) : v6.ownBlock = v.ownBlock ∨ ∃ b, v6.ownBlock = some b ∧ n ≤ b := by
  rcases h6 with h6 | ⟨b, h1, h2⟩
  · rw [h6]
    exact h
  · exact Or.inr ⟨b, h1, Nat.le_trans hle h2⟩
theorem pv.unk {g : List S57} (hw : jd.Wf g) (N a b : Nat) (ha : a < g.length) (hb : b < g.length) (L : List S84) (h : pv.look L a b = none) :
    pv.look ((rd_T57 g b).f1.foldl (pv.step (fun L y => pv.run N g L y a) (fun y => (⟨a, b, false, y, 1⟩ : S84))) ((rd_T57 g a).f0.foldl (pv.step (fun L x => pv.run N g L b x) (fun x => (⟨a, b, false, x, 0⟩ : S84))) (L, ⟨a, b, true, 0, 0⟩))).1 a b = none ∧
    ((rd_T57 g b).f1.foldl (pv.step (fun L y => pv.run N g L y a) (fun y => (⟨a, b, false, y, 1⟩ : S84))) ((rd_T57 g a).f0.foldl (pv.step (fun L x => pv.run N g L b x) (fun x => (⟨a, b, false, x, 0⟩ : S84))) (L, ⟨a, b, true, 0, 0⟩))).2.f0 = a ∧
    ((rd_T57 g b).f1.foldl (pv.step (fun L y => pv.run N g L y a) (fun y => (⟨a, b, false, y, 1⟩ : S84))) ((rd_T57 g a).f0.foldl (pv.step (fun L x => pv.run N g L b x) (fun x => (⟨a, b, false, x, 0⟩ : S84))) (L, ⟨a, b, true, 0, 0⟩))).2.f1 = b := by
  have hA : ∀ x ∈ (rd_T57 g (a : Int)).f0, 0 ≤ x ∧ x < (a : Int) := by rw [jd.at a ha]; exact (hw.2 a ha).1
  have hB : ∀ x ∈ (rd_T57 g (b : Int)).f1, 0 ≤ x ∧ x < (b : Int) := by rw [jd.at b hb]; exact (hw.2 b hb).2
  have k1 := pv.fold_keep (fun L x => pv.run N g L b x) (fun x => (⟨a, b, false, x, 0⟩ : S84)) (fun L => pv.look L a b = none) a b (fun x => ⟨rfl, rfl⟩) _ (L, ⟨a, b, true, 0, 0⟩) (fun x hx L hL => by
    obtain ⟨x0, x1⟩ := hA x hx
    obtain ⟨n, rfl⟩ : ∃ n : Nat, x = (n : Int) := ⟨x.toNat, by omega⟩
    exact pv.keep hw a b none N b n hb (by omega) (by omega) L hL) h ⟨rfl, rfl⟩
  exact pv.fold_keep (fun L y => pv.run N g L y a) (fun y => (⟨a, b, false, y, 1⟩ : S84)) (fun L => pv.look L a b = none) a b (fun x => ⟨rfl, rfl⟩) _ _ (fun x hx L hL => by
    obtain ⟨x0, x1⟩ := hB x hx
    obtain ⟨n, rfl⟩ : ∃ n : Nat, x = (n : Int) := ⟨x.toNat, by omega⟩
    exact pv.keep hw a b none N n a (by omega) ha (by omega) L hL) k1.1 k1.2
def pv.T18 : Bool × List (List Nat × List Nat) := (true, [([], []), ([], []), ([1], [1]), ([2], [2]), ([3], [3]), ([], []), ([5], [5]), ([4, 6], [4, 6]), ([0, 0, 1, 2, 3, 4, 5, 6, 7], [0]), ([8, 0, 1, 2, 3, 4, 5, 6, 7], [8]), ([9, 7, 7, 0, 1, 2, 3, 4, 5, 6, 7], [7, 9])])
def pv.B18 : List Nat := [0, 0, 2, 6, 14, 0, 32, 126, 255, 511, 1023]
theorem pv.tab18 : rtab .any (opsOf Try.f65 18) = pv.T18 := by kernel_rfl
theorem pv.bits18 : waitsOk pv.T18.2 pv.B18 = true := by kernel_rfl
set_option maxHeartbeats 1000000 in
set_option maxRecDepth 100000 in
theorem pv.prove (g : List S57) (hw : jd.Wf g) (A : Option Addr) (c : Nat) (w0 : World) (hr : Kd.C k57 w0 A g.length g) (hc : g.length ≤ c) (bj bm : Nat) (hbj : w0.heap.size ≤ bj) (hbm : w0.heap.size ≤ bm) :
    ∀ (N a b : Nat), a + b < N → a < g.length → b < g.length → ∀ (L : List S84) (v : Value) (w : World), (pv.run N g L a b).1.length ≤ 1000000 → Below w0.heap.size w0 w → pv.J g A c bj bm w0.heap.size L v w →
      Calls Try.prog 65 #[.pointer (some ⟨bj, 0, none⟩), .int .i64 (a : Int), .int .i64 (b : Int)] w fun e w' => ∃ v' : Value, e = .returned (.bool (pv.run N g L a b).2) ∧ pv.J g A c bj bm w0.heap.size (pv.run N g L a b).1 v' w' ∧ Below w0.heap.size w0 w' ∧ Kept w w' (pv.S bj bm v) ∧ (v'.ownBlock = v.ownBlock ∨ ∃ b, v'.ownBlock = some b ∧ w.heap.size ≤ b) := by
  intro N
  induction N with
  | zero => intro a b h; omega
  | succ N IH =>
    intro a b hab ha hb L v w hlen hB hJ
    have hg40 := hw.1
    have hsm : MpP.Small (a, b) := ⟨by omega, by omega⟩
    have HJ0 := Aside0.mk hJ
    obtain ⟨ada, Al, cl, Ar, cr, e1, x1, x2, l1, C1, l2, C2⟩ := at_T57 hr (a : Int) (by omega) (by omega)
    obtain ⟨adb, Bl, dl, Br, dr, e2, y1, y2, m1, D1, m2, D2⟩ := at_T57 hr (b : Int) (by omega) (by omega)
    cases e1
    cases e2
    have HC1 := Aside0.mk C1
    have HD2 := Aside0.mk D2
    have X1 := Aside0.mk x1
    have Y2 := Aside0.mk y2
    clear C1 C2 D1 D2 x1 x2 y1 y2 l1 l2 m1 m2
    obtain ⟨hj, hR, f, hK, hF⟩ := hJ
    have HI := Aside0.mk IH
    have HB := Aside0.mk hB
    have HW0 := Aside0.mk hB.size
    obtain ⟨w1, hw1⟩ : ∃ w1, w1 = w.alloc (.cells #[.int .i64 (a : Int), .int .i64 (b : Int)] 107) := ⟨_, rfl⟩
    have z := heap_alloc_new w (.cells #[.int .i64 (a : Int), .int .i64 (b : Int)] 107)
    have hg1 : w.grownBy w1 none := by rw [hw1]; exact World.grownBy_alloc w _ _
    rw [← hw1] at z
    have hj1 := blk_grown hj hg1 (by simp)
    have hK1 := hK.kept hg1 (by simp)
    have B1 : Below w0.heap.size w0 w1 := by rw [hw1]; exact hB.alloc hB.size _
    have kc0 := (blk_cell z 0).trans rfl
    have kc1 := (blk_cell z 1).trans rfl
    have jc1 := (blk_cell hj1 2).trans rfl
    have hlk : ∀ n, (Instr.lookup 78 (.map (some bm)) (.agg #[.int .i64 (a : Int), .int .i64 (b : Int)]) true).run Try.prog (w1.drewN n) = .ok (.tuple #[.bool ((f (a, b)).getD false), .bool (f (a, b)).isSome]) (w1.drewN n) := fun n =>
      (hK1.kept (grown_of_below (pw_below_drewN (Below.refl w1.heap.size w1) n) none) (by simp)).run_ok pv.two Try.underlying78 Try.underlying4 (pv.zB _) hsm
    have HW1 := Aside0.mk hw1
    have HG1 := Aside0.mk hg1
    have HK1 := Aside0.mk z
    have hfa := hF (a, b)
    have HF := Aside0.mk hF
    clear z hj hB IH hr hw1 hg1 hj1 hK hK1 hR hF
    go_enter Try.func65, Try.ntmps65
    go_upto_region 2 with (fail)
    rw [← HW1.out]
    cases hf : f (a, b) with
    | some y =>
      rw [hf] at hfa
      have hrun : pv.run (N + 1) g L a b = (L, y) := by rw [pv.run]; simp only [← hfa]
      have HRUN := Aside0.mk hrun
      simp only [hf, Option.getD_some, Option.isSome_some] at hlk
      clear hrun hfa hlen
      go_quiet ((fail))
      go_wp2
      go_ret
      have G2 := HG1.out.trans (grown_of_below (pw_below_drewN (Below.refl w1.heap.size w1) nq) none)
      refine ⟨v, by rw [HRUN.out]; rfl, by rw [HRUN.out]; exact HJ0.out.kept G2, by first | exact pw_below_drewN B1 _ | exact B1, Kept.of_grown G2 (Kept.refl w _) (fun k e => by cases e), Or.inl rfl⟩
    | none =>
      rw [hf] at hfa
      obtain ⟨F1, hF1⟩ : ∃ F1, F1 = pv.step (fun L x => pv.run N g L b x) (fun x => (⟨a, b, false, x, 0⟩ : S84)) := ⟨_, rfl⟩
      obtain ⟨F2, hF2⟩ : ∃ F2, F2 = pv.step (fun L y => pv.run N g L y a) (fun y => (⟨a, b, false, y, 1⟩ : S84)) := ⟨_, rfl⟩
      have hrun : pv.run (N + 1) g L a b = ((((rd_T57 g b).f1.foldl F2 ((rd_T57 g a).f0.foldl F1 (L, ⟨a, b, true, 0, 0⟩))).1 ++ [((rd_T57 g b).f1.foldl F2 ((rd_T57 g a).f0.foldl F1 (L, ⟨a, b, true, 0, 0⟩))).2]), ((rd_T57 g b).f1.foldl F2 ((rd_T57 g a).f0.foldl F1 (L, ⟨a, b, true, 0, 0⟩))).2.f2) := by rw [pv.run, hF1, hF2]; simp only [← hfa]
      have HRUN := Aside0.mk hrun
      have hun := pv.unk hw N a b ha hb L hfa.symm
      rw [← hF1, ← hF2] at hun
      have HUN := Aside0.mk hun
      clear hun
      rw [hrun] at hlen
      simp only [List.length_append, List.length_singleton] at hlen
      have HF1 := Aside0.mk hF1
      have HF2 := Aside0.mk hF2
      have hLaw : ∀ x ∈ (rd_T57 g (a : Int)).f0, 0 ≤ x ∧ x < (a : Int) := by rw [jd.at a ha]; exact (hw.2 a ha).1
      have hRbw : ∀ x ∈ (rd_T57 g (b : Int)).f1, 0 ≤ x ∧ x < (b : Int) := by rw [jd.at b hb]; exact (hw.2 b hb).2
      have HG1r := Aside0.mk (fun (xs : List Int) s => pv.fold_grow (fun L x => pv.run N g L b x) (fun x => (⟨a, b, false, x, 0⟩ : S84)) (fun L x => pv.grow N g L b x) xs s)
      have HG2r := Aside0.mk (fun (xs : List Int) s => pv.fold_grow (fun L y => pv.run N g L y a) (fun y => (⟨a, b, false, y, 1⟩ : S84)) (fun L y => pv.grow N g L y a) xs s)
      rw [← hF1] at HG1r
      rw [← hF2] at HG2r
      generalize (rd_T57 g (a : Int)).f0 = La at *
      generalize (rd_T57 g (b : Int)).f1 = Rb at *
      have HLEN := Aside0.mk hlen
      have HLA := Aside0.mk hLaw
      have HRB := Aside0.mk hRbw
      simp only [hf, Option.getD_none, Option.isSome_none] at hlk
      clear hrun hlen hLaw hRbw hfa hF1 hF2
      go_quiet ((fail))
      have G2 := HG1.out.trans (grown_of_below (pw_below_drewN (Below.refl w1.heap.size w1) nq) none)
      have B2 : Below w0.heap.size w0 (w1.drewN nq) := pw_below_drewN B1 _
      have K2 := Aside0.mk (blk_drewN HK1.out nq)
      obtain ⟨w2, hw2⟩ : ∃ w2, w2 = w1.drewN nq := ⟨_, rfl⟩
      rw [← hw2] at G2 B2 K2 ⊢
      clear hw2
      obtain ⟨w3, hw3⟩ : ∃ w3, w3 = w2.alloc (.cells #[.int .i64 (a : Int), .int .i64 (b : Int), .bool true, .int .i64 0, .int .i64 0] 84) := ⟨_, rfl⟩
      have z3 := heap_alloc_new w2 (.cells #[.int .i64 (a : Int), .int .i64 (b : Int), .bool true, .int .i64 0, .int .i64 0] 84)
      have g3 : w2.grownBy w3 none := by rw [hw3]; exact World.grownBy_alloc w2 _ _
      rw [← hw3] at z3
      obtain ⟨kc, hkc⟩ : ∃ kc, kc = w2.heap.size := ⟨_, rfl⟩
      rw [← hkc] at z3
      have G3 := G2.trans g3
      have hJlt := blk_lt HJ0.out.1
      have HJ := Aside0.mk (HJ0.out.kept G3)
      have HKX := Aside0.mk hkc
      have HK3 := Aside0.mk hw3
      have jc0 := (blk_cell HJ.out.1 0).trans rfl
      have x1 := ((below_alloc B2 (.cells #[.int .i64 (a : Int), .int .i64 (b : Int), .bool true, .int .i64 0, .int .i64 0] 84)).cell (World.block_lt_of_cell? w0 _ X1.out)).trans X1.out
      rw [← hw3] at x1
      simp only [Int.toNat_natCast] at x1
      have hbga : decide ((a : Int) < (g.length : Int)) = true := decide_eq_true (by omega)
      clear kc0 kc1 jc1 hlk hf HG1 HK1 B1 hw3 hkc
      go_upto_region 6 with (fail)
      rw [← HK3.out, ← HKX.out]
      have HB3 := Aside0.mk (show Below w0.heap.size w0 w3 by rw [HK3.out]; exact below_alloc B2 _)
      have HKP := Aside0.mk (Kept.of_grown G3 (Kept.refl w (pv.S bj bm v)) (fun k e => by cases e))
      have KC := Aside0.mk z3
      have K3 := Aside0.mk (blk_grown K2.out g3 (by simp))
      have hsz : w.heap.size < kc := by rw [HKX.out]; exact blk_lt K2.out
      have HNE := Aside0.mk (show v.ownBlock ≠ some kc from fun e => by have := Kd.R_lt HJ0.out.2.1 kc e; omega)
      have HBM := Aside0.mk (show bm < w.heap.size by obtain ⟨_, _, f, q, _⟩ := HJ0.out; exact q.lt)
      have HBJ := Aside0.mk hJlt
      have HSZ := Aside0.mk hsz
      clear z3 g3 G3 B2 K2 HK3 HKX G2 hJlt HW1 HB hsz
      have hbla : La.length ≤ 9223372036854775807 := HC1.out.2.1
      have hbrb : Rb.length ≤ 9223372036854775807 := HD2.out.2.1
      go_wp2
      clear jc0 x1
      go_loopg [41] La.length (fun gg s41 wr => ∃ (n : Nat) (v' : Value) (s : List S84 × S84), n ≤ La.length ∧ La.length - n ≤ gg ∧ s41 = .int .i64 n ∧ Aside0 (s = (La.take n).foldl F1 (L, ⟨a, b, true, 0, 0⟩)) ∧ Aside0 (pv.J g (some ada) c bj bm w0.heap.size s.1 v' wr) ∧ Aside0 (wr.heap[kc]? = some (.cells #[.int .i64 s.2.f0, .int .i64 s.2.f1, .bool s.2.f2, .int .i64 s.2.f3, .int .i64 s.2.f4] 84 (0, 0))) ∧ Aside0 (wr.heap[w.heap.size]? = some (.cells #[.int .i64 (a : Int), .int .i64 (b : Int)] 107 (0, 0))) ∧ Aside0 (Below w0.heap.size w0 wr) ∧ Aside0 (Kept w wr (pv.S bj bm v)) ∧ Aside0 (v'.ownBlock = v.ownBlock ∨ ∃ b, v'.ownBlock = some b ∧ w.heap.size ≤ b) ∧ Aside0 (v'.ownBlock ≠ some kc))
      case atStart => exact ⟨0, v, (L, ⟨a, b, true, 0, 0⟩), Nat.zero_le _, by omega, rfl, ⟨rfl⟩, HJ, KC, K3, HB3, HKP, ⟨Or.inl rfl⟩, HNE⟩
      case round =>
        clear HJ KC K3 HB3 HKP HNE
        obtain ⟨n, v', s, hn, hgg, rfl, HS, HJ, KC, K3, HB3, HKP, HOW, HNE⟩ := hrel
        by_cases hlt : n < La.length
        · have hltz : (n : Int) < (La.length : Int) := by omega
          obtain ⟨ad, e0, hx0⟩ := Kd.at_int HC1.out (n : Int) (by omega) hltz
          cases e0
          replace hx0 := (HB3.out.cell (World.block_lt_of_cell? w0 _ hx0)).trans hx0
          have hrd : rd La (n : Int) = La[n] := by simp [rd, List.getD_eq_getElem?_getD, List.getElem?_eq_getElem hlt]
          rw [hrd] at hx0
          simp only [Int.toNat_natCast] at hx0
          have hsn : (La.take (n + 1)).foldl F1 (L, ⟨a, b, true, 0, 0⟩) = F1 s La[n] := by
            rw [List.take_succ_eq_append_getElem hlt, List.foldl_append, ← HS.out]
            rfl
          have hall : (F1 s La[n]).1.length ≤ 1000000 := by
            have q1 : La.foldl F1 (L, ⟨a, b, true, 0, 0⟩) = (La.drop (n + 1)).foldl F1 (F1 s La[n]) := by
              rw [← hsn, ← List.foldl_append, List.take_append_drop]
            have q2 := HG1r.out (La.drop (n + 1)) (F1 s La[n])
            rw [← q1] at q2
            have q3 := HG2r.out Rb (La.foldl F1 (L, ⟨a, b, true, 0, 0⟩))
            have q4 := HLEN.out
            omega
          obtain ⟨z1, z2⟩ := HLA.out La[n] (List.getElem_mem hlt)
          generalize La[n] = xx at hx0 hsn hall z1 z2
          obtain ⟨m, rfl⟩ : ∃ m : Nat, xx = (m : Int) := ⟨xx.toNat, by omega⟩
          have HSN := Aside0.mk hsn
          have kcc := (blk_cell KC.out 2).trans rfl
          clear hrd hsn
          cases hq : s.2.f2 with
          | false =>
            rw [hq] at kcc
            have hst : F1 s (m : Int) = s := by rw [HF1.out]; unfold pv.step; rw [if_neg (by rw [hq]; decide)]
            rw [hst] at HSN
            clear hst hall
            go_wp2
            go_roundg (La.length - (n + 1))
            case measure => omega
            case rel => exact ⟨n + 1, v', s, by omega, by omega, by go_num, ⟨HSN.out.symm⟩, HJ, KC, K3, HB3, HKP, HOW, HNE⟩
          | true =>
            rw [hq] at kcc
            have hst : F1 s (m : Int) = ((pv.run N g s.1 b m).1, if (pv.run N g s.1 b m).2 = true then ⟨a, b, false, m, 0⟩ else s.2) := by rw [HF1.out]; unfold pv.step; rw [if_pos hq]
            rw [hst] at HSN hall
            have HCALL := Aside0.mk (HI.out b m (by omega) hb (by omega) s.1 v' wr hall HB3.out HJ.out)
            cases hh : (pv.run N g s.1 b m).2 with
            | false =>
              rw [hh] at HCALL
              go_wp2_with (go_at_call 65; refine (HCALL.out).mono ?_; rintro e w5 ⟨v5, rfl, hJ5, hB5, hK5, hO5⟩; have HC5 := Aside0.mk (And.intro hJ5 (And.intro hB5 (And.intro hK5 hO5))); clear hJ5 hB5 hK5 hO5 hx0 kcc)
              rw [hh] at HSN
              obtain ⟨n1_, n2_, n3_, n4_, n5_⟩ := pv.next HBJ.out HBM.out HSZ.out HJ.out KC.out K3.out HKP.out HOW.out HNE.out HC5.out.2.2.1 HC5.out.2.2.2
              go_roundg (La.length - (n + 1))
              case measure => omega
              case rel => exact ⟨n + 1, v5, ((pv.run N g s.1 b m).1, s.2), by omega, by omega, by go_num, ⟨by rw [HSN.out]; simp⟩, ⟨HC5.out.1⟩, ⟨n1_⟩, ⟨n2_⟩, ⟨HC5.out.2.1⟩, ⟨n3_⟩, ⟨n4_⟩, ⟨n5_⟩⟩
            | true =>
              rw [hh] at HCALL
              rw [hh] at HSN
              go_upto_region 10 with (go_at_call 65; refine (HCALL.out).mono ?_; rintro e w5 ⟨v5, rfl, hJ5, hB5, hK5, hO5⟩; have HC5 := Aside0.mk (And.intro hJ5 (And.intro hB5 (And.intro hK5 hO5))); clear hJ5 hB5 hK5 hO5 hx0 kcc)
              obtain ⟨n1_, n2_, n3_, n4_, n5_⟩ := pv.next HBJ.out HBM.out HSZ.out HJ.out KC.out K3.out HKP.out HOW.out HNE.out HC5.out.2.2.1 HC5.out.2.2.2
              have N1 := Aside0.mk n1_
              have N2 := Aside0.mk n2_
              have N3 := Aside0.mk n3_
              have N4 := Aside0.mk n4_
              have N5 := Aside0.mk n5_
              have kc0 := (blk_cell n1_ 0).trans rfl
              have kc1 := (blk_cell n1_ 1).trans rfl
              have kc2 := (blk_cell n1_ 2).trans rfl
              have kc3 := (blk_cell n1_ 3).trans rfl
              have kc4 := (blk_cell n1_ 4).trans rfl
              have of0 := blk_frozen n1_ 0
              have of1 := blk_frozen n1_ 1
              have of2 := blk_frozen n1_ 2
              have of3 := blk_frozen n1_ 3
              have of4 := blk_frozen n1_ 4
              clear n1_ n2_ n3_ n4_ n5_
              go_wp2
              have hG := ((((pv.grown_set w5 ⟨kc, 0, none⟩ (.int .i64 (a : Int))).trans (pv.grown_set _ ⟨kc, 1, none⟩ (.int .i64 (b : Int)))).trans (pv.grown_set _ ⟨kc, 2, none⟩ (.bool false))).trans (pv.grown_set _ ⟨kc, 3, none⟩ (.int .i64 (m : Int)))).trans (pv.grown_set _ ⟨kc, 4, none⟩ (.int .i64 0))
              have hs1 := HSZ.out
              have hs2 := HBJ.out
              have hs3 := HBM.out
              have e1_ : bj ≠ kc := by omega
              have e2_ : bm ≠ kc := by omega
              have e3_ : w.heap.size ≠ kc := by omega
              have hs5 : w0.heap.size ≤ kc := Nat.le_trans HW0.out (Nat.le_of_lt hs1)
              go_roundg (La.length - (n + 1))
              case measure => omega
              case rel =>
                refine ⟨n + 1, v5, ((pv.run N g s.1 b m).1, ⟨a, b, false, m, 0⟩), by omega, by omega, by go_num, ⟨by rw [HSN.out]; simp⟩, ⟨HC5.out.1.far (kc := kc) hG e1_ e2_ N5.out⟩, ⟨?_⟩, ⟨blk_grown N2.out hG (fun e => e3_ (Option.some.inj e))⟩, ⟨below_set (below_set (below_set (below_set (below_set HC5.out.2.1 hs5) hs5) hs5) hs5) hs5⟩, ⟨((((N3.out.setCell (Or.inr (Nat.le_of_lt hs1)) _).setCell (Or.inr (Nat.le_of_lt hs1)) _).setCell (Or.inr (Nat.le_of_lt hs1)) _).setCell (Or.inr (Nat.le_of_lt hs1)) _).setCell (Or.inr (Nat.le_of_lt hs1)) _⟩, N4, N5⟩
                exact blk_put (cs := #[.int .i64 (a : Int), .int .i64 (b : Int), .bool false, .int .i64 (m : Int), .int .i64 s.2.f4]) (blk_put (cs := #[.int .i64 (a : Int), .int .i64 (b : Int), .bool false, .int .i64 s.2.f3, .int .i64 s.2.f4]) (blk_put (cs := #[.int .i64 (a : Int), .int .i64 (b : Int), .bool s.2.f2, .int .i64 s.2.f3, .int .i64 s.2.f4]) (blk_put (cs := #[.int .i64 (a : Int), .int .i64 s.2.f1, .bool s.2.f2, .int .i64 s.2.f3, .int .i64 s.2.f4]) (blk_put (cs := #[.int .i64 s.2.f0, .int .i64 s.2.f1, .bool s.2.f2, .int .i64 s.2.f3, .int .i64 s.2.f4]) N1.out 0 _ rfl) 1 _ rfl) 2 _ rfl) 3 _ rfl) 4 _ rfl
        · have hltz : ¬ (n : Int) < (La.length : Int) := by omega
          have hnl : n = La.length := by omega
          subst hnl
          rw [List.take_length] at HS
          have hS := HS.out
          have hlen2 := HLEN.out
          rw [← hS] at hlen2
          have HLEN := Aside0.mk hlen2
          have hrun2 := HRUN.out
          rw [← hS] at hrun2
          have HRUN := Aside0.mk hrun2
          have hun2 := HUN.out
          rw [← hS] at hun2
          have HUN := Aside0.mk hun2
          clear hun2
          obtain ⟨S1, hS1⟩ : ∃ S1, S1 = s := ⟨_, rfl⟩
          rw [← hS1] at HLEN HRUN HUN HJ KC
          have jc0 := (blk_cell HJ.out.1 0).trans rfl
          have y2 := (HB3.out.cell (World.block_lt_of_cell? w0 _ Y2.out)).trans Y2.out
          have hbgb : decide ((b : Int) < (g.length : Int)) = true := decide_eq_true (by omega)
          simp only [Int.toNat_natCast] at y2
          clear hS hlen2 hrun2 HS hS1 hlt hltz hgg hn
          go_wp2
          clear jc0 y2
          go_loopg [67] Rb.length (fun gg s67 wr => ∃ (n : Nat) (v' : Value) (s : List S84 × S84), n ≤ Rb.length ∧ Rb.length - n ≤ gg ∧ s67 = .int .i64 n ∧ Aside0 (s = (Rb.take n).foldl F2 S1) ∧ Aside0 (pv.J g (some ada) c bj bm w0.heap.size s.1 v' wr) ∧ Aside0 (wr.heap[kc]? = some (.cells #[.int .i64 s.2.f0, .int .i64 s.2.f1, .bool s.2.f2, .int .i64 s.2.f3, .int .i64 s.2.f4] 84 (0, 0))) ∧ Aside0 (wr.heap[w.heap.size]? = some (.cells #[.int .i64 (a : Int), .int .i64 (b : Int)] 107 (0, 0))) ∧ Aside0 (Below w0.heap.size w0 wr) ∧ Aside0 (Kept w wr (pv.S bj bm v)) ∧ Aside0 (v'.ownBlock = v.ownBlock ∨ ∃ b, v'.ownBlock = some b ∧ w.heap.size ≤ b) ∧ Aside0 (v'.ownBlock ≠ some kc))
          case atStart => exact ⟨0, v', S1, Nat.zero_le _, by omega, rfl, ⟨rfl⟩, HJ, KC, K3, HB3, HKP, HOW, HNE⟩
          case round =>
            clear HJ KC K3 HB3 HKP HOW HNE
            obtain ⟨n, v2, s, hn, hgg, rfl, HS, HJ, KC, K3, HB3, HKP, HOW, HNE⟩ := hrel
            by_cases hlt : n < Rb.length
            · have hltz : (n : Int) < (Rb.length : Int) := by omega
              obtain ⟨ad, e0, hx0⟩ := Kd.at_int HD2.out (n : Int) (by omega) hltz
              cases e0
              replace hx0 := (HB3.out.cell (World.block_lt_of_cell? w0 _ hx0)).trans hx0
              have hrd : rd Rb (n : Int) = Rb[n] := by simp [rd, List.getD_eq_getElem?_getD, List.getElem?_eq_getElem hlt]
              rw [hrd] at hx0
              simp only [Int.toNat_natCast] at hx0
              have hsn : (Rb.take (n + 1)).foldl F2 S1 = F2 s Rb[n] := by
                rw [List.take_succ_eq_append_getElem hlt, List.foldl_append, ← HS.out]
                rfl
              have hall : (F2 s Rb[n]).1.length ≤ 1000000 := by
                have q1 : Rb.foldl F2 S1 = (Rb.drop (n + 1)).foldl F2 (F2 s Rb[n]) := by
                  rw [← hsn, ← List.foldl_append, List.take_append_drop]
                have q2 := HG2r.out (Rb.drop (n + 1)) (F2 s Rb[n])
                rw [← q1] at q2
                have q4 := HLEN.out
                omega
              obtain ⟨z1, z2⟩ := HRB.out Rb[n] (List.getElem_mem hlt)
              generalize Rb[n] = xx at hx0 hsn hall z1 z2
              obtain ⟨m, rfl⟩ : ∃ m : Nat, xx = (m : Int) := ⟨xx.toNat, by omega⟩
              have HSN := Aside0.mk hsn
              have kcc := (blk_cell KC.out 2).trans rfl
              clear hrd hsn
              cases hq : s.2.f2 with
              | false =>
                rw [hq] at kcc
                have hst : F2 s (m : Int) = s := by rw [HF2.out]; unfold pv.step; rw [if_neg (by rw [hq]; decide)]
                rw [hst] at HSN
                clear hst hall
                go_wp2
                go_roundg (Rb.length - (n + 1))
                case measure => omega
                case rel => exact ⟨n + 1, v2, s, by omega, by omega, by go_num, ⟨HSN.out.symm⟩, HJ, KC, K3, HB3, HKP, HOW, HNE⟩
              | true =>
                rw [hq] at kcc
                have hst : F2 s (m : Int) = ((pv.run N g s.1 m a).1, if (pv.run N g s.1 m a).2 = true then ⟨a, b, false, m, 1⟩ else s.2) := by rw [HF2.out]; unfold pv.step; rw [if_pos hq]
                rw [hst] at HSN hall
                have HCALL := Aside0.mk (HI.out m a (by omega) (by omega) ha s.1 v2 wr hall HB3.out HJ.out)
                cases hh : (pv.run N g s.1 m a).2 with
                | false =>
                  rw [hh] at HCALL
                  go_wp2_with (go_at_call 65; refine (HCALL.out).mono ?_; rintro e w5 ⟨v5, rfl, hJ5, hB5, hK5, hO5⟩; have HC5 := Aside0.mk (And.intro hJ5 (And.intro hB5 (And.intro hK5 hO5))); clear hJ5 hB5 hK5 hO5 hx0 kcc)
                  rw [hh] at HSN
                  obtain ⟨n1_, n2_, n3_, n4_, n5_⟩ := pv.next HBJ.out HBM.out HSZ.out HJ.out KC.out K3.out HKP.out HOW.out HNE.out HC5.out.2.2.1 HC5.out.2.2.2
                  go_roundg (Rb.length - (n + 1))
                  case measure => omega
                  case rel => exact ⟨n + 1, v5, ((pv.run N g s.1 m a).1, s.2), by omega, by omega, by go_num, ⟨by rw [HSN.out]; simp⟩, ⟨HC5.out.1⟩, ⟨n1_⟩, ⟨n2_⟩, ⟨HC5.out.2.1⟩, ⟨n3_⟩, ⟨n4_⟩, ⟨n5_⟩⟩
                | true =>
                  rw [hh] at HCALL
                  rw [hh] at HSN
                  go_upto_region 16 with (go_at_call 65; refine (HCALL.out).mono ?_; rintro e w5 ⟨v5, rfl, hJ5, hB5, hK5, hO5⟩; have HC5 := Aside0.mk (And.intro hJ5 (And.intro hB5 (And.intro hK5 hO5))); clear hJ5 hB5 hK5 hO5 hx0 kcc)
                  obtain ⟨n1_, n2_, n3_, n4_, n5_⟩ := pv.next HBJ.out HBM.out HSZ.out HJ.out KC.out K3.out HKP.out HOW.out HNE.out HC5.out.2.2.1 HC5.out.2.2.2
                  have N1 := Aside0.mk n1_
                  have N2 := Aside0.mk n2_
                  have N3 := Aside0.mk n3_
                  have N4 := Aside0.mk n4_
                  have N5 := Aside0.mk n5_
                  have kc0 := (blk_cell n1_ 0).trans rfl
                  have kc1 := (blk_cell n1_ 1).trans rfl
                  have kc2 := (blk_cell n1_ 2).trans rfl
                  have kc3 := (blk_cell n1_ 3).trans rfl
                  have kc4 := (blk_cell n1_ 4).trans rfl
                  have of0 := blk_frozen n1_ 0
                  have of1 := blk_frozen n1_ 1
                  have of2 := blk_frozen n1_ 2
                  have of3 := blk_frozen n1_ 3
                  have of4 := blk_frozen n1_ 4
                  clear n1_ n2_ n3_ n4_ n5_
                  go_wp2
                  have hG := ((((pv.grown_set w5 ⟨kc, 0, none⟩ (.int .i64 (a : Int))).trans (pv.grown_set _ ⟨kc, 1, none⟩ (.int .i64 (b : Int)))).trans (pv.grown_set _ ⟨kc, 2, none⟩ (.bool false))).trans (pv.grown_set _ ⟨kc, 3, none⟩ (.int .i64 (m : Int)))).trans (pv.grown_set _ ⟨kc, 4, none⟩ (.int .i64 1))
                  have hs1 := HSZ.out
                  have hs2 := HBJ.out
                  have hs3 := HBM.out
                  have e1_ : bj ≠ kc := by omega
                  have e2_ : bm ≠ kc := by omega
                  have e3_ : w.heap.size ≠ kc := by omega
                  have hs5 : w0.heap.size ≤ kc := Nat.le_trans HW0.out (Nat.le_of_lt hs1)
                  go_roundg (Rb.length - (n + 1))
                  case measure => omega
                  case rel =>
                    refine ⟨n + 1, v5, ((pv.run N g s.1 m a).1, ⟨a, b, false, m, 1⟩), by omega, by omega, by go_num, ⟨by rw [HSN.out]; simp⟩, ⟨HC5.out.1.far (kc := kc) hG e1_ e2_ N5.out⟩, ⟨?_⟩, ⟨blk_grown N2.out hG (fun e => e3_ (Option.some.inj e))⟩, ⟨below_set (below_set (below_set (below_set (below_set HC5.out.2.1 hs5) hs5) hs5) hs5) hs5⟩, ⟨((((N3.out.setCell (Or.inr (Nat.le_of_lt hs1)) _).setCell (Or.inr (Nat.le_of_lt hs1)) _).setCell (Or.inr (Nat.le_of_lt hs1)) _).setCell (Or.inr (Nat.le_of_lt hs1)) _).setCell (Or.inr (Nat.le_of_lt hs1)) _⟩, N4, N5⟩
                    exact blk_put (cs := #[.int .i64 (a : Int), .int .i64 (b : Int), .bool false, .int .i64 (m : Int), .int .i64 s.2.f4]) (blk_put (cs := #[.int .i64 (a : Int), .int .i64 (b : Int), .bool false, .int .i64 s.2.f3, .int .i64 s.2.f4]) (blk_put (cs := #[.int .i64 (a : Int), .int .i64 (b : Int), .bool s.2.f2, .int .i64 s.2.f3, .int .i64 s.2.f4]) (blk_put (cs := #[.int .i64 (a : Int), .int .i64 s.2.f1, .bool s.2.f2, .int .i64 s.2.f3, .int .i64 s.2.f4]) (blk_put (cs := #[.int .i64 s.2.f0, .int .i64 s.2.f1, .bool s.2.f2, .int .i64 s.2.f3, .int .i64 s.2.f4]) N1.out 0 _ rfl) 1 _ rfl) 2 _ rfl) 3 _ rfl) 4 _ rfl
            · have hltz : ¬ (n : Int) < (Rb.length : Int) := by omega
              have hnl : n = Rb.length := by omega
              subst hnl
              rw [List.take_length] at HS
              have hrun2 := HRUN.out
              rw [← HS.out] at hrun2
              have HRUN := Aside0.mk hrun2
              have hlen2 := HLEN.out
              rw [← HS.out] at hlen2
              have HLEN := Aside0.mk hlen2
              have hun2 := HUN.out
              rw [← HS.out] at hun2
              have HUN := Aside0.mk hun2
              clear hrun2 hlen2 hun2 HS hlt hltz hgg hn
              go_upto_region 18 with (fail)
              obtain ⟨Ao, co, rfl⟩ := Kd.R_slice HJ.out.2.1
              have gd_ := grown_of_below (below_drew (Below.refl wr.heap.size wr)) none
              have HJ1 := Aside0.mk (HJ.out.kept gd_)
              have KC1 := Aside0.mk (blk_grown KC.out gd_ (by simp))
              have K31 := Aside0.mk (blk_grown K3.out gd_ (by simp))
              have HB1 := Aside0.mk (below_drew1 HB3.out)
              have HK1 := Aside0.mk (HKP.out.drew)
              clear gd_ HJ KC K3 HB3 HKP
              refine start_ (n := 11) (S := fun w' => w'.cell? ⟨bj, 1, none⟩ = some (.slice Ao s.1.length co) ∧ w'.cell? ⟨kc, 0, none⟩ = some (.int .i64 s.2.f0) ∧ w'.cell? ⟨kc, 1, none⟩ = some (.int .i64 s.2.f1) ∧ w'.cell? ⟨kc, 2, none⟩ = some (.bool s.2.f2) ∧ w'.cell? ⟨kc, 3, none⟩ = some (.int .i64 s.2.f3) ∧ w'.cell? ⟨kc, 4, none⟩ = some (.int .i64 s.2.f4)) (ds := [10]) #[false, false, false, false, false, false, false, false, false, false, false] (by kernel_rfl) rfl rfl ⟨(blk_cell HJ1.out.1 1).trans rfl, (blk_cell KC1.out 0).trans rfl, (blk_cell KC1.out 1).trans rfl, (blk_cell KC1.out 2).trans rfl, (blk_cell KC1.out 3).trans rfl, (blk_cell KC1.out 4).trans rfl⟩ (fun hHeld => ?_); refine with_tabW pv.tab18 pv.bits18 (fun HT_ HW_ => ?_)
              generalize wr.drew = w4 at HJ1 KC1 K31 HB1 HK1 hHeld ⊢
              refine pure_ (i := 0) (N := (some 84)) (v := ?_) (a' := ?_) #[true, false, false, false, false, false, false, false, false, false, false] rfl rfl (any_of HT_.out (by kernel_rfl)) (fun _ _ _ h => h) (Or.inl ⟨by rfl, ?_⟩) ?_ ?_
              rotate_left
              · intro w'
                go_simp
                with_reducible rfl
              rotate_left
              · simp only [Act.put, List.setIfInBounds_toArray, List.set_cons_zero, List.set_cons_succ, i64_w, i32_w]
                rfl
              refine pure_ (i := 1) (N := (some 85)) (v := ?_) (a' := ?_) #[true, true, false, false, false, false, false, false, false, false, false] rfl rfl (any_of HT_.out (by kernel_rfl)) (fun _ _ _ h => h) (Or.inl ⟨by rfl, ?_⟩) ?_ ?_
              rotate_left
              · intro w'
                go_simp
                with_reducible rfl
              rotate_left
              · simp only [Act.put, List.setIfInBounds_toArray, List.set_cons_zero, List.set_cons_succ, i64_w, i32_w]
                rfl
              refine pure_ (i := 2) (N := (some 86)) (v := ?_) (a' := ?_) #[true, true, true, false, false, false, false, false, false, false, false] rfl rfl (any_of HT_.out (by kernel_rfl)) (fun _ _ _ h => h) (Or.inl ⟨by rfl, ?_⟩) ?_ ?_
              rotate_left
              · intro w'
                go_simp
                with_reducible rfl
              rotate_left
              · simp only [Act.put, List.setIfInBounds_toArray, List.set_cons_zero, List.set_cons_succ, i64_w, i32_w]
                rfl
              refine pure_ (i := 3) (N := (some 87)) (v := ?_) (a' := ?_) #[true, true, true, true, false, false, false, false, false, false, false] rfl rfl (any_of HT_.out (by kernel_rfl)) (fun _ _ _ h => h) (Or.inl ⟨by rfl, ?_⟩) ?_ ?_
              rotate_left
              · intro w'
                go_simp
                with_reducible rfl
              rotate_left
              · simp only [Act.put, List.setIfInBounds_toArray, List.set_cons_zero, List.set_cons_succ, i64_w, i32_w]
                rfl
              refine take_ (i := 4) (N := (some 88)) (v := ?_) (a' := ?_) #[true, true, true, true, true, false, false, false, false, false, false] rfl rfl (take_ofW HT_.out HW_.out (by kernel_rfl)) (fun _ _ _ h => h) (Or.inl ⟨by rfl, ?_⟩) hHeld ?_ ?_
              rotate_left
              · rintro w' ⟨s0, s1, s2, s3, s4, s5⟩
                go_simp
                with_reducible rfl
              rotate_left
              · simp only [Act.put, List.setIfInBounds_toArray, List.set_cons_zero, List.set_cons_succ, i64_w, i32_w]
                rfl
              refine take_ (i := 5) (N := (some 89)) (v := ?_) (a' := ?_) #[true, true, true, true, true, true, false, false, false, false, false] rfl rfl (take_ofW HT_.out HW_.out (by kernel_rfl)) (fun _ _ _ h => h) (Or.inl ⟨by rfl, ?_⟩) hHeld ?_ ?_
              rotate_left
              · rintro w' ⟨s0, s1, s2, s3, s4, s5⟩
                go_simp
                with_reducible rfl
              rotate_left
              · simp only [Act.put, List.setIfInBounds_toArray, List.set_cons_zero, List.set_cons_succ, i64_w, i32_w]
                rfl
              refine one_ (i := 6) (N := some 90) #[true, true, true, true, true, true, true, false, false, false, false] rfl rfl (one_of HT_.out (by kernel_rfl)) (by decide) (fun K hK => ?_)
              refine value_ (w1 := ?_) (v := ?_) (by rfl) rfl ?_ ?_
              rotate_left 2
              · go_simp
                constructor
                · rfl
                · rfl
              refine hK.out _ _ ⟨(blk_cell (blk_alloc HJ1.out.1 _) 1).trans rfl, (blk_cell (blk_alloc KC1.out _) 0).trans rfl, (blk_cell (blk_alloc KC1.out _) 1).trans rfl, (blk_cell (blk_alloc KC1.out _) 2).trans rfl, (blk_cell (blk_alloc KC1.out _) 3).trans rfl, (blk_cell (blk_alloc KC1.out _) 4).trans rfl⟩ (fun hHeld => ?_)
              clear hK K
              refine norm_ (a' := ?_) ?_ ?_
              rotate_left
              · show Act.put _ (some 90) _ = _
                simp only [Act.put, List.setIfInBounds_toArray, List.set_cons_zero, List.set_cons_succ, i64_w, i32_w]
                rfl
              refine one_ (i := 7) (N := some 91) #[true, true, true, true, true, true, true, true, false, false, false] rfl rfl (one_of HT_.out (by kernel_rfl)) (by decide) (fun K hK => ?_)
              refine Kd.R_append_step k84 (w0 := w0) w0.heap.size (by rfl) (.tmp 88) (.tmp 90) 41 84 (.agg #[(.int .i64 0), (.int .i64 0), (.bool false), (.int .i64 0), (.int .i64 0)]) 40 rfl Try.underlying41 info84 rfl (by decide) (by omega) (.slice Ao s.1.length co) s.1 s.2 [.int .i64 s.2.f0, .int .i64 s.2.f1, .bool s.2.f2, .int .i64 s.2.f3, .int .i64 s.2.f4] (fun _ => True) (fun _ => False) rfl rfl ?aP (fun _ hk => hk.elim) ?aF ?aO ?aB ?aS ?aL ?_
              (case aP => exact k84_mkM _ _ _ s.2)
              (case aF => exact fun _ _ => trivial)
              (case aO => exact HJ1.out.2.1)
              (case aB => exact HB1.out)
              (case aS => exact below_size HB1.out)
              (case aL => have := HLEN.out; omega)
              intro v6 w6 ho hb hg hat
              have n0_ := Aside0.mk (blk_grown HJ1.out.1 hg (Kd.R_ne HJ1.out.2.1 HJ1.out.1 (by decide)))
              have n1_ := Aside0.mk (blk_grown KC1.out hg (fun e => HNE.out e.symm))
              have n2_ := Aside0.mk (blk_grown K31.out hg (Kd.R_ne HJ1.out.2.1 K31.out (by decide)))
              have n3_ := Aside0.mk (pv.mapkept HJ1.out hg)
              have n4_ := Aside0.mk (Kept.of_grown hg HK1.out (pv.rowS HOW.out))
              have n5_ := Aside0.mk (pv.own2 HOW.out hat HK1.out.1)
              have n6_ := Aside0.mk ho
              have n7_ := Aside0.mk hb
              clear HJ1 KC1 K31 HB1 HK1 HOW HNE ho hb hg hat
              obtain ⟨A6, c6, rfl⟩ := Kd.R_slice n6_.out
              refine hK.out _ _ ⟨(blk_cell n0_.out 1).trans rfl, (blk_cell n1_.out 0).trans rfl, (blk_cell n1_.out 1).trans rfl, (blk_cell n1_.out 2).trans rfl, (blk_cell n1_.out 3).trans rfl, (blk_cell n1_.out 4).trans rfl⟩ (fun hHeld => ?_)
              clear hK K
              refine norm_ (a' := ?_) ?_ ?_
              rotate_left
              · show Act.put _ (some 91) _ = _
                simp only [Act.put, List.setIfInBounds_toArray, List.set_cons_zero, List.set_cons_succ, i64_w, i32_w]
                rfl
              refine pure_ (i := 8) (N := (some 92)) (v := ?_) (a' := ?_) #[true, true, true, true, true, true, true, true, true, false, false] rfl rfl (any_of HT_.out (by kernel_rfl)) (fun _ _ _ h => h) (Or.inl ⟨by rfl, ?_⟩) ?_ ?_
              rotate_left
              · intro w'
                go_simp
                with_reducible rfl
              rotate_left
              · simp only [Act.put, List.setIfInBounds_toArray, List.set_cons_zero, List.set_cons_succ, i64_w, i32_w]
                rfl
              refine pure_ (i := 9) (N := (some 93)) (v := ?_) (a' := ?_) #[true, true, true, true, true, true, true, true, true, true, false] rfl rfl (any_of HT_.out (by kernel_rfl)) (fun _ _ _ h => h) (Or.inl ⟨by rfl, ?_⟩) ?_ ?_
              rotate_left
              · intro w'
                go_simp
                with_reducible rfl
              rotate_left
              · simp only [Act.put, List.setIfInBounds_toArray, List.set_cons_zero, List.set_cons_succ, i64_w, i32_w]
                rfl
              have jz0_ := (blk_cell n0_.out 1).trans rfl
              have jz1_ := blk_frozen n0_.out 1
              refine last_ (i := 10) (N := none) #[true, true, true, true, true, true, true, true, true, true, true] rfl rfl (one_of HT_.out (by kernel_rfl)) (by decide) (fun K hK => ?_)
              refine skip_ (w1 := w6.setCell ⟨bj, 1, none⟩ (.slice A6 (s.1 ++ [s.2]).length c6)) (by rfl) rfl ?_ ?_
              · go_simp
              refine hK.out _ _ ?_
              clear hK K
              refine done_ (done_of HT_.out (by kernel_rfl)) ?_
              obtain ⟨w7, hw7⟩ : ∃ w7, w7 = w6.setCell ⟨bj, 1, none⟩ (.slice A6 (s.1 ++ [s.2]).length c6) := ⟨_, rfl⟩
              have GS : w6.grownBy w7 (some bj) := by rw [hw7]; exact pv.grown_set w6 ⟨bj, 1, none⟩ _
              have hs1 := HSZ.out
              have hs2 := HBJ.out
              obtain ⟨f4, m1_, m2_⟩ := n3_.out
              have hbb : bm ≠ bj := by
                obtain ⟨es, cl, hm⟩ := pv.mapOf m1_
                exact fun e => pv.notmap hm n0_.out e.symm
              have P0 := Aside0.mk (show w7.heap[bj]? = some (.cells #[.slice (some ada) g.length c, .slice A6 (s.1 ++ [s.2]).length c6, .map (some bm)] 80 (0, 0)) by rw [hw7]; exact blk_put n0_.out 1 _ rfl)
              have P1 := Aside0.mk (blk_grown n1_.out GS (fun e => by injection e with e; omega))
              have P2 := Aside0.mk (blk_grown n2_.out GS (fun e => by injection e with e; omega))
              have P3 := Aside0.mk (m1_.kept GS (fun e => hbb (Option.some.inj e)))
              have P4 := Aside0.mk (show Kept w w7 (pv.S bj bm v) by rw [hw7]; exact n4_.out.setCell (Or.inl (Or.inl rfl)) _)
              have P6 := Aside0.mk (show Kd.R k84 84 w7 w0.heap.size (fun _ => True) (.slice A6 (s.1 ++ [s.2]).length c6) (s.1 ++ [s.2]) from Kd.R_mono (ok' := fun _ => True) (Kd.R_grown (ok := fun k => k ≠ bj) ⟨fun k hk e => Kd.R_ne n6_.out n0_.out (by decide) (by rw [hk, e]), n6_.out.2⟩ GS (fun k hk e => hk (Option.some.inj e))) (fun _ _ => trivial))
              have P7 := Aside0.mk (show Below w0.heap.size w0 w7 by rw [hw7]; exact below_set n7_.out hbj)
              have HF4 := Aside0.mk m2_
              rw [← hw7]
              clear n0_ n1_ n2_ n3_ n4_ n6_ n7_ GS m1_ m2_ hw7 jz0_ jz1_ hHeld HT_ HW_ hs1 hs2
              have jc2 := (blk_cell P0.out 2).trans rfl
              have kc0 := (blk_cell P2.out 0).trans rfl
              have kc1 := (blk_cell P2.out 1).trans rfl
              have kcf := (blk_cell P1.out 2).trans rfl
              go_upto_region 19 with (fail)
              go_still_tail 7, (by kernel_rfl)
              have GD : w7.grownBy w7.drew none := grown_of_below (below_drew1 (Below.refl w7.heap.size w7)) none
              refine MpP.step_putP (P3.out.kept GD (by simp)) pv.two Try.underlying78 Try.underlying4 (.tmp 97) (.tmp 98) (.tmp 100) (a, b) hsm s.2.f2 rfl rfl rfl rfl rfl ?_
              intro w9 hK9 ht9
              have GT : w7.grownBy w9 (some bm) := (show w7.grownBy w7.drew (some bm) from ⟨GD.os, GD.tape, GD.output, GD.size, fun i hi _ => GD.block i hi (by simp)⟩).trans ht9.grown
              have Q0 := Aside0.mk (blk_grown P0.out GT (fun e => hbb (Option.some.inj e).symm))
              have hs3 := HBM.out
              have hs1 := HSZ.out
              have Q1 := Aside0.mk (blk_grown P1.out GT (fun e => by injection e with e; omega))
              have Q4 := Aside0.mk (Kept.of_grown GT P4.out (fun k e => Or.inl (Or.inr (Or.inl (Option.some.inj e).symm))))
              have Q6 := Aside0.mk (pv.keepR P3.out P6.out GT)
              have Q7 := Aside0.mk (P7.out.grown GT P7.out.size (fun k e => by injection e with e; omega))
              have hfin : ∀ p : Nat × Nat, (fun y => if y = (a, b) then some s.2.f2 else f4 y) p = pv.look (s.1 ++ [s.2]) p.1 p.2 := by
                intro p
                show (if p = (a, b) then some s.2.f2 else f4 p) = _
                rw [pv.look_snoc, ← HF4.out p]
                by_cases e : p = (a, b)
                · subst e
                  rw [if_pos rfl, HF4.out, HUN.out.1, if_pos HUN.out.2]
                · rw [if_neg e]
                  cases f4 p with
                  | some h => rfl
                  | none =>
                    rw [if_neg]
                    rintro ⟨e1, e2⟩
                    refine e ?_
                    rw [HUN.out.2.1] at e1
                    rw [HUN.out.2.2] at e2
                    exact Prod.ext (by have := Int.ofNat.inj e1; exact this.symm) (by have := Int.ofNat.inj e2; exact this.symm)
              have Q8 := Aside0.mk (show pv.J g (some ada) c bj bm w0.heap.size (s.1 ++ [s.2]) (.slice A6 (s.1 ++ [s.2]).length c6) w9 from ⟨Q0.out, Q6.out, _, hK9, hfin⟩)
              have kcf := (blk_cell Q1.out 2).trans rfl
              clear hK9 ht9 GT GD hs3 hs1 hfin P0 P1 P2 P3 P4 P6 P7 Q0 Q6
              go_wp2
              go_ret
              exact ⟨_, by rw [HRUN.out]; rfl, by rw [HRUN.out]; exact Q8.out, Q7.out, Q4.out, n5_.out⟩
def impl_ProveOrder.f (k : Nat) (l0 : List S57) (a1 a2 : Int) : Option (List S84 × Bool) := (impl_hasPosition.f k l0 a1).bind fun t => if t = true then ((impl_hasPosition.f k l0 a2).bind fun u => if u = true then (if (jd.wfB l0 && (decide (0 ≤ a1) && (decide (a1 < (l0.length : Int)) && (decide (0 ≤ a2) && (decide (a2 < (l0.length : Int)) && decide ((pv.run (a1.toNat + a2.toNat + 1) l0 [] a1 a2).1.length ≤ 1000000)))))) = true then (if (pv.run (a1.toNat + a2.toNat + 1) l0 [] a1 a2).1.length > 200 then some ([], false) else some ((pv.run (a1.toNat + a2.toNat + 1) l0 [] a1 a2).1, true)) else none) else some ([], false)) else some ([], false)
theorem impl_ProveOrder.mono : ∀ a0 a1 a2 k, LeO (impl_ProveOrder.f k a0 a1 a2) (impl_ProveOrder.f (k + 1) a0 a1 a2) := by
  intro a0 a1 a2 k
  unfold impl_ProveOrder.f
  refine LeO.bind (impl_hasPosition.mono _ _ _) (fun t => ?_)
  split
  · exact LeO.bind (impl_hasPosition.mono _ _ _) (fun _ => LeO.refl _)
  · exact LeO.refl _
set_option maxHeartbeats 1000000 in
set_option maxRecDepth 100000 in
theorem impl_ProveOrder.calls (k : Nat) (A0 : Option Addr) (c0 : Nat) (l0 : List S57) (a1 : Int) (a2 : Int) (r1 : List S84) (r2 : Bool) (w : World) (hr0 : Kd.C k57 w A0 l0.length l0) (hc0 : l0.length ≤ c0) (h : impl_ProveOrder.f k l0 a1 a2 = some (r1, r2)) :
    Calls Try.prog 32 #[.slice A0 l0.length c0, .int .i64 a1, .int .i64 a2] w fun e w' => ∃ v0_ : Value, e = .returned (.tuple #[v0_, .bool r2]) ∧ Kd.R k84 84 w' w.heap.size (fun _ => True) v0_ r1 ∧ Below w.heap.size w w' := by

  have h0 : ((impl_hasPosition.f k l0 a1).bind fun t => if t = true then ((impl_hasPosition.f k l0 a2).bind fun u => if u = true then (if (jd.wfB l0 && (decide (0 ≤ a1) && (decide (a1 < (l0.length : Int)) && (decide (0 ≤ a2) && (decide (a2 < (l0.length : Int)) && decide ((pv.run (a1.toNat + a2.toNat + 1) l0 [] a1 a2).1.length ≤ 1000000)))))) = true then (if (pv.run (a1.toNat + a2.toNat + 1) l0 [] a1 a2).1.length > 200 then some ([], false) else some ((pv.run (a1.toNat + a2.toNat + 1) l0 [] a1 a2).1, true)) else none) else some ([], false)) else some ([], false)) = some (r1, r2) := h
  clear h
  obtain ⟨t, h1, h2⟩ := Option.bind_eq_some_iff.mp h0
  clear h0
  have H1 := Aside0.mk h1
  have HR0 := Aside0.mk hr0
  have HC0 := Aside0.mk hc0
  clear h1 hr0 hc0
  cases t with
  | false =>
    rw [if_neg (by decide)] at h2
    simp only [Option.some.injEq, Prod.mk.injEq] at h2
    obtain ⟨rfl, rfl⟩ := h2
    go_enter Try.func32, Try.ntmps32
    go_wp2_with (go_at_call 49; refine (impl_hasPosition.calls k A0 c0 l0 a1 false _ HR0.out HC0.out H1.out).mono ?_; rintro e w1 ⟨rfl, hb⟩)
    refine bodyPost_ret (results_list (rs := [.tmp 6, .tmp 7]) rfl (by simp) (.tmp (.tmp .nil))) rfl ?_
    exact ⟨_, rfl, Kd.R_nil _ _ _ _ _, hb⟩
  | true =>
    rw [if_pos rfl] at h2
    obtain ⟨u, h3, h4⟩ := Option.bind_eq_some_iff.mp h2
    clear h2
    have H3 := Aside0.mk h3
    clear h3
    cases u with
    | false =>
      rw [if_neg (by decide)] at h4
      simp only [Option.some.injEq, Prod.mk.injEq] at h4
      obtain ⟨rfl, rfl⟩ := h4
      go_enter Try.func32, Try.ntmps32
      go_wp2_with (go_at_call 49; first | (with_reducible refine (impl_hasPosition.calls k A0 c0 l0 a1 true _ HR0.out HC0.out H1.out).mono ?_; rintro e w1 ⟨rfl, hb⟩; have HB := Aside0.mk hb; clear hb) | (with_reducible refine (impl_hasPosition.calls k A0 c0 l0 a2 false _ (Kd.C_below HR0.out HB.out) HC0.out H3.out).mono ?_; rintro e w2 ⟨rfl, hb⟩; have HB2 := Aside0.mk (below_step HB.out hb); clear hb))
      refine bodyPost_ret (results_list (rs := [.tmp 6, .tmp 7]) rfl (by simp) (.tmp (.tmp .nil))) rfl ?_
      exact ⟨_, rfl, Kd.R_nil _ _ _ _ _, HB2.out⟩
    | true =>
      rw [if_pos rfl] at h4
      by_cases hwf : (jd.wfB l0 && (decide (0 ≤ a1) && (decide (a1 < (l0.length : Int)) && (decide (0 ≤ a2) && (decide (a2 < (l0.length : Int)) && decide ((pv.run (a1.toNat + a2.toNat + 1) l0 [] a1 a2).1.length ≤ 1000000)))))) = true
      · rw [if_pos hwf] at h4
        simp only [Bool.and_eq_true, decide_eq_true_eq] at hwf
        obtain ⟨hwB, ha0, ha1, hb0, hb1, hlen⟩ := hwf
        have hw := jd.wf_of hwB
        obtain ⟨a, rfl⟩ : ∃ a : Nat, a1 = (a : Int) := ⟨a1.toNat, by omega⟩
        obtain ⟨b, rfl⟩ : ∃ b : Nat, a2 = (b : Int) := ⟨a2.toNat, by omega⟩
        have ha : a < l0.length := by omega
        have hb : b < l0.length := by omega
        rw [Int.toNat_natCast, Int.toNat_natCast] at h4 hlen
        have H4 := Aside0.mk h4
        clear h4 hwB ha0 ha1 hb0 hb1
        have hmm := @run_makeMap Try.prog
        have hzero : ∀ w1, (zeroValue 80).run Try.prog w1 = .ok (.agg #[.slice none 0 0, .slice none 0 0, .map none]) w1 := fun w1 => by kernel_rfl
        go_enter Try.func32, Try.ntmps32
        go_upto_region 3 with (go_at_call 49; first | (with_reducible refine (impl_hasPosition.calls k A0 c0 l0 a true _ HR0.out HC0.out H1.out).mono ?_; rintro e w1 ⟨rfl, hb⟩; have HB := Aside0.mk hb; clear hb) | (with_reducible refine (impl_hasPosition.calls k A0 c0 l0 b true _ (Kd.C_below HR0.out HB.out) HC0.out H3.out).mono ?_; rintro e w2 ⟨rfl, hb⟩; have HB2 := Aside0.mk (below_step HB.out hb); clear hb))
        go_upto_region 4 with (fail)
        have HR2 := Aside0.mk (Kd.C_below HR0.out HB2.out)
        have z := heap_alloc_new (w2.alloc (.map #[] 0)) (.cells #[.slice A0 l0.length c0, .slice none 0 0, .map (some w2.heap.size)] 80)
        rw [World.size_alloc] at z
        have hJ0 : pv.J l0 A0 c0 (w2.heap.size + 1) w2.heap.size w2.heap.size [] (.slice none 0 0) ((w2.alloc (.map #[] 0)).alloc (.cells #[.slice A0 l0.length c0, .slice none 0 0, .map (some w2.heap.size)] 80)) := ⟨z, Kd.R_nil _ _ _ _ _, _, (MpP.OwnP.made w2 Try.prog 107 4).kept (World.grownBy_alloc _ _ none) (by simp), fun p => rfl⟩
        have hB0 : Below w2.heap.size w2 ((w2.alloc (.map #[] 0)).alloc (.cells #[.slice A0 l0.length c0, .slice none 0 0, .map (some w2.heap.size)] 80)) := ((Below.refl _ w2).alloc (Nat.le_refl _) _).alloc (by simp) _
        have HCALL := Aside0.mk (pv.prove l0 hw A0 c0 w2 HR2.out HC0.out (w2.heap.size + 1) w2.heap.size (by omega) (Nat.le_refl _) (a + b + 1) a b (by omega) ha hb [] (.slice none 0 0) _ hlen hB0 hJ0)
        clear z hJ0 hB0 hmm hzero
        generalize (w2.alloc (.map #[] 0)).alloc (.cells #[.slice A0 l0.length c0, .slice none 0 0, .map (some w2.heap.size)] 80) = w3 at HCALL ⊢
        go_upto_region 5 with (go_at_call 65; refine (HCALL.out).mono ?_; rintro e w5 ⟨v5, rfl, hJ5, hB5, hK5, hO5⟩; have HJ5 := Aside0.mk hJ5; have HB5 := Aside0.mk hB5; clear hJ5 hB5 hK5 hO5)
        generalize pv.run (a + b + 1) l0 [] (a : Int) (b : Int) = R at H4 HJ5 hlen ⊢
        clear HCALL
        obtain ⟨Ao, co, rfl⟩ := Kd.R_slice HJ5.out.2.1
        have jc1 := (blk_cell HJ5.out.1 1).trans rfl
        have h4 := H4.out
        by_cases hl : R.1.length > 200
        · rw [if_pos hl] at h4
          simp only [Option.some.injEq, Prod.mk.injEq] at h4
          obtain ⟨rfl, rfl⟩ := h4
          have hd_ : decide ((200 : Int) < (R.1.length : Int)) = true := decide_eq_true (by omega)
          go_wp2
          refine bodyPost_ret (results_list (rs := [.tmp 6, .tmp 7]) rfl (by simp) (.tmp (.tmp .nil))) rfl ?_
          exact ⟨_, rfl, Kd.R_nil _ _ _ _ _, below_step HB2.out HB5.out⟩
        · rw [if_neg hl] at h4
          simp only [Option.some.injEq, Prod.mk.injEq] at h4
          obtain ⟨rfl, rfl⟩ := h4
          have hd_ : decide ((200 : Int) < (R.1.length : Int)) = false := decide_eq_false (by omega)
          go_wp2
          refine bodyPost_ret (results_list (rs := [.tmp 6, .tmp 7]) rfl (by simp) (.tmp (.tmp .nil))) rfl ?_
          exact ⟨_, rfl, Kd.R_lower HJ5.out.2.1 HB2.out.size, below_step HB2.out HB5.out⟩
      · rw [if_neg hwf] at h4
        cases h4

end Go.Proofs.Ytpiafobcmhfclaa.QFnExactProveOrder
