/- Maps of the call's own from pairs of numbers (arrays of two ints) to bools, read as plain functions. -/
import Derived.Maps.OwnSet
import Derived.WideKeyArr
import Derived.WalkKit
import Derived.Test.YtpiafobcmhfclaaMp
namespace Go.Proofs.Ytpiafobcmhfclaa.MpP
open Go Go.Maps Go.RowKit Go.Proofs.Ytpiafobcmhfclaa
set_option linter.unusedVariables false

/-- The key's type: an array of two ints. -/
structure Two (P : Program) (k i : TypeId) : Prop where
  A : WideMaps.ArrKey P k i 2
  hi : P.underlying i = some (.int .i64)
  hsz : ∃ m, P.types.size = m + 1
def enc (p : Nat × Nat) : Value := .agg #[.int .i64 (p.1 : Int), .int .i64 (p.2 : Int)]
def Small (p : Nat × Nat) : Prop := p.1 < 40 ∧ p.2 < 40
theorem enc_inj {p q : Nat × Nat} (h : enc p = enc q) : p = q := by
  unfold enc at h
  injection h with h
  have h1 := congrArg (fun a : Array Value => a[0]?) h
  have h2 := congrArg (fun a : Array Value => a[1]?) h
  simp at h1 h2
  exact Prod.ext (by omega) (by omega)
section
variable {P : Program} {k i e : TypeId} {w : World} {b n : Nat} {f : Nat × Nat → Option Bool}
theorem Two.keyed (T : Two P k i) : Keyed P k := Keyed.of_law T.A.law
theorem Two.key (T : Two P k i) {p : Nat × Nat} (hp : Small p) : ∃ l, keyOf P k (enc p) = some l := by
  obtain ⟨m, hm⟩ := T.hsz
  have w1 : (Lit.int .i64 (p.1 : Int)).wf = true := Mp.wfN _ (by have := hp.1; omega)
  have w2 : (Lit.int .i64 (p.2 : Int)).wf = true := Mp.wfN _ (by have := hp.2; omega)
  have hkt := T.A.keyType T.hsz
  have hf : (enc p).formed P k = true := by
    unfold enc Value.formed
    rw [T.A.hu]
    simp [T.A.size]
  have hl : ∀ x : Int, (Lit.int .i64 x).wf = true → P.keyLits (m + 1) i [.int .i64 x] = some [.int .i64 x] := by
    intro x hx
    unfold Program.keyLits
    rw [T.hi]
    simp [hx]
  have hk : P.keyLits (P.types.size + 1) k (enc p).cells.toList = some [.int .i64 (p.1 : Int), .int .i64 (p.2 : Int)] := by
    unfold Program.keyLits
    rw [T.A.hu, hm]
    have hc : (enc p).cells.toList = [.int .i64 (p.1 : Int), .int .i64 (p.2 : Int)] := rfl
    rw [hc]
    simp only [T.A.size, T.A.one, List.length_cons, List.length_nil, Nat.reduceAdd, if_true]
    simp [List.range_succ, hl _ w1, hl _ w2]
  unfold keyOf
  rw [T.A.hu]
  simp only [hkt, hf, Bool.and_self, if_true, hk, Option.map_some]
  exact ⟨_, rfl⟩
/-- Block b is such a map; f tells what is there. -/
def OwnG (w : World) (P : Program) (k e : TypeId) (b n : Nat) (f : Nat × Nat → Option Bool) : Prop :=
  ∃ D : DataW Unit, w.ownsMap P k (plainElem P e) b n D ∧ ∀ x : Nat × Nat, Small x → ∀ l, keyOf P k (enc x) = some l → Maps.has D l = (f x).isSome ∧ D.atKey l (.lit (.bool false)) = .lit (.bool ((f x).getD false))
theorem OwnG.kept {w' : World} {row : Option Nat} (h : OwnG w P k e b n f) (hg : w.grownBy w' row) (hne : some b ≠ row) : OwnG w' P k e b n f := by
  obtain ⟨D, h1, h2⟩ := h
  exact ⟨D, h1.kept hg hne, h2⟩
theorem OwnG.lt (h : OwnG w P k e b n f) : b < w.heap.size := h.choose_spec.1.lt
theorem OwnG.made (w : World) (P : Program) (k e : TypeId) : OwnG (w.alloc (.map #[] 0)) P k e w.heap.size 0 (fun _ => none) :=
  ⟨.map [], World.ownsMap_made w P k _, fun _ _ _ _ => ⟨rfl, rfl⟩⟩
theorem OwnG.run_ok (h : OwnG w P k e b n f) {t : TypeId} (T : Two P k i) (ht : P.underlying t = some (.map k e)) (he : P.underlying e = some .bool) (hz : (zeroValue e).run P w = .ok (.bool false) w) {X : Nat × Nat} (hX : Small X) :
    (Instr.lookup t (.map (some b)) (enc X) true).run P w = .ok (.tuple #[.bool ((f X).getD false), .bool (f X).isSome]) w := by
  obtain ⟨D, h1, h2⟩ := h
  obtain ⟨l, hl⟩ := T.key hX
  obtain ⟨v, ps, hrun, hv⟩ := h1.look_ok T.keyed ht hz (plainElem_bool he false) hl
  obtain ⟨x, rfl, hx⟩ := Mp.plainElem_bool_inv he hv
  simp only [Prod.mk.injEq] at hx
  obtain ⟨q1, q2⟩ := h2 X hX l hl
  rw [q2] at hx
  have : (f X).getD false = x := by have := hx.1; injection this with a; injection a
  rw [this, ← q1]
  exact hrun
theorem OwnG.put (h : OwnG w P k e b n f) {t : TypeId} (T : Two P k i) (ht : P.underlying t = some (.map k e)) (he : P.underlying e = some .bool) (hn : n < maxLen) {X : Nat × Nat} (hX : Small X) (v : Bool) :
    ∃ w', (Instr.mapUpdate t (.map (some b)) (enc X) (.bool v)).run P w = .ok () w' ∧ OwnG w' P k e b (if (f X).isSome then n else n + 1) (fun y => if y = X then some v else f y) ∧ w.mapTurned w' b := by
  obtain ⟨D, h1, h2⟩ := h
  obtain ⟨l, hl⟩ := T.key hX
  obtain ⟨w', hrun, g1, g2⟩ := h1.store T.keyed ht hn hl (plainElem_bool he v)
  have hkl : WideAt.IsKeyLit l := T.keyed.key hl
  have hsz : Maps.size (D.put l (.lit (.bool v))) ≤ if (f X).isSome then n else n + 1 := by
    rw [Maps.size_put (h1.tidy T.keyed), (h2 X hX l hl).1]
    have := h1.size_le
    split <;> omega
  refine ⟨w', hrun, ⟨_, Mp.ownsMap_tight g1 hsz, fun y hy ly hly => ?_⟩, g2⟩
  by_cases c : y = X
  · subst c
    have : ly = l := Option.some.inj (hly.symm.trans hl)
    subst this
    show _ = (if y = y then some v else f y).isSome ∧ _ = DataW.lit (Lit.bool ((if y = y then some v else f y).getD false))
    rw [atKey_put_same h1.isMap hkl, has_put_same h1.isMap hkl, if_pos rfl]
    exact ⟨rfl, rfl⟩
  · have hne : ly ≠ l := by
      intro e1
      subst e1
      exact c (enc_inj (T.keyed.inj hly hl))
    show _ = (if y = X then some v else f y).isSome ∧ _ = DataW.lit (Lit.bool ((if y = X then some v else f y).getD false))
    rw [atKey_put_other hne, has_put_other hne, if_neg c]
    exact h2 y hy ly hly
theorem few (L : List (Nat × Nat)) (h : L.Nodup) (hs : ∀ x ∈ L, Small x) : L.length ≤ 1600 := by
  have h1 : (L.map fun p => ((p.1 * 40 + p.2 : Nat) : Int)).Nodup := by
    unfold List.Nodup at h ⊢
    rw [List.pairwise_map]
    refine List.Pairwise.imp_of_mem (fun {a c} ha hc hne e1 => hne ?_) h
    have ha' := hs a ha
    have hc' := hs c hc
    unfold Small at ha' hc'
    exact Prod.ext (by omega) (by omega)
  have := Mp.nodup_range _ 1600 h1 (fun x hx => by
    obtain ⟨p, hp, rfl⟩ := List.mem_map.1 hx
    have := hs p hp
    unfold Small at this
    omega)
  rwa [List.length_map] at this
/-- .. whose keys are pairs of numbers below 40. -/
def OwnP (w : World) (P : Program) (k e : TypeId) (b : Nat) (f : Nat × Nat → Option Bool) : Prop :=
  ∃ n, OwnG w P k e b n f ∧ ∃ L : List (Nat × Nat), L.Nodup ∧ n ≤ L.length ∧ ∀ x ∈ L, Small x ∧ (f x).isSome = true
theorem OwnP.kept {w' : World} {row : Option Nat} (h : OwnP w P k e b f) (hg : w.grownBy w' row) (hne : some b ≠ row) : OwnP w' P k e b f := by
  obtain ⟨n, h1, h2⟩ := h
  exact ⟨n, h1.kept hg hne, h2⟩
theorem OwnP.lt (h : OwnP w P k e b f) : b < w.heap.size := h.choose_spec.1.lt
theorem OwnP.made (w : World) (P : Program) (k e : TypeId) : OwnP (w.alloc (.map #[] 0)) P k e w.heap.size (fun _ => none) :=
  ⟨0, OwnG.made w P k e, [], List.nodup_nil, Nat.le_refl _, fun _ h => by cases h⟩
theorem OwnP.run_ok (h : OwnP w P k e b f) {t : TypeId} (T : Two P k i) (ht : P.underlying t = some (.map k e)) (he : P.underlying e = some .bool) (hz : (zeroValue e).run P w = .ok (.bool false) w) {X : Nat × Nat} (hX : Small X) :
    (Instr.lookup t (.map (some b)) (enc X) true).run P w = .ok (.tuple #[.bool ((f X).getD false), .bool (f X).isSome]) w := h.choose_spec.1.run_ok T ht he hz hX
theorem OwnP.put (h : OwnP w P k e b f) {t : TypeId} (T : Two P k i) (ht : P.underlying t = some (.map k e)) (he : P.underlying e = some .bool) {X : Nat × Nat} (hX : Small X) (v : Bool) :
    ∃ w', (Instr.mapUpdate t (.map (some b)) (enc X) (.bool v)).run P w = .ok () w' ∧ OwnP w' P k e b (fun y => if y = X then some v else f y) ∧ w.mapTurned w' b := by
  obtain ⟨n, h1, L, l1, l2, l3⟩ := h
  have hl := few L l1 (fun x hx => (l3 x hx).1)
  obtain ⟨w', hrun, g1, g2⟩ := h1.put T ht he (by unfold maxLen; omega) hX v
  refine ⟨w', hrun, ⟨_, g1, ?_⟩, g2⟩
  cases c : (f X).isSome with
  | true =>
    refine ⟨L, l1, by simpa using l2, fun x hx => ⟨(l3 x hx).1, ?_⟩⟩
    by_cases e : x = X
    · simp [e]
    · simp [e, (l3 x hx).2]
  | false =>
    refine ⟨X :: L, List.nodup_cons.2 ⟨fun hx => Bool.noConfusion ((l3 X hx).2.symm.trans c), l1⟩, by simpa using l2, fun x hx => ?_⟩
    rcases List.mem_cons.1 hx with rfl | hx
    · exact ⟨hX, by simp⟩
    · refine ⟨(l3 x hx).1, ?_⟩
      by_cases e : x = X
      · simp [e]
      · simp [e, (l3 x hx).2]
theorem step_putP {ops : Array Oper} {rest : List Oper} {o : Oper} {a : Act} {Q : Exit → Act → World → Prop} {t : TypeId} (hown : OwnP w P k e b f) (T : Two P k i) (ht : P.underlying t = some (.map k e)) (he : P.underlying e = some .bool)
    (m x v : Operand) (X : Nat × Nat) (hX : Small X) (V : Bool) (hg : o.guard = none) (hop : o.op = Op.mapUpdate t m x v) (hm : a.eval m = .map (some b)) (hx : a.eval x = .agg #[.int .i64 (X.1 : Int), .int .i64 (X.2 : Int)]) (hv : a.eval v = .bool V)
    (hK : ∀ w', OwnP w' P k e b (fun y => if y = X then some V else f y) → w.mapTurned w' b → wpList P ops Q rest (a.put o.dst undef) w') : wpList P ops Q (o :: rest) a w := by
  refine wpList_plain hg fun K' hK' => ?_
  obtain ⟨w', hrun, r1, r2⟩ := hown.put T ht he hX V
  unfold enc at hrun
  unfold Oper.wp
  simp [execOp, hop, hm, hx, hv, hrun, Result.andThen]
  exact hK' _ _ (hK w' r1 r2)
end
end Go.Proofs.Ytpiafobcmhfclaa.MpP
