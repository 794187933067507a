/- Maps of the call's own with bools or numbers as elements, read as plain functions. -/
import Derived.Maps.OwnSet
import Derived.WalkKit
namespace Go.Proofs.Ytgjpfhedhehmdaa.Mp
open Go Go.Maps Go.RowKit
set_option linter.unusedVariables false

theorem wfN (j : Nat) (h : j < 2 ^ 61) : (Lit.int .i64 (j : Int)).wf = true := by
  simp [Lit.wf, IntKind.min, IntKind.max, IntKind.signed, IntKind.bits]
  omega

theorem plainElem_bool_inv {H : Type} {P : Program} {e : TypeId} (he : P.underlying e = some .bool) {v : Value} {z : DataW H × List MemPlace} (h : plainElem P e v = some z) : ∃ x, v = .bool x ∧ z = (.lit (.bool x), []) := by
  unfold plainElem at h
  rw [he] at h
  cases v <;> simp at h
  exact ⟨_, rfl, h.symm⟩

/-- Block b is a map from numbers of kind q to bools that reads as S (false where nothing is). -/
def OwnB (w : World) (P : Program) (k e : TypeId) (q : IntKind) (b n : Nat) (S : Int → Bool) : Prop :=
  ∃ D : DataW Unit, w.ownsMap P k (plainElem P e) b n D ∧ ∀ x : Int, (Lit.int q x).wf = true → D.atKey (.int q x) (.lit (.bool false)) = .lit (.bool (S x))
/-- .. to ints: f tells what is there. -/
def OwnI (w : World) (P : Program) (k e : TypeId) (q : IntKind) (b n : Nat) (f : Int → Option Int) : Prop :=
  ∃ D : DataW Unit, w.ownsMap P k (plainElem P e) b n D ∧ ∀ x : Int, (Lit.int q x).wf = true → Maps.has D (.int q x) = (f x).isSome ∧ D.atKey (.int q x) (.lit (.int .i64 0)) = .lit (.int .i64 ((f x).getD 0))

section
variable {P : Program} {k e : TypeId} {q : IntKind} {w : World} {b n : Nat} {S : Int → Bool} {f : Int → Option Int}
theorem OwnB.kept {w' : World} {row : Option Nat} (h : OwnB w P k e q b n S) (hg : w.grownBy w' row) (hne : some b ≠ row) : OwnB w' P k e q b n S := by
  obtain ⟨D, h1, h2⟩ := h
  exact ⟨D, h1.kept hg hne, h2⟩
theorem OwnB.alloc (h : OwnB w P k e q b n S) (o : Obj) : OwnB (w.alloc o) P k e q b n S := by
  obtain ⟨D, h1, h2⟩ := h
  exact ⟨D, h1.alloc o, h2⟩
theorem OwnB.drew (h : OwnB w P k e q b n S) : OwnB w.drew P k e q b n S := by
  obtain ⟨D, h1, h2⟩ := h
  exact ⟨D, h1.drew, h2⟩
theorem OwnB.lt (h : OwnB w P k e q b n S) : b < w.heap.size := h.choose_spec.1.lt
theorem OwnB.congr (h : OwnB w P k e q b n S) {S' : Int → Bool} (hs : ∀ x, S x = S' x) {n' : Nat} (hn : n ≤ n') : OwnB w P k e q b n' S' := by
  obtain ⟨D, h1, h2⟩ := h
  exact ⟨D, h1.mono hn, fun x hx => by rw [h2 x hx, hs x]⟩
theorem OwnB.made (w : World) (P : Program) (k e : TypeId) (q : IntKind) : OwnB (w.alloc (.map #[] 0)) P k e q w.heap.size 0 (fun _ => false) :=
  ⟨.map [], World.ownsMap_made w P k _, fun _ _ => rfl⟩
theorem OwnI.kept {w' : World} {row : Option Nat} (h : OwnI w P k e q b n f) (hg : w.grownBy w' row) (hne : some b ≠ row) : OwnI w' P k e q b n f := by
  obtain ⟨D, h1, h2⟩ := h
  exact ⟨D, h1.kept hg hne, h2⟩
theorem OwnI.alloc (h : OwnI w P k e q b n f) (o : Obj) : OwnI (w.alloc o) P k e q b n f := by
  obtain ⟨D, h1, h2⟩ := h
  exact ⟨D, h1.alloc o, h2⟩
theorem OwnI.drew (h : OwnI w P k e q b n f) : OwnI w.drew P k e q b n f := by
  obtain ⟨D, h1, h2⟩ := h
  exact ⟨D, h1.drew, h2⟩
theorem OwnI.lt (h : OwnI w P k e q b n f) : b < w.heap.size := h.choose_spec.1.lt
theorem OwnI.congr (h : OwnI w P k e q b n f) {f' : Int → Option Int} (hs : ∀ x, f x = f' x) {n' : Nat} (hn : n ≤ n') : OwnI w P k e q b n' f' := by
  obtain ⟨D, h1, h2⟩ := h
  exact ⟨D, h1.mono hn, fun x hx => by rw [← hs x]; exact h2 x hx⟩
theorem OwnI.made (w : World) (P : Program) (k e : TypeId) (q : IntKind) : OwnI (w.alloc (.map #[] 0)) P k e q w.heap.size 0 (fun _ => none) :=
  ⟨.map [], World.ownsMap_made w P k _, fun _ _ => ⟨rfl, rfl⟩⟩
theorem OwnB.run (h : OwnB w P k e q b n S) {t : TypeId} (K : Keyed P k) (ht : P.underlying t = some (.map k e)) (he : P.underlying e = some .bool) (hz : (zeroValue e).run P w = .ok (.bool false) w) {X : Int} (hk : P.underlying k = some (.int q)) (hw : (Lit.int q X).wf = true) :
    (Instr.lookup t (.map (some b)) (.int q X) false).run P w = .ok (.bool (S X)) w := by
  obtain ⟨D, h1, h2⟩ := h
  obtain ⟨v, ps, hrun, hv⟩ := h1.lookup K ht hz (plainElem_bool he false) (keyOf_int_mk hk hw)
  obtain ⟨x, rfl, hx⟩ := plainElem_bool_inv he hv
  simp only [Prod.mk.injEq] at hx
  rw [h2 X hw] at hx
  have : S X = x := by have := hx.1; injection this with a; injection a
  rw [this]
  exact hrun
theorem OwnB.put (h : OwnB w P k e q b n S) {t : TypeId} (K : Keyed P k) (ht : P.underlying t = some (.map k e)) (he : P.underlying e = some .bool) (hn : n < maxLen) {X : Int} (hk : P.underlying k = some (.int q)) (hw : (Lit.int q X).wf = true) (v : Bool) :
    ∃ w', (Instr.mapUpdate t (.map (some b)) (.int q X) (.bool v)).run P w = .ok () w' ∧ OwnB w' P k e q b (n + 1) (fun y => if y = X then v else S y) ∧ w.mapTurned w' b := by
  obtain ⟨D, h1, h2⟩ := h
  obtain ⟨w', hrun, g1, g2⟩ := h1.store K ht hn (keyOf_int_mk hk hw) (plainElem_bool he v)
  refine ⟨w', hrun, ⟨_, g1, fun y hy => ?_⟩, g2⟩
  by_cases c : y = X
  · subst c
    have hkl : WideAt.IsKeyLit (Lit.int q y) := by trivial
    show _ = DataW.lit (Lit.bool (if y = y then v else S y))
    rw [atKey_put_same h1.isMap hkl, if_pos rfl]
  · have hne : Lit.int q y ≠ Lit.int q X := by intro e; injection e; contradiction
    show _ = DataW.lit (Lit.bool (if y = X then v else S y))
    rw [atKey_put_other hne, if_neg c]
    exact h2 y hy
theorem OwnI.run (h : OwnI w P k e q b n f) {t : TypeId} (K : Keyed P k) (ht : P.underlying t = some (.map k e)) (he : P.underlying e = some (.int .i64)) (hz : (zeroValue e).run P w = .ok (.int .i64 0) w) {X : Int} (hk : P.underlying k = some (.int q)) (hw : (Lit.int q X).wf = true) :
    (Instr.lookup t (.map (some b)) (.int q X) false).run P w = .ok (.int .i64 ((f X).getD 0)) w := by
  obtain ⟨D, h1, h2⟩ := h
  obtain ⟨c, hrun, hat, _⟩ := h1.lookup_int K ht he hz (keyOf_int_mk hk hw)
  rw [(h2 X hw).2] at hat
  injection hat with a
  injection a with a1 a2
  rw [a2]
  exact hrun
theorem OwnI.run_ok (h : OwnI w P k e q b n f) {t : TypeId} (K : Keyed P k) (ht : P.underlying t = some (.map k e)) (he : P.underlying e = some (.int .i64)) (hz : (zeroValue e).run P w = .ok (.int .i64 0) w) {X : Int} (hk : P.underlying k = some (.int q)) (hw : (Lit.int q X).wf = true) :
    (Instr.lookup t (.map (some b)) (.int q X) true).run P w = .ok (.tuple #[.int .i64 ((f X).getD 0), .bool (f X).isSome]) w := by
  obtain ⟨D, h1, h2⟩ := h
  obtain ⟨v, ps, hrun, hv⟩ := h1.look_ok K ht hz (plainElem_int he (by decide)) (keyOf_int_mk hk hw)
  obtain ⟨c, rfl, hc, _⟩ := plainElem_int_inv he hv
  simp only [Prod.mk.injEq] at hc
  have hat := hc.1
  rw [(h2 X hw).2] at hat
  injection hat with a
  injection a with a1 a2
  rw [a2, ← (h2 X hw).1]
  exact hrun
theorem OwnI.put (h : OwnI w P k e q b n f) {t : TypeId} (K : Keyed P k) (ht : P.underlying t = some (.map k e)) (he : P.underlying e = some (.int .i64)) (hn : n < maxLen) {X V : Int} (hk : P.underlying k = some (.int q)) (hw : (Lit.int q X).wf = true) (hv : (Lit.int .i64 V).wf = true) :
    ∃ w', (Instr.mapUpdate t (.map (some b)) (.int q X) (.int .i64 V)).run P w = .ok () w' ∧ OwnI w' P k e q b (n + 1) (fun y => if y = X then some V else f y) ∧ w.mapTurned w' b := by
  obtain ⟨D, h1, h2⟩ := h
  obtain ⟨w', hrun, g1, g2⟩ := h1.store K ht hn (keyOf_int_mk hk hw) (plainElem_int he hv)
  refine ⟨w', hrun, ⟨_, g1, fun y hy => ?_⟩, g2⟩
  by_cases c : y = X
  · subst c
    have hkl : WideAt.IsKeyLit (Lit.int q y) := by trivial
    show _ = (if y = y then some V else f y).isSome ∧ _ = DataW.lit (Lit.int .i64 ((if y = y then some V else f y).getD 0))
    rw [atKey_put_same h1.isMap hkl, has_put_same h1.isMap hkl, if_pos rfl]
    exact ⟨rfl, rfl⟩
  · have hne : Lit.int q y ≠ Lit.int q X := by intro e; injection e; contradiction
    show _ = (if y = X then some V else f y).isSome ∧ _ = DataW.lit (Lit.int .i64 ((if y = X then some V else f y).getD 0))
    rw [atKey_put_other hne, has_put_other hne, if_neg c]
    exact h2 y hy
end

/-- A list without doubles is no longer than one that holds all of its own. -/
theorem nodup_le : ∀ (L R : List Int), L.Nodup → (∀ x ∈ L, x ∈ R) → L.length ≤ R.length
  | [], _, _, _ => Nat.zero_le _
  | x :: L, R, h, hs => by
    have hx : x ∈ R := hs x (List.mem_cons_self ..)
    have hL := (List.nodup_cons.1 h)
    have := nodup_le L (R.erase x) hL.2 (fun y hy => by
      have hne : y ≠ x := fun e => hL.1 (e ▸ hy)
      exact (List.mem_erase_of_ne hne).2 (hs y (List.mem_cons_of_mem _ hy)))
    rw [List.length_erase_of_mem hx] at this
    have := List.length_pos_of_mem hx
    rw [List.length_cons]
    omega
theorem nodup_range (L : List Int) (N : Nat) (h : L.Nodup) (hs : ∀ x ∈ L, 0 ≤ x ∧ x < (N : Int)) : L.length ≤ N := by
  have := nodup_le L ((List.range N).map fun n : Nat => (n : Int)) h (fun x hx => by
    obtain ⟨h1, h2⟩ := hs x hx
    exact List.mem_map.2 ⟨x.toNat, List.mem_range.2 (by omega), by omega⟩)
  simpa using this
theorem range_nodup : ∀ N : Nat, ((List.range N).map fun n : Nat => (n : Int)).Nodup := by
  intro N
  refine List.Pairwise.map _ ?_ List.nodup_range
  intro a b h e
  exact h (Int.ofNat_inj.1 e)
/-- The least number of at least 0 that is not in a list. -/
def mex (vs : List Int) : Nat := ((List.range (vs.length + 1)).find? fun n : Nat => !vs.contains (n : Int)).getD 0
theorem mex_some (vs : List Int) : (List.range (vs.length + 1)).find? (fun n : Nat => !vs.contains (n : Int)) = some (mex vs) := by
  unfold mex
  cases h : (List.range (vs.length + 1)).find? fun n : Nat => !vs.contains (n : Int) with
  | some n => rfl
  | none =>
    exfalso
    rw [List.find?_eq_none] at h
    have := nodup_le ((List.range (vs.length + 1)).map fun n : Nat => (n : Int)) vs (range_nodup _) (fun x hx => by
      obtain ⟨n, hn, rfl⟩ := List.mem_map.1 hx
      have q := h n hn
      simpa using q)
    simp at this
    omega
theorem mex_not (vs : List Int) : vs.contains ((mex vs : Nat) : Int) = false := by
  have := List.find?_some (mex_some vs)
  simpa using this
theorem mex_le (vs : List Int) : mex vs ≤ vs.length := by
  have := List.mem_of_find?_eq_some (mex_some vs)
  have := List.mem_range.1 this
  omega
theorem mex_all (vs : List Int) (j : Nat) (h : j < mex vs) : vs.contains (j : Int) = true := by
  have q := mex_some vs
  rw [List.find?_range_eq_some] at q
  have := q.2.2 j h
  simpa using this
theorem mex_unique (vs : List Int) (m : Nat) (h1 : vs.contains (m : Int) = false) (h2 : ∀ j : Nat, j < m → vs.contains (j : Int) = true) : m = mex vs := by
  rcases Nat.lt_trichotomy m (mex vs) with h | h | h
  · have := mex_all vs m h
    rw [h1] at this
    cases this
  · exact h
  · have := h2 _ h
    rw [mex_not] at this
    cases this
section
variable {P : Program} {k e : TypeId} {q : IntKind} {w : World} {b n : Nat} {f : Int → Option Int}
theorem ownsMap_tight {H : Type} {R : Value → Option (DataW H × List MemPlace)} {D : DataW H} {m : Nat} (h : w.ownsMap P k R b m D) (hs : Maps.size D ≤ n) : w.ownsMap P k R b n D := by
  obtain ⟨es, clock, hb, F, h1, rfl⟩ := h
  refine ⟨es, clock, hb, F, ?_, rfl⟩
  simpa [Maps.size, length_sorted] using hs
theorem OwnI.put' (h : OwnI w P k e q b n f) {t : TypeId} (K : Keyed P k) (ht : P.underlying t = some (.map k e)) (he : P.underlying e = some (.int .i64)) (hn : n < maxLen) {X V : Int} (hk : P.underlying k = some (.int q)) (hw : (Lit.int q X).wf = true) (hv : (Lit.int .i64 V).wf = true) :
    ∃ w', (Instr.mapUpdate t (.map (some b)) (.int q X) (.int .i64 V)).run P w = .ok () w' ∧ OwnI w' P k e q b (if (f X).isSome then n else n + 1) (fun y => if y = X then some V else f y) ∧ w.mapTurned w' b := by
  obtain ⟨D, h1, h2⟩ := h
  obtain ⟨w', hrun, g1, g2⟩ := h1.store K ht hn (keyOf_int_mk hk hw) (plainElem_int he hv)
  have hsz : Maps.size (D.put (.int q X) (.lit (.int .i64 V))) ≤ if (f X).isSome then n else n + 1 := by
    rw [Maps.size_put (h1.tidy K), (h2 X hw).1]
    have := h1.size_le
    split <;> omega
  refine ⟨w', hrun, ⟨_, ownsMap_tight g1 hsz, fun y hy => ?_⟩, g2⟩
  by_cases c : y = X
  · subst c
    have hkl : WideAt.IsKeyLit (Lit.int q y) := by trivial
    show _ = (if y = y then some V else f y).isSome ∧ _ = DataW.lit (Lit.int .i64 ((if y = y then some V else f y).getD 0))
    rw [atKey_put_same h1.isMap hkl, has_put_same h1.isMap hkl, if_pos rfl]
    exact ⟨rfl, rfl⟩
  · have hne : Lit.int q y ≠ Lit.int q X := by intro e; injection e; contradiction
    show _ = (if y = X then some V else f y).isSome ∧ _ = DataW.lit (Lit.int .i64 ((if y = X then some V else f y).getD 0))
    rw [atKey_put_other hne, has_put_other hne, if_neg c]
    exact h2 y hy
/-- A table whose keys are below N. -/
def OwnK (w : World) (P : Program) (k e : TypeId) (q : IntKind) (b N : Nat) (f : Int → Option Int) : Prop :=
  ∃ n, OwnI w P k e q b n f ∧ ∃ L : List Int, L.Nodup ∧ n ≤ L.length ∧ ∀ x ∈ L, 0 ≤ x ∧ x < (N : Int) ∧ (f x).isSome = true
theorem OwnK.kept {N : Nat} {w' : World} {row : Option Nat} (h : OwnK w P k e q b N f) (hg : w.grownBy w' row) (hne : some b ≠ row) : OwnK w' P k e q b N f := by
  obtain ⟨n, h1, h2⟩ := h
  exact ⟨n, h1.kept hg hne, h2⟩
theorem OwnK.alloc {N : Nat} (h : OwnK w P k e q b N f) (o : Obj) : OwnK (w.alloc o) P k e q b N f := by
  obtain ⟨n, h1, h2⟩ := h
  exact ⟨n, h1.alloc o, h2⟩
theorem OwnK.drew {N : Nat} (h : OwnK w P k e q b N f) : OwnK w.drew P k e q b N f := by
  obtain ⟨n, h1, h2⟩ := h
  exact ⟨n, h1.drew, h2⟩
theorem OwnK.lt {N : Nat} (h : OwnK w P k e q b N f) : b < w.heap.size := h.choose_spec.1.lt
theorem OwnK.made (w : World) (P : Program) (k e : TypeId) (q : IntKind) (N : Nat) : OwnK (w.alloc (.map #[] 0)) P k e q w.heap.size N (fun _ => none) :=
  ⟨0, OwnI.made w P k e q, [], List.nodup_nil, Nat.le_refl _, fun _ h => by cases h⟩
theorem OwnK.put {N : Nat} (h : OwnK w P k e q b N f) (hN : N < 2 ^ 40) {t : TypeId} (K : Keyed P k) (ht : P.underlying t = some (.map k e)) (he : P.underlying e = some (.int .i64)) {X V : Int} (hX : 0 ≤ X ∧ X < (N : Int)) (hk : P.underlying k = some (.int q)) (hw : (Lit.int q X).wf = true) (hv : (Lit.int .i64 V).wf = true) :
    ∃ w', (Instr.mapUpdate t (.map (some b)) (.int q X) (.int .i64 V)).run P w = .ok () w' ∧ OwnK w' P k e q b N (fun y => if y = X then some V else f y) ∧ w.mapTurned w' b := by
  obtain ⟨n, h1, L, l1, l2, l3⟩ := h
  have hl := nodup_range L N l1 (fun x hx => ⟨(l3 x hx).1, (l3 x hx).2.1⟩)
  obtain ⟨w', hrun, g1, g2⟩ := h1.put' K ht he (by unfold maxLen; omega) hk hw hv
  refine ⟨w', hrun, ⟨_, g1, ?_⟩, g2⟩
  cases c : (f X).isSome with
  | true =>
    refine ⟨L, l1, by simpa using l2, fun x hx => ⟨(l3 x hx).1, (l3 x hx).2.1, ?_⟩⟩
    by_cases e : x = X
    · simp [e]
    · simp [e, (l3 x hx).2.2]
  | false =>
    refine ⟨X :: L, List.nodup_cons.2 ⟨fun hx => Bool.noConfusion ((l3 X hx).2.2.symm.trans c), l1⟩, by simpa using l2, fun x hx => ?_⟩
    rcases List.mem_cons.1 hx with rfl | hx
    · exact ⟨hX.1, hX.2, by simp⟩
    · refine ⟨(l3 x hx).1, (l3 x hx).2.1, ?_⟩
      by_cases e : x = X
      · simp [e]
      · simp [e, (l3 x hx).2.2]
end

section
variable {P : Program} {w : World} {ops : Array Oper} {rest : List Oper} {o : Oper} {a : Act} {Q : Exit → Act → World → Prop} {k e t : TypeId} {q : IntKind} {b n : Nat} {S : Int → Bool} {f : Int → Option Int}
theorem step_lookB (hown : OwnB w P k e q b n S) (K : Keyed P k) (ht : P.underlying t = some (.map k e)) (he : P.underlying e = some .bool) (hk : P.underlying k = some (.int q)) (hz : (zeroValue e).run P w = .ok (.bool false) w)
    (m x : Operand) (X : Int) (hg : o.guard = none) (hop : o.op = Op.lookup t m x false) (hm : a.eval m = .map (some b)) (hx : a.eval x = .int q X) (hw : (Lit.int q X).wf = true)
    (hK : wpList P ops Q rest (a.put o.dst (.bool (S X))) w) : wpList P ops Q (o :: rest) a w := by
  refine wpList_plain hg fun K' hK' => ?_
  unfold Oper.wp
  simp [execOp, hop, hm, hx, hown.run K ht he hz hk hw, Result.andThen]
  exact hK' _ _ hK
theorem step_putB (hown : OwnB w P k e q b n S) (K : Keyed P k) (ht : P.underlying t = some (.map k e)) (he : P.underlying e = some .bool) (hk : P.underlying k = some (.int q)) (hn : n < maxLen)
    (m x v : Operand) (X : Int) (V : Bool) (hg : o.guard = none) (hop : o.op = Op.mapUpdate t m x v) (hm : a.eval m = .map (some b)) (hx : a.eval x = .int q X) (hv : a.eval v = .bool V) (hw : (Lit.int q X).wf = true)
    (hK : ∀ w', OwnB w' P k e q b (n + 1) (fun y => if y = X then V else S y) → w.mapTurned w' b → wpList P ops Q rest (a.put o.dst undef) w') : wpList P ops Q (o :: rest) a w := by
  refine wpList_plain hg fun K' hK' => ?_
  obtain ⟨w', hrun, r1, r2⟩ := hown.put K ht he hn hk hw V
  unfold Oper.wp
  simp [execOp, hop, hm, hx, hv, hrun, Result.andThen]
  exact hK' _ _ (hK w' r1 r2)
theorem step_insB (hown : OwnB w P k e q b n S) (K : Keyed P k) (ht : P.underlying t = some (.map k e)) (he : P.underlying e = some .bool) (hk : P.underlying k = some (.int q)) (hn : n < maxLen)
    (m x v : Operand) (X : Int) (V : Bool) (hg : o.guard = none) (hop : o.op = Op.insert t m x v) (hm : a.eval m = .map (some b)) (hx : a.eval x = .int q X) (hv : a.eval v = .bool V) (hw : (Lit.int q X).wf = true)
    (hK : ∀ w', OwnB w' P k e q b (n + 1) (fun y => if y = X then V else S y) → w.mapTurned w' b → wpList P ops Q rest (a.put o.dst undef) w') : wpList P ops Q (o :: rest) a w := by
  refine wpList_plain hg fun K' hK' => ?_
  obtain ⟨w', hrun, r1, r2⟩ := hown.put K ht he hn hk hw V
  unfold Oper.wp
  simp [execOp, hop, hm, hx, hv, hrun, Result.andThen]
  exact hK' _ _ (hK w' r1 r2)
theorem step_lookI (hown : OwnI w P k e q b n f) (K : Keyed P k) (ht : P.underlying t = some (.map k e)) (he : P.underlying e = some (.int .i64)) (hk : P.underlying k = some (.int q)) (hz : (zeroValue e).run P w = .ok (.int .i64 0) w)
    (m x : Operand) (X : Int) (hg : o.guard = none) (hop : o.op = Op.lookup t m x false) (hm : a.eval m = .map (some b)) (hx : a.eval x = .int q X) (hw : (Lit.int q X).wf = true)
    (hK : wpList P ops Q rest (a.put o.dst (.int .i64 ((f X).getD 0))) w) : wpList P ops Q (o :: rest) a w := by
  refine wpList_plain hg fun K' hK' => ?_
  unfold Oper.wp
  simp [execOp, hop, hm, hx, hown.run K ht he hz hk hw, Result.andThen]
  exact hK' _ _ hK
theorem step_lookOk (hown : OwnI w P k e q b n f) (K : Keyed P k) (ht : P.underlying t = some (.map k e)) (he : P.underlying e = some (.int .i64)) (hk : P.underlying k = some (.int q)) (hz : (zeroValue e).run P w = .ok (.int .i64 0) w)
    (m x : Operand) (X : Int) (hg : o.guard = none) (hop : o.op = Op.lookup t m x true) (hm : a.eval m = .map (some b)) (hx : a.eval x = .int q X) (hw : (Lit.int q X).wf = true)
    (hK : wpList P ops Q rest (a.put o.dst (.tuple #[.int .i64 ((f X).getD 0), .bool (f X).isSome])) w) : wpList P ops Q (o :: rest) a w := by
  refine wpList_plain hg fun K' hK' => ?_
  unfold Oper.wp
  simp [execOp, hop, hm, hx, hown.run_ok K ht he hz hk hw, Result.andThen]
  exact hK' _ _ hK
theorem step_putI (hown : OwnI w P k e q b n f) (K : Keyed P k) (ht : P.underlying t = some (.map k e)) (he : P.underlying e = some (.int .i64)) (hk : P.underlying k = some (.int q)) (hn : n < maxLen)
    (m x v : Operand) (X V : Int) (hg : o.guard = none) (hop : o.op = Op.mapUpdate t m x v) (hm : a.eval m = .map (some b)) (hx : a.eval x = .int q X) (hv : a.eval v = .int .i64 V) (hw : (Lit.int q X).wf = true) (hwv : (Lit.int .i64 V).wf = true)
    (hK : ∀ w', OwnI w' P k e q b (n + 1) (fun y => if y = X then some V else f y) → w.mapTurned w' b → wpList P ops Q rest (a.put o.dst undef) w') : wpList P ops Q (o :: rest) a w := by
  refine wpList_plain hg fun K' hK' => ?_
  obtain ⟨w', hrun, r1, r2⟩ := hown.put K ht he hn hk hw hwv
  unfold Oper.wp
  simp [execOp, hop, hm, hx, hv, hrun, Result.andThen]
  exact hK' _ _ (hK w' r1 r2)
theorem step_lookOkK {N : Nat} (hown : OwnK w P k e q b N f) (K : Keyed P k) (ht : P.underlying t = some (.map k e)) (he : P.underlying e = some (.int .i64)) (hk : P.underlying k = some (.int q)) (hz : (zeroValue e).run P w = .ok (.int .i64 0) w)
    (m x : Operand) (X : Int) (hg : o.guard = none) (hop : o.op = Op.lookup t m x true) (hm : a.eval m = .map (some b)) (hx : a.eval x = .int q X) (hw : (Lit.int q X).wf = true)
    (hK : wpList P ops Q rest (a.put o.dst (.tuple #[.int .i64 ((f X).getD 0), .bool (f X).isSome])) w) : wpList P ops Q (o :: rest) a w :=
  step_lookOk hown.choose_spec.1 K ht he hk hz m x X hg hop hm hx hw hK
theorem step_lookK {N : Nat} (hown : OwnK w P k e q b N f) (K : Keyed P k) (ht : P.underlying t = some (.map k e)) (he : P.underlying e = some (.int .i64)) (hk : P.underlying k = some (.int q)) (hz : (zeroValue e).run P w = .ok (.int .i64 0) w)
    (m x : Operand) (X : Int) (hg : o.guard = none) (hop : o.op = Op.lookup t m x false) (hm : a.eval m = .map (some b)) (hx : a.eval x = .int q X) (hw : (Lit.int q X).wf = true)
    (hK : wpList P ops Q rest (a.put o.dst (.int .i64 ((f X).getD 0))) w) : wpList P ops Q (o :: rest) a w :=
  step_lookI hown.choose_spec.1 K ht he hk hz m x X hg hop hm hx hw hK
theorem step_putK {N : Nat} (hown : OwnK w P k e q b N f) (hN : N < 2 ^ 40) (K : Keyed P k) (ht : P.underlying t = some (.map k e)) (he : P.underlying e = some (.int .i64)) (hk : P.underlying k = some (.int q))
    (m x v : Operand) (X V : Int) (hX : 0 ≤ X ∧ X < (N : Int)) (hg : o.guard = none) (hop : o.op = Op.mapUpdate t m x v) (hm : a.eval m = .map (some b)) (hx : a.eval x = .int q X) (hv : a.eval v = .int .i64 V) (hw : (Lit.int q X).wf = true) (hwv : (Lit.int .i64 V).wf = true)
    (hK : ∀ w', OwnK w' P k e q b N (fun y => if y = X then some V else f y) → w.mapTurned w' b → wpList P ops Q rest (a.put o.dst undef) w') : wpList P ops Q (o :: rest) a w := by
  refine wpList_plain hg fun K' hK' => ?_
  obtain ⟨w', hrun, r1, r2⟩ := hown.put hN K ht he hX hk hw hwv
  unfold Oper.wp
  simp [execOp, hop, hm, hx, hv, hrun, Result.andThen]
  exact hK' _ _ (hK w' r1 r2)
end
end Go.Proofs.Ytgjpfhedhehmdaa.Mp
