/- Maps of the call's own, read as the list of their keys. -/
import Derived.Test.YtjfhhpkgjdkmdaaDoorMp
namespace Go.Proofs.YtjfhhpkgjdkmdaaDoor.Mp
open Go Go.Maps Go.RowKit
set_option linter.unusedVariables false

/-- Block b is a map whose keys are just those of L. -/
def addKey (L : List Int) (x : Int) : List Int := if L.contains x = true then L else x :: L
theorem addKey_le (L : List Int) (x : Int) : (addKey L x).length ≤ L.length + 1 := by
  unfold addKey
  split <;> simp
theorem addKey_mem (L : List Int) (x y : Int) : y ∈ addKey L x ↔ y = x ∨ y ∈ L := by
  unfold addKey
  split
  · rename_i h
    rw [List.contains_iff_mem] at h
    exact ⟨Or.inr, fun q => q.elim (fun e => e ▸ h) id⟩
  · exact List.mem_cons
theorem addKey_nodup (L : List Int) (x : Int) (h : L.Nodup) : (addKey L x).Nodup := by
  unfold addKey
  split
  · exact h
  · rename_i q
    rw [List.contains_iff_mem] at q
    exact List.nodup_cons.2 ⟨q, h⟩
def OwnL (w : World) (P : Program) (k e : TypeId) (q : IntKind) (b : Nat) (L : List Int) : Prop :=
  ∃ D : DataW Unit, w.ownsMap P k (plainElem P e) b L.length D ∧ Maps.size D = L.length ∧ ∀ x : Int, (Lit.int q x).wf = true → Maps.has D (.int q x) = L.contains x
section
variable {P : Program} {k e : TypeId} {q : IntKind} {w : World} {b : Nat} {L : List Int}
theorem OwnL.kept {w' : World} {row : Option Nat} (h : OwnL w P k e q b L) (hg : w.grownBy w' row) (hne : some b ≠ row) : OwnL w' P k e q b L := by
  obtain ⟨D, h1, h2⟩ := h
  exact ⟨D, h1.kept hg hne, h2⟩
theorem OwnL.alloc (h : OwnL w P k e q b L) (o : Obj) : OwnL (w.alloc o) P k e q b L := by
  obtain ⟨D, h1, h2⟩ := h
  exact ⟨D, h1.alloc o, h2⟩
theorem OwnL.drew (h : OwnL w P k e q b L) : OwnL w.drew P k e q b L := by
  obtain ⟨D, h1, h2⟩ := h
  exact ⟨D, h1.drew, h2⟩
theorem OwnL.lt (h : OwnL w P k e q b L) : b < w.heap.size := h.choose_spec.1.lt
theorem OwnL.made (w : World) (P : Program) (k e : TypeId) (q : IntKind) : OwnL (w.alloc (.map #[] 0)) P k e q w.heap.size [] :=
  ⟨.map [], World.ownsMap_made w P k _, rfl, fun _ _ => rfl⟩
theorem OwnL.put (h : OwnL w P k e q b L) {t : TypeId} (K : Keyed P k) (ht : P.underlying t = some (.map k e)) (he : P.underlying e = some .bool) (hn : L.length < maxLen) {X : Int} (hk : P.underlying k = some (.int q)) (hw : (Lit.int q X).wf = true) (v : Bool) :
    ∃ w', (Instr.mapUpdate t (.map (some b)) (.int q X) (.bool v)).run P w = .ok () w' ∧ OwnL w' P k e q b (addKey L X) ∧ w.mapTurned w' b := by
  obtain ⟨D, h1, h2, h3⟩ := h
  obtain ⟨w', hrun, g1, g2⟩ := h1.store K ht hn (keyOf_int_mk hk hw) (plainElem_bool he v)
  have hs : Maps.size (D.put (.int q X) (.lit (.bool v))) = (addKey L X).length := by
    rw [Maps.size_put (h1.tidy K), h3 X hw, h2]
    unfold addKey
    split <;> simp
  refine ⟨w', hrun, ⟨_, ownsMap_tight g1 (Nat.le_of_eq hs), hs, fun y hy => ?_⟩, g2⟩
  have hkl : WideAt.IsKeyLit (Lit.int q X) := by trivial
  by_cases c : y = X
  · subst c
    rw [has_put_same h1.isMap hkl]
    exact (List.contains_iff_mem.2 ((addKey_mem L y y).2 (Or.inl rfl))).symm
  · have hne : Lit.int q y ≠ Lit.int q X := by intro e; injection e; contradiction
    rw [has_put_other hne, h3 y hy, Bool.eq_iff_iff, List.contains_iff_mem, List.contains_iff_mem, addKey_mem]
    exact ⟨Or.inr, fun q => q.elim (fun e => absurd e c) id⟩
end

section
variable {P : Program} {w : World} {ops : Array Oper} {rest : List Oper} {o : Oper} {a : Act} {Q : Exit → Act → World → Prop} {k e t : TypeId} {q : IntKind} {b n : Nat} {S : Int → Bool} {f : Int → Option Int}
theorem step_insL {L : List Int} (hown : OwnL w P k e q b L) (K : Keyed P k) (ht : P.underlying t = some (.map k e)) (he : P.underlying e = some .bool) (hk : P.underlying k = some (.int q)) (hn : L.length < maxLen)
    (m x v : Operand) (X : Int) (V : Bool) (hg : o.guard = none) (hop : o.op = Op.insert t m x v) (hm : a.eval m = .map (some b)) (hx : a.eval x = .int q X) (hv : a.eval v = .bool V) (hw : (Lit.int q X).wf = true)
    (hK : ∀ w', OwnL w' P k e q b (addKey L X) → w.mapTurned w' b → wpList P ops Q rest (a.put o.dst undef) w') : wpList P ops Q (o :: rest) a w := by
  refine wpList_plain hg fun K' hK' => ?_
  obtain ⟨w', hrun, r1, r2⟩ := hown.put K ht he hn hk hw V
  unfold Oper.wp
  simp [execOp, hop, hm, hx, hv, hrun, Result.andThen]
  exact hK' _ _ (hK w' r1 r2)
theorem step_lenL {L : List Int} (hown : OwnL w P k e q b L) (ht : P.underlying t = some (.map k e)) (m : Operand) (hg : o.guard = none) (hop : o.op = Op.call { callee := Callee.builtin Builtin.len, args := #[m], argTypes := #[t] }) (hm : a.eval m = .map (some b))
    (hK : wpList P ops Q rest (a.put o.dst (.int .i64 (L.length : Int))) w) : wpList P ops Q (o :: rest) a w := by
  obtain ⟨D, h1, h2, h3⟩ := hown
  refine wpList_len_own w hg m t hop k e ht (plainElem P e) b L.length D hm h1 ?_
  rw [h2]
  exact hK
end
end Go.Proofs.YtjfhhpkgjdkmdaaDoor.Mp
