/- What a value that came in reads as, kind by kind: whatever can be read as data of a type is a number, a string, a list or a struct of the printed functions. -/
import Derived.ProofKit
import Derived.Deep.Slices
import Derived.Test.YtgjpfhedhehmdaaWWords
import Derived.Test.YtgjpfhedhehmdaaWMore
namespace Go.Proofs.Ytgjpfhedhehmdaa.Open
open Go.RowKit Go.ChangeShapes Go.WideShapes Go.Deep Go.Proofs.YtgjpfhedhehmdaaW.PrintWords
set_option linter.unusedVariables false

/-- Whatever reads at this type is of this kind, and more is known of it. -/
structure Opens {α : Type} (P : Program) (W : World) (t : TypeId) (d : Kd α) (S : α → Prop) : Prop where
  out : ∀ {H : Type} (enc : TypeId × Value → H) (fuel : Nat) (cs : List Value) (x : DataW H × List MemPlace),
    DataW.trod enc P W 0 (fun _ => true) true fuel t cs = some x → ∃ a : α, d.K W a cs ∧ S a

/-- The same of the fields of a struct, from an offset on. -/
structure OpensF {α : Type} (P : Program) (W : World) (off : Nat) (fs : List Field) (d : Kd α) (S : α → Prop) : Prop where
  out : ∀ {H : Type} (enc : TypeId × Value → H) (n : Nat) (cs : List Value), cs.length = off + d.sz →
    (∀ f ∈ fs, ∃ x, DataW.trod enc P W 0 (fun _ => true) true n f.type ((cs.drop f.offset).take (P.cellsOf f.type)) = some x) → ∃ a : α, d.K W a (cs.drop off) ∧ S a

section
variable {P : Program} {W : World} {t : TypeId}

theorem int {k : IntKind} (h : P.underlying t = some (.int k)) : Opens P W t (Kd.int k) (fun a => (Lit.int k a).wf = true) := by
  refine ⟨fun {H} enc fuel cs x hx => ?_⟩
  obtain ⟨n, rfl, _, hw⟩ := DataW.trod_int h hx
  exact ⟨n, rfl, hw⟩
theorem bool (h : P.underlying t = some .bool) : Opens P W t Kd.bool (fun _ => True) := by
  refine ⟨fun {H} enc fuel cs x hx => ?_⟩
  obtain ⟨n, rfl, _⟩ := DataW.trod_bool h hx
  exact ⟨n, rfl, trivial⟩
theorem string (h : P.underlying t = some .string) : Opens P W t Kd.string (fun s => s.size ≤ maxLen) := by
  refine ⟨fun {H} enc fuel cs x hx => ?_⟩
  obtain ⟨n, rfl, _, hw⟩ := DataW.trod_string h hx
  exact ⟨n, rfl, hw⟩
theorem slice {α : Type} {e : TypeId} {d : Kd α} {S : α → Prop} (h : P.underlying t = some (.slice e)) (hc : P.cellsOf e = d.sz) (he : Opens P W e d S) :
    Opens P W t (Kd.slice e d) (fun l => l.length ≤ maxLen ∧ ∀ y ∈ l, S y) := by
  refine ⟨fun {H} enc fuel cs x hx => ?_⟩
  rcases open_slice h hx with ⟨rfl, _⟩ | ⟨a, len, cap, m, n, D, Pl, rfl, _, hl, hm, hmm, _, hel⟩
  · exact ⟨[], ⟨none, 0, rfl, Nat.le_refl _, rfl, by simp, fun h0 => absurd h0 (Nat.lt_irrefl _)⟩, by simp, fun y hy => by cases hy⟩
  · have hmc : m = cap := by simpa using hmm
    subst hmc
    have one : ∀ i : Fin len, ∃ y : α, (∃ c : List Value, c.length = d.sz ∧ d.K W y c ∧ ∀ j u, c[j]? = some u → W.cell? (a.add (i.val * d.sz + j)) = some u) ∧ S y := by
      intro i
      obtain ⟨c, hcs, hr⟩ := hel i.val (by have := i.isLt; omega)
      obtain ⟨y, hK, hS⟩ := he.out enc n c _ hr
      obtain ⟨_, hlen, hcell⟩ := World.cells?_some hcs
      refine ⟨y, ⟨c, by rw [hlen, hc], hK, fun j u hj => ?_⟩, hS⟩
      have hjl : j < P.cellsOf e := by have := (List.getElem?_eq_some_iff.1 hj).1; omega
      have := hcell j hjl
      rw [Go.Deep.add_add, hc] at this
      rw [this, hj]
    let f : Fin len → α := fun i => Classical.choose (one i)
    have hf : ∀ i, (∃ c : List Value, c.length = d.sz ∧ d.K W (f i) c ∧ ∀ j u, c[j]? = some u → W.cell? (a.add (i.val * d.sz + j)) = some u) ∧ S (f i) := fun i => Classical.choose_spec (one i)
    have hlen : (List.ofFn f).length = len := List.length_ofFn
    refine ⟨List.ofFn f, ⟨some a, m, ?_, ?_, ?_, ?_, ?_⟩, ?_, ?_⟩
    · rw [hlen]
    · rw [hlen]; exact hl
    · rfl
    · rw [hlen]; simp only [maxLen] at hm; omega
    · intro _
      refine ⟨a, rfl, fun j p hj => ?_⟩
      rw [List.getElem?_ofFn] at hj
      split at hj
      · rename_i hjl
        injection hj with hj
        rw [← hj]
        exact (hf ⟨j, hjl⟩).1
      · cases hj
    · rw [hlen]; omega
    · intro y hy
      obtain ⟨i, rfl⟩ := List.mem_ofFn.1 hy
      exact (hf i).2
theorem field_one {α : Type} {off : Nat} {f : Field} {d : Kd α} {S : α → Prop} (ho : f.offset = off) (hc : P.cellsOf f.type = d.sz) (h : Opens P W f.type d S) : OpensF P W off [f] d S := by
  refine ⟨fun {H} enc n cs hl hx => ?_⟩
  obtain ⟨x, hx⟩ := hx f (by simp)
  rw [ho, hc, List.take_of_length_le (by rw [List.length_drop]; omega)] at hx
  exact h.out enc n _ x hx
theorem field_more {α β : Type} {off : Nat} {f : Field} {fs : List Field} {d : Kd α} {d2 : Kd β} {S : α → Prop} {S2 : β → Prop} (ho : f.offset = off) (hc : P.cellsOf f.type = d.sz) (h : Opens P W f.type d S)
    (h2 : OpensF P W (off + d.sz) fs d2 S2) : OpensF P W off (f :: fs) (Kd.pair d d2) (fun x => S x.1 ∧ S2 x.2) := by
  refine ⟨fun {H} enc n cs hl hx => ?_⟩
  obtain ⟨x, hx1⟩ := hx f (by simp)
  rw [ho, hc] at hx1
  obtain ⟨a, hK, hS⟩ := h.out enc n _ x hx1
  obtain ⟨b, hK2, hS2⟩ := h2.out enc n cs (by rw [hl, Nat.add_assoc]; rfl) (fun g hg => hx g (by simp [hg]))
  refine ⟨(a, b), ⟨_, _, ?_, hK, hK2⟩, hS, hS2⟩
  rw [← List.drop_drop, List.take_append_drop]
theorem struct {α : Type} {fs : Array Field} {d : Kd α} {S : α → Prop} (h : P.underlying t = some (.struct fs)) (hc : P.cellsOf t = d.sz) (hf : OpensF P W 0 fs.toList d S) : Opens P W t d S := by
  refine ⟨fun {H} enc fuel cs x hx => ?_⟩
  obtain ⟨xs, n, _, _, hl, hlen, hel⟩ := DataW.trod_struct h hx
  have := hf.out enc n cs (by rw [hl, hc, Nat.zero_add]) (fun f hfm => by
    obtain ⟨i, hi, he⟩ := List.mem_iff_getElem.1 hfm
    have hi' : i < fs.size := by simpa using hi
    have e1 : fs[i]? = some f := by
      rw [Array.getElem?_eq_getElem hi']
      simpa using he
    have e2 := hel i f e1
    rw [List.getElem?_eq_getElem (by omega)] at e2
    exact ⟨_, e2⟩)
  rwa [List.drop_zero] at this
theorem iso {α β : Type} {d : Kd α} {S : α → Prop} (f : β → α) (g : α → β) (hg : ∀ a, f (g a) = a) (h : Opens P W t d S) : Opens P W t (Kd.iso d f) (fun b => S (f b)) := by
  refine ⟨fun {H} enc fuel cs x hx => ?_⟩
  obtain ⟨a, hK, hS⟩ := h.out enc fuel cs x hx
  exact ⟨g a, by show d.K W (f (g a)) cs; rw [hg]; exact hK, by show S (f (g a)); rw [hg]; exact hS⟩
end
end Go.Proofs.Ytgjpfhedhehmdaa.Open
