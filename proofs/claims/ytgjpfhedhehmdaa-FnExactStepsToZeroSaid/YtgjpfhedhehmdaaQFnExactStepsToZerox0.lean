/- The Go functions that the law FnExactStepsToZero reaches, as Lean functions, and what their calls do. Written by a program of this session. -/
import Derived.Test.YtgjpfhedhehmdaaProg
import Derived.Below
import Derived.Deep.Draws
import Derived.Deep.AppendLies
import Derived.Maps.AppendAt
import Derived.OwnWalk
import Derived.Laws.BytesArg
import Derived.Laws.MakeOwn
import Derived.Laws.OwnMore
import Derived.Deep.OwnRows
import Derived.Tactics
import Derived.Lib.ConvBytes
import Derived.Laws.Slices
import Derived.WalkKit
import Derived.KernelRfl
import Derived.RowKit3
import Derived.Deep.LoopGhost
import Derived.Deep.QuietTactic
import Derived.BigQuiet
import Derived.WideLaws
import Derived.Deep.DeepCutAuto
import Derived.Deep.CutBlock
import Derived.Deep.RegionHeld3
import Derived.Laws.Rows
import Derived.Lib.AppendStr
import Derived.ArgAppend
import Derived.Laws.IdiomCopy
import Derived.OrdersHeld
import Derived.Laws.BitsLemmas
import Derived.RowKit
import Derived.Test.YtgjpfhedhehmdaaRf
import Derived.Deep.QuietTactic
import Derived.BigQuiet
import Derived.StillTailTactics
import Derived.Shelf.Abstract
import Derived.LoopNIn
import Derived.LoopIn
import Derived.Test.YtgjpfhedhehmdaaWWords
import Derived.Test.YtgjpfhedhehmdaaWLast
import Derived.Test.YtgjpfhedhehmdaaWTab
import Derived.Test.YtgjpfhedhehmdaaWFour
import Derived.Test.YtgjpfhedhehmdaaWQPut
import Derived.Test.YtgjpfhedhehmdaaWApart
import Derived.Test.YtgjpfhedhehmdaaWArr
import Derived.Test.YtgjpfhedhehmdaaWZeros
import Derived.Test.YtgjpfhedhehmdaaWFoot
import Derived.Test.YtgjpfhedhehmdaaWKept
import Derived.Test.YtgjpfhedhehmdaaWShare
import Derived.Test.YtgjpfhedhehmdaaWN
import Derived.Test.YtgjpfhedhehmdaaWFootNe
import Derived.Test.YtgjpfhedhehmdaaWAt
import Derived.Test.YtgjpfhedhehmdaaWEqStruct
import Derived.Test.YtgjpfhedhehmdaaWRepsOne
import Derived.Test.YtgjpfhedhehmdaaWInv
import Derived.Test.YtgjpfhedhehmdaaWInvWords
import Derived.Test.YtgjpfhedhehmdaaWGuard
import Derived.Test.YtgjpfhedhehmdaaWNEv
import Derived.Test.YtgjpfhedhehmdaaWMore
namespace Go.Proofs.Ytgjpfhedhehmdaa.QFnExactStepsToZero
open Go.RowKit Go.Proofs.YtgjpfhedhehmdaaW.PrintWords Go.Proofs.YtgjpfhedhehmdaaW.PrintLast Go.Proofs.YtgjpfhedhehmdaaW.PrintMore
attribute [local go_sem] max2_int min2_int max_two min_two max_three min_three max_four min_four   -- for this text's walks alone
set_option linter.unusedVariables false
set_option linter.unusedSimpArgs false



def errW : Option Int → Value
  | none => .nilIface
  | some c => .iface 0 (.int .i64 c)
theorem errW_none : errW none = .nilIface := rfl
theorem errW_some (c : Int) : errW (some c) = .iface 0 (.int .i64 c) := rfl

theorem info3 : (Try.prog.info? 3).map (fun i => (i.zero, i.size, i.bytes)) = some (some (.int .i64 0), 1, 8) := by kernel_rfl
-- the values' own types
/-- A struct of one field, in line. -/
structure Box (α : Type) where
  f0 : α
/-! #### struct type 69, nested in itself -/
structure S69 where
  f0 : (Box (List S69))
  f1 : Int
def z69 : S69 := ⟨⟨([] : List S69)⟩, (0 : Int)⟩
def F69 (d : Kd S69) : Kd S69 := Kd.iso (Kd.pair (Kd.slice 69 d) (Kd.int .i64)) (fun x : S69 => (x.f0.f0, x.f1))
theorem mono69 : Kd.Mono F69 := Kd.mono_iso _ (Kd.mono_pair (Kd.mono_slice 69 Kd.mono_id) (Kd.mono_const _))
theorem sub69 : Kd.Sub F69 [69] := Kd.sub_iso _ (Kd.sub_pair (Kd.sub_slice 69 (by decide) Kd.sub_id) (Kd.sub_const _ (by decide)))
theorem sz69 : ∀ n, (Kd.upto F69 2 [69] n).sz = 2 := Kd.upto_sz (fun _ => rfl)
def k69 : Kd S69 := Kd.fix F69 2 [69] sz69 (Kd.upto_E sub69)
theorem k69_open {w : World} {x : S69} {cs : List Value} (h : k69.K w x cs) : ∃ A0 c0, cs = [.slice A0 x.f0.f0.length c0, .int .i64 x.f1] ∧ x.f0.f0.length ≤ c0 ∧ k69.C w A0 x.f0.f0.length x.f0.f0 := by
  obtain ⟨n, h⟩ := h
  cases n with
  | zero => exact h.elim
  | succ n =>
    obtain ⟨_, _, rfl, ⟨A0, c0, rfl, l0, g0⟩, rfl⟩ := h
    exact ⟨A0, c0, rfl, l0, Kd.fix_C g0⟩
theorem k69_openM {w : World} {base : Nat} {ok : Nat → Prop} {x : S69} {cs : List Value} (h : k69.M w base ok x cs) : ∃ v0, cs = [v0, .int .i64 x.f1] ∧ k69.R 69 w base ok v0 x.f0.f0 := by
  obtain ⟨n, h⟩ := h
  cases n with
  | zero => exact h.elim
  | succ n =>
    obtain ⟨_, _, rfl, ⟨v0, rfl, g0⟩, rfl⟩ := h
    exact ⟨v0, rfl, Kd.fix_R g0⟩
theorem k69_mk (w : World) (x : S69) {A0 : Option Addr} {c0 : Nat} (l0 : x.f0.f0.length ≤ c0) (g0 : k69.C w A0 x.f0.f0.length x.f0.f0) : k69.K w x [.slice A0 x.f0.f0.length c0, .int .i64 x.f1] := by
  obtain ⟨n0, q0⟩ := Kd.fix_C_back mono69 g0
  have r0 := Kd.upto_C_le mono69 sz69 (show n0 ≤ n0 by omega) q0
  exact ⟨n0 + 1, ⟨[.slice A0 x.f0.f0.length c0], [.int .i64 x.f1], rfl, ⟨A0, c0, rfl, l0, r0⟩, rfl⟩⟩
theorem k69_mkM (w : World) (base : Nat) (ok : Nat → Prop) (x : S69) {v0 : Value} (g0 : k69.R 69 w base ok v0 x.f0.f0) : k69.M w base ok x [v0, .int .i64 x.f1] := by
  obtain ⟨n0, q0⟩ := Kd.fix_R_back mono69 g0
  have r0 := Kd.upto_R_le mono69 sz69 (show n0 ≤ n0 by omega) q0
  exact ⟨n0 + 1, ⟨[v0], [.int .i64 x.f1], rfl, ⟨v0, rfl, r0⟩, rfl⟩⟩
def rd_T69 (xs : List S69) (i : Int) : S69 := xs.getD i.toNat z69
theorem at_T69 {w : World} {A : Option Addr} {n : Nat} {xs : List S69} (h : Kd.C k69 w A n xs) (i : Int) (h0 : 0 ≤ i) (h1 : i < n) : ∃ ad A0 c0, A = some ad ∧ w.cell? (ad.add (i.toNat * 2)) = some (.slice A0 (rd_T69 xs i).f0.f0.length c0) ∧ w.cell? ⟨(ad.add (i.toNat * 2)).block, (ad.add (i.toNat * 2)).off + 1, none⟩ = some (.int .i64 (rd_T69 xs i).f1) ∧ (rd_T69 xs i).f0.f0.length ≤ c0 ∧ k69.C w A0 (rd_T69 xs i).f0.f0.length (rd_T69 xs i).f0.f0 := by
  obtain ⟨ad, c, e, _, hK, hc0⟩ := Kd.C_get h z69 i h0 h1
  have hc : ∀ j u, c[j]? = some u → w.cell? (ad.add (i.toNat * 2 + j)) = some u := hc0
  obtain ⟨A0, c0, rfl, l0, g0⟩ := k69_open hK
  exact ⟨ad, A0, c0, e, hc 0 _ rfl, by rw [← add_field _ _ 1 (by omega)]; exact hc 1 _ rfl, l0, g0⟩

end Go.Proofs.Ytgjpfhedhehmdaa.QFnExactStepsToZero
