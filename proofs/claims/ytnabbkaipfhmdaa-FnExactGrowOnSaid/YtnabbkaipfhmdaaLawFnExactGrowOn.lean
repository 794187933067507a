/- The law FnExactGrowOn: whatever comes in, its call returns true, and what came in reads as it did. Conditions: none. -/
import Derived.Test.YtnabbkaipfhmdaaRows
import Derived.Test.YtnabbkaipfhmdaaQFnExactGrowOnx8
import Derived.Test.YtnabbkaipfhmdaaOpen
import Derived.Test.YtnabbkaipfhmdaaPureFnExactGrowOn
import Derived.WalkKit
import Derived.ProofKit
import Derived.OpenShut
import Derived.ShutString
import Derived.ChangeOld
import Derived.Below
import Derived.Carry
import Derived.SizedLaws
namespace Go.Proofs.Ytnabbkaipfhmdaa.fnExactGrowOn
open Go.ChangeShapes Go.WideShapes Go.ChangeAt Go.RowKit Go.Proofs.YtnabbkaipfhmdaaW.PrintWords Go.Proofs.Ytnabbkaipfhmdaa.QFnExactGrowOn
open Go.ChangeMaps (open_string shut_string)
set_option linter.unusedVariables false
set_option linter.unusedSimpArgs false
theorem own : ownKnob Try.prog.godebug = none := by kernel_rfl
theorem laidOut : laidOutB Try.prog = true := by kernel_rfl
theorem opens0 (W : World) : Open.Opens Try.prog W 24 (Kd.slice 57 k57) (fun x => (x.length ≤ maxLen ∧ ∀ y0 ∈ x, ((Lit.int .i64 y0.f0).wf = true ∧ ((Lit.int .i64 y0.f1).wf = true ∧ True)))) := (Open.struct Try.underlying24 (by kernel_rfl) (Open.field_one (by rfl) (by kernel_rfl) (Open.slice Try.underlying22 (by kernel_rfl) (Open.iso (fun x : S57 => (x.f0, x.f1, x.f2)) (fun p => ⟨p.1, p.2.1, p.2.2⟩) (fun _ => rfl) (Open.struct Try.underlying57 (by kernel_rfl) (Open.field_more (by rfl) (by kernel_rfl) (Open.int Try.underlying3) (Open.field_more (by rfl) (by kernel_rfl) (Open.int Try.underlying3) (Open.field_one (by rfl) (by kernel_rfl) (Open.bool Try.underlying4)))))))))
theorem opens2 (W : World) : Open.Opens Try.prog W 24 (Kd.slice 57 k57) (fun x => (x.length ≤ maxLen ∧ ∀ y0 ∈ x, ((Lit.int .i64 y0.f0).wf = true ∧ ((Lit.int .i64 y0.f1).wf = true ∧ True)))) := (Open.struct Try.underlying24 (by kernel_rfl) (Open.field_one (by rfl) (by kernel_rfl) (Open.slice Try.underlying22 (by kernel_rfl) (Open.iso (fun x : S57 => (x.f0, x.f1, x.f2)) (fun p => ⟨p.1, p.2.1, p.2.2⟩) (fun _ => rfl) (Open.struct Try.underlying57 (by kernel_rfl) (Open.field_more (by rfl) (by kernel_rfl) (Open.int Try.underlying3) (Open.field_more (by rfl) (by kernel_rfl) (Open.int Try.underlying3) (Open.field_one (by rfl) (by kernel_rfl) (Open.bool Try.underlying4)))))))))
set_option maxRecDepth 100000 in
theorem lifted (os : Os) (started : os.Started) (H : Type) (enc : TypeId × Value → H) :
    ReturnsInHanded {} Try.checked os 3 .any (Rows.fnExactGrowOnSpec.pre6 enc Try.prog Try.f3 Rows.fnExactGrowOnRow.domain false) (Rows.fnExactGrowOnSpec.post enc Try.prog Try.f3 false true false false) := by
  refine returnsInHanded_of_change_sized (C := Try.checked) own started (by kernel_rfl) Try.func3
    (ChangeSpec.witness6 (enc := enc) (C := Try.checked) false ⟨#[], #[.agg #[.slice none 0 0], .int .i64 0, .agg #[.slice none 0 0]], []⟩ 8 (by kernel_rfl) (by kernel_rfl) (by kernel_rfl) (by kernel_rfl)) ?_
  intro W base args ds gs before hval0 hW hcnd hsz0 _
  have hsz : (DataW.weightsEach Try.prog (Try.f3.params.toList ++ Rows.fnExactGrowOnSpec.plain.varTypes Try.prog) (ds ++ gs)).all (· ≤ reachBytes) = true := hsz0
  have hval : ∀ (j : Nat) t v, Try.f3.params[j]? = some t → args[j]? = some v → Value.okWide Try.prog W .any base t v := hval0
  have hW' := hW
  obtain ⟨p, q, hA0, hV, rfl, hfz, hnd⟩ := hW
  have hA : DataW.TrodAll enc Try.prog W 0 (fun _ => true) true Try.f3.params.toList args.toList ds p := hA0
  rw [Try.params3] at hA hval hsz
  obtain ⟨v0, vs0, d0, ds0, p0, q0, hargs, rfl, rfl, h0, r0⟩ := trodAll_cons hA
  obtain ⟨v1, vs1, d1, ds1, p1, q1, rfl, rfl, rfl, h1, r1⟩ := trodAll_cons r0
  obtain ⟨v2, vs2, d2, ds2, p2, q2, rfl, rfl, rfl, h2, r2⟩ := trodAll_cons r1
  obtain ⟨rfl, rfl, rfl⟩ := trodAll_nil r2
  obtain rfl : args = #[v0, v1, v2] := by cases args; simp_all
  obtain ⟨rfl, rfl⟩ := trodVars_none hV
  obtain ⟨cs0, rfl, z0⟩ := okWide_struct Try.underlying24 (hval 0 24 v0 rfl rfl)
  have k0 := h0
  have lt0 : ∀ x ∈ p0, x.block < W.heap.size := by obtain ⟨m, hm⟩ := k0; exact DataW.trod_lt m _ _ _ hm
  obtain ⟨fuel0, hf0⟩ := h0
  obtain ⟨l0_0, K0, s0⟩ := (opens0 W).out enc fuel0 _ _ hf0
  obtain ⟨A0_0, c0_0, g0_0, hc0_0, hr0_0⟩ := K0
  have e0 : cs0.toList = ([.slice A0_0 l0_0.length c0_0] : List Value) := by simpa [Value.cells] using g0_0
  obtain rfl : cs0 = #[.slice A0_0 l0_0.length c0_0] := by cases cs0; simp_all
  obtain ⟨a1, rfl, rfl, rfl, w1⟩ := open_int Try.underlying3 (hval 1 3 v1 rfl rfl) h1
  obtain ⟨cs2, rfl, z2⟩ := okWide_struct Try.underlying24 (hval 2 24 v2 rfl rfl)
  have k2 := h2
  have lt2 : ∀ x ∈ p2, x.block < W.heap.size := by obtain ⟨m, hm⟩ := k2; exact DataW.trod_lt m _ _ _ hm
  obtain ⟨fuel2, hf2⟩ := h2
  obtain ⟨l2_0, K2, s2⟩ := (opens2 W).out enc fuel2 _ _ hf2
  obtain ⟨A2_0, c2_0, g2_0, hc2_0, hr2_0⟩ := K2
  have e2 : cs2.toList = ([.slice A2_0 l2_0.length c2_0] : List Value) := by simpa [Value.cells] using g2_0
  obtain rfl : cs2 = #[.slice A2_0 l2_0.length c2_0] := by cases cs2; simp_all
  clear hA0 hval0 hsz0 hsz
  obtain ⟨k, hk⟩ := Pure.FnExactGrowOn l0_0 a1 l2_0 s0 w1 s2
  refine (laws_FnExactGrowOn.calls k _ _ l0_0 a1 _ _ l2_0 true ⟨rfl⟩ W hr0_0 hc0_0 hr2_0 hc2_0 hk).mono fun e W' ⟨he, bel⟩ => ?_
  subst he
  exact ⟨_, rfl, _, _, _, [], _, [], hW', trodAll_mk1 (shut_bool Try.underlying4 _), (trodAll_cons_mk (Below.trod laidOut (by kernel_rfl) (of_decide_eq_true (by kernel_rfl)) k0 bel lt0) (trodAll_cons_mk (shut_int Try.underlying3 w1) (trodAll_cons_mk (Below.trod laidOut (by kernel_rfl) (of_decide_eq_true (by kernel_rfl)) k2 bel lt2) trodAll_mk0))), rfl, bel.frame _, fun h => by cases h⟩
theorem over : Rows.fnExactGrowOnRow.holds Try.pinned (OpenSpec.ofChange Rows.fnExactGrowOnSpec) :=
  OpenClaim.holds_of_wide 3 Try.f3 rfl rfl rfl rfl rfl rfl rfl ⟨rfl, rfl, rfl, rfl, rfl⟩ rfl rfl rfl rfl rfl (by kernel_rfl) Try.func3 (by kernel_rfl)
    (of_decide_eq_true (by kernel_rfl)) (by unfold Func.isWrapper; first | (rw [if_pos (by decide +kernel)]; kernel_rfl) | (rw [if_neg (by decide +kernel)]; exact ⟨rfl, rfl⟩))
    (fun os started H enc _ => lifted os started H enc)
theorem proved : Rows.FnExactGrowOnSaid := over
#print axioms proved
end Go.Proofs.Ytnabbkaipfhmdaa.fnExactGrowOn
namespace Go.Proofs.Ytnabbkaipfhmdaa
/-- The row, under a short name, for the claim. -/
theorem fnExactGrowOn_holds : Rows.FnExactGrowOnSaid := fnExactGrowOn.proved
end Go.Proofs.Ytnabbkaipfhmdaa
