/- The law FnExactSumOfPictures: whatever comes in, its call returns true, and what came in reads as it did. Conditions: none. -/
import Derived.Test.YtnabbkaipfhmdaaRows
import Derived.Test.YtnabbkaipfhmdaaQFnExactSumOfPicturesx8
import Derived.Test.YtnabbkaipfhmdaaOpen
import Derived.Test.YtnabbkaipfhmdaaPureFnExactSumOfPictures
import Derived.WalkKit
import Derived.ProofKit
import Derived.OpenShut
import Derived.ShutString
import Derived.ChangeOld
import Derived.Below
import Derived.Carry
import Derived.SizedLaws
namespace Go.Proofs.Ytnabbkaipfhmdaa.fnExactSumOfPictures
open Go.ChangeShapes Go.WideShapes Go.ChangeAt Go.RowKit Go.Proofs.YtnabbkaipfhmdaaW.PrintWords Go.Proofs.Ytnabbkaipfhmdaa.QFnExactSumOfPictures
open Go.ChangeMaps (open_string shut_string)
set_option linter.unusedVariables false
set_option linter.unusedSimpArgs false
theorem own : ownKnob Try.prog.godebug = none := by kernel_rfl
theorem laidOut : laidOutB Try.prog = true := by kernel_rfl
theorem opens0 (W : World) : Open.Opens Try.prog W 24 (Kd.slice 57 k57) (fun x => (x.length ≤ maxLen ∧ ∀ y0 ∈ x, ((Lit.int .i64 y0.f0).wf = true ∧ ((Lit.int .i64 y0.f1).wf = true ∧ True)))) := (Open.struct Try.underlying24 (by kernel_rfl) (Open.field_one (by rfl) (by kernel_rfl) (Open.slice Try.underlying22 (by kernel_rfl) (Open.iso (fun x : S57 => (x.f0, x.f1, x.f2)) (fun p => ⟨p.1, p.2.1, p.2.2⟩) (fun _ => rfl) (Open.struct Try.underlying57 (by kernel_rfl) (Open.field_more (by rfl) (by kernel_rfl) (Open.int Try.underlying3) (Open.field_more (by rfl) (by kernel_rfl) (Open.int Try.underlying3) (Open.field_one (by rfl) (by kernel_rfl) (Open.bool Try.underlying4)))))))))
theorem opens1 (W : World) : Open.Opens Try.prog W 24 (Kd.slice 57 k57) (fun x => (x.length ≤ maxLen ∧ ∀ y0 ∈ x, ((Lit.int .i64 y0.f0).wf = true ∧ ((Lit.int .i64 y0.f1).wf = true ∧ True)))) := (Open.struct Try.underlying24 (by kernel_rfl) (Open.field_one (by rfl) (by kernel_rfl) (Open.slice Try.underlying22 (by kernel_rfl) (Open.iso (fun x : S57 => (x.f0, x.f1, x.f2)) (fun p => ⟨p.1, p.2.1, p.2.2⟩) (fun _ => rfl) (Open.struct Try.underlying57 (by kernel_rfl) (Open.field_more (by rfl) (by kernel_rfl) (Open.int Try.underlying3) (Open.field_more (by rfl) (by kernel_rfl) (Open.int Try.underlying3) (Open.field_one (by rfl) (by kernel_rfl) (Open.bool Try.underlying4)))))))))
set_option maxRecDepth 100000 in
theorem lifted (os : Os) (started : os.Started) (H : Type) (enc : TypeId × Value → H) :
    ReturnsInHanded {} Try.checked os 4 .any (Rows.fnExactSumOfPicturesSpec.pre6 enc Try.prog Try.f4 Rows.fnExactSumOfPicturesRow.domain false) (Rows.fnExactSumOfPicturesSpec.post enc Try.prog Try.f4 false true false false) := by
  refine returnsInHanded_of_change_sized (C := Try.checked) own started (by kernel_rfl) Try.func4
    (ChangeSpec.witness6 (enc := enc) (C := Try.checked) false ⟨#[], #[.agg #[.slice none 0 0], .agg #[.slice none 0 0]], []⟩ 8 (by kernel_rfl) (by kernel_rfl) (by kernel_rfl) (by kernel_rfl)) ?_
  intro W base args ds gs before hval0 hW hcnd hsz0 _
  have hsz : (DataW.weightsEach Try.prog (Try.f4.params.toList ++ Rows.fnExactSumOfPicturesSpec.plain.varTypes Try.prog) (ds ++ gs)).all (· ≤ reachBytes) = true := hsz0
  have hval : ∀ (j : Nat) t v, Try.f4.params[j]? = some t → args[j]? = some v → Value.okWide Try.prog W .any base t v := hval0
  have hW' := hW
  obtain ⟨p, q, hA0, hV, rfl, hfz, hnd⟩ := hW
  have hA : DataW.TrodAll enc Try.prog W 0 (fun _ => true) true Try.f4.params.toList args.toList ds p := hA0
  rw [Try.params4] at hA hval hsz
  obtain ⟨v0, vs0, d0, ds0, p0, q0, hargs, rfl, rfl, h0, r0⟩ := trodAll_cons hA
  obtain ⟨v1, vs1, d1, ds1, p1, q1, rfl, rfl, rfl, h1, r1⟩ := trodAll_cons r0
  obtain ⟨rfl, rfl, rfl⟩ := trodAll_nil r1
  obtain rfl : args = #[v0, v1] := by cases args; simp_all
  obtain ⟨rfl, rfl⟩ := trodVars_none hV
  obtain ⟨cs0, rfl, z0⟩ := okWide_struct Try.underlying24 (hval 0 24 v0 rfl rfl)
  have k0 := h0
  have lt0 : ∀ x ∈ p0, x.block < W.heap.size := by obtain ⟨m, hm⟩ := k0; exact DataW.trod_lt m _ _ _ hm
  obtain ⟨fuel0, hf0⟩ := h0
  obtain ⟨l0_0, K0, s0⟩ := (opens0 W).out enc fuel0 _ _ hf0
  obtain ⟨A0_0, c0_0, g0_0, hc0_0, hr0_0⟩ := K0
  have e0 : cs0.toList = ([.slice A0_0 l0_0.length c0_0] : List Value) := by simpa [Value.cells] using g0_0
  obtain rfl : cs0 = #[.slice A0_0 l0_0.length c0_0] := by cases cs0; simp_all
  obtain ⟨cs1, rfl, z1⟩ := okWide_struct Try.underlying24 (hval 1 24 v1 rfl rfl)
  have k1 := h1
  have lt1 : ∀ x ∈ p1, x.block < W.heap.size := by obtain ⟨m, hm⟩ := k1; exact DataW.trod_lt m _ _ _ hm
  obtain ⟨fuel1, hf1⟩ := h1
  obtain ⟨l1_0, K1, s1⟩ := (opens1 W).out enc fuel1 _ _ hf1
  obtain ⟨A1_0, c1_0, g1_0, hc1_0, hr1_0⟩ := K1
  have e1 : cs1.toList = ([.slice A1_0 l1_0.length c1_0] : List Value) := by simpa [Value.cells] using g1_0
  obtain rfl : cs1 = #[.slice A1_0 l1_0.length c1_0] := by cases cs1; simp_all
  clear hA0 hval0 hsz0 hsz
  obtain ⟨k, hk⟩ := Pure.FnExactSumOfPictures l0_0 l1_0 s0 s1
  refine (laws_FnExactSumOfPictures.calls k _ _ l0_0 _ _ l1_0 true ⟨rfl⟩ W hr0_0 hc0_0 hr1_0 hc1_0 hk).mono fun e W' ⟨he, bel⟩ => ?_
  subst he
  exact ⟨_, rfl, _, _, _, [], _, [], hW', trodAll_mk1 (shut_bool Try.underlying4 _), (trodAll_cons_mk (Below.trod laidOut (by kernel_rfl) (of_decide_eq_true (by kernel_rfl)) k0 bel lt0) (trodAll_cons_mk (Below.trod laidOut (by kernel_rfl) (of_decide_eq_true (by kernel_rfl)) k1 bel lt1) trodAll_mk0)), rfl, bel.frame _, fun h => by cases h⟩
theorem over : Rows.fnExactSumOfPicturesRow.holds Try.pinned (OpenSpec.ofChange Rows.fnExactSumOfPicturesSpec) :=
  OpenClaim.holds_of_wide 4 Try.f4 rfl rfl rfl rfl rfl rfl rfl ⟨rfl, rfl, rfl, rfl, rfl⟩ rfl rfl rfl rfl rfl (by kernel_rfl) Try.func4 (by kernel_rfl)
    (of_decide_eq_true (by kernel_rfl)) (by unfold Func.isWrapper; first | (rw [if_pos (by decide +kernel)]; kernel_rfl) | (rw [if_neg (by decide +kernel)]; exact ⟨rfl, rfl⟩))
    (fun os started H enc _ => lifted os started H enc)
theorem proved : Rows.FnExactSumOfPicturesSaid := over
#print axioms proved
end Go.Proofs.Ytnabbkaipfhmdaa.fnExactSumOfPictures
namespace Go.Proofs.Ytnabbkaipfhmdaa
/-- The row, under a short name, for the claim. -/
theorem fnExactSumOfPictures_holds : Rows.FnExactSumOfPicturesSaid := fnExactSumOfPictures.proved
end Go.Proofs.Ytnabbkaipfhmdaa
