/- The law FnExactParsePicture: whatever comes in, its call returns true, and what came in reads as it did. Conditions: none. -/
import Derived.Test.YtjfhhpkgjdkmdaaDoorRows
import Derived.Test.YtjfhhpkgjdkmdaaDoorQFnExactParsePicturex9
import Derived.Test.YtjfhhpkgjdkmdaaDoorOpen
import Derived.Test.YtjfhhpkgjdkmdaaDoorPureFnExactParsePicture
import Derived.WalkKit
import Derived.ProofKit
import Derived.OpenShut
import Derived.ShutString
import Derived.ChangeOld
import Derived.Below
import Derived.Carry
import Derived.SizedLaws
import Derived.LaidMore
import Derived.Deep.DeepHandedRow
import Derived.JoinedCond
import Derived.Lay
import Derived.Stop.Joined
import Derived.Lib.LaidTab
import Derived.Stop.LaidErr
import Derived.MakeChecks
import Derived.SevenTiedAt
import Derived.Test.YtjfhhpkgjdkmdaaDoorCards
import Derived.Test.YtjfhhpkgjdkmdaaDoorTie
namespace Go.Proofs.YtjfhhpkgjdkmdaaDoor.fnExactParsePicture
open Go.ChangeShapes Go.WideShapes Go.ChangeAt Go.RowKit Go.Proofs.YtjfhhpkgjdkmdaaDoorW.PrintWords Go.Proofs.YtjfhhpkgjdkmdaaDoor.QFnExactParsePicture
open Go.ChangeMaps (open_string shut_string)
set_option linter.unusedVariables false
set_option linter.unusedSimpArgs false
theorem own : ownKnob Tryd.prog.godebug = none := by kernel_rfl
theorem laidOut : laidOutB Tryd.prog = true := by kernel_rfl
theorem of_laid {W : World} (h : laidMetH Tryd.prog Rows.fnExactParsePictureRow.laid W) (hs : W.ShapedOpen Tryd.prog) : Tabs W := by
  rw [MakeChecks.laidMetH_plain _ _ _ (by kernel_rfl)] at h
  have h1 := laidMet.tail (x := ("math/bits.deBruijn32tab", Rows.laid_math_bits_deBruijn32tab)) h
  have h2 := laidMet.tail (x := ("math/bits.deBruijn64tab", Rows.laid_math_bits_deBruijn64tab)) h1
  have h3 := laidMet.tail (x := ("internal/strconv.uint64pow10", Rows.laid_internal_strconv_uint64pow10)) h2
  have h4 := laidMet.tail (x := ("unicode/utf8.acceptRanges", Rows.laid_unicode_utf8_acceptRanges)) h3
  have h5 := laidMet.tail (x := ("strconv.ErrRange", Rows.laid_strconv_ErrRange)) h4
  have ht : laidMet Tryd.prog [("internal/strconv.uint64pow10", Lib.tabData .u64 Lib.pow10Tab), ("unicode/utf8.acceptRanges", Rows.laid_unicode_utf8_acceptRanges), ("strconv.ErrRange", Rows.laid_strconv_ErrRange), ("strconv.ErrSyntax", Rows.laid_strconv_ErrSyntax), ("unicode/utf8.first", Rows.laid_unicode_utf8_first)] W := h2
  have hI := Lib.tabIs_of_head (show Tryd.prog.globalNamed "internal/strconv.uint64pow10" = some 3 by kernel_rfl) (show (Tryd.prog.globals[3]?).map (·.type) = some 157 by kernel_rfl) Tryd.underlying157 Tryd.underlying129 (by kernel_rfl) (by kernel_rfl) ht
  have cellOf : ∀ (n : String) (g : Nat) (d : DataW Unit) (r : List (String × DataW Unit)), Tryd.prog.globalNamed n = some g → (Tryd.prog.globals[g]?).map (·.type) = some 65 → laidMet Tryd.prog ((n, d) :: r) W → (∃ nm x, d = .iface nm x) → ∃ e1, W.cell? ⟨g, 0, none⟩ = some e1 ∧ isErr e1 := by
    intro n g d r hg hty hm hd
    obtain ⟨ps, ⟨g0, t0, cs0, f0, p0, q0, hg0, ht0, hv0, hd0, _, _⟩, _, _⟩ := hm
    obtain rfl := Option.some.inj (hg.symm.trans hg0)
    obtain rfl := Option.some.inj (hty.symm.trans ht0)
    obtain ⟨nm, x, rfl⟩ := hd
    cases f0 with
    | zero => simp [DataW.trod] at hd0
    | succ f0 =>
      obtain ⟨l0⟩ := cs0
      have hcell := World.var?_cell hg hv0 0
      rcases l0 with _ | ⟨c, _ | ⟨c2, l⟩⟩
      · simp [DataW.trod, Tryd.underlying65] at hd0
      · cases c <;> first | (exfalso; simp [DataW.trod, Tryd.underlying65] at hd0; done) | exact ⟨_, hcell, .inr ⟨_, _, rfl⟩⟩
      · exfalso
        cases c <;> simp [DataW.trod, Tryd.underlying65] at hd0
  refine ⟨⟨hI, World.block_lt_of_cell? W _ (hI.cell (g := 3) (by kernel_rfl) 0 (by decide))⟩, Tryd.laysM145.s1_3 W hs, ?_, ?_⟩
  · exact cellOf "strconv.ErrSyntax" 1 _ _ (by kernel_rfl) (by kernel_rfl) h5 ⟨_, _, rfl⟩
  · exact cellOf "strconv.ErrRange" 2 _ _ (by kernel_rfl) (by kernel_rfl) h4 ⟨_, _, rfl⟩
set_option maxRecDepth 100000 in
theorem lifted (os : Os) (started : os.Started) (H : Type) (enc : TypeId × Value → H) (F : Stop.Interp) :
    ReturnsInHanded {} Tryd.checked os 4 .any ((OpenSpec.ofChange Rows.fnExactParsePictureSpec).preRow enc Tryd.prog Tryd.f4 Rows.fnExactParsePictureRow.domain false Rows.fnExactParsePictureRow.laid) (((OpenSpec.ofChange Rows.fnExactParsePictureSpec).at F).post enc Tryd.prog Tryd.f4 false true false false) := by
  refine returnsInHanded_of_row (C := Tryd.checked) (s := OpenSpec.ofChange Rows.fnExactParsePictureSpec) own started (by kernel_rfl) Tryd.func4
    (ChangeSpec.witness_shaped (enc := enc) (C := Tryd.checked) (os := os) (X := fun w _ => laidMetH Tryd.prog Rows.fnExactParsePictureRow.laid w) false (World.laidAll Tryd.prog os Rows.fnExactParsePictureRow.laid) #[.string ByteArray.empty] 8 (World.laidAll_os _ _ _)
      (World.shaped_of_ZipB (by kernel_rfl) (by kernel_rfl)) (by kernel_rfl) (by kernel_rfl) (by kernel_rfl)
      (by rw [MakeChecks.laidMetH_plain _ _ _ (by kernel_rfl)]; exact laidMet_laidAll _ (by kernel_rfl) (by kernel_rfl))) ?_
  intro W base args ds gs before hval0 hW hcnd hcnd2 hsz0 hL hsh _
  have hsz : (DataW.weightsEach Tryd.prog (Tryd.f4.params.toList ++ Rows.fnExactParsePictureSpec.plain.varTypes Tryd.prog) (ds ++ gs)).all (· ≤ reachBytes) = true := hsz0
  have hval : ∀ (j : Nat) t v, Tryd.f4.params[j]? = some t → args[j]? = some v → Value.okWide Tryd.prog W .any base t v := hval0
  have hW' := hW
  obtain ⟨p, q, hA0, hV, rfl, hfz, hnd⟩ := hW
  have hA : DataW.TrodAll enc Tryd.prog W 0 (fun _ => true) true Tryd.f4.params.toList args.toList ds p := hA0
  rw [Tryd.params4] at hA hval hsz
  obtain ⟨v0, vs0, d0, ds0, p0, q0, hargs, rfl, rfl, h0, r0⟩ := trodAll_cons hA
  obtain ⟨rfl, rfl, rfl⟩ := trodAll_nil r0
  obtain rfl : args = #[v0] := by cases args; simp_all
  obtain ⟨rfl, rfl⟩ := trodVars_none hV
  obtain ⟨a0, rfl, rfl, rfl, y0⟩ := open_string Tryd.underlying9 (hval 0 9 v0 rfl rfl) h0
  have w0 : a0.size ≤ 140737488351232 := by
    have z := sized_string hsz (j := 0) (t := 9) rfl rfl
    rw [Array.length_toList] at z
    exact z
  clear hA0 hval0 hsz0 hsz
  obtain ⟨k, hk⟩ := Pure.FnExactParsePicture a0 w0
  refine (laws_FnExactParsePicture.calls k a0 true W (of_laid hL hsh) hk).mono fun e W' ⟨he, bel⟩ => ?_
  subst he
  exact ⟨_, rfl, _, _, _, [], _, [], hW', trodAll_mk1 (shut_bool Tryd.underlying4 _), (trodAll_cons_mk (shut_string Tryd.underlying9 y0) trodAll_mk0), rfl, bel.frame _, fun h => by cases h⟩
theorem over : Rows.fnExactParsePictureRow.holds Tryd.pinned (OpenSpec.ofChange Rows.fnExactParsePictureSpec) :=
  OpenClaim.holds_of_cond 4 Tryd.f4 rfl rfl rfl rfl rfl rfl rfl ⟨rfl, rfl, rfl, rfl, rfl⟩ rfl rfl rfl rfl rfl (by kernel_rfl) Tryd.func4 (by kernel_rfl)
    (of_decide_eq_true (by kernel_rfl)) (by unfold Func.isWrapper; first | (rw [if_pos (by decide +kernel)]; kernel_rfl) | (rw [if_neg (by decide +kernel)]; exact ⟨rfl, rfl⟩))
    (fun os started H enc _ F => by rw [OpenClaim.pre_eq_preRow]; exact lifted os started H enc F)
theorem proved : Rows.FnExactParsePictureSaid := over
#print axioms proved
/-- THE TIED CARD. -/
theorem card_holds : Rows.FnExactParsePictureCardSaid :=
  Claim7.holds_tied_plain_at .later [] [.data, .data, .data, .data, .sentinel, .sentinel, .pinned] true (true, "06af12e90b9cf3a30cda93385f35915c07fb96a809835241aee1f7a962c2e106") true
    proved (fun _ h => by cases h) (by kernel_rfl) (fun _ h => by cases h) fnExactParsePicture_row_tie rfl ⟨rfl, rfl⟩ (by kernel_rfl) rfl
    (fun f fn hf hfn => by
      obtain rfl : f = 4 := Option.some.inj ((show Tryd.prog.funcNamed "loop.example/g01096/laws.FnExactParsePicture" = some 4 by kernel_rfl).symm.trans hf) |>.symm
      obtain rfl : fn = Tryd.f4 := (Option.some.inj (Tryd.func4.symm.trans hfn)).symm
      exact ⟨by kernel_rfl, fun j t ht => by
        rw [Tryd.params4] at ht
        have hm : t ∈ [9] := by simpa using Array.mem_of_getElem? ht
        have hall : ([9].all fun u => !Tryd.prog.wantsStandIn u) = true := by kernel_rfl
        exact (show Tryd.prog.wantsStandIn t = false by simpa using List.all_eq_true.1 hall t hm)⟩)
    (by kernel_rfl)
#print axioms card_holds
end Go.Proofs.YtjfhhpkgjdkmdaaDoor.fnExactParsePicture
namespace Go.Proofs.YtjfhhpkgjdkmdaaDoor
/-- The card, under a short name, for the claim. -/
theorem fnExactParsePictureCard_holds : Rows.FnExactParsePictureCardSaid := fnExactParsePicture.card_holds
end Go.Proofs.YtjfhhpkgjdkmdaaDoor
