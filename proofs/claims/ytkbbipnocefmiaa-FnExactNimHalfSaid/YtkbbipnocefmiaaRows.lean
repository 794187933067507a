/-
  No cell of these rows narrows 'for every input' (looked for: loops, veiled, ifaces, maps, wideKeys, modest, calm, conditions, laid).
  DERIVED. THE GIVEN ROWS OF THIS SEAT. 12 by the template 'for every input the law returns true; each argument reads behind the call as it read before'; 0 by the template 'total and deterministic' (their statements: YtkbbipnocefmiaaTotals.lean).
  GIVEN WITH THE SEED: the statements are not yours to turn. If you find one false, say at which input.
  Laid BY PROGRAM, IN A SANDBOX (cutbox-rows.mjs): the forced cells as the released guide's own fill.sh prints them over the translation c7895ea63332ac27… (all of the seat's roots in one cut). By AI agents, Wed Nov 11 2026. No macro, syntax, notation, axiom, sorry.
-/
import Derived.Test.YtkbbipnocefmiaaChecked
import GoSem.Claim
import GoSem.ClaimJoined
import GoSem.ClaimMapViews
import Derived.JoinedTies
import Derived.KernelRfl
namespace Go.Proofs.Ytkbbipnocefmiaa
/- THE CELL 'sum', in the pinned program and in every row, IS THE sha256 OF THE DUMP (.gsa) THAT YtkbbipnocefmiaaProg.lean LOADS. Nothing in Lean hashes anything: it is a label: what it is worth is what the hold of that sum in a sandbox is worth. -/
noncomputable def Try.pinned : Pinned := { name := "ytkbbipnocefmiaa", sum := "c7895ea63332ac270b722ce52885fec91ac361605f7daa1a034988efc2a019d5", checked := Try.checked }
namespace Rows
def none {H : Type} : Left H := { results := [], args := [] }

/-- 'laws.FnNimberField': WHATEVER THE INPUT: true; the input reads as it did. -/
def fnNimberFieldSpec : ChangeSpec := { name := "fnNimberField", fn := fun _ => fun
  | [d1, d2] => { results := [.lit (.bool true)], args := [d1, d2] }
  | _ => none }
def fnNimberFieldRow : OpenClaim := { program := "ytkbbipnocefmiaa", sum := "c7895ea63332ac270b722ce52885fec91ac361605f7daa1a034988efc2a019d5", func := "loop.example/g01096/laws.FnNimberField", spec := "fnNimberField", recurses := true, apart := false }
def FnNimberFieldSaid : Prop := fnNimberFieldRow.holds Try.pinned (OpenSpec.ofChange fnNimberFieldSpec)

/-- ITS FALSE NEIGHBOUR: 'it returns false'. Refute it at one input. -/
def fnNimberFieldWrong : ChangeSpec := { name := "fnNimberField", fn := fun _ => fun
  | [d1, d2] => { results := [.lit (.bool false)], args := [d1, d2] }
  | _ => none }
def FnNimberFieldWrongFalsely : Prop := fnNimberFieldRow.holds Try.pinned (OpenSpec.ofChange fnNimberFieldWrong)

/-- 'laws.FnNimInverses': WHATEVER THE INPUT: true; the input reads as it did. -/
def fnNimInversesSpec : ChangeSpec := { name := "fnNimInverses", fn := fun _ => fun
  | [d1, d2] => { results := [.lit (.bool true)], args := [d1, d2] }
  | _ => none }
def fnNimInversesRow : OpenClaim := { program := "ytkbbipnocefmiaa", sum := "c7895ea63332ac270b722ce52885fec91ac361605f7daa1a034988efc2a019d5", func := "loop.example/g01096/laws.FnNimInverses", spec := "fnNimInverses", recurses := true, apart := false }
def FnNimInversesSaid : Prop := fnNimInversesRow.holds Try.pinned (OpenSpec.ofChange fnNimInversesSpec)

/-- ITS FALSE NEIGHBOUR: 'it returns false'. Refute it at one input. -/
def fnNimInversesWrong : ChangeSpec := { name := "fnNimInverses", fn := fun _ => fun
  | [d1, d2] => { results := [.lit (.bool false)], args := [d1, d2] }
  | _ => none }
def FnNimInversesWrongFalsely : Prop := fnNimInversesRow.holds Try.pinned (OpenSpec.ofChange fnNimInversesWrong)

/-- 'laws.FnNimByOptions': WHATEVER THE INPUT: true; the input reads as it did. -/
def fnNimByOptionsSpec : ChangeSpec := { name := "fnNimByOptions", fn := fun _ => fun
  | [d1, d2] => { results := [.lit (.bool true)], args := [d1, d2] }
  | _ => none }
def fnNimByOptionsRow : OpenClaim := { program := "ytkbbipnocefmiaa", sum := "c7895ea63332ac270b722ce52885fec91ac361605f7daa1a034988efc2a019d5", func := "loop.example/g01096/laws.FnNimByOptions", spec := "fnNimByOptions", recurses := true, apart := false }
def FnNimByOptionsSaid : Prop := fnNimByOptionsRow.holds Try.pinned (OpenSpec.ofChange fnNimByOptionsSpec)

/-- ITS FALSE NEIGHBOUR: 'it returns false'. Refute it at one input. -/
def fnNimByOptionsWrong : ChangeSpec := { name := "fnNimByOptions", fn := fun _ => fun
  | [d1, d2] => { results := [.lit (.bool false)], args := [d1, d2] }
  | _ => none }
def FnNimByOptionsWrongFalsely : Prop := fnNimByOptionsRow.holds Try.pinned (OpenSpec.ofChange fnNimByOptionsWrong)

/-- 'laws.FnNimRoots': WHATEVER THE INPUT: true; the input reads as it did. -/
def fnNimRootsSpec : ChangeSpec := { name := "fnNimRoots", fn := fun _ => fun
  | [d1, d2] => { results := [.lit (.bool true)], args := [d1, d2] }
  | _ => none }
def fnNimRootsRow : OpenClaim := { program := "ytkbbipnocefmiaa", sum := "c7895ea63332ac270b722ce52885fec91ac361605f7daa1a034988efc2a019d5", func := "loop.example/g01096/laws.FnNimRoots", spec := "fnNimRoots", recurses := true, apart := false }
def FnNimRootsSaid : Prop := fnNimRootsRow.holds Try.pinned (OpenSpec.ofChange fnNimRootsSpec)

/-- ITS FALSE NEIGHBOUR: 'it returns false'. Refute it at one input. -/
def fnNimRootsWrong : ChangeSpec := { name := "fnNimRoots", fn := fun _ => fun
  | [d1, d2] => { results := [.lit (.bool false)], args := [d1, d2] }
  | _ => none }
def FnNimRootsWrongFalsely : Prop := fnNimRootsRow.holds Try.pinned (OpenSpec.ofChange fnNimRootsWrong)

/-- 'laws.FnExactNimHalf': WHATEVER THE INPUT: true; the input reads as it did. -/
def fnExactNimHalfSpec : ChangeSpec := { name := "fnExactNimHalf", fn := fun _ => fun
  | [d] => { results := [.lit (.bool true)], args := [d] }
  | _ => none }
def fnExactNimHalfRow : OpenClaim := { program := "ytkbbipnocefmiaa", sum := "c7895ea63332ac270b722ce52885fec91ac361605f7daa1a034988efc2a019d5", func := "loop.example/g01096/laws.FnExactNimHalf", spec := "fnExactNimHalf", recurses := true, apart := false }
def FnExactNimHalfSaid : Prop := fnExactNimHalfRow.holds Try.pinned (OpenSpec.ofChange fnExactNimHalfSpec)

/-- ITS FALSE NEIGHBOUR: 'it returns false'. Refute it at one input. -/
def fnExactNimHalfWrong : ChangeSpec := { name := "fnExactNimHalf", fn := fun _ => fun
  | [d] => { results := [.lit (.bool false)], args := [d] }
  | _ => none }
def FnExactNimHalfWrongFalsely : Prop := fnExactNimHalfRow.holds Try.pinned (OpenSpec.ofChange fnExactNimHalfWrong)

/-- 'laws.FnExactNimSolve': WHATEVER THE INPUT: true; the input reads as it did. -/
def fnExactNimSolveSpec : ChangeSpec := { name := "fnExactNimSolve", fn := fun _ => fun
  | [d1, d2] => { results := [.lit (.bool true)], args := [d1, d2] }
  | _ => none }
def fnExactNimSolveRow : OpenClaim := { program := "ytkbbipnocefmiaa", sum := "c7895ea63332ac270b722ce52885fec91ac361605f7daa1a034988efc2a019d5", func := "loop.example/g01096/laws.FnExactNimSolve", spec := "fnExactNimSolve", recurses := true, apart := false }
def FnExactNimSolveSaid : Prop := fnExactNimSolveRow.holds Try.pinned (OpenSpec.ofChange fnExactNimSolveSpec)

/-- ITS FALSE NEIGHBOUR: 'it returns false'. Refute it at one input. -/
def fnExactNimSolveWrong : ChangeSpec := { name := "fnExactNimSolve", fn := fun _ => fun
  | [d1, d2] => { results := [.lit (.bool false)], args := [d1, d2] }
  | _ => none }
def FnExactNimSolveWrongFalsely : Prop := fnExactNimSolveRow.holds Try.pinned (OpenSpec.ofChange fnExactNimSolveWrong)

/-- 'laws.FnExactMakeFraction': WHATEVER THE INPUT: true; the input reads as it did. -/
def fnExactMakeFractionSpec : ChangeSpec := { name := "fnExactMakeFraction", fn := fun _ => fun
  | [d1, d2] => { results := [.lit (.bool true)], args := [d1, d2] }
  | _ => none }
def fnExactMakeFractionRow : OpenClaim := { program := "ytkbbipnocefmiaa", sum := "c7895ea63332ac270b722ce52885fec91ac361605f7daa1a034988efc2a019d5", func := "loop.example/g01096/laws.FnExactMakeFraction", spec := "fnExactMakeFraction", apart := false }
def FnExactMakeFractionSaid : Prop := fnExactMakeFractionRow.holds Try.pinned (OpenSpec.ofChange fnExactMakeFractionSpec)

/-- ITS FALSE NEIGHBOUR: 'it returns false'. Refute it at one input. -/
def fnExactMakeFractionWrong : ChangeSpec := { name := "fnExactMakeFraction", fn := fun _ => fun
  | [d1, d2] => { results := [.lit (.bool false)], args := [d1, d2] }
  | _ => none }
def FnExactMakeFractionWrongFalsely : Prop := fnExactMakeFractionRow.holds Try.pinned (OpenSpec.ofChange fnExactMakeFractionWrong)

/-- 'laws.FnExactIsHydra': WHATEVER THE INPUT: true; the input reads as it did. -/
def fnExactIsHydraSpec : ChangeSpec := { name := "fnExactIsHydra", fn := fun _ => fun
  | [d] => { results := [.lit (.bool true)], args := [d] }
  | _ => none }
def fnExactIsHydraRow : OpenClaim := { program := "ytkbbipnocefmiaa", sum := "c7895ea63332ac270b722ce52885fec91ac361605f7daa1a034988efc2a019d5", func := "loop.example/g01096/laws.FnExactIsHydra", spec := "fnExactIsHydra", apart := false }
def FnExactIsHydraSaid : Prop := fnExactIsHydraRow.holds Try.pinned (OpenSpec.ofChange fnExactIsHydraSpec)

/-- ITS FALSE NEIGHBOUR: 'it returns false'. Refute it at one input. -/
def fnExactIsHydraWrong : ChangeSpec := { name := "fnExactIsHydra", fn := fun _ => fun
  | [d] => { results := [.lit (.bool false)], args := [d] }
  | _ => none }
def FnExactIsHydraWrongFalsely : Prop := fnExactIsHydraRow.holds Try.pinned (OpenSpec.ofChange fnExactIsHydraWrong)

/-- 'laws.FnExactHeadsOf': WHATEVER THE INPUT: true; the input reads as it did. -/
def fnExactHeadsOfSpec : ChangeSpec := { name := "fnExactHeadsOf", fn := fun _ => fun
  | [d] => { results := [.lit (.bool true)], args := [d] }
  | _ => none }
def fnExactHeadsOfRow : OpenClaim := { program := "ytkbbipnocefmiaa", sum := "c7895ea63332ac270b722ce52885fec91ac361605f7daa1a034988efc2a019d5", func := "loop.example/g01096/laws.FnExactHeadsOf", spec := "fnExactHeadsOf", apart := false }
def FnExactHeadsOfSaid : Prop := fnExactHeadsOfRow.holds Try.pinned (OpenSpec.ofChange fnExactHeadsOfSpec)

/-- ITS FALSE NEIGHBOUR: 'it returns false'. Refute it at one input. -/
def fnExactHeadsOfWrong : ChangeSpec := { name := "fnExactHeadsOf", fn := fun _ => fun
  | [d] => { results := [.lit (.bool false)], args := [d] }
  | _ => none }
def FnExactHeadsOfWrongFalsely : Prop := fnExactHeadsOfRow.holds Try.pinned (OpenSpec.ofChange fnExactHeadsOfWrong)

/-- 'laws.FnExactFiniteOrdinal': WHATEVER THE INPUT: true; the input reads as it did. -/
def fnExactFiniteOrdinalSpec : ChangeSpec := { name := "fnExactFiniteOrdinal", fn := fun _ => fun
  | [d] => { results := [.lit (.bool true)], args := [d] }
  | _ => none }
def fnExactFiniteOrdinalRow : OpenClaim := { program := "ytkbbipnocefmiaa", sum := "c7895ea63332ac270b722ce52885fec91ac361605f7daa1a034988efc2a019d5", func := "loop.example/g01096/laws.FnExactFiniteOrdinal", spec := "fnExactFiniteOrdinal", recurses := true, apart := false }
def FnExactFiniteOrdinalSaid : Prop := fnExactFiniteOrdinalRow.holds Try.pinned (OpenSpec.ofChange fnExactFiniteOrdinalSpec)

/-- ITS FALSE NEIGHBOUR: 'it returns false'. Refute it at one input. -/
def fnExactFiniteOrdinalWrong : ChangeSpec := { name := "fnExactFiniteOrdinal", fn := fun _ => fun
  | [d] => { results := [.lit (.bool false)], args := [d] }
  | _ => none }
def FnExactFiniteOrdinalWrongFalsely : Prop := fnExactFiniteOrdinalRow.holds Try.pinned (OpenSpec.ofChange fnExactFiniteOrdinalWrong)

/-- 'laws.FnExactGameOfNimber': WHATEVER THE INPUT: true; the input reads as it did. -/
def fnExactGameOfNimberSpec : ChangeSpec := { name := "fnExactGameOfNimber", fn := fun _ => fun
  | [d] => { results := [.lit (.bool true)], args := [d] }
  | _ => none }
def fnExactGameOfNimberRow : OpenClaim := { program := "ytkbbipnocefmiaa", sum := "c7895ea63332ac270b722ce52885fec91ac361605f7daa1a034988efc2a019d5", func := "loop.example/g01096/laws.FnExactGameOfNimber", spec := "fnExactGameOfNimber", apart := false }
def FnExactGameOfNimberSaid : Prop := fnExactGameOfNimberRow.holds Try.pinned (OpenSpec.ofChange fnExactGameOfNimberSpec)

/-- ITS FALSE NEIGHBOUR: 'it returns false'. Refute it at one input. -/
def fnExactGameOfNimberWrong : ChangeSpec := { name := "fnExactGameOfNimber", fn := fun _ => fun
  | [d] => { results := [.lit (.bool false)], args := [d] }
  | _ => none }
def FnExactGameOfNimberWrongFalsely : Prop := fnExactGameOfNimberRow.holds Try.pinned (OpenSpec.ofChange fnExactGameOfNimberWrong)

/-- 'laws.FnExactIsGame': WHATEVER THE INPUT: true; the input reads as it did. -/
def fnExactIsGameSpec : ChangeSpec := { name := "fnExactIsGame", fn := fun _ => fun
  | [d] => { results := [.lit (.bool true)], args := [d] }
  | _ => none }
def fnExactIsGameRow : OpenClaim := { program := "ytkbbipnocefmiaa", sum := "c7895ea63332ac270b722ce52885fec91ac361605f7daa1a034988efc2a019d5", func := "loop.example/g01096/laws.FnExactIsGame", spec := "fnExactIsGame", apart := false }
def FnExactIsGameSaid : Prop := fnExactIsGameRow.holds Try.pinned (OpenSpec.ofChange fnExactIsGameSpec)

/-- ITS FALSE NEIGHBOUR: 'it returns false'. Refute it at one input. -/
def fnExactIsGameWrong : ChangeSpec := { name := "fnExactIsGame", fn := fun _ => fun
  | [d] => { results := [.lit (.bool false)], args := [d] }
  | _ => none }
def FnExactIsGameWrongFalsely : Prop := fnExactIsGameRow.holds Try.pinned (OpenSpec.ofChange fnExactIsGameWrong)

/- THE SECOND FORM. 'bulk': how many values and letters a reading holds, each counted each time it is reached (what is shared counts as often as it is met; a slice's spare places count too). A statement '..UptoSaid' is the law's where the arguments, and the package variables that the reading takes, are together of bulk at most 1048576: NARROWER than '..Said'. Prove '..Said' where nothing that the law and all that it calls make is longer than what came in: it says more and counts as full. Else prove '..UptoSaid'. A law counts once. -/
mutual
def uptoBulk {H : Type} : DataW H → Nat
  | .lit (.string bytes) => bytes.length + 1
  | .lit _ => 1
  | .nil => 1
  | .ptr d => uptoBulk d + 1
  | .slice elems spare => uptoBulkAll elems + uptoBulkAll spare + 1
  | .agg parts => uptoBulkAll parts + 1
  | .iface _ d => uptoBulk d + 1
  | .map entries => uptoBulkEntries entries + 1
  | .held _ => 1
def uptoBulkAll {H : Type} : List (DataW H) → Nat
  | [] => 0
  | d :: r => uptoBulk d + uptoBulkAll r
def uptoBulkEntries {H : Type} : List (Lit × DataW H) → Nat
  | [] => 0
  | x :: r => uptoBulkEntry x + uptoBulkEntries r
def uptoBulkEntry {H : Type} : Lit × DataW H → Nat
  | (.string bytes, d) => bytes.length + uptoBulk d + 1
  | (_, d) => uptoBulk d + 1
 end
def uptoSmall : (H : Type) → List (DataW H) → Bool := fun _ ds => decide (uptoBulkAll ds ≤ 1048576)
def OpenSpec.upto (s : _root_.Go.ChangeSpec) : _root_.Go.OpenSpec := { _root_.Go.OpenSpec.ofChange s with cond := some uptoSmall }

/-- 'laws.FnNimberField', WHERE WHAT IT READS IS OF BULK AT MOST 1048576: true; the input reads as it did. -/
def fnNimberFieldUptoRow : OpenClaim := { program := "ytkbbipnocefmiaa", sum := "c7895ea63332ac270b722ce52885fec91ac361605f7daa1a034988efc2a019d5", func := "loop.example/g01096/laws.FnNimberField", spec := "fnNimberField", recurses := true, apart := false, narrowed := true }
def FnNimberFieldUptoSaid : Prop := fnNimberFieldUptoRow.holds Try.pinned (OpenSpec.upto fnNimberFieldSpec)

/-- 'laws.FnNimInverses', WHERE WHAT IT READS IS OF BULK AT MOST 1048576: true; the input reads as it did. -/
def fnNimInversesUptoRow : OpenClaim := { program := "ytkbbipnocefmiaa", sum := "c7895ea63332ac270b722ce52885fec91ac361605f7daa1a034988efc2a019d5", func := "loop.example/g01096/laws.FnNimInverses", spec := "fnNimInverses", recurses := true, apart := false, narrowed := true }
def FnNimInversesUptoSaid : Prop := fnNimInversesUptoRow.holds Try.pinned (OpenSpec.upto fnNimInversesSpec)

/-- 'laws.FnNimByOptions', WHERE WHAT IT READS IS OF BULK AT MOST 1048576: true; the input reads as it did. -/
def fnNimByOptionsUptoRow : OpenClaim := { program := "ytkbbipnocefmiaa", sum := "c7895ea63332ac270b722ce52885fec91ac361605f7daa1a034988efc2a019d5", func := "loop.example/g01096/laws.FnNimByOptions", spec := "fnNimByOptions", recurses := true, apart := false, narrowed := true }
def FnNimByOptionsUptoSaid : Prop := fnNimByOptionsUptoRow.holds Try.pinned (OpenSpec.upto fnNimByOptionsSpec)

/-- 'laws.FnNimRoots', WHERE WHAT IT READS IS OF BULK AT MOST 1048576: true; the input reads as it did. -/
def fnNimRootsUptoRow : OpenClaim := { program := "ytkbbipnocefmiaa", sum := "c7895ea63332ac270b722ce52885fec91ac361605f7daa1a034988efc2a019d5", func := "loop.example/g01096/laws.FnNimRoots", spec := "fnNimRoots", recurses := true, apart := false, narrowed := true }
def FnNimRootsUptoSaid : Prop := fnNimRootsUptoRow.holds Try.pinned (OpenSpec.upto fnNimRootsSpec)

/-- 'laws.FnExactNimHalf', WHERE WHAT IT READS IS OF BULK AT MOST 1048576: true; the input reads as it did. -/
def fnExactNimHalfUptoRow : OpenClaim := { program := "ytkbbipnocefmiaa", sum := "c7895ea63332ac270b722ce52885fec91ac361605f7daa1a034988efc2a019d5", func := "loop.example/g01096/laws.FnExactNimHalf", spec := "fnExactNimHalf", recurses := true, apart := false, narrowed := true }
def FnExactNimHalfUptoSaid : Prop := fnExactNimHalfUptoRow.holds Try.pinned (OpenSpec.upto fnExactNimHalfSpec)

/-- 'laws.FnExactNimSolve', WHERE WHAT IT READS IS OF BULK AT MOST 1048576: true; the input reads as it did. -/
def fnExactNimSolveUptoRow : OpenClaim := { program := "ytkbbipnocefmiaa", sum := "c7895ea63332ac270b722ce52885fec91ac361605f7daa1a034988efc2a019d5", func := "loop.example/g01096/laws.FnExactNimSolve", spec := "fnExactNimSolve", recurses := true, apart := false, narrowed := true }
def FnExactNimSolveUptoSaid : Prop := fnExactNimSolveUptoRow.holds Try.pinned (OpenSpec.upto fnExactNimSolveSpec)

/-- 'laws.FnExactMakeFraction', WHERE WHAT IT READS IS OF BULK AT MOST 1048576: true; the input reads as it did. -/
def fnExactMakeFractionUptoRow : OpenClaim := { program := "ytkbbipnocefmiaa", sum := "c7895ea63332ac270b722ce52885fec91ac361605f7daa1a034988efc2a019d5", func := "loop.example/g01096/laws.FnExactMakeFraction", spec := "fnExactMakeFraction", apart := false, narrowed := true }
def FnExactMakeFractionUptoSaid : Prop := fnExactMakeFractionUptoRow.holds Try.pinned (OpenSpec.upto fnExactMakeFractionSpec)

/-- 'laws.FnExactIsHydra', WHERE WHAT IT READS IS OF BULK AT MOST 1048576: true; the input reads as it did. -/
def fnExactIsHydraUptoRow : OpenClaim := { program := "ytkbbipnocefmiaa", sum := "c7895ea63332ac270b722ce52885fec91ac361605f7daa1a034988efc2a019d5", func := "loop.example/g01096/laws.FnExactIsHydra", spec := "fnExactIsHydra", apart := false, narrowed := true }
def FnExactIsHydraUptoSaid : Prop := fnExactIsHydraUptoRow.holds Try.pinned (OpenSpec.upto fnExactIsHydraSpec)

/-- 'laws.FnExactHeadsOf', WHERE WHAT IT READS IS OF BULK AT MOST 1048576: true; the input reads as it did. -/
def fnExactHeadsOfUptoRow : OpenClaim := { program := "ytkbbipnocefmiaa", sum := "c7895ea63332ac270b722ce52885fec91ac361605f7daa1a034988efc2a019d5", func := "loop.example/g01096/laws.FnExactHeadsOf", spec := "fnExactHeadsOf", apart := false, narrowed := true }
def FnExactHeadsOfUptoSaid : Prop := fnExactHeadsOfUptoRow.holds Try.pinned (OpenSpec.upto fnExactHeadsOfSpec)

/-- 'laws.FnExactFiniteOrdinal', WHERE WHAT IT READS IS OF BULK AT MOST 1048576: true; the input reads as it did. -/
def fnExactFiniteOrdinalUptoRow : OpenClaim := { program := "ytkbbipnocefmiaa", sum := "c7895ea63332ac270b722ce52885fec91ac361605f7daa1a034988efc2a019d5", func := "loop.example/g01096/laws.FnExactFiniteOrdinal", spec := "fnExactFiniteOrdinal", recurses := true, apart := false, narrowed := true }
def FnExactFiniteOrdinalUptoSaid : Prop := fnExactFiniteOrdinalUptoRow.holds Try.pinned (OpenSpec.upto fnExactFiniteOrdinalSpec)

/-- 'laws.FnExactGameOfNimber', WHERE WHAT IT READS IS OF BULK AT MOST 1048576: true; the input reads as it did. -/
def fnExactGameOfNimberUptoRow : OpenClaim := { program := "ytkbbipnocefmiaa", sum := "c7895ea63332ac270b722ce52885fec91ac361605f7daa1a034988efc2a019d5", func := "loop.example/g01096/laws.FnExactGameOfNimber", spec := "fnExactGameOfNimber", apart := false, narrowed := true }
def FnExactGameOfNimberUptoSaid : Prop := fnExactGameOfNimberUptoRow.holds Try.pinned (OpenSpec.upto fnExactGameOfNimberSpec)

/-- 'laws.FnExactIsGame', WHERE WHAT IT READS IS OF BULK AT MOST 1048576: true; the input reads as it did. -/
def fnExactIsGameUptoRow : OpenClaim := { program := "ytkbbipnocefmiaa", sum := "c7895ea63332ac270b722ce52885fec91ac361605f7daa1a034988efc2a019d5", func := "loop.example/g01096/laws.FnExactIsGame", spec := "fnExactIsGame", apart := false, narrowed := true }
def FnExactIsGameUptoSaid : Prop := fnExactIsGameUptoRow.holds Try.pinned (OpenSpec.upto fnExactIsGameSpec)

end Rows
end Go.Proofs.Ytkbbipnocefmiaa
