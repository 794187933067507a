/-
  No cell of these rows narrows 'for every input' (looked for: loops, veiled, ifaces, maps, wideKeys, modest, calm, conditions, laid).
  DERIVED. THE GIVEN ROWS OF THIS SEAT. 12 by the template 'for every input the law returns true; each argument reads behind the call as it read before'; 0 by the template 'total and deterministic' (their statements: YtacpeffinmfdaaaTotals.lean).
  GIVEN WITH THE SEED: the statements are not yours to turn. If you find one false, say at which input.
  Laid BY PROGRAM, IN A SANDBOX (cutbox-rows.mjs): the forced cells as the released guide's own fill.sh prints them over the translation 3981a7112107fb4d… (all of the seat's roots in one cut). By AI agents, Wed Nov 11 2026. No macro, syntax, notation, axiom, sorry.
-/
import Derived.Test.YtacpeffinmfdaaaChecked
import GoSem.Claim
import GoSem.ClaimJoined
import GoSem.ClaimMapViews
import Derived.JoinedTies
import Derived.KernelRfl
namespace Go.Proofs.Ytacpeffinmfdaaa
/- THE CELL 'sum', in the pinned program and in every row, IS THE sha256 OF THE DUMP (.gsa) THAT YtacpeffinmfdaaaProg.lean LOADS. Nothing in Lean hashes anything: it is a label: what it is worth is what the hold of that sum in a sandbox is worth. -/
noncomputable def Try.pinned : Pinned := { name := "ytacpeffinmfdaaa", sum := "3981a7112107fb4d6c064d7c1dfd9db46cf0305fadd2943338fefcec55c3c54d", checked := Try.checked }
namespace Rows
def none {H : Type} : Left H := { results := [], args := [] }

/-- 'laws.FnExactConstants': WHATEVER THE INPUT: true; the input reads as it did. -/
def fnExactConstantsSpec : ChangeSpec := { name := "fnExactConstants", fn := fun _ => fun
  | [] => { results := [.lit (.bool true)], args := [] }
  | _ => none }
def fnExactConstantsRow : OpenClaim := { program := "ytacpeffinmfdaaa", sum := "3981a7112107fb4d6c064d7c1dfd9db46cf0305fadd2943338fefcec55c3c54d", func := "loop.example/g01096/laws.FnExactConstants", spec := "fnExactConstants", apart := false }
def FnExactConstantsSaid : Prop := fnExactConstantsRow.holds Try.pinned (OpenSpec.ofChange fnExactConstantsSpec)

/-- ITS FALSE NEIGHBOUR: 'it returns false'. Refute it at one input. -/
def fnExactConstantsWrong : ChangeSpec := { name := "fnExactConstants", fn := fun _ => fun
  | [] => { results := [.lit (.bool false)], args := [] }
  | _ => none }
def FnExactConstantsWrongFalsely : Prop := fnExactConstantsRow.holds Try.pinned (OpenSpec.ofChange fnExactConstantsWrong)

/-- 'laws.FnExactNimFieldOf': WHATEVER THE INPUT: true; the input reads as it did. -/
def fnExactNimFieldOfSpec : ChangeSpec := { name := "fnExactNimFieldOf", fn := fun _ => fun
  | [d] => { results := [.lit (.bool true)], args := [d] }
  | _ => none }
def fnExactNimFieldOfRow : OpenClaim := { program := "ytacpeffinmfdaaa", sum := "3981a7112107fb4d6c064d7c1dfd9db46cf0305fadd2943338fefcec55c3c54d", func := "loop.example/g01096/laws.FnExactNimFieldOf", spec := "fnExactNimFieldOf", apart := false }
def FnExactNimFieldOfSaid : Prop := fnExactNimFieldOfRow.holds Try.pinned (OpenSpec.ofChange fnExactNimFieldOfSpec)

/-- ITS FALSE NEIGHBOUR: 'it returns false'. Refute it at one input. -/
def fnExactNimFieldOfWrong : ChangeSpec := { name := "fnExactNimFieldOf", fn := fun _ => fun
  | [d] => { results := [.lit (.bool false)], args := [d] }
  | _ => none }
def FnExactNimFieldOfWrongFalsely : Prop := fnExactNimFieldOfRow.holds Try.pinned (OpenSpec.ofChange fnExactNimFieldOfWrong)

/-- 'laws.FnExactIsFraction': WHATEVER THE INPUT: true; the input reads as it did. -/
def fnExactIsFractionSpec : ChangeSpec := { name := "fnExactIsFraction", fn := fun _ => fun
  | [d] => { results := [.lit (.bool true)], args := [d] }
  | _ => none }
def fnExactIsFractionRow : OpenClaim := { program := "ytacpeffinmfdaaa", sum := "3981a7112107fb4d6c064d7c1dfd9db46cf0305fadd2943338fefcec55c3c54d", func := "loop.example/g01096/laws.FnExactIsFraction", spec := "fnExactIsFraction", apart := false }
def FnExactIsFractionSaid : Prop := fnExactIsFractionRow.holds Try.pinned (OpenSpec.ofChange fnExactIsFractionSpec)

/-- ITS FALSE NEIGHBOUR: 'it returns false'. Refute it at one input. -/
def fnExactIsFractionWrong : ChangeSpec := { name := "fnExactIsFraction", fn := fun _ => fun
  | [d] => { results := [.lit (.bool false)], args := [d] }
  | _ => none }
def FnExactIsFractionWrongFalsely : Prop := fnExactIsFractionRow.holds Try.pinned (OpenSpec.ofChange fnExactIsFractionWrong)

/-- 'laws.FnExactNimProduct': WHATEVER THE INPUT: true; the input reads as it did. -/
def fnExactNimProductSpec : ChangeSpec := { name := "fnExactNimProduct", fn := fun _ => fun
  | [d1, d2] => { results := [.lit (.bool true)], args := [d1, d2] }
  | _ => none }
def fnExactNimProductRow : OpenClaim := { program := "ytacpeffinmfdaaa", sum := "3981a7112107fb4d6c064d7c1dfd9db46cf0305fadd2943338fefcec55c3c54d", func := "loop.example/g01096/laws.FnExactNimProduct", spec := "fnExactNimProduct", recurses := true, apart := false }
def FnExactNimProductSaid : Prop := fnExactNimProductRow.holds Try.pinned (OpenSpec.ofChange fnExactNimProductSpec)

/-- ITS FALSE NEIGHBOUR: 'it returns false'. Refute it at one input. -/
def fnExactNimProductWrong : ChangeSpec := { name := "fnExactNimProduct", fn := fun _ => fun
  | [d1, d2] => { results := [.lit (.bool false)], args := [d1, d2] }
  | _ => none }
def FnExactNimProductWrongFalsely : Prop := fnExactNimProductRow.holds Try.pinned (OpenSpec.ofChange fnExactNimProductWrong)

/-- 'laws.FnExactNimSum': WHATEVER THE INPUT: true; the input reads as it did. -/
def fnExactNimSumSpec : ChangeSpec := { name := "fnExactNimSum", fn := fun _ => fun
  | [d] => { results := [.lit (.bool true)], args := [d] }
  | _ => none }
def fnExactNimSumRow : OpenClaim := { program := "ytacpeffinmfdaaa", sum := "3981a7112107fb4d6c064d7c1dfd9db46cf0305fadd2943338fefcec55c3c54d", func := "loop.example/g01096/laws.FnExactNimSum", spec := "fnExactNimSum", apart := false }
def FnExactNimSumSaid : Prop := fnExactNimSumRow.holds Try.pinned (OpenSpec.ofChange fnExactNimSumSpec)

/-- ITS FALSE NEIGHBOUR: 'it returns false'. Refute it at one input. -/
def fnExactNimSumWrong : ChangeSpec := { name := "fnExactNimSum", fn := fun _ => fun
  | [d] => { results := [.lit (.bool false)], args := [d] }
  | _ => none }
def FnExactNimSumWrongFalsely : Prop := fnExactNimSumRow.holds Try.pinned (OpenSpec.ofChange fnExactNimSumWrong)

/-- 'laws.FnExactFloorOf': WHATEVER THE INPUT: true; the input reads as it did. -/
def fnExactFloorOfSpec : ChangeSpec := { name := "fnExactFloorOf", fn := fun _ => fun
  | [d] => { results := [.lit (.bool true)], args := [d] }
  | _ => none }
def fnExactFloorOfRow : OpenClaim := { program := "ytacpeffinmfdaaa", sum := "3981a7112107fb4d6c064d7c1dfd9db46cf0305fadd2943338fefcec55c3c54d", func := "loop.example/g01096/laws.FnExactFloorOf", spec := "fnExactFloorOf", apart := false }
def FnExactFloorOfSaid : Prop := fnExactFloorOfRow.holds Try.pinned (OpenSpec.ofChange fnExactFloorOfSpec)

/-- ITS FALSE NEIGHBOUR: 'it returns false'. Refute it at one input. -/
def fnExactFloorOfWrong : ChangeSpec := { name := "fnExactFloorOf", fn := fun _ => fun
  | [d] => { results := [.lit (.bool false)], args := [d] }
  | _ => none }
def FnExactFloorOfWrongFalsely : Prop := fnExactFloorOfRow.holds Try.pinned (OpenSpec.ofChange fnExactFloorOfWrong)

/-- 'laws.FnExactGreenStalk': WHATEVER THE INPUT: true; the input reads as it did. -/
def fnExactGreenStalkSpec : ChangeSpec := { name := "fnExactGreenStalk", fn := fun _ => fun
  | [d] => { results := [.lit (.bool true)], args := [d] }
  | _ => none }
def fnExactGreenStalkRow : OpenClaim := { program := "ytacpeffinmfdaaa", sum := "3981a7112107fb4d6c064d7c1dfd9db46cf0305fadd2943338fefcec55c3c54d", func := "loop.example/g01096/laws.FnExactGreenStalk", spec := "fnExactGreenStalk", apart := false }
def FnExactGreenStalkSaid : Prop := fnExactGreenStalkRow.holds Try.pinned (OpenSpec.ofChange fnExactGreenStalkSpec)

/-- ITS FALSE NEIGHBOUR: 'it returns false'. Refute it at one input. -/
def fnExactGreenStalkWrong : ChangeSpec := { name := "fnExactGreenStalk", fn := fun _ => fun
  | [d] => { results := [.lit (.bool false)], args := [d] }
  | _ => none }
def FnExactGreenStalkWrongFalsely : Prop := fnExactGreenStalkRow.holds Try.pinned (OpenSpec.ofChange fnExactGreenStalkWrong)

/-- 'laws.FnExactNimByOptions': WHATEVER THE INPUT: true; the input reads as it did. -/
def fnExactNimByOptionsSpec : ChangeSpec := { name := "fnExactNimByOptions", fn := fun _ => fun
  | [d1, d2] => { results := [.lit (.bool true)], args := [d1, d2] }
  | _ => none }
def fnExactNimByOptionsRow : OpenClaim := { program := "ytacpeffinmfdaaa", sum := "3981a7112107fb4d6c064d7c1dfd9db46cf0305fadd2943338fefcec55c3c54d", func := "loop.example/g01096/laws.FnExactNimByOptions", spec := "fnExactNimByOptions", apart := false }
def FnExactNimByOptionsSaid : Prop := fnExactNimByOptionsRow.holds Try.pinned (OpenSpec.ofChange fnExactNimByOptionsSpec)

/-- ITS FALSE NEIGHBOUR: 'it returns false'. Refute it at one input. -/
def fnExactNimByOptionsWrong : ChangeSpec := { name := "fnExactNimByOptions", fn := fun _ => fun
  | [d1, d2] => { results := [.lit (.bool false)], args := [d1, d2] }
  | _ => none }
def FnExactNimByOptionsWrongFalsely : Prop := fnExactNimByOptionsRow.holds Try.pinned (OpenSpec.ofChange fnExactNimByOptionsWrong)

/-- 'laws.FnExactNimInverse': WHATEVER THE INPUT: true; the input reads as it did. -/
def fnExactNimInverseSpec : ChangeSpec := { name := "fnExactNimInverse", fn := fun _ => fun
  | [d] => { results := [.lit (.bool true)], args := [d] }
  | _ => none }
def fnExactNimInverseRow : OpenClaim := { program := "ytacpeffinmfdaaa", sum := "3981a7112107fb4d6c064d7c1dfd9db46cf0305fadd2943338fefcec55c3c54d", func := "loop.example/g01096/laws.FnExactNimInverse", spec := "fnExactNimInverse", recurses := true, apart := false }
def FnExactNimInverseSaid : Prop := fnExactNimInverseRow.holds Try.pinned (OpenSpec.ofChange fnExactNimInverseSpec)

/-- ITS FALSE NEIGHBOUR: 'it returns false'. Refute it at one input. -/
def fnExactNimInverseWrong : ChangeSpec := { name := "fnExactNimInverse", fn := fun _ => fun
  | [d] => { results := [.lit (.bool false)], args := [d] }
  | _ => none }
def FnExactNimInverseWrongFalsely : Prop := fnExactNimInverseRow.holds Try.pinned (OpenSpec.ofChange fnExactNimInverseWrong)

/-- 'laws.FnExactNimPower': WHATEVER THE INPUT: true; the input reads as it did. -/
def fnExactNimPowerSpec : ChangeSpec := { name := "fnExactNimPower", fn := fun _ => fun
  | [d1, d2] => { results := [.lit (.bool true)], args := [d1, d2] }
  | _ => none }
def fnExactNimPowerRow : OpenClaim := { program := "ytacpeffinmfdaaa", sum := "3981a7112107fb4d6c064d7c1dfd9db46cf0305fadd2943338fefcec55c3c54d", func := "loop.example/g01096/laws.FnExactNimPower", spec := "fnExactNimPower", recurses := true, apart := false }
def FnExactNimPowerSaid : Prop := fnExactNimPowerRow.holds Try.pinned (OpenSpec.ofChange fnExactNimPowerSpec)

/-- ITS FALSE NEIGHBOUR: 'it returns false'. Refute it at one input. -/
def fnExactNimPowerWrong : ChangeSpec := { name := "fnExactNimPower", fn := fun _ => fun
  | [d1, d2] => { results := [.lit (.bool false)], args := [d1, d2] }
  | _ => none }
def FnExactNimPowerWrongFalsely : Prop := fnExactNimPowerRow.holds Try.pinned (OpenSpec.ofChange fnExactNimPowerWrong)

/-- 'laws.FnExactNimRoot': WHATEVER THE INPUT: true; the input reads as it did. -/
def fnExactNimRootSpec : ChangeSpec := { name := "fnExactNimRoot", fn := fun _ => fun
  | [d] => { results := [.lit (.bool true)], args := [d] }
  | _ => none }
def fnExactNimRootRow : OpenClaim := { program := "ytacpeffinmfdaaa", sum := "3981a7112107fb4d6c064d7c1dfd9db46cf0305fadd2943338fefcec55c3c54d", func := "loop.example/g01096/laws.FnExactNimRoot", spec := "fnExactNimRoot", recurses := true, apart := false }
def FnExactNimRootSaid : Prop := fnExactNimRootRow.holds Try.pinned (OpenSpec.ofChange fnExactNimRootSpec)

/-- ITS FALSE NEIGHBOUR: 'it returns false'. Refute it at one input. -/
def fnExactNimRootWrong : ChangeSpec := { name := "fnExactNimRoot", fn := fun _ => fun
  | [d] => { results := [.lit (.bool false)], args := [d] }
  | _ => none }
def FnExactNimRootWrongFalsely : Prop := fnExactNimRootRow.holds Try.pinned (OpenSpec.ofChange fnExactNimRootWrong)

/-- 'laws.FnExactNimOrder': WHATEVER THE INPUT: true; the input reads as it did. -/
def fnExactNimOrderSpec : ChangeSpec := { name := "fnExactNimOrder", fn := fun _ => fun
  | [d] => { results := [.lit (.bool true)], args := [d] }
  | _ => none }
def fnExactNimOrderRow : OpenClaim := { program := "ytacpeffinmfdaaa", sum := "3981a7112107fb4d6c064d7c1dfd9db46cf0305fadd2943338fefcec55c3c54d", func := "loop.example/g01096/laws.FnExactNimOrder", spec := "fnExactNimOrder", recurses := true, apart := false }
def FnExactNimOrderSaid : Prop := fnExactNimOrderRow.holds Try.pinned (OpenSpec.ofChange fnExactNimOrderSpec)

/-- ITS FALSE NEIGHBOUR: 'it returns false'. Refute it at one input. -/
def fnExactNimOrderWrong : ChangeSpec := { name := "fnExactNimOrder", fn := fun _ => fun
  | [d] => { results := [.lit (.bool false)], args := [d] }
  | _ => none }
def FnExactNimOrderWrongFalsely : Prop := fnExactNimOrderRow.holds Try.pinned (OpenSpec.ofChange fnExactNimOrderWrong)

/- THE SECOND FORM. 'bulk': how many values and letters a reading holds, each counted each time it is reached (what is shared counts as often as it is met; a slice's spare places count too). A statement '..UptoSaid' is the law's where the arguments, and the package variables that the reading takes, are together of bulk at most 1048576: NARROWER than '..Said'. Prove '..Said' where nothing that the law and all that it calls make is longer than what came in: it says more and counts as full. Else prove '..UptoSaid'. A law counts once. -/
mutual
def uptoBulk {H : Type} : DataW H → Nat
  | .lit (.string bytes) => bytes.length + 1
  | .lit _ => 1
  | .nil => 1
  | .ptr d => uptoBulk d + 1
  | .slice elems spare => uptoBulkAll elems + uptoBulkAll spare + 1
  | .agg parts => uptoBulkAll parts + 1
  | .iface _ d => uptoBulk d + 1
  | .map entries => uptoBulkEntries entries + 1
  | .held _ => 1
def uptoBulkAll {H : Type} : List (DataW H) → Nat
  | [] => 0
  | d :: r => uptoBulk d + uptoBulkAll r
def uptoBulkEntries {H : Type} : List (Lit × DataW H) → Nat
  | [] => 0
  | x :: r => uptoBulkEntry x + uptoBulkEntries r
def uptoBulkEntry {H : Type} : Lit × DataW H → Nat
  | (.string bytes, d) => bytes.length + uptoBulk d + 1
  | (_, d) => uptoBulk d + 1
 end
def uptoSmall : (H : Type) → List (DataW H) → Bool := fun _ ds => decide (uptoBulkAll ds ≤ 1048576)
def OpenSpec.upto (s : _root_.Go.ChangeSpec) : _root_.Go.OpenSpec := { _root_.Go.OpenSpec.ofChange s with cond := some uptoSmall }

/-- 'laws.FnExactConstants', WHERE WHAT IT READS IS OF BULK AT MOST 1048576: true; the input reads as it did. -/
def fnExactConstantsUptoRow : OpenClaim := { program := "ytacpeffinmfdaaa", sum := "3981a7112107fb4d6c064d7c1dfd9db46cf0305fadd2943338fefcec55c3c54d", func := "loop.example/g01096/laws.FnExactConstants", spec := "fnExactConstants", apart := false, narrowed := true }
def FnExactConstantsUptoSaid : Prop := fnExactConstantsUptoRow.holds Try.pinned (OpenSpec.upto fnExactConstantsSpec)

/-- 'laws.FnExactNimFieldOf', WHERE WHAT IT READS IS OF BULK AT MOST 1048576: true; the input reads as it did. -/
def fnExactNimFieldOfUptoRow : OpenClaim := { program := "ytacpeffinmfdaaa", sum := "3981a7112107fb4d6c064d7c1dfd9db46cf0305fadd2943338fefcec55c3c54d", func := "loop.example/g01096/laws.FnExactNimFieldOf", spec := "fnExactNimFieldOf", apart := false, narrowed := true }
def FnExactNimFieldOfUptoSaid : Prop := fnExactNimFieldOfUptoRow.holds Try.pinned (OpenSpec.upto fnExactNimFieldOfSpec)

/-- 'laws.FnExactIsFraction', WHERE WHAT IT READS IS OF BULK AT MOST 1048576: true; the input reads as it did. -/
def fnExactIsFractionUptoRow : OpenClaim := { program := "ytacpeffinmfdaaa", sum := "3981a7112107fb4d6c064d7c1dfd9db46cf0305fadd2943338fefcec55c3c54d", func := "loop.example/g01096/laws.FnExactIsFraction", spec := "fnExactIsFraction", apart := false, narrowed := true }
def FnExactIsFractionUptoSaid : Prop := fnExactIsFractionUptoRow.holds Try.pinned (OpenSpec.upto fnExactIsFractionSpec)

/-- 'laws.FnExactNimProduct', WHERE WHAT IT READS IS OF BULK AT MOST 1048576: true; the input reads as it did. -/
def fnExactNimProductUptoRow : OpenClaim := { program := "ytacpeffinmfdaaa", sum := "3981a7112107fb4d6c064d7c1dfd9db46cf0305fadd2943338fefcec55c3c54d", func := "loop.example/g01096/laws.FnExactNimProduct", spec := "fnExactNimProduct", recurses := true, apart := false, narrowed := true }
def FnExactNimProductUptoSaid : Prop := fnExactNimProductUptoRow.holds Try.pinned (OpenSpec.upto fnExactNimProductSpec)

/-- 'laws.FnExactNimSum', WHERE WHAT IT READS IS OF BULK AT MOST 1048576: true; the input reads as it did. -/
def fnExactNimSumUptoRow : OpenClaim := { program := "ytacpeffinmfdaaa", sum := "3981a7112107fb4d6c064d7c1dfd9db46cf0305fadd2943338fefcec55c3c54d", func := "loop.example/g01096/laws.FnExactNimSum", spec := "fnExactNimSum", apart := false, narrowed := true }
def FnExactNimSumUptoSaid : Prop := fnExactNimSumUptoRow.holds Try.pinned (OpenSpec.upto fnExactNimSumSpec)

/-- 'laws.FnExactFloorOf', WHERE WHAT IT READS IS OF BULK AT MOST 1048576: true; the input reads as it did. -/
def fnExactFloorOfUptoRow : OpenClaim := { program := "ytacpeffinmfdaaa", sum := "3981a7112107fb4d6c064d7c1dfd9db46cf0305fadd2943338fefcec55c3c54d", func := "loop.example/g01096/laws.FnExactFloorOf", spec := "fnExactFloorOf", apart := false, narrowed := true }
def FnExactFloorOfUptoSaid : Prop := fnExactFloorOfUptoRow.holds Try.pinned (OpenSpec.upto fnExactFloorOfSpec)

/-- 'laws.FnExactGreenStalk', WHERE WHAT IT READS IS OF BULK AT MOST 1048576: true; the input reads as it did. -/
def fnExactGreenStalkUptoRow : OpenClaim := { program := "ytacpeffinmfdaaa", sum := "3981a7112107fb4d6c064d7c1dfd9db46cf0305fadd2943338fefcec55c3c54d", func := "loop.example/g01096/laws.FnExactGreenStalk", spec := "fnExactGreenStalk", apart := false, narrowed := true }
def FnExactGreenStalkUptoSaid : Prop := fnExactGreenStalkUptoRow.holds Try.pinned (OpenSpec.upto fnExactGreenStalkSpec)

/-- 'laws.FnExactNimByOptions', WHERE WHAT IT READS IS OF BULK AT MOST 1048576: true; the input reads as it did. -/
def fnExactNimByOptionsUptoRow : OpenClaim := { program := "ytacpeffinmfdaaa", sum := "3981a7112107fb4d6c064d7c1dfd9db46cf0305fadd2943338fefcec55c3c54d", func := "loop.example/g01096/laws.FnExactNimByOptions", spec := "fnExactNimByOptions", apart := false, narrowed := true }
def FnExactNimByOptionsUptoSaid : Prop := fnExactNimByOptionsUptoRow.holds Try.pinned (OpenSpec.upto fnExactNimByOptionsSpec)

/-- 'laws.FnExactNimInverse', WHERE WHAT IT READS IS OF BULK AT MOST 1048576: true; the input reads as it did. -/
def fnExactNimInverseUptoRow : OpenClaim := { program := "ytacpeffinmfdaaa", sum := "3981a7112107fb4d6c064d7c1dfd9db46cf0305fadd2943338fefcec55c3c54d", func := "loop.example/g01096/laws.FnExactNimInverse", spec := "fnExactNimInverse", recurses := true, apart := false, narrowed := true }
def FnExactNimInverseUptoSaid : Prop := fnExactNimInverseUptoRow.holds Try.pinned (OpenSpec.upto fnExactNimInverseSpec)

/-- 'laws.FnExactNimPower', WHERE WHAT IT READS IS OF BULK AT MOST 1048576: true; the input reads as it did. -/
def fnExactNimPowerUptoRow : OpenClaim := { program := "ytacpeffinmfdaaa", sum := "3981a7112107fb4d6c064d7c1dfd9db46cf0305fadd2943338fefcec55c3c54d", func := "loop.example/g01096/laws.FnExactNimPower", spec := "fnExactNimPower", recurses := true, apart := false, narrowed := true }
def FnExactNimPowerUptoSaid : Prop := fnExactNimPowerUptoRow.holds Try.pinned (OpenSpec.upto fnExactNimPowerSpec)

/-- 'laws.FnExactNimRoot', WHERE WHAT IT READS IS OF BULK AT MOST 1048576: true; the input reads as it did. -/
def fnExactNimRootUptoRow : OpenClaim := { program := "ytacpeffinmfdaaa", sum := "3981a7112107fb4d6c064d7c1dfd9db46cf0305fadd2943338fefcec55c3c54d", func := "loop.example/g01096/laws.FnExactNimRoot", spec := "fnExactNimRoot", recurses := true, apart := false, narrowed := true }
def FnExactNimRootUptoSaid : Prop := fnExactNimRootUptoRow.holds Try.pinned (OpenSpec.upto fnExactNimRootSpec)

/-- 'laws.FnExactNimOrder', WHERE WHAT IT READS IS OF BULK AT MOST 1048576: true; the input reads as it did. -/
def fnExactNimOrderUptoRow : OpenClaim := { program := "ytacpeffinmfdaaa", sum := "3981a7112107fb4d6c064d7c1dfd9db46cf0305fadd2943338fefcec55c3c54d", func := "loop.example/g01096/laws.FnExactNimOrder", spec := "fnExactNimOrder", recurses := true, apart := false, narrowed := true }
def FnExactNimOrderUptoSaid : Prop := fnExactNimOrderUptoRow.holds Try.pinned (OpenSpec.upto fnExactNimOrderSpec)

end Rows
end Go.Proofs.Ytacpeffinmfdaaa
