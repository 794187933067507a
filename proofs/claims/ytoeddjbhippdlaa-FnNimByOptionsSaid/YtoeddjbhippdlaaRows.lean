/-
  No cell of these rows narrows 'for every input' (looked for: loops, veiled, ifaces, maps, wideKeys, modest, calm, conditions, laid).
  DERIVED. THE GIVEN ROWS OF THIS SEAT. 4 by the template 'for every input the law returns true; each argument reads behind the call as it read before'; 0 by the template 'total and deterministic' (their statements: YtoeddjbhippdlaaTotals.lean).
  GIVEN WITH THE SEED: the statements are not yours to turn. If you find one false, say at which input.
  Laid BY PROGRAM, IN A SANDBOX (cutbox-rows.mjs): the forced cells as the released guide's own fill.sh prints them over the translation 8baeafa5bb3ee688… (all of the seat's roots in one cut). By AI agents, Wed Nov 11 2026. No macro, syntax, notation, axiom, sorry.
-/
import Derived.Test.YtoeddjbhippdlaaChecked
import GoSem.Claim
import GoSem.ClaimJoined
import GoSem.ClaimMapViews
import Derived.JoinedTies
import Derived.KernelRfl
namespace Go.Proofs.Ytoeddjbhippdlaa
/- THE CELL 'sum', in the pinned program and in every row, IS THE sha256 OF THE DUMP (.gsa) THAT YtoeddjbhippdlaaProg.lean LOADS. Nothing in Lean hashes anything: it is a label: what it is worth is what the hold of that sum in a sandbox is worth. -/
noncomputable def Try.pinned : Pinned := { name := "ytoeddjbhippdlaa", sum := "8baeafa5bb3ee68867a81a66883b9ec5e9d3c4000129b4592e6b7b71a737ad60", checked := Try.checked }
namespace Rows
def none {H : Type} : Left H := { results := [], args := [] }

/-- 'laws.FnExactNimSolve': WHATEVER THE INPUT: true; the input reads as it did. -/
def fnExactNimSolveSpec : ChangeSpec := { name := "fnExactNimSolve", fn := fun _ => fun
  | [d1, d2] => { results := [.lit (.bool true)], args := [d1, d2] }
  | _ => none }
def fnExactNimSolveRow : OpenClaim := { program := "ytoeddjbhippdlaa", sum := "8baeafa5bb3ee68867a81a66883b9ec5e9d3c4000129b4592e6b7b71a737ad60", func := "loop.example/g01096/laws.FnExactNimSolve", spec := "fnExactNimSolve", recurses := true, apart := false }
def FnExactNimSolveSaid : Prop := fnExactNimSolveRow.holds Try.pinned (OpenSpec.ofChange fnExactNimSolveSpec)

/-- ITS FALSE NEIGHBOUR: 'it returns false'. Refute it at one input. -/
def fnExactNimSolveWrong : ChangeSpec := { name := "fnExactNimSolve", fn := fun _ => fun
  | [d1, d2] => { results := [.lit (.bool false)], args := [d1, d2] }
  | _ => none }
def FnExactNimSolveWrongFalsely : Prop := fnExactNimSolveRow.holds Try.pinned (OpenSpec.ofChange fnExactNimSolveWrong)

/-- 'laws.FnNimRoots': WHATEVER THE INPUT: true; the input reads as it did. -/
def fnNimRootsSpec : ChangeSpec := { name := "fnNimRoots", fn := fun _ => fun
  | [d1, d2] => { results := [.lit (.bool true)], args := [d1, d2] }
  | _ => none }
def fnNimRootsRow : OpenClaim := { program := "ytoeddjbhippdlaa", sum := "8baeafa5bb3ee68867a81a66883b9ec5e9d3c4000129b4592e6b7b71a737ad60", func := "loop.example/g01096/laws.FnNimRoots", spec := "fnNimRoots", recurses := true, apart := false }
def FnNimRootsSaid : Prop := fnNimRootsRow.holds Try.pinned (OpenSpec.ofChange fnNimRootsSpec)

/-- ITS FALSE NEIGHBOUR: 'it returns false'. Refute it at one input. -/
def fnNimRootsWrong : ChangeSpec := { name := "fnNimRoots", fn := fun _ => fun
  | [d1, d2] => { results := [.lit (.bool false)], args := [d1, d2] }
  | _ => none }
def FnNimRootsWrongFalsely : Prop := fnNimRootsRow.holds Try.pinned (OpenSpec.ofChange fnNimRootsWrong)

/-- 'laws.FnNimByOptions': WHATEVER THE INPUT: true; the input reads as it did. -/
def fnNimByOptionsSpec : ChangeSpec := { name := "fnNimByOptions", fn := fun _ => fun
  | [d1, d2] => { results := [.lit (.bool true)], args := [d1, d2] }
  | _ => none }
def fnNimByOptionsRow : OpenClaim := { program := "ytoeddjbhippdlaa", sum := "8baeafa5bb3ee68867a81a66883b9ec5e9d3c4000129b4592e6b7b71a737ad60", func := "loop.example/g01096/laws.FnNimByOptions", spec := "fnNimByOptions", recurses := true, apart := false }
def FnNimByOptionsSaid : Prop := fnNimByOptionsRow.holds Try.pinned (OpenSpec.ofChange fnNimByOptionsSpec)

/-- ITS FALSE NEIGHBOUR: 'it returns false'. Refute it at one input. -/
def fnNimByOptionsWrong : ChangeSpec := { name := "fnNimByOptions", fn := fun _ => fun
  | [d1, d2] => { results := [.lit (.bool false)], args := [d1, d2] }
  | _ => none }
def FnNimByOptionsWrongFalsely : Prop := fnNimByOptionsRow.holds Try.pinned (OpenSpec.ofChange fnNimByOptionsWrong)

/-- 'laws.FnExactNimByOptions': WHATEVER THE INPUT: true; the input reads as it did. -/
def fnExactNimByOptionsSpec : ChangeSpec := { name := "fnExactNimByOptions", fn := fun _ => fun
  | [d1, d2] => { results := [.lit (.bool true)], args := [d1, d2] }
  | _ => none }
def fnExactNimByOptionsRow : OpenClaim := { program := "ytoeddjbhippdlaa", sum := "8baeafa5bb3ee68867a81a66883b9ec5e9d3c4000129b4592e6b7b71a737ad60", func := "loop.example/g01096/laws.FnExactNimByOptions", spec := "fnExactNimByOptions", apart := false }
def FnExactNimByOptionsSaid : Prop := fnExactNimByOptionsRow.holds Try.pinned (OpenSpec.ofChange fnExactNimByOptionsSpec)

/-- ITS FALSE NEIGHBOUR: 'it returns false'. Refute it at one input. -/
def fnExactNimByOptionsWrong : ChangeSpec := { name := "fnExactNimByOptions", fn := fun _ => fun
  | [d1, d2] => { results := [.lit (.bool false)], args := [d1, d2] }
  | _ => none }
def FnExactNimByOptionsWrongFalsely : Prop := fnExactNimByOptionsRow.holds Try.pinned (OpenSpec.ofChange fnExactNimByOptionsWrong)

/- THE SECOND FORM. 'bulk': how many values and letters a reading holds, each counted each time it is reached (what is shared counts as often as it is met; a slice's spare places count too). A statement '..UptoSaid' is the law's where the arguments, and the package variables that the reading takes, are together of bulk at most 1048576: NARROWER than '..Said'. Prove '..Said' where nothing that the law and all that it calls make is longer than what came in: it says more and counts as full. Else prove '..UptoSaid'. A law counts once. -/
mutual
def uptoBulk {H : Type} : DataW H → Nat
  | .lit (.string bytes) => bytes.length + 1
  | .lit _ => 1
  | .nil => 1
  | .ptr d => uptoBulk d + 1
  | .slice elems spare => uptoBulkAll elems + uptoBulkAll spare + 1
  | .agg parts => uptoBulkAll parts + 1
  | .iface _ d => uptoBulk d + 1
  | .map entries => uptoBulkEntries entries + 1
  | .held _ => 1
def uptoBulkAll {H : Type} : List (DataW H) → Nat
  | [] => 0
  | d :: r => uptoBulk d + uptoBulkAll r
def uptoBulkEntries {H : Type} : List (Lit × DataW H) → Nat
  | [] => 0
  | x :: r => uptoBulkEntry x + uptoBulkEntries r
def uptoBulkEntry {H : Type} : Lit × DataW H → Nat
  | (.string bytes, d) => bytes.length + uptoBulk d + 1
  | (_, d) => uptoBulk d + 1
 end
def uptoSmall : (H : Type) → List (DataW H) → Bool := fun _ ds => decide (uptoBulkAll ds ≤ 1048576)
def OpenSpec.upto (s : _root_.Go.ChangeSpec) : _root_.Go.OpenSpec := { _root_.Go.OpenSpec.ofChange s with cond := some uptoSmall }

/-- 'laws.FnExactNimSolve', WHERE WHAT IT READS IS OF BULK AT MOST 1048576: true; the input reads as it did. -/
def fnExactNimSolveUptoRow : OpenClaim := { program := "ytoeddjbhippdlaa", sum := "8baeafa5bb3ee68867a81a66883b9ec5e9d3c4000129b4592e6b7b71a737ad60", func := "loop.example/g01096/laws.FnExactNimSolve", spec := "fnExactNimSolve", recurses := true, apart := false, narrowed := true }
def FnExactNimSolveUptoSaid : Prop := fnExactNimSolveUptoRow.holds Try.pinned (OpenSpec.upto fnExactNimSolveSpec)

/-- 'laws.FnNimRoots', WHERE WHAT IT READS IS OF BULK AT MOST 1048576: true; the input reads as it did. -/
def fnNimRootsUptoRow : OpenClaim := { program := "ytoeddjbhippdlaa", sum := "8baeafa5bb3ee68867a81a66883b9ec5e9d3c4000129b4592e6b7b71a737ad60", func := "loop.example/g01096/laws.FnNimRoots", spec := "fnNimRoots", recurses := true, apart := false, narrowed := true }
def FnNimRootsUptoSaid : Prop := fnNimRootsUptoRow.holds Try.pinned (OpenSpec.upto fnNimRootsSpec)

/-- 'laws.FnNimByOptions', WHERE WHAT IT READS IS OF BULK AT MOST 1048576: true; the input reads as it did. -/
def fnNimByOptionsUptoRow : OpenClaim := { program := "ytoeddjbhippdlaa", sum := "8baeafa5bb3ee68867a81a66883b9ec5e9d3c4000129b4592e6b7b71a737ad60", func := "loop.example/g01096/laws.FnNimByOptions", spec := "fnNimByOptions", recurses := true, apart := false, narrowed := true }
def FnNimByOptionsUptoSaid : Prop := fnNimByOptionsUptoRow.holds Try.pinned (OpenSpec.upto fnNimByOptionsSpec)

/-- 'laws.FnExactNimByOptions', WHERE WHAT IT READS IS OF BULK AT MOST 1048576: true; the input reads as it did. -/
def fnExactNimByOptionsUptoRow : OpenClaim := { program := "ytoeddjbhippdlaa", sum := "8baeafa5bb3ee68867a81a66883b9ec5e9d3c4000129b4592e6b7b71a737ad60", func := "loop.example/g01096/laws.FnExactNimByOptions", spec := "fnExactNimByOptions", apart := false, narrowed := true }
def FnExactNimByOptionsUptoSaid : Prop := fnExactNimByOptionsUptoRow.holds Try.pinned (OpenSpec.upto fnExactNimByOptionsSpec)

end Rows
end Go.Proofs.Ytoeddjbhippdlaa
