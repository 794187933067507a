/-
  No cell of these rows narrows 'for every input' (looked for: loops, veiled, ifaces, maps, wideKeys, modest, calm, conditions, laid).
  DERIVED. THE GIVEN ROWS OF THIS SEAT. 6 by the template 'for every input the law returns true; each argument reads behind the call as it read before'; 0 by the template 'total and deterministic' (their statements: YtgjpfhedhehmdaaTotals.lean).
  GIVEN WITH THE SEED: the statements are not yours to turn. If you find one false, say at which input.
  Laid BY PROGRAM, IN A SANDBOX (cutbox-rows.mjs): the forced cells as the released guide's own fill.sh prints them over the translation 161b527208fcfc01… (all of the seat's roots in one cut). By AI agents, Wed Nov 11 2026. No macro, syntax, notation, axiom, sorry.
-/
import Derived.Test.YtgjpfhedhehmdaaChecked
import GoSem.Claim
import GoSem.ClaimJoined
import GoSem.ClaimMapViews
import Derived.JoinedTies
import Derived.KernelRfl
namespace Go.Proofs.Ytgjpfhedhehmdaa
/- THE CELL 'sum', in the pinned program and in every row, IS THE sha256 OF THE DUMP (.gsa) THAT YtgjpfhedhehmdaaProg.lean LOADS. Nothing in Lean hashes anything: it is a label: what it is worth is what the hold of that sum in a sandbox is worth. -/
noncomputable def Try.pinned : Pinned := { name := "ytgjpfhedhehmdaa", sum := "161b527208fcfc01c177c7564fb80e03aee10a7772e3e7722f9598cd1efdd8da", checked := Try.checked }
namespace Rows
def none {H : Type} : Left H := { results := [], args := [] }

/-- 'laws.FnExactFiniteOrdinal': WHATEVER THE INPUT: true; the input reads as it did. -/
def fnExactFiniteOrdinalSpec : ChangeSpec := { name := "fnExactFiniteOrdinal", fn := fun _ => fun
  | [d] => { results := [.lit (.bool true)], args := [d] }
  | _ => none }
def fnExactFiniteOrdinalRow : OpenClaim := { program := "ytgjpfhedhehmdaa", sum := "161b527208fcfc01c177c7564fb80e03aee10a7772e3e7722f9598cd1efdd8da", func := "loop.example/g01096/laws.FnExactFiniteOrdinal", spec := "fnExactFiniteOrdinal", recurses := true, apart := false }
def FnExactFiniteOrdinalSaid : Prop := fnExactFiniteOrdinalRow.holds Try.pinned (OpenSpec.ofChange fnExactFiniteOrdinalSpec)

/-- ITS FALSE NEIGHBOUR: 'it returns false'. Refute it at one input. -/
def fnExactFiniteOrdinalWrong : ChangeSpec := { name := "fnExactFiniteOrdinal", fn := fun _ => fun
  | [d] => { results := [.lit (.bool false)], args := [d] }
  | _ => none }
def FnExactFiniteOrdinalWrongFalsely : Prop := fnExactFiniteOrdinalRow.holds Try.pinned (OpenSpec.ofChange fnExactFiniteOrdinalWrong)

/-- 'laws.FnExactRaiseBase': WHATEVER THE INPUT: true; the input reads as it did. -/
def fnExactRaiseBaseSpec : ChangeSpec := { name := "fnExactRaiseBase", fn := fun _ => fun
  | [d1, d2] => { results := [.lit (.bool true)], args := [d1, d2] }
  | _ => none }
def fnExactRaiseBaseRow : OpenClaim := { program := "ytgjpfhedhehmdaa", sum := "161b527208fcfc01c177c7564fb80e03aee10a7772e3e7722f9598cd1efdd8da", func := "loop.example/g01096/laws.FnExactRaiseBase", spec := "fnExactRaiseBase", unfollowed := true, recurses := true, apart := false }
def FnExactRaiseBaseSaid : Prop := fnExactRaiseBaseRow.holds Try.pinned (OpenSpec.ofChange fnExactRaiseBaseSpec)

/-- ITS FALSE NEIGHBOUR: 'it returns false'. Refute it at one input. -/
def fnExactRaiseBaseWrong : ChangeSpec := { name := "fnExactRaiseBase", fn := fun _ => fun
  | [d1, d2] => { results := [.lit (.bool false)], args := [d1, d2] }
  | _ => none }
def FnExactRaiseBaseWrongFalsely : Prop := fnExactRaiseBaseRow.holds Try.pinned (OpenSpec.ofChange fnExactRaiseBaseWrong)

/-- 'laws.FnExactGoodsteinRun': WHATEVER THE INPUT: true; the input reads as it did. -/
def fnExactGoodsteinRunSpec : ChangeSpec := { name := "fnExactGoodsteinRun", fn := fun _ => fun
  | [d1, d2, d3] => { results := [.lit (.bool true)], args := [d1, d2, d3] }
  | _ => none }
def fnExactGoodsteinRunRow : OpenClaim := { program := "ytgjpfhedhehmdaa", sum := "161b527208fcfc01c177c7564fb80e03aee10a7772e3e7722f9598cd1efdd8da", func := "loop.example/g01096/laws.FnExactGoodsteinRun", spec := "fnExactGoodsteinRun", unfollowed := true, recurses := true, apart := false }
def FnExactGoodsteinRunSaid : Prop := fnExactGoodsteinRunRow.holds Try.pinned (OpenSpec.ofChange fnExactGoodsteinRunSpec)

/-- ITS FALSE NEIGHBOUR: 'it returns false'. Refute it at one input. -/
def fnExactGoodsteinRunWrong : ChangeSpec := { name := "fnExactGoodsteinRun", fn := fun _ => fun
  | [d1, d2, d3] => { results := [.lit (.bool false)], args := [d1, d2, d3] }
  | _ => none }
def FnExactGoodsteinRunWrongFalsely : Prop := fnExactGoodsteinRunRow.holds Try.pinned (OpenSpec.ofChange fnExactGoodsteinRunWrong)

/-- 'laws.FnExactStepsToZero': WHATEVER THE INPUT: true; the input reads as it did. -/
def fnExactStepsToZeroSpec : ChangeSpec := { name := "fnExactStepsToZero", fn := fun _ => fun
  | [d1, d2, d3] => { results := [.lit (.bool true)], args := [d1, d2, d3] }
  | _ => none }
def fnExactStepsToZeroRow : OpenClaim := { program := "ytgjpfhedhehmdaa", sum := "161b527208fcfc01c177c7564fb80e03aee10a7772e3e7722f9598cd1efdd8da", func := "loop.example/g01096/laws.FnExactStepsToZero", spec := "fnExactStepsToZero", unfollowed := true, recurses := true, apart := false }
def FnExactStepsToZeroSaid : Prop := fnExactStepsToZeroRow.holds Try.pinned (OpenSpec.ofChange fnExactStepsToZeroSpec)

/-- ITS FALSE NEIGHBOUR: 'it returns false'. Refute it at one input. -/
def fnExactStepsToZeroWrong : ChangeSpec := { name := "fnExactStepsToZero", fn := fun _ => fun
  | [d1, d2, d3] => { results := [.lit (.bool false)], args := [d1, d2, d3] }
  | _ => none }
def FnExactStepsToZeroWrongFalsely : Prop := fnExactStepsToZeroRow.holds Try.pinned (OpenSpec.ofChange fnExactStepsToZeroWrong)

/-- 'laws.FnExactChopHead': WHATEVER THE INPUT: true; the input reads as it did. -/
def fnExactChopHeadSpec : ChangeSpec := { name := "fnExactChopHead", fn := fun _ => fun
  | [d1, d2, d3] => { results := [.lit (.bool true)], args := [d1, d2, d3] }
  | _ => none }
def fnExactChopHeadRow : OpenClaim := { program := "ytgjpfhedhehmdaa", sum := "161b527208fcfc01c177c7564fb80e03aee10a7772e3e7722f9598cd1efdd8da", func := "loop.example/g01096/laws.FnExactChopHead", spec := "fnExactChopHead", unfollowed := true, recurses := true, apart := false }
def FnExactChopHeadSaid : Prop := fnExactChopHeadRow.holds Try.pinned (OpenSpec.ofChange fnExactChopHeadSpec)

/-- ITS FALSE NEIGHBOUR: 'it returns false'. Refute it at one input. -/
def fnExactChopHeadWrong : ChangeSpec := { name := "fnExactChopHead", fn := fun _ => fun
  | [d1, d2, d3] => { results := [.lit (.bool false)], args := [d1, d2, d3] }
  | _ => none }
def FnExactChopHeadWrongFalsely : Prop := fnExactChopHeadRow.holds Try.pinned (OpenSpec.ofChange fnExactChopHeadWrong)

/-- 'laws.FnExactPlayHydra': WHATEVER THE INPUT: true; the input reads as it did. -/
def fnExactPlayHydraSpec : ChangeSpec := { name := "fnExactPlayHydra", fn := fun _ => fun
  | [d1, d2] => { results := [.lit (.bool true)], args := [d1, d2] }
  | _ => none }
def fnExactPlayHydraRow : OpenClaim := { program := "ytgjpfhedhehmdaa", sum := "161b527208fcfc01c177c7564fb80e03aee10a7772e3e7722f9598cd1efdd8da", func := "loop.example/g01096/laws.FnExactPlayHydra", spec := "fnExactPlayHydra", unfollowed := true, recurses := true, apart := false }
def FnExactPlayHydraSaid : Prop := fnExactPlayHydraRow.holds Try.pinned (OpenSpec.ofChange fnExactPlayHydraSpec)

/-- ITS FALSE NEIGHBOUR: 'it returns false'. Refute it at one input. -/
def fnExactPlayHydraWrong : ChangeSpec := { name := "fnExactPlayHydra", fn := fun _ => fun
  | [d1, d2] => { results := [.lit (.bool false)], args := [d1, d2] }
  | _ => none }
def FnExactPlayHydraWrongFalsely : Prop := fnExactPlayHydraRow.holds Try.pinned (OpenSpec.ofChange fnExactPlayHydraWrong)

/- THE SECOND FORM. 'bulk': how many values and letters a reading holds, each counted each time it is reached (what is shared counts as often as it is met; a slice's spare places count too). A statement '..UptoSaid' is the law's where the arguments, and the package variables that the reading takes, are together of bulk at most 1048576: NARROWER than '..Said'. Prove '..Said' where nothing that the law and all that it calls make is longer than what came in: it says more and counts as full. Else prove '..UptoSaid'. A law counts once. -/
mutual
def uptoBulk {H : Type} : DataW H → Nat
  | .lit (.string bytes) => bytes.length + 1
  | .lit _ => 1
  | .nil => 1
  | .ptr d => uptoBulk d + 1
  | .slice elems spare => uptoBulkAll elems + uptoBulkAll spare + 1
  | .agg parts => uptoBulkAll parts + 1
  | .iface _ d => uptoBulk d + 1
  | .map entries => uptoBulkEntries entries + 1
  | .held _ => 1
def uptoBulkAll {H : Type} : List (DataW H) → Nat
  | [] => 0
  | d :: r => uptoBulk d + uptoBulkAll r
def uptoBulkEntries {H : Type} : List (Lit × DataW H) → Nat
  | [] => 0
  | x :: r => uptoBulkEntry x + uptoBulkEntries r
def uptoBulkEntry {H : Type} : Lit × DataW H → Nat
  | (.string bytes, d) => bytes.length + uptoBulk d + 1
  | (_, d) => uptoBulk d + 1
 end
def uptoSmall : (H : Type) → List (DataW H) → Bool := fun _ ds => decide (uptoBulkAll ds ≤ 1048576)
def OpenSpec.upto (s : _root_.Go.ChangeSpec) : _root_.Go.OpenSpec := { _root_.Go.OpenSpec.ofChange s with cond := some uptoSmall }

/-- 'laws.FnExactFiniteOrdinal', WHERE WHAT IT READS IS OF BULK AT MOST 1048576: true; the input reads as it did. -/
def fnExactFiniteOrdinalUptoRow : OpenClaim := { program := "ytgjpfhedhehmdaa", sum := "161b527208fcfc01c177c7564fb80e03aee10a7772e3e7722f9598cd1efdd8da", func := "loop.example/g01096/laws.FnExactFiniteOrdinal", spec := "fnExactFiniteOrdinal", recurses := true, apart := false, narrowed := true }
def FnExactFiniteOrdinalUptoSaid : Prop := fnExactFiniteOrdinalUptoRow.holds Try.pinned (OpenSpec.upto fnExactFiniteOrdinalSpec)

/-- 'laws.FnExactRaiseBase', WHERE WHAT IT READS IS OF BULK AT MOST 1048576: true; the input reads as it did. -/
def fnExactRaiseBaseUptoRow : OpenClaim := { program := "ytgjpfhedhehmdaa", sum := "161b527208fcfc01c177c7564fb80e03aee10a7772e3e7722f9598cd1efdd8da", func := "loop.example/g01096/laws.FnExactRaiseBase", spec := "fnExactRaiseBase", unfollowed := true, recurses := true, apart := false, narrowed := true }
def FnExactRaiseBaseUptoSaid : Prop := fnExactRaiseBaseUptoRow.holds Try.pinned (OpenSpec.upto fnExactRaiseBaseSpec)

/-- 'laws.FnExactGoodsteinRun', WHERE WHAT IT READS IS OF BULK AT MOST 1048576: true; the input reads as it did. -/
def fnExactGoodsteinRunUptoRow : OpenClaim := { program := "ytgjpfhedhehmdaa", sum := "161b527208fcfc01c177c7564fb80e03aee10a7772e3e7722f9598cd1efdd8da", func := "loop.example/g01096/laws.FnExactGoodsteinRun", spec := "fnExactGoodsteinRun", unfollowed := true, recurses := true, apart := false, narrowed := true }
def FnExactGoodsteinRunUptoSaid : Prop := fnExactGoodsteinRunUptoRow.holds Try.pinned (OpenSpec.upto fnExactGoodsteinRunSpec)

/-- 'laws.FnExactStepsToZero', WHERE WHAT IT READS IS OF BULK AT MOST 1048576: true; the input reads as it did. -/
def fnExactStepsToZeroUptoRow : OpenClaim := { program := "ytgjpfhedhehmdaa", sum := "161b527208fcfc01c177c7564fb80e03aee10a7772e3e7722f9598cd1efdd8da", func := "loop.example/g01096/laws.FnExactStepsToZero", spec := "fnExactStepsToZero", unfollowed := true, recurses := true, apart := false, narrowed := true }
def FnExactStepsToZeroUptoSaid : Prop := fnExactStepsToZeroUptoRow.holds Try.pinned (OpenSpec.upto fnExactStepsToZeroSpec)

/-- 'laws.FnExactChopHead', WHERE WHAT IT READS IS OF BULK AT MOST 1048576: true; the input reads as it did. -/
def fnExactChopHeadUptoRow : OpenClaim := { program := "ytgjpfhedhehmdaa", sum := "161b527208fcfc01c177c7564fb80e03aee10a7772e3e7722f9598cd1efdd8da", func := "loop.example/g01096/laws.FnExactChopHead", spec := "fnExactChopHead", unfollowed := true, recurses := true, apart := false, narrowed := true }
def FnExactChopHeadUptoSaid : Prop := fnExactChopHeadUptoRow.holds Try.pinned (OpenSpec.upto fnExactChopHeadSpec)

/-- 'laws.FnExactPlayHydra', WHERE WHAT IT READS IS OF BULK AT MOST 1048576: true; the input reads as it did. -/
def fnExactPlayHydraUptoRow : OpenClaim := { program := "ytgjpfhedhehmdaa", sum := "161b527208fcfc01c177c7564fb80e03aee10a7772e3e7722f9598cd1efdd8da", func := "loop.example/g01096/laws.FnExactPlayHydra", spec := "fnExactPlayHydra", unfollowed := true, recurses := true, apart := false, narrowed := true }
def FnExactPlayHydraUptoSaid : Prop := fnExactPlayHydraUptoRow.holds Try.pinned (OpenSpec.upto fnExactPlayHydraSpec)

end Rows
end Go.Proofs.Ytgjpfhedhehmdaa
