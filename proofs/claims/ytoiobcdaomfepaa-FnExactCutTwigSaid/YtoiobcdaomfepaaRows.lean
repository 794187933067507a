/-
  No cell of these rows narrows 'for every input' (looked for: loops, veiled, ifaces, maps, wideKeys, modest, calm, conditions, laid).
  DERIVED. THE GIVEN ROWS OF THIS SEAT. 9 by the template 'for every input the law returns true; each argument reads behind the call as it read before'; 0 by the template 'total and deterministic' (their statements: YtoiobcdaomfepaaTotals.lean).
  GIVEN WITH THE SEED: the statements are not yours to turn. If you find one false, say at which input.
  Laid BY PROGRAM, IN A SANDBOX (cutbox-rows.mjs): the forced cells as the released guide's own fill.sh prints them over the translation f94bfb9857edc570… (all of the seat's roots in one cut). By AI agents, Wed Nov 11 2026. No macro, syntax, notation, axiom, sorry.
-/
import Derived.Test.YtoiobcdaomfepaaChecked
import GoSem.Claim
import GoSem.ClaimJoined
import GoSem.ClaimMapViews
import Derived.JoinedTies
import Derived.KernelRfl
namespace Go.Proofs.Ytoiobcdaomfepaa
/- THE CELL 'sum', in the pinned program and in every row, IS THE sha256 OF THE DUMP (.gsa) THAT YtoiobcdaomfepaaProg.lean LOADS. Nothing in Lean hashes anything: it is a label: what it is worth is what the hold of that sum in a sandbox is worth. -/
noncomputable def Try.pinned : Pinned := { name := "ytoiobcdaomfepaa", sum := "f94bfb9857edc5706e1a315dcc8a4c70352220dd098035b5ab775e31cdde5d08", checked := Try.checked }
namespace Rows
def none {H : Type} : Left H := { results := [], args := [] }

/-- 'laws.FnExactIsGreen': WHATEVER THE INPUT: true; the input reads as it did. -/
def fnExactIsGreenSpec : ChangeSpec := { name := "fnExactIsGreen", fn := fun _ => fun
  | [d] => { results := [.lit (.bool true)], args := [d] }
  | _ => none }
def fnExactIsGreenRow : OpenClaim := { program := "ytoiobcdaomfepaa", sum := "f94bfb9857edc5706e1a315dcc8a4c70352220dd098035b5ab775e31cdde5d08", func := "loop.example/g01096/laws.FnExactIsGreen", spec := "fnExactIsGreen", unfollowed := true, recurses := true, apart := false }
def FnExactIsGreenSaid : Prop := fnExactIsGreenRow.holds Try.pinned (OpenSpec.ofChange fnExactIsGreenSpec)

/-- ITS FALSE NEIGHBOUR: 'it returns false'. Refute it at one input. -/
def fnExactIsGreenWrong : ChangeSpec := { name := "fnExactIsGreen", fn := fun _ => fun
  | [d] => { results := [.lit (.bool false)], args := [d] }
  | _ => none }
def FnExactIsGreenWrongFalsely : Prop := fnExactIsGreenRow.holds Try.pinned (OpenSpec.ofChange fnExactIsGreenWrong)

/-- 'laws.FnExactGroundedOf': WHATEVER THE INPUT: true; the input reads as it did. -/
def fnExactGroundedOfSpec : ChangeSpec := { name := "fnExactGroundedOf", fn := fun _ => fun
  | [d] => { results := [.lit (.bool true)], args := [d] }
  | _ => none }
def fnExactGroundedOfRow : OpenClaim := { program := "ytoiobcdaomfepaa", sum := "f94bfb9857edc5706e1a315dcc8a4c70352220dd098035b5ab775e31cdde5d08", func := "loop.example/g01096/laws.FnExactGroundedOf", spec := "fnExactGroundedOf", unfollowed := true, recurses := true, apart := false }
def FnExactGroundedOfSaid : Prop := fnExactGroundedOfRow.holds Try.pinned (OpenSpec.ofChange fnExactGroundedOfSpec)

/-- ITS FALSE NEIGHBOUR: 'it returns false'. Refute it at one input. -/
def fnExactGroundedOfWrong : ChangeSpec := { name := "fnExactGroundedOf", fn := fun _ => fun
  | [d] => { results := [.lit (.bool false)], args := [d] }
  | _ => none }
def FnExactGroundedOfWrongFalsely : Prop := fnExactGroundedOfRow.holds Try.pinned (OpenSpec.ofChange fnExactGroundedOfWrong)

/-- 'laws.FnExactCutTwig': WHATEVER THE INPUT: true; the input reads as it did. -/
def fnExactCutTwigSpec : ChangeSpec := { name := "fnExactCutTwig", fn := fun _ => fun
  | [d1, d2] => { results := [.lit (.bool true)], args := [d1, d2] }
  | _ => none }
def fnExactCutTwigRow : OpenClaim := { program := "ytoiobcdaomfepaa", sum := "f94bfb9857edc5706e1a315dcc8a4c70352220dd098035b5ab775e31cdde5d08", func := "loop.example/g01096/laws.FnExactCutTwig", spec := "fnExactCutTwig", unfollowed := true, recurses := true, apart := false }
def FnExactCutTwigSaid : Prop := fnExactCutTwigRow.holds Try.pinned (OpenSpec.ofChange fnExactCutTwigSpec)

/-- ITS FALSE NEIGHBOUR: 'it returns false'. Refute it at one input. -/
def fnExactCutTwigWrong : ChangeSpec := { name := "fnExactCutTwig", fn := fun _ => fun
  | [d1, d2] => { results := [.lit (.bool false)], args := [d1, d2] }
  | _ => none }
def FnExactCutTwigWrongFalsely : Prop := fnExactCutTwigRow.holds Try.pinned (OpenSpec.ofChange fnExactCutTwigWrong)

/-- 'laws.FnExactJoinGreen': WHATEVER THE INPUT: true; the input reads as it did. -/
def fnExactJoinGreenSpec : ChangeSpec := { name := "fnExactJoinGreen", fn := fun _ => fun
  | [d1, d2] => { results := [.lit (.bool true)], args := [d1, d2] }
  | _ => none }
def fnExactJoinGreenRow : OpenClaim := { program := "ytoiobcdaomfepaa", sum := "f94bfb9857edc5706e1a315dcc8a4c70352220dd098035b5ab775e31cdde5d08", func := "loop.example/g01096/laws.FnExactJoinGreen", spec := "fnExactJoinGreen", unfollowed := true, recurses := true, apart := false }
def FnExactJoinGreenSaid : Prop := fnExactJoinGreenRow.holds Try.pinned (OpenSpec.ofChange fnExactJoinGreenSpec)

/-- ITS FALSE NEIGHBOUR: 'it returns false'. Refute it at one input. -/
def fnExactJoinGreenWrong : ChangeSpec := { name := "fnExactJoinGreen", fn := fun _ => fun
  | [d1, d2] => { results := [.lit (.bool false)], args := [d1, d2] }
  | _ => none }
def FnExactJoinGreenWrongFalsely : Prop := fnExactJoinGreenRow.holds Try.pinned (OpenSpec.ofChange fnExactJoinGreenWrong)

/-- 'laws.FnExactIsGreenTree': WHATEVER THE INPUT: true; the input reads as it did. -/
def fnExactIsGreenTreeSpec : ChangeSpec := { name := "fnExactIsGreenTree", fn := fun _ => fun
  | [d] => { results := [.lit (.bool true)], args := [d] }
  | _ => none }
def fnExactIsGreenTreeRow : OpenClaim := { program := "ytoiobcdaomfepaa", sum := "f94bfb9857edc5706e1a315dcc8a4c70352220dd098035b5ab775e31cdde5d08", func := "loop.example/g01096/laws.FnExactIsGreenTree", spec := "fnExactIsGreenTree", unfollowed := true, recurses := true, apart := false }
def FnExactIsGreenTreeSaid : Prop := fnExactIsGreenTreeRow.holds Try.pinned (OpenSpec.ofChange fnExactIsGreenTreeSpec)

/-- ITS FALSE NEIGHBOUR: 'it returns false'. Refute it at one input. -/
def fnExactIsGreenTreeWrong : ChangeSpec := { name := "fnExactIsGreenTree", fn := fun _ => fun
  | [d] => { results := [.lit (.bool false)], args := [d] }
  | _ => none }
def FnExactIsGreenTreeWrongFalsely : Prop := fnExactIsGreenTreeRow.holds Try.pinned (OpenSpec.ofChange fnExactIsGreenTreeWrong)

/-- 'laws.FnExactGrundyByPlay': WHATEVER THE INPUT: true; the input reads as it did. -/
def fnExactGrundyByPlaySpec : ChangeSpec := { name := "fnExactGrundyByPlay", fn := fun _ => fun
  | [d] => { results := [.lit (.bool true)], args := [d] }
  | _ => none }
def fnExactGrundyByPlayRow : OpenClaim := { program := "ytoiobcdaomfepaa", sum := "f94bfb9857edc5706e1a315dcc8a4c70352220dd098035b5ab775e31cdde5d08", func := "loop.example/g01096/laws.FnExactGrundyByPlay", spec := "fnExactGrundyByPlay", unfollowed := true, recurses := true, apart := false }
def FnExactGrundyByPlaySaid : Prop := fnExactGrundyByPlayRow.holds Try.pinned (OpenSpec.ofChange fnExactGrundyByPlaySpec)

/-- ITS FALSE NEIGHBOUR: 'it returns false'. Refute it at one input. -/
def fnExactGrundyByPlayWrong : ChangeSpec := { name := "fnExactGrundyByPlay", fn := fun _ => fun
  | [d] => { results := [.lit (.bool false)], args := [d] }
  | _ => none }
def FnExactGrundyByPlayWrongFalsely : Prop := fnExactGrundyByPlayRow.holds Try.pinned (OpenSpec.ofChange fnExactGrundyByPlayWrong)

/-- 'laws.FnExactWinningTwig': WHATEVER THE INPUT: true; the input reads as it did. -/
def fnExactWinningTwigSpec : ChangeSpec := { name := "fnExactWinningTwig", fn := fun _ => fun
  | [d] => { results := [.lit (.bool true)], args := [d] }
  | _ => none }
def fnExactWinningTwigRow : OpenClaim := { program := "ytoiobcdaomfepaa", sum := "f94bfb9857edc5706e1a315dcc8a4c70352220dd098035b5ab775e31cdde5d08", func := "loop.example/g01096/laws.FnExactWinningTwig", spec := "fnExactWinningTwig", unfollowed := true, recurses := true, apart := false }
def FnExactWinningTwigSaid : Prop := fnExactWinningTwigRow.holds Try.pinned (OpenSpec.ofChange fnExactWinningTwigSpec)

/-- ITS FALSE NEIGHBOUR: 'it returns false'. Refute it at one input. -/
def fnExactWinningTwigWrong : ChangeSpec := { name := "fnExactWinningTwig", fn := fun _ => fun
  | [d] => { results := [.lit (.bool false)], args := [d] }
  | _ => none }
def FnExactWinningTwigWrongFalsely : Prop := fnExactWinningTwigRow.holds Try.pinned (OpenSpec.ofChange fnExactWinningTwigWrong)

/-- 'laws.FnExactGrundyByFusion': WHATEVER THE INPUT: true; the input reads as it did. -/
def fnExactGrundyByFusionSpec : ChangeSpec := { name := "fnExactGrundyByFusion", fn := fun _ => fun
  | [d] => { results := [.lit (.bool true)], args := [d] }
  | _ => none }
def fnExactGrundyByFusionRow : OpenClaim := { program := "ytoiobcdaomfepaa", sum := "f94bfb9857edc5706e1a315dcc8a4c70352220dd098035b5ab775e31cdde5d08", func := "loop.example/g01096/laws.FnExactGrundyByFusion", spec := "fnExactGrundyByFusion", unfollowed := true, recurses := true, apart := false }
def FnExactGrundyByFusionSaid : Prop := fnExactGrundyByFusionRow.holds Try.pinned (OpenSpec.ofChange fnExactGrundyByFusionSpec)

/-- ITS FALSE NEIGHBOUR: 'it returns false'. Refute it at one input. -/
def fnExactGrundyByFusionWrong : ChangeSpec := { name := "fnExactGrundyByFusion", fn := fun _ => fun
  | [d] => { results := [.lit (.bool false)], args := [d] }
  | _ => none }
def FnExactGrundyByFusionWrongFalsely : Prop := fnExactGrundyByFusionRow.holds Try.pinned (OpenSpec.ofChange fnExactGrundyByFusionWrong)

/-- 'laws.FnExactGrundyOfTree': WHATEVER THE INPUT: true; the input reads as it did. -/
def fnExactGrundyOfTreeSpec : ChangeSpec := { name := "fnExactGrundyOfTree", fn := fun _ => fun
  | [d] => { results := [.lit (.bool true)], args := [d] }
  | _ => none }
def fnExactGrundyOfTreeRow : OpenClaim := { program := "ytoiobcdaomfepaa", sum := "f94bfb9857edc5706e1a315dcc8a4c70352220dd098035b5ab775e31cdde5d08", func := "loop.example/g01096/laws.FnExactGrundyOfTree", spec := "fnExactGrundyOfTree", unfollowed := true, recurses := true, apart := false }
def FnExactGrundyOfTreeSaid : Prop := fnExactGrundyOfTreeRow.holds Try.pinned (OpenSpec.ofChange fnExactGrundyOfTreeSpec)

/-- ITS FALSE NEIGHBOUR: 'it returns false'. Refute it at one input. -/
def fnExactGrundyOfTreeWrong : ChangeSpec := { name := "fnExactGrundyOfTree", fn := fun _ => fun
  | [d] => { results := [.lit (.bool false)], args := [d] }
  | _ => none }
def FnExactGrundyOfTreeWrongFalsely : Prop := fnExactGrundyOfTreeRow.holds Try.pinned (OpenSpec.ofChange fnExactGrundyOfTreeWrong)

/- THE SECOND FORM. 'bulk': how many values and letters a reading holds, each counted each time it is reached (what is shared counts as often as it is met; a slice's spare places count too). A statement '..UptoSaid' is the law's where the arguments, and the package variables that the reading takes, are together of bulk at most 1048576: NARROWER than '..Said'. Prove '..Said' where nothing that the law and all that it calls make is longer than what came in: it says more and counts as full. Else prove '..UptoSaid'. A law counts once. -/
mutual
def uptoBulk {H : Type} : DataW H → Nat
  | .lit (.string bytes) => bytes.length + 1
  | .lit _ => 1
  | .nil => 1
  | .ptr d => uptoBulk d + 1
  | .slice elems spare => uptoBulkAll elems + uptoBulkAll spare + 1
  | .agg parts => uptoBulkAll parts + 1
  | .iface _ d => uptoBulk d + 1
  | .map entries => uptoBulkEntries entries + 1
  | .held _ => 1
def uptoBulkAll {H : Type} : List (DataW H) → Nat
  | [] => 0
  | d :: r => uptoBulk d + uptoBulkAll r
def uptoBulkEntries {H : Type} : List (Lit × DataW H) → Nat
  | [] => 0
  | x :: r => uptoBulkEntry x + uptoBulkEntries r
def uptoBulkEntry {H : Type} : Lit × DataW H → Nat
  | (.string bytes, d) => bytes.length + uptoBulk d + 1
  | (_, d) => uptoBulk d + 1
 end
def uptoSmall : (H : Type) → List (DataW H) → Bool := fun _ ds => decide (uptoBulkAll ds ≤ 1048576)
def OpenSpec.upto (s : _root_.Go.ChangeSpec) : _root_.Go.OpenSpec := { _root_.Go.OpenSpec.ofChange s with cond := some uptoSmall }

/-- 'laws.FnExactIsGreen', WHERE WHAT IT READS IS OF BULK AT MOST 1048576: true; the input reads as it did. -/
def fnExactIsGreenUptoRow : OpenClaim := { program := "ytoiobcdaomfepaa", sum := "f94bfb9857edc5706e1a315dcc8a4c70352220dd098035b5ab775e31cdde5d08", func := "loop.example/g01096/laws.FnExactIsGreen", spec := "fnExactIsGreen", unfollowed := true, recurses := true, apart := false, narrowed := true }
def FnExactIsGreenUptoSaid : Prop := fnExactIsGreenUptoRow.holds Try.pinned (OpenSpec.upto fnExactIsGreenSpec)

/-- 'laws.FnExactGroundedOf', WHERE WHAT IT READS IS OF BULK AT MOST 1048576: true; the input reads as it did. -/
def fnExactGroundedOfUptoRow : OpenClaim := { program := "ytoiobcdaomfepaa", sum := "f94bfb9857edc5706e1a315dcc8a4c70352220dd098035b5ab775e31cdde5d08", func := "loop.example/g01096/laws.FnExactGroundedOf", spec := "fnExactGroundedOf", unfollowed := true, recurses := true, apart := false, narrowed := true }
def FnExactGroundedOfUptoSaid : Prop := fnExactGroundedOfUptoRow.holds Try.pinned (OpenSpec.upto fnExactGroundedOfSpec)

/-- 'laws.FnExactCutTwig', WHERE WHAT IT READS IS OF BULK AT MOST 1048576: true; the input reads as it did. -/
def fnExactCutTwigUptoRow : OpenClaim := { program := "ytoiobcdaomfepaa", sum := "f94bfb9857edc5706e1a315dcc8a4c70352220dd098035b5ab775e31cdde5d08", func := "loop.example/g01096/laws.FnExactCutTwig", spec := "fnExactCutTwig", unfollowed := true, recurses := true, apart := false, narrowed := true }
def FnExactCutTwigUptoSaid : Prop := fnExactCutTwigUptoRow.holds Try.pinned (OpenSpec.upto fnExactCutTwigSpec)

/-- 'laws.FnExactJoinGreen', WHERE WHAT IT READS IS OF BULK AT MOST 1048576: true; the input reads as it did. -/
def fnExactJoinGreenUptoRow : OpenClaim := { program := "ytoiobcdaomfepaa", sum := "f94bfb9857edc5706e1a315dcc8a4c70352220dd098035b5ab775e31cdde5d08", func := "loop.example/g01096/laws.FnExactJoinGreen", spec := "fnExactJoinGreen", unfollowed := true, recurses := true, apart := false, narrowed := true }
def FnExactJoinGreenUptoSaid : Prop := fnExactJoinGreenUptoRow.holds Try.pinned (OpenSpec.upto fnExactJoinGreenSpec)

/-- 'laws.FnExactIsGreenTree', WHERE WHAT IT READS IS OF BULK AT MOST 1048576: true; the input reads as it did. -/
def fnExactIsGreenTreeUptoRow : OpenClaim := { program := "ytoiobcdaomfepaa", sum := "f94bfb9857edc5706e1a315dcc8a4c70352220dd098035b5ab775e31cdde5d08", func := "loop.example/g01096/laws.FnExactIsGreenTree", spec := "fnExactIsGreenTree", unfollowed := true, recurses := true, apart := false, narrowed := true }
def FnExactIsGreenTreeUptoSaid : Prop := fnExactIsGreenTreeUptoRow.holds Try.pinned (OpenSpec.upto fnExactIsGreenTreeSpec)

/-- 'laws.FnExactGrundyByPlay', WHERE WHAT IT READS IS OF BULK AT MOST 1048576: true; the input reads as it did. -/
def fnExactGrundyByPlayUptoRow : OpenClaim := { program := "ytoiobcdaomfepaa", sum := "f94bfb9857edc5706e1a315dcc8a4c70352220dd098035b5ab775e31cdde5d08", func := "loop.example/g01096/laws.FnExactGrundyByPlay", spec := "fnExactGrundyByPlay", unfollowed := true, recurses := true, apart := false, narrowed := true }
def FnExactGrundyByPlayUptoSaid : Prop := fnExactGrundyByPlayUptoRow.holds Try.pinned (OpenSpec.upto fnExactGrundyByPlaySpec)

/-- 'laws.FnExactWinningTwig', WHERE WHAT IT READS IS OF BULK AT MOST 1048576: true; the input reads as it did. -/
def fnExactWinningTwigUptoRow : OpenClaim := { program := "ytoiobcdaomfepaa", sum := "f94bfb9857edc5706e1a315dcc8a4c70352220dd098035b5ab775e31cdde5d08", func := "loop.example/g01096/laws.FnExactWinningTwig", spec := "fnExactWinningTwig", unfollowed := true, recurses := true, apart := false, narrowed := true }
def FnExactWinningTwigUptoSaid : Prop := fnExactWinningTwigUptoRow.holds Try.pinned (OpenSpec.upto fnExactWinningTwigSpec)

/-- 'laws.FnExactGrundyByFusion', WHERE WHAT IT READS IS OF BULK AT MOST 1048576: true; the input reads as it did. -/
def fnExactGrundyByFusionUptoRow : OpenClaim := { program := "ytoiobcdaomfepaa", sum := "f94bfb9857edc5706e1a315dcc8a4c70352220dd098035b5ab775e31cdde5d08", func := "loop.example/g01096/laws.FnExactGrundyByFusion", spec := "fnExactGrundyByFusion", unfollowed := true, recurses := true, apart := false, narrowed := true }
def FnExactGrundyByFusionUptoSaid : Prop := fnExactGrundyByFusionUptoRow.holds Try.pinned (OpenSpec.upto fnExactGrundyByFusionSpec)

/-- 'laws.FnExactGrundyOfTree', WHERE WHAT IT READS IS OF BULK AT MOST 1048576: true; the input reads as it did. -/
def fnExactGrundyOfTreeUptoRow : OpenClaim := { program := "ytoiobcdaomfepaa", sum := "f94bfb9857edc5706e1a315dcc8a4c70352220dd098035b5ab775e31cdde5d08", func := "loop.example/g01096/laws.FnExactGrundyOfTree", spec := "fnExactGrundyOfTree", unfollowed := true, recurses := true, apart := false, narrowed := true }
def FnExactGrundyOfTreeUptoSaid : Prop := fnExactGrundyOfTreeUptoRow.holds Try.pinned (OpenSpec.upto fnExactGrundyOfTreeSpec)

end Rows
end Go.Proofs.Ytoiobcdaomfepaa
