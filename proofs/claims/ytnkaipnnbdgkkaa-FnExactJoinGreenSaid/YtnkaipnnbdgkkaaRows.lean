/-
  No cell of these rows narrows 'for every input' (looked for: loops, veiled, ifaces, maps, wideKeys, modest, calm, conditions, laid).
  DERIVED. THE GIVEN ROWS OF THIS SEAT. 4 by the template 'for every input the law returns true; each argument reads behind the call as it read before'; 0 by the template 'total and deterministic' (their statements: YtnkaipnnbdgkkaaTotals.lean).
  GIVEN WITH THE SEED: the statements are not yours to turn. If you find one false, say at which input.
  Laid BY PROGRAM, IN A SANDBOX (cutbox-rows.mjs): the forced cells as the released guide's own fill.sh prints them over the translation aadc1d8668c382c3… (all of the seat's roots in one cut). By AI agents, Wed Nov 11 2026. No macro, syntax, notation, axiom, sorry.
-/
import Derived.Test.YtnkaipnnbdgkkaaChecked
import GoSem.Claim
import GoSem.ClaimJoined
import GoSem.ClaimMapViews
import Derived.JoinedTies
import Derived.KernelRfl
namespace Go.Proofs.Ytnkaipnnbdgkkaa
/- THE CELL 'sum', in the pinned program and in every row, IS THE sha256 OF THE DUMP (.gsa) THAT YtnkaipnnbdgkkaaProg.lean LOADS. Nothing in Lean hashes anything: it is a label: what it is worth is what the hold of that sum in a sandbox is worth. -/
noncomputable def Try.pinned : Pinned := { name := "ytnkaipnnbdgkkaa", sum := "aadc1d8668c382c377ead952807ab67a166bf51f7a9d2317cb360b7b37d681e5", checked := Try.checked }
namespace Rows
def none {H : Type} : Left H := { results := [], args := [] }

/-- 'laws.FnExactJoinGreen': WHATEVER THE INPUT: true; the input reads as it did. -/
def fnExactJoinGreenSpec : ChangeSpec := { name := "fnExactJoinGreen", fn := fun _ => fun
  | [d1, d2] => { results := [.lit (.bool true)], args := [d1, d2] }
  | _ => none }
def fnExactJoinGreenRow : OpenClaim := { program := "ytnkaipnnbdgkkaa", sum := "aadc1d8668c382c377ead952807ab67a166bf51f7a9d2317cb360b7b37d681e5", func := "loop.example/g01096/laws.FnExactJoinGreen", spec := "fnExactJoinGreen", unfollowed := true, recurses := true, apart := false }
def FnExactJoinGreenSaid : Prop := fnExactJoinGreenRow.holds Try.pinned (OpenSpec.ofChange fnExactJoinGreenSpec)

/-- ITS FALSE NEIGHBOUR: 'it returns false'. Refute it at one input. -/
def fnExactJoinGreenWrong : ChangeSpec := { name := "fnExactJoinGreen", fn := fun _ => fun
  | [d1, d2] => { results := [.lit (.bool false)], args := [d1, d2] }
  | _ => none }
def FnExactJoinGreenWrongFalsely : Prop := fnExactJoinGreenRow.holds Try.pinned (OpenSpec.ofChange fnExactJoinGreenWrong)

/-- 'laws.FnExactGrundyByPlay': WHATEVER THE INPUT: true; the input reads as it did. -/
def fnExactGrundyByPlaySpec : ChangeSpec := { name := "fnExactGrundyByPlay", fn := fun _ => fun
  | [d] => { results := [.lit (.bool true)], args := [d] }
  | _ => none }
def fnExactGrundyByPlayRow : OpenClaim := { program := "ytnkaipnnbdgkkaa", sum := "aadc1d8668c382c377ead952807ab67a166bf51f7a9d2317cb360b7b37d681e5", func := "loop.example/g01096/laws.FnExactGrundyByPlay", spec := "fnExactGrundyByPlay", unfollowed := true, recurses := true, apart := false }
def FnExactGrundyByPlaySaid : Prop := fnExactGrundyByPlayRow.holds Try.pinned (OpenSpec.ofChange fnExactGrundyByPlaySpec)

/-- ITS FALSE NEIGHBOUR: 'it returns false'. Refute it at one input. -/
def fnExactGrundyByPlayWrong : ChangeSpec := { name := "fnExactGrundyByPlay", fn := fun _ => fun
  | [d] => { results := [.lit (.bool false)], args := [d] }
  | _ => none }
def FnExactGrundyByPlayWrongFalsely : Prop := fnExactGrundyByPlayRow.holds Try.pinned (OpenSpec.ofChange fnExactGrundyByPlayWrong)

/-- 'laws.FnExactWinningTwig': WHATEVER THE INPUT: true; the input reads as it did. -/
def fnExactWinningTwigSpec : ChangeSpec := { name := "fnExactWinningTwig", fn := fun _ => fun
  | [d] => { results := [.lit (.bool true)], args := [d] }
  | _ => none }
def fnExactWinningTwigRow : OpenClaim := { program := "ytnkaipnnbdgkkaa", sum := "aadc1d8668c382c377ead952807ab67a166bf51f7a9d2317cb360b7b37d681e5", func := "loop.example/g01096/laws.FnExactWinningTwig", spec := "fnExactWinningTwig", unfollowed := true, recurses := true, apart := false }
def FnExactWinningTwigSaid : Prop := fnExactWinningTwigRow.holds Try.pinned (OpenSpec.ofChange fnExactWinningTwigSpec)

/-- ITS FALSE NEIGHBOUR: 'it returns false'. Refute it at one input. -/
def fnExactWinningTwigWrong : ChangeSpec := { name := "fnExactWinningTwig", fn := fun _ => fun
  | [d] => { results := [.lit (.bool false)], args := [d] }
  | _ => none }
def FnExactWinningTwigWrongFalsely : Prop := fnExactWinningTwigRow.holds Try.pinned (OpenSpec.ofChange fnExactWinningTwigWrong)

/-- 'laws.FnExactGrundyOfTree': WHATEVER THE INPUT: true; the input reads as it did. -/
def fnExactGrundyOfTreeSpec : ChangeSpec := { name := "fnExactGrundyOfTree", fn := fun _ => fun
  | [d] => { results := [.lit (.bool true)], args := [d] }
  | _ => none }
def fnExactGrundyOfTreeRow : OpenClaim := { program := "ytnkaipnnbdgkkaa", sum := "aadc1d8668c382c377ead952807ab67a166bf51f7a9d2317cb360b7b37d681e5", func := "loop.example/g01096/laws.FnExactGrundyOfTree", spec := "fnExactGrundyOfTree", unfollowed := true, recurses := true, apart := false }
def FnExactGrundyOfTreeSaid : Prop := fnExactGrundyOfTreeRow.holds Try.pinned (OpenSpec.ofChange fnExactGrundyOfTreeSpec)

/-- ITS FALSE NEIGHBOUR: 'it returns false'. Refute it at one input. -/
def fnExactGrundyOfTreeWrong : ChangeSpec := { name := "fnExactGrundyOfTree", fn := fun _ => fun
  | [d] => { results := [.lit (.bool false)], args := [d] }
  | _ => none }
def FnExactGrundyOfTreeWrongFalsely : Prop := fnExactGrundyOfTreeRow.holds Try.pinned (OpenSpec.ofChange fnExactGrundyOfTreeWrong)

/- THE SECOND FORM. 'bulk': how many values and letters a reading holds, each counted each time it is reached (what is shared counts as often as it is met; a slice's spare places count too). A statement '..UptoSaid' is the law's where the arguments, and the package variables that the reading takes, are together of bulk at most 1048576: NARROWER than '..Said'. Prove '..Said' where nothing that the law and all that it calls make is longer than what came in: it says more and counts as full. Else prove '..UptoSaid'. A law counts once. -/
mutual
def uptoBulk {H : Type} : DataW H → Nat
  | .lit (.string bytes) => bytes.length + 1
  | .lit _ => 1
  | .nil => 1
  | .ptr d => uptoBulk d + 1
  | .slice elems spare => uptoBulkAll elems + uptoBulkAll spare + 1
  | .agg parts => uptoBulkAll parts + 1
  | .iface _ d => uptoBulk d + 1
  | .map entries => uptoBulkEntries entries + 1
  | .held _ => 1
def uptoBulkAll {H : Type} : List (DataW H) → Nat
  | [] => 0
  | d :: r => uptoBulk d + uptoBulkAll r
def uptoBulkEntries {H : Type} : List (Lit × DataW H) → Nat
  | [] => 0
  | x :: r => uptoBulkEntry x + uptoBulkEntries r
def uptoBulkEntry {H : Type} : Lit × DataW H → Nat
  | (.string bytes, d) => bytes.length + uptoBulk d + 1
  | (_, d) => uptoBulk d + 1
 end
def uptoSmall : (H : Type) → List (DataW H) → Bool := fun _ ds => decide (uptoBulkAll ds ≤ 1048576)
def OpenSpec.upto (s : _root_.Go.ChangeSpec) : _root_.Go.OpenSpec := { _root_.Go.OpenSpec.ofChange s with cond := some uptoSmall }

/-- 'laws.FnExactJoinGreen', WHERE WHAT IT READS IS OF BULK AT MOST 1048576: true; the input reads as it did. -/
def fnExactJoinGreenUptoRow : OpenClaim := { program := "ytnkaipnnbdgkkaa", sum := "aadc1d8668c382c377ead952807ab67a166bf51f7a9d2317cb360b7b37d681e5", func := "loop.example/g01096/laws.FnExactJoinGreen", spec := "fnExactJoinGreen", unfollowed := true, recurses := true, apart := false, narrowed := true }
def FnExactJoinGreenUptoSaid : Prop := fnExactJoinGreenUptoRow.holds Try.pinned (OpenSpec.upto fnExactJoinGreenSpec)

/-- 'laws.FnExactGrundyByPlay', WHERE WHAT IT READS IS OF BULK AT MOST 1048576: true; the input reads as it did. -/
def fnExactGrundyByPlayUptoRow : OpenClaim := { program := "ytnkaipnnbdgkkaa", sum := "aadc1d8668c382c377ead952807ab67a166bf51f7a9d2317cb360b7b37d681e5", func := "loop.example/g01096/laws.FnExactGrundyByPlay", spec := "fnExactGrundyByPlay", unfollowed := true, recurses := true, apart := false, narrowed := true }
def FnExactGrundyByPlayUptoSaid : Prop := fnExactGrundyByPlayUptoRow.holds Try.pinned (OpenSpec.upto fnExactGrundyByPlaySpec)

/-- 'laws.FnExactWinningTwig', WHERE WHAT IT READS IS OF BULK AT MOST 1048576: true; the input reads as it did. -/
def fnExactWinningTwigUptoRow : OpenClaim := { program := "ytnkaipnnbdgkkaa", sum := "aadc1d8668c382c377ead952807ab67a166bf51f7a9d2317cb360b7b37d681e5", func := "loop.example/g01096/laws.FnExactWinningTwig", spec := "fnExactWinningTwig", unfollowed := true, recurses := true, apart := false, narrowed := true }
def FnExactWinningTwigUptoSaid : Prop := fnExactWinningTwigUptoRow.holds Try.pinned (OpenSpec.upto fnExactWinningTwigSpec)

/-- 'laws.FnExactGrundyOfTree', WHERE WHAT IT READS IS OF BULK AT MOST 1048576: true; the input reads as it did. -/
def fnExactGrundyOfTreeUptoRow : OpenClaim := { program := "ytnkaipnnbdgkkaa", sum := "aadc1d8668c382c377ead952807ab67a166bf51f7a9d2317cb360b7b37d681e5", func := "loop.example/g01096/laws.FnExactGrundyOfTree", spec := "fnExactGrundyOfTree", unfollowed := true, recurses := true, apart := false, narrowed := true }
def FnExactGrundyOfTreeUptoSaid : Prop := fnExactGrundyOfTreeUptoRow.holds Try.pinned (OpenSpec.upto fnExactGrundyOfTreeSpec)

end Rows
end Go.Proofs.Ytnkaipnnbdgkkaa
