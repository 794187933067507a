/-
  No cell of these rows narrows 'for every input' (looked for: loops, veiled, ifaces, maps, wideKeys, modest, calm, conditions, laid).
  DERIVED. THE GIVEN ROWS OF THIS SEAT. 8 by the template 'for every input the law returns true; each argument reads behind the call as it read before'; 0 by the template 'total and deterministic' (their statements: YtlbbfobbflcnfaaTotals.lean).
  GIVEN WITH THE SEED: the statements are not yours to turn. If you find one false, say at which input.
  Laid BY PROGRAM, IN A SANDBOX (cutbox-rows.mjs): the forced cells as the released guide's own fill.sh prints them over the translation f67c7a8d2cd3bbc1… (all of the seat's roots in one cut). By AI agents, Wed Nov 11 2026. No macro, syntax, notation, axiom, sorry.
-/
import Derived.Test.YtlbbfobbflcnfaaChecked
import GoSem.Claim
import GoSem.ClaimJoined
import GoSem.ClaimMapViews
import Derived.JoinedTies
import Derived.KernelRfl
namespace Go.Proofs.Ytlbbfobbflcnfaa
/- THE CELL 'sum', in the pinned program and in every row, IS THE sha256 OF THE DUMP (.gsa) THAT YtlbbfobbflcnfaaProg.lean LOADS. Nothing in Lean hashes anything: it is a label: what it is worth is what the hold of that sum in a sandbox is worth. -/
noncomputable def Try.pinned : Pinned := { name := "ytlbbfobbflcnfaa", sum := "f67c7a8d2cd3bbc18a1da2285b13d6ddb97a9c9954d46448e92a972d0735e232", checked := Try.checked }
namespace Rows
def none {H : Type} : Left H := { results := [], args := [] }

/-- 'laws.FnExactIsPicture': WHATEVER THE INPUT: true; the input reads as it did. -/
def fnExactIsPictureSpec : ChangeSpec := { name := "fnExactIsPicture", fn := fun _ => fun
  | [d] => { results := [.lit (.bool true)], args := [d] }
  | _ => none }
def fnExactIsPictureRow : OpenClaim := { program := "ytlbbfobbflcnfaa", sum := "f67c7a8d2cd3bbc18a1da2285b13d6ddb97a9c9954d46448e92a972d0735e232", func := "loop.example/g01096/laws.FnExactIsPicture", spec := "fnExactIsPicture", unfollowed := true, recurses := true, apart := false }
def FnExactIsPictureSaid : Prop := fnExactIsPictureRow.holds Try.pinned (OpenSpec.ofChange fnExactIsPictureSpec)

/-- ITS FALSE NEIGHBOUR: 'it returns false'. Refute it at one input. -/
def fnExactIsPictureWrong : ChangeSpec := { name := "fnExactIsPicture", fn := fun _ => fun
  | [d] => { results := [.lit (.bool false)], args := [d] }
  | _ => none }
def FnExactIsPictureWrongFalsely : Prop := fnExactIsPictureRow.holds Try.pinned (OpenSpec.ofChange fnExactIsPictureWrong)

/-- 'laws.FnExactIsTree': WHATEVER THE INPUT: true; the input reads as it did. -/
def fnExactIsTreeSpec : ChangeSpec := { name := "fnExactIsTree", fn := fun _ => fun
  | [d] => { results := [.lit (.bool true)], args := [d] }
  | _ => none }
def fnExactIsTreeRow : OpenClaim := { program := "ytlbbfobbflcnfaa", sum := "f67c7a8d2cd3bbc18a1da2285b13d6ddb97a9c9954d46448e92a972d0735e232", func := "loop.example/g01096/laws.FnExactIsTree", spec := "fnExactIsTree", unfollowed := true, recurses := true, apart := false }
def FnExactIsTreeSaid : Prop := fnExactIsTreeRow.holds Try.pinned (OpenSpec.ofChange fnExactIsTreeSpec)

/-- ITS FALSE NEIGHBOUR: 'it returns false'. Refute it at one input. -/
def fnExactIsTreeWrong : ChangeSpec := { name := "fnExactIsTree", fn := fun _ => fun
  | [d] => { results := [.lit (.bool false)], args := [d] }
  | _ => none }
def FnExactIsTreeWrongFalsely : Prop := fnExactIsTreeRow.holds Try.pinned (OpenSpec.ofChange fnExactIsTreeWrong)

/-- 'laws.FnExactMirrorPicture': WHATEVER THE INPUT: true; the input reads as it did. -/
def fnExactMirrorPictureSpec : ChangeSpec := { name := "fnExactMirrorPicture", fn := fun _ => fun
  | [d] => { results := [.lit (.bool true)], args := [d] }
  | _ => none }
def fnExactMirrorPictureRow : OpenClaim := { program := "ytlbbfobbflcnfaa", sum := "f67c7a8d2cd3bbc18a1da2285b13d6ddb97a9c9954d46448e92a972d0735e232", func := "loop.example/g01096/laws.FnExactMirrorPicture", spec := "fnExactMirrorPicture", unfollowed := true, recurses := true, apart := false }
def FnExactMirrorPictureSaid : Prop := fnExactMirrorPictureRow.holds Try.pinned (OpenSpec.ofChange fnExactMirrorPictureSpec)

/-- ITS FALSE NEIGHBOUR: 'it returns false'. Refute it at one input. -/
def fnExactMirrorPictureWrong : ChangeSpec := { name := "fnExactMirrorPicture", fn := fun _ => fun
  | [d] => { results := [.lit (.bool false)], args := [d] }
  | _ => none }
def FnExactMirrorPictureWrongFalsely : Prop := fnExactMirrorPictureRow.holds Try.pinned (OpenSpec.ofChange fnExactMirrorPictureWrong)

/-- 'laws.FnExactMovesIn': WHATEVER THE INPUT: true; the input reads as it did. -/
def fnExactMovesInSpec : ChangeSpec := { name := "fnExactMovesIn", fn := fun _ => fun
  | [d1, d2] => { results := [.lit (.bool true)], args := [d1, d2] }
  | _ => none }
def fnExactMovesInRow : OpenClaim := { program := "ytlbbfobbflcnfaa", sum := "f67c7a8d2cd3bbc18a1da2285b13d6ddb97a9c9954d46448e92a972d0735e232", func := "loop.example/g01096/laws.FnExactMovesIn", spec := "fnExactMovesIn", unfollowed := true, recurses := true, apart := false }
def FnExactMovesInSaid : Prop := fnExactMovesInRow.holds Try.pinned (OpenSpec.ofChange fnExactMovesInSpec)

/-- ITS FALSE NEIGHBOUR: 'it returns false'. Refute it at one input. -/
def fnExactMovesInWrong : ChangeSpec := { name := "fnExactMovesIn", fn := fun _ => fun
  | [d1, d2] => { results := [.lit (.bool false)], args := [d1, d2] }
  | _ => none }
def FnExactMovesInWrongFalsely : Prop := fnExactMovesInRow.holds Try.pinned (OpenSpec.ofChange fnExactMovesInWrong)

/-- 'laws.FnExactCutEdge': WHATEVER THE INPUT: true; the input reads as it did. -/
def fnExactCutEdgeSpec : ChangeSpec := { name := "fnExactCutEdge", fn := fun _ => fun
  | [d1, d2] => { results := [.lit (.bool true)], args := [d1, d2] }
  | _ => none }
def fnExactCutEdgeRow : OpenClaim := { program := "ytlbbfobbflcnfaa", sum := "f67c7a8d2cd3bbc18a1da2285b13d6ddb97a9c9954d46448e92a972d0735e232", func := "loop.example/g01096/laws.FnExactCutEdge", spec := "fnExactCutEdge", unfollowed := true, recurses := true, apart := false }
def FnExactCutEdgeSaid : Prop := fnExactCutEdgeRow.holds Try.pinned (OpenSpec.ofChange fnExactCutEdgeSpec)

/-- ITS FALSE NEIGHBOUR: 'it returns false'. Refute it at one input. -/
def fnExactCutEdgeWrong : ChangeSpec := { name := "fnExactCutEdge", fn := fun _ => fun
  | [d1, d2] => { results := [.lit (.bool false)], args := [d1, d2] }
  | _ => none }
def FnExactCutEdgeWrongFalsely : Prop := fnExactCutEdgeRow.holds Try.pinned (OpenSpec.ofChange fnExactCutEdgeWrong)

/-- 'laws.FnExactStalkWord': WHATEVER THE INPUT: true; the input reads as it did. -/
def fnExactStalkWordSpec : ChangeSpec := { name := "fnExactStalkWord", fn := fun _ => fun
  | [d] => { results := [.lit (.bool true)], args := [d] }
  | _ => none }
def fnExactStalkWordRow : OpenClaim := { program := "ytlbbfobbflcnfaa", sum := "f67c7a8d2cd3bbc18a1da2285b13d6ddb97a9c9954d46448e92a972d0735e232", func := "loop.example/g01096/laws.FnExactStalkWord", spec := "fnExactStalkWord", unfollowed := true, recurses := true, apart := false }
def FnExactStalkWordSaid : Prop := fnExactStalkWordRow.holds Try.pinned (OpenSpec.ofChange fnExactStalkWordSpec)

/-- ITS FALSE NEIGHBOUR: 'it returns false'. Refute it at one input. -/
def fnExactStalkWordWrong : ChangeSpec := { name := "fnExactStalkWord", fn := fun _ => fun
  | [d] => { results := [.lit (.bool false)], args := [d] }
  | _ => none }
def FnExactStalkWordWrongFalsely : Prop := fnExactStalkWordRow.holds Try.pinned (OpenSpec.ofChange fnExactStalkWordWrong)

/-- 'laws.FnExactGrowOn': WHATEVER THE INPUT: true; the input reads as it did. -/
def fnExactGrowOnSpec : ChangeSpec := { name := "fnExactGrowOn", fn := fun _ => fun
  | [d1, d2, d3] => { results := [.lit (.bool true)], args := [d1, d2, d3] }
  | _ => none }
def fnExactGrowOnRow : OpenClaim := { program := "ytlbbfobbflcnfaa", sum := "f67c7a8d2cd3bbc18a1da2285b13d6ddb97a9c9954d46448e92a972d0735e232", func := "loop.example/g01096/laws.FnExactGrowOn", spec := "fnExactGrowOn", unfollowed := true, recurses := true, apart := false }
def FnExactGrowOnSaid : Prop := fnExactGrowOnRow.holds Try.pinned (OpenSpec.ofChange fnExactGrowOnSpec)

/-- ITS FALSE NEIGHBOUR: 'it returns false'. Refute it at one input. -/
def fnExactGrowOnWrong : ChangeSpec := { name := "fnExactGrowOn", fn := fun _ => fun
  | [d1, d2, d3] => { results := [.lit (.bool false)], args := [d1, d2, d3] }
  | _ => none }
def FnExactGrowOnWrongFalsely : Prop := fnExactGrowOnRow.holds Try.pinned (OpenSpec.ofChange fnExactGrowOnWrong)

/-- 'laws.FnExactSumOfPictures': WHATEVER THE INPUT: true; the input reads as it did. -/
def fnExactSumOfPicturesSpec : ChangeSpec := { name := "fnExactSumOfPictures", fn := fun _ => fun
  | [d1, d2] => { results := [.lit (.bool true)], args := [d1, d2] }
  | _ => none }
def fnExactSumOfPicturesRow : OpenClaim := { program := "ytlbbfobbflcnfaa", sum := "f67c7a8d2cd3bbc18a1da2285b13d6ddb97a9c9954d46448e92a972d0735e232", func := "loop.example/g01096/laws.FnExactSumOfPictures", spec := "fnExactSumOfPictures", unfollowed := true, recurses := true, apart := false }
def FnExactSumOfPicturesSaid : Prop := fnExactSumOfPicturesRow.holds Try.pinned (OpenSpec.ofChange fnExactSumOfPicturesSpec)

/-- ITS FALSE NEIGHBOUR: 'it returns false'. Refute it at one input. -/
def fnExactSumOfPicturesWrong : ChangeSpec := { name := "fnExactSumOfPictures", fn := fun _ => fun
  | [d1, d2] => { results := [.lit (.bool false)], args := [d1, d2] }
  | _ => none }
def FnExactSumOfPicturesWrongFalsely : Prop := fnExactSumOfPicturesRow.holds Try.pinned (OpenSpec.ofChange fnExactSumOfPicturesWrong)

/- THE SECOND FORM. 'bulk': how many values and letters a reading holds, each counted each time it is reached (what is shared counts as often as it is met; a slice's spare places count too). A statement '..UptoSaid' is the law's where the arguments, and the package variables that the reading takes, are together of bulk at most 1048576: NARROWER than '..Said'. Prove '..Said' where nothing that the law and all that it calls make is longer than what came in: it says more and counts as full. Else prove '..UptoSaid'. A law counts once. -/
mutual
def uptoBulk {H : Type} : DataW H → Nat
  | .lit (.string bytes) => bytes.length + 1
  | .lit _ => 1
  | .nil => 1
  | .ptr d => uptoBulk d + 1
  | .slice elems spare => uptoBulkAll elems + uptoBulkAll spare + 1
  | .agg parts => uptoBulkAll parts + 1
  | .iface _ d => uptoBulk d + 1
  | .map entries => uptoBulkEntries entries + 1
  | .held _ => 1
def uptoBulkAll {H : Type} : List (DataW H) → Nat
  | [] => 0
  | d :: r => uptoBulk d + uptoBulkAll r
def uptoBulkEntries {H : Type} : List (Lit × DataW H) → Nat
  | [] => 0
  | x :: r => uptoBulkEntry x + uptoBulkEntries r
def uptoBulkEntry {H : Type} : Lit × DataW H → Nat
  | (.string bytes, d) => bytes.length + uptoBulk d + 1
  | (_, d) => uptoBulk d + 1
 end
def uptoSmall : (H : Type) → List (DataW H) → Bool := fun _ ds => decide (uptoBulkAll ds ≤ 1048576)
def OpenSpec.upto (s : _root_.Go.ChangeSpec) : _root_.Go.OpenSpec := { _root_.Go.OpenSpec.ofChange s with cond := some uptoSmall }

/-- 'laws.FnExactIsPicture', WHERE WHAT IT READS IS OF BULK AT MOST 1048576: true; the input reads as it did. -/
def fnExactIsPictureUptoRow : OpenClaim := { program := "ytlbbfobbflcnfaa", sum := "f67c7a8d2cd3bbc18a1da2285b13d6ddb97a9c9954d46448e92a972d0735e232", func := "loop.example/g01096/laws.FnExactIsPicture", spec := "fnExactIsPicture", unfollowed := true, recurses := true, apart := false, narrowed := true }
def FnExactIsPictureUptoSaid : Prop := fnExactIsPictureUptoRow.holds Try.pinned (OpenSpec.upto fnExactIsPictureSpec)

/-- 'laws.FnExactIsTree', WHERE WHAT IT READS IS OF BULK AT MOST 1048576: true; the input reads as it did. -/
def fnExactIsTreeUptoRow : OpenClaim := { program := "ytlbbfobbflcnfaa", sum := "f67c7a8d2cd3bbc18a1da2285b13d6ddb97a9c9954d46448e92a972d0735e232", func := "loop.example/g01096/laws.FnExactIsTree", spec := "fnExactIsTree", unfollowed := true, recurses := true, apart := false, narrowed := true }
def FnExactIsTreeUptoSaid : Prop := fnExactIsTreeUptoRow.holds Try.pinned (OpenSpec.upto fnExactIsTreeSpec)

/-- 'laws.FnExactMirrorPicture', WHERE WHAT IT READS IS OF BULK AT MOST 1048576: true; the input reads as it did. -/
def fnExactMirrorPictureUptoRow : OpenClaim := { program := "ytlbbfobbflcnfaa", sum := "f67c7a8d2cd3bbc18a1da2285b13d6ddb97a9c9954d46448e92a972d0735e232", func := "loop.example/g01096/laws.FnExactMirrorPicture", spec := "fnExactMirrorPicture", unfollowed := true, recurses := true, apart := false, narrowed := true }
def FnExactMirrorPictureUptoSaid : Prop := fnExactMirrorPictureUptoRow.holds Try.pinned (OpenSpec.upto fnExactMirrorPictureSpec)

/-- 'laws.FnExactMovesIn', WHERE WHAT IT READS IS OF BULK AT MOST 1048576: true; the input reads as it did. -/
def fnExactMovesInUptoRow : OpenClaim := { program := "ytlbbfobbflcnfaa", sum := "f67c7a8d2cd3bbc18a1da2285b13d6ddb97a9c9954d46448e92a972d0735e232", func := "loop.example/g01096/laws.FnExactMovesIn", spec := "fnExactMovesIn", unfollowed := true, recurses := true, apart := false, narrowed := true }
def FnExactMovesInUptoSaid : Prop := fnExactMovesInUptoRow.holds Try.pinned (OpenSpec.upto fnExactMovesInSpec)

/-- 'laws.FnExactCutEdge', WHERE WHAT IT READS IS OF BULK AT MOST 1048576: true; the input reads as it did. -/
def fnExactCutEdgeUptoRow : OpenClaim := { program := "ytlbbfobbflcnfaa", sum := "f67c7a8d2cd3bbc18a1da2285b13d6ddb97a9c9954d46448e92a972d0735e232", func := "loop.example/g01096/laws.FnExactCutEdge", spec := "fnExactCutEdge", unfollowed := true, recurses := true, apart := false, narrowed := true }
def FnExactCutEdgeUptoSaid : Prop := fnExactCutEdgeUptoRow.holds Try.pinned (OpenSpec.upto fnExactCutEdgeSpec)

/-- 'laws.FnExactStalkWord', WHERE WHAT IT READS IS OF BULK AT MOST 1048576: true; the input reads as it did. -/
def fnExactStalkWordUptoRow : OpenClaim := { program := "ytlbbfobbflcnfaa", sum := "f67c7a8d2cd3bbc18a1da2285b13d6ddb97a9c9954d46448e92a972d0735e232", func := "loop.example/g01096/laws.FnExactStalkWord", spec := "fnExactStalkWord", unfollowed := true, recurses := true, apart := false, narrowed := true }
def FnExactStalkWordUptoSaid : Prop := fnExactStalkWordUptoRow.holds Try.pinned (OpenSpec.upto fnExactStalkWordSpec)

/-- 'laws.FnExactGrowOn', WHERE WHAT IT READS IS OF BULK AT MOST 1048576: true; the input reads as it did. -/
def fnExactGrowOnUptoRow : OpenClaim := { program := "ytlbbfobbflcnfaa", sum := "f67c7a8d2cd3bbc18a1da2285b13d6ddb97a9c9954d46448e92a972d0735e232", func := "loop.example/g01096/laws.FnExactGrowOn", spec := "fnExactGrowOn", unfollowed := true, recurses := true, apart := false, narrowed := true }
def FnExactGrowOnUptoSaid : Prop := fnExactGrowOnUptoRow.holds Try.pinned (OpenSpec.upto fnExactGrowOnSpec)

/-- 'laws.FnExactSumOfPictures', WHERE WHAT IT READS IS OF BULK AT MOST 1048576: true; the input reads as it did. -/
def fnExactSumOfPicturesUptoRow : OpenClaim := { program := "ytlbbfobbflcnfaa", sum := "f67c7a8d2cd3bbc18a1da2285b13d6ddb97a9c9954d46448e92a972d0735e232", func := "loop.example/g01096/laws.FnExactSumOfPictures", spec := "fnExactSumOfPictures", unfollowed := true, recurses := true, apart := false, narrowed := true }
def FnExactSumOfPicturesUptoSaid : Prop := fnExactSumOfPicturesUptoRow.holds Try.pinned (OpenSpec.upto fnExactSumOfPicturesSpec)

end Rows
end Go.Proofs.Ytlbbfobbflcnfaa
