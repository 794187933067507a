/-
  No cell of these rows narrows 'for every input' (looked for: loops, veiled, ifaces, maps, wideKeys, modest, calm, conditions, laid).
  DERIVED. THE GIVEN ROWS OF THIS SEAT. 8 by the template 'for every input the law returns true; each argument reads behind the call as it read before'; 0 by the template 'total and deterministic' (their statements: YtpiafobcmhfclaaTotals.lean).
  GIVEN WITH THE SEED: the statements are not yours to turn. If you find one false, say at which input.
  Laid BY PROGRAM, IN A SANDBOX (cutbox-rows.mjs): the forced cells as the released guide's own fill.sh prints them over the translation 49ba007035fcdae2… (all of the seat's roots in one cut). By AI agents, Wed Nov 11 2026. No macro, syntax, notation, axiom, sorry.
-/
import Derived.Test.YtpiafobcmhfclaaChecked
import GoSem.Claim
import GoSem.ClaimJoined
import GoSem.ClaimMapViews
import Derived.JoinedTies
import Derived.KernelRfl
namespace Go.Proofs.Ytpiafobcmhfclaa
/- THE CELL 'sum', in the pinned program and in every row, IS THE sha256 OF THE DUMP (.gsa) THAT YtpiafobcmhfclaaProg.lean LOADS. Nothing in Lean hashes anything: it is a label: what it is worth is what the hold of that sum in a sandbox is worth. -/
noncomputable def Try.pinned : Pinned := { name := "ytpiafobcmhfclaa", sum := "49ba007035fcdae271d8c187349dd13003a1c8e2ceb4148569d0c85cdfda70b9", checked := Try.checked }
namespace Rows
def none {H : Type} : Left H := { results := [], args := [] }

/-- 'laws.FnExactGameOfNimber': WHATEVER THE INPUT: true; the input reads as it did. -/
def fnExactGameOfNimberSpec : ChangeSpec := { name := "fnExactGameOfNimber", fn := fun _ => fun
  | [d] => { results := [.lit (.bool true)], args := [d] }
  | _ => none }
def fnExactGameOfNimberRow : OpenClaim := { program := "ytpiafobcmhfclaa", sum := "49ba007035fcdae271d8c187349dd13003a1c8e2ceb4148569d0c85cdfda70b9", func := "loop.example/g01096/laws.FnExactGameOfNimber", spec := "fnExactGameOfNimber", plainKeys := false, apart := false }
def FnExactGameOfNimberSaid : Prop := fnExactGameOfNimberRow.holds Try.pinned (OpenSpec.ofChange fnExactGameOfNimberSpec)

/-- ITS FALSE NEIGHBOUR: 'it returns false'. Refute it at one input. -/
def fnExactGameOfNimberWrong : ChangeSpec := { name := "fnExactGameOfNimber", fn := fun _ => fun
  | [d] => { results := [.lit (.bool false)], args := [d] }
  | _ => none }
def FnExactGameOfNimberWrongFalsely : Prop := fnExactGameOfNimberRow.holds Try.pinned (OpenSpec.ofChange fnExactGameOfNimberWrong)

/-- 'laws.FnExactBirthOf': WHATEVER THE INPUT: true; the input reads as it did. -/
def fnExactBirthOfSpec : ChangeSpec := { name := "fnExactBirthOf", fn := fun _ => fun
  | [d1, d2] => { results := [.lit (.bool true)], args := [d1, d2] }
  | _ => none }
def fnExactBirthOfRow : OpenClaim := { program := "ytpiafobcmhfclaa", sum := "49ba007035fcdae271d8c187349dd13003a1c8e2ceb4148569d0c85cdfda70b9", func := "loop.example/g01096/laws.FnExactBirthOf", spec := "fnExactBirthOf", plainKeys := false, apart := false }
def FnExactBirthOfSaid : Prop := fnExactBirthOfRow.holds Try.pinned (OpenSpec.ofChange fnExactBirthOfSpec)

/-- ITS FALSE NEIGHBOUR: 'it returns false'. Refute it at one input. -/
def fnExactBirthOfWrong : ChangeSpec := { name := "fnExactBirthOf", fn := fun _ => fun
  | [d1, d2] => { results := [.lit (.bool false)], args := [d1, d2] }
  | _ => none }
def FnExactBirthOfWrongFalsely : Prop := fnExactBirthOfRow.holds Try.pinned (OpenSpec.ofChange fnExactBirthOfWrong)

/-- 'laws.FnExactNegateGame': WHATEVER THE INPUT: true; the input reads as it did. -/
def fnExactNegateGameSpec : ChangeSpec := { name := "fnExactNegateGame", fn := fun _ => fun
  | [d] => { results := [.lit (.bool true)], args := [d] }
  | _ => none }
def fnExactNegateGameRow : OpenClaim := { program := "ytpiafobcmhfclaa", sum := "49ba007035fcdae271d8c187349dd13003a1c8e2ceb4148569d0c85cdfda70b9", func := "loop.example/g01096/laws.FnExactNegateGame", spec := "fnExactNegateGame", plainKeys := false, apart := false }
def FnExactNegateGameSaid : Prop := fnExactNegateGameRow.holds Try.pinned (OpenSpec.ofChange fnExactNegateGameSpec)

/-- ITS FALSE NEIGHBOUR: 'it returns false'. Refute it at one input. -/
def fnExactNegateGameWrong : ChangeSpec := { name := "fnExactNegateGame", fn := fun _ => fun
  | [d] => { results := [.lit (.bool false)], args := [d] }
  | _ => none }
def FnExactNegateGameWrongFalsely : Prop := fnExactNegateGameRow.holds Try.pinned (OpenSpec.ofChange fnExactNegateGameWrong)

/-- 'laws.FnExactTrimGame': WHATEVER THE INPUT: true; the input reads as it did. -/
def fnExactTrimGameSpec : ChangeSpec := { name := "fnExactTrimGame", fn := fun _ => fun
  | [d] => { results := [.lit (.bool true)], args := [d] }
  | _ => none }
def fnExactTrimGameRow : OpenClaim := { program := "ytpiafobcmhfclaa", sum := "49ba007035fcdae271d8c187349dd13003a1c8e2ceb4148569d0c85cdfda70b9", func := "loop.example/g01096/laws.FnExactTrimGame", spec := "fnExactTrimGame", unfollowed := true, recurses := true, plainKeys := false, apart := false }
def FnExactTrimGameSaid : Prop := fnExactTrimGameRow.holds Try.pinned (OpenSpec.ofChange fnExactTrimGameSpec)

/-- ITS FALSE NEIGHBOUR: 'it returns false'. Refute it at one input. -/
def fnExactTrimGameWrong : ChangeSpec := { name := "fnExactTrimGame", fn := fun _ => fun
  | [d] => { results := [.lit (.bool false)], args := [d] }
  | _ => none }
def FnExactTrimGameWrongFalsely : Prop := fnExactTrimGameRow.holds Try.pinned (OpenSpec.ofChange fnExactTrimGameWrong)

/-- 'laws.FnExactReversibleOf': WHATEVER THE INPUT: true; the input reads as it did. -/
def fnExactReversibleOfSpec : ChangeSpec := { name := "fnExactReversibleOf", fn := fun _ => fun
  | [d1, d2] => { results := [.lit (.bool true)], args := [d1, d2] }
  | _ => none }
def fnExactReversibleOfRow : OpenClaim := { program := "ytpiafobcmhfclaa", sum := "49ba007035fcdae271d8c187349dd13003a1c8e2ceb4148569d0c85cdfda70b9", func := "loop.example/g01096/laws.FnExactReversibleOf", spec := "fnExactReversibleOf", recurses := true, plainKeys := false, apart := false }
def FnExactReversibleOfSaid : Prop := fnExactReversibleOfRow.holds Try.pinned (OpenSpec.ofChange fnExactReversibleOfSpec)

/-- ITS FALSE NEIGHBOUR: 'it returns false'. Refute it at one input. -/
def fnExactReversibleOfWrong : ChangeSpec := { name := "fnExactReversibleOf", fn := fun _ => fun
  | [d1, d2] => { results := [.lit (.bool false)], args := [d1, d2] }
  | _ => none }
def FnExactReversibleOfWrongFalsely : Prop := fnExactReversibleOfRow.holds Try.pinned (OpenSpec.ofChange fnExactReversibleOfWrong)

/-- 'laws.FnExactDominatedOf': WHATEVER THE INPUT: true; the input reads as it did. -/
def fnExactDominatedOfSpec : ChangeSpec := { name := "fnExactDominatedOf", fn := fun _ => fun
  | [d1, d2] => { results := [.lit (.bool true)], args := [d1, d2] }
  | _ => none }
def fnExactDominatedOfRow : OpenClaim := { program := "ytpiafobcmhfclaa", sum := "49ba007035fcdae271d8c187349dd13003a1c8e2ceb4148569d0c85cdfda70b9", func := "loop.example/g01096/laws.FnExactDominatedOf", spec := "fnExactDominatedOf", unfollowed := true, recurses := true, plainKeys := false, apart := false }
def FnExactDominatedOfSaid : Prop := fnExactDominatedOfRow.holds Try.pinned (OpenSpec.ofChange fnExactDominatedOfSpec)

/-- ITS FALSE NEIGHBOUR: 'it returns false'. Refute it at one input. -/
def fnExactDominatedOfWrong : ChangeSpec := { name := "fnExactDominatedOf", fn := fun _ => fun
  | [d1, d2] => { results := [.lit (.bool false)], args := [d1, d2] }
  | _ => none }
def FnExactDominatedOfWrongFalsely : Prop := fnExactDominatedOfRow.holds Try.pinned (OpenSpec.ofChange fnExactDominatedOfWrong)

/-- 'laws.FnExactProveOrder': WHATEVER THE INPUT: true; the input reads as it did. -/
def fnExactProveOrderSpec : ChangeSpec := { name := "fnExactProveOrder", fn := fun _ => fun
  | [d1, d2, d3] => { results := [.lit (.bool true)], args := [d1, d2, d3] }
  | _ => none }
def fnExactProveOrderRow : OpenClaim := { program := "ytpiafobcmhfclaa", sum := "49ba007035fcdae271d8c187349dd13003a1c8e2ceb4148569d0c85cdfda70b9", func := "loop.example/g01096/laws.FnExactProveOrder", spec := "fnExactProveOrder", recurses := true, plainKeys := false, apart := false }
def FnExactProveOrderSaid : Prop := fnExactProveOrderRow.holds Try.pinned (OpenSpec.ofChange fnExactProveOrderSpec)

/-- ITS FALSE NEIGHBOUR: 'it returns false'. Refute it at one input. -/
def fnExactProveOrderWrong : ChangeSpec := { name := "fnExactProveOrder", fn := fun _ => fun
  | [d1, d2, d3] => { results := [.lit (.bool false)], args := [d1, d2, d3] }
  | _ => none }
def FnExactProveOrderWrongFalsely : Prop := fnExactProveOrderRow.holds Try.pinned (OpenSpec.ofChange fnExactProveOrderWrong)

/-- 'laws.FnExactCheckClaims': WHATEVER THE INPUT: true; the input reads as it did. -/
def fnExactCheckClaimsSpec : ChangeSpec := { name := "fnExactCheckClaims", fn := fun _ => fun
  | [d1, d2] => { results := [.lit (.bool true)], args := [d1, d2] }
  | _ => none }
def fnExactCheckClaimsRow : OpenClaim := { program := "ytpiafobcmhfclaa", sum := "49ba007035fcdae271d8c187349dd13003a1c8e2ceb4148569d0c85cdfda70b9", func := "loop.example/g01096/laws.FnExactCheckClaims", spec := "fnExactCheckClaims", unfollowed := true, recurses := true, plainKeys := false, apart := false }
def FnExactCheckClaimsSaid : Prop := fnExactCheckClaimsRow.holds Try.pinned (OpenSpec.ofChange fnExactCheckClaimsSpec)

/-- ITS FALSE NEIGHBOUR: 'it returns false'. Refute it at one input. -/
def fnExactCheckClaimsWrong : ChangeSpec := { name := "fnExactCheckClaims", fn := fun _ => fun
  | [d1, d2] => { results := [.lit (.bool false)], args := [d1, d2] }
  | _ => none }
def FnExactCheckClaimsWrongFalsely : Prop := fnExactCheckClaimsRow.holds Try.pinned (OpenSpec.ofChange fnExactCheckClaimsWrong)

/- THE SECOND FORM. 'bulk': how many values and letters a reading holds, each counted each time it is reached (what is shared counts as often as it is met; a slice's spare places count too). A statement '..UptoSaid' is the law's where the arguments, and the package variables that the reading takes, are together of bulk at most 1048576: NARROWER than '..Said'. Prove '..Said' where nothing that the law and all that it calls make is longer than what came in: it says more and counts as full. Else prove '..UptoSaid'. A law counts once. -/
mutual
def uptoBulk {H : Type} : DataW H → Nat
  | .lit (.string bytes) => bytes.length + 1
  | .lit _ => 1
  | .nil => 1
  | .ptr d => uptoBulk d + 1
  | .slice elems spare => uptoBulkAll elems + uptoBulkAll spare + 1
  | .agg parts => uptoBulkAll parts + 1
  | .iface _ d => uptoBulk d + 1
  | .map entries => uptoBulkEntries entries + 1
  | .held _ => 1
def uptoBulkAll {H : Type} : List (DataW H) → Nat
  | [] => 0
  | d :: r => uptoBulk d + uptoBulkAll r
def uptoBulkEntries {H : Type} : List (Lit × DataW H) → Nat
  | [] => 0
  | x :: r => uptoBulkEntry x + uptoBulkEntries r
def uptoBulkEntry {H : Type} : Lit × DataW H → Nat
  | (.string bytes, d) => bytes.length + uptoBulk d + 1
  | (_, d) => uptoBulk d + 1
 end
def uptoSmall : (H : Type) → List (DataW H) → Bool := fun _ ds => decide (uptoBulkAll ds ≤ 1048576)
def OpenSpec.upto (s : _root_.Go.ChangeSpec) : _root_.Go.OpenSpec := { _root_.Go.OpenSpec.ofChange s with cond := some uptoSmall }

/-- 'laws.FnExactGameOfNimber', WHERE WHAT IT READS IS OF BULK AT MOST 1048576: true; the input reads as it did. -/
def fnExactGameOfNimberUptoRow : OpenClaim := { program := "ytpiafobcmhfclaa", sum := "49ba007035fcdae271d8c187349dd13003a1c8e2ceb4148569d0c85cdfda70b9", func := "loop.example/g01096/laws.FnExactGameOfNimber", spec := "fnExactGameOfNimber", plainKeys := false, apart := false, narrowed := true }
def FnExactGameOfNimberUptoSaid : Prop := fnExactGameOfNimberUptoRow.holds Try.pinned (OpenSpec.upto fnExactGameOfNimberSpec)

/-- 'laws.FnExactBirthOf', WHERE WHAT IT READS IS OF BULK AT MOST 1048576: true; the input reads as it did. -/
def fnExactBirthOfUptoRow : OpenClaim := { program := "ytpiafobcmhfclaa", sum := "49ba007035fcdae271d8c187349dd13003a1c8e2ceb4148569d0c85cdfda70b9", func := "loop.example/g01096/laws.FnExactBirthOf", spec := "fnExactBirthOf", plainKeys := false, apart := false, narrowed := true }
def FnExactBirthOfUptoSaid : Prop := fnExactBirthOfUptoRow.holds Try.pinned (OpenSpec.upto fnExactBirthOfSpec)

/-- 'laws.FnExactNegateGame', WHERE WHAT IT READS IS OF BULK AT MOST 1048576: true; the input reads as it did. -/
def fnExactNegateGameUptoRow : OpenClaim := { program := "ytpiafobcmhfclaa", sum := "49ba007035fcdae271d8c187349dd13003a1c8e2ceb4148569d0c85cdfda70b9", func := "loop.example/g01096/laws.FnExactNegateGame", spec := "fnExactNegateGame", plainKeys := false, apart := false, narrowed := true }
def FnExactNegateGameUptoSaid : Prop := fnExactNegateGameUptoRow.holds Try.pinned (OpenSpec.upto fnExactNegateGameSpec)

/-- 'laws.FnExactTrimGame', WHERE WHAT IT READS IS OF BULK AT MOST 1048576: true; the input reads as it did. -/
def fnExactTrimGameUptoRow : OpenClaim := { program := "ytpiafobcmhfclaa", sum := "49ba007035fcdae271d8c187349dd13003a1c8e2ceb4148569d0c85cdfda70b9", func := "loop.example/g01096/laws.FnExactTrimGame", spec := "fnExactTrimGame", unfollowed := true, recurses := true, plainKeys := false, apart := false, narrowed := true }
def FnExactTrimGameUptoSaid : Prop := fnExactTrimGameUptoRow.holds Try.pinned (OpenSpec.upto fnExactTrimGameSpec)

/-- 'laws.FnExactReversibleOf', WHERE WHAT IT READS IS OF BULK AT MOST 1048576: true; the input reads as it did. -/
def fnExactReversibleOfUptoRow : OpenClaim := { program := "ytpiafobcmhfclaa", sum := "49ba007035fcdae271d8c187349dd13003a1c8e2ceb4148569d0c85cdfda70b9", func := "loop.example/g01096/laws.FnExactReversibleOf", spec := "fnExactReversibleOf", recurses := true, plainKeys := false, apart := false, narrowed := true }
def FnExactReversibleOfUptoSaid : Prop := fnExactReversibleOfUptoRow.holds Try.pinned (OpenSpec.upto fnExactReversibleOfSpec)

/-- 'laws.FnExactDominatedOf', WHERE WHAT IT READS IS OF BULK AT MOST 1048576: true; the input reads as it did. -/
def fnExactDominatedOfUptoRow : OpenClaim := { program := "ytpiafobcmhfclaa", sum := "49ba007035fcdae271d8c187349dd13003a1c8e2ceb4148569d0c85cdfda70b9", func := "loop.example/g01096/laws.FnExactDominatedOf", spec := "fnExactDominatedOf", unfollowed := true, recurses := true, plainKeys := false, apart := false, narrowed := true }
def FnExactDominatedOfUptoSaid : Prop := fnExactDominatedOfUptoRow.holds Try.pinned (OpenSpec.upto fnExactDominatedOfSpec)

/-- 'laws.FnExactProveOrder', WHERE WHAT IT READS IS OF BULK AT MOST 1048576: true; the input reads as it did. -/
def fnExactProveOrderUptoRow : OpenClaim := { program := "ytpiafobcmhfclaa", sum := "49ba007035fcdae271d8c187349dd13003a1c8e2ceb4148569d0c85cdfda70b9", func := "loop.example/g01096/laws.FnExactProveOrder", spec := "fnExactProveOrder", recurses := true, plainKeys := false, apart := false, narrowed := true }
def FnExactProveOrderUptoSaid : Prop := fnExactProveOrderUptoRow.holds Try.pinned (OpenSpec.upto fnExactProveOrderSpec)

/-- 'laws.FnExactCheckClaims', WHERE WHAT IT READS IS OF BULK AT MOST 1048576: true; the input reads as it did. -/
def fnExactCheckClaimsUptoRow : OpenClaim := { program := "ytpiafobcmhfclaa", sum := "49ba007035fcdae271d8c187349dd13003a1c8e2ceb4148569d0c85cdfda70b9", func := "loop.example/g01096/laws.FnExactCheckClaims", spec := "fnExactCheckClaims", unfollowed := true, recurses := true, plainKeys := false, apart := false, narrowed := true }
def FnExactCheckClaimsUptoSaid : Prop := fnExactCheckClaimsUptoRow.holds Try.pinned (OpenSpec.upto fnExactCheckClaimsSpec)

end Rows
end Go.Proofs.Ytpiafobcmhfclaa
