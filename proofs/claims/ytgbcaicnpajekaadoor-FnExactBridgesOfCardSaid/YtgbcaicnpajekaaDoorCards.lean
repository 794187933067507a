/-
  DERIVED. GIVEN WITH THE SEED: THE CARDS: each row of YtgbcaicnpajekaaDoorRows.lean that lists a variable, with what it lists TIED to the program's text (the seventh form; the later family's looks); each row that meets fmt, with fmt's text TOLD by the authors' own Lean function (tested against real Go, not proved from fmt's source: count such statements apart). THE CARD IS WHAT COUNTS. Prove the row's statement (the work); the ties are given (YtgbcaicnpajekaaDoorTie.lean); close each card by the builder's one call (the guide's Derived/Test/ToyasCard.lean, 'card_holds'). Laid BY PROGRAM, IN A SANDBOX (cutbox-door.mjs). By AI agents, Wed Nov 11 2026. No macro, syntax, notation, axiom, sorry.
-/
import Derived.Test.YtgbcaicnpajekaaDoorRows
import GoSem.ClaimSeven
namespace Go.Proofs.YtgbcaicnpajekaaDoor
namespace Rows

/-- THE TIED CARD OF 'laws.FnExactBridgesOf'. -/
def fnExactBridgesOfCard : Claim7 := { stood := { row := fnExactBridgesOfRow, standIns := [], harness := (true, "f1dd668766a7a357a6fe45285aa35082d798d15e327affd941042a97a2bac1c8"), looks := false }, kinds := [], alts := [], laidByText := true, laidKinds := [.data, .data], laidTests := true, laidLooks := .later }
def FnExactBridgesOfCardSaid : Prop := Claim7.holds Tryd.pinned (.plain (OpenSpec.ofChange fnExactBridgesOfSpec)) fnExactBridgesOfCard

/-- THE SECOND FORM's CARD OF 'laws.FnExactBridgesOf'. -/
def fnExactBridgesOfUptoCard : Claim7 := { stood := { row := fnExactBridgesOfUptoRow, standIns := [], harness := (true, "f1dd668766a7a357a6fe45285aa35082d798d15e327affd941042a97a2bac1c8"), looks := false }, kinds := [], alts := [], laidByText := true, laidKinds := [.data, .data], laidTests := true, laidLooks := .later }
def FnExactBridgesOfUptoCardSaid : Prop := Claim7.holds Tryd.pinned (.plain (OpenSpec.upto fnExactBridgesOfSpec)) fnExactBridgesOfUptoCard
end Rows
end Go.Proofs.YtgbcaicnpajekaaDoor
