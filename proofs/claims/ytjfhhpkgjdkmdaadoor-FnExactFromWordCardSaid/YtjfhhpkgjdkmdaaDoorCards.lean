/-
  DERIVED. GIVEN WITH THE SEED: THE CARDS: each row of YtjfhhpkgjdkmdaaDoorRows.lean that lists a variable, with what it lists TIED to the program's text (the seventh form; the later family's looks); each row that meets fmt, with fmt's text TOLD by the authors' own Lean function (tested against real Go, not proved from fmt's source: count such statements apart). THE CARD IS WHAT COUNTS. Prove the row's statement (the work); the ties are given (YtjfhhpkgjdkmdaaDoorTie.lean); close each card by the builder's one call (the guide's Derived/Test/ToyasCard.lean, 'card_holds'). Laid BY PROGRAM, IN A SANDBOX (cutbox-door.mjs). By AI agents, Wed Nov 11 2026. No macro, syntax, notation, axiom, sorry.
-/
import Derived.Test.YtjfhhpkgjdkmdaaDoorRows
import GoSem.ClaimSeven
namespace Go.Proofs.YtjfhhpkgjdkmdaaDoor
namespace Rows

/-- THE TIED CARD OF 'laws.FnExactPictureText'. -/
def fnExactPictureTextCard : Claim7 := { stood := { row := fnExactPictureTextRow, standIns := [], harness := (true, "06af12e90b9cf3a30cda93385f35915c07fb96a809835241aee1f7a962c2e106"), looks := true }, kinds := [], alts := [], laidByText := true, laidKinds := [.data, .data, .data], laidTests := true, laidLooks := .later }
def FnExactPictureTextCardSaid : Prop := Claim7.holds Tryd.pinned (.plain (OpenSpec.ofChange fnExactPictureTextSpec)) fnExactPictureTextCard

/-- THE TIED CARD OF 'laws.FnExactParsePicture'. -/
def fnExactParsePictureCard : Claim7 := { stood := { row := fnExactParsePictureRow, standIns := [], harness := (true, "06af12e90b9cf3a30cda93385f35915c07fb96a809835241aee1f7a962c2e106"), looks := true }, kinds := [], alts := [], laidByText := true, laidKinds := [.data, .data, .data, .data, .sentinel, .sentinel, .pinned], laidTests := true, laidLooks := .later }
def FnExactParsePictureCardSaid : Prop := Claim7.holds Tryd.pinned (.plain (OpenSpec.ofChange fnExactParsePictureSpec)) fnExactParsePictureCard

/-- THE TIED CARD OF 'laws.FnExactParseFraction'. -/
def fnExactParseFractionCard : Claim7 := { stood := { row := fnExactParseFractionRow, standIns := [], harness := (true, "06af12e90b9cf3a30cda93385f35915c07fb96a809835241aee1f7a962c2e106"), looks := true }, kinds := [], alts := [], laidByText := true, laidKinds := [.data, .data, .data, .sentinel, .sentinel], laidTests := true, laidLooks := .later }
def FnExactParseFractionCardSaid : Prop := Claim7.holds Tryd.pinned (.plain (OpenSpec.ofChange fnExactParseFractionSpec)) fnExactParseFractionCard

/-- THE TIED CARD OF 'laws.FnExactFractionText'. -/
def fnExactFractionTextCard : Claim7 := { stood := { row := fnExactFractionTextRow, standIns := [], harness := (true, "06af12e90b9cf3a30cda93385f35915c07fb96a809835241aee1f7a962c2e106"), looks := true }, kinds := [], alts := [], laidByText := true, laidKinds := [.data, .data, .data], laidTests := true, laidLooks := .later }
def FnExactFractionTextCardSaid : Prop := Claim7.holds Tryd.pinned (.plain (OpenSpec.ofChange fnExactFractionTextSpec)) fnExactFractionTextCard

/-- THE TIED CARD OF 'laws.FnExactStalkOf'. -/
def fnExactStalkOfCard : Claim7 := { stood := { row := fnExactStalkOfRow, standIns := [], harness := (true, "06af12e90b9cf3a30cda93385f35915c07fb96a809835241aee1f7a962c2e106"), looks := true }, kinds := [], alts := [], laidByText := true, laidKinds := [.data, .pinned], laidTests := true, laidLooks := .later }
def FnExactStalkOfCardSaid : Prop := Claim7.holds Tryd.pinned (.plain (OpenSpec.ofChange fnExactStalkOfSpec)) fnExactStalkOfCard

/-- THE TIED CARD OF 'laws.FnExactFromWord'. -/
def fnExactFromWordCard : Claim7 := { stood := { row := fnExactFromWordRow, standIns := [], harness := (true, "06af12e90b9cf3a30cda93385f35915c07fb96a809835241aee1f7a962c2e106"), looks := true }, kinds := [], alts := [], laidByText := true, laidKinds := [.data, .pinned], laidTests := true, laidLooks := .later }
def FnExactFromWordCardSaid : Prop := Claim7.holds Tryd.pinned (.plain (OpenSpec.ofChange fnExactFromWordSpec)) fnExactFromWordCard

/-- THE SECOND FORM's CARD OF 'laws.FnExactPictureText'. -/
def fnExactPictureTextUptoCard : Claim7 := { stood := { row := fnExactPictureTextUptoRow, standIns := [], harness := (true, "06af12e90b9cf3a30cda93385f35915c07fb96a809835241aee1f7a962c2e106"), looks := true }, kinds := [], alts := [], laidByText := true, laidKinds := [.data, .data, .data], laidTests := true, laidLooks := .later }
def FnExactPictureTextUptoCardSaid : Prop := Claim7.holds Tryd.pinned (.plain (OpenSpec.upto fnExactPictureTextSpec)) fnExactPictureTextUptoCard

/-- THE SECOND FORM's CARD OF 'laws.FnExactParsePicture'. -/
def fnExactParsePictureUptoCard : Claim7 := { stood := { row := fnExactParsePictureUptoRow, standIns := [], harness := (true, "06af12e90b9cf3a30cda93385f35915c07fb96a809835241aee1f7a962c2e106"), looks := true }, kinds := [], alts := [], laidByText := true, laidKinds := [.data, .data, .data, .data, .sentinel, .sentinel, .pinned], laidTests := true, laidLooks := .later }
def FnExactParsePictureUptoCardSaid : Prop := Claim7.holds Tryd.pinned (.plain (OpenSpec.upto fnExactParsePictureSpec)) fnExactParsePictureUptoCard

/-- THE SECOND FORM's CARD OF 'laws.FnExactParseFraction'. -/
def fnExactParseFractionUptoCard : Claim7 := { stood := { row := fnExactParseFractionUptoRow, standIns := [], harness := (true, "06af12e90b9cf3a30cda93385f35915c07fb96a809835241aee1f7a962c2e106"), looks := true }, kinds := [], alts := [], laidByText := true, laidKinds := [.data, .data, .data, .sentinel, .sentinel], laidTests := true, laidLooks := .later }
def FnExactParseFractionUptoCardSaid : Prop := Claim7.holds Tryd.pinned (.plain (OpenSpec.upto fnExactParseFractionSpec)) fnExactParseFractionUptoCard

/-- THE SECOND FORM's CARD OF 'laws.FnExactFractionText'. -/
def fnExactFractionTextUptoCard : Claim7 := { stood := { row := fnExactFractionTextUptoRow, standIns := [], harness := (true, "06af12e90b9cf3a30cda93385f35915c07fb96a809835241aee1f7a962c2e106"), looks := true }, kinds := [], alts := [], laidByText := true, laidKinds := [.data, .data, .data], laidTests := true, laidLooks := .later }
def FnExactFractionTextUptoCardSaid : Prop := Claim7.holds Tryd.pinned (.plain (OpenSpec.upto fnExactFractionTextSpec)) fnExactFractionTextUptoCard

/-- THE SECOND FORM's CARD OF 'laws.FnExactStalkOf'. -/
def fnExactStalkOfUptoCard : Claim7 := { stood := { row := fnExactStalkOfUptoRow, standIns := [], harness := (true, "06af12e90b9cf3a30cda93385f35915c07fb96a809835241aee1f7a962c2e106"), looks := true }, kinds := [], alts := [], laidByText := true, laidKinds := [.data, .pinned], laidTests := true, laidLooks := .later }
def FnExactStalkOfUptoCardSaid : Prop := Claim7.holds Tryd.pinned (.plain (OpenSpec.upto fnExactStalkOfSpec)) fnExactStalkOfUptoCard

/-- THE SECOND FORM's CARD OF 'laws.FnExactFromWord'. -/
def fnExactFromWordUptoCard : Claim7 := { stood := { row := fnExactFromWordUptoRow, standIns := [], harness := (true, "06af12e90b9cf3a30cda93385f35915c07fb96a809835241aee1f7a962c2e106"), looks := true }, kinds := [], alts := [], laidByText := true, laidKinds := [.data, .pinned], laidTests := true, laidLooks := .later }
def FnExactFromWordUptoCardSaid : Prop := Claim7.holds Tryd.pinned (.plain (OpenSpec.upto fnExactFromWordSpec)) fnExactFromWordUptoCard
end Rows
end Go.Proofs.YtjfhhpkgjdkmdaaDoor
