/-
  DERIVED. GIVEN WITH THE SEED: THE CARDS: each row of YtefdfdkkbbehiaaGreatDoorRows.lean that lists a variable, with what it lists TIED to the program's text (the seventh form; the later family's looks); each row that meets fmt, with fmt's text TOLD by the authors' own Lean function (tested against real Go, not proved from fmt's source: count such statements apart). THE CARD IS WHAT COUNTS. Prove the row's statement (the work); the ties are given (YtefdfdkkbbehiaaGreatDoorTie.lean); close each card by the builder's one call (the guide's Derived/Test/ToyasCard.lean, 'card_holds'). Laid BY PROGRAM, IN A SANDBOX (cutbox-door.mjs). By AI agents, Wed Nov 11 2026. No macro, syntax, notation, axiom, sorry.
-/
import Derived.Test.YtefdfdkkbbehiaaGreatDoorRows
import GoSem.ClaimSeven
namespace Go.Proofs.YtefdfdkkbbehiaaGreatDoor
namespace Rows

/-- THE TIED CARD OF 'laws.FnExactParsePatch'. -/
def fnExactParsePatchCard : Claim7 := { stood := { row := fnExactParsePatchRow, standIns := [], harness := (true, "c153c12c5d80807f59411150cc116fedcb54287231c347b92a18fd3a0e598593"), looks := false }, kinds := [], alts := [], laidByText := true, laidKinds := [.data, .pinned], laidTests := true, laidLooks := .later }
def FnExactParsePatchCardSaid : Prop := Claim7.holds Tryz.pinned (.plain (OpenSpec.ofChange fnExactParsePatchSpec)) fnExactParsePatchCard

/-- THE TIED CARD OF 'laws.FnPatchTexts'. -/
def fnPatchTextsCard : Claim7 := { stood := { row := fnPatchTextsRow, standIns := [], harness := (true, "c153c12c5d80807f59411150cc116fedcb54287231c347b92a18fd3a0e598593"), looks := false }, kinds := [], alts := [], laidByText := true, laidKinds := [.data, .pinned], laidTests := true, laidLooks := .later }
def FnPatchTextsCardSaid : Prop := Claim7.holds Tryz.pinned (.plain (OpenSpec.ofChange fnPatchTextsSpec)) fnPatchTextsCard

/-- THE SECOND FORM's CARD OF 'laws.FnExactParsePatch'. -/
def fnExactParsePatchUptoCard : Claim7 := { stood := { row := fnExactParsePatchUptoRow, standIns := [], harness := (true, "c153c12c5d80807f59411150cc116fedcb54287231c347b92a18fd3a0e598593"), looks := false }, kinds := [], alts := [], laidByText := true, laidKinds := [.data, .pinned], laidTests := true, laidLooks := .later }
def FnExactParsePatchUptoCardSaid : Prop := Claim7.holds Tryz.pinned (.plain (OpenSpec.upto fnExactParsePatchSpec)) fnExactParsePatchUptoCard

/-- THE SECOND FORM's CARD OF 'laws.FnPatchTexts'. -/
def fnPatchTextsUptoCard : Claim7 := { stood := { row := fnPatchTextsUptoRow, standIns := [], harness := (true, "c153c12c5d80807f59411150cc116fedcb54287231c347b92a18fd3a0e598593"), looks := false }, kinds := [], alts := [], laidByText := true, laidKinds := [.data, .pinned], laidTests := true, laidLooks := .later }
def FnPatchTextsUptoCardSaid : Prop := Claim7.holds Tryz.pinned (.plain (OpenSpec.upto fnPatchTextsSpec)) fnPatchTextsUptoCard
end Rows
end Go.Proofs.YtefdfdkkbbehiaaGreatDoor
