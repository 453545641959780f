/-
  DERIVED. GIVEN WITH THE SEED: THE CARDS: each row of YtmgeoejefnablaaGreatDoorRows.lean that lists a variable, with what it lists TIED to the program's text (the seventh form; the later family's looks); each row that meets fmt, with fmt's text TOLD by the authors' own Lean function (tested against real Go, not proved from fmt's source: count such statements apart). THE CARD IS WHAT COUNTS. Prove the row's statement (the work); the ties are given (YtmgeoejefnablaaGreatDoorTie.lean); close each card by the builder's one call (the guide's Derived/Test/ToyasCard.lean, 'card_holds'). Laid BY PROGRAM, IN A SANDBOX (cutbox-door.mjs). By AI agents, Wed Nov 11 2026. No macro, syntax, notation, axiom, sorry.
-/
import Derived.Test.YtmgeoejefnablaaGreatDoorRows
import GoSem.ClaimSeven
namespace Go.Proofs.YtmgeoejefnablaaGreatDoor
namespace Rows

/-- THE TIED CARD OF 'laws.FnMsgs'. -/
def fnMsgsCard : Claim7 := { stood := { row := fnMsgsRow, standIns := [], harness := (true, "d42ad84ef9c4d4980fc7117f40b597cfe5302ff0cab65c692746b0f11cc8153e"), looks := false }, kinds := [], alts := [], laidByText := true, laidKinds := [.data, .pinned], laidTests := true, laidLooks := .later }
def FnMsgsCardSaid : Prop := Claim7.holds Tryz.pinned (.plain (OpenSpec.ofChange fnMsgsSpec)) fnMsgsCard

/-- THE TIED CARD OF 'laws.FnExactParseMsg'. -/
def fnExactParseMsgCard : Claim7 := { stood := { row := fnExactParseMsgRow, standIns := [], harness := (true, "d42ad84ef9c4d4980fc7117f40b597cfe5302ff0cab65c692746b0f11cc8153e"), looks := false }, kinds := [], alts := [], laidByText := true, laidKinds := [.data, .pinned], laidTests := true, laidLooks := .later }
def FnExactParseMsgCardSaid : Prop := Claim7.holds Tryz.pinned (.plain (OpenSpec.ofChange fnExactParseMsgSpec)) fnExactParseMsgCard

/-- THE SECOND FORM's CARD OF 'laws.FnMsgs'. -/
def fnMsgsUptoCard : Claim7 := { stood := { row := fnMsgsUptoRow, standIns := [], harness := (true, "d42ad84ef9c4d4980fc7117f40b597cfe5302ff0cab65c692746b0f11cc8153e"), looks := false }, kinds := [], alts := [], laidByText := true, laidKinds := [.data, .pinned], laidTests := true, laidLooks := .later }
def FnMsgsUptoCardSaid : Prop := Claim7.holds Tryz.pinned (.plain (OpenSpec.upto fnMsgsSpec)) fnMsgsUptoCard

/-- THE SECOND FORM's CARD OF 'laws.FnExactParseMsg'. -/
def fnExactParseMsgUptoCard : Claim7 := { stood := { row := fnExactParseMsgUptoRow, standIns := [], harness := (true, "d42ad84ef9c4d4980fc7117f40b597cfe5302ff0cab65c692746b0f11cc8153e"), looks := false }, kinds := [], alts := [], laidByText := true, laidKinds := [.data, .pinned], laidTests := true, laidLooks := .later }
def FnExactParseMsgUptoCardSaid : Prop := Claim7.holds Tryz.pinned (.plain (OpenSpec.upto fnExactParseMsgSpec)) fnExactParseMsgUptoCard
end Rows
end Go.Proofs.YtmgeoejefnablaaGreatDoor
