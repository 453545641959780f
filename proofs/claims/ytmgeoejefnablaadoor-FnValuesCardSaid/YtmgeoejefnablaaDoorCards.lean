/-
  DERIVED. GIVEN WITH THE SEED: THE CARDS: each row of YtmgeoejefnablaaDoorRows.lean that lists a variable, with what it lists TIED to the program's text (the seventh form; the later family's looks); each row that meets fmt, with fmt's text TOLD by the authors' own Lean function (tested against real Go, not proved from fmt's source: count such statements apart). THE CARD IS WHAT COUNTS. Prove the row's statement (the work); the ties are given (YtmgeoejefnablaaDoorTie.lean); close each card by the builder's one call (the guide's Derived/Test/ToyasCard.lean, 'card_holds'). Laid BY PROGRAM, IN A SANDBOX (cutbox-door.mjs). By AI agents, Wed Nov 11 2026. No macro, syntax, notation, axiom, sorry.
-/
import Derived.Test.YtmgeoejefnablaaDoorRows
import GoSem.ClaimSeven
namespace Go.Proofs.YtmgeoejefnablaaDoor
namespace Rows

/-- THE TIED CARD OF 'laws.FnExactMsgText'. -/
def fnExactMsgTextCard : Claim7 := { stood := { row := fnExactMsgTextRow, standIns := [], harness := (true, "b1d682a010bfbe32fee7e8f33065cd3efb0d2553aaa3de592e4a602a31919c98"), looks := false }, kinds := [], alts := [], laidByText := true, laidKinds := [.data, .pinned], laidTests := true, laidLooks := .later }
def FnExactMsgTextCardSaid : Prop := Claim7.holds Tryd.pinned (.plain (OpenSpec.ofChange fnExactMsgTextSpec)) fnExactMsgTextCard

/-- THE TIED CARD OF 'laws.FnExactParseValue'. -/
def fnExactParseValueCard : Claim7 := { stood := { row := fnExactParseValueRow, standIns := [], harness := (true, "b1d682a010bfbe32fee7e8f33065cd3efb0d2553aaa3de592e4a602a31919c98"), looks := false }, kinds := [], alts := [], laidByText := true, laidKinds := [.data, .pinned], laidTests := true, laidLooks := .later }
def FnExactParseValueCardSaid : Prop := Claim7.holds Tryd.pinned (.plain (OpenSpec.ofChange fnExactParseValueSpec)) fnExactParseValueCard

/-- THE TIED CARD OF 'laws.FnValues'. -/
def fnValuesCard : Claim7 := { stood := { row := fnValuesRow, standIns := [], harness := (true, "b1d682a010bfbe32fee7e8f33065cd3efb0d2553aaa3de592e4a602a31919c98"), looks := false }, kinds := [], alts := [], laidByText := true, laidKinds := [.data, .pinned], laidTests := true, laidLooks := .later }
def FnValuesCardSaid : Prop := Claim7.holds Tryd.pinned (.plain (OpenSpec.ofChange fnValuesSpec)) fnValuesCard

/-- THE SECOND FORM's CARD OF 'laws.FnExactMsgText'. -/
def fnExactMsgTextUptoCard : Claim7 := { stood := { row := fnExactMsgTextUptoRow, standIns := [], harness := (true, "b1d682a010bfbe32fee7e8f33065cd3efb0d2553aaa3de592e4a602a31919c98"), looks := false }, kinds := [], alts := [], laidByText := true, laidKinds := [.data, .pinned], laidTests := true, laidLooks := .later }
def FnExactMsgTextUptoCardSaid : Prop := Claim7.holds Tryd.pinned (.plain (OpenSpec.upto fnExactMsgTextSpec)) fnExactMsgTextUptoCard

/-- THE SECOND FORM's CARD OF 'laws.FnExactParseValue'. -/
def fnExactParseValueUptoCard : Claim7 := { stood := { row := fnExactParseValueUptoRow, standIns := [], harness := (true, "b1d682a010bfbe32fee7e8f33065cd3efb0d2553aaa3de592e4a602a31919c98"), looks := false }, kinds := [], alts := [], laidByText := true, laidKinds := [.data, .pinned], laidTests := true, laidLooks := .later }
def FnExactParseValueUptoCardSaid : Prop := Claim7.holds Tryd.pinned (.plain (OpenSpec.upto fnExactParseValueSpec)) fnExactParseValueUptoCard

/-- THE SECOND FORM's CARD OF 'laws.FnValues'. -/
def fnValuesUptoCard : Claim7 := { stood := { row := fnValuesUptoRow, standIns := [], harness := (true, "b1d682a010bfbe32fee7e8f33065cd3efb0d2553aaa3de592e4a602a31919c98"), looks := false }, kinds := [], alts := [], laidByText := true, laidKinds := [.data, .pinned], laidTests := true, laidLooks := .later }
def FnValuesUptoCardSaid : Prop := Claim7.holds Tryd.pinned (.plain (OpenSpec.upto fnValuesSpec)) fnValuesUptoCard
end Rows
end Go.Proofs.YtmgeoejefnablaaDoor
