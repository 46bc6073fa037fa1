/-
  DERIVED. GIVEN WITH THE SEED: THE CARDS: each row of YtdkfcdncamimmaaGreatDoorRows.lean that lists a variable, with what it lists TIED to the program's text (the seventh form; the later family's looks); each row that meets fmt, with fmt's text TOLD by the authors' own Lean function (tested against real Go, not proved from fmt's source: count such statements apart). THE CARD IS WHAT COUNTS. Prove the row's statement (the work); the ties are given (YtdkfcdncamimmaaGreatDoorTie.lean); close each card by the builder's one call (the guide's Derived/Test/ToyasCard.lean, 'card_holds'). Laid BY PROGRAM, IN A SANDBOX (cutbox-door.mjs). By AI agents, Wed Nov 11 2026. No macro, syntax, notation, axiom, sorry.
-/
import Derived.Test.YtdkfcdncamimmaaGreatDoorRows
import GoSem.ClaimSeven
namespace Go.Proofs.YtdkfcdncamimmaaGreatDoor
namespace Rows

/-- THE TIED CARD OF 'laws.FnExactParseObservation'. -/
def fnExactParseObservationCard : Claim7 := { stood := { row := fnExactParseObservationRow, standIns := [], harness := (true, "15c93202c64df8828bf4cdb0252bcb54d1693a057fcf7c6698be6b7e62cd3fe4"), looks := true }, kinds := [], alts := [], laidByText := true, laidKinds := [.data, .data, .data, .sentinel, .sentinel], laidTests := true, laidLooks := .later }
def FnExactParseObservationCardSaid : Prop := Claim7.holds Tryz.pinned (.plain (OpenSpec.ofChange fnExactParseObservationSpec)) fnExactParseObservationCard

/-- THE TIED CARD OF 'laws.FnBooks'. -/
def fnBooksCard : Claim7 := { stood := { row := fnBooksRow, standIns := [], harness := (true, "15c93202c64df8828bf4cdb0252bcb54d1693a057fcf7c6698be6b7e62cd3fe4"), looks := true }, kinds := [], alts := [], laidByText := true, laidKinds := [.data, .data, .data, .sentinel, .sentinel], laidTests := true, laidLooks := .later }
def FnBooksCardSaid : Prop := Claim7.holds Tryz.pinned (.plain (OpenSpec.ofChange fnBooksSpec)) fnBooksCard

/-- THE TIED CARD OF 'laws.FnExactParseBook'. -/
def fnExactParseBookCard : Claim7 := { stood := { row := fnExactParseBookRow, standIns := [], harness := (true, "15c93202c64df8828bf4cdb0252bcb54d1693a057fcf7c6698be6b7e62cd3fe4"), looks := true }, kinds := [], alts := [], laidByText := true, laidKinds := [.data, .data, .data, .sentinel, .sentinel], laidTests := true, laidLooks := .later }
def FnExactParseBookCardSaid : Prop := Claim7.holds Tryz.pinned (.plain (OpenSpec.ofChange fnExactParseBookSpec)) fnExactParseBookCard

/-- THE TIED CARD OF 'laws.FnExactFormatObservation'. -/
def fnExactFormatObservationCard : Claim7 := { stood := { row := fnExactFormatObservationRow, standIns := [], harness := (true, "15c93202c64df8828bf4cdb0252bcb54d1693a057fcf7c6698be6b7e62cd3fe4"), looks := true }, kinds := [], alts := [], laidByText := true, laidKinds := [.data, .data, .data], laidTests := true, laidLooks := .later }
def FnExactFormatObservationCardSaid : Prop := Claim7.holds Tryz.pinned (.plain (OpenSpec.ofChange fnExactFormatObservationSpec)) fnExactFormatObservationCard

/-- THE TIED CARD OF 'laws.FnExactFormatBook'. -/
def fnExactFormatBookCard : Claim7 := { stood := { row := fnExactFormatBookRow, standIns := [], harness := (true, "15c93202c64df8828bf4cdb0252bcb54d1693a057fcf7c6698be6b7e62cd3fe4"), looks := true }, kinds := [], alts := [], laidByText := true, laidKinds := [.data, .data, .data], laidTests := true, laidLooks := .later }
def FnExactFormatBookCardSaid : Prop := Claim7.holds Tryz.pinned (.plain (OpenSpec.ofChange fnExactFormatBookSpec)) fnExactFormatBookCard

/-- THE SECOND FORM's CARD OF 'laws.FnExactParseObservation'. -/
def fnExactParseObservationUptoCard : Claim7 := { stood := { row := fnExactParseObservationUptoRow, standIns := [], harness := (true, "15c93202c64df8828bf4cdb0252bcb54d1693a057fcf7c6698be6b7e62cd3fe4"), looks := true }, kinds := [], alts := [], laidByText := true, laidKinds := [.data, .data, .data, .sentinel, .sentinel], laidTests := true, laidLooks := .later }
def FnExactParseObservationUptoCardSaid : Prop := Claim7.holds Tryz.pinned (.plain (OpenSpec.upto fnExactParseObservationSpec)) fnExactParseObservationUptoCard

/-- THE SECOND FORM's CARD OF 'laws.FnBooks'. -/
def fnBooksUptoCard : Claim7 := { stood := { row := fnBooksUptoRow, standIns := [], harness := (true, "15c93202c64df8828bf4cdb0252bcb54d1693a057fcf7c6698be6b7e62cd3fe4"), looks := true }, kinds := [], alts := [], laidByText := true, laidKinds := [.data, .data, .data, .sentinel, .sentinel], laidTests := true, laidLooks := .later }
def FnBooksUptoCardSaid : Prop := Claim7.holds Tryz.pinned (.plain (OpenSpec.upto fnBooksSpec)) fnBooksUptoCard

/-- THE SECOND FORM's CARD OF 'laws.FnExactParseBook'. -/
def fnExactParseBookUptoCard : Claim7 := { stood := { row := fnExactParseBookUptoRow, standIns := [], harness := (true, "15c93202c64df8828bf4cdb0252bcb54d1693a057fcf7c6698be6b7e62cd3fe4"), looks := true }, kinds := [], alts := [], laidByText := true, laidKinds := [.data, .data, .data, .sentinel, .sentinel], laidTests := true, laidLooks := .later }
def FnExactParseBookUptoCardSaid : Prop := Claim7.holds Tryz.pinned (.plain (OpenSpec.upto fnExactParseBookSpec)) fnExactParseBookUptoCard

/-- THE SECOND FORM's CARD OF 'laws.FnExactFormatObservation'. -/
def fnExactFormatObservationUptoCard : Claim7 := { stood := { row := fnExactFormatObservationUptoRow, standIns := [], harness := (true, "15c93202c64df8828bf4cdb0252bcb54d1693a057fcf7c6698be6b7e62cd3fe4"), looks := true }, kinds := [], alts := [], laidByText := true, laidKinds := [.data, .data, .data], laidTests := true, laidLooks := .later }
def FnExactFormatObservationUptoCardSaid : Prop := Claim7.holds Tryz.pinned (.plain (OpenSpec.upto fnExactFormatObservationSpec)) fnExactFormatObservationUptoCard

/-- THE SECOND FORM's CARD OF 'laws.FnExactFormatBook'. -/
def fnExactFormatBookUptoCard : Claim7 := { stood := { row := fnExactFormatBookUptoRow, standIns := [], harness := (true, "15c93202c64df8828bf4cdb0252bcb54d1693a057fcf7c6698be6b7e62cd3fe4"), looks := true }, kinds := [], alts := [], laidByText := true, laidKinds := [.data, .data, .data], laidTests := true, laidLooks := .later }
def FnExactFormatBookUptoCardSaid : Prop := Claim7.holds Tryz.pinned (.plain (OpenSpec.upto fnExactFormatBookSpec)) fnExactFormatBookUptoCard
end Rows
end Go.Proofs.YtdkfcdncamimmaaGreatDoor
