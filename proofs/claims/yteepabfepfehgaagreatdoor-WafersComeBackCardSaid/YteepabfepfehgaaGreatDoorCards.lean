/-
  DERIVED. GIVEN WITH THE SEED: THE CARDS: each row of YteepabfepfehgaaGreatDoorRows.lean that lists a variable, with what it lists TIED to the program's text (the seventh form; the later family's looks); each row that meets fmt, with fmt's text TOLD by the authors' own Lean function (tested against real Go, not proved from fmt's source: count such statements apart). THE CARD IS WHAT COUNTS. Prove the row's statement (the work); the ties are given (YteepabfepfehgaaGreatDoorTie.lean); close each card by the builder's one call (the guide's Derived/Test/ToyasCard.lean, 'card_holds'). Laid BY PROGRAM, IN A SANDBOX (cutbox-door.mjs). By AI agents, Wed Nov 11 2026. No macro, syntax, notation, axiom, sorry.
-/
import Derived.Test.YteepabfepfehgaaGreatDoorRows
import GoSem.ClaimSeven
namespace Go.Proofs.YteepabfepfehgaaGreatDoor
namespace Rows

/-- THE TIED CARD OF 'scankeep1.WafersComeBack'. -/
def wafersComeBackCard : Claim7 := { stood := { row := wafersComeBackRow, standIns := [], harness := (true, "c07038c2cae95296446d1032ecb5c21261795379ecf913891187ec640218499c"), looks := true }, kinds := [], alts := [], laidByText := true, laidKinds := [.data, .data, .data, .data, .sentinel, .sentinel, .pinned], laidTests := true, laidLooks := .later }
def WafersComeBackCardSaid : Prop := Claim7.holds Tryz.pinned (.plain (OpenSpec.ofChange wafersComeBackSpec)) wafersComeBackCard

/-- THE TIED CARD OF 'scanlaw1.WafersChecked'. -/
def wafersCheckedCard : Claim7 := { stood := { row := wafersCheckedRow, standIns := [], harness := (true, "c07038c2cae95296446d1032ecb5c21261795379ecf913891187ec640218499c"), looks := true }, kinds := [], alts := [], laidByText := true, laidKinds := [.data, .data, .data, .data, .sentinel, .sentinel, .pinned], laidTests := true, laidLooks := .later }
def WafersCheckedCardSaid : Prop := Claim7.holds Tryz.pinned (.plain (OpenSpec.ofChange wafersCheckedSpec)) wafersCheckedCard

/-- THE SECOND FORM's CARD OF 'scankeep1.WafersComeBack'. -/
def wafersComeBackUptoCard : Claim7 := { stood := { row := wafersComeBackUptoRow, standIns := [], harness := (true, "c07038c2cae95296446d1032ecb5c21261795379ecf913891187ec640218499c"), looks := true }, kinds := [], alts := [], laidByText := true, laidKinds := [.data, .data, .data, .data, .sentinel, .sentinel, .pinned], laidTests := true, laidLooks := .later }
def WafersComeBackUptoCardSaid : Prop := Claim7.holds Tryz.pinned (.plain (OpenSpec.upto wafersComeBackSpec)) wafersComeBackUptoCard

/-- THE SECOND FORM's CARD OF 'scanlaw1.WafersChecked'. -/
def wafersCheckedUptoCard : Claim7 := { stood := { row := wafersCheckedUptoRow, standIns := [], harness := (true, "c07038c2cae95296446d1032ecb5c21261795379ecf913891187ec640218499c"), looks := true }, kinds := [], alts := [], laidByText := true, laidKinds := [.data, .data, .data, .data, .sentinel, .sentinel, .pinned], laidTests := true, laidLooks := .later }
def WafersCheckedUptoCardSaid : Prop := Claim7.holds Tryz.pinned (.plain (OpenSpec.upto wafersCheckedSpec)) wafersCheckedUptoCard
end Rows
end Go.Proofs.YteepabfepfehgaaGreatDoor
