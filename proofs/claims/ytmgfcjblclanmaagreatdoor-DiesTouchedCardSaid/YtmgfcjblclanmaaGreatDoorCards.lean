/-
  DERIVED. GIVEN WITH THE SEED: THE CARDS: each row of YtmgfcjblclanmaaGreatDoorRows.lean that lists a variable, with what it lists TIED to the program's text (the seventh form; the later family's looks); each row that meets fmt, with fmt's text TOLD by the authors' own Lean function (tested against real Go, not proved from fmt's source: count such statements apart). THE CARD IS WHAT COUNTS. Prove the row's statement (the work); the ties are given (YtmgfcjblclanmaaGreatDoorTie.lean); close each card by the builder's one call (the guide's Derived/Test/ToyasCard.lean, 'card_holds'). Laid BY PROGRAM, IN A SANDBOX (cutbox-door.mjs). By AI agents, Wed Nov 11 2026. No macro, syntax, notation, axiom, sorry.
-/
import Derived.Test.YtmgfcjblclanmaaGreatDoorRows
import GoSem.ClaimSeven
namespace Go.Proofs.YtmgfcjblclanmaaGreatDoor
namespace Rows

/-- THE TIED CARD OF 'scanlaw1.DiesTouched'. -/
def diesTouchedCard : Claim7 := { stood := { row := diesTouchedRow, standIns := [], harness := (true, "7e95937e9d2d158c015868695dca64b6da3fcbf62346616c78373ac87350afa2"), looks := true }, kinds := [], alts := [], laidByText := true, laidKinds := [.data, .data, .data], laidTests := true, laidLooks := .later }
def DiesTouchedCardSaid : Prop := Claim7.holds Tryz.pinned (.plain (OpenSpec.ofChange diesTouchedSpec)) diesTouchedCard

/-- THE TIED CARD OF 'scankeep1.WafersComeBack'. -/
def wafersComeBackCard : Claim7 := { stood := { row := wafersComeBackRow, standIns := [], harness := (true, "7e95937e9d2d158c015868695dca64b6da3fcbf62346616c78373ac87350afa2"), looks := true }, kinds := [], alts := [], laidByText := true, laidKinds := [.data, .data, .data, .data, .sentinel, .sentinel, .pinned], laidTests := true, laidLooks := .later }
def WafersComeBackCardSaid : Prop := Claim7.holds Tryz.pinned (.plain (OpenSpec.ofChange wafersComeBackSpec)) wafersComeBackCard

/-- THE TIED CARD OF 'scanlaw1.WafersChecked'. -/
def wafersCheckedCard : Claim7 := { stood := { row := wafersCheckedRow, standIns := [], harness := (true, "7e95937e9d2d158c015868695dca64b6da3fcbf62346616c78373ac87350afa2"), looks := true }, kinds := [], alts := [], laidByText := true, laidKinds := [.data, .data, .data, .data, .sentinel, .sentinel, .pinned], laidTests := true, laidLooks := .later }
def WafersCheckedCardSaid : Prop := Claim7.holds Tryz.pinned (.plain (OpenSpec.ofChange wafersCheckedSpec)) wafersCheckedCard

/-- THE SECOND FORM's CARD OF 'scanlaw1.DiesTouched'. -/
def diesTouchedUptoCard : Claim7 := { stood := { row := diesTouchedUptoRow, standIns := [], harness := (true, "7e95937e9d2d158c015868695dca64b6da3fcbf62346616c78373ac87350afa2"), looks := true }, kinds := [], alts := [], laidByText := true, laidKinds := [.data, .data, .data], laidTests := true, laidLooks := .later }
def DiesTouchedUptoCardSaid : Prop := Claim7.holds Tryz.pinned (.plain (OpenSpec.upto diesTouchedSpec)) diesTouchedUptoCard

/-- THE SECOND FORM's CARD OF 'scankeep1.WafersComeBack'. -/
def wafersComeBackUptoCard : Claim7 := { stood := { row := wafersComeBackUptoRow, standIns := [], harness := (true, "7e95937e9d2d158c015868695dca64b6da3fcbf62346616c78373ac87350afa2"), looks := true }, kinds := [], alts := [], laidByText := true, laidKinds := [.data, .data, .data, .data, .sentinel, .sentinel, .pinned], laidTests := true, laidLooks := .later }
def WafersComeBackUptoCardSaid : Prop := Claim7.holds Tryz.pinned (.plain (OpenSpec.upto wafersComeBackSpec)) wafersComeBackUptoCard

/-- THE SECOND FORM's CARD OF 'scanlaw1.WafersChecked'. -/
def wafersCheckedUptoCard : Claim7 := { stood := { row := wafersCheckedUptoRow, standIns := [], harness := (true, "7e95937e9d2d158c015868695dca64b6da3fcbf62346616c78373ac87350afa2"), looks := true }, kinds := [], alts := [], laidByText := true, laidKinds := [.data, .data, .data, .data, .sentinel, .sentinel, .pinned], laidTests := true, laidLooks := .later }
def WafersCheckedUptoCardSaid : Prop := Claim7.holds Tryz.pinned (.plain (OpenSpec.upto wafersCheckedSpec)) wafersCheckedUptoCard
end Rows
end Go.Proofs.YtmgfcjblclanmaaGreatDoor
