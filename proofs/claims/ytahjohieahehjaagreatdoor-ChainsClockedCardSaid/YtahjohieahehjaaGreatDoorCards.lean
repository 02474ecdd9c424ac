/-
  DERIVED. GIVEN WITH THE SEED: THE CARDS: each row of YtahjohieahehjaaGreatDoorRows.lean that lists a variable, with what it lists TIED to the program's text (the seventh form; the later family's looks); each row that meets fmt, with fmt's text TOLD by the authors' own Lean function (tested against real Go, not proved from fmt's source: count such statements apart). THE CARD IS WHAT COUNTS. Prove the row's statement (the work); the ties are given (YtahjohieahehjaaGreatDoorTie.lean); close each card by the builder's one call (the guide's Derived/Test/ToyasCard.lean, 'card_holds'). Laid BY PROGRAM, IN A SANDBOX (cutbox-door.mjs). By AI agents, Wed Nov 11 2026. No macro, syntax, notation, axiom, sorry.
-/
import Derived.Test.YtahjohieahehjaaGreatDoorRows
import GoSem.ClaimSeven
namespace Go.Proofs.YtahjohieahehjaaGreatDoor
namespace Rows

/-- THE TIED CARD OF 'scanlaw1.ChainsRun'. -/
def chainsRunCard : Claim7 := { stood := { row := chainsRunRow, standIns := [], harness := (true, "a25d6571760e4955f6f52644037b2e48cd2af0bfbf03680f89d5436361cd406e"), looks := true }, kinds := [], alts := [], laidByText := true, laidKinds := [.data, .data, .data, .data, .pinned], laidTests := true, laidLooks := .later }
def ChainsRunCardSaid : Prop := Claim7.holds Tryz.pinned (.plain (OpenSpec.ofChange chainsRunSpec)) chainsRunCard

/-- THE TIED CARD OF 'scanlaw1.ChainsClocked'. -/
def chainsClockedCard : Claim7 := { stood := { row := chainsClockedRow, standIns := [], harness := (true, "a25d6571760e4955f6f52644037b2e48cd2af0bfbf03680f89d5436361cd406e"), looks := true }, kinds := [], alts := [], laidByText := true, laidKinds := [.data, .data, .data, .data, .pinned], laidTests := true, laidLooks := .later }
def ChainsClockedCardSaid : Prop := Claim7.holds Tryz.pinned (.plain (OpenSpec.ofChange chainsClockedSpec)) chainsClockedCard

/-- THE TIED CARD OF 'scankeep1.InstructionsArrive'. -/
def instructionsArriveCard : Claim7 := { stood := { row := instructionsArriveRow, standIns := [], harness := (true, "a25d6571760e4955f6f52644037b2e48cd2af0bfbf03680f89d5436361cd406e"), looks := true }, kinds := [], alts := [], laidByText := true, laidKinds := [.data, .data, .data, .data, .pinned], laidTests := true, laidLooks := .later }
def InstructionsArriveCardSaid : Prop := Claim7.holds Tryz.pinned (.plain (OpenSpec.ofChange instructionsArriveSpec)) instructionsArriveCard

/-- THE TIED CARD OF 'scankeep1.ShiftedComesOut'. -/
def shiftedComesOutCard : Claim7 := { stood := { row := shiftedComesOutRow, standIns := [], harness := (true, "a25d6571760e4955f6f52644037b2e48cd2af0bfbf03680f89d5436361cd406e"), looks := true }, kinds := [], alts := [], laidByText := true, laidKinds := [.data, .data, .data, .data, .pinned], laidTests := true, laidLooks := .later }
def ShiftedComesOutCardSaid : Prop := Claim7.holds Tryz.pinned (.plain (OpenSpec.ofChange shiftedComesOutSpec)) shiftedComesOutCard

/-- THE TIED CARD OF 'scankeep1.ChainsIdentify'. -/
def chainsIdentifyCard : Claim7 := { stood := { row := chainsIdentifyRow, standIns := [], harness := (true, "a25d6571760e4955f6f52644037b2e48cd2af0bfbf03680f89d5436361cd406e"), looks := true }, kinds := [], alts := [], laidByText := true, laidKinds := [.data, .data, .data, .data, .pinned], laidTests := true, laidLooks := .later }
def ChainsIdentifyCardSaid : Prop := Claim7.holds Tryz.pinned (.plain (OpenSpec.ofChange chainsIdentifySpec)) chainsIdentifyCard

/-- THE TIED CARD OF 'scanlaw1.DevicesChecked'. -/
def devicesCheckedCard : Claim7 := { stood := { row := devicesCheckedRow, standIns := [], harness := (true, "a25d6571760e4955f6f52644037b2e48cd2af0bfbf03680f89d5436361cd406e"), looks := true }, kinds := [], alts := [], laidByText := true, laidKinds := [.data, .data, .data, .data, .sentinel, .sentinel, .pinned], laidTests := true, laidLooks := .later }
def DevicesCheckedCardSaid : Prop := Claim7.holds Tryz.pinned (.plain (OpenSpec.ofChange devicesCheckedSpec)) devicesCheckedCard

/-- THE TIED CARD OF 'scankeep1.DevicesComeBack'. -/
def devicesComeBackCard : Claim7 := { stood := { row := devicesComeBackRow, standIns := [], harness := (true, "a25d6571760e4955f6f52644037b2e48cd2af0bfbf03680f89d5436361cd406e"), looks := true }, kinds := [], alts := [], laidByText := true, laidKinds := [.data, .data, .data, .data, .sentinel, .sentinel, .pinned], laidTests := true, laidLooks := .later }
def DevicesComeBackCardSaid : Prop := Claim7.holds Tryz.pinned (.plain (OpenSpec.ofChange devicesComeBackSpec)) devicesComeBackCard

/-- THE TIED CARD OF 'scankeep1.ChainsStay'. -/
def chainsStayCard : Claim7 := { stood := { row := chainsStayRow, standIns := [], harness := (true, "a25d6571760e4955f6f52644037b2e48cd2af0bfbf03680f89d5436361cd406e"), looks := true }, kinds := [], alts := [], laidByText := true, laidKinds := [.data, .data, .data, .data, .sentinel, .sentinel, .pinned], laidTests := true, laidLooks := .later }
def ChainsStayCardSaid : Prop := Claim7.holds Tryz.pinned (.plain (OpenSpec.ofChange chainsStaySpec)) chainsStayCard

/-- THE SECOND FORM's CARD OF 'scanlaw1.ChainsRun'. -/
def chainsRunUptoCard : Claim7 := { stood := { row := chainsRunUptoRow, standIns := [], harness := (true, "a25d6571760e4955f6f52644037b2e48cd2af0bfbf03680f89d5436361cd406e"), looks := true }, kinds := [], alts := [], laidByText := true, laidKinds := [.data, .data, .data, .data, .pinned], laidTests := true, laidLooks := .later }
def ChainsRunUptoCardSaid : Prop := Claim7.holds Tryz.pinned (.plain (OpenSpec.upto chainsRunSpec)) chainsRunUptoCard

/-- THE SECOND FORM's CARD OF 'scanlaw1.ChainsClocked'. -/
def chainsClockedUptoCard : Claim7 := { stood := { row := chainsClockedUptoRow, standIns := [], harness := (true, "a25d6571760e4955f6f52644037b2e48cd2af0bfbf03680f89d5436361cd406e"), looks := true }, kinds := [], alts := [], laidByText := true, laidKinds := [.data, .data, .data, .data, .pinned], laidTests := true, laidLooks := .later }
def ChainsClockedUptoCardSaid : Prop := Claim7.holds Tryz.pinned (.plain (OpenSpec.upto chainsClockedSpec)) chainsClockedUptoCard

/-- THE SECOND FORM's CARD OF 'scankeep1.InstructionsArrive'. -/
def instructionsArriveUptoCard : Claim7 := { stood := { row := instructionsArriveUptoRow, standIns := [], harness := (true, "a25d6571760e4955f6f52644037b2e48cd2af0bfbf03680f89d5436361cd406e"), looks := true }, kinds := [], alts := [], laidByText := true, laidKinds := [.data, .data, .data, .data, .pinned], laidTests := true, laidLooks := .later }
def InstructionsArriveUptoCardSaid : Prop := Claim7.holds Tryz.pinned (.plain (OpenSpec.upto instructionsArriveSpec)) instructionsArriveUptoCard

/-- THE SECOND FORM's CARD OF 'scankeep1.ShiftedComesOut'. -/
def shiftedComesOutUptoCard : Claim7 := { stood := { row := shiftedComesOutUptoRow, standIns := [], harness := (true, "a25d6571760e4955f6f52644037b2e48cd2af0bfbf03680f89d5436361cd406e"), looks := true }, kinds := [], alts := [], laidByText := true, laidKinds := [.data, .data, .data, .data, .pinned], laidTests := true, laidLooks := .later }
def ShiftedComesOutUptoCardSaid : Prop := Claim7.holds Tryz.pinned (.plain (OpenSpec.upto shiftedComesOutSpec)) shiftedComesOutUptoCard

/-- THE SECOND FORM's CARD OF 'scankeep1.ChainsIdentify'. -/
def chainsIdentifyUptoCard : Claim7 := { stood := { row := chainsIdentifyUptoRow, standIns := [], harness := (true, "a25d6571760e4955f6f52644037b2e48cd2af0bfbf03680f89d5436361cd406e"), looks := true }, kinds := [], alts := [], laidByText := true, laidKinds := [.data, .data, .data, .data, .pinned], laidTests := true, laidLooks := .later }
def ChainsIdentifyUptoCardSaid : Prop := Claim7.holds Tryz.pinned (.plain (OpenSpec.upto chainsIdentifySpec)) chainsIdentifyUptoCard

/-- THE SECOND FORM's CARD OF 'scanlaw1.DevicesChecked'. -/
def devicesCheckedUptoCard : Claim7 := { stood := { row := devicesCheckedUptoRow, standIns := [], harness := (true, "a25d6571760e4955f6f52644037b2e48cd2af0bfbf03680f89d5436361cd406e"), looks := true }, kinds := [], alts := [], laidByText := true, laidKinds := [.data, .data, .data, .data, .sentinel, .sentinel, .pinned], laidTests := true, laidLooks := .later }
def DevicesCheckedUptoCardSaid : Prop := Claim7.holds Tryz.pinned (.plain (OpenSpec.upto devicesCheckedSpec)) devicesCheckedUptoCard

/-- THE SECOND FORM's CARD OF 'scankeep1.DevicesComeBack'. -/
def devicesComeBackUptoCard : Claim7 := { stood := { row := devicesComeBackUptoRow, standIns := [], harness := (true, "a25d6571760e4955f6f52644037b2e48cd2af0bfbf03680f89d5436361cd406e"), looks := true }, kinds := [], alts := [], laidByText := true, laidKinds := [.data, .data, .data, .data, .sentinel, .sentinel, .pinned], laidTests := true, laidLooks := .later }
def DevicesComeBackUptoCardSaid : Prop := Claim7.holds Tryz.pinned (.plain (OpenSpec.upto devicesComeBackSpec)) devicesComeBackUptoCard

/-- THE SECOND FORM's CARD OF 'scankeep1.ChainsStay'. -/
def chainsStayUptoCard : Claim7 := { stood := { row := chainsStayUptoRow, standIns := [], harness := (true, "a25d6571760e4955f6f52644037b2e48cd2af0bfbf03680f89d5436361cd406e"), looks := true }, kinds := [], alts := [], laidByText := true, laidKinds := [.data, .data, .data, .data, .sentinel, .sentinel, .pinned], laidTests := true, laidLooks := .later }
def ChainsStayUptoCardSaid : Prop := Claim7.holds Tryz.pinned (.plain (OpenSpec.upto chainsStaySpec)) chainsStayUptoCard
end Rows
end Go.Proofs.YtahjohieahehjaaGreatDoor
