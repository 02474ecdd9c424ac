/-
  DERIVED. GIVEN WITH THE SEED: THE CARDS: each row of YthcldfmlfjomfaaGreatDoorRows.lean that lists a variable, with what it lists TIED to the program's text (the seventh form; the later family's looks); each row that meets fmt, with fmt's text TOLD by the authors' own Lean function (tested against real Go, not proved from fmt's source: count such statements apart). THE CARD IS WHAT COUNTS. Prove the row's statement (the work); the ties are given (YthcldfmlfjomfaaGreatDoorTie.lean); close each card by the builder's one call (the guide's Derived/Test/ToyasCard.lean, 'card_holds'). Laid BY PROGRAM, IN A SANDBOX (cutbox-door.mjs). By AI agents, Wed Nov 11 2026. No macro, syntax, notation, axiom, sorry.
-/
import Derived.Test.YthcldfmlfjomfaaGreatDoorRows
import GoSem.ClaimSeven
namespace Go.Proofs.YthcldfmlfjomfaaGreatDoor
namespace Rows

/-- THE TIED CARD OF 'scanlaw1.VectorsDetect'. -/
def vectorsDetectCard : Claim7 := { stood := { row := vectorsDetectRow, standIns := [], harness := (true, "2d71db5cc0892f8fd6c86b06acdbf45b57a378beeaa8f50e56f192241f936d94"), looks := false }, kinds := [], alts := [], laidByText := true, laidKinds := [.data, .pinned], laidTests := true, laidLooks := .later }
def VectorsDetectCardSaid : Prop := Claim7.holds Tryz.pinned (.plain (OpenSpec.ofChange vectorsDetectSpec)) vectorsDetectCard

/-- THE TIED CARD OF 'scankeep1.FewerDoNotMeet'. -/
def fewerDoNotMeetCard : Claim7 := { stood := { row := fewerDoNotMeetRow, standIns := [], harness := (true, "2d71db5cc0892f8fd6c86b06acdbf45b57a378beeaa8f50e56f192241f936d94"), looks := false }, kinds := [], alts := [], laidByText := true, laidKinds := [.data, .pinned], laidTests := true, laidLooks := .later }
def FewerDoNotMeetCardSaid : Prop := Claim7.holds Tryz.pinned (.plain (OpenSpec.ofChange fewerDoNotMeetSpec)) fewerDoNotMeetCard

/-- THE TIED CARD OF 'scankeep1.GeneratedMeet'. -/
def generatedMeetCard : Claim7 := { stood := { row := generatedMeetRow, standIns := [], harness := (true, "2d71db5cc0892f8fd6c86b06acdbf45b57a378beeaa8f50e56f192241f936d94"), looks := false }, kinds := [], alts := [], laidByText := true, laidKinds := [.data, .pinned], laidTests := true, laidLooks := .later }
def GeneratedMeetCardSaid : Prop := Claim7.holds Tryz.pinned (.plain (OpenSpec.ofChange generatedMeetSpec)) generatedMeetCard

/-- THE SECOND FORM's CARD OF 'scanlaw1.VectorsDetect'. -/
def vectorsDetectUptoCard : Claim7 := { stood := { row := vectorsDetectUptoRow, standIns := [], harness := (true, "2d71db5cc0892f8fd6c86b06acdbf45b57a378beeaa8f50e56f192241f936d94"), looks := false }, kinds := [], alts := [], laidByText := true, laidKinds := [.data, .pinned], laidTests := true, laidLooks := .later }
def VectorsDetectUptoCardSaid : Prop := Claim7.holds Tryz.pinned (.plain (OpenSpec.upto vectorsDetectSpec)) vectorsDetectUptoCard

/-- THE SECOND FORM's CARD OF 'scankeep1.FewerDoNotMeet'. -/
def fewerDoNotMeetUptoCard : Claim7 := { stood := { row := fewerDoNotMeetUptoRow, standIns := [], harness := (true, "2d71db5cc0892f8fd6c86b06acdbf45b57a378beeaa8f50e56f192241f936d94"), looks := false }, kinds := [], alts := [], laidByText := true, laidKinds := [.data, .pinned], laidTests := true, laidLooks := .later }
def FewerDoNotMeetUptoCardSaid : Prop := Claim7.holds Tryz.pinned (.plain (OpenSpec.upto fewerDoNotMeetSpec)) fewerDoNotMeetUptoCard

/-- THE SECOND FORM's CARD OF 'scankeep1.GeneratedMeet'. -/
def generatedMeetUptoCard : Claim7 := { stood := { row := generatedMeetUptoRow, standIns := [], harness := (true, "2d71db5cc0892f8fd6c86b06acdbf45b57a378beeaa8f50e56f192241f936d94"), looks := false }, kinds := [], alts := [], laidByText := true, laidKinds := [.data, .pinned], laidTests := true, laidLooks := .later }
def GeneratedMeetUptoCardSaid : Prop := Claim7.holds Tryz.pinned (.plain (OpenSpec.upto generatedMeetSpec)) generatedMeetUptoCard
end Rows
end Go.Proofs.YthcldfmlfjomfaaGreatDoor
