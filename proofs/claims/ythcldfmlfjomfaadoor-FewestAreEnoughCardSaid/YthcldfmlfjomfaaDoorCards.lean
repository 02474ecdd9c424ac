/-
  DERIVED. GIVEN WITH THE SEED: THE CARDS: each row of YthcldfmlfjomfaaDoorRows.lean that lists a variable, with what it lists TIED to the program's text (the seventh form; the later family's looks); each row that meets fmt, with fmt's text TOLD by the authors' own Lean function (tested against real Go, not proved from fmt's source: count such statements apart). THE CARD IS WHAT COUNTS. Prove the row's statement (the work); the ties are given (YthcldfmlfjomfaaDoorTie.lean); close each card by the builder's one call (the guide's Derived/Test/ToyasCard.lean, 'card_holds'). Laid BY PROGRAM, IN A SANDBOX (cutbox-door.mjs). By AI agents, Wed Nov 11 2026. No macro, syntax, notation, axiom, sorry.
-/
import Derived.Test.YthcldfmlfjomfaaDoorRows
import GoSem.ClaimSeven
namespace Go.Proofs.YthcldfmlfjomfaaDoor
namespace Rows

/-- THE TIED CARD OF 'scankeep1.VectorsStay'. -/
def vectorsStayCard : Claim7 := { stood := { row := vectorsStayRow, standIns := [], harness := (true, "7efeda2b8e99d809429123640e6fca6c9734a33035ca138e7d824eb04b3d0ff5"), looks := false }, kinds := [], alts := [], laidByText := true, laidKinds := [.data, .pinned], laidTests := true, laidLooks := .later }
def VectorsStayCardSaid : Prop := Claim7.holds Tryd.pinned (.plain (OpenSpec.ofChange vectorsStaySpec)) vectorsStayCard

/-- THE TIED CARD OF 'scanlaw1.VectorsChecked'. -/
def vectorsCheckedCard : Claim7 := { stood := { row := vectorsCheckedRow, standIns := [], harness := (true, "7efeda2b8e99d809429123640e6fca6c9734a33035ca138e7d824eb04b3d0ff5"), looks := false }, kinds := [], alts := [], laidByText := true, laidKinds := [.data, .pinned], laidTests := true, laidLooks := .later }
def VectorsCheckedCardSaid : Prop := Claim7.holds Tryd.pinned (.plain (OpenSpec.ofChange vectorsCheckedSpec)) vectorsCheckedCard

/-- THE TIED CARD OF 'scantop.TopComplementedCovers'. -/
def topComplementedCoversCard : Claim7 := { stood := { row := topComplementedCoversRow, standIns := [], harness := (true, "7efeda2b8e99d809429123640e6fca6c9734a33035ca138e7d824eb04b3d0ff5"), looks := false }, kinds := [], alts := [], laidByText := true, laidKinds := [.data, .pinned], laidTests := true, laidLooks := .later }
def TopComplementedCoversCardSaid : Prop := Claim7.holds Tryd.pinned (.plain (OpenSpec.ofChange topComplementedCoversSpec)) topComplementedCoversCard

/-- THE TIED CARD OF 'scanlaw1.VectorsChosen'. -/
def vectorsChosenCard : Claim7 := { stood := { row := vectorsChosenRow, standIns := [], harness := (true, "7efeda2b8e99d809429123640e6fca6c9734a33035ca138e7d824eb04b3d0ff5"), looks := false }, kinds := [], alts := [], laidByText := true, laidKinds := [.data, .pinned], laidTests := true, laidLooks := .later }
def VectorsChosenCardSaid : Prop := Claim7.holds Tryd.pinned (.plain (OpenSpec.ofChange vectorsChosenSpec)) vectorsChosenCard

/-- THE TIED CARD OF 'scankeep1.FewestAreEnough'. -/
def fewestAreEnoughCard : Claim7 := { stood := { row := fewestAreEnoughRow, standIns := [], harness := (true, "7efeda2b8e99d809429123640e6fca6c9734a33035ca138e7d824eb04b3d0ff5"), looks := false }, kinds := [], alts := [], laidByText := true, laidKinds := [.data, .pinned], laidTests := true, laidLooks := .later }
def FewestAreEnoughCardSaid : Prop := Claim7.holds Tryd.pinned (.plain (OpenSpec.ofChange fewestAreEnoughSpec)) fewestAreEnoughCard

/-- THE TIED CARD OF 'scantop.TopFewestDetectShorts'. -/
def topFewestDetectShortsCard : Claim7 := { stood := { row := topFewestDetectShortsRow, standIns := [], harness := (true, "7efeda2b8e99d809429123640e6fca6c9734a33035ca138e7d824eb04b3d0ff5"), looks := false }, kinds := [], alts := [], laidByText := true, laidKinds := [.data, .pinned], laidTests := true, laidLooks := .later }
def TopFewestDetectShortsCardSaid : Prop := Claim7.holds Tryd.pinned (.plain (OpenSpec.ofChange topFewestDetectShortsSpec)) topFewestDetectShortsCard

/-- THE TIED CARD OF 'scankeep1.SequencesComeBack'. -/
def sequencesComeBackCard : Claim7 := { stood := { row := sequencesComeBackRow, standIns := [], harness := (true, "7efeda2b8e99d809429123640e6fca6c9734a33035ca138e7d824eb04b3d0ff5"), looks := false }, kinds := [], alts := [], laidByText := true, laidKinds := [.data, .pinned], laidTests := true, laidLooks := .later }
def SequencesComeBackCardSaid : Prop := Claim7.holds Tryd.pinned (.plain (OpenSpec.ofChange sequencesComeBackSpec)) sequencesComeBackCard

/-- THE TIED CARD OF 'scanlaw1.VectorsGenerated'. -/
def vectorsGeneratedCard : Claim7 := { stood := { row := vectorsGeneratedRow, standIns := [], harness := (true, "7efeda2b8e99d809429123640e6fca6c9734a33035ca138e7d824eb04b3d0ff5"), looks := false }, kinds := [], alts := [], laidByText := true, laidKinds := [.data, .data, .data, .data, .pinned], laidTests := true, laidLooks := .later }
def VectorsGeneratedCardSaid : Prop := Claim7.holds Tryd.pinned (.plain (OpenSpec.ofChange vectorsGeneratedSpec)) vectorsGeneratedCard

/-- THE TIED CARD OF 'scankeep1.OrdersAreOrders'. -/
def ordersAreOrdersCard : Claim7 := { stood := { row := ordersAreOrdersRow, standIns := [], harness := (true, "7efeda2b8e99d809429123640e6fca6c9734a33035ca138e7d824eb04b3d0ff5"), looks := false }, kinds := [], alts := [], laidByText := true, laidKinds := [.data, .pinned], laidTests := true, laidLooks := .later }
def OrdersAreOrdersCardSaid : Prop := Claim7.holds Tryd.pinned (.plain (OpenSpec.ofChange ordersAreOrdersSpec)) ordersAreOrdersCard

/-- THE SECOND FORM's CARD OF 'scankeep1.VectorsStay'. -/
def vectorsStayUptoCard : Claim7 := { stood := { row := vectorsStayUptoRow, standIns := [], harness := (true, "7efeda2b8e99d809429123640e6fca6c9734a33035ca138e7d824eb04b3d0ff5"), looks := false }, kinds := [], alts := [], laidByText := true, laidKinds := [.data, .pinned], laidTests := true, laidLooks := .later }
def VectorsStayUptoCardSaid : Prop := Claim7.holds Tryd.pinned (.plain (OpenSpec.upto vectorsStaySpec)) vectorsStayUptoCard

/-- THE SECOND FORM's CARD OF 'scanlaw1.VectorsChecked'. -/
def vectorsCheckedUptoCard : Claim7 := { stood := { row := vectorsCheckedUptoRow, standIns := [], harness := (true, "7efeda2b8e99d809429123640e6fca6c9734a33035ca138e7d824eb04b3d0ff5"), looks := false }, kinds := [], alts := [], laidByText := true, laidKinds := [.data, .pinned], laidTests := true, laidLooks := .later }
def VectorsCheckedUptoCardSaid : Prop := Claim7.holds Tryd.pinned (.plain (OpenSpec.upto vectorsCheckedSpec)) vectorsCheckedUptoCard

/-- THE SECOND FORM's CARD OF 'scantop.TopComplementedCovers'. -/
def topComplementedCoversUptoCard : Claim7 := { stood := { row := topComplementedCoversUptoRow, standIns := [], harness := (true, "7efeda2b8e99d809429123640e6fca6c9734a33035ca138e7d824eb04b3d0ff5"), looks := false }, kinds := [], alts := [], laidByText := true, laidKinds := [.data, .pinned], laidTests := true, laidLooks := .later }
def TopComplementedCoversUptoCardSaid : Prop := Claim7.holds Tryd.pinned (.plain (OpenSpec.upto topComplementedCoversSpec)) topComplementedCoversUptoCard

/-- THE SECOND FORM's CARD OF 'scanlaw1.VectorsChosen'. -/
def vectorsChosenUptoCard : Claim7 := { stood := { row := vectorsChosenUptoRow, standIns := [], harness := (true, "7efeda2b8e99d809429123640e6fca6c9734a33035ca138e7d824eb04b3d0ff5"), looks := false }, kinds := [], alts := [], laidByText := true, laidKinds := [.data, .pinned], laidTests := true, laidLooks := .later }
def VectorsChosenUptoCardSaid : Prop := Claim7.holds Tryd.pinned (.plain (OpenSpec.upto vectorsChosenSpec)) vectorsChosenUptoCard

/-- THE SECOND FORM's CARD OF 'scankeep1.FewestAreEnough'. -/
def fewestAreEnoughUptoCard : Claim7 := { stood := { row := fewestAreEnoughUptoRow, standIns := [], harness := (true, "7efeda2b8e99d809429123640e6fca6c9734a33035ca138e7d824eb04b3d0ff5"), looks := false }, kinds := [], alts := [], laidByText := true, laidKinds := [.data, .pinned], laidTests := true, laidLooks := .later }
def FewestAreEnoughUptoCardSaid : Prop := Claim7.holds Tryd.pinned (.plain (OpenSpec.upto fewestAreEnoughSpec)) fewestAreEnoughUptoCard

/-- THE SECOND FORM's CARD OF 'scantop.TopFewestDetectShorts'. -/
def topFewestDetectShortsUptoCard : Claim7 := { stood := { row := topFewestDetectShortsUptoRow, standIns := [], harness := (true, "7efeda2b8e99d809429123640e6fca6c9734a33035ca138e7d824eb04b3d0ff5"), looks := false }, kinds := [], alts := [], laidByText := true, laidKinds := [.data, .pinned], laidTests := true, laidLooks := .later }
def TopFewestDetectShortsUptoCardSaid : Prop := Claim7.holds Tryd.pinned (.plain (OpenSpec.upto topFewestDetectShortsSpec)) topFewestDetectShortsUptoCard

/-- THE SECOND FORM's CARD OF 'scankeep1.SequencesComeBack'. -/
def sequencesComeBackUptoCard : Claim7 := { stood := { row := sequencesComeBackUptoRow, standIns := [], harness := (true, "7efeda2b8e99d809429123640e6fca6c9734a33035ca138e7d824eb04b3d0ff5"), looks := false }, kinds := [], alts := [], laidByText := true, laidKinds := [.data, .pinned], laidTests := true, laidLooks := .later }
def SequencesComeBackUptoCardSaid : Prop := Claim7.holds Tryd.pinned (.plain (OpenSpec.upto sequencesComeBackSpec)) sequencesComeBackUptoCard

/-- THE SECOND FORM's CARD OF 'scanlaw1.VectorsGenerated'. -/
def vectorsGeneratedUptoCard : Claim7 := { stood := { row := vectorsGeneratedUptoRow, standIns := [], harness := (true, "7efeda2b8e99d809429123640e6fca6c9734a33035ca138e7d824eb04b3d0ff5"), looks := false }, kinds := [], alts := [], laidByText := true, laidKinds := [.data, .data, .data, .data, .pinned], laidTests := true, laidLooks := .later }
def VectorsGeneratedUptoCardSaid : Prop := Claim7.holds Tryd.pinned (.plain (OpenSpec.upto vectorsGeneratedSpec)) vectorsGeneratedUptoCard

/-- THE SECOND FORM's CARD OF 'scankeep1.OrdersAreOrders'. -/
def ordersAreOrdersUptoCard : Claim7 := { stood := { row := ordersAreOrdersUptoRow, standIns := [], harness := (true, "7efeda2b8e99d809429123640e6fca6c9734a33035ca138e7d824eb04b3d0ff5"), looks := false }, kinds := [], alts := [], laidByText := true, laidKinds := [.data, .pinned], laidTests := true, laidLooks := .later }
def OrdersAreOrdersUptoCardSaid : Prop := Claim7.holds Tryd.pinned (.plain (OpenSpec.upto ordersAreOrdersSpec)) ordersAreOrdersUptoCard
end Rows
end Go.Proofs.YthcldfmlfjomfaaDoor
