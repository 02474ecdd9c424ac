/-
  DERIVED. GIVEN WITH THE SEED: THE CARDS: each row of YtahjohieahehjaaDoorRows.lean that lists a variable, with what it lists TIED to the program's text (the seventh form; the later family's looks); each row that meets fmt, with fmt's text TOLD by the authors' own Lean function (tested against real Go, not proved from fmt's source: count such statements apart). THE CARD IS WHAT COUNTS. Prove the row's statement (the work); the ties are given (YtahjohieahehjaaDoorTie.lean); close each card by the builder's one call (the guide's Derived/Test/ToyasCard.lean, 'card_holds'). Laid BY PROGRAM, IN A SANDBOX (cutbox-door.mjs). By AI agents, Wed Nov 11 2026. No macro, syntax, notation, axiom, sorry.
-/
import Derived.Test.YtahjohieahehjaaDoorRows
import GoSem.ClaimSeven
namespace Go.Proofs.YtahjohieahehjaaDoor
namespace Rows

/-- THE TIED CARD OF 'scanlaw1.StatesKnown'. -/
def statesKnownCard : Claim7 := { stood := { row := statesKnownRow, standIns := [], harness := (true, "4594ce61ce5dd5151f985a2ddd9e4e6c0861f3269adcf9fee8d16fc2c96ddc04"), looks := false }, kinds := [], alts := [], laidByText := true, laidKinds := [.data, .pinned], laidTests := true, laidLooks := .later }
def StatesKnownCardSaid : Prop := Claim7.holds Tryd.pinned (.plain (OpenSpec.ofChange statesKnownSpec)) statesKnownCard

/-- THE TIED CARD OF 'scanlaw1.LongSequences'. -/
def longSequencesCard : Claim7 := { stood := { row := longSequencesRow, standIns := [], harness := (true, "4594ce61ce5dd5151f985a2ddd9e4e6c0861f3269adcf9fee8d16fc2c96ddc04"), looks := false }, kinds := [], alts := [], laidByText := true, laidKinds := [.data, .pinned], laidTests := true, laidLooks := .later }
def LongSequencesCardSaid : Prop := Claim7.holds Tryd.pinned (.plain (OpenSpec.ofChange longSequencesSpec)) longSequencesCard

/-- THE TIED CARD OF 'scankeep1.FiveOnesReset'. -/
def fiveOnesResetCard : Claim7 := { stood := { row := fiveOnesResetRow, standIns := [], harness := (true, "4594ce61ce5dd5151f985a2ddd9e4e6c0861f3269adcf9fee8d16fc2c96ddc04"), looks := false }, kinds := [], alts := [], laidByText := true, laidKinds := [.data, .pinned], laidTests := true, laidLooks := .later }
def FiveOnesResetCardSaid : Prop := Claim7.holds Tryd.pinned (.plain (OpenSpec.ofChange fiveOnesResetSpec)) fiveOnesResetCard

/-- THE SECOND FORM's CARD OF 'scanlaw1.StatesKnown'. -/
def statesKnownUptoCard : Claim7 := { stood := { row := statesKnownUptoRow, standIns := [], harness := (true, "4594ce61ce5dd5151f985a2ddd9e4e6c0861f3269adcf9fee8d16fc2c96ddc04"), looks := false }, kinds := [], alts := [], laidByText := true, laidKinds := [.data, .pinned], laidTests := true, laidLooks := .later }
def StatesKnownUptoCardSaid : Prop := Claim7.holds Tryd.pinned (.plain (OpenSpec.upto statesKnownSpec)) statesKnownUptoCard

/-- THE SECOND FORM's CARD OF 'scanlaw1.LongSequences'. -/
def longSequencesUptoCard : Claim7 := { stood := { row := longSequencesUptoRow, standIns := [], harness := (true, "4594ce61ce5dd5151f985a2ddd9e4e6c0861f3269adcf9fee8d16fc2c96ddc04"), looks := false }, kinds := [], alts := [], laidByText := true, laidKinds := [.data, .pinned], laidTests := true, laidLooks := .later }
def LongSequencesUptoCardSaid : Prop := Claim7.holds Tryd.pinned (.plain (OpenSpec.upto longSequencesSpec)) longSequencesUptoCard

/-- THE SECOND FORM's CARD OF 'scankeep1.FiveOnesReset'. -/
def fiveOnesResetUptoCard : Claim7 := { stood := { row := fiveOnesResetUptoRow, standIns := [], harness := (true, "4594ce61ce5dd5151f985a2ddd9e4e6c0861f3269adcf9fee8d16fc2c96ddc04"), looks := false }, kinds := [], alts := [], laidByText := true, laidKinds := [.data, .pinned], laidTests := true, laidLooks := .later }
def FiveOnesResetUptoCardSaid : Prop := Claim7.holds Tryd.pinned (.plain (OpenSpec.upto fiveOnesResetSpec)) fiveOnesResetUptoCard
end Rows
end Go.Proofs.YtahjohieahehjaaDoor
