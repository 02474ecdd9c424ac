/-
  DERIVED. GIVEN WITH THE SEED: THE CARDS: each row of YtmgfcjblclanmaaDoorRows.lean that lists a variable, with what it lists TIED to the program's text (the seventh form; the later family's looks); each row that meets fmt, with fmt's text TOLD by the authors' own Lean function (tested against real Go, not proved from fmt's source: count such statements apart). THE CARD IS WHAT COUNTS. Prove the row's statement (the work); the ties are given (YtmgfcjblclanmaaDoorTie.lean); close each card by the builder's one call (the guide's Derived/Test/ToyasCard.lean, 'card_holds'). Laid BY PROGRAM, IN A SANDBOX (cutbox-door.mjs). By AI agents, Wed Nov 11 2026. No macro, syntax, notation, axiom, sorry.
-/
import Derived.Test.YtmgfcjblclanmaaDoorRows
import GoSem.ClaimSeven
namespace Go.Proofs.YtmgfcjblclanmaaDoor
namespace Rows

/-- THE TIED CARD OF 'scankeep1.RingsHaveAll'. -/
def ringsHaveAllCard : Claim7 := { stood := { row := ringsHaveAllRow, standIns := [], harness := (true, "c69ea7bab5cde8fafe249a1d1296c4508e15d0fbc71fe72f1ab7b8a076947883"), looks := false }, kinds := [], alts := [], laidByText := true, laidKinds := [.data, .data, .data], laidTests := true, laidLooks := .later }
def RingsHaveAllCardSaid : Prop := Claim7.holds Tryd.pinned (.plain (OpenSpec.ofChange ringsHaveAllSpec)) ringsHaveAllCard

/-- THE TIED CARD OF 'scankeep1.MergedWafersAgree'. -/
def mergedWafersAgreeCard : Claim7 := { stood := { row := mergedWafersAgreeRow, standIns := [], harness := (true, "c69ea7bab5cde8fafe249a1d1296c4508e15d0fbc71fe72f1ab7b8a076947883"), looks := false }, kinds := [], alts := [], laidByText := true, laidKinds := [.data, .pinned], laidTests := true, laidLooks := .later }
def MergedWafersAgreeCardSaid : Prop := Claim7.holds Tryd.pinned (.plain (OpenSpec.ofChange mergedWafersAgreeSpec)) mergedWafersAgreeCard

/-- THE TIED CARD OF 'scankeep1.EachDieOnce'. -/
def eachDieOnceCard : Claim7 := { stood := { row := eachDieOnceRow, standIns := [], harness := (true, "c69ea7bab5cde8fafe249a1d1296c4508e15d0fbc71fe72f1ab7b8a076947883"), looks := false }, kinds := [], alts := [], laidByText := true, laidKinds := [.data, .data, .data], laidTests := true, laidLooks := .later }
def EachDieOnceCardSaid : Prop := Claim7.holds Tryd.pinned (.plain (OpenSpec.ofChange eachDieOnceSpec)) eachDieOnceCard

/-- THE SECOND FORM's CARD OF 'scankeep1.RingsHaveAll'. -/
def ringsHaveAllUptoCard : Claim7 := { stood := { row := ringsHaveAllUptoRow, standIns := [], harness := (true, "c69ea7bab5cde8fafe249a1d1296c4508e15d0fbc71fe72f1ab7b8a076947883"), looks := false }, kinds := [], alts := [], laidByText := true, laidKinds := [.data, .data, .data], laidTests := true, laidLooks := .later }
def RingsHaveAllUptoCardSaid : Prop := Claim7.holds Tryd.pinned (.plain (OpenSpec.upto ringsHaveAllSpec)) ringsHaveAllUptoCard

/-- THE SECOND FORM's CARD OF 'scankeep1.MergedWafersAgree'. -/
def mergedWafersAgreeUptoCard : Claim7 := { stood := { row := mergedWafersAgreeUptoRow, standIns := [], harness := (true, "c69ea7bab5cde8fafe249a1d1296c4508e15d0fbc71fe72f1ab7b8a076947883"), looks := false }, kinds := [], alts := [], laidByText := true, laidKinds := [.data, .pinned], laidTests := true, laidLooks := .later }
def MergedWafersAgreeUptoCardSaid : Prop := Claim7.holds Tryd.pinned (.plain (OpenSpec.upto mergedWafersAgreeSpec)) mergedWafersAgreeUptoCard

/-- THE SECOND FORM's CARD OF 'scankeep1.EachDieOnce'. -/
def eachDieOnceUptoCard : Claim7 := { stood := { row := eachDieOnceUptoRow, standIns := [], harness := (true, "c69ea7bab5cde8fafe249a1d1296c4508e15d0fbc71fe72f1ab7b8a076947883"), looks := false }, kinds := [], alts := [], laidByText := true, laidKinds := [.data, .data, .data], laidTests := true, laidLooks := .later }
def EachDieOnceUptoCardSaid : Prop := Claim7.holds Tryd.pinned (.plain (OpenSpec.upto eachDieOnceSpec)) eachDieOnceUptoCard
end Rows
end Go.Proofs.YtmgfcjblclanmaaDoor
