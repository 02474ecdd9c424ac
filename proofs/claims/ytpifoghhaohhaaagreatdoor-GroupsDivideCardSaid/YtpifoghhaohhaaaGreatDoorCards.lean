/-
  DERIVED. GIVEN WITH THE SEED: THE CARDS: each row of YtpifoghhaohhaaaGreatDoorRows.lean that lists a variable, with what it lists TIED to the program's text (the seventh form; the later family's looks); each row that meets fmt, with fmt's text TOLD by the authors' own Lean function (tested against real Go, not proved from fmt's source: count such statements apart). THE CARD IS WHAT COUNTS. Prove the row's statement (the work); the ties are given (YtpifoghhaohhaaaGreatDoorTie.lean); close each card by the builder's one call (the guide's Derived/Test/ToyasCard.lean, 'card_holds'). Laid BY PROGRAM, IN A SANDBOX (cutbox-door.mjs). By AI agents, Wed Nov 11 2026. No macro, syntax, notation, axiom, sorry.
-/
import Derived.Test.YtpifoghhaohhaaaGreatDoorRows
import GoSem.ClaimSeven
namespace Go.Proofs.YtpifoghhaohhaaaGreatDoor
namespace Rows

/-- THE TIED CARD OF 'scanlaw1.FaultsGrouped'. -/
def faultsGroupedCard : Claim7 := { stood := { row := faultsGroupedRow, standIns := [], harness := (true, "6dd2bce1fab470415ab4e374e02ca03a17135631e63db62d769419666809ff14"), looks := false }, kinds := [], alts := [], laidByText := true, laidKinds := [.data, .data, .data, .data, .pinned], laidTests := true, laidLooks := .later }
def FaultsGroupedCardSaid : Prop := Claim7.holds Tryz.pinned (.plain (OpenSpec.ofChange faultsGroupedSpec)) faultsGroupedCard

/-- THE TIED CARD OF 'scantop.TopDictionariesDiagnose'. -/
def topDictionariesDiagnoseCard : Claim7 := { stood := { row := topDictionariesDiagnoseRow, standIns := [], harness := (true, "6dd2bce1fab470415ab4e374e02ca03a17135631e63db62d769419666809ff14"), looks := false }, kinds := [], alts := [], laidByText := true, laidKinds := [.data, .data, .data, .data, .pinned], laidTests := true, laidLooks := .later }
def TopDictionariesDiagnoseCardSaid : Prop := Claim7.holds Tryz.pinned (.plain (OpenSpec.ofChange topDictionariesDiagnoseSpec)) topDictionariesDiagnoseCard

/-- THE TIED CARD OF 'scankeep1.TheFaultIsCandidate'. -/
def theFaultIsCandidateCard : Claim7 := { stood := { row := theFaultIsCandidateRow, standIns := [], harness := (true, "6dd2bce1fab470415ab4e374e02ca03a17135631e63db62d769419666809ff14"), looks := false }, kinds := [], alts := [], laidByText := true, laidKinds := [.data, .data, .data, .data, .pinned], laidTests := true, laidLooks := .later }
def TheFaultIsCandidateCardSaid : Prop := Claim7.holds Tryz.pinned (.plain (OpenSpec.ofChange theFaultIsCandidateSpec)) theFaultIsCandidateCard

/-- THE TIED CARD OF 'scanlaw1.FaultsFound'. -/
def faultsFoundCard : Claim7 := { stood := { row := faultsFoundRow, standIns := [], harness := (true, "6dd2bce1fab470415ab4e374e02ca03a17135631e63db62d769419666809ff14"), looks := false }, kinds := [], alts := [], laidByText := true, laidKinds := [.data, .data, .data, .data, .pinned], laidTests := true, laidLooks := .later }
def FaultsFoundCardSaid : Prop := Claim7.holds Tryz.pinned (.plain (OpenSpec.ofChange faultsFoundSpec)) faultsFoundCard

/-- THE TIED CARD OF 'scanlaw1.TestsChosen'. -/
def testsChosenCard : Claim7 := { stood := { row := testsChosenRow, standIns := [], harness := (true, "6dd2bce1fab470415ab4e374e02ca03a17135631e63db62d769419666809ff14"), looks := false }, kinds := [], alts := [], laidByText := true, laidKinds := [.data, .data, .data, .data, .pinned], laidTests := true, laidLooks := .later }
def TestsChosenCardSaid : Prop := Claim7.holds Tryz.pinned (.plain (OpenSpec.ofChange testsChosenSpec)) testsChosenCard

/-- THE TIED CARD OF 'scankeep1.ExplanationsExplain'. -/
def explanationsExplainCard : Claim7 := { stood := { row := explanationsExplainRow, standIns := [], harness := (true, "6dd2bce1fab470415ab4e374e02ca03a17135631e63db62d769419666809ff14"), looks := false }, kinds := [], alts := [], laidByText := true, laidKinds := [.data, .data, .data, .data, .pinned], laidTests := true, laidLooks := .later }
def ExplanationsExplainCardSaid : Prop := Claim7.holds Tryz.pinned (.plain (OpenSpec.ofChange explanationsExplainSpec)) explanationsExplainCard

/-- THE TIED CARD OF 'scanlaw1.DictionariesChecked'. -/
def dictionariesCheckedCard : Claim7 := { stood := { row := dictionariesCheckedRow, standIns := [], harness := (true, "6dd2bce1fab470415ab4e374e02ca03a17135631e63db62d769419666809ff14"), looks := false }, kinds := [], alts := [], laidByText := true, laidKinds := [.data, .data, .data, .data, .pinned], laidTests := true, laidLooks := .later }
def DictionariesCheckedCardSaid : Prop := Claim7.holds Tryz.pinned (.plain (OpenSpec.ofChange dictionariesCheckedSpec)) dictionariesCheckedCard

/-- THE TIED CARD OF 'scankeep1.FewestTestsResolve'. -/
def fewestTestsResolveCard : Claim7 := { stood := { row := fewestTestsResolveRow, standIns := [], harness := (true, "6dd2bce1fab470415ab4e374e02ca03a17135631e63db62d769419666809ff14"), looks := false }, kinds := [], alts := [], laidByText := true, laidKinds := [.data, .data, .data, .data, .pinned], laidTests := true, laidLooks := .later }
def FewestTestsResolveCardSaid : Prop := Claim7.holds Tryz.pinned (.plain (OpenSpec.ofChange fewestTestsResolveSpec)) fewestTestsResolveCard

/-- THE TIED CARD OF 'scankeep1.DictionariesComeBack'. -/
def dictionariesComeBackCard : Claim7 := { stood := { row := dictionariesComeBackRow, standIns := [], harness := (true, "6dd2bce1fab470415ab4e374e02ca03a17135631e63db62d769419666809ff14"), looks := false }, kinds := [], alts := [], laidByText := true, laidKinds := [.data, .data, .data, .data, .pinned], laidTests := true, laidLooks := .later }
def DictionariesComeBackCardSaid : Prop := Claim7.holds Tryz.pinned (.plain (OpenSpec.ofChange dictionariesComeBackSpec)) dictionariesComeBackCard

/-- THE TIED CARD OF 'scankeep1.DictionariesStay'. -/
def dictionariesStayCard : Claim7 := { stood := { row := dictionariesStayRow, standIns := [], harness := (true, "6dd2bce1fab470415ab4e374e02ca03a17135631e63db62d769419666809ff14"), looks := false }, kinds := [], alts := [], laidByText := true, laidKinds := [.data, .data, .data, .data, .pinned], laidTests := true, laidLooks := .later }
def DictionariesStayCardSaid : Prop := Claim7.holds Tryz.pinned (.plain (OpenSpec.ofChange dictionariesStaySpec)) dictionariesStayCard

/-- THE TIED CARD OF 'scankeep1.GroupsDivide'. -/
def groupsDivideCard : Claim7 := { stood := { row := groupsDivideRow, standIns := [], harness := (true, "6dd2bce1fab470415ab4e374e02ca03a17135631e63db62d769419666809ff14"), looks := false }, kinds := [], alts := [], laidByText := true, laidKinds := [.data, .data, .data, .data, .pinned], laidTests := true, laidLooks := .later }
def GroupsDivideCardSaid : Prop := Claim7.holds Tryz.pinned (.plain (OpenSpec.ofChange groupsDivideSpec)) groupsDivideCard

/-- THE SECOND FORM's CARD OF 'scanlaw1.FaultsGrouped'. -/
def faultsGroupedUptoCard : Claim7 := { stood := { row := faultsGroupedUptoRow, standIns := [], harness := (true, "6dd2bce1fab470415ab4e374e02ca03a17135631e63db62d769419666809ff14"), looks := false }, kinds := [], alts := [], laidByText := true, laidKinds := [.data, .data, .data, .data, .pinned], laidTests := true, laidLooks := .later }
def FaultsGroupedUptoCardSaid : Prop := Claim7.holds Tryz.pinned (.plain (OpenSpec.upto faultsGroupedSpec)) faultsGroupedUptoCard

/-- THE SECOND FORM's CARD OF 'scantop.TopDictionariesDiagnose'. -/
def topDictionariesDiagnoseUptoCard : Claim7 := { stood := { row := topDictionariesDiagnoseUptoRow, standIns := [], harness := (true, "6dd2bce1fab470415ab4e374e02ca03a17135631e63db62d769419666809ff14"), looks := false }, kinds := [], alts := [], laidByText := true, laidKinds := [.data, .data, .data, .data, .pinned], laidTests := true, laidLooks := .later }
def TopDictionariesDiagnoseUptoCardSaid : Prop := Claim7.holds Tryz.pinned (.plain (OpenSpec.upto topDictionariesDiagnoseSpec)) topDictionariesDiagnoseUptoCard

/-- THE SECOND FORM's CARD OF 'scankeep1.TheFaultIsCandidate'. -/
def theFaultIsCandidateUptoCard : Claim7 := { stood := { row := theFaultIsCandidateUptoRow, standIns := [], harness := (true, "6dd2bce1fab470415ab4e374e02ca03a17135631e63db62d769419666809ff14"), looks := false }, kinds := [], alts := [], laidByText := true, laidKinds := [.data, .data, .data, .data, .pinned], laidTests := true, laidLooks := .later }
def TheFaultIsCandidateUptoCardSaid : Prop := Claim7.holds Tryz.pinned (.plain (OpenSpec.upto theFaultIsCandidateSpec)) theFaultIsCandidateUptoCard

/-- THE SECOND FORM's CARD OF 'scanlaw1.FaultsFound'. -/
def faultsFoundUptoCard : Claim7 := { stood := { row := faultsFoundUptoRow, standIns := [], harness := (true, "6dd2bce1fab470415ab4e374e02ca03a17135631e63db62d769419666809ff14"), looks := false }, kinds := [], alts := [], laidByText := true, laidKinds := [.data, .data, .data, .data, .pinned], laidTests := true, laidLooks := .later }
def FaultsFoundUptoCardSaid : Prop := Claim7.holds Tryz.pinned (.plain (OpenSpec.upto faultsFoundSpec)) faultsFoundUptoCard

/-- THE SECOND FORM's CARD OF 'scanlaw1.TestsChosen'. -/
def testsChosenUptoCard : Claim7 := { stood := { row := testsChosenUptoRow, standIns := [], harness := (true, "6dd2bce1fab470415ab4e374e02ca03a17135631e63db62d769419666809ff14"), looks := false }, kinds := [], alts := [], laidByText := true, laidKinds := [.data, .data, .data, .data, .pinned], laidTests := true, laidLooks := .later }
def TestsChosenUptoCardSaid : Prop := Claim7.holds Tryz.pinned (.plain (OpenSpec.upto testsChosenSpec)) testsChosenUptoCard

/-- THE SECOND FORM's CARD OF 'scankeep1.ExplanationsExplain'. -/
def explanationsExplainUptoCard : Claim7 := { stood := { row := explanationsExplainUptoRow, standIns := [], harness := (true, "6dd2bce1fab470415ab4e374e02ca03a17135631e63db62d769419666809ff14"), looks := false }, kinds := [], alts := [], laidByText := true, laidKinds := [.data, .data, .data, .data, .pinned], laidTests := true, laidLooks := .later }
def ExplanationsExplainUptoCardSaid : Prop := Claim7.holds Tryz.pinned (.plain (OpenSpec.upto explanationsExplainSpec)) explanationsExplainUptoCard

/-- THE SECOND FORM's CARD OF 'scanlaw1.DictionariesChecked'. -/
def dictionariesCheckedUptoCard : Claim7 := { stood := { row := dictionariesCheckedUptoRow, standIns := [], harness := (true, "6dd2bce1fab470415ab4e374e02ca03a17135631e63db62d769419666809ff14"), looks := false }, kinds := [], alts := [], laidByText := true, laidKinds := [.data, .data, .data, .data, .pinned], laidTests := true, laidLooks := .later }
def DictionariesCheckedUptoCardSaid : Prop := Claim7.holds Tryz.pinned (.plain (OpenSpec.upto dictionariesCheckedSpec)) dictionariesCheckedUptoCard

/-- THE SECOND FORM's CARD OF 'scankeep1.FewestTestsResolve'. -/
def fewestTestsResolveUptoCard : Claim7 := { stood := { row := fewestTestsResolveUptoRow, standIns := [], harness := (true, "6dd2bce1fab470415ab4e374e02ca03a17135631e63db62d769419666809ff14"), looks := false }, kinds := [], alts := [], laidByText := true, laidKinds := [.data, .data, .data, .data, .pinned], laidTests := true, laidLooks := .later }
def FewestTestsResolveUptoCardSaid : Prop := Claim7.holds Tryz.pinned (.plain (OpenSpec.upto fewestTestsResolveSpec)) fewestTestsResolveUptoCard

/-- THE SECOND FORM's CARD OF 'scankeep1.DictionariesComeBack'. -/
def dictionariesComeBackUptoCard : Claim7 := { stood := { row := dictionariesComeBackUptoRow, standIns := [], harness := (true, "6dd2bce1fab470415ab4e374e02ca03a17135631e63db62d769419666809ff14"), looks := false }, kinds := [], alts := [], laidByText := true, laidKinds := [.data, .data, .data, .data, .pinned], laidTests := true, laidLooks := .later }
def DictionariesComeBackUptoCardSaid : Prop := Claim7.holds Tryz.pinned (.plain (OpenSpec.upto dictionariesComeBackSpec)) dictionariesComeBackUptoCard

/-- THE SECOND FORM's CARD OF 'scankeep1.DictionariesStay'. -/
def dictionariesStayUptoCard : Claim7 := { stood := { row := dictionariesStayUptoRow, standIns := [], harness := (true, "6dd2bce1fab470415ab4e374e02ca03a17135631e63db62d769419666809ff14"), looks := false }, kinds := [], alts := [], laidByText := true, laidKinds := [.data, .data, .data, .data, .pinned], laidTests := true, laidLooks := .later }
def DictionariesStayUptoCardSaid : Prop := Claim7.holds Tryz.pinned (.plain (OpenSpec.upto dictionariesStaySpec)) dictionariesStayUptoCard

/-- THE SECOND FORM's CARD OF 'scankeep1.GroupsDivide'. -/
def groupsDivideUptoCard : Claim7 := { stood := { row := groupsDivideUptoRow, standIns := [], harness := (true, "6dd2bce1fab470415ab4e374e02ca03a17135631e63db62d769419666809ff14"), looks := false }, kinds := [], alts := [], laidByText := true, laidKinds := [.data, .data, .data, .data, .pinned], laidTests := true, laidLooks := .later }
def GroupsDivideUptoCardSaid : Prop := Claim7.holds Tryz.pinned (.plain (OpenSpec.upto groupsDivideSpec)) groupsDivideUptoCard
end Rows
end Go.Proofs.YtpifoghhaohhaaaGreatDoor
