/-
  TheFaultIsCandidate holds: for every list of numbers the Go function scankeep1.TheFaultIsCandidate returns true, and its input reads as it did. Its row lists five tables of the library with what the text lays; the card ties them.
-/
import Derived.Test.YtpifoghhaohhaaaGreatDoorRows
import Derived.Test.YtpifoghhaohhaaaGreatDoorKFC6
import Derived.Test.YtpifoghhaohhaaaGreatDoorChecked
import Derived.Test.YtpifoghhaohhaaaGreatDoorCards
import Derived.Test.YtpifoghhaohhaaaGreatDoorTie
import Derived.ChangeSame
import Derived.ChangeVars
import Derived.JoinedOf
import Derived.LaidLaws
import Derived.LaidHandle
import Derived.PinnedBridge
import Derived.SevenTiedAt
import Derived.WalkKit
import Derived.ProofKit
import Derived.OpenShut
import Derived.SizedLaws
import Derived.ChangeOld
import Derived.Below
set_option linter.unusedVariables false
set_option linter.unusedSimpArgs false
namespace Go.Proofs.YtpifoghhaohhaaaGreatDoor
open Go.ChangeShapes Go.WideShapes Go.ChangeAt Go.RowKit
theorem theFaultIsCandidate_wf : Rows.theFaultIsCandidateRow.wfByText (OpenSpec.ofChange Rows.theFaultIsCandidateSpec) = true := by kernel_rfl
theorem theFaultIsCandidate_main : Tryz.pinned.checked.prog.mainIs = some (true, "6dd2bce1fab470415ab4e374e02ca03a17135631e63db62d769419666809ff14".toList) := by kernel_rfl
theorem theFaultIsCandidate_looks : false = Tryz.pinned.checked.prog.looks [] := by kernel_rfl
theorem theFaultIsCandidate_stand : Tryz.pinned.checked.prog.wantsStandIn 22 = false := by kernel_rfl
theorem theFaultIsCandidate_goes : false = Rows.theFaultIsCandidateRow.goesBy Tryz.pinned.checked.prog := by kernel_rfl
theorem theFaultIsCandidate_said : Rows.TheFaultIsCandidateCardSaid :=
  Claim7.holds_tied_plain_at .later [] [.data, .data, .data, .data, .pinned] true (true, "6dd2bce1fab470415ab4e374e02ca03a17135631e63db62d769419666809ff14") false
    theFaultIsCandidate_over (fun _ h => by cases h) theFaultIsCandidate_wf (fun _ h => by cases h) theFaultIsCandidate_row_tie rfl ⟨rfl, rfl⟩ theFaultIsCandidate_main rfl
    (fun f fn hf hfn => by
      obtain rfl : f = 5 := Option.some.inj ((show Tryz.prog.funcNamed "scanchain/scankeep1.TheFaultIsCandidate" = some 5 by kernel_rfl).symm.trans hf) |>.symm
      obtain rfl : fn = Tryz.f5 := (Option.some.inj (Tryz.func5.symm.trans hfn)).symm
      exact ⟨theFaultIsCandidate_looks, fun j t ht => by
        rw [Tryz.params5] at ht
        have h3 : t = 22 := by
          rcases j with _ | j
          · simpa using ht.symm
          · simp at ht
        subst h3
        exact theFaultIsCandidate_stand⟩)
    theFaultIsCandidate_goes
end Go.Proofs.YtpifoghhaohhaaaGreatDoor
