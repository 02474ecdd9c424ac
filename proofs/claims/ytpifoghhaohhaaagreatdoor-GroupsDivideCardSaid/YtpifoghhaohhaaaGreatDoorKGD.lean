/-
  GroupsDivide holds: for every list of numbers the Go function scankeep1.GroupsDivide returns true, and its input reads as it did. Its row lists five tables of the library with what the text lays; the card ties them.
-/
import Derived.Test.YtpifoghhaohhaaaGreatDoorRows
import Derived.Test.YtpifoghhaohhaaaGreatDoorKGD7
import Derived.Test.YtpifoghhaohhaaaGreatDoorChecked
import Derived.Test.YtpifoghhaohhaaaGreatDoorCards
import Derived.Test.YtpifoghhaohhaaaGreatDoorTie
import Derived.ChangeSame
import Derived.ChangeVars
import Derived.JoinedOf
import Derived.LaidLaws
import Derived.LaidHandle
import Derived.PinnedBridge
import Derived.SevenTiedAt
import Derived.WalkKit
import Derived.ProofKit
import Derived.OpenShut
import Derived.SizedLaws
import Derived.ChangeOld
import Derived.Below
set_option linter.unusedVariables false
set_option linter.unusedSimpArgs false
namespace Go.Proofs.YtpifoghhaohhaaaGreatDoor
open Go.ChangeShapes Go.WideShapes Go.ChangeAt Go.RowKit
theorem groupsDivide_wf : Rows.groupsDivideRow.wfByText (OpenSpec.ofChange Rows.groupsDivideSpec) = true := by kernel_rfl
theorem groupsDivide_main : Tryz.pinned.checked.prog.mainIs = some (true, "6dd2bce1fab470415ab4e374e02ca03a17135631e63db62d769419666809ff14".toList) := by kernel_rfl
theorem groupsDivide_looks : false = Tryz.pinned.checked.prog.looks [] := by kernel_rfl
theorem groupsDivide_stand : Tryz.pinned.checked.prog.wantsStandIn 22 = false := by kernel_rfl
theorem groupsDivide_goes : false = Rows.groupsDivideRow.goesBy Tryz.pinned.checked.prog := by kernel_rfl
theorem groupsDivide_said : Rows.GroupsDivideCardSaid :=
  Claim7.holds_tied_plain_at .later [] [.data, .data, .data, .data, .pinned] true (true, "6dd2bce1fab470415ab4e374e02ca03a17135631e63db62d769419666809ff14") false
    groupsDivide_over (fun _ h => by cases h) groupsDivide_wf (fun _ h => by cases h) groupsDivide_row_tie rfl ⟨rfl, rfl⟩ groupsDivide_main rfl
    (fun f fn hf hfn => by
      obtain rfl : f = 13 := Option.some.inj ((show Tryz.prog.funcNamed "scanchain/scankeep1.GroupsDivide" = some 13 by kernel_rfl).symm.trans hf) |>.symm
      obtain rfl : fn = Tryz.f13 := (Option.some.inj (Tryz.func13.symm.trans hfn)).symm
      exact ⟨groupsDivide_looks, fun j t ht => by
        rw [Tryz.params13] at ht
        have h3 : t = 22 := by
          rcases j with _ | j
          · simpa using ht.symm
          · simp at ht
        subst h3
        exact groupsDivide_stand⟩)
    groupsDivide_goes
end Go.Proofs.YtpifoghhaohhaaaGreatDoor
