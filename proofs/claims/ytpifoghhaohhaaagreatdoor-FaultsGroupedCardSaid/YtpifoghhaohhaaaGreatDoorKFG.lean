/-
  FaultsGrouped holds: for every list of numbers the Go function scanlaw1.FaultsGrouped returns true, and its input reads as it did. Its row lists five tables of the library with what the text lays; the card ties them.
-/
import Derived.Test.YtpifoghhaohhaaaGreatDoorRows
import Derived.Test.YtpifoghhaohhaaaGreatDoorKFG7
import Derived.Test.YtpifoghhaohhaaaGreatDoorChecked
import Derived.Test.YtpifoghhaohhaaaGreatDoorCards
import Derived.Test.YtpifoghhaohhaaaGreatDoorTie
import Derived.ChangeSame
import Derived.ChangeVars
import Derived.JoinedOf
import Derived.LaidLaws
import Derived.LaidHandle
import Derived.PinnedBridge
import Derived.SevenTiedAt
import Derived.WalkKit
import Derived.ProofKit
import Derived.OpenShut
import Derived.SizedLaws
import Derived.ChangeOld
import Derived.Below
set_option linter.unusedVariables false
set_option linter.unusedSimpArgs false
namespace Go.Proofs.YtpifoghhaohhaaaGreatDoor
open Go.ChangeShapes Go.WideShapes Go.ChangeAt Go.RowKit
theorem faultsGrouped_wf : Rows.faultsGroupedRow.wfByText (OpenSpec.ofChange Rows.faultsGroupedSpec) = true := by kernel_rfl
theorem faultsGrouped_main : Tryz.pinned.checked.prog.mainIs = some (true, "6dd2bce1fab470415ab4e374e02ca03a17135631e63db62d769419666809ff14".toList) := by kernel_rfl
theorem faultsGrouped_looks : false = Tryz.pinned.checked.prog.looks [] := by kernel_rfl
theorem faultsGrouped_stand : Tryz.pinned.checked.prog.wantsStandIn 22 = false := by kernel_rfl
theorem faultsGrouped_goes : false = Rows.faultsGroupedRow.goesBy Tryz.pinned.checked.prog := by kernel_rfl
theorem faultsGrouped_said : Rows.FaultsGroupedCardSaid :=
  Claim7.holds_tied_plain_at .later [] [.data, .data, .data, .data, .pinned] true (true, "6dd2bce1fab470415ab4e374e02ca03a17135631e63db62d769419666809ff14") false
    faultsGrouped_over (fun _ h => by cases h) faultsGrouped_wf (fun _ h => by cases h) faultsGrouped_row_tie rfl ⟨rfl, rfl⟩ faultsGrouped_main rfl
    (fun f fn hf hfn => by
      obtain rfl : f = 3 := Option.some.inj ((show Tryz.prog.funcNamed "scanchain/scanlaw1.FaultsGrouped" = some 3 by kernel_rfl).symm.trans hf) |>.symm
      obtain rfl : fn = Tryz.f3 := (Option.some.inj (Tryz.func3.symm.trans hfn)).symm
      exact ⟨faultsGrouped_looks, fun j t ht => by
        rw [Tryz.params3] at ht
        have h3 : t = 22 := by
          rcases j with _ | j
          · simpa using ht.symm
          · simp at ht
        subst h3
        exact faultsGrouped_stand⟩)
    faultsGrouped_goes
end Go.Proofs.YtpifoghhaohhaaaGreatDoor
