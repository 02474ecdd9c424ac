/-
  DictionariesComeBack holds: for every list of numbers the Go function scankeep1.DictionariesComeBack returns true, and its input reads as it did. Its row lists five tables of the library with what the text lays; the card ties them.
-/
import Derived.Test.YtpifoghhaohhaaaGreatDoorRows
import Derived.Test.YtpifoghhaohhaaaGreatDoorKDB7
import Derived.Test.YtpifoghhaohhaaaGreatDoorChecked
import Derived.Test.YtpifoghhaohhaaaGreatDoorCards
import Derived.Test.YtpifoghhaohhaaaGreatDoorTie
import Derived.ChangeSame
import Derived.ChangeVars
import Derived.JoinedOf
import Derived.LaidLaws
import Derived.LaidHandle
import Derived.PinnedBridge
import Derived.SevenTiedAt
import Derived.WalkKit
import Derived.ProofKit
import Derived.OpenShut
import Derived.SizedLaws
import Derived.ChangeOld
import Derived.Below
set_option linter.unusedVariables false
set_option linter.unusedSimpArgs false
namespace Go.Proofs.YtpifoghhaohhaaaGreatDoor
open Go.ChangeShapes Go.WideShapes Go.ChangeAt Go.RowKit
theorem dictionariesComeBack_wf : Rows.dictionariesComeBackRow.wfByText (OpenSpec.ofChange Rows.dictionariesComeBackSpec) = true := by kernel_rfl
theorem dictionariesComeBack_main : Tryz.pinned.checked.prog.mainIs = some (true, "6dd2bce1fab470415ab4e374e02ca03a17135631e63db62d769419666809ff14".toList) := by kernel_rfl
theorem dictionariesComeBack_looks : false = Tryz.pinned.checked.prog.looks [] := by kernel_rfl
theorem dictionariesComeBack_stand : Tryz.pinned.checked.prog.wantsStandIn 22 = false := by kernel_rfl
theorem dictionariesComeBack_goes : false = Rows.dictionariesComeBackRow.goesBy Tryz.pinned.checked.prog := by kernel_rfl
theorem dictionariesComeBack_said : Rows.DictionariesComeBackCardSaid :=
  Claim7.holds_tied_plain_at .later [] [.data, .data, .data, .data, .pinned] true (true, "6dd2bce1fab470415ab4e374e02ca03a17135631e63db62d769419666809ff14") false
    dictionariesComeBack_over (fun _ h => by cases h) dictionariesComeBack_wf (fun _ h => by cases h) dictionariesComeBack_row_tie rfl ⟨rfl, rfl⟩ dictionariesComeBack_main rfl
    (fun f fn hf hfn => by
      obtain rfl : f = 11 := Option.some.inj ((show Tryz.prog.funcNamed "scanchain/scankeep1.DictionariesComeBack" = some 11 by kernel_rfl).symm.trans hf) |>.symm
      obtain rfl : fn = Tryz.f11 := (Option.some.inj (Tryz.func11.symm.trans hfn)).symm
      exact ⟨dictionariesComeBack_looks, fun j t ht => by
        rw [Tryz.params11] at ht
        have h3 : t = 22 := by
          rcases j with _ | j
          · simpa using ht.symm
          · simp at ht
        subst h3
        exact dictionariesComeBack_stand⟩)
    dictionariesComeBack_goes
end Go.Proofs.YtpifoghhaohhaaaGreatDoor
