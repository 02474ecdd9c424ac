/-
  What was seen: lists of tests and responses; whether a row responds so.
-/
import Derived.Test.YtpifoghhaohhaaaGreatDoorKFC5
import Derived.Test.YtpifoghhaohhaaaGreatDoorKFC3
import Derived.Lib.Bytealg
import Derived.Laws.Externs
import Derived.Test.YtpifoghhaohhaaaGreatDoorProg
import Derived.Test.YtpifoghhaohhaaaGreatDoorChecked
import Derived.Handed
import Derived.HandedShaped
import Derived.Shelf.Vars
import Derived.KernelRfl
import Derived.Test.YtpifoghhaohhaaaGreatDoorRows
import Derived.Test.YtpifoghhaohhaaaGreatDoorCards
import Derived.Test.YtpifoghhaohhaaaGreatDoorTie
import Derived.ChangeSame
import Derived.ChangeVars
import Derived.JoinedOf
import Derived.LaidLaws
import Derived.LaidHandle
import Derived.PinnedBridge
import Derived.SevenTiedAt
import Derived.WalkKit
import Derived.ProofKit
import Derived.OpenShut
import Derived.SizedLaws
import Derived.ChangeOld
import Derived.Below
set_option linter.unusedVariables false
set_option linter.unusedSimpArgs false
set_option maxRecDepth 100000
namespace Go.Proofs.YtpifoghhaohhaaaGreatDoor
open Go.RowKit Go.Shelf Go.Lib
abbrev SeenL := List (Int × List UInt8)
def sT (S : SeenL) (k : Nat) : Int := (S.getD k (0, [])).1
def sR (S : SeenL) (k : Nat) : List UInt8 := (S.getD k (0, [])).2
def arrSn (S : SeenL) : Option ABlk := some (.arr 69 S.length [.i .i64 fun k => sT S k, .s fun k => sR S k])
def litSn (nl : Bool) (S : SeenL) : PV := .lit nl S.length [.i .i64 fun k => sT S k, .s fun k => sR S k]
def boxRw (f : List UInt8) (b : Bool) (L : List (List UInt8)) : Option ABlk := some (.box 67 [.str f, .lit b L.length [.s fun j => L.getD j []]])
def offB (L : List (List UInt8)) (t : Int) (r : List UInt8) : Bool := !(L.getD t.toNat [] == r)
def SnIn (n : Nat) (S : SeenL) : Prop := ∀ k, k < S.length → 0 ≤ sT S k ∧ sT S k < n
theorem consF_c (f : List UInt8) (b : Bool) (L : List (List UInt8)) (t : Int) (r : List UInt8) (ia nid : Nat) (hia : ia < nid) (h0 : 0 ≤ t) (h1 : t < L.length) (hL : L.length ≤ 1000000) :
    ACall Tryz.prog 190 [.agg [.int .i64 t, .str r], .ptr ia 0] [(ia, boxRw f b L)] nid (.bool (offB L t r)) [] := by
  obtain ⟨a1, a2, a3, a4, a5, a6, a7, a8, a9⟩ := id_all hia
  refine acall_run c190 (by simp [a190]) ?_
  unfold boxRw
  simp -dsimp only [a190, aqT, aqU, aqN, ↓seqK, ↓blkK, ↓loopK, step, stepBin, Nat.reduceBEq, Nat.reduceBeqDiff, Nat.add_assoc nid, Nat.reduceAdd, reduceCtorEq, ↓reduceIte, Nat.reduceLeDiff, Nat.reduceBneDiff, Option.toList, ← Int.ofNat_tmod, ← Int.ofNat_tdiv, Nat.reduceLT, Int.cast_ofNat_Int, Int.reduceBEq, Int.reduceBNe, Int.reduceLT, Int.reduceLE, Int.reduceAdd, Int.reduceSub, Int.reduceMul, Int.reduceToNat, Int.reduceNeg, Int.reduceTMod, Int.reduceEq, not_false_eq_true, Int.reducePow, Int.reduceFDiv, Nat.reducePow, Nat.reduceSub, Nat.reduceMul, Nat.min_eq_left, Nat.reduceEqDiff, BEq.rfl, Int.tdiv_one, LN_succ, a1, a2, a3, a4, a5, a6, a7, a8, a9]
  refine ⟨⟨by omega, by omega⟩, ?_⟩
  refine RetOK.go [] [] (.inl rfl) ?_
  simp [a190, cvT, step, res, a1, a2, a3, a4, a5, a6, a7, a8, a9, offB, boxRw, -List.getD_eq_getElem?_getD]
def idxR (F : Nat → Bool) (n : Nat) : Int := if (List.range n).any F = true then (((List.range n).findIdx F : Nat) : Int) else -1
theorem idxR_at {F : Nat → Bool} {n k : Nat} (hk : k < n) (h : F k = true) (h0 : ∀ j, j < k → F j = false) : idxR F n = (k : Nat) := by
  have e : (List.range n).findIdx F = k := (List.findIdx_eq (by simpa using hk)).2 ⟨by simpa using h, fun j hj => by simpa using h0 j hj⟩
  unfold idxR
  rw [if_pos, e]
  exact List.any_eq_true.2 ⟨k, List.mem_range.2 hk, h⟩
theorem idxR_no {F : Nat → Bool} {n : Nat} (h0 : ∀ j, j < n → F j = false) : idxR F n = -1 := by
  unfold idxR
  rw [if_neg]
  intro h
  obtain ⟨x, hx, hf⟩ := List.any_eq_true.1 h
  rw [h0 x (List.mem_range.1 hx)] at hf; cases hf
theorem idxR_any (F : Nat → Bool) (n : Nat) : decide (0 ≤ idxR F n) = (List.range n).any F := by
  unfold idxR
  cases h : (List.range n).any F <;> simp
theorem indexSn_c (f : Nat) (F : Nat → Bool) (nl : Bool) (S : SeenL) (g : List UInt8) (b : Bool) (L : List (List UInt8)) (ia nid : Nat) (hia : ia < nid) (hl : S.length ≤ 1000000)
    (hf : ∀ k, k < S.length → ∀ nid', ia < nid' → ACall Tryz.prog f [.agg [.int .i64 (sT S k), .str (sR S k)], .ptr ia 0] [(ia, boxRw g b L)] nid' (.bool (F k)) []) :
    ACall Tryz.prog 205 [litSn nl S, .fn f [.ptr ia 0]] [(ia, boxRw g b L)] nid (.int .i64 (idxR F S.length)) [] := by
  obtain ⟨a1, a2, a3, a4, a5, a6, a7, a8, a9⟩ := id_all hia
  refine acall_run c205 (by simp [a205]) ?_
  unfold litSn
  simp -dsimp only [a205, aqT, aqU, aqN, ↓seqK, ↓blkK, ↓loopK, step, stepBin, Nat.reduceBEq, Nat.reduceBeqDiff, Nat.add_assoc nid, Nat.reduceAdd, reduceCtorEq, ↓reduceIte, Nat.reduceLeDiff, Nat.reduceBneDiff, Option.toList, ← Int.ofNat_tmod, ← Int.ofNat_tdiv, Nat.reduceLT, Int.cast_ofNat_Int, Int.reduceBEq, Int.reduceBNe, Int.reduceLT, Int.reduceLE, Int.reduceAdd, Int.reduceSub, Int.reduceMul, Int.reduceToNat, Int.reduceNeg, Int.reduceTMod, Int.reduceEq, not_false_eq_true, Int.reducePow, Int.reduceFDiv, Nat.reducePow, Nat.reduceSub, Nat.reduceMul, Nat.min_eq_left, Nat.reduceEqDiff, BEq.rfl, Int.tdiv_one, LN_succ, a1, a2, a3, a4, a5, a6, a7, a8, a9]
  refine LP.mkP (fun k : Nat => k ≤ S.length ∧ ∀ j, j < k → F j = false) (fun k : Nat => ⟨[(8, .int .i64 k), (7, .int .i64 S.length), (0, litSn nl S), (1, .fn f [.ptr ia 0])], [(ia, boxRw g b L)], nid + 100, nid⟩) (fun k => S.length + 1 - k) 0 ⟨by omega, fun j hj => by omega⟩ (Cov.go [] [] ?_) (fun k hk => ?_)
  · simp [cvT, step, res, litSn, boxRw, a1, a2, a3, a4, a5, a6, a7, a8, a9, -List.getD_eq_getElem?_getD]
  obtain ⟨hk, hb⟩ := hk
  unfold litSn
  simp -dsimp only [aqT, aqU, aqN, ↓seqK, ↓blkK, ↓loopK, step, stepBin, Nat.reduceBEq, Nat.reduceBeqDiff, Nat.add_assoc nid, Nat.reduceAdd, reduceCtorEq, ↓reduceIte, Nat.reduceLeDiff, Nat.reduceBneDiff, Option.toList, ← Int.ofNat_tmod, ← Int.ofNat_tdiv, Nat.reduceLT, Int.cast_ofNat_Int, Int.reduceBEq, Int.reduceBNe, Int.reduceLT, Int.reduceLE, Int.reduceAdd, Int.reduceSub, Int.reduceMul, Int.reduceToNat, Int.reduceNeg, Int.reduceTMod, Int.reduceEq, not_false_eq_true, Int.reducePow, Int.reduceFDiv, Nat.reducePow, Nat.reduceSub, Nat.reduceMul, Nat.min_eq_left, Nat.reduceEqDiff, BEq.rfl, Int.tdiv_one, LN_succ, a1, a2, a3, a4, a5, a6, a7, a8, a9]
  refine S2.dec (fun h3 => ?_) (fun h3 => ?_) <;> simp -dsimp only [aqT, aqU, aqN, ↓seqK, ↓blkK, ↓loopK, step, stepBin, Nat.reduceBEq, Nat.reduceBeqDiff, Nat.add_assoc nid, Nat.reduceAdd, reduceCtorEq, ↓reduceIte, Nat.reduceLeDiff, Nat.reduceBneDiff, Option.toList, ← Int.ofNat_tmod, ← Int.ofNat_tdiv, Nat.reduceLT, Int.cast_ofNat_Int, Int.reduceBEq, Int.reduceBNe, Int.reduceLT, Int.reduceLE, Int.reduceAdd, Int.reduceSub, Int.reduceMul, Int.reduceToNat, Int.reduceNeg, Int.reduceTMod, Int.reduceEq, not_false_eq_true, Int.reducePow, Int.reduceFDiv, Nat.reducePow, Nat.reduceSub, Nat.reduceMul, Nat.min_eq_left, Nat.reduceEqDiff, BEq.rfl, Int.tdiv_one, LN_succ, a1, a2, a3, a4, a5, a6, a7, a8, a9]
  · have hkl : k < S.length := by omega
    refine ⟨by omega, CallO.on (hf k hkl _ (by omega)) (subH_get (by simp only [aqT, aqU, aqN, ↓seqK, ↓blkK, ↓loopK, step, stepBin, Nat.reduceBEq, Nat.reduceBeqDiff, Nat.add_assoc nid, Nat.reduceAdd, reduceCtorEq, ↓reduceIte, Nat.reduceLeDiff, Nat.reduceBneDiff, Option.toList, ← Int.ofNat_tmod, ← Int.ofNat_tdiv, Nat.reduceLT, Int.cast_ofNat_Int, Int.reduceBEq, Int.reduceBNe, Int.reduceLT, Int.reduceLE, Int.reduceAdd, Int.reduceSub, Int.reduceMul, Int.reduceToNat, Int.reduceNeg, Int.reduceTMod, Int.reduceEq, not_false_eq_true, Int.reducePow, Int.reduceFDiv, Nat.reducePow, Nat.reduceSub, Nat.reduceMul, Nat.min_eq_left, Nat.reduceEqDiff, BEq.rfl, Int.tdiv_one, LN_succ, a1, a2, a3, a4, a5, a6, a7, a8, a9])) ?_⟩
    simp -dsimp only [aqT, aqU, aqN, ↓seqK, ↓blkK, ↓loopK, step, stepBin, Nat.reduceBEq, Nat.reduceBeqDiff, Nat.add_assoc nid, Nat.reduceAdd, reduceCtorEq, ↓reduceIte, Nat.reduceLeDiff, Nat.reduceBneDiff, Option.toList, ← Int.ofNat_tmod, ← Int.ofNat_tdiv, Nat.reduceLT, Int.cast_ofNat_Int, Int.reduceBEq, Int.reduceBNe, Int.reduceLT, Int.reduceLE, Int.reduceAdd, Int.reduceSub, Int.reduceMul, Int.reduceToNat, Int.reduceNeg, Int.reduceTMod, Int.reduceEq, not_false_eq_true, Int.reducePow, Int.reduceFDiv, Nat.reducePow, Nat.reduceSub, Nat.reduceMul, Nat.min_eq_left, Nat.reduceEqDiff, BEq.rfl, Int.tdiv_one, LN_succ, a1, a2, a3, a4, a5, a6, a7, a8, a9]
    refine S2.intro (fun h4 => ?_) (fun h4 => ?_) <;> simp -dsimp only [aqT, aqU, aqN, ↓seqK, ↓blkK, ↓loopK, step, stepBin, Nat.reduceBEq, Nat.reduceBeqDiff, Nat.add_assoc nid, Nat.reduceAdd, reduceCtorEq, ↓reduceIte, Nat.reduceLeDiff, Nat.reduceBneDiff, Option.toList, ← Int.ofNat_tmod, ← Int.ofNat_tdiv, Nat.reduceLT, Int.cast_ofNat_Int, Int.reduceBEq, Int.reduceBNe, Int.reduceLT, Int.reduceLE, Int.reduceAdd, Int.reduceSub, Int.reduceMul, Int.reduceToNat, Int.reduceNeg, Int.reduceTMod, Int.reduceEq, not_false_eq_true, Int.reducePow, Int.reduceFDiv, Nat.reducePow, Nat.reduceSub, Nat.reduceMul, Nat.min_eq_left, Nat.reduceEqDiff, BEq.rfl, Int.tdiv_one, LN_succ, a1, a2, a3, a4, a5, a6, a7, a8, a9]
    · rw [idxR_at hkl h4 hb]
      refine RetOK.go [] [] (.inl rfl) ?_
      simp [a205, cvT, step, res, boxRw, a1, a2, a3, a4, a5, a6, a7, a8, a9, -List.getD_eq_getElem?_getD]
    · refine ⟨by unfold inI64; omega, k + 1, ⟨⟨by omega, fun j hj => ?_⟩, by omega⟩, Cov.go [] [] ?_⟩
      · rcases (by omega : j < k ∨ j = k) with hj | hj
        · exact hb j hj
        · rw [hj]; exact h4
      · simp [cvT, step, res, litSn, boxRw, a1, a2, a3, a4, a5, a6, a7, a8, a9, -List.getD_eq_getElem?_getD]
  · have hkn : k = S.length := by omega
    subst hkn
    rw [idxR_no hb]
    refine RetOK.go [] [] (.inl rfl) ?_
    simp [a205, cvT, step, res, boxRw, a1, a2, a3, a4, a5, a6, a7, a8, a9, -List.getD_eq_getElem?_getD]
theorem containsSn_c (f : Nat) (F : Nat → Bool) (nl : Bool) (S : SeenL) (g : List UInt8) (b : Bool) (L : List (List UInt8)) (ia nid : Nat) (hia : ia < nid) (hl : S.length ≤ 1000000)
    (hf : ∀ k, k < S.length → ∀ nid', ia < nid' → ACall Tryz.prog f [.agg [.int .i64 (sT S k), .str (sR S k)], .ptr ia 0] [(ia, boxRw g b L)] nid' (.bool (F k)) []) :
    ACall Tryz.prog 125 [litSn nl S, .fn f [.ptr ia 0]] [(ia, boxRw g b L)] nid (.bool ((List.range S.length).any F)) [] := by
  obtain ⟨a1, a2, a3, a4, a5, a6, a7, a8, a9⟩ := id_all hia
  refine acall_run c125 (by simp [a125]) ?_
  simp -dsimp only [a125, aqT, aqU, aqN, ↓seqK, ↓blkK, ↓loopK, step, stepBin, Nat.reduceBEq, Nat.reduceBeqDiff, Nat.add_assoc nid, Nat.reduceAdd, reduceCtorEq, ↓reduceIte, Nat.reduceLeDiff, Nat.reduceBneDiff, Option.toList, ← Int.ofNat_tmod, ← Int.ofNat_tdiv, Nat.reduceLT, Int.cast_ofNat_Int, Int.reduceBEq, Int.reduceBNe, Int.reduceLT, Int.reduceLE, Int.reduceAdd, Int.reduceSub, Int.reduceMul, Int.reduceToNat, Int.reduceNeg, Int.reduceTMod, Int.reduceEq, not_false_eq_true, Int.reducePow, Int.reduceFDiv, Nat.reducePow, Nat.reduceSub, Nat.reduceMul, Nat.min_eq_left, Nat.reduceEqDiff, BEq.rfl, Int.tdiv_one, LN_succ, a1, a2, a3, a4, a5, a6, a7, a8, a9]
  refine CallO.on (indexSn_c f F nl S g b L ia _ (by omega) hl hf) (fun _ _ h => h) ?_
  simp -dsimp only [aqT, aqU, aqN, ↓seqK, ↓blkK, ↓loopK, step, stepBin, Nat.reduceBEq, Nat.reduceBeqDiff, Nat.add_assoc nid, Nat.reduceAdd, reduceCtorEq, ↓reduceIte, Nat.reduceLeDiff, Nat.reduceBneDiff, Option.toList, ← Int.ofNat_tmod, ← Int.ofNat_tdiv, Nat.reduceLT, Int.cast_ofNat_Int, Int.reduceBEq, Int.reduceBNe, Int.reduceLT, Int.reduceLE, Int.reduceAdd, Int.reduceSub, Int.reduceMul, Int.reduceToNat, Int.reduceNeg, Int.reduceTMod, Int.reduceEq, not_false_eq_true, Int.reducePow, Int.reduceFDiv, Nat.reducePow, Nat.reduceSub, Nat.reduceMul, Nat.min_eq_left, Nat.reduceEqDiff, BEq.rfl, Int.tdiv_one, LN_succ, a1, a2, a3, a4, a5, a6, a7, a8, a9]
  have e := idxR_any F S.length
  generalize idxR F S.length = i at *
  rw [← e]
  refine RetOK.go [] [] (.inl rfl) ?_
  simp [a125, cvT, step, res, boxRw, a1, a2, a3, a4, a5, a6, a7, a8, a9, -List.getD_eq_getElem?_getD]
def consB (L : List (List UInt8)) (S : SeenL) : Bool := !(List.range S.length).any (fun k => offB L (sT S k) (sR S k))
theorem cons_c (f : List UInt8) (b : Bool) (L : List (List UInt8)) (nl : Bool) (S : SeenL) (nid : Nat) (hl : S.length ≤ 1000000) (hL : L.length ≤ 1000000) (hS : SnIn L.length S) :
    ACall Tryz.prog 111 [.agg [.str f, litS b L], litSn nl S] [] nid (.bool (consB L S)) [] := by
  refine acall_run c111 (by simp [a111]) ?_
  unfold litS
  simp -dsimp only [aqT, aqU, aqN, ↓seqK, ↓blkK, ↓loopK, step, stepBin, Nat.reduceBEq, Nat.reduceBeqDiff, Nat.add_assoc nid, Nat.reduceAdd, reduceCtorEq, ↓reduceIte, Nat.reduceLeDiff, Nat.reduceBneDiff, Option.toList, ← Int.ofNat_tmod, ← Int.ofNat_tdiv, Nat.reduceLT, Int.cast_ofNat_Int, Int.reduceBEq, Int.reduceBNe, Int.reduceLT, Int.reduceLE, Int.reduceAdd, Int.reduceSub, Int.reduceMul, Int.reduceToNat, Int.reduceNeg, Int.reduceTMod, Int.reduceEq, not_false_eq_true, Int.reducePow, Int.reduceFDiv, Nat.reducePow, Nat.reduceSub, Nat.reduceMul, Nat.min_eq_left, Nat.reduceEqDiff, BEq.rfl, Int.tdiv_one, LN_succ, a111]
  refine CallO.on (containsSn_c 190 (fun k => offB L (sT S k) (sR S k)) nl S f b L nid _ (by omega) hl (fun k hk nid' h' => consF_c f b L _ _ nid nid' h' (hS k hk).1 (hS k hk).2 hL)) (subH_get (by simp only [aqT, aqU, aqN, ↓seqK, ↓blkK, ↓loopK, step, stepBin, Nat.reduceBEq, Nat.reduceBeqDiff, Nat.add_assoc nid, Nat.reduceAdd, reduceCtorEq, ↓reduceIte, Nat.reduceLeDiff, Nat.reduceBneDiff, Option.toList, ← Int.ofNat_tmod, ← Int.ofNat_tdiv, Nat.reduceLT, Int.cast_ofNat_Int, Int.reduceBEq, Int.reduceBNe, Int.reduceLT, Int.reduceLE, Int.reduceAdd, Int.reduceSub, Int.reduceMul, Int.reduceToNat, Int.reduceNeg, Int.reduceTMod, Int.reduceEq, not_false_eq_true, Int.reducePow, Int.reduceFDiv, Nat.reducePow, Nat.reduceSub, Nat.reduceMul, Nat.min_eq_left, Nat.reduceEqDiff, BEq.rfl, Int.tdiv_one, LN_succ, boxRw])) ?_
  simp -dsimp only [aqT, aqU, aqN, ↓seqK, ↓blkK, ↓loopK, step, stepBin, Nat.reduceBEq, Nat.reduceBeqDiff, Nat.add_assoc nid, Nat.reduceAdd, reduceCtorEq, ↓reduceIte, Nat.reduceLeDiff, Nat.reduceBneDiff, Option.toList, ← Int.ofNat_tmod, ← Int.ofNat_tdiv, Nat.reduceLT, Int.cast_ofNat_Int, Int.reduceBEq, Int.reduceBNe, Int.reduceLT, Int.reduceLE, Int.reduceAdd, Int.reduceSub, Int.reduceMul, Int.reduceToNat, Int.reduceNeg, Int.reduceTMod, Int.reduceEq, not_false_eq_true, Int.reducePow, Int.reduceFDiv, Nat.reducePow, Nat.reduceSub, Nat.reduceMul, Nat.min_eq_left, Nat.reduceEqDiff, BEq.rfl, Int.tdiv_one, LN_succ]
  unfold consB
  refine RetOK.go [] [] (.inl rfl) ?_
  simp [a111, cvT, step, res, -List.getD_eq_getElem?_getD]
end Go.Proofs.YtpifoghhaohhaaaGreatDoor
namespace Go.Proofs.YtpifoghhaohhaaaGreatDoor
open Go.RowKit Go.Shelf Go.Lib
def seenBad (n : Nat) (S : SeenL) (k : Nat) : Int :=
  if outB (sT S k) 0 ((n : Int) - 1) = true then 1 else if oddS (sR S k) = true then 9 else if 0 < k ∧ sT S k ≤ sT S (k - 1) then 7 else 0
def seenV (G : List (List UInt8)) (R : RowL) (S : SeenL) : Int :=
  if dictV G R ≠ 0 then dictV G R else if 100 < S.length then 2 else firstBad (seenBad G.length S) (List.range S.length)
structure SnW (S : SeenL) : Prop where
  l : S.length ≤ 1000000
  r : ∀ k, (sR S k).length ≤ 1000000
theorem seenV_row {G : List (List UInt8)} {R : RowL} {S : SeenL} {k : Nat} {e : Int} (h1 : dictV G R = 0) (h2 : ¬ 100 < S.length) (hk : k < S.length) (h0 : ∀ j, j < k → seenBad G.length S j = 0) (h : seenBad G.length S k = e) (he : e ≠ 0) : seenV G R S = e := by
  unfold seenV
  rw [if_neg (by simp [h1]), if_neg h2, firstR_hit hk h0 (by rw [h]; exact he), h]
theorem seenV_good {G : List (List UInt8)} {R : RowL} {S : SeenL} (h1 : dictV G R = 0) (h2 : ¬ 100 < S.length) (h0 : ∀ j, j < S.length → seenBad G.length S j = 0) : seenV G R S = 0 := by
  unfold seenV
  rw [if_neg (by simp [h1]), if_neg h2, firstR_none h0]
set_option maxHeartbeats 1000000 in
theorem seenD_c (g0 r0 : Bool) (b : Nat → Bool) (G : List (List UInt8)) (R : RowL) (nl : Bool) (S : SeenL) (nid : Nat) (hB : DictW G R) (hS : SnW S) : ACall Tryz.prog 64 [dictP g0 r0 b G R, litSn nl S] [] nid (.int .i64 (seenV G R S)) [] := by
  have hgl := hB.gl
  have hsl := hS.l
  have hd := fun m => dictD_c g0 r0 b G R m hB
  refine acall_sr c64 (by simp [a64]) ?_
  unfold a64
  refine SR.seq ?_
  unfold dictP litSn at *
  simp -dsimp only [aqT, aqU, aqN, ↓seqK, ↓blkK, ↓loopK, step, stepBin, Nat.reduceBEq, Nat.reduceBeqDiff, Nat.add_assoc nid, Nat.reduceAdd, reduceCtorEq, ↓reduceIte, Nat.reduceLeDiff, Nat.reduceBneDiff, Option.toList, ← Int.ofNat_tmod, ← Int.ofNat_tdiv, Nat.reduceLT, Int.cast_ofNat_Int, Int.reduceBEq, Int.reduceBNe, Int.reduceLT, Int.reduceLE, Int.reduceAdd, Int.reduceSub, Int.reduceMul, Int.reduceToNat, Int.reduceNeg, Int.reduceTMod, Int.reduceEq, not_false_eq_true, Int.reducePow, Int.reduceFDiv, Nat.reducePow, Nat.reduceSub, Nat.reduceMul, Nat.min_eq_left, Nat.reduceEqDiff, BEq.rfl, Int.tdiv_one, LN_succ]
  refine SR.seqW (ι := {_u : Unit // dictV G R = 0}) (fun _ => ⟨[(2, .ptr nid 0), (1, litSn nl S)], [(nid, boxP2 g0 r0 b G R)], nid + 100, nid⟩) ?_ (fun ⟨_, h1⟩ => ?_)
  · refine SR.run (t := .mk) ?_
    simp -dsimp only [aqT, aqU, aqN, ↓seqK, ↓blkK, ↓loopK, step, stepBin, Nat.reduceBEq, Nat.reduceBeqDiff, Nat.add_assoc nid, Nat.reduceAdd, reduceCtorEq, ↓reduceIte, Nat.reduceLeDiff, Nat.reduceBneDiff, Option.toList, ← Int.ofNat_tmod, ← Int.ofNat_tdiv, Nat.reduceLT, Int.cast_ofNat_Int, Int.reduceBEq, Int.reduceBNe, Int.reduceLT, Int.reduceLE, Int.reduceAdd, Int.reduceSub, Int.reduceMul, Int.reduceToNat, Int.reduceNeg, Int.reduceTMod, Int.reduceEq, not_false_eq_true, Int.reducePow, Int.reduceFDiv, Nat.reducePow, Nat.reduceSub, Nat.reduceMul, Nat.min_eq_left, Nat.reduceEqDiff, BEq.rfl, Int.tdiv_one, LN_succ]
    refine CallO.pure (hd _) ?_
    simp -dsimp only [aqT, aqU, aqN, ↓seqK, ↓blkK, ↓loopK, step, stepBin, Nat.reduceBEq, Nat.reduceBeqDiff, Nat.add_assoc nid, Nat.reduceAdd, reduceCtorEq, ↓reduceIte, Nat.reduceLeDiff, Nat.reduceBneDiff, Option.toList, ← Int.ofNat_tmod, ← Int.ofNat_tdiv, Nat.reduceLT, Int.cast_ofNat_Int, Int.reduceBEq, Int.reduceBNe, Int.reduceLT, Int.reduceLE, Int.reduceAdd, Int.reduceSub, Int.reduceMul, Int.reduceToNat, Int.reduceNeg, Int.reduceTMod, Int.reduceEq, not_false_eq_true, Int.reducePow, Int.reduceFDiv, Nat.reducePow, Nat.reduceSub, Nat.reduceMul, Nat.min_eq_left, Nat.reduceEqDiff, BEq.rfl, Int.tdiv_one, LN_succ]
    refine S2.intro (fun h1 => ?_) (fun h1 => ?_) <;> simp -dsimp only [aqT, aqU, aqN, ↓seqK, ↓blkK, ↓loopK, step, stepBin, Nat.reduceBEq, Nat.reduceBeqDiff, Nat.add_assoc nid, Nat.reduceAdd, reduceCtorEq, ↓reduceIte, Nat.reduceLeDiff, Nat.reduceBneDiff, Option.toList, ← Int.ofNat_tmod, ← Int.ofNat_tdiv, Nat.reduceLT, Int.cast_ofNat_Int, Int.reduceBEq, Int.reduceBNe, Int.reduceLT, Int.reduceLE, Int.reduceAdd, Int.reduceSub, Int.reduceMul, Int.reduceToNat, Int.reduceNeg, Int.reduceTMod, Int.reduceEq, not_false_eq_true, Int.reducePow, Int.reduceFDiv, Nat.reducePow, Nat.reduceSub, Nat.reduceMul, Nat.min_eq_left, Nat.reduceEqDiff, BEq.rfl, Int.tdiv_one, LN_succ]
    · have e : seenV G R S = dictV G R := by unfold seenV; rw [if_pos (by simpa using h1)]
      rw [e]
      refine RetOK.pure (.inl rfl) rfl ?_
      simp [cvT, step, res]
    · refine ⟨⟨(), by simpa using h1⟩, Cov.go [] [] ?_⟩
      simp [cvT, step, res, boxP2, litSn, ColsEq.refl, -List.getD_eq_getElem?_getD]
  refine SR.seqW (ι := {_u : Unit // ¬ 100 < S.length}) (fun _ => ⟨[(2, .ptr nid 0), (1, litSn nl S)], [(nid, boxP2 g0 r0 b G R)], nid + 150, nid⟩) ?_ (fun ⟨_, h2⟩ => ?_)
  · unfold litSn
    refine SR.run (t := .mk) ?_
    simp -dsimp only [aqT, aqU, aqN, ↓seqK, ↓blkK, ↓loopK, step, stepBin, Nat.reduceBEq, Nat.reduceBeqDiff, Nat.add_assoc nid, Nat.reduceAdd, reduceCtorEq, ↓reduceIte, Nat.reduceLeDiff, Nat.reduceBneDiff, Option.toList, ← Int.ofNat_tmod, ← Int.ofNat_tdiv, Nat.reduceLT, Int.cast_ofNat_Int, Int.reduceBEq, Int.reduceBNe, Int.reduceLT, Int.reduceLE, Int.reduceAdd, Int.reduceSub, Int.reduceMul, Int.reduceToNat, Int.reduceNeg, Int.reduceTMod, Int.reduceEq, not_false_eq_true, Int.reducePow, Int.reduceFDiv, Nat.reducePow, Nat.reduceSub, Nat.reduceMul, Nat.min_eq_left, Nat.reduceEqDiff, BEq.rfl, Int.tdiv_one, LN_succ]
    refine S2.dec (fun h2 => ?_) (fun h2 => ?_) <;> simp -dsimp only [aqT, aqU, aqN, ↓seqK, ↓blkK, ↓loopK, step, stepBin, Nat.reduceBEq, Nat.reduceBeqDiff, Nat.add_assoc nid, Nat.reduceAdd, reduceCtorEq, ↓reduceIte, Nat.reduceLeDiff, Nat.reduceBneDiff, Option.toList, ← Int.ofNat_tmod, ← Int.ofNat_tdiv, Nat.reduceLT, Int.cast_ofNat_Int, Int.reduceBEq, Int.reduceBNe, Int.reduceLT, Int.reduceLE, Int.reduceAdd, Int.reduceSub, Int.reduceMul, Int.reduceToNat, Int.reduceNeg, Int.reduceTMod, Int.reduceEq, not_false_eq_true, Int.reducePow, Int.reduceFDiv, Nat.reducePow, Nat.reduceSub, Nat.reduceMul, Nat.min_eq_left, Nat.reduceEqDiff, BEq.rfl, Int.tdiv_one, LN_succ]
    · have e : seenV G R S = 2 := by unfold seenV; rw [if_neg (by simp [h1]), if_pos (by omega)]
      rw [e]
      refine RetOK.pure (.inl rfl) rfl ?_
      simp [cvT, step, res]
    · refine ⟨⟨(), by omega⟩, Cov.go [] [] ?_⟩
      simp [cvT, step, res, boxP2, litSn, ColsEq.refl, -List.getD_eq_getElem?_getD]
  refine SR.seqW (ι := {_u : Unit // ∀ j, j < S.length → seenBad G.length S j = 0}) (fun _ => ⟨[], [], nid + 2000, nid⟩) ?_ (fun ⟨_, h5⟩ => ?_)
  · unfold boxP2 litSn
    refine SR.seqTo ⟨[(18, .int .i64 0), (17, .int .i64 S.length), (16, litSn nl S), (2, .ptr nid 0), (1, litSn nl S)], [(nid, boxP2 g0 r0 b G R)], nid + 200, nid⟩ ?_ ?_
    · simp -dsimp only [aqT, aqU, aqN, ↓seqK, ↓blkK, ↓loopK, step, stepBin, Nat.reduceBEq, Nat.reduceBeqDiff, Nat.add_assoc nid, Nat.reduceAdd, reduceCtorEq, ↓reduceIte, Nat.reduceLeDiff, Nat.reduceBneDiff, Option.toList, ← Int.ofNat_tmod, ← Int.ofNat_tdiv, Nat.reduceLT, Int.cast_ofNat_Int, Int.reduceBEq, Int.reduceBNe, Int.reduceLT, Int.reduceLE, Int.reduceAdd, Int.reduceSub, Int.reduceMul, Int.reduceToNat, Int.reduceNeg, Int.reduceTMod, Int.reduceEq, not_false_eq_true, Int.reducePow, Int.reduceFDiv, Nat.reducePow, Nat.reduceSub, Nat.reduceMul, Nat.min_eq_left, Nat.reduceEqDiff, BEq.rfl, Int.tdiv_one, LN_succ]
      refine Cov.go [] [] ?_
      simp [cvT, step, res, boxP2, litSn, ColsEq.refl, -List.getD_eq_getElem?_getD]
    refine SR.block ?_
    refine SR.loopP (fun k : Nat => k ≤ S.length ∧ ∀ j, j < k → seenBad G.length S j = 0) (fun k : Nat => ⟨[(18, .int .i64 k), (17, .int .i64 S.length), (16, litSn nl S), (2, .ptr nid 0), (1, litSn nl S)], [(nid, boxP2 g0 r0 b G R)], nid + 200, nid⟩) (fun k => S.length + 1 - k) 0 ⟨by omega, fun j hj => by omega⟩ (Cov.drop (by omega) ?_) (fun k hk => ?_)
    · simp only [SlotsIn, aqT, aqU, aqN, ↓seqK, ↓blkK, ↓loopK, step, stepBin, Nat.reduceBEq, Nat.reduceBeqDiff, Nat.add_assoc nid, Nat.reduceAdd, reduceCtorEq, ↓reduceIte, Nat.reduceLeDiff, Nat.reduceBneDiff, Option.toList, ← Int.ofNat_tmod, ← Int.ofNat_tdiv, Nat.reduceLT]
      try simp
    obtain ⟨hk, hall⟩ := hk
    refine SR.seq ?_
    simp -dsimp only [aqT, aqU, aqN, ↓seqK, ↓blkK, ↓loopK, step, stepBin, Nat.reduceBEq, Nat.reduceBeqDiff, Nat.add_assoc nid, Nat.reduceAdd, reduceCtorEq, ↓reduceIte, Nat.reduceLeDiff, Nat.reduceBneDiff, Option.toList, ← Int.ofNat_tmod, ← Int.ofNat_tdiv, Nat.reduceLT, Int.cast_ofNat_Int, Int.reduceBEq, Int.reduceBNe, Int.reduceLT, Int.reduceLE, Int.reduceAdd, Int.reduceSub, Int.reduceMul, Int.reduceToNat, Int.reduceNeg, Int.reduceTMod, Int.reduceEq, not_false_eq_true, Int.reducePow, Int.reduceFDiv, Nat.reducePow, Nat.reduceSub, Nat.reduceMul, Nat.min_eq_left, Nat.reduceEqDiff, BEq.rfl, Int.tdiv_one, LN_succ]
    refine SR.seq ?_
    simp -dsimp only [aqT, aqU, aqN, ↓seqK, ↓blkK, ↓loopK, step, stepBin, Nat.reduceBEq, Nat.reduceBeqDiff, Nat.add_assoc nid, Nat.reduceAdd, reduceCtorEq, ↓reduceIte, Nat.reduceLeDiff, Nat.reduceBneDiff, Option.toList, ← Int.ofNat_tmod, ← Int.ofNat_tdiv, Nat.reduceLT, Int.cast_ofNat_Int, Int.reduceBEq, Int.reduceBNe, Int.reduceLT, Int.reduceLE, Int.reduceAdd, Int.reduceSub, Int.reduceMul, Int.reduceToNat, Int.reduceNeg, Int.reduceTMod, Int.reduceEq, not_false_eq_true, Int.reducePow, Int.reduceFDiv, Nat.reducePow, Nat.reduceSub, Nat.reduceMul, Nat.min_eq_left, Nat.reduceEqDiff, BEq.rfl, Int.tdiv_one, LN_succ]
    refine S2.dec (fun h4 => ?_) (fun h4 => ?_) <;> simp -dsimp only [aqT, aqU, aqN, ↓seqK, ↓blkK, ↓loopK, step, stepBin, Nat.reduceBEq, Nat.reduceBeqDiff, Nat.add_assoc nid, Nat.reduceAdd, reduceCtorEq, ↓reduceIte, Nat.reduceLeDiff, Nat.reduceBneDiff, Option.toList, ← Int.ofNat_tmod, ← Int.ofNat_tdiv, Nat.reduceLT, Int.cast_ofNat_Int, Int.reduceBEq, Int.reduceBNe, Int.reduceLT, Int.reduceLE, Int.reduceAdd, Int.reduceSub, Int.reduceMul, Int.reduceToNat, Int.reduceNeg, Int.reduceTMod, Int.reduceEq, not_false_eq_true, Int.reducePow, Int.reduceFDiv, Nat.reducePow, Nat.reduceSub, Nat.reduceMul, Nat.min_eq_left, Nat.reduceEqDiff, BEq.rfl, Int.tdiv_one, LN_succ]
    · have hkl : k < S.length := by omega
      have hbad := fun e => seenV_row (e := e) h1 h2 hkl hall
      have hr1 := hS.r k
      refine SR.seqW (ι := {_u : Unit // seenBad G.length S k = 0}) (fun _ => ⟨[(18, .int .i64 k), (17, .int .i64 S.length), (16, litSn nl S), (2, .ptr nid 0), (1, litSn nl S)], [(nid, boxP2 g0 r0 b G R)], nid + 900, nid⟩) ?_ (fun ⟨_, h6⟩ => ?_)
      · refine SR.block ?_
        unfold litSn
        refine SR.seqTo ⟨[(7, .ptr (nid + 300) 0), (6, .int .i64 k), (18, .int .i64 k), (17, .int .i64 S.length), (16, litSn nl S), (2, .ptr nid 0), (1, litSn nl S)], [(nid + 300, some (.box 69 [.int .i64 (sT S k), .str (sR S k)])), (nid, boxP2 g0 r0 b G R)], nid + 400, nid⟩ ?_ ?_
        · simp -dsimp only [aqT, aqU, aqN, ↓seqK, ↓blkK, ↓loopK, step, stepBin, Nat.reduceBEq, Nat.reduceBeqDiff, Nat.add_assoc nid, Nat.reduceAdd, reduceCtorEq, ↓reduceIte, Nat.reduceLeDiff, Nat.reduceBneDiff, Option.toList, ← Int.ofNat_tmod, ← Int.ofNat_tdiv, Nat.reduceLT, Int.cast_ofNat_Int, Int.reduceBEq, Int.reduceBNe, Int.reduceLT, Int.reduceLE, Int.reduceAdd, Int.reduceSub, Int.reduceMul, Int.reduceToNat, Int.reduceNeg, Int.reduceTMod, Int.reduceEq, not_false_eq_true, Int.reducePow, Int.reduceFDiv, Nat.reducePow, Nat.reduceSub, Nat.reduceMul, Nat.min_eq_left, Nat.reduceEqDiff, BEq.rfl, Int.tdiv_one, LN_succ]
          refine ⟨by omega, Cov.go [(nid + 300, nid + 216)] [] ?_⟩
          simp [cvT, step, res, boxP2, litSn, ColsEq.refl, -List.getD_eq_getElem?_getD]
        unfold boxP2 litSn
        refine SR.block ?_
        refine SR.seq ?_
        simp -dsimp only [aqT, aqU, aqN, ↓seqK, ↓blkK, ↓loopK, step, stepBin, Nat.reduceBEq, Nat.reduceBeqDiff, Nat.add_assoc nid, Nat.reduceAdd, reduceCtorEq, ↓reduceIte, Nat.reduceLeDiff, Nat.reduceBneDiff, Option.toList, ← Int.ofNat_tmod, ← Int.ofNat_tdiv, Nat.reduceLT, Int.cast_ofNat_Int, Int.reduceBEq, Int.reduceBNe, Int.reduceLT, Int.reduceLE, Int.reduceAdd, Int.reduceSub, Int.reduceMul, Int.reduceToNat, Int.reduceNeg, Int.reduceTMod, Int.reduceEq, not_false_eq_true, Int.reducePow, Int.reduceFDiv, Nat.reducePow, Nat.reduceSub, Nat.reduceMul, Nat.min_eq_left, Nat.reduceEqDiff, BEq.rfl, Int.tdiv_one, LN_succ]
        refine ⟨by unfold inI64; omega, CallO.pure (out_c _ _ _ _) ?_⟩
        simp -dsimp only [aqT, aqU, aqN, ↓seqK, ↓blkK, ↓loopK, step, stepBin, Nat.reduceBEq, Nat.reduceBeqDiff, Nat.add_assoc nid, Nat.reduceAdd, reduceCtorEq, ↓reduceIte, Nat.reduceLeDiff, Nat.reduceBneDiff, Option.toList, ← Int.ofNat_tmod, ← Int.ofNat_tdiv, Nat.reduceLT, Int.cast_ofNat_Int, Int.reduceBEq, Int.reduceBNe, Int.reduceLT, Int.reduceLE, Int.reduceAdd, Int.reduceSub, Int.reduceMul, Int.reduceToNat, Int.reduceNeg, Int.reduceTMod, Int.reduceEq, not_false_eq_true, Int.reducePow, Int.reduceFDiv, Nat.reducePow, Nat.reduceSub, Nat.reduceMul, Nat.min_eq_left, Nat.reduceEqDiff, BEq.rfl, Int.tdiv_one, LN_succ]
        refine SR.cond (b := outB (sT S k) 0 ((G.length : Int) - 1)) (by simp [AX.val, getS]) (fun h => ?_) (fun h => ?_)
        · rw [hbad 1 (by unfold seenBad; rw [if_pos h]) (by decide)]
          refine SR.run (t := .mk) ?_
          simp -dsimp only [aqT, aqU, aqN, ↓seqK, ↓blkK, ↓loopK, step, stepBin, Nat.reduceBEq, Nat.reduceBeqDiff, Nat.add_assoc nid, Nat.reduceAdd, reduceCtorEq, ↓reduceIte, Nat.reduceLeDiff, Nat.reduceBneDiff, Option.toList, ← Int.ofNat_tmod, ← Int.ofNat_tdiv, Nat.reduceLT, Int.cast_ofNat_Int, Int.reduceBEq, Int.reduceBNe, Int.reduceLT, Int.reduceLE, Int.reduceAdd, Int.reduceSub, Int.reduceMul, Int.reduceToNat, Int.reduceNeg, Int.reduceTMod, Int.reduceEq, not_false_eq_true, Int.reducePow, Int.reduceFDiv, Nat.reducePow, Nat.reduceSub, Nat.reduceMul, Nat.min_eq_left, Nat.reduceEqDiff, BEq.rfl, Int.tdiv_one, LN_succ]
          refine RetOK.pure (.inl rfl) rfl ?_
          simp [cvT, step, res]
        have hk1 : ¬ outB (sT S k) 0 ((G.length : Int) - 1) = true := by simp [h]
        refine SR.seq ?_
        simp -dsimp only [aqT, aqU, aqN, ↓seqK, ↓blkK, ↓loopK, step, stepBin, Nat.reduceBEq, Nat.reduceBeqDiff, Nat.add_assoc nid, Nat.reduceAdd, reduceCtorEq, ↓reduceIte, Nat.reduceLeDiff, Nat.reduceBneDiff, Option.toList, ← Int.ofNat_tmod, ← Int.ofNat_tdiv, Nat.reduceLT, Int.cast_ofNat_Int, Int.reduceBEq, Int.reduceBNe, Int.reduceLT, Int.reduceLE, Int.reduceAdd, Int.reduceSub, Int.reduceMul, Int.reduceToNat, Int.reduceNeg, Int.reduceTMod, Int.reduceEq, not_false_eq_true, Int.reducePow, Int.reduceFDiv, Nat.reducePow, Nat.reduceSub, Nat.reduceMul, Nat.min_eq_left, Nat.reduceEqDiff, BEq.rfl, Int.tdiv_one, LN_succ]
        refine CallO.pure (respD_c _ _ hr1) ?_
        simp -dsimp only [aqT, aqU, aqN, ↓seqK, ↓blkK, ↓loopK, step, stepBin, Nat.reduceBEq, Nat.reduceBeqDiff, Nat.add_assoc nid, Nat.reduceAdd, reduceCtorEq, ↓reduceIte, Nat.reduceLeDiff, Nat.reduceBneDiff, Option.toList, ← Int.ofNat_tmod, ← Int.ofNat_tdiv, Nat.reduceLT, Int.cast_ofNat_Int, Int.reduceBEq, Int.reduceBNe, Int.reduceLT, Int.reduceLE, Int.reduceAdd, Int.reduceSub, Int.reduceMul, Int.reduceToNat, Int.reduceNeg, Int.reduceTMod, Int.reduceEq, not_false_eq_true, Int.reducePow, Int.reduceFDiv, Nat.reducePow, Nat.reduceSub, Nat.reduceMul, Nat.min_eq_left, Nat.reduceEqDiff, BEq.rfl, Int.tdiv_one, LN_succ]
        refine SR.cond (b := !respB (sR S k)) (by simp [AX.val, getS]) (fun h => ?_) (fun h => ?_)
        · rw [hbad 9 (by unfold seenBad; rw [if_neg hk1, if_pos (show oddS (sR S k) = true from h)]) (by decide)]
          refine SR.run (t := .mk) ?_
          simp -dsimp only [aqT, aqU, aqN, ↓seqK, ↓blkK, ↓loopK, step, stepBin, Nat.reduceBEq, Nat.reduceBeqDiff, Nat.add_assoc nid, Nat.reduceAdd, reduceCtorEq, ↓reduceIte, Nat.reduceLeDiff, Nat.reduceBneDiff, Option.toList, ← Int.ofNat_tmod, ← Int.ofNat_tdiv, Nat.reduceLT, Int.cast_ofNat_Int, Int.reduceBEq, Int.reduceBNe, Int.reduceLT, Int.reduceLE, Int.reduceAdd, Int.reduceSub, Int.reduceMul, Int.reduceToNat, Int.reduceNeg, Int.reduceTMod, Int.reduceEq, not_false_eq_true, Int.reducePow, Int.reduceFDiv, Nat.reducePow, Nat.reduceSub, Nat.reduceMul, Nat.min_eq_left, Nat.reduceEqDiff, BEq.rfl, Int.tdiv_one, LN_succ]
          refine RetOK.pure (.inl rfl) rfl ?_
          simp [cvT, step, res]
        have hk2 : ¬ oddS (sR S k) = true := by unfold oddS; simpa using h
        refine SR.seqTo ⟨[(36, .bool (decide ((0 : Int) < k) && decide (sT S k ≤ sT S (k - 1)))), (18, .int .i64 k), (17, .int .i64 S.length), (16, litSn nl S), (2, .ptr nid 0), (1, litSn nl S)], [(nid, boxP2 g0 r0 b G R)], nid + 700, nid⟩ ?_ ?_
        · simp -dsimp only [aqT, aqU, aqN, ↓seqK, ↓blkK, ↓loopK, step, stepBin, Nat.reduceBEq, Nat.reduceBeqDiff, Nat.add_assoc nid, Nat.reduceAdd, reduceCtorEq, ↓reduceIte, Nat.reduceLeDiff, Nat.reduceBneDiff, Option.toList, ← Int.ofNat_tmod, ← Int.ofNat_tdiv, Nat.reduceLT, Int.cast_ofNat_Int, Int.reduceBEq, Int.reduceBNe, Int.reduceLT, Int.reduceLE, Int.reduceAdd, Int.reduceSub, Int.reduceMul, Int.reduceToNat, Int.reduceNeg, Int.reduceTMod, Int.reduceEq, not_false_eq_true, Int.reducePow, Int.reduceFDiv, Nat.reducePow, Nat.reduceSub, Nat.reduceMul, Nat.min_eq_left, Nat.reduceEqDiff, BEq.rfl, Int.tdiv_one, LN_succ]
          refine S2.dec (fun h0 => ?_) (fun h0 => ?_) <;> simp -dsimp only [aqT, aqU, aqN, ↓seqK, ↓blkK, ↓loopK, step, stepBin, Nat.reduceBEq, Nat.reduceBeqDiff, Nat.add_assoc nid, Nat.reduceAdd, reduceCtorEq, ↓reduceIte, Nat.reduceLeDiff, Nat.reduceBneDiff, Option.toList, ← Int.ofNat_tmod, ← Int.ofNat_tdiv, Nat.reduceLT, Int.cast_ofNat_Int, Int.reduceBEq, Int.reduceBNe, Int.reduceLT, Int.reduceLE, Int.reduceAdd, Int.reduceSub, Int.reduceMul, Int.reduceToNat, Int.reduceNeg, Int.reduceTMod, Int.reduceEq, not_false_eq_true, Int.reducePow, Int.reduceFDiv, Nat.reducePow, Nat.reduceSub, Nat.reduceMul, Nat.min_eq_left, Nat.reduceEqDiff, BEq.rfl, Int.tdiv_one, LN_succ]
          · have e : ((k : Int) - 1).toNat = k - 1 := by omega
            rw [e]
            refine ⟨by unfold inI64; omega, by omega, Cov.go [] [] ?_⟩
            simp [cvT, step, res, boxP2, litSn, ColsEq.refl, decide_eq_true h0, -List.getD_eq_getElem?_getD]
            try omega
          · refine Cov.go [] [] ?_
            simp [cvT, step, res, boxP2, litSn, ColsEq.refl, decide_eq_false h0, -List.getD_eq_getElem?_getD]
            try omega
        refine SR.cond (b := decide ((0 : Int) < k) && decide (sT S k ≤ sT S (k - 1))) (by simp [AX.val, getS]) (fun h => ?_) (fun h => ?_)
        · simp only [Bool.and_eq_true, decide_eq_true_eq] at h
          rw [hbad 7 (by unfold seenBad; rw [if_neg hk1, if_neg hk2, if_pos ⟨by omega, h.2⟩]) (by decide)]
          refine SR.run (t := .mk) ?_
          simp -dsimp only [aqT, aqU, aqN, ↓seqK, ↓blkK, ↓loopK, step, stepBin, Nat.reduceBEq, Nat.reduceBeqDiff, Nat.add_assoc nid, Nat.reduceAdd, reduceCtorEq, ↓reduceIte, Nat.reduceLeDiff, Nat.reduceBneDiff, Option.toList, ← Int.ofNat_tmod, ← Int.ofNat_tdiv, Nat.reduceLT, Int.cast_ofNat_Int, Int.reduceBEq, Int.reduceBNe, Int.reduceLT, Int.reduceLE, Int.reduceAdd, Int.reduceSub, Int.reduceMul, Int.reduceToNat, Int.reduceNeg, Int.reduceTMod, Int.reduceEq, not_false_eq_true, Int.reducePow, Int.reduceFDiv, Nat.reducePow, Nat.reduceSub, Nat.reduceMul, Nat.min_eq_left, Nat.reduceEqDiff, BEq.rfl, Int.tdiv_one, LN_succ]
          refine RetOK.pure (.inl rfl) rfl ?_
          simp [cvT, step, res]
        have hk4 : ¬ (0 < k ∧ sT S k ≤ sT S (k - 1)) := fun ⟨e1, e2⟩ => by
          rw [decide_eq_true e2, decide_eq_true (by omega)] at h
          simp at h
        refine SR.run (t := .mk) ?_
        simp -dsimp only [aqT, aqU, aqN, ↓seqK, ↓blkK, ↓loopK, step, stepBin, Nat.reduceBEq, Nat.reduceBeqDiff, Nat.add_assoc nid, Nat.reduceAdd, reduceCtorEq, ↓reduceIte, Nat.reduceLeDiff, Nat.reduceBneDiff, Option.toList, ← Int.ofNat_tmod, ← Int.ofNat_tdiv, Nat.reduceLT, Int.cast_ofNat_Int, Int.reduceBEq, Int.reduceBNe, Int.reduceLT, Int.reduceLE, Int.reduceAdd, Int.reduceSub, Int.reduceMul, Int.reduceToNat, Int.reduceNeg, Int.reduceTMod, Int.reduceEq, not_false_eq_true, Int.reducePow, Int.reduceFDiv, Nat.reducePow, Nat.reduceSub, Nat.reduceMul, Nat.min_eq_left, Nat.reduceEqDiff, BEq.rfl, Int.tdiv_one, LN_succ]
        refine ⟨⟨(), by unfold seenBad; rw [if_neg hk1, if_neg hk2, if_neg hk4]⟩, Cov.go [] [] ?_⟩
        simp [cvT, step, res, boxP2, litSn, ColsEq.refl, -List.getD_eq_getElem?_getD]
      refine SR.run (t := .mk) ?_
      simp -dsimp only [aqT, aqU, aqN, ↓seqK, ↓blkK, ↓loopK, step, stepBin, Nat.reduceBEq, Nat.reduceBeqDiff, Nat.add_assoc nid, Nat.reduceAdd, reduceCtorEq, ↓reduceIte, Nat.reduceLeDiff, Nat.reduceBneDiff, Option.toList, ← Int.ofNat_tmod, ← Int.ofNat_tdiv, Nat.reduceLT, Int.cast_ofNat_Int, Int.reduceBEq, Int.reduceBNe, Int.reduceLT, Int.reduceLE, Int.reduceAdd, Int.reduceSub, Int.reduceMul, Int.reduceToNat, Int.reduceNeg, Int.reduceTMod, Int.reduceEq, not_false_eq_true, Int.reducePow, Int.reduceFDiv, Nat.reducePow, Nat.reduceSub, Nat.reduceMul, Nat.min_eq_left, Nat.reduceEqDiff, BEq.rfl, Int.tdiv_one, LN_succ]
      refine ⟨by unfold inI64; omega, k + 1, ⟨⟨by omega, fun j hj => ?_⟩, by omega⟩, Cov.go [] [] ?_⟩
      · rcases (by omega : j < k ∨ j = k) with hj | hj
        · exact hall j hj
        · rw [hj]; exact h6
      simp [cvT, step, res, boxP2, litSn, ColsEq.refl, -List.getD_eq_getElem?_getD]
    · refine ⟨⟨(), fun j hj => hall j (by omega)⟩, Cov.go [] [] ?_⟩
      simp [cvT, step, res, boxP2, -List.getD_eq_getElem?_getD]
  · rw [seenV_good h1 h2 h5]
    refine SR.run (t := .mk) ?_
    simp -dsimp only [aqT, aqU, aqN, ↓seqK, ↓blkK, ↓loopK, step, stepBin, Nat.reduceBEq, Nat.reduceBeqDiff, Nat.add_assoc nid, Nat.reduceAdd, reduceCtorEq, ↓reduceIte, Nat.reduceLeDiff, Nat.reduceBneDiff, Option.toList, ← Int.ofNat_tmod, ← Int.ofNat_tdiv, Nat.reduceLT, Int.cast_ofNat_Int, Int.reduceBEq, Int.reduceBNe, Int.reduceLT, Int.reduceLE, Int.reduceAdd, Int.reduceSub, Int.reduceMul, Int.reduceToNat, Int.reduceNeg, Int.reduceTMod, Int.reduceEq, not_false_eq_true, Int.reducePow, Int.reduceFDiv, Nat.reducePow, Nat.reduceSub, Nat.reduceMul, Nat.min_eq_left, Nat.reduceEqDiff, BEq.rfl, Int.tdiv_one, LN_succ]
    refine RetOK.pure (.inl rfl) rfl ?_
    simp [cvT, step, res]
end Go.Proofs.YtpifoghhaohhaaaGreatDoor
namespace Go.Proofs.YtpifoghhaohhaaaGreatDoor
open Go.RowKit Go.Shelf Go.Lib
theorem firstBad_all0 {f : Nat → Int} {n : Nat} (h : firstBad f (List.range n) = 0) : ∀ j, j < n → f j = 0 := fun j hj => firstBad_all h j (List.mem_range.2 hj)
theorem dictV_rows {G : List (List UInt8)} {R : RowL} (h : dictV G R = 0) : ∀ j, j < R.length → (rowR R j).length = G.length := fun j hj => by
  unfold dictV at h
  split at h
  · omega
  split at h
  · omega
  split at h
  · omega
  have := firstBad_all0 h j hj
  unfold rowBad at this
  split at this
  · omega
  split at this
  · omega
  omega
def candL (R : RowL) (S : SeenL) : List (List UInt8) := (R.filter fun x => consB x.2 S).map (·.1)
theorem candL_snoc (R : RowL) (S : SeenL) {k : Nat} (hk : k < R.length) : candL (R.take (k + 1)) S = if consB (rowR R k) S = true then candL (R.take k) S ++ [rowF R k] else candL (R.take k) S := by
  have e : R.take (k + 1) = R.take k ++ [(rowF R k, rowR R k)] := by
    unfold rowF rowR
    rw [List.getD_eq_getElem?_getD, List.getElem?_eq_getElem hk]
    exact List.take_succ_eq_append_getElem hk
  unfold candL
  rw [e, List.filter_append, List.map_append]
  cases h : consB (rowR R k) S <;> simp [h]
theorem candL_len (R : RowL) (S : SeenL) : (candL R S).length ≤ R.length := by
  unfold candL
  rw [List.length_map]
  exact List.length_filter_le _ _
theorem candidates_c (g0 r0 : Bool) (b : Nat → Bool) (G : List (List UInt8)) (R : RowL) (nl : Bool) (S : SeenL) (nid : Nat) (hB : DictW G R) (hS : SnW S) (hD : dictV G R = 0) (hV : seenV G R S = 0) (hI : SnIn G.length S) :
    ACall Tryz.prog 36 [dictP g0 r0 b G R, litSn nl S] [] nid (.tup [.sl nid 0 (candL R S).length, .bool (consB G S), .int .i64 0]) [(nid, arrS (candL R S))] := by
  have hgl := hB.gl
  have hrl := hB.rl
  have hsl := hS.l
  have hd := fun m => seenD_c g0 r0 b G R nl S m hB hS
  rw [hV] at hd
  have hlen := dictV_rows hD
  have hG := fun m => cons_c [] g0 G nl S m hsl hgl hI
  refine acall_sr c36 (by simp [a36]) ?_
  unfold a36
  refine SR.seq ?_
  unfold dictP litSn at *
  simp -dsimp only [aqT, aqU, aqN, ↓seqK, ↓blkK, ↓loopK, step, stepBin, Nat.reduceBEq, Nat.reduceBeqDiff, Nat.add_assoc nid, Nat.reduceAdd, reduceCtorEq, ↓reduceIte, Nat.reduceLeDiff, Nat.reduceBneDiff, Option.toList, ← Int.ofNat_tmod, ← Int.ofNat_tdiv, Nat.reduceLT, Int.cast_ofNat_Int, Int.reduceBEq, Int.reduceBNe, Int.reduceLT, Int.reduceLE, Int.reduceAdd, Int.reduceSub, Int.reduceMul, Int.reduceToNat, Int.reduceNeg, Int.reduceTMod, Int.reduceEq, not_false_eq_true, Int.reducePow, Int.reduceFDiv, Nat.reducePow, Nat.reduceSub, Nat.reduceMul, Nat.min_eq_left, Nat.reduceEqDiff, BEq.rfl, Int.tdiv_one, LN_succ]
  refine SR.seqTo ⟨[(2, .ptr nid 0), (1, litSn nl S)], [(nid, boxP2 g0 r0 b G R)], nid + 100, nid⟩ ?_ ?_
  · simp -dsimp only [aqT, aqU, aqN, ↓seqK, ↓blkK, ↓loopK, step, stepBin, Nat.reduceBEq, Nat.reduceBeqDiff, Nat.add_assoc nid, Nat.reduceAdd, reduceCtorEq, ↓reduceIte, Nat.reduceLeDiff, Nat.reduceBneDiff, Option.toList, ← Int.ofNat_tmod, ← Int.ofNat_tdiv, Nat.reduceLT, Int.cast_ofNat_Int, Int.reduceBEq, Int.reduceBNe, Int.reduceLT, Int.reduceLE, Int.reduceAdd, Int.reduceSub, Int.reduceMul, Int.reduceToNat, Int.reduceNeg, Int.reduceTMod, Int.reduceEq, not_false_eq_true, Int.reducePow, Int.reduceFDiv, Nat.reducePow, Nat.reduceSub, Nat.reduceMul, Nat.min_eq_left, Nat.reduceEqDiff, BEq.rfl, Int.tdiv_one, LN_succ]
    refine CallO.pure (hd _) ?_
    simp -dsimp only [aqT, aqU, aqN, ↓seqK, ↓blkK, ↓loopK, step, stepBin, Nat.reduceBEq, Nat.reduceBeqDiff, Nat.add_assoc nid, Nat.reduceAdd, reduceCtorEq, ↓reduceIte, Nat.reduceLeDiff, Nat.reduceBneDiff, Option.toList, ← Int.ofNat_tmod, ← Int.ofNat_tdiv, Nat.reduceLT, Int.cast_ofNat_Int, Int.reduceBEq, Int.reduceBNe, Int.reduceLT, Int.reduceLE, Int.reduceAdd, Int.reduceSub, Int.reduceMul, Int.reduceToNat, Int.reduceNeg, Int.reduceTMod, Int.reduceEq, not_false_eq_true, Int.reducePow, Int.reduceFDiv, Nat.reducePow, Nat.reduceSub, Nat.reduceMul, Nat.min_eq_left, Nat.reduceEqDiff, BEq.rfl, Int.tdiv_one, LN_succ]
    refine Cov.go [] [] ?_
    simp [cvT, step, res, boxP2, litSn, ColsEq.refl, -List.getD_eq_getElem?_getD]
  refine SR.seq ?_
  simp -dsimp only [aqT, aqU, aqN, ↓seqK, ↓blkK, ↓loopK, step, stepBin, Nat.reduceBEq, Nat.reduceBeqDiff, Nat.add_assoc nid, Nat.reduceAdd, reduceCtorEq, ↓reduceIte, Nat.reduceLeDiff, Nat.reduceBneDiff, Option.toList, ← Int.ofNat_tmod, ← Int.ofNat_tdiv, Nat.reduceLT, Int.cast_ofNat_Int, Int.reduceBEq, Int.reduceBNe, Int.reduceLT, Int.reduceLE, Int.reduceAdd, Int.reduceSub, Int.reduceMul, Int.reduceToNat, Int.reduceNeg, Int.reduceTMod, Int.reduceEq, not_false_eq_true, Int.reducePow, Int.reduceFDiv, Nat.reducePow, Nat.reduceSub, Nat.reduceMul, Nat.min_eq_left, Nat.reduceEqDiff, BEq.rfl, Int.tdiv_one, LN_succ]
  refine SR.seqTo ⟨[(8, .sl (nid + 180) 0 (candL R S).length), (2, .ptr nid 0), (1, litSn nl S)], [(nid + 180, arrS (candL R S)), (nid, boxP2 g0 r0 b G R)], nid + 2000, nid⟩ ?_ ?_
  · unfold boxP2 litSn
    simp -dsimp only [aqT, aqU, aqN, ↓seqK, ↓blkK, ↓loopK, step, stepBin, Nat.reduceBEq, Nat.reduceBeqDiff, Nat.add_assoc nid, Nat.reduceAdd, reduceCtorEq, ↓reduceIte, Nat.reduceLeDiff, Nat.reduceBneDiff, Option.toList, ← Int.ofNat_tmod, ← Int.ofNat_tdiv, Nat.reduceLT, Int.cast_ofNat_Int, Int.reduceBEq, Int.reduceBNe, Int.reduceLT, Int.reduceLE, Int.reduceAdd, Int.reduceSub, Int.reduceMul, Int.reduceToNat, Int.reduceNeg, Int.reduceTMod, Int.reduceEq, not_false_eq_true, Int.reducePow, Int.reduceFDiv, Nat.reducePow, Nat.reduceSub, Nat.reduceMul, Nat.min_eq_left, Nat.reduceEqDiff, BEq.rfl, Int.tdiv_one, LN_succ]
    refine LP.mkP (fun k : Nat => k ≤ R.length) (fun k : Nat => ⟨[(20, .int .i64 k), (19, .int .i64 R.length), (18, .lit r0 R.length [.s fun k => rowF R k, .l b (fun k => (rowR R k).length) (fun k => [.s fun j => (rowR R k).getD j []])]), (8, .sl (nid + 180) 0 (candL (R.take k) S).length), (2, .ptr nid 0), (1, litSn nl S)], [(nid + 180, arrS (candL (R.take k) S)), (nid, boxP2 g0 r0 b G R)], nid + 200, nid⟩) (fun k => R.length + 1 - k) 0 (by omega) (Cov.go [] [(nid + 180, 1)] ?_) (fun k hk => ?_)
    · simp [cvT, step, res, boxP2, litSn, arrS, candL, ColsEq.refl, -List.getD_eq_getElem?_getD]
    unfold boxP2 litSn arrS
    simp -dsimp only [aqT, aqU, aqN, ↓seqK, ↓blkK, ↓loopK, step, stepBin, Nat.reduceBEq, Nat.reduceBeqDiff, Nat.add_assoc nid, Nat.reduceAdd, reduceCtorEq, ↓reduceIte, Nat.reduceLeDiff, Nat.reduceBneDiff, Option.toList, ← Int.ofNat_tmod, ← Int.ofNat_tdiv, Nat.reduceLT, Int.cast_ofNat_Int, Int.reduceBEq, Int.reduceBNe, Int.reduceLT, Int.reduceLE, Int.reduceAdd, Int.reduceSub, Int.reduceMul, Int.reduceToNat, Int.reduceNeg, Int.reduceTMod, Int.reduceEq, not_false_eq_true, Int.reducePow, Int.reduceFDiv, Nat.reducePow, Nat.reduceSub, Nat.reduceMul, Nat.min_eq_left, Nat.reduceEqDiff, BEq.rfl, Int.tdiv_one, LN_succ]
    refine S2.dec (fun h4 => ?_) (fun h4 => ?_) <;> simp -dsimp only [aqT, aqU, aqN, ↓seqK, ↓blkK, ↓loopK, step, stepBin, Nat.reduceBEq, Nat.reduceBeqDiff, Nat.add_assoc nid, Nat.reduceAdd, reduceCtorEq, ↓reduceIte, Nat.reduceLeDiff, Nat.reduceBneDiff, Option.toList, ← Int.ofNat_tmod, ← Int.ofNat_tdiv, Nat.reduceLT, Int.cast_ofNat_Int, Int.reduceBEq, Int.reduceBNe, Int.reduceLT, Int.reduceLE, Int.reduceAdd, Int.reduceSub, Int.reduceMul, Int.reduceToNat, Int.reduceNeg, Int.reduceTMod, Int.reduceEq, not_false_eq_true, Int.reducePow, Int.reduceFDiv, Nat.reducePow, Nat.reduceSub, Nat.reduceMul, Nat.min_eq_left, Nat.reduceEqDiff, BEq.rfl, Int.tdiv_one, LN_succ]
    · have hkl : k < R.length := by omega
      obtain ⟨hf1, hr1, hs1⟩ := hB.rs k
      have hc := fun m => cons_c (rowF R k) (b k) (rowR R k) nl S m hsl hr1 (by rw [hlen k hkl]; exact hI)
      unfold litS litSn at hc
      refine ⟨by omega, CallO.pure (hc _) ?_⟩
      simp -dsimp only [aqT, aqU, aqN, ↓seqK, ↓blkK, ↓loopK, step, stepBin, Nat.reduceBEq, Nat.reduceBeqDiff, Nat.add_assoc nid, Nat.reduceAdd, reduceCtorEq, ↓reduceIte, Nat.reduceLeDiff, Nat.reduceBneDiff, Option.toList, ← Int.ofNat_tmod, ← Int.ofNat_tdiv, Nat.reduceLT, Int.cast_ofNat_Int, Int.reduceBEq, Int.reduceBNe, Int.reduceLT, Int.reduceLE, Int.reduceAdd, Int.reduceSub, Int.reduceMul, Int.reduceToNat, Int.reduceNeg, Int.reduceTMod, Int.reduceEq, not_false_eq_true, Int.reducePow, Int.reduceFDiv, Nat.reducePow, Nat.reduceSub, Nat.reduceMul, Nat.min_eq_left, Nat.reduceEqDiff, BEq.rfl, Int.tdiv_one, LN_succ]
      have hsn := candL_snoc R S hkl
      have hcl : (candL (R.take k) S).length ≤ k := by have := candL_len (R.take k) S; rw [List.length_take] at this; omega
      cases h5 : consB (rowR R k) S <;> rw [h5] at hsn <;> simp -dsimp only [aqT, aqU, aqN, ↓seqK, ↓blkK, ↓loopK, step, stepBin, Nat.reduceBEq, Nat.reduceBeqDiff, Nat.add_assoc nid, Nat.reduceAdd, reduceCtorEq, ↓reduceIte, Nat.reduceLeDiff, Nat.reduceBneDiff, Option.toList, ← Int.ofNat_tmod, ← Int.ofNat_tdiv, Nat.reduceLT, Int.cast_ofNat_Int, Int.reduceBEq, Int.reduceBNe, Int.reduceLT, Int.reduceLE, Int.reduceAdd, Int.reduceSub, Int.reduceMul, Int.reduceToNat, Int.reduceNeg, Int.reduceTMod, Int.reduceEq, not_false_eq_true, Int.reducePow, Int.reduceFDiv, Nat.reducePow, Nat.reduceSub, Nat.reduceMul, Nat.min_eq_left, Nat.reduceEqDiff, BEq.rfl, Int.tdiv_one, LN_succ]
      · rw [if_neg (by simp)] at hsn
        refine ⟨by unfold inI64; omega, k + 1, ⟨by omega, by omega⟩, Cov.go [] [] ?_⟩
        rw [hsn]
        simp [cvT, step, res, boxP2, litSn, arrS, ColsEq.refl, -List.getD_eq_getElem?_getD]
      · rw [if_pos rfl] at hsn
        rw [getD_app1 _ (rowF R k) rfl]
        have hl : (candL (R.take (k + 1)) S).length = (candL (R.take k) S).length + 1 := by rw [hsn]; simp
        refine ⟨⟨by omega, by omega⟩, by unfold inI64; omega, k + 1, ⟨by omega, by omega⟩, Cov.go [(nid + 180, nid + 248)] [] ?_⟩
        simp only [hsn]
        simp [cvT, step, res, boxP2, litSn, arrS, ColsEq.refl, -List.getD_eq_getElem?_getD, -List.length_append]
        try simp
    · have hkn : k = R.length := by omega
      subst hkn
      rw [List.take_length]
      refine Cov.go [] [] ?_
      simp [cvT, step, res, boxP2, litSn, arrS, ColsEq.refl, -List.getD_eq_getElem?_getD]
  · unfold litS at hG
    unfold boxP2 litSn arrS
    refine SR.run (t := .mk) ?_
    simp -dsimp only [aqT, aqU, aqN, ↓seqK, ↓blkK, ↓loopK, step, stepBin, Nat.reduceBEq, Nat.reduceBeqDiff, Nat.add_assoc nid, Nat.reduceAdd, reduceCtorEq, ↓reduceIte, Nat.reduceLeDiff, Nat.reduceBneDiff, Option.toList, ← Int.ofNat_tmod, ← Int.ofNat_tdiv, Nat.reduceLT, Int.cast_ofNat_Int, Int.reduceBEq, Int.reduceBNe, Int.reduceLT, Int.reduceLE, Int.reduceAdd, Int.reduceSub, Int.reduceMul, Int.reduceToNat, Int.reduceNeg, Int.reduceTMod, Int.reduceEq, not_false_eq_true, Int.reducePow, Int.reduceFDiv, Nat.reducePow, Nat.reduceSub, Nat.reduceMul, Nat.min_eq_left, Nat.reduceEqDiff, BEq.rfl, Int.tdiv_one, LN_succ]
    refine CallO.pure (hG _) ?_
    simp -dsimp only [aqT, aqU, aqN, ↓seqK, ↓blkK, ↓loopK, step, stepBin, Nat.reduceBEq, Nat.reduceBeqDiff, Nat.add_assoc nid, Nat.reduceAdd, reduceCtorEq, ↓reduceIte, Nat.reduceLeDiff, Nat.reduceBneDiff, Option.toList, ← Int.ofNat_tmod, ← Int.ofNat_tdiv, Nat.reduceLT, Int.cast_ofNat_Int, Int.reduceBEq, Int.reduceBNe, Int.reduceLT, Int.reduceLE, Int.reduceAdd, Int.reduceSub, Int.reduceMul, Int.reduceToNat, Int.reduceNeg, Int.reduceTMod, Int.reduceEq, not_false_eq_true, Int.reducePow, Int.reduceFDiv, Nat.reducePow, Nat.reduceSub, Nat.reduceMul, Nat.min_eq_left, Nat.reduceEqDiff, BEq.rfl, Int.tdiv_one, LN_succ]
    refine RetOK.go [(nid, nid + 180)] [] (.inl rfl) ?_
    simp [cvT, step, res, ColsEq.refl, -List.getD_eq_getElem?_getD]
def diffN (L : List (List UInt8)) (S : SeenL) : Nat := ((List.range S.length).filter fun k => offB L (sT S k) (sR S k)).length
def diffT (L : List (List UInt8)) (S : SeenL) (n : Nat) : Nat := ((List.range n).filter fun k => offB L (sT S k) (sR S k)).length
theorem diffT_succ (L : List (List UInt8)) (S : SeenL) (n : Nat) : diffT L S (n + 1) = if offB L (sT S n) (sR S n) = true then diffT L S n + 1 else diffT L S n := by
  unfold diffT
  rw [List.range_succ, List.filter_append]
  cases h : offB L (sT S n) (sR S n) <;> simp [h]
theorem diffT_le (L : List (List UInt8)) (S : SeenL) (n : Nat) : diffT L S n ≤ n := by
  unfold diffT
  have := List.length_filter_le (fun k => offB L (sT S k) (sR S k)) (List.range n)
  simpa using this
def nearStep (S : SeenL) (x : Int × List (List UInt8)) (r : List UInt8 × List (List UInt8)) : Int × List (List UInt8) :=
  let n : Int := (diffN r.2 S : Nat)
  let y := if x.2.length = 0 ∨ n < x.1 then (n, []) else x
  if n = y.1 then (y.1, y.2 ++ [r.1]) else y
def nearV (R : RowL) (S : SeenL) : Int × List (List UInt8) := R.foldl (nearStep S) (0, [])
theorem nearV_snoc (R : RowL) (S : SeenL) {k : Nat} (hk : k < R.length) : nearV (R.take (k + 1)) S = nearStep S (nearV (R.take k) S) (rowF R k, rowR R k) := by
  have e : R.take (k + 1) = R.take k ++ [(rowF R k, rowR R k)] := by
    unfold rowF rowR
    rw [List.getD_eq_getElem?_getD, List.getElem?_eq_getElem hk]
    exact List.take_succ_eq_append_getElem hk
  unfold nearV
  rw [e, List.foldl_append]
  rfl
theorem nearStep_len (S : SeenL) (x : Int × List (List UInt8)) (r : List UInt8 × List (List UInt8)) : (nearStep S x r).2.length ≤ x.2.length + 1 := by
  unfold nearStep
  simp only
  split <;> split <;> simp
theorem nearStep_bd {S : SeenL} {x : Int × List (List UInt8)} {r : List UInt8 × List (List UInt8)} {m : Int} (h : 0 ≤ x.1 ∧ x.1 ≤ m) (hm : (S.length : Int) ≤ m) : 0 ≤ (nearStep S x r).1 ∧ (nearStep S x r).1 ≤ m := by
  have h1 : diffN r.2 S ≤ S.length := diffT_le r.2 S S.length
  unfold nearStep
  simp only
  split <;> split <;> (try simp only) <;> omega
def rowsP (r0 : Bool) (b : Nat → Bool) (R : RowL) : PV := .lit r0 R.length [.s fun k => rowF R k, .l b (fun k => (rowR R k).length) (fun k => [.s fun j => (rowR R k).getD j []])]
theorem nearV_len (R : RowL) (S : SeenL) : ∀ k, k ≤ R.length → (nearV (R.take k) S).2.length ≤ k
  | 0, _ => by simp [nearV]
  | k + 1, h => by
    rw [nearV_snoc R S (by omega)]
    have := nearStep_len S (nearV (R.take k) S) (rowF R k, rowR R k)
    have := nearV_len R S k (by omega)
    omega
theorem nearV_bd (R : RowL) (S : SeenL) : ∀ k, k ≤ R.length → 0 ≤ (nearV (R.take k) S).1 ∧ (nearV (R.take k) S).1 ≤ S.length
  | 0, _ => by simp [nearV]
  | k + 1, h => by
    rw [nearV_snoc R S (by omega)]
    exact nearStep_bd (nearV_bd R S k (by omega)) (by omega)
set_option maxHeartbeats 1000000 in
theorem nearest_c (g0 r0 : Bool) (b : Nat → Bool) (G : List (List UInt8)) (R : RowL) (nl : Bool) (S : SeenL) (nid : Nat) (hB : DictW G R) (hS : SnW S) (hD : dictV G R = 0) (hV : seenV G R S = 0) (hI : SnIn G.length S) :
    ACall Tryz.prog 45 [dictP g0 r0 b G R, litSn nl S] [] nid (.tup [.sl nid 0 (nearV R S).2.length, .int .i64 (nearV R S).1, .int .i64 0]) [(nid, arrS (nearV R S).2)] := by
  have hgl := hB.gl
  have hrl := hB.rl
  have hsl := hS.l
  have hd := fun m => seenD_c g0 r0 b G R nl S m hB hS
  rw [hV] at hd
  have hlen := dictV_rows hD
  refine acall_sr c45 (by simp [a45]) ?_
  unfold a45
  refine SR.seq ?_
  unfold dictP litSn at *
  simp -dsimp only [aqT, aqU, aqN, ↓seqK, ↓blkK, ↓loopK, step, stepBin, Nat.reduceBEq, Nat.reduceBeqDiff, Nat.add_assoc nid, Nat.reduceAdd, reduceCtorEq, ↓reduceIte, Nat.reduceLeDiff, Nat.reduceBneDiff, Option.toList, ← Int.ofNat_tmod, ← Int.ofNat_tdiv, Nat.reduceLT, Int.cast_ofNat_Int, Int.reduceBEq, Int.reduceBNe, Int.reduceLT, Int.reduceLE, Int.reduceAdd, Int.reduceSub, Int.reduceMul, Int.reduceToNat, Int.reduceNeg, Int.reduceTMod, Int.reduceEq, not_false_eq_true, Int.reducePow, Int.reduceFDiv, Nat.reducePow, Nat.reduceSub, Nat.reduceMul, Nat.min_eq_left, Nat.reduceEqDiff, BEq.rfl, Int.tdiv_one, LN_succ]
  refine SR.seqTo ⟨[(2, .ptr nid 0), (1, litSn nl S)], [(nid, boxP2 g0 r0 b G R)], nid + 100, nid⟩ ?_ ?_
  · simp -dsimp only [aqT, aqU, aqN, ↓seqK, ↓blkK, ↓loopK, step, stepBin, Nat.reduceBEq, Nat.reduceBeqDiff, Nat.add_assoc nid, Nat.reduceAdd, reduceCtorEq, ↓reduceIte, Nat.reduceLeDiff, Nat.reduceBneDiff, Option.toList, ← Int.ofNat_tmod, ← Int.ofNat_tdiv, Nat.reduceLT, Int.cast_ofNat_Int, Int.reduceBEq, Int.reduceBNe, Int.reduceLT, Int.reduceLE, Int.reduceAdd, Int.reduceSub, Int.reduceMul, Int.reduceToNat, Int.reduceNeg, Int.reduceTMod, Int.reduceEq, not_false_eq_true, Int.reducePow, Int.reduceFDiv, Nat.reducePow, Nat.reduceSub, Nat.reduceMul, Nat.min_eq_left, Nat.reduceEqDiff, BEq.rfl, Int.tdiv_one, LN_succ]
    refine CallO.pure (hd _) ?_
    simp -dsimp only [aqT, aqU, aqN, ↓seqK, ↓blkK, ↓loopK, step, stepBin, Nat.reduceBEq, Nat.reduceBeqDiff, Nat.add_assoc nid, Nat.reduceAdd, reduceCtorEq, ↓reduceIte, Nat.reduceLeDiff, Nat.reduceBneDiff, Option.toList, ← Int.ofNat_tmod, ← Int.ofNat_tdiv, Nat.reduceLT, Int.cast_ofNat_Int, Int.reduceBEq, Int.reduceBNe, Int.reduceLT, Int.reduceLE, Int.reduceAdd, Int.reduceSub, Int.reduceMul, Int.reduceToNat, Int.reduceNeg, Int.reduceTMod, Int.reduceEq, not_false_eq_true, Int.reducePow, Int.reduceFDiv, Nat.reducePow, Nat.reduceSub, Nat.reduceMul, Nat.min_eq_left, Nat.reduceEqDiff, BEq.rfl, Int.tdiv_one, LN_succ]
    refine Cov.go [] [] ?_
    simp [cvT, step, res, boxP2, litSn, ColsEq.refl, -List.getD_eq_getElem?_getD]
  refine SR.seq ?_
  simp -dsimp only [aqT, aqU, aqN, ↓seqK, ↓blkK, ↓loopK, step, stepBin, Nat.reduceBEq, Nat.reduceBeqDiff, Nat.add_assoc nid, Nat.reduceAdd, reduceCtorEq, ↓reduceIte, Nat.reduceLeDiff, Nat.reduceBneDiff, Option.toList, ← Int.ofNat_tmod, ← Int.ofNat_tdiv, Nat.reduceLT, Int.cast_ofNat_Int, Int.reduceBEq, Int.reduceBNe, Int.reduceLT, Int.reduceLE, Int.reduceAdd, Int.reduceSub, Int.reduceMul, Int.reduceToNat, Int.reduceNeg, Int.reduceTMod, Int.reduceEq, not_false_eq_true, Int.reducePow, Int.reduceFDiv, Nat.reducePow, Nat.reduceSub, Nat.reduceMul, Nat.min_eq_left, Nat.reduceEqDiff, BEq.rfl, Int.tdiv_one, LN_succ]
  refine SR.seq ?_
  simp -dsimp only [aqT, aqU, aqN, ↓seqK, ↓blkK, ↓loopK, step, stepBin, Nat.reduceBEq, Nat.reduceBeqDiff, Nat.add_assoc nid, Nat.reduceAdd, reduceCtorEq, ↓reduceIte, Nat.reduceLeDiff, Nat.reduceBneDiff, Option.toList, ← Int.ofNat_tmod, ← Int.ofNat_tdiv, Nat.reduceLT, Int.cast_ofNat_Int, Int.reduceBEq, Int.reduceBNe, Int.reduceLT, Int.reduceLE, Int.reduceAdd, Int.reduceSub, Int.reduceMul, Int.reduceToNat, Int.reduceNeg, Int.reduceTMod, Int.reduceEq, not_false_eq_true, Int.reducePow, Int.reduceFDiv, Nat.reducePow, Nat.reduceSub, Nat.reduceMul, Nat.min_eq_left, Nat.reduceEqDiff, BEq.rfl, Int.tdiv_one, LN_succ]
  refine SR.seqW (ι := Unit) (fun _ => ⟨[(9, .sl (nid + 180) 0 (nearV R S).2.length), (8, .int .i64 (nearV R S).1), (2, .ptr nid 0), (1, litSn nl S)], [(nid + 180, arrS (nearV R S).2), (nid, boxP2 g0 r0 b G R)], nid + 2000, nid⟩) ?_ (fun _ => ?_)
  · unfold boxP2 litSn
    refine SR.seqTo ⟨[(24, .int .i64 0), (23, .int .i64 R.length), (22, rowsP r0 b R), (9, .lit true 0 []), (8, .int .i64 0), (2, .ptr nid 0), (1, litSn nl S)], [(nid, boxP2 g0 r0 b G R)], nid + 150, nid⟩ ?_ ?_
    · simp -dsimp only [aqT, aqU, aqN, ↓seqK, ↓blkK, ↓loopK, step, stepBin, Nat.reduceBEq, Nat.reduceBeqDiff, Nat.add_assoc nid, Nat.reduceAdd, reduceCtorEq, ↓reduceIte, Nat.reduceLeDiff, Nat.reduceBneDiff, Option.toList, ← Int.ofNat_tmod, ← Int.ofNat_tdiv, Nat.reduceLT, Int.cast_ofNat_Int, Int.reduceBEq, Int.reduceBNe, Int.reduceLT, Int.reduceLE, Int.reduceAdd, Int.reduceSub, Int.reduceMul, Int.reduceToNat, Int.reduceNeg, Int.reduceTMod, Int.reduceEq, not_false_eq_true, Int.reducePow, Int.reduceFDiv, Nat.reducePow, Nat.reduceSub, Nat.reduceMul, Nat.min_eq_left, Nat.reduceEqDiff, BEq.rfl, Int.tdiv_one, LN_succ]
      refine Cov.go [] [] ?_
      simp [cvT, step, res, boxP2, litSn, rowsP, ColsEq.refl, -List.getD_eq_getElem?_getD]
    refine SR.block ?_
    refine SR.loopP (fun k : Nat => k ≤ R.length) (fun k : Nat => ⟨[(24, .int .i64 k), (23, .int .i64 R.length), (22, rowsP r0 b R), (9, .sl (nid + 180) 0 (nearV (R.take k) S).2.length), (8, .int .i64 (nearV (R.take k) S).1), (2, .ptr nid 0), (1, litSn nl S)], [(nid + 180, arrS (nearV (R.take k) S).2), (nid, boxP2 g0 r0 b G R)], nid + 200, nid⟩) (fun k => R.length + 1 - k) 0 (by omega) (Cov.go [] [(nid + 180, 1)] ?_) (fun k hk => ?_)
    · simp [cvT, step, res, boxP2, litSn, arrS, nearV, rowsP, ColsEq.refl, -List.getD_eq_getElem?_getD]
    refine SR.seq ?_
    simp -dsimp only [aqT, aqU, aqN, ↓seqK, ↓blkK, ↓loopK, step, stepBin, Nat.reduceBEq, Nat.reduceBeqDiff, Nat.add_assoc nid, Nat.reduceAdd, reduceCtorEq, ↓reduceIte, Nat.reduceLeDiff, Nat.reduceBneDiff, Option.toList, ← Int.ofNat_tmod, ← Int.ofNat_tdiv, Nat.reduceLT, Int.cast_ofNat_Int, Int.reduceBEq, Int.reduceBNe, Int.reduceLT, Int.reduceLE, Int.reduceAdd, Int.reduceSub, Int.reduceMul, Int.reduceToNat, Int.reduceNeg, Int.reduceTMod, Int.reduceEq, not_false_eq_true, Int.reducePow, Int.reduceFDiv, Nat.reducePow, Nat.reduceSub, Nat.reduceMul, Nat.min_eq_left, Nat.reduceEqDiff, BEq.rfl, Int.tdiv_one, LN_succ]
    refine SR.seq ?_
    simp -dsimp only [aqT, aqU, aqN, ↓seqK, ↓blkK, ↓loopK, step, stepBin, Nat.reduceBEq, Nat.reduceBeqDiff, Nat.add_assoc nid, Nat.reduceAdd, reduceCtorEq, ↓reduceIte, Nat.reduceLeDiff, Nat.reduceBneDiff, Option.toList, ← Int.ofNat_tmod, ← Int.ofNat_tdiv, Nat.reduceLT, Int.cast_ofNat_Int, Int.reduceBEq, Int.reduceBNe, Int.reduceLT, Int.reduceLE, Int.reduceAdd, Int.reduceSub, Int.reduceMul, Int.reduceToNat, Int.reduceNeg, Int.reduceTMod, Int.reduceEq, not_false_eq_true, Int.reducePow, Int.reduceFDiv, Nat.reducePow, Nat.reduceSub, Nat.reduceMul, Nat.min_eq_left, Nat.reduceEqDiff, BEq.rfl, Int.tdiv_one, LN_succ]
    refine S2.dec (fun h4 => ?_) (fun h4 => ?_) <;> simp -dsimp only [aqT, aqU, aqN, ↓seqK, ↓blkK, ↓loopK, step, stepBin, Nat.reduceBEq, Nat.reduceBeqDiff, Nat.add_assoc nid, Nat.reduceAdd, reduceCtorEq, ↓reduceIte, Nat.reduceLeDiff, Nat.reduceBneDiff, Option.toList, ← Int.ofNat_tmod, ← Int.ofNat_tdiv, Nat.reduceLT, Int.cast_ofNat_Int, Int.reduceBEq, Int.reduceBNe, Int.reduceLT, Int.reduceLE, Int.reduceAdd, Int.reduceSub, Int.reduceMul, Int.reduceToNat, Int.reduceNeg, Int.reduceTMod, Int.reduceEq, not_false_eq_true, Int.reducePow, Int.reduceFDiv, Nat.reducePow, Nat.reduceSub, Nat.reduceMul, Nat.min_eq_left, Nat.reduceEqDiff, BEq.rfl, Int.tdiv_one, LN_succ]
    · have hkl : k < R.length := by omega
      obtain ⟨hf1, hr1, hs1⟩ := hB.rs k
      have hlk := hlen k hkl
      have hsn := nearV_snoc R S hkl
      have hnl := nearV_len R S k hk
      have hnb := nearV_bd R S k hk
      rw [show ∀ n : Nat, nid + n = nid + n from fun _ => rfl]
      generalize hx : nearV (R.take k) S = x at *
      obtain ⟨best, out⟩ := x
      simp only at hnl hnb
      refine SR.seqW (ι := Unit) (fun _ => ⟨[(24, .int .i64 k), (23, .int .i64 R.length), (22, rowsP r0 b R), (9, .sl (nid + 180) 0 (nearV (R.take (k + 1)) S).2.length), (8, .int .i64 (nearV (R.take (k + 1)) S).1), (2, .ptr nid 0), (1, litSn nl S)], [(nid + 180, arrS (nearV (R.take (k + 1)) S).2), (nid, boxP2 g0 r0 b G R)], nid + 900, nid⟩) ?_ (fun _ => ?_)
      · refine SR.block ?_
        unfold rowsP
        refine SR.seqTo ⟨[(11, .ptr (nid + 300) 0), (24, .int .i64 k), (23, .int .i64 R.length), (22, rowsP r0 b R), (9, .sl (nid + 180) 0 out.length), (8, .int .i64 best), (2, .ptr nid 0), (1, litSn nl S)], [(nid + 300, boxRw (rowF R k) (b k) (rowR R k)), (nid + 180, arrS out), (nid, boxP2 g0 r0 b G R)], nid + 400, nid⟩ ?_ ?_
        · simp -dsimp only [aqT, aqU, aqN, ↓seqK, ↓blkK, ↓loopK, step, stepBin, Nat.reduceBEq, Nat.reduceBeqDiff, Nat.add_assoc nid, Nat.reduceAdd, reduceCtorEq, ↓reduceIte, Nat.reduceLeDiff, Nat.reduceBneDiff, Option.toList, ← Int.ofNat_tmod, ← Int.ofNat_tdiv, Nat.reduceLT, Int.cast_ofNat_Int, Int.reduceBEq, Int.reduceBNe, Int.reduceLT, Int.reduceLE, Int.reduceAdd, Int.reduceSub, Int.reduceMul, Int.reduceToNat, Int.reduceNeg, Int.reduceTMod, Int.reduceEq, not_false_eq_true, Int.reducePow, Int.reduceFDiv, Nat.reducePow, Nat.reduceSub, Nat.reduceMul, Nat.min_eq_left, Nat.reduceEqDiff, BEq.rfl, Int.tdiv_one, LN_succ]
          refine ⟨by omega, Cov.go [(nid + 300, nid + 212)] [] ?_⟩
          simp [cvT, step, res, boxP2, litSn, arrS, rowsP, boxRw, ColsEq.refl, -List.getD_eq_getElem?_getD]
        refine SR.seq ?_
        simp -dsimp only [aqT, aqU, aqN, ↓seqK, ↓blkK, ↓loopK, step, stepBin, Nat.reduceBEq, Nat.reduceBeqDiff, Nat.add_assoc nid, Nat.reduceAdd, reduceCtorEq, ↓reduceIte, Nat.reduceLeDiff, Nat.reduceBneDiff, Option.toList, ← Int.ofNat_tmod, ← Int.ofNat_tdiv, Nat.reduceLT, Int.cast_ofNat_Int, Int.reduceBEq, Int.reduceBNe, Int.reduceLT, Int.reduceLE, Int.reduceAdd, Int.reduceSub, Int.reduceMul, Int.reduceToNat, Int.reduceNeg, Int.reduceTMod, Int.reduceEq, not_false_eq_true, Int.reducePow, Int.reduceFDiv, Nat.reducePow, Nat.reduceSub, Nat.reduceMul, Nat.min_eq_left, Nat.reduceEqDiff, BEq.rfl, Int.tdiv_one, LN_succ]
        refine SR.seqTo ⟨[(12, .int .i64 (diffN (rowR R k) S : Nat)), (11, .ptr (nid + 300) 0), (24, .int .i64 k), (23, .int .i64 R.length), (22, rowsP r0 b R), (9, .sl (nid + 180) 0 out.length), (8, .int .i64 best), (2, .ptr nid 0), (1, litSn nl S)], [(nid + 300, boxRw (rowF R k) (b k) (rowR R k)), (nid + 180, arrS out), (nid, boxP2 g0 r0 b G R)], nid + 500, nid⟩ ?_ ?_
        · unfold litSn boxRw
          simp -dsimp only [aqT, aqU, aqN, ↓seqK, ↓blkK, ↓loopK, step, stepBin, Nat.reduceBEq, Nat.reduceBeqDiff, Nat.add_assoc nid, Nat.reduceAdd, reduceCtorEq, ↓reduceIte, Nat.reduceLeDiff, Nat.reduceBneDiff, Option.toList, ← Int.ofNat_tmod, ← Int.ofNat_tdiv, Nat.reduceLT, Int.cast_ofNat_Int, Int.reduceBEq, Int.reduceBNe, Int.reduceLT, Int.reduceLE, Int.reduceAdd, Int.reduceSub, Int.reduceMul, Int.reduceToNat, Int.reduceNeg, Int.reduceTMod, Int.reduceEq, not_false_eq_true, Int.reducePow, Int.reduceFDiv, Nat.reducePow, Nat.reduceSub, Nat.reduceMul, Nat.min_eq_left, Nat.reduceEqDiff, BEq.rfl, Int.tdiv_one, LN_succ]
          refine LP.mkP (fun j : Nat => j ≤ S.length) (fun j : Nat => ⟨[(30, .int .i64 j), (29, .int .i64 S.length), (28, litSn nl S), (12, .int .i64 (diffT (rowR R k) S j : Nat)), (11, .ptr (nid + 300) 0), (24, .int .i64 k), (23, .int .i64 R.length), (22, rowsP r0 b R), (9, .sl (nid + 180) 0 out.length), (8, .int .i64 best), (2, .ptr nid 0), (1, litSn nl S)], [(nid + 300, boxRw (rowF R k) (b k) (rowR R k)), (nid + 180, arrS out), (nid, boxP2 g0 r0 b G R)], nid + 450, nid⟩) (fun j => S.length + 1 - j) 0 (by omega) (Cov.go [] [] ?_) (fun j hj => ?_)
          · simp [cvT, step, res, boxP2, litSn, arrS, rowsP, boxRw, diffT, ColsEq.refl, -List.getD_eq_getElem?_getD]
          unfold litSn boxRw
          simp -dsimp only [aqT, aqU, aqN, ↓seqK, ↓blkK, ↓loopK, step, stepBin, Nat.reduceBEq, Nat.reduceBeqDiff, Nat.add_assoc nid, Nat.reduceAdd, reduceCtorEq, ↓reduceIte, Nat.reduceLeDiff, Nat.reduceBneDiff, Option.toList, ← Int.ofNat_tmod, ← Int.ofNat_tdiv, Nat.reduceLT, Int.cast_ofNat_Int, Int.reduceBEq, Int.reduceBNe, Int.reduceLT, Int.reduceLE, Int.reduceAdd, Int.reduceSub, Int.reduceMul, Int.reduceToNat, Int.reduceNeg, Int.reduceTMod, Int.reduceEq, not_false_eq_true, Int.reducePow, Int.reduceFDiv, Nat.reducePow, Nat.reduceSub, Nat.reduceMul, Nat.min_eq_left, Nat.reduceEqDiff, BEq.rfl, Int.tdiv_one, LN_succ]
          refine S2.dec (fun h5 => ?_) (fun h5 => ?_) <;> simp -dsimp only [aqT, aqU, aqN, ↓seqK, ↓blkK, ↓loopK, step, stepBin, Nat.reduceBEq, Nat.reduceBeqDiff, Nat.add_assoc nid, Nat.reduceAdd, reduceCtorEq, ↓reduceIte, Nat.reduceLeDiff, Nat.reduceBneDiff, Option.toList, ← Int.ofNat_tmod, ← Int.ofNat_tdiv, Nat.reduceLT, Int.cast_ofNat_Int, Int.reduceBEq, Int.reduceBNe, Int.reduceLT, Int.reduceLE, Int.reduceAdd, Int.reduceSub, Int.reduceMul, Int.reduceToNat, Int.reduceNeg, Int.reduceTMod, Int.reduceEq, not_false_eq_true, Int.reducePow, Int.reduceFDiv, Nat.reducePow, Nat.reduceSub, Nat.reduceMul, Nat.min_eq_left, Nat.reduceEqDiff, BEq.rfl, Int.tdiv_one, LN_succ]
          · have hjl : j < S.length := by omega
            have hin := hI j hjl
            have hdl := diffT_le (rowR R k) S j
            have hds := diffT_succ (rowR R k) S j
            have eo : offB (rowR R k) (sT S j) (sR S j) = !((rowR R k).getD (sT S j).toNat [] == sR S j) := rfl
            rw [← eo]
            refine ⟨by omega, ⟨by omega, by omega⟩, ?_⟩
            cases h6 : offB (rowR R k) (sT S j) (sR S j) <;> rw [h6] at hds <;> simp -dsimp only [aqT, aqU, aqN, ↓seqK, ↓blkK, ↓loopK, step, stepBin, Nat.reduceBEq, Nat.reduceBeqDiff, Nat.add_assoc nid, Nat.reduceAdd, reduceCtorEq, ↓reduceIte, Nat.reduceLeDiff, Nat.reduceBneDiff, Option.toList, ← Int.ofNat_tmod, ← Int.ofNat_tdiv, Nat.reduceLT, Int.cast_ofNat_Int, Int.reduceBEq, Int.reduceBNe, Int.reduceLT, Int.reduceLE, Int.reduceAdd, Int.reduceSub, Int.reduceMul, Int.reduceToNat, Int.reduceNeg, Int.reduceTMod, Int.reduceEq, not_false_eq_true, Int.reducePow, Int.reduceFDiv, Nat.reducePow, Nat.reduceSub, Nat.reduceMul, Nat.min_eq_left, Nat.reduceEqDiff, BEq.rfl, Int.tdiv_one, LN_succ]
            · rw [if_neg (by simp)] at hds
              refine ⟨by unfold inI64; omega, j + 1, ⟨by omega, by omega⟩, Cov.go [] [] ?_⟩
              rw [hds]
              simp [cvT, step, res, boxP2, litSn, arrS, rowsP, boxRw, ColsEq.refl, -List.getD_eq_getElem?_getD]
            · rw [if_pos rfl] at hds
              refine ⟨by unfold inI64; omega, by unfold inI64; omega, j + 1, ⟨by omega, by omega⟩, Cov.go [] [] ?_⟩
              rw [hds]
              simp [cvT, step, res, boxP2, litSn, arrS, rowsP, boxRw, ColsEq.refl, -List.getD_eq_getElem?_getD]
          · have hjn : j = S.length := by omega
            subst hjn
            refine Cov.go [] [] ?_
            simp [cvT, step, res, boxP2, litSn, arrS, rowsP, boxRw, diffT, diffN, ColsEq.refl, -List.getD_eq_getElem?_getD]
        have hdl : diffN (rowR R k) S ≤ S.length := diffT_le (rowR R k) S S.length
        obtain ⟨n, hn⟩ : ∃ n, diffN (rowR R k) S = n := ⟨_, rfl⟩
        have hstep : nearV (R.take (k + 1)) S = (if (n : Int) = (if out.length = 0 ∨ (n : Int) < best then ((n : Int), []) else (best, out)).1 then ((if out.length = 0 ∨ (n : Int) < best then ((n : Int), []) else (best, out)).1, (if out.length = 0 ∨ (n : Int) < best then ((n : Int), ([] : List (List UInt8))) else (best, out)).2 ++ [rowF R k]) else (if out.length = 0 ∨ (n : Int) < best then ((n : Int), []) else (best, out))) := by
          rw [hsn, ← hn]
          rfl
        rw [hn]
        rw [hn] at hdl
        refine SR.seqW (ι := {y : Int × List (List UInt8) // y = (if out.length = 0 ∨ (n : Int) < best then ((n : Int), []) else (best, out)) ∧ y.2.length ≤ k}) (fun y => ⟨[(12, .int .i64 (n : Nat)), (11, .ptr (nid + 300) 0), (24, .int .i64 k), (23, .int .i64 R.length), (22, rowsP r0 b R), (9, .sl (nid + 180) 0 y.1.2.length), (8, .int .i64 y.1.1), (2, .ptr nid 0), (1, litSn nl S)], [(nid + 300, boxRw (rowF R k) (b k) (rowR R k)), (nid + 180, arrS y.1.2), (nid, boxP2 g0 r0 b G R)], nid + 600, nid⟩) ?_ (fun ⟨⟨yb, yo⟩, hy, hyl⟩ => ?_)
        · refine SR.run (t := .mk) ?_
          unfold litSn boxRw
          simp -dsimp only [aqT, aqU, aqN, ↓seqK, ↓blkK, ↓loopK, step, stepBin, Nat.reduceBEq, Nat.reduceBeqDiff, Nat.add_assoc nid, Nat.reduceAdd, reduceCtorEq, ↓reduceIte, Nat.reduceLeDiff, Nat.reduceBneDiff, Option.toList, ← Int.ofNat_tmod, ← Int.ofNat_tdiv, Nat.reduceLT, Int.cast_ofNat_Int, Int.reduceBEq, Int.reduceBNe, Int.reduceLT, Int.reduceLE, Int.reduceAdd, Int.reduceSub, Int.reduceMul, Int.reduceToNat, Int.reduceNeg, Int.reduceTMod, Int.reduceEq, not_false_eq_true, Int.reducePow, Int.reduceFDiv, Nat.reducePow, Nat.reduceSub, Nat.reduceMul, Nat.min_eq_left, Nat.reduceEqDiff, BEq.rfl, Int.tdiv_one, LN_succ]
          refine S2.intro (fun h7 => ?_) (fun h7 => ?_) <;> simp -dsimp only [aqT, aqU, aqN, ↓seqK, ↓blkK, ↓loopK, step, stepBin, Nat.reduceBEq, Nat.reduceBeqDiff, Nat.add_assoc nid, Nat.reduceAdd, reduceCtorEq, ↓reduceIte, Nat.reduceLeDiff, Nat.reduceBneDiff, Option.toList, ← Int.ofNat_tmod, ← Int.ofNat_tdiv, Nat.reduceLT, Int.cast_ofNat_Int, Int.reduceBEq, Int.reduceBNe, Int.reduceLT, Int.reduceLE, Int.reduceAdd, Int.reduceSub, Int.reduceMul, Int.reduceToNat, Int.reduceNeg, Int.reduceTMod, Int.reduceEq, not_false_eq_true, Int.reducePow, Int.reduceFDiv, Nat.reducePow, Nat.reduceSub, Nat.reduceMul, Nat.min_eq_left, Nat.reduceEqDiff, BEq.rfl, Int.tdiv_one, LN_succ]
          · have h7' : out.length = 0 := by simp at h7; rw [h7]; rfl
            refine ⟨⟨(n, []), by rw [if_pos (.inl h7')], by simp⟩, Cov.go [] [(nid + 180, 1)] ?_⟩
            simp [cvT, step, res, boxP2, litSn, arrS, rowsP, boxRw, ColsEq.refl, -List.getD_eq_getElem?_getD]
          have h7' : ¬ out.length = 0 := by simp at h7; exact fun e => h7 (List.eq_nil_of_length_eq_zero e)
          refine S2.dec (fun h8 => ?_) (fun h8 => ?_) <;> simp -dsimp only [aqT, aqU, aqN, ↓seqK, ↓blkK, ↓loopK, step, stepBin, Nat.reduceBEq, Nat.reduceBeqDiff, Nat.add_assoc nid, Nat.reduceAdd, reduceCtorEq, ↓reduceIte, Nat.reduceLeDiff, Nat.reduceBneDiff, Option.toList, ← Int.ofNat_tmod, ← Int.ofNat_tdiv, Nat.reduceLT, Int.cast_ofNat_Int, Int.reduceBEq, Int.reduceBNe, Int.reduceLT, Int.reduceLE, Int.reduceAdd, Int.reduceSub, Int.reduceMul, Int.reduceToNat, Int.reduceNeg, Int.reduceTMod, Int.reduceEq, not_false_eq_true, Int.reducePow, Int.reduceFDiv, Nat.reducePow, Nat.reduceSub, Nat.reduceMul, Nat.min_eq_left, Nat.reduceEqDiff, BEq.rfl, Int.tdiv_one, LN_succ]
          · refine ⟨⟨(n, []), by rw [if_pos (.inr h8)], by simp⟩, Cov.go [] [(nid + 180, 1)] ?_⟩
            simp [cvT, step, res, boxP2, litSn, arrS, rowsP, boxRw, ColsEq.refl, -List.getD_eq_getElem?_getD]
          · refine ⟨⟨(best, out), by rw [if_neg (fun e => by rcases e with e | e; exact h7' e; exact h8 e)], by simpa using hnl⟩, Cov.go [] [] ?_⟩
            simp [cvT, step, res, boxP2, litSn, arrS, rowsP, boxRw, ColsEq.refl, -List.getD_eq_getElem?_getD]
        rw [← hy] at hstep
        simp only at hstep hyl ⊢
        refine SR.run (t := .mk) ?_
        unfold litSn boxRw arrS
        simp -dsimp only [aqT, aqU, aqN, ↓seqK, ↓blkK, ↓loopK, step, stepBin, Nat.reduceBEq, Nat.reduceBeqDiff, Nat.add_assoc nid, Nat.reduceAdd, reduceCtorEq, ↓reduceIte, Nat.reduceLeDiff, Nat.reduceBneDiff, Option.toList, ← Int.ofNat_tmod, ← Int.ofNat_tdiv, Nat.reduceLT, Int.cast_ofNat_Int, Int.reduceBEq, Int.reduceBNe, Int.reduceLT, Int.reduceLE, Int.reduceAdd, Int.reduceSub, Int.reduceMul, Int.reduceToNat, Int.reduceNeg, Int.reduceTMod, Int.reduceEq, not_false_eq_true, Int.reducePow, Int.reduceFDiv, Nat.reducePow, Nat.reduceSub, Nat.reduceMul, Nat.min_eq_left, Nat.reduceEqDiff, BEq.rfl, Int.tdiv_one, LN_succ]
        refine S2.intro (fun h9 => ?_) (fun h9 => ?_) <;> simp -dsimp only [aqT, aqU, aqN, ↓seqK, ↓blkK, ↓loopK, step, stepBin, Nat.reduceBEq, Nat.reduceBeqDiff, Nat.add_assoc nid, Nat.reduceAdd, reduceCtorEq, ↓reduceIte, Nat.reduceLeDiff, Nat.reduceBneDiff, Option.toList, ← Int.ofNat_tmod, ← Int.ofNat_tdiv, Nat.reduceLT, Int.cast_ofNat_Int, Int.reduceBEq, Int.reduceBNe, Int.reduceLT, Int.reduceLE, Int.reduceAdd, Int.reduceSub, Int.reduceMul, Int.reduceToNat, Int.reduceNeg, Int.reduceTMod, Int.reduceEq, not_false_eq_true, Int.reducePow, Int.reduceFDiv, Nat.reducePow, Nat.reduceSub, Nat.reduceMul, Nat.min_eq_left, Nat.reduceEqDiff, BEq.rfl, Int.tdiv_one, LN_succ]
        · have h9' : (n : Int) = yb := by simpa using h9
          rw [if_pos h9'] at hstep
          rw [hstep]
          rw [getD_app1 _ (rowF R k) rfl]
          refine ⟨⟨by omega, by omega⟩, (), Cov.go [(nid + 180, nid + 628)] [] ?_⟩
          simp [cvT, step, res, boxP2, litSn, arrS, rowsP, boxRw, ColsEq.refl, -List.getD_eq_getElem?_getD, -List.length_append]
          try simp
        · have h9' : ¬ (n : Int) = yb := by simpa using h9
          rw [if_neg h9'] at hstep
          rw [hstep]
          refine ⟨(), Cov.go [] [] ?_⟩
          simp [cvT, step, res, boxP2, litSn, arrS, rowsP, boxRw, ColsEq.refl, -List.getD_eq_getElem?_getD]
      · refine SR.run (t := .mk) ?_
        simp -dsimp only [aqT, aqU, aqN, ↓seqK, ↓blkK, ↓loopK, step, stepBin, Nat.reduceBEq, Nat.reduceBeqDiff, Nat.add_assoc nid, Nat.reduceAdd, reduceCtorEq, ↓reduceIte, Nat.reduceLeDiff, Nat.reduceBneDiff, Option.toList, ← Int.ofNat_tmod, ← Int.ofNat_tdiv, Nat.reduceLT, Int.cast_ofNat_Int, Int.reduceBEq, Int.reduceBNe, Int.reduceLT, Int.reduceLE, Int.reduceAdd, Int.reduceSub, Int.reduceMul, Int.reduceToNat, Int.reduceNeg, Int.reduceTMod, Int.reduceEq, not_false_eq_true, Int.reducePow, Int.reduceFDiv, Nat.reducePow, Nat.reduceSub, Nat.reduceMul, Nat.min_eq_left, Nat.reduceEqDiff, BEq.rfl, Int.tdiv_one, LN_succ]
        refine ⟨by unfold inI64; omega, k + 1, ⟨by omega, by omega⟩, Cov.go [] [] ?_⟩
        simp [cvT, step, res, boxP2, litSn, arrS, rowsP, boxRw, ColsEq.refl, -List.getD_eq_getElem?_getD]
    · have hkn : k = R.length := by omega
      subst hkn
      rw [List.take_length]
      refine ⟨(), Cov.go [] [] ?_⟩
      simp [cvT, step, res, boxP2, litSn, arrS, rowsP, ColsEq.refl, -List.getD_eq_getElem?_getD]
  · unfold arrS
    refine SR.run (t := .mk) ?_
    simp -dsimp only [aqT, aqU, aqN, ↓seqK, ↓blkK, ↓loopK, step, stepBin, Nat.reduceBEq, Nat.reduceBeqDiff, Nat.add_assoc nid, Nat.reduceAdd, reduceCtorEq, ↓reduceIte, Nat.reduceLeDiff, Nat.reduceBneDiff, Option.toList, ← Int.ofNat_tmod, ← Int.ofNat_tdiv, Nat.reduceLT, Int.cast_ofNat_Int, Int.reduceBEq, Int.reduceBNe, Int.reduceLT, Int.reduceLE, Int.reduceAdd, Int.reduceSub, Int.reduceMul, Int.reduceToNat, Int.reduceNeg, Int.reduceTMod, Int.reduceEq, not_false_eq_true, Int.reducePow, Int.reduceFDiv, Nat.reducePow, Nat.reduceSub, Nat.reduceMul, Nat.min_eq_left, Nat.reduceEqDiff, BEq.rfl, Int.tdiv_one, LN_succ]
    refine RetOK.go [(nid, nid + 180)] [] (.inl rfl) ?_
    simp [cvT, step, res, boxP2, litSn, ColsEq.refl, -List.getD_eq_getElem?_getD]
end Go.Proofs.YtpifoghhaohhaaaGreatDoor
namespace Go.Proofs.YtpifoghhaohhaaaGreatDoor
theorem consB_diff (L : List (List UInt8)) (S : SeenL) : consB L S = decide (diffN L S = 0) := by
  unfold consB diffN
  rw [Bool.eq_iff_iff]
  simp only [Bool.not_eq_true', decide_eq_true_eq, List.length_eq_zero_iff, List.filter_eq_nil_iff, List.any_eq_false]
theorem near_new {S : SeenL} {best : Int} {out : List (List UInt8)} {r : List UInt8 × List (List UInt8)} (h : out = [] ∨ (diffN r.2 S : Int) < best) : nearStep S (best, out) r = ((diffN r.2 S : Int), [r.1]) := by
  have h' : out.length = 0 ∨ (diffN r.2 S : Int) < best := by rcases h with h | h; left; rw [h]; rfl; right; exact h
  unfold nearStep
  simp only [if_pos h', if_true, List.nil_append]
theorem near_tie {S : SeenL} {best : Int} {out : List (List UInt8)} {r : List UInt8 × List (List UInt8)} (h : out ≠ []) (h2 : (diffN r.2 S : Int) = best) : nearStep S (best, out) r = (best, out ++ [r.1]) := by
  have h' : ¬ (out.length = 0 ∨ (diffN r.2 S : Int) < best) := by rintro (e | e); exact h (List.eq_nil_of_length_eq_zero e); omega
  unfold nearStep
  simp only [if_neg h', if_pos h2]
theorem near_no {S : SeenL} {best : Int} {out : List (List UInt8)} {r : List UInt8 × List (List UInt8)} (h : out ≠ []) (h2 : best < (diffN r.2 S : Int)) : nearStep S (best, out) r = (best, out) := by
  have h' : ¬ (out.length = 0 ∨ (diffN r.2 S : Int) < best) := by rintro (e | e); exact h (List.eq_nil_of_length_eq_zero e); omega
  have h3 : ¬ (diffN r.2 S : Int) = best := by omega
  unfold nearStep
  simp only [if_neg h', if_neg h3]
theorem near_cand (R : RowL) (S : SeenL) : ∀ k, k ≤ R.length → (candL (R.take k) S ≠ [] → nearV (R.take k) S = (0, candL (R.take k) S)) ∧ (candL (R.take k) S = [] → (nearV (R.take k) S).2 = [] ∨ 0 < (nearV (R.take k) S).1)
  | 0, _ => by simp [candL, nearV]
  | k + 1, h => by
    obtain ⟨i1, i2⟩ := near_cand R S k (by omega)
    have hb := (nearV_bd R S k (by omega)).1
    have hc := candL_snoc R S (show k < R.length by omega)
    have hn := nearV_snoc R S (show k < R.length by omega)
    have hd := consB_diff (rowR R k) S
    rw [hc, hn]
    generalize candL (R.take k) S = c at *
    generalize nearV (R.take k) S = x at *
    obtain ⟨best, out⟩ := x
    simp only at i1 i2 hb
    by_cases hz : diffN (rowR R k) S = 0
    · rw [if_pos (by rw [hd]; exact decide_eq_true hz)]
      refine ⟨fun _ => ?_, fun e => by simp at e⟩
      by_cases hcn : c = []
      · have : out = [] ∨ (diffN (rowF R k, rowR R k).2 S : Int) < best := by
          rcases i2 hcn with h1 | h1
          · exact .inl h1
          · right; simp only [hz]; exact h1
        rw [near_new this, hcn]
        simp [hz]
      · have e := i1 hcn
        have e1 : best = 0 := congrArg Prod.fst e
        have e2 : out = c := congrArg Prod.snd e
        rw [e1, e2, near_tie hcn (by simp [hz])]
    · rw [if_neg (by rw [hd]; simp [hz])]
      refine ⟨fun hcn => ?_, fun hcn => .inr ?_⟩
      · have e := i1 hcn
        have e1 : best = 0 := congrArg Prod.fst e
        have e2 : out = c := congrArg Prod.snd e
        rw [e1, e2, near_no hcn (by simp only; omega)]
      · by_cases h3 : out = [] ∨ (diffN (rowF R k, rowR R k).2 S : Int) < best
        · rw [near_new h3]
          simp only; omega
        · have h4 : 0 < best := by rcases i2 hcn with h1 | h1; exact absurd (.inl h1) h3; exact h1
          have h5 : out ≠ [] := fun e => h3 (.inl e)
          by_cases h6 : (diffN (rowF R k, rowR R k).2 S : Int) = best
          · rw [near_tie h5 h6]; exact h4
          · rw [near_no h5 (by have : ¬ (diffN (rowF R k, rowR R k).2 S : Int) < best := fun e => h3 (.inr e)
                               omega)]
            exact h4
theorem near_all {R : RowL} {S : SeenL} (h : candL R S ≠ []) : nearV R S = (0, candL R S) := by
  have := (near_cand R S R.length (by omega)).1
  rw [List.take_length] at this
  exact this h
theorem cand_mem {R : RowL} {S : SeenL} {i : Nat} (hi : i < R.length) (h : consB (rowR R i) S = true) : rowF R i ∈ candL R S := by
  unfold candL
  refine List.mem_map.2 ⟨(rowF R i, rowR R i), List.mem_filter.2 ⟨row_mem hi, h⟩, rfl⟩
theorem sT_old {S : SeenL} {y : Int × List UInt8} {k : Nat} (h : k < S.length) : sT (S ++ [y]) k = sT S k := by unfold sT; rw [List.getD_eq_getElem?_getD, List.getElem?_append_left h, ← List.getD_eq_getElem?_getD]
theorem sR_old {S : SeenL} {y : Int × List UInt8} {k : Nat} (h : k < S.length) : sR (S ++ [y]) k = sR S k := by unfold sR; rw [List.getD_eq_getElem?_getD, List.getElem?_append_left h, ← List.getD_eq_getElem?_getD]
theorem sT_new {S : SeenL} {y : Int × List UInt8} {k : Nat} (h : k = S.length) : sT (S ++ [y]) k = y.1 := by unfold sT; subst h; simp
theorem sR_new {S : SeenL} {y : Int × List UInt8} {k : Nat} (h : k = S.length) : sR (S ++ [y]) k = y.2 := by unfold sR; subst h; simp
theorem consB_iff {L : List (List UInt8)} {S : SeenL} : consB L S = true ↔ ∀ k, k < S.length → L.getD (sT S k).toNat [] = sR S k := by
  unfold consB offB
  simp only [Bool.not_eq_true', List.any_eq_false, List.mem_range, Bool.not_eq_false, beq_iff_eq]
theorem consB_less {L : List (List UInt8)} {S : SeenL} {y : Int × List UInt8} (h : consB L (S ++ [y]) = true) : consB L S = true := by
  rw [consB_iff] at h ⊢
  intro k hk
  have := h k (by rw [List.length_append]; omega)
  rwa [sT_old hk, sR_old hk] at this
theorem cand_less (R : RowL) (S : SeenL) (y : Int × List UInt8) : (candL R (S ++ [y])).length ≤ (candL R S).length := by
  unfold candL
  rw [List.length_map, List.length_map]
  induction R with
  | nil => simp
  | cons r R ih =>
    rw [List.filter_cons, List.filter_cons]
    cases h : consB r.2 (S ++ [y])
    · rw [if_neg (by simp)]
      split
      · simp only [List.length_cons]; omega
      · exact ih
    · rw [consB_less h]
      simp only [if_true, List.length_cons]
      omega
theorem sT_app (S : SeenL) (t : Int) (r : List UInt8) : (fun i => if i < S.length then sT S i else [t].getD (i - S.length) 0) = fun k => sT (S ++ [(t, r)]) k := by
  funext i
  by_cases h : i < S.length
  · rw [if_pos h, sT_old h]
  · rw [if_neg h]
    by_cases h' : i = S.length
    · rw [sT_new h', h']; simp
    · have h2 : (S ++ [(t, r)])[i]? = none := List.getElem?_eq_none (by simp; omega)
      have h1 : [t][i - S.length]? = none := List.getElem?_eq_none (by simp; omega)
      unfold sT
      rw [List.getD_eq_getElem?_getD, h1, List.getD_eq_getElem?_getD, h2]
      rfl
theorem sR_app (S : SeenL) (t : Int) (r : List UInt8) : (fun i => if i < S.length then sR S i else [r].getD (i - S.length) []) = fun k => sR (S ++ [(t, r)]) k := by
  funext i
  by_cases h : i < S.length
  · rw [if_pos h, sR_old h]
  · rw [if_neg h]
    by_cases h' : i = S.length
    · rw [sR_new h', h']; simp
    · have h2 : (S ++ [(t, r)])[i]? = none := List.getElem?_eq_none (by simp; omega)
      have h1 : [r][i - S.length]? = none := List.getElem?_eq_none (by simp; omega)
      unfold sR
      rw [List.getD_eq_getElem?_getD, h1, List.getD_eq_getElem?_getD, h2]
      rfl
structure SeenOk (G L : List (List UInt8)) (S : SeenL) (m : Nat) : Prop where
  i : ∀ k, k < S.length → 0 ≤ sT S k ∧ sT S k < m
  o : ∀ k, k + 1 < S.length → sT S k < sT S (k + 1)
  r : ∀ k, k < S.length → sR S k = L.getD (sT S k).toNat []
theorem SeenOk.skip {G L : List (List UInt8)} {S : SeenL} {m : Nat} (h : SeenOk G L S m) : SeenOk G L S (m + 1) := ⟨fun k hk => by have := h.i k hk; omega, h.o, h.r⟩
theorem SeenOk.more {G L : List (List UInt8)} {S : SeenL} {m : Nat} (h : SeenOk G L S m) : SeenOk G L (S ++ [((m : Int), L.getD m [])]) (m + 1) := by
  have hl : (S ++ [((m : Int), L.getD m [])]).length = S.length + 1 := by simp
  refine ⟨fun k hk => ?_, fun k hk => ?_, fun k hk => ?_⟩
  · rw [hl] at hk
    by_cases e : k < S.length
    · rw [sT_old e]; have := h.i k e; omega
    · rw [sT_new (by omega)]; simp only; omega
  · rw [hl] at hk
    by_cases e : k + 1 < S.length
    · rw [sT_old e, sT_old (by omega)]; exact h.o k e
    · rw [sT_old (by omega), sT_new (by omega)]; exact (h.i k (by omega)).2
  · rw [hl] at hk
    by_cases e : k < S.length
    · rw [sT_old e, sR_old e]; exact h.r k e
    · rw [sT_new (by omega), sR_new (by omega)]; simp
theorem SeenOk.len {G L : List (List UInt8)} {S : SeenL} {m : Nat} (h : SeenOk G L S m) : S.length ≤ m := by
  have : ∀ k, k < S.length → (k : Int) ≤ sT S k := fun k => by
    induction k with
    | zero => intro hk; exact (h.i 0 hk).1
    | succ k ih => intro hk; have := ih (by omega); have := h.o k hk; omega
  by_cases e : S.length = 0
  · omega
  · have h1 := this (S.length - 1) (by omega)
    have h2 := (h.i (S.length - 1) (by omega)).2
    omega
theorem SeenOk.w {G L : List (List UInt8)} {S : SeenL} {m : Nat} (h : SeenOk G L S m) (hm : m ≤ 1000000) (hL : ShortRows 1000000 L) (hl : S.length ≤ m) : SnW S := ⟨by omega, fun k => by
  by_cases hk : k < S.length
  · rw [h.r k hk]; exact hL.at _
  · unfold sR; rw [List.getD_eq_getElem?_getD, List.getElem?_eq_none (by omega)]; simp⟩
theorem SeenOk.cons {G L : List (List UInt8)} {S : SeenL} {m : Nat} (h : SeenOk G L S m) : consB L S = true := consB_iff.2 fun k hk => (h.r k hk).symm
theorem SeenOk.bad {G L : List (List UInt8)} {S : SeenL} {m : Nat} (h : SeenOk G L S m) (hm : m ≤ G.length) (hL : L.length = G.length) (hr : L.any oddS = false) : ∀ k, k < S.length → seenBad G.length S k = 0 := fun k hk => by
  have hi := h.i k hk
  unfold seenBad outB
  rw [if_neg (by simp only [decide_eq_true_eq]; omega)]
  have hno : ¬ oddS (sR S k) = true := by
    rw [h.r k hk]
    have hlt : (sT S k).toNat < L.length := by omega
    rw [List.getD_eq_getElem?_getD, List.getElem?_eq_getElem hlt]
    have := List.any_eq_false.1 hr _ (List.getElem_mem hlt)
    exact this
  rw [if_neg hno, if_neg]
  rintro ⟨h1, h2⟩
  have := h.o (k - 1) (by omega)
  rw [show k - 1 + 1 = k by omega] at this
  omega
theorem dictV_odd {G : List (List UInt8)} {R : RowL} (h : dictV G R = 0) : ∀ j, j < R.length → (rowR R j).any oddS = false := fun j hj => by
  unfold dictV at h
  split at h
  · omega
  split at h
  · omega
  split at h
  · omega
  have := firstBad_all0 h j hj
  unfold rowBad at this
  split at this
  · omega
  split at this
  · omega
  split at this
  · omega
  rename_i h9
  simpa using h9
end Go.Proofs.YtpifoghhaohhaaaGreatDoor
namespace Go.Proofs.YtpifoghhaohhaaaGreatDoor
open Go.RowKit
def stT : List (Nat × Nat) := [(1, 0), (1, 2), (3, 9), (4, 5), (4, 5), (6, 8), (6, 7), (4, 8), (1, 2), (10, 0), (11, 12), (11, 12), (13, 15), (13, 14), (11, 15), (1, 2)]
def nextN (s t : Nat) : Nat := if t = 0 then (stT.getD s (0, 0)).1 else (stT.getD s (0, 0)).2
def stCells : List PV := stT.flatMap fun x => [.int .i64 (x.1 : Nat), .int .i64 (x.2 : Nat)]
theorem stCells_get : ∀ s, s < 16 → ∀ t, t < 2 → ∃ r, stCells.drop (s * 2 + t) = .int .i64 (nextN s t : Nat) :: r := by
  intro s hs t ht
  rcases t with _ | _ | t
  · rcases s with _ | _ | _ | _ | _ | _ | _ | _ | _ | _ | _ | _ | _ | _ | _ | _ | s <;> first | exact ⟨_, rfl⟩ | omega
  · rcases s with _ | _ | _ | _ | _ | _ | _ | _ | _ | _ | _ | _ | _ | _ | _ | _ | s <;> first | exact ⟨_, rfl⟩ | omega
  · omega
theorem next_st (s t nid : Nat) (hs : s < 16) (ht : t < 2) : ACall Tryz.prog 244 [.int .i64 (s : Nat), .int .i64 (t : Nat)] [] nid (.int .i64 (nextN s t : Nat)) [] := by
  refine acall_run c244 (by simp [a244]) ?_
  obtain ⟨r, hr⟩ := stCells_get s hs t ht
  have e : stCells = [.int .i64 1, .int .i64 0, .int .i64 1, .int .i64 2, .int .i64 3, .int .i64 9, .int .i64 4, .int .i64 5, .int .i64 4, .int .i64 5, .int .i64 6, .int .i64 8, .int .i64 6, .int .i64 7, .int .i64 4, .int .i64 8,
    .int .i64 1, .int .i64 2, .int .i64 10, .int .i64 0, .int .i64 11, .int .i64 12, .int .i64 11, .int .i64 12, .int .i64 13, .int .i64 15, .int .i64 13, .int .i64 14, .int .i64 11, .int .i64 15, .int .i64 1, .int .i64 2] := rfl
  rw [e] at hr
  simp -dsimp only [a244, aqT, aqU, aqN, ↓seqK, ↓blkK, ↓loopK, step, stepBin, Nat.reduceBEq, Nat.reduceBeqDiff, Nat.add_assoc nid, Nat.reduceAdd, reduceCtorEq, ↓reduceIte, Nat.reduceLeDiff, Nat.reduceBneDiff, Option.toList, ← Int.ofNat_tmod, ← Int.ofNat_tdiv, Nat.reduceLT]
  refine ⟨by omega, by omega, ?_⟩
  rw [Nat.mul_one, hr]
  simp -dsimp only [aqT, aqU, aqN, ↓seqK, ↓blkK, ↓loopK, step, stepBin, Nat.reduceBEq, Nat.reduceBeqDiff, Nat.add_assoc nid, Nat.reduceAdd, reduceCtorEq, ↓reduceIte, Nat.reduceLeDiff, Nat.reduceBneDiff, Option.toList, ← Int.ofNat_tmod, ← Int.ofNat_tdiv, Nat.reduceLT]
  refine RetOK.pure (.inl rfl) rfl ?_
  simp [cvT, step, res]
def tlook : List (Nat × List UInt8) → MK → Option (List UInt8)
  | [], _ => none
  | (k, v) :: r, q => if q = .i (k : Nat) then some v else tlook r q
def pIn (a t : Nat) (x : List Nat × List (Nat × List UInt8)) : List Nat × List (Nat × List UInt8) :=
  if (tlook x.2 (.i (nextN a t : Nat))).isSome then x else (x.1 ++ [nextN a t], (nextN a t, (tlook x.2 (.i (a : Nat))).getD [] ++ [UInt8.ofNat (48 + t)]) :: x.2)
def pOut (x : List Nat × List (Nat × List UInt8)) : List Nat × List (Nat × List UInt8) := match x.1 with
  | [] => x
  | a :: r => pIn a 1 (pIn a 0 (r, x.2))
def pAt (s : Nat) : Nat → List Nat × List (Nat × List UInt8)
  | 0 => ([s], [(s, [])])
  | n + 1 => pOut (pAt s n)
def pathV (s t : Nat) : List UInt8 := (tlook (pAt s 16).2 (.i (t : Nat))).getD []
theorem pAt_ok : ∀ s, s < 16 → ((pAt s 16).1 = [] ∧ ∀ n, n < 17 → ((pAt s n).1.all (· < 16) = true ∧ (pAt s n).1.length ≤ 16 ∧ (pAt s n).2.all (fun x => decide (x.2.length ≤ 16)) = true)) := by decide
def pInTo (a : Nat) (x : List Nat × List (Nat × List UInt8)) : Nat → List Nat × List (Nat × List UInt8)
  | 0 => x
  | k + 1 => pIn a k (pInTo a x k)
theorem pInTo_len (a : Nat) (x : List Nat × List (Nat × List UInt8)) (k : Nat) : (pInTo a x k).1.length ≤ x.1.length + k := by
  induction k with
  | zero => exact Nat.le_refl _
  | succ k ih =>
    unfold pInTo pIn
    split
    · omega
    · simp; omega
theorem tlook_len {L : Nat} : ∀ {T : List (Nat × List UInt8)}, T.all (fun x => decide (x.2.length ≤ L)) = true → ∀ q, ((tlook T q).getD []).length ≤ L
  | [], _, q => by simp [tlook]
  | (k, v) :: r, h, q => by
    simp only [List.all_cons, Bool.and_eq_true, decide_eq_true_eq] at h
    unfold tlook
    split
    · exact h.1
    · exact tlook_len h.2 q
theorem pInTo_vals {L : Nat} (a : Nat) {x : List Nat × List (Nat × List UInt8)} (h : x.2.all (fun x => decide (x.2.length ≤ L)) = true) : ∀ k, (pInTo a x k).2.all (fun x => decide (x.2.length ≤ L + k)) = true
  | 0 => h
  | k + 1 => by
    have ih := pInTo_vals a h k
    have ih' : (pInTo a x k).2.all (fun x => decide (x.2.length ≤ L + (k + 1))) = true := by
      rw [List.all_eq_true] at ih ⊢
      intro y hy
      have := ih y hy
      simp only [decide_eq_true_eq] at this ⊢
      omega
    unfold pInTo pIn
    split
    · exact ih'
    · simp only [List.all_cons, Bool.and_eq_true, decide_eq_true_eq, ih', and_true, List.length_append, List.length_singleton]
      have := tlook_len ih (.i (a : Nat))
      omega
theorem optD (o : Option (List UInt8)) : (bif o.isSome then o.getD [] else []) = o.getD [] := by cases o <;> rfl
theorem utf8_bit {k : Nat} (hk : k < 2) : (Utf8.encode (IntKind.i32.wrap (48 + (k : Int)))).data.toList = [UInt8.ofNat (48 + k)] := by
  have : k = 0 ∨ k = 1 := by omega
  rcases this with rfl | rfl <;> rfl
theorem getD_snocN (l : List Nat) (x i : Nat) : (l ++ [x]).getD i 0 = if i < l.length then l.getD i 0 else if i = l.length then x else 0 := by
  simp only [List.getD_eq_getElem?_getD, List.getElem?_append]
  split
  · rfl
  · split
    · simp [*]
    · rw [List.getElem?_eq_none (by simp; omega)]; rfl
def mapT (T : List (Nat × List UInt8)) : Option ABlk := some (.map (.i .i64) (fun q => (tlook T q).isSome) (.s fun q => (tlook T q).getD []))
set_option maxHeartbeats 1000000 in
theorem path_st (s t nid : Nat) (hs : s < 16) : ACall Tryz.prog 196 [.int .i64 (s : Nat), .int .i64 (t : Nat)] [] nid (.str (pathV s t)) [] := by
  refine acall_run c196 (by simp [a196]) ?_
  simp -dsimp only [a196, aqT, aqU, aqN, ↓seqK, ↓blkK, ↓loopK, step, stepBin, Nat.reduceBEq, Nat.reduceBeqDiff, Nat.add_assoc nid, Nat.reduceAdd, reduceCtorEq, ↓reduceIte, Nat.reduceLeDiff, Nat.reduceBneDiff, Option.toList, ← Int.ofNat_tmod, ← Int.ofNat_tdiv, Nat.reduceLT, mNew, mkKey, keyIn, mPut]
  refine LP.mkP (fun x : Nat × Nat × (Nat → Int) => x.1 ≤ 16) (fun x => ⟨[(6, .sl (nid + 4) x.2.1 (pAt s x.1).1.length), (5, .mp (nid + 8)), (1, .int .i64 (t : Nat))],
    [(nid + 4, some (.arr 3 (x.2.1 + (pAt s x.1).1.length) [.i .i64 fun i => if i < x.2.1 then x.2.2 i else (((pAt s x.1).1.getD (i - x.2.1) 0 : Nat) : Int)])), (nid + 8, mapT (pAt s x.1).2)], nid + 100, nid⟩)
    (fun x => 17 - x.1) (0, 0, fun _ => 0) (by simp) (Cov.go [(nid + 4, nid + 28), (nid + 8, nid + 4)] [] ?_) (fun x hx => ?_)
  · simp [cvT, step, res, pAt, mapT]
    refine ⟨ColEq.i fun i hi => ?_, fun q hq => ?_⟩
    · have : i = 0 := by omega
      subst this; rfl
    · unfold tlook tlook
      split <;> simp [*, mVal]
  obtain ⟨n, d, g⟩ := x
  simp only at hx
  obtain ⟨ok1, ok2⟩ := pAt_ok s hs
  have ok := ok2 n (by omega)
  have hst : pAt s (n + 1) = pOut (pAt s n) := rfl
  unfold mapT
  simp -dsimp only [aqT, aqU, aqN, ↓seqK, ↓blkK, ↓loopK, step, stepBin, Nat.reduceBEq, Nat.reduceBeqDiff, Nat.add_assoc nid, Nat.reduceAdd, reduceCtorEq, ↓reduceIte, Nat.reduceLeDiff, Nat.reduceBneDiff, Option.toList, ← Int.ofNat_tmod, ← Int.ofNat_tdiv, Nat.reduceLT]
  refine S2.dec (fun h1 => ?_) (fun h1 => ?_)
  · have hn : n < 16 := by
      rcases Nat.lt_or_ge n 16 with h | h
      · exact h
      · have : n = 16 := by omega
        subst this; rw [ok1] at h1; simp at h1
    rcases hQ : pAt s n with ⟨Q, T⟩
    rw [hQ] at ok hst h1
    rcases Q with _ | ⟨a, r⟩
    · simp at h1
    simp only [List.all_cons, Bool.and_eq_true, decide_eq_true_eq, List.length_cons] at ok
    obtain ⟨⟨ha, hr⟩, hlen, hvl⟩ := ok
    have hst : pAt s (n + 1) = pInTo a (r, T) 2 := hst
    simp -dsimp only [aqT, aqU, aqN, ↓seqK, ↓blkK, ↓loopK, step, stepBin, Nat.reduceBEq, Nat.reduceBeqDiff, Nat.add_assoc nid, Nat.reduceAdd, reduceCtorEq, ↓reduceIte, Nat.reduceLeDiff, Nat.reduceBneDiff, Option.toList, ← Int.ofNat_tmod, ← Int.ofNat_tdiv, Nat.reduceLT]
    refine ⟨by omega, by omega, LP.mkP (fun x : Nat × Nat × (Nat → Int) => x.1 ≤ 2) (fun x => ⟨[(25, .int .i64 (x.1 : Nat)), (7, .int .i64 (a : Nat)), (6, .sl (nid + 4) x.2.1 (pInTo a (r, T) x.1).1.length), (5, .mp (nid + 8)), (1, .int .i64 (t : Nat))],
      [(nid + 4, some (.arr 3 (x.2.1 + (pInTo a (r, T) x.1).1.length) [.i .i64 fun i => if i < x.2.1 then x.2.2 i else (((pInTo a (r, T) x.1).1.getD (i - x.2.1) 0 : Nat) : Int)])), (nid + 8, mapT (pInTo a (r, T) x.1).2)], nid + 200, nid⟩)
      (fun x => 3 - x.1) (0, d + 1, fun i => if i < d then g i else (((a :: r).getD (i - d) 0 : Nat) : Int)) (by simp) (Cov.go [] [] ?_) (fun y hy => ?_)⟩
    · simp [cvT, step, res, pInTo, mapT, -List.getD_eq_getElem?_getD]
      refine ⟨⟨by omega, ColEq.i fun i hi => ?_⟩, by simp⟩
      by_cases hid : i < d + 1
      · rw [if_pos hid]
      · rw [if_neg hid, if_neg (by omega), show i - d = i - (d + 1) + 1 from by omega]
        rfl
    obtain ⟨k, d2, g2⟩ := y
    simp only at hy
    unfold mapT
    have hql := pInTo_len a (r, T) k
    have hqv := pInTo_vals a (x := (r, T)) hvl k
    rcases hX : pInTo a (r, T) k with ⟨Q2, T2⟩
    have hk1 : pInTo a (r, T) (k + 1) = pIn a k (Q2, T2) := by rw [← hX]; rfl
    rw [hX] at hql hqv
    simp only at hql hqv
    have hsl := tlook_len hqv (.i (a : Nat))
    simp -dsimp only [aqT, aqU, aqN, ↓seqK, ↓blkK, ↓loopK, step, stepBin, Nat.reduceBEq, Nat.reduceBeqDiff, Nat.add_assoc nid, Nat.reduceAdd, reduceCtorEq, ↓reduceIte, Nat.reduceLeDiff, Nat.reduceBneDiff, Option.toList, ← Int.ofNat_tmod, ← Int.ofNat_tdiv, Nat.reduceLT, hX]
    refine S2.dec (fun h2 => ?_) (fun h2 => ?_)
    · simp -dsimp only [aqT, aqU, aqN, ↓seqK, ↓blkK, ↓loopK, step, stepBin, Nat.reduceBEq, Nat.reduceBeqDiff, Nat.add_assoc nid, Nat.reduceAdd, reduceCtorEq, ↓reduceIte, Nat.reduceLeDiff, Nat.reduceBneDiff, Option.toList, ← Int.ofNat_tmod, ← Int.ofNat_tdiv, Nat.reduceLT]
      refine CallO.pure (next_st a k _ ha (by omega)) ?_
      simp -dsimp only [aqT, aqU, aqN, ↓seqK, ↓blkK, ↓loopK, step, stepBin, Nat.reduceBEq, Nat.reduceBeqDiff, Nat.add_assoc nid, Nat.reduceAdd, reduceCtorEq, ↓reduceIte, Nat.reduceLeDiff, Nat.reduceBneDiff, Option.toList, ← Int.ofNat_tmod, ← Int.ofNat_tdiv, Nat.reduceLT, mkKey, keyIn, mGet, optD]
      refine S2.intro (fun h3 => ?_) (fun h3 => ?_)
      · have h3' : (tlook T2 (.i (nextN a k : Nat))).isSome = false := by simpa using h3
        rw [show pIn a k (Q2, T2) = (Q2 ++ [nextN a k], (nextN a k, (tlook T2 (.i (a : Nat))).getD [] ++ [UInt8.ofNat (48 + k)]) :: T2) from by unfold pIn; rw [if_neg (by rw [h3']; simp)]] at hk1
        simp -dsimp only [aqT, aqU, aqN, ↓seqK, ↓blkK, ↓loopK, step, stepBin, Nat.reduceBEq, Nat.reduceBeqDiff, Nat.add_assoc nid, Nat.reduceAdd, reduceCtorEq, ↓reduceIte, Nat.reduceLeDiff, Nat.reduceBneDiff, Option.toList, ← Int.ofNat_tmod, ← Int.ofNat_tdiv, Nat.reduceLT, mkKey, keyIn, mGet, mPut, optD, utf8_bit (show k < 2 by omega)]
        refine ⟨by unfold inI64; omega, by simp; omega, ?_⟩
        cases hd2 : d2 == 0
        · simp -dsimp only [aqT, aqU, aqN, ↓seqK, ↓blkK, ↓loopK, step, stepBin, Nat.reduceBEq, Nat.reduceBeqDiff, Nat.add_assoc nid, Nat.reduceAdd, reduceCtorEq, ↓reduceIte, Nat.reduceLeDiff, Nat.reduceBneDiff, Option.toList, ← Int.ofNat_tmod, ← Int.ofNat_tdiv, Nat.reduceLT, Col.shift]
          refine ⟨⟨by omega, by omega⟩, by unfold inI64; omega, (k + 1, 0, fun _ => 0), ⟨by omega, by omega⟩, Cov.go [(nid + 4, nid + 324)] [] ?_⟩
          rw [hk1]
          simp [cvT, step, res, mapT, -List.getD_eq_getElem?_getD]
          refine ⟨ColEq.i fun i hi => ?_, fun q hq => ?_⟩
          · rw [getD_snocN]
            by_cases h : i < Q2.length
            · simp only [if_pos h, if_neg (show ¬ d2 + i < d2 by omega)]
            · have : i = Q2.length := by omega
              subst this
              simp
          · simp only [tlook, mVal]
            by_cases h : q = .i (nextN a k : Nat)
            · simp [h]
            · simp [h]
        · have hd0 : d2 = 0 := by simpa using hd2
          subst hd0
          simp -dsimp only [aqT, aqU, aqN, ↓seqK, ↓blkK, ↓loopK, step, stepBin, Nat.reduceBEq, Nat.reduceBeqDiff, Nat.add_assoc nid, Nat.reduceAdd, reduceCtorEq, ↓reduceIte, Nat.reduceLeDiff, Nat.reduceBneDiff, Option.toList, ← Int.ofNat_tmod, ← Int.ofNat_tdiv, Nat.reduceLT]
          refine ⟨⟨by omega, by omega⟩, by unfold inI64; omega, (k + 1, 0, fun _ => 0), ⟨by omega, by omega⟩, Cov.go [(nid + 4, nid + 324)] [] ?_⟩
          rw [hk1]
          simp [cvT, step, res, mapT, -List.getD_eq_getElem?_getD]
          refine ⟨ColEq.i fun i hi => ?_, fun q hq => ?_⟩
          · rw [getD_snocN]
            by_cases h : i < Q2.length
            · simp only [if_pos h]
            · have : i = Q2.length := by omega
              subst this
              simp
          · simp only [tlook, mVal]
            by_cases h : q = .i (nextN a k : Nat)
            · simp [h]
            · simp [h]
      · have h3' : (tlook T2 (.i (nextN a k : Nat))).isSome = true := by simpa using h3
        rw [show pIn a k (Q2, T2) = (Q2, T2) from by unfold pIn; rw [if_pos h3']] at hk1
        simp -dsimp only [aqT, aqU, aqN, ↓seqK, ↓blkK, ↓loopK, step, stepBin, Nat.reduceBEq, Nat.reduceBeqDiff, Nat.add_assoc nid, Nat.reduceAdd, reduceCtorEq, ↓reduceIte, Nat.reduceLeDiff, Nat.reduceBneDiff, Option.toList, ← Int.ofNat_tmod, ← Int.ofNat_tdiv, Nat.reduceLT]
        refine ⟨by unfold inI64; omega, (k + 1, d2, g2), ⟨by omega, by omega⟩, Cov.go [] [] ?_⟩
        rw [hk1]
        simp [cvT, step, res, mapT]
    · have hk2 : k = 2 := by omega
      subst hk2
      simp -dsimp only [aqT, aqU, aqN, ↓seqK, ↓blkK, ↓loopK, step, stepBin, Nat.reduceBEq, Nat.reduceBeqDiff, Nat.add_assoc nid, Nat.reduceAdd, reduceCtorEq, ↓reduceIte, Nat.reduceLeDiff, Nat.reduceBneDiff, Option.toList, ← Int.ofNat_tmod, ← Int.ofNat_tdiv, Nat.reduceLT]
      refine ⟨(n + 1, d2, g2), ⟨by omega, by omega⟩, Cov.go [] [] ?_⟩
      rw [hst, hX]
      simp [cvT, step, res, mapT]
  · simp -dsimp only [aqT, aqU, aqN, ↓seqK, ↓blkK, ↓loopK, step, stepBin, Nat.reduceBEq, Nat.reduceBeqDiff, Nat.add_assoc nid, Nat.reduceAdd, reduceCtorEq, ↓reduceIte, Nat.reduceLeDiff, Nat.reduceBneDiff, Option.toList, ← Int.ofNat_tmod, ← Int.ofNat_tdiv, Nat.reduceLT, mkKey, keyIn, mGet, optD]
    have h0 : (pAt s n).1 = [] := List.eq_nil_of_length_eq_zero (by omega)
    have h16 : ∀ j, (pAt s (n + j)) = pAt s n := by
      intro j
      induction j with
      | zero => rfl
      | succ j ih =>
        show pOut (pAt s (n + j)) = _
        rw [ih]
        unfold pOut
        rw [h0]
    have := h16 (16 - n)
    rw [show n + (16 - n) = 16 from by omega] at this
    refine RetOK.pure (.inl rfl) rfl ?_
    simp [cvT, step, res, pathV, this]
end Go.Proofs.YtpifoghhaohhaaaGreatDoor
namespace Go.Proofs.YtpifoghhaohhaaaGreatDoor
open Go.RowKit
def isBinV (c : Int) : Bool := (decide (48 ≤ c) && decide (c ≤ 57)) || (decide (97 ≤ c) && decide (c ≤ 122))
theorem isBin_c (c : Int) (nid : Nat) : ACall Tryz.prog 246 [.int .u8 c] [] nid (.bool (isBinV c)) [] := by
  refine acall_run c246 (by simp [a246]) ?_
  unfold isBinV
  simp -dsimp only [a246, aqT, aqU, aqN, ↓seqK, ↓blkK, ↓loopK, step, stepBin, Nat.reduceBEq, Nat.reduceBeqDiff, Nat.add_assoc nid, Nat.reduceAdd, reduceCtorEq, ↓reduceIte, Nat.reduceLeDiff, Nat.reduceBneDiff, Option.toList, ← Int.ofNat_tmod, ← Int.ofNat_tdiv, Nat.reduceLT]
  cases h1 : decide (48 ≤ c) <;> simp -dsimp only [aqT, aqU, aqN, ↓seqK, ↓blkK, ↓loopK, step, stepBin, Nat.reduceBEq, Nat.reduceBeqDiff, Nat.add_assoc nid, Nat.reduceAdd, reduceCtorEq, ↓reduceIte, Nat.reduceLeDiff, Nat.reduceBneDiff, Option.toList, ← Int.ofNat_tmod, ← Int.ofNat_tdiv, Nat.reduceLT]
  · cases h3 : decide (97 ≤ c) <;> simp -dsimp only [aqT, aqU, aqN, ↓seqK, ↓blkK, ↓loopK, step, stepBin, Nat.reduceBEq, Nat.reduceBeqDiff, Nat.add_assoc nid, Nat.reduceAdd, reduceCtorEq, ↓reduceIte, Nat.reduceLeDiff, Nat.reduceBneDiff, Option.toList, ← Int.ofNat_tmod, ← Int.ofNat_tdiv, Nat.reduceLT]
    · refine RetOK.pure (.inl rfl) rfl ?_
      simp [cvT, step, res, h1, h3]
    · refine RetOK.pure (.inl rfl) rfl ?_
      simp [cvT, step, res, h1, h3]
  · cases h2 : decide (c ≤ 57) <;> simp -dsimp only [aqT, aqU, aqN, ↓seqK, ↓blkK, ↓loopK, step, stepBin, Nat.reduceBEq, Nat.reduceBeqDiff, Nat.add_assoc nid, Nat.reduceAdd, reduceCtorEq, ↓reduceIte, Nat.reduceLeDiff, Nat.reduceBneDiff, Option.toList, ← Int.ofNat_tmod, ← Int.ofNat_tdiv, Nat.reduceLT]
    · cases h3 : decide (97 ≤ c) <;> simp -dsimp only [aqT, aqU, aqN, ↓seqK, ↓blkK, ↓loopK, step, stepBin, Nat.reduceBEq, Nat.reduceBeqDiff, Nat.add_assoc nid, Nat.reduceAdd, reduceCtorEq, ↓reduceIte, Nat.reduceLeDiff, Nat.reduceBneDiff, Option.toList, ← Int.ofNat_tmod, ← Int.ofNat_tdiv, Nat.reduceLT] <;> refine RetOK.pure (.inl rfl) rfl ?_ <;> simp [cvT, step, res, h1, h2, h3]
    · refine RetOK.pure (.inl rfl) rfl ?_
      simp [cvT, step, res, h1, h2]
theorem isPlace_c (c : Int) (nid : Nat) : ACall Tryz.prog 281 [.int .u8 c] [] nid (.bool (isBinV c || c == 46 || c == 63 || c == 42)) [] := by
  refine acall_run c281 (by simp [a281]) ?_
  simp -dsimp only [a281, aqT, aqU, aqN, ↓seqK, ↓blkK, ↓loopK, step, stepBin, Nat.reduceBEq, Nat.reduceBeqDiff, Nat.add_assoc nid, Nat.reduceAdd, reduceCtorEq, ↓reduceIte, Nat.reduceLeDiff, Nat.reduceBneDiff, Option.toList, ← Int.ofNat_tmod, ← Int.ofNat_tdiv, Nat.reduceLT]
  refine CallO.pure (isBin_c _ _) ?_
  simp -dsimp only [aqT, aqU, aqN, ↓seqK, ↓blkK, ↓loopK, step, stepBin, Nat.reduceBEq, Nat.reduceBeqDiff, Nat.add_assoc nid, Nat.reduceAdd, reduceCtorEq, ↓reduceIte, Nat.reduceLeDiff, Nat.reduceBneDiff, Option.toList, ← Int.ofNat_tmod, ← Int.ofNat_tdiv, Nat.reduceLT]
  cases h0 : isBinV c <;> simp -dsimp only [aqT, aqU, aqN, ↓seqK, ↓blkK, ↓loopK, step, stepBin, Nat.reduceBEq, Nat.reduceBeqDiff, Nat.add_assoc nid, Nat.reduceAdd, reduceCtorEq, ↓reduceIte, Nat.reduceLeDiff, Nat.reduceBneDiff, Option.toList, ← Int.ofNat_tmod, ← Int.ofNat_tdiv, Nat.reduceLT]
  · cases h1 : (c == 46) <;> simp -dsimp only [aqT, aqU, aqN, ↓seqK, ↓blkK, ↓loopK, step, stepBin, Nat.reduceBEq, Nat.reduceBeqDiff, Nat.add_assoc nid, Nat.reduceAdd, reduceCtorEq, ↓reduceIte, Nat.reduceLeDiff, Nat.reduceBneDiff, Option.toList, ← Int.ofNat_tmod, ← Int.ofNat_tdiv, Nat.reduceLT, h1]
    · cases h2 : (c == 63) <;> simp -dsimp only [aqT, aqU, aqN, ↓seqK, ↓blkK, ↓loopK, step, stepBin, Nat.reduceBEq, Nat.reduceBeqDiff, Nat.add_assoc nid, Nat.reduceAdd, reduceCtorEq, ↓reduceIte, Nat.reduceLeDiff, Nat.reduceBneDiff, Option.toList, ← Int.ofNat_tmod, ← Int.ofNat_tdiv, Nat.reduceLT, h2] <;> refine RetOK.pure (.inl rfl) rfl ?_ <;> simp [cvT, step, res, h1, h2]
    · refine RetOK.pure (.inl rfl) rfl ?_
      simp [cvT, step, res]
  · refine RetOK.pure (.inl rfl) rfl ?_
    simp [cvT, step, res]
theorem oddF_c (c : Int) (nid : Nat) : ACall Tryz.prog 280 [.int .u8 c] [] nid (.bool (!(isBinV c || c == 46 || c == 63 || c == 42))) [] := by
  refine acall_run c280 (by simp [a280]) ?_
  simp -dsimp only [a280, aqT, aqU, aqN, ↓seqK, ↓blkK, ↓loopK, step, stepBin, Nat.reduceBEq, Nat.reduceBeqDiff, Nat.add_assoc nid, Nat.reduceAdd, reduceCtorEq, ↓reduceIte, Nat.reduceLeDiff, Nat.reduceBneDiff, Option.toList, ← Int.ofNat_tmod, ← Int.ofNat_tdiv, Nat.reduceLT]
  refine CallO.pure (isPlace_c _ _) ?_
  simp -dsimp only [aqT, aqU, aqN, ↓seqK, ↓blkK, ↓loopK, step, stepBin, Nat.reduceBEq, Nat.reduceBeqDiff, Nat.add_assoc nid, Nat.reduceAdd, reduceCtorEq, ↓reduceIte, Nat.reduceLeDiff, Nat.reduceBneDiff, Option.toList, ← Int.ofNat_tmod, ← Int.ofNat_tdiv, Nat.reduceLT]
  refine RetOK.pure (.inl rfl) rfl ?_
  simp [cvT, step, res]
def placeB (c : Int) : Bool := isBinV c || c == 46 || c == 63 || c == 42
theorem indexF_c (nl : Bool) (n : Nat) (g : Nat → Int) (nid : Nat) (hn : n ≤ 1000000000) (h : ∀ i, i < n → placeB (g i) = true) : ACall Tryz.prog 229 [.lit nl n [.i .u8 g], .fn 280 []] [] nid (.int .i64 (-1)) [] := by
  refine acall_run c229 (by simp [a229]) ?_
  simp -dsimp only [a229, aqT, aqU, aqN, ↓seqK, ↓blkK, ↓loopK, step, stepBin, Nat.reduceBEq, Nat.reduceBeqDiff, Nat.add_assoc nid, Nat.reduceAdd, reduceCtorEq, ↓reduceIte, Nat.reduceLeDiff, Nat.reduceBneDiff, Option.toList, ← Int.ofNat_tmod, ← Int.ofNat_tdiv, Nat.reduceLT]
  refine LP.mkP (fun k : Nat => k ≤ n) (fun k : Nat => ⟨[(8, .int .i64 k), (7, .int .i64 n), (0, .lit nl n [.i .u8 g]), (1, .fn 280 [])], [], nid + 100, nid⟩) (fun k => n + 1 - k) 0 (by omega) (Cov.go [] [] ?_) (fun k hk => ?_)
  · simp [cvT, step, res]
  simp -dsimp only [aqT, aqU, aqN, ↓seqK, ↓blkK, ↓loopK, step, stepBin, Nat.reduceBEq, Nat.reduceBeqDiff, Nat.add_assoc nid, Nat.reduceAdd, reduceCtorEq, ↓reduceIte, Nat.reduceLeDiff, Nat.reduceBneDiff, Option.toList, ← Int.ofNat_tmod, ← Int.ofNat_tdiv, Nat.reduceLT]
  refine S2.dec (fun h3 => ?_) (fun h3 => ?_) <;> simp -dsimp only [aqT, aqU, aqN, ↓seqK, ↓blkK, ↓loopK, step, stepBin, Nat.reduceBEq, Nat.reduceBeqDiff, Nat.add_assoc nid, Nat.reduceAdd, reduceCtorEq, ↓reduceIte, Nat.reduceLeDiff, Nat.reduceBneDiff, Option.toList, ← Int.ofNat_tmod, ← Int.ofNat_tdiv, Nat.reduceLT]
  · refine ⟨by omega, CallO.pure (oddF_c _ _) ?_⟩
    have hp := h k (by omega)
    unfold placeB at hp
    rw [hp]
    simp -dsimp only [aqT, aqU, aqN, ↓seqK, ↓blkK, ↓loopK, step, stepBin, Nat.reduceBEq, Nat.reduceBeqDiff, Nat.add_assoc nid, Nat.reduceAdd, reduceCtorEq, ↓reduceIte, Nat.reduceLeDiff, Nat.reduceBneDiff, Option.toList, ← Int.ofNat_tmod, ← Int.ofNat_tdiv, Nat.reduceLT]
    refine ⟨by unfold inI64; omega, k + 1, ⟨by omega, by omega⟩, Cov.go [] [] ?_⟩
    simp [cvT, step, res]
  · refine RetOK.pure (.inl rfl) rfl ?_
    simp [cvT, step, res]
theorem odd_c' (s : List UInt8) (nid : Nat) (hn : s.length ≤ 1000000000) (h : ∀ i, i < s.length → placeB ((s.getD i 0).toNat : Nat) = true) : ACall Tryz.prog 245 [.str s] [] nid (.bool false) [] := by
  have hcf : ∀ nid, ACall Tryz.prog 178 [.lit false s.length [.i .u8 fun i => ((s.getD i 0).toNat : Nat)], .fn 280 []] [] nid (.bool false) [] := fun nid => by
    refine acall_run c178 (by simp [a178]) ?_
    simp -dsimp only [a178, aqT, aqU, aqN, ↓seqK, ↓blkK, ↓loopK, step, stepBin, Nat.reduceBEq, Nat.reduceBeqDiff, Nat.add_assoc nid, Nat.reduceAdd, reduceCtorEq, ↓reduceIte, Nat.reduceLeDiff, Nat.reduceBneDiff, Option.toList, ← Int.ofNat_tmod, ← Int.ofNat_tdiv, Nat.reduceLT]
    refine CallO.pure (indexF_c _ _ _ _ hn h) ?_
    simp -dsimp only [aqT, aqU, aqN, ↓seqK, ↓blkK, ↓loopK, step, stepBin, Nat.reduceBEq, Nat.reduceBeqDiff, Nat.add_assoc nid, Nat.reduceAdd, reduceCtorEq, ↓reduceIte, Nat.reduceLeDiff, Nat.reduceBneDiff, Option.toList, ← Int.ofNat_tmod, ← Int.ofNat_tdiv, Nat.reduceLT, Int.cast_ofNat_Int, Int.reduceBEq, Int.reduceBNe, Int.reduceLT, Int.reduceLE, Int.reduceAdd, Int.reduceSub, Int.reduceMul, Int.reduceToNat, Int.reduceNeg, Int.reduceTMod, Int.reduceEq, not_false_eq_true, Int.reducePow, Int.reduceFDiv, Nat.reducePow, Nat.reduceSub, Nat.reduceMul, Nat.min_eq_left, Nat.reduceEqDiff, BEq.rfl, Int.tdiv_one, LN_succ]
    refine RetOK.pure (.inl rfl) rfl ?_
    simp [cvT, step, res]
  refine acall_run c245 (by simp [a245]) ?_
  simp -dsimp only [a245, aqT, aqU, aqN, ↓seqK, ↓blkK, ↓loopK, step, stepBin, Nat.reduceBEq, Nat.reduceBeqDiff, Nat.add_assoc nid, Nat.reduceAdd, reduceCtorEq, ↓reduceIte, Nat.reduceLeDiff, Nat.reduceBneDiff, Option.toList, ← Int.ofNat_tmod, ← Int.ofNat_tdiv, Nat.reduceLT]
  refine CallO.pure (hcf _) ?_
  simp -dsimp only [aqT, aqU, aqN, ↓seqK, ↓blkK, ↓loopK, step, stepBin, Nat.reduceBEq, Nat.reduceBeqDiff, Nat.add_assoc nid, Nat.reduceAdd, reduceCtorEq, ↓reduceIte, Nat.reduceLeDiff, Nat.reduceBneDiff, Option.toList, ← Int.ofNat_tmod, ← Int.ofNat_tdiv, Nat.reduceLT]
  refine RetOK.pure (.inl rfl) rfl ?_
  simp [cvT, step, res]
theorem tested_c (c : Int) (nid : Nat) : ACall Tryz.prog 248 [.int .u8 c] [] nid (.bool (isBinV c || c == 42)) [] := by
  refine acall_run c248 (by simp [a248]) ?_
  simp -dsimp only [a248, aqT, aqU, aqN, ↓seqK, ↓blkK, ↓loopK, step, stepBin, Nat.reduceBEq, Nat.reduceBeqDiff, Nat.add_assoc nid, Nat.reduceAdd, reduceCtorEq, ↓reduceIte, Nat.reduceLeDiff, Nat.reduceBneDiff, Option.toList, ← Int.ofNat_tmod, ← Int.ofNat_tdiv, Nat.reduceLT]
  refine CallO.pure (isBin_c _ _) ?_
  cases h0 : isBinV c <;> cases h1 : (c == 42) <;>
    simp -dsimp only [aqT, aqU, aqN, ↓seqK, ↓blkK, ↓loopK, step, stepBin, Nat.reduceBEq, Nat.reduceBeqDiff, Nat.add_assoc nid, Nat.reduceAdd, reduceCtorEq, ↓reduceIte, Nat.reduceLeDiff, Nat.reduceBneDiff, Option.toList, ← Int.ofNat_tmod, ← Int.ofNat_tdiv, Nat.reduceLT, h0, h1] <;> refine RetOK.pure (.inl rfl) rfl ?_ <;> simp [cvT, step, res]
theorem gcd12_c (nid : Nat) : ACall Tryz.prog 184 [.int .i64 1, .int .i64 2] [] nid (.int .i64 1) [] := by
  refine acall_run c184 (by simp [a184]) ?_
  simp -dsimp only [a184, aqT, aqU, aqN, ↓seqK, ↓blkK, ↓loopK, step, stepBin, Nat.reduceBEq, Nat.reduceBeqDiff, Nat.add_assoc nid, Nat.reduceAdd, reduceCtorEq, ↓reduceIte, Nat.reduceLeDiff, Nat.reduceBneDiff, Option.toList, ← Int.ofNat_tmod, ← Int.ofNat_tdiv, Nat.reduceLT]
  refine LP.rounds 5 ?_
  simp -dsimp only [aqT, aqU, aqN, ↓seqK, ↓blkK, ↓loopK, step, stepBin, Nat.reduceBEq, Nat.reduceBeqDiff, Nat.add_assoc nid, Nat.reduceAdd, reduceCtorEq, ↓reduceIte, Nat.reduceLeDiff, Nat.reduceBneDiff, Option.toList, ← Int.ofNat_tmod, ← Int.ofNat_tdiv, Nat.reduceLT, Int.cast_ofNat_Int, Int.reduceBEq, Int.reduceBNe, Int.reduceLT, Int.reduceLE, Int.reduceAdd, Int.reduceSub, Int.reduceMul, Int.reduceToNat, Int.reduceNeg, Int.reduceTMod, Int.reduceEq, not_false_eq_true, Int.reducePow, Int.reduceFDiv, Nat.reducePow, Nat.reduceSub, Nat.reduceMul, Nat.min_eq_left, Nat.reduceEqDiff, BEq.rfl, Int.tdiv_one, LN_succ]
  refine RetOK.pure (.inl rfl) rfl ?_
  simp [cvT, step, res]
theorem frac12_c (nid : Nat) : ACall Tryz.prog 94 [.int .i64 1, .int .i64 2] [] nid (.agg [.int .i64 1, .int .i64 2]) [] := by
  refine acall_run c94 (by simp [a94]) ?_
  simp -dsimp only [a94, aqT, aqU, aqN, ↓seqK, ↓blkK, ↓loopK, step, stepBin, Nat.reduceBEq, Nat.reduceBeqDiff, Nat.add_assoc nid, Nat.reduceAdd, reduceCtorEq, ↓reduceIte, Nat.reduceLeDiff, Nat.reduceBneDiff, Option.toList, ← Int.ofNat_tmod, ← Int.ofNat_tdiv, Nat.reduceLT, Int.cast_ofNat_Int, Int.reduceBEq, Int.reduceBNe, Int.reduceLT, Int.reduceLE, Int.reduceAdd, Int.reduceSub, Int.reduceMul, Int.reduceToNat, Int.reduceNeg, Int.reduceTMod, Int.reduceEq, not_false_eq_true, Int.reducePow, Int.reduceFDiv, Nat.reducePow, Nat.reduceSub, Nat.reduceMul, Nat.min_eq_left, Nat.reduceEqDiff, BEq.rfl, Int.tdiv_one, LN_succ]
  have hm : max (1 : Int) (-1) = 1 := by decide
  rw [hm]
  refine ⟨by unfold inI64; omega, CallO.pure (gcd12_c _) ?_⟩
  simp -dsimp only [aqT, aqU, aqN, ↓seqK, ↓blkK, ↓loopK, step, stepBin, Nat.reduceBEq, Nat.reduceBeqDiff, Nat.add_assoc nid, Nat.reduceAdd, reduceCtorEq, ↓reduceIte, Nat.reduceLeDiff, Nat.reduceBneDiff, Option.toList, ← Int.ofNat_tmod, ← Int.ofNat_tdiv, Nat.reduceLT, Int.cast_ofNat_Int, Int.reduceBEq, Int.reduceBNe, Int.reduceLT, Int.reduceLE, Int.reduceAdd, Int.reduceSub, Int.reduceMul, Int.reduceToNat, Int.reduceNeg, Int.reduceTMod, Int.reduceEq, not_false_eq_true, Int.reducePow, Int.reduceFDiv, Nat.reducePow, Nat.reduceSub, Nat.reduceMul, Nat.min_eq_left, Nat.reduceEqDiff, BEq.rfl, Int.tdiv_one, LN_succ]
  have h1 : IntKind.i64.wrap 1 = 1 := by decide
  have h2 : IntKind.i64.wrap 2 = 2 := by decide
  rw [h1, h2]
  refine RetOK.go [] [] (.inl rfl) ?_
  simp [a94, cvT, step, res]
theorem indexBS_c (s : List UInt8) (c : Int) (nid : Nat) : ACall Tryz.prog 279 [.str s, .int .u8 c] [] nid (.int .i64 (Lib.indexByte s c.toNat.toUInt8)) [] := by
  intro C vs hb hl hr hs
  obtain ⟨v0, v1, rfl⟩ : ∃ a b, vs = [a, b] := by
    rcases vs with _ | ⟨a, _ | ⟨b, _ | ⟨c, r⟩⟩⟩
    · simp at hl
    · simp at hl
    · exact ⟨a, b, rfl⟩
    · simp at hl
  have r0 := (hr 0 _ v0 rfl rfl).str_inv
  have r1 := (hr 1 _ v1 rfl rfl).int_inv
  subst r0; subst r1
  refine .inr ⟨.int .i64 (Lib.indexByte s c.toNat.toUInt8), C.w0, ?_, C.Y0, C.m0, .int, by simpa using hs.next (show nid ≤ nid + 4 by omega), Ev.refl _ _ _⟩
  rw [run_callFunc_extern (P := Tryz.prog) (f := 279) (fn := Tryz.f279) (e := Extern.BytealgIndexByte.indexByte) Tryz.func279 (by kernel_rfl) (by kernel_rfl) (by kernel_rfl) (by kernel_rfl)]
  have h := Lib.run_indexByteString (P := Tryz.prog) ⟨s.toArray⟩ c C.w0
  show ((Extern.BytealgIndexByte.indexByte #[.string ⟨s.toArray⟩, .int .u8 c]).run Tryz.prog C.w0).andThen _ = _
  rw [h]
  rfl
theorem indexB_c (s : List UInt8) (c : Int) (nid : Nat) : ACall Tryz.prog 181 [.str s, .int .u8 c] [] nid (.int .i64 (Lib.indexByte s c.toNat.toUInt8)) [] := by
  have h1 : ∀ nid, ACall Tryz.prog 237 [.str s, .int .u8 c] [] nid (.int .i64 (Lib.indexByte s c.toNat.toUInt8)) [] := fun nid => by
    refine acall_run c237 (by simp [a237]) ?_
    simp -dsimp only [a237, aqT, aqU, aqN, ↓seqK, ↓blkK, ↓loopK, step, stepBin, Nat.reduceBEq, Nat.reduceBeqDiff, Nat.add_assoc nid, Nat.reduceAdd, reduceCtorEq, ↓reduceIte, Nat.reduceLeDiff, Nat.reduceBneDiff, Option.toList, ← Int.ofNat_tmod, ← Int.ofNat_tdiv, Nat.reduceLT]
    refine CallO.pure (indexBS_c s c _) ?_
    simp -dsimp only [aqT, aqU, aqN, ↓seqK, ↓blkK, ↓loopK, step, stepBin, Nat.reduceBEq, Nat.reduceBeqDiff, Nat.add_assoc nid, Nat.reduceAdd, reduceCtorEq, ↓reduceIte, Nat.reduceLeDiff, Nat.reduceBneDiff, Option.toList, ← Int.ofNat_tmod, ← Int.ofNat_tdiv, Nat.reduceLT]
    refine RetOK.pure (.inl rfl) rfl ?_
    simp [cvT, step, res]
  refine acall_run c181 (by simp [a181]) ?_
  simp -dsimp only [a181, aqT, aqU, aqN, ↓seqK, ↓blkK, ↓loopK, step, stepBin, Nat.reduceBEq, Nat.reduceBeqDiff, Nat.add_assoc nid, Nat.reduceAdd, reduceCtorEq, ↓reduceIte, Nat.reduceLeDiff, Nat.reduceBneDiff, Option.toList, ← Int.ofNat_tmod, ← Int.ofNat_tdiv, Nat.reduceLT]
  refine CallO.pure (h1 _) ?_
  simp -dsimp only [aqT, aqU, aqN, ↓seqK, ↓blkK, ↓loopK, step, stepBin, Nat.reduceBEq, Nat.reduceBeqDiff, Nat.add_assoc nid, Nat.reduceAdd, reduceCtorEq, ↓reduceIte, Nat.reduceLeDiff, Nat.reduceBneDiff, Option.toList, ← Int.ofNat_tmod, ← Int.ofNat_tdiv, Nat.reduceLT]
  refine RetOK.pure (.inl rfl) rfl ?_
  simp [cvT, step, res]
def passedV (pass : List UInt8) (c : Int) : Bool := isBinV c && decide (0 ≤ Lib.indexByte pass c.toNat.toUInt8)
theorem passed_c (rows : PV) (pass : List UInt8) (c : Int) (nid : Nat) (nl : Bool) (n : Nat) (cols : List Col) (hr : rows = .lit nl n cols) : ACall Tryz.prog 249 [.agg [rows, .str pass], .int .u8 c] [] nid (.bool (passedV pass c)) [] := by
  subst hr
  refine acall_run c249 (by simp [a249]) ?_
  simp -dsimp only [a249, aqT, aqU, aqN, ↓seqK, ↓blkK, ↓loopK, step, stepBin, Nat.reduceBEq, Nat.reduceBeqDiff, Nat.add_assoc nid, Nat.reduceAdd, reduceCtorEq, ↓reduceIte, Nat.reduceLeDiff, Nat.reduceBneDiff, Option.toList, ← Int.ofNat_tmod, ← Int.ofNat_tdiv, Nat.reduceLT]
  refine CallO.pure (isBin_c _ _) ?_
  unfold passedV
  simp -dsimp only [aqT, aqU, aqN, ↓seqK, ↓blkK, ↓loopK, step, stepBin, Nat.reduceBEq, Nat.reduceBeqDiff, Nat.add_assoc nid, Nat.reduceAdd, reduceCtorEq, ↓reduceIte, Nat.reduceLeDiff, Nat.reduceBneDiff, Option.toList, ← Int.ofNat_tmod, ← Int.ofNat_tdiv, Nat.reduceLT]
  cases h0 : isBinV c <;> simp -dsimp only [aqT, aqU, aqN, ↓seqK, ↓blkK, ↓loopK, step, stepBin, Nat.reduceBEq, Nat.reduceBeqDiff, Nat.add_assoc nid, Nat.reduceAdd, reduceCtorEq, ↓reduceIte, Nat.reduceLeDiff, Nat.reduceBneDiff, Option.toList, ← Int.ofNat_tmod, ← Int.ofNat_tdiv, Nat.reduceLT]
  · refine RetOK.pure (.inl rfl) rfl ?_
    simp [cvT, step, res]
  · refine CallO.pure (indexB_c _ _ _) ?_
    simp -dsimp only [aqT, aqU, aqN, ↓seqK, ↓blkK, ↓loopK, step, stepBin, Nat.reduceBEq, Nat.reduceBeqDiff, Nat.add_assoc nid, Nat.reduceAdd, reduceCtorEq, ↓reduceIte, Nat.reduceLeDiff, Nat.reduceBneDiff, Option.toList, ← Int.ofNat_tmod, ← Int.ofNat_tdiv, Nat.reduceLT]
    refine RetOK.pure (.inl rfl) rfl ?_
    simp [cvT, step, res]
end Go.Proofs.YtpifoghhaohhaaaGreatDoor
namespace Go.Proofs.YtpifoghhaohhaaaGreatDoor
open Go.RowKit
def w1x (nl : Bool) : PV := .lit nl 1 [.s fun i => [[49, 120]].getD i []]
theorem out_00 : outB 0 0 0 = false := by decide
theorem out_01 : outB 0 0 1 = false := by decide
theorem out_11 : outB 1 0 1 = false := by decide
theorem t49 : (isBinV 49 || (49 : Int) == 42) = true := by decide
theorem t120 : (isBinV 120 || (120 : Int) == 42) = true := by decide
theorem p49 : passedV [49] 49 = true := by decide
theorem p120 : passedV [49] 120 = false := by decide
theorem s1x : (([49, 120] : List UInt8) == []) = false := by decide
theorem at_1x (nl : Bool) (x : Int) (c : Int) (hx : (x = 0 ∧ c = 49) ∨ (x = 1 ∧ c = 120)) (nid : Nat) : ACall Tryz.prog 247 [.agg [w1x nl, .str [49]], .agg [.int .i64 x, .int .i64 0]] [] nid (.int .u8 c) [] := by
  refine acall_run c247 (by simp [a247]) ?_
  unfold w1x
  rcases hx with ⟨rfl, rfl⟩ | ⟨rfl, rfl⟩
  · simp -dsimp only [a247, aqT, aqU, aqN, ↓seqK, ↓blkK, ↓loopK, step, stepBin, Nat.reduceBEq, Nat.reduceBeqDiff, Nat.add_assoc nid, Nat.reduceAdd, reduceCtorEq, ↓reduceIte, Nat.reduceLeDiff, Nat.reduceBneDiff, Option.toList, ← Int.ofNat_tmod, ← Int.ofNat_tdiv, Nat.reduceLT, Int.cast_ofNat_Int, Int.reduceBEq, Int.reduceBNe, Int.reduceLT, Int.reduceLE, Int.reduceAdd, Int.reduceSub, Int.reduceMul, Int.reduceToNat, Int.reduceNeg, Int.reduceTMod, Int.reduceEq, not_false_eq_true, Int.reducePow, Int.reduceFDiv, Nat.reducePow, Nat.reduceSub, Nat.reduceMul, Nat.min_eq_left, Nat.reduceEqDiff, BEq.rfl, Int.tdiv_one, LN_succ]
    refine ⟨by unfold inI64; omega, CallX.pure (out_c _ _ _ _) ?_⟩
    simp -dsimp only [aqT, aqU, aqN, ↓seqK, ↓blkK, ↓loopK, step, stepBin, Nat.reduceBEq, Nat.reduceBeqDiff, Nat.add_assoc nid, Nat.reduceAdd, reduceCtorEq, ↓reduceIte, Nat.reduceLeDiff, Nat.reduceBneDiff, Option.toList, ← Int.ofNat_tmod, ← Int.ofNat_tdiv, Nat.reduceLT, Int.cast_ofNat_Int, Int.reduceBEq, Int.reduceBNe, Int.reduceLT, Int.reduceLE, Int.reduceAdd, Int.reduceSub, Int.reduceMul, Int.reduceToNat, Int.reduceNeg, Int.reduceTMod, Int.reduceEq, not_false_eq_true, Int.reducePow, Int.reduceFDiv, Nat.reducePow, Nat.reduceSub, Nat.reduceMul, Nat.min_eq_left, Nat.reduceEqDiff, BEq.rfl, Int.tdiv_one, LN_succ, out_00, List.getD_cons_zero]
    refine ⟨by unfold inI64; omega, CallX.pure (out_c _ _ _ _) ?_⟩
    simp -dsimp only [aqT, aqU, aqN, ↓seqK, ↓blkK, ↓loopK, step, stepBin, Nat.reduceBEq, Nat.reduceBeqDiff, Nat.add_assoc nid, Nat.reduceAdd, reduceCtorEq, ↓reduceIte, Nat.reduceLeDiff, Nat.reduceBneDiff, Option.toList, ← Int.ofNat_tmod, ← Int.ofNat_tdiv, Nat.reduceLT, Int.cast_ofNat_Int, Int.reduceBEq, Int.reduceBNe, Int.reduceLT, Int.reduceLE, Int.reduceAdd, Int.reduceSub, Int.reduceMul, Int.reduceToNat, Int.reduceNeg, Int.reduceTMod, Int.reduceEq, not_false_eq_true, Int.reducePow, Int.reduceFDiv, Nat.reducePow, Nat.reduceSub, Nat.reduceMul, Nat.min_eq_left, Nat.reduceEqDiff, BEq.rfl, Int.tdiv_one, LN_succ, out_01, List.getD_cons_zero]
    refine RetOK.pure (.inl rfl) rfl ?_
    simp [retPV, over, keys, List.map_nil, List.map_cons, List.contains_cons, List.contains_nil, Bool.or_false, Bool.or_true, Bool.true_or, Bool.false_or, beq_self_eq_true, cond_true, cond_false, HeapCov, orNil, nilSz, onBlk, srcOf, getH_hit, getH_miss, getH.eq_1, getS_hit, getS_miss, getS.eq_1, BlkCov, PVCovs, PVCov, ColsEq, AColsEq, ACEq, ColEq.refl, liveIds, SlotsCov, List.all_nil, List.all_cons, List.any_nil, List.any_cons, List.nil_append, List.cons_append, inRange, apart, nilBlk, idS1, idS2, readAll, readRes, onAll, step, res, AX.val, List.drop_zero, List.drop_succ_cons, List.take_succ_cons, List.take_zero]
  · simp -dsimp only [a247, aqT, aqU, aqN, ↓seqK, ↓blkK, ↓loopK, step, stepBin, Nat.reduceBEq, Nat.reduceBeqDiff, Nat.add_assoc nid, Nat.reduceAdd, reduceCtorEq, ↓reduceIte, Nat.reduceLeDiff, Nat.reduceBneDiff, Option.toList, ← Int.ofNat_tmod, ← Int.ofNat_tdiv, Nat.reduceLT, Int.cast_ofNat_Int, Int.reduceBEq, Int.reduceBNe, Int.reduceLT, Int.reduceLE, Int.reduceAdd, Int.reduceSub, Int.reduceMul, Int.reduceToNat, Int.reduceNeg, Int.reduceTMod, Int.reduceEq, not_false_eq_true, Int.reducePow, Int.reduceFDiv, Nat.reducePow, Nat.reduceSub, Nat.reduceMul, Nat.min_eq_left, Nat.reduceEqDiff, BEq.rfl, Int.tdiv_one, LN_succ]
    refine ⟨by unfold inI64; omega, CallX.pure (out_c _ _ _ _) ?_⟩
    simp -dsimp only [aqT, aqU, aqN, ↓seqK, ↓blkK, ↓loopK, step, stepBin, Nat.reduceBEq, Nat.reduceBeqDiff, Nat.add_assoc nid, Nat.reduceAdd, reduceCtorEq, ↓reduceIte, Nat.reduceLeDiff, Nat.reduceBneDiff, Option.toList, ← Int.ofNat_tmod, ← Int.ofNat_tdiv, Nat.reduceLT, Int.cast_ofNat_Int, Int.reduceBEq, Int.reduceBNe, Int.reduceLT, Int.reduceLE, Int.reduceAdd, Int.reduceSub, Int.reduceMul, Int.reduceToNat, Int.reduceNeg, Int.reduceTMod, Int.reduceEq, not_false_eq_true, Int.reducePow, Int.reduceFDiv, Nat.reducePow, Nat.reduceSub, Nat.reduceMul, Nat.min_eq_left, Nat.reduceEqDiff, BEq.rfl, Int.tdiv_one, LN_succ, out_00, List.getD_cons_zero]
    refine ⟨by unfold inI64; omega, CallX.pure (out_c _ _ _ _) ?_⟩
    simp -dsimp only [aqT, aqU, aqN, ↓seqK, ↓blkK, ↓loopK, step, stepBin, Nat.reduceBEq, Nat.reduceBeqDiff, Nat.add_assoc nid, Nat.reduceAdd, reduceCtorEq, ↓reduceIte, Nat.reduceLeDiff, Nat.reduceBneDiff, Option.toList, ← Int.ofNat_tmod, ← Int.ofNat_tdiv, Nat.reduceLT, Int.cast_ofNat_Int, Int.reduceBEq, Int.reduceBNe, Int.reduceLT, Int.reduceLE, Int.reduceAdd, Int.reduceSub, Int.reduceMul, Int.reduceToNat, Int.reduceNeg, Int.reduceTMod, Int.reduceEq, not_false_eq_true, Int.reducePow, Int.reduceFDiv, Nat.reducePow, Nat.reduceSub, Nat.reduceMul, Nat.min_eq_left, Nat.reduceEqDiff, BEq.rfl, Int.tdiv_one, LN_succ, out_11, List.getD_cons_zero]
    refine RetOK.pure (.inl rfl) rfl ?_
    simp [retPV, over, keys, List.map_nil, List.map_cons, List.contains_cons, List.contains_nil, Bool.or_false, Bool.or_true, Bool.true_or, Bool.false_or, beq_self_eq_true, cond_true, cond_false, HeapCov, orNil, nilSz, onBlk, srcOf, getH_hit, getH_miss, getH.eq_1, getS_hit, getS_miss, getS.eq_1, BlkCov, PVCovs, PVCov, ColsEq, AColsEq, ACEq, ColEq.refl, liveIds, SlotsCov, List.all_nil, List.all_cons, List.any_nil, List.any_cons, List.nil_append, List.cons_append, inRange, apart, nilBlk, idS1, idS2, readAll, readRes, onAll, step, res, AX.val, List.drop_zero, List.drop_succ_cons, List.take_succ_cons, List.take_zero]
theorem places_c (nl : Bool) (nid : Nat) : ACall Tryz.prog 204 [.agg [w1x nl, .str [49]]] [] nid (.sl nid 0 2) [(nid, some (.arr 258 2 [.i .i64 fun i => [0, 1].getD i 0, .i .i64 fun i => [0, 0].getD i 0]))] := by
  refine acall_run c204 (by simp [a204]) ?_
  unfold w1x
  simp -dsimp only [a204, aqT, aqU, aqN, ↓seqK, ↓blkK, ↓loopK, step, stepBin, Nat.reduceBEq, Nat.reduceBeqDiff, Nat.add_assoc nid, Nat.reduceAdd, reduceCtorEq, ↓reduceIte, Nat.reduceLeDiff, Nat.reduceBneDiff, Option.toList, ← Int.ofNat_tmod, ← Int.ofNat_tdiv, Nat.reduceLT, Int.cast_ofNat_Int, Int.reduceBEq, Int.reduceBNe, Int.reduceLT, Int.reduceLE, Int.reduceAdd, Int.reduceSub, Int.reduceMul, Int.reduceToNat, Int.reduceNeg, Int.reduceTMod, Int.reduceEq, not_false_eq_true, Int.reducePow, Int.reduceFDiv, Nat.reducePow, Nat.reduceSub, Nat.reduceMul, Nat.min_eq_left, Nat.reduceEqDiff, BEq.rfl, Int.tdiv_one, LN_succ]
  refine LP.rounds 3 ?_
  simp -dsimp only [aqT, aqU, aqN, ↓seqK, ↓blkK, ↓loopK, step, stepBin, Nat.reduceBEq, Nat.reduceBeqDiff, Nat.add_assoc nid, Nat.reduceAdd, reduceCtorEq, ↓reduceIte, Nat.reduceLeDiff, Nat.reduceBneDiff, Option.toList, ← Int.ofNat_tmod, ← Int.ofNat_tdiv, Nat.reduceLT, Int.cast_ofNat_Int, Int.reduceBEq, Int.reduceBNe, Int.reduceLT, Int.reduceLE, Int.reduceAdd, Int.reduceSub, Int.reduceMul, Int.reduceToNat, Int.reduceNeg, Int.reduceTMod, Int.reduceEq, not_false_eq_true, Int.reducePow, Int.reduceFDiv, Nat.reducePow, Nat.reduceSub, Nat.reduceMul, Nat.min_eq_left, Nat.reduceEqDiff, BEq.rfl, Int.tdiv_one, LN_succ, List.getD_cons_zero]
  refine LP.rounds 4 ?_
  simp -dsimp only [aqT, aqU, aqN, ↓seqK, ↓blkK, ↓loopK, step, stepBin, Nat.reduceBEq, Nat.reduceBeqDiff, Nat.add_assoc nid, Nat.reduceAdd, reduceCtorEq, ↓reduceIte, Nat.reduceLeDiff, Nat.reduceBneDiff, Option.toList, ← Int.ofNat_tmod, ← Int.ofNat_tdiv, Nat.reduceLT, Int.cast_ofNat_Int, Int.reduceBEq, Int.reduceBNe, Int.reduceLT, Int.reduceLE, Int.reduceAdd, Int.reduceSub, Int.reduceMul, Int.reduceToNat, Int.reduceNeg, Int.reduceTMod, Int.reduceEq, not_false_eq_true, Int.reducePow, Int.reduceFDiv, Nat.reducePow, Nat.reduceSub, Nat.reduceMul, Nat.min_eq_left, Nat.reduceEqDiff, BEq.rfl, Int.tdiv_one, LN_succ, List.getD_cons_zero]
  refine ⟨by unfold inI64; omega, by unfold inI64; omega, by unfold inI64; omega, RetOK.go [(nid, nid + 144)] [] (.inl rfl) ?_⟩
  simp [a204, retPV, over, keys, List.map_nil, List.map_cons, List.contains_cons, List.contains_nil, Bool.or_false, Bool.or_true, Bool.true_or, Bool.false_or, beq_self_eq_true, cond_true, cond_false, HeapCov, orNil, nilSz, onBlk, srcOf, getH_hit, getH_miss, getH.eq_1, getS_hit, getS_miss, getS.eq_1, BlkCov, PVCovs, PVCov, ColsEq, AColsEq, ACEq, ColEq.refl, liveIds, SlotsCov, List.all_nil, List.all_cons, List.any_nil, List.any_cons, List.nil_append, List.cons_append, inRange, apart, nilBlk, idS1, idS2, readAll, readRes, onAll, step, res, AX.val, List.drop_zero, List.drop_succ_cons, List.take_succ_cons, List.take_zero]
  constructor <;> refine ColEq.i fun i hi => ?_ <;> (have : i = 0 ∨ i = 1 := by omega) <;> rcases this with rfl | rfl <;> simp
theorem share_c (nl nlp : Bool) (nid : Nat) : ACall Tryz.prog 203 [.agg [w1x nl, .str [49]], .lit nlp 2 [.i .i64 fun i => [0, 1].getD i 0, .i .i64 fun i => [0, 0].getD i 0]] [] nid (.tup [.int .i64 1, .int .i64 2]) [] := by
  refine acall_run c203 (by simp [a203]) ?_
  unfold w1x
  simp -dsimp only [a203, aqT, aqU, aqN, ↓seqK, ↓blkK, ↓loopK, step, stepBin, Nat.reduceBEq, Nat.reduceBeqDiff, Nat.add_assoc nid, Nat.reduceAdd, reduceCtorEq, ↓reduceIte, Nat.reduceLeDiff, Nat.reduceBneDiff, Option.toList, ← Int.ofNat_tmod, ← Int.ofNat_tdiv, Nat.reduceLT, Int.cast_ofNat_Int, Int.reduceBEq, Int.reduceBNe, Int.reduceLT, Int.reduceLE, Int.reduceAdd, Int.reduceSub, Int.reduceMul, Int.reduceToNat, Int.reduceNeg, Int.reduceTMod, Int.reduceEq, not_false_eq_true, Int.reducePow, Int.reduceFDiv, Nat.reducePow, Nat.reduceSub, Nat.reduceMul, Nat.min_eq_left, Nat.reduceEqDiff, BEq.rfl, Int.tdiv_one, LN_succ]
  refine LP.rounds 4 ?_
  simp -dsimp only [aqT, aqU, aqN, ↓seqK, ↓blkK, ↓loopK, step, stepBin, Nat.reduceBEq, Nat.reduceBeqDiff, Nat.add_assoc nid, Nat.reduceAdd, reduceCtorEq, ↓reduceIte, Nat.reduceLeDiff, Nat.reduceBneDiff, Option.toList, ← Int.ofNat_tmod, ← Int.ofNat_tdiv, Nat.reduceLT, Int.cast_ofNat_Int, Int.reduceBEq, Int.reduceBNe, Int.reduceLT, Int.reduceLE, Int.reduceAdd, Int.reduceSub, Int.reduceMul, Int.reduceToNat, Int.reduceNeg, Int.reduceTMod, Int.reduceEq, not_false_eq_true, Int.reducePow, Int.reduceFDiv, Nat.reducePow, Nat.reduceSub, Nat.reduceMul, Nat.min_eq_left, Nat.reduceEqDiff, BEq.rfl, Int.tdiv_one, LN_succ, List.getD_cons_zero, List.getD_cons_succ]
  refine CallO.pure (at_1x nl 0 49 (.inl ⟨rfl, rfl⟩) _) ?_
  simp -dsimp only [aqT, aqU, aqN, ↓seqK, ↓blkK, ↓loopK, step, stepBin, Nat.reduceBEq, Nat.reduceBeqDiff, Nat.add_assoc nid, Nat.reduceAdd, reduceCtorEq, ↓reduceIte, Nat.reduceLeDiff, Nat.reduceBneDiff, Option.toList, ← Int.ofNat_tmod, ← Int.ofNat_tdiv, Nat.reduceLT, Int.cast_ofNat_Int, Int.reduceBEq, Int.reduceBNe, Int.reduceLT, Int.reduceLE, Int.reduceAdd, Int.reduceSub, Int.reduceMul, Int.reduceToNat, Int.reduceNeg, Int.reduceTMod, Int.reduceEq, not_false_eq_true, Int.reducePow, Int.reduceFDiv, Nat.reducePow, Nat.reduceSub, Nat.reduceMul, Nat.min_eq_left, Nat.reduceEqDiff, BEq.rfl, Int.tdiv_one, LN_succ]
  refine CallO.pure (tested_c _ _) ?_
  rw [t49]
  simp -dsimp only [aqT, aqU, aqN, ↓seqK, ↓blkK, ↓loopK, step, stepBin, Nat.reduceBEq, Nat.reduceBeqDiff, Nat.add_assoc nid, Nat.reduceAdd, reduceCtorEq, ↓reduceIte, Nat.reduceLeDiff, Nat.reduceBneDiff, Option.toList, ← Int.ofNat_tmod, ← Int.ofNat_tdiv, Nat.reduceLT, Int.cast_ofNat_Int, Int.reduceBEq, Int.reduceBNe, Int.reduceLT, Int.reduceLE, Int.reduceAdd, Int.reduceSub, Int.reduceMul, Int.reduceToNat, Int.reduceNeg, Int.reduceTMod, Int.reduceEq, not_false_eq_true, Int.reducePow, Int.reduceFDiv, Nat.reducePow, Nat.reduceSub, Nat.reduceMul, Nat.min_eq_left, Nat.reduceEqDiff, BEq.rfl, Int.tdiv_one, LN_succ]
  refine ⟨by unfold inI64; omega, CallO.pure (passed_c _ _ _ _ _ _ _ rfl) ?_⟩
  rw [p49]
  simp -dsimp only [aqT, aqU, aqN, ↓seqK, ↓blkK, ↓loopK, step, stepBin, Nat.reduceBEq, Nat.reduceBeqDiff, Nat.add_assoc nid, Nat.reduceAdd, reduceCtorEq, ↓reduceIte, Nat.reduceLeDiff, Nat.reduceBneDiff, Option.toList, ← Int.ofNat_tmod, ← Int.ofNat_tdiv, Nat.reduceLT, Int.cast_ofNat_Int, Int.reduceBEq, Int.reduceBNe, Int.reduceLT, Int.reduceLE, Int.reduceAdd, Int.reduceSub, Int.reduceMul, Int.reduceToNat, Int.reduceNeg, Int.reduceTMod, Int.reduceEq, not_false_eq_true, Int.reducePow, Int.reduceFDiv, Nat.reducePow, Nat.reduceSub, Nat.reduceMul, Nat.min_eq_left, Nat.reduceEqDiff, BEq.rfl, Int.tdiv_one, LN_succ, List.getD_cons_zero, List.getD_cons_succ]
  refine ⟨by unfold inI64; omega, by unfold inI64; omega, CallO.pure (at_1x nl 1 120 (.inr ⟨rfl, rfl⟩) _) ?_⟩
  simp -dsimp only [aqT, aqU, aqN, ↓seqK, ↓blkK, ↓loopK, step, stepBin, Nat.reduceBEq, Nat.reduceBeqDiff, Nat.add_assoc nid, Nat.reduceAdd, reduceCtorEq, ↓reduceIte, Nat.reduceLeDiff, Nat.reduceBneDiff, Option.toList, ← Int.ofNat_tmod, ← Int.ofNat_tdiv, Nat.reduceLT, Int.cast_ofNat_Int, Int.reduceBEq, Int.reduceBNe, Int.reduceLT, Int.reduceLE, Int.reduceAdd, Int.reduceSub, Int.reduceMul, Int.reduceToNat, Int.reduceNeg, Int.reduceTMod, Int.reduceEq, not_false_eq_true, Int.reducePow, Int.reduceFDiv, Nat.reducePow, Nat.reduceSub, Nat.reduceMul, Nat.min_eq_left, Nat.reduceEqDiff, BEq.rfl, Int.tdiv_one, LN_succ]
  refine CallO.pure (tested_c _ _) ?_
  rw [t120]
  simp -dsimp only [aqT, aqU, aqN, ↓seqK, ↓blkK, ↓loopK, step, stepBin, Nat.reduceBEq, Nat.reduceBeqDiff, Nat.add_assoc nid, Nat.reduceAdd, reduceCtorEq, ↓reduceIte, Nat.reduceLeDiff, Nat.reduceBneDiff, Option.toList, ← Int.ofNat_tmod, ← Int.ofNat_tdiv, Nat.reduceLT, Int.cast_ofNat_Int, Int.reduceBEq, Int.reduceBNe, Int.reduceLT, Int.reduceLE, Int.reduceAdd, Int.reduceSub, Int.reduceMul, Int.reduceToNat, Int.reduceNeg, Int.reduceTMod, Int.reduceEq, not_false_eq_true, Int.reducePow, Int.reduceFDiv, Nat.reducePow, Nat.reduceSub, Nat.reduceMul, Nat.min_eq_left, Nat.reduceEqDiff, BEq.rfl, Int.tdiv_one, LN_succ]
  refine ⟨by unfold inI64; omega, CallO.pure (passed_c _ _ _ _ _ _ _ rfl) ?_⟩
  rw [p120]
  simp -dsimp only [aqT, aqU, aqN, ↓seqK, ↓blkK, ↓loopK, step, stepBin, Nat.reduceBEq, Nat.reduceBeqDiff, Nat.add_assoc nid, Nat.reduceAdd, reduceCtorEq, ↓reduceIte, Nat.reduceLeDiff, Nat.reduceBneDiff, Option.toList, ← Int.ofNat_tmod, ← Int.ofNat_tdiv, Nat.reduceLT, Int.cast_ofNat_Int, Int.reduceBEq, Int.reduceBNe, Int.reduceLT, Int.reduceLE, Int.reduceAdd, Int.reduceSub, Int.reduceMul, Int.reduceToNat, Int.reduceNeg, Int.reduceTMod, Int.reduceEq, not_false_eq_true, Int.reducePow, Int.reduceFDiv, Nat.reducePow, Nat.reduceSub, Nat.reduceMul, Nat.min_eq_left, Nat.reduceEqDiff, BEq.rfl, Int.tdiv_one, LN_succ, List.getD_cons_zero, List.getD_cons_succ]
  refine ⟨by unfold inI64; omega, RetOK.pure (.inl rfl) rfl ?_⟩
  simp [retPV, over, keys, List.map_nil, List.map_cons, List.contains_cons, List.contains_nil, Bool.or_false, Bool.or_true, Bool.true_or, Bool.false_or, beq_self_eq_true, cond_true, cond_false, HeapCov, orNil, nilSz, onBlk, srcOf, getH_hit, getH_miss, getH.eq_1, getS_hit, getS_miss, getS.eq_1, BlkCov, PVCovs, PVCov, ColsEq, AColsEq, ACEq, ColEq.refl, liveIds, SlotsCov, List.all_nil, List.all_cons, List.any_nil, List.any_cons, List.nil_append, List.cons_append, inRange, apart, nilBlk, idS1, idS2, readAll, readRes, onAll, step, res, AX.val, List.drop_zero, List.drop_succ_cons, List.take_succ_cons, List.take_zero]
theorem checkWafer_c (nl : Bool) (nid : Nat) : ACall Tryz.prog 202 [.agg [w1x nl, .str [49]]] [] nid (.int .i64 0) [] := by
  refine acall_run c202 (by simp [a202]) ?_
  unfold w1x
  simp -dsimp only [a202, aqT, aqU, aqN, ↓seqK, ↓blkK, ↓loopK, step, stepBin, Nat.reduceBEq, Nat.reduceBeqDiff, Nat.add_assoc nid, Nat.reduceAdd, reduceCtorEq, ↓reduceIte, Nat.reduceLeDiff, Nat.reduceBneDiff, Option.toList, ← Int.ofNat_tmod, ← Int.ofNat_tdiv, Nat.reduceLT, Int.cast_ofNat_Int, Int.reduceBEq, Int.reduceBNe, Int.reduceLT, Int.reduceLE, Int.reduceAdd, Int.reduceSub, Int.reduceMul, Int.reduceToNat, Int.reduceNeg, Int.reduceTMod, Int.reduceEq, not_false_eq_true, Int.reducePow, Int.reduceFDiv, Nat.reducePow, Nat.reduceSub, Nat.reduceMul, Nat.min_eq_left, Nat.reduceEqDiff, BEq.rfl, Int.tdiv_one, LN_succ]
  refine LP.rounds 3 ?_
  simp -dsimp only [aqT, aqU, aqN, ↓seqK, ↓blkK, ↓loopK, step, stepBin, Nat.reduceBEq, Nat.reduceBeqDiff, Nat.add_assoc nid, Nat.reduceAdd, reduceCtorEq, ↓reduceIte, Nat.reduceLeDiff, Nat.reduceBneDiff, Option.toList, ← Int.ofNat_tmod, ← Int.ofNat_tdiv, Nat.reduceLT, Int.cast_ofNat_Int, Int.reduceBEq, Int.reduceBNe, Int.reduceLT, Int.reduceLE, Int.reduceAdd, Int.reduceSub, Int.reduceMul, Int.reduceToNat, Int.reduceNeg, Int.reduceTMod, Int.reduceEq, not_false_eq_true, Int.reducePow, Int.reduceFDiv, Nat.reducePow, Nat.reduceSub, Nat.reduceMul, Nat.min_eq_left, Nat.reduceEqDiff, BEq.rfl, Int.tdiv_one, LN_succ, List.getD_cons_zero, List.getD_cons_succ, s1x]
  refine CallO.pure (odd_c' [49, 120] _ (by simp) (fun i hi => by
    have : i = 0 ∨ i = 1 := by simp at hi; omega
    rcases this with rfl | rfl <;> decide)) ?_
  simp -dsimp only [aqT, aqU, aqN, ↓seqK, ↓blkK, ↓loopK, step, stepBin, Nat.reduceBEq, Nat.reduceBeqDiff, Nat.add_assoc nid, Nat.reduceAdd, reduceCtorEq, ↓reduceIte, Nat.reduceLeDiff, Nat.reduceBneDiff, Option.toList, ← Int.ofNat_tmod, ← Int.ofNat_tdiv, Nat.reduceLT, Int.cast_ofNat_Int, Int.reduceBEq, Int.reduceBNe, Int.reduceLT, Int.reduceLE, Int.reduceAdd, Int.reduceSub, Int.reduceMul, Int.reduceToNat, Int.reduceNeg, Int.reduceTMod, Int.reduceEq, not_false_eq_true, Int.reducePow, Int.reduceFDiv, Nat.reducePow, Nat.reduceSub, Nat.reduceMul, Nat.min_eq_left, Nat.reduceEqDiff, BEq.rfl, Int.tdiv_one, LN_succ, List.getD_cons_zero, List.getD_cons_succ, s1x]
  refine ⟨by unfold inI64; omega, LP.rounds 3 ?_⟩
  simp -dsimp only [aqT, aqU, aqN, ↓seqK, ↓blkK, ↓loopK, step, stepBin, Nat.reduceBEq, Nat.reduceBeqDiff, Nat.add_assoc nid, Nat.reduceAdd, reduceCtorEq, ↓reduceIte, Nat.reduceLeDiff, Nat.reduceBneDiff, Option.toList, ← Int.ofNat_tmod, ← Int.ofNat_tdiv, Nat.reduceLT, Int.cast_ofNat_Int, Int.reduceBEq, Int.reduceBNe, Int.reduceLT, Int.reduceLE, Int.reduceAdd, Int.reduceSub, Int.reduceMul, Int.reduceToNat, Int.reduceNeg, Int.reduceTMod, Int.reduceEq, not_false_eq_true, Int.reducePow, Int.reduceFDiv, Nat.reducePow, Nat.reduceSub, Nat.reduceMul, Nat.min_eq_left, Nat.reduceEqDiff, BEq.rfl, Int.tdiv_one, LN_succ, List.getD_cons_zero, List.getD_cons_succ, s1x]
  refine CallO.pure (isBin_c _ _) ?_
  have b49 : isBinV ((UInt8.toNat 49 : Nat) : Int) = true := by decide
  rw [b49]
  simp -dsimp only [aqT, aqU, aqN, ↓seqK, ↓blkK, ↓loopK, step, stepBin, Nat.reduceBEq, Nat.reduceBeqDiff, Nat.add_assoc nid, Nat.reduceAdd, reduceCtorEq, ↓reduceIte, Nat.reduceLeDiff, Nat.reduceBneDiff, Option.toList, ← Int.ofNat_tmod, ← Int.ofNat_tdiv, Nat.reduceLT, Int.cast_ofNat_Int, Int.reduceBEq, Int.reduceBNe, Int.reduceLT, Int.reduceLE, Int.reduceAdd, Int.reduceSub, Int.reduceMul, Int.reduceToNat, Int.reduceNeg, Int.reduceTMod, Int.reduceEq, not_false_eq_true, Int.reducePow, Int.reduceFDiv, Nat.reducePow, Nat.reduceSub, Nat.reduceMul, Nat.min_eq_left, Nat.reduceEqDiff, BEq.rfl, Int.tdiv_one, LN_succ, List.getD_cons_zero, List.getD_cons_succ, s1x]
  refine ⟨by unfold inI64; omega, RetOK.pure (.inl rfl) rfl ?_⟩
  simp [retPV, over, keys, List.map_nil, List.map_cons, List.contains_cons, List.contains_nil, Bool.or_false, Bool.or_true, Bool.true_or, Bool.false_or, beq_self_eq_true, cond_true, cond_false, HeapCov, orNil, nilSz, onBlk, srcOf, getH_hit, getH_miss, getH.eq_1, getS_hit, getS_miss, getS.eq_1, BlkCov, PVCovs, PVCov, ColsEq, AColsEq, ACEq, ColEq.refl, liveIds, SlotsCov, List.all_nil, List.all_cons, List.any_nil, List.any_cons, List.nil_append, List.cons_append, inRange, apart, nilBlk, idS1, idS2, readAll, readRes, onAll, step, res, AX.val, List.drop_zero, List.drop_succ_cons, List.take_succ_cons, List.take_zero]
theorem yield_c (nl : Bool) (nid : Nat) : ACall Tryz.prog 121 [.agg [w1x nl, .str [49]]] [] nid (.tup [.agg [.int .i64 1, .int .i64 2], .bool true, .int .i64 0]) [] := by
  refine acall_run c121 (by simp [a121]) ?_
  unfold w1x
  simp -dsimp only [a121, aqT, aqU, aqN, ↓seqK, ↓blkK, ↓loopK, step, stepBin, Nat.reduceBEq, Nat.reduceBeqDiff, Nat.add_assoc nid, Nat.reduceAdd, reduceCtorEq, ↓reduceIte, Nat.reduceLeDiff, Nat.reduceBneDiff, Option.toList, ← Int.ofNat_tmod, ← Int.ofNat_tdiv, Nat.reduceLT, Int.cast_ofNat_Int, Int.reduceBEq, Int.reduceBNe, Int.reduceLT, Int.reduceLE, Int.reduceAdd, Int.reduceSub, Int.reduceMul, Int.reduceToNat, Int.reduceNeg, Int.reduceTMod, Int.reduceEq, not_false_eq_true, Int.reducePow, Int.reduceFDiv, Nat.reducePow, Nat.reduceSub, Nat.reduceMul, Nat.min_eq_left, Nat.reduceEqDiff, BEq.rfl, Int.tdiv_one, LN_succ]
  refine CallO.pure (checkWafer_c nl _) ?_
  simp -dsimp only [aqT, aqU, aqN, ↓seqK, ↓blkK, ↓loopK, step, stepBin, Nat.reduceBEq, Nat.reduceBeqDiff, Nat.add_assoc nid, Nat.reduceAdd, reduceCtorEq, ↓reduceIte, Nat.reduceLeDiff, Nat.reduceBneDiff, Option.toList, ← Int.ofNat_tmod, ← Int.ofNat_tdiv, Nat.reduceLT, Int.cast_ofNat_Int, Int.reduceBEq, Int.reduceBNe, Int.reduceLT, Int.reduceLE, Int.reduceAdd, Int.reduceSub, Int.reduceMul, Int.reduceToNat, Int.reduceNeg, Int.reduceTMod, Int.reduceEq, not_false_eq_true, Int.reducePow, Int.reduceFDiv, Nat.reducePow, Nat.reduceSub, Nat.reduceMul, Nat.min_eq_left, Nat.reduceEqDiff, BEq.rfl, Int.tdiv_one, LN_succ]
  refine CallX.pure (places_c nl _) ?_
  simp -dsimp only [aqT, aqU, aqN, ↓seqK, ↓blkK, ↓loopK, step, stepBin, Nat.reduceBEq, Nat.reduceBeqDiff, Nat.add_assoc nid, Nat.reduceAdd, reduceCtorEq, ↓reduceIte, Nat.reduceLeDiff, Nat.reduceBneDiff, Option.toList, ← Int.ofNat_tmod, ← Int.ofNat_tdiv, Nat.reduceLT, Int.cast_ofNat_Int, Int.reduceBEq, Int.reduceBNe, Int.reduceLT, Int.reduceLE, Int.reduceAdd, Int.reduceSub, Int.reduceMul, Int.reduceToNat, Int.reduceNeg, Int.reduceTMod, Int.reduceEq, not_false_eq_true, Int.reducePow, Int.reduceFDiv, Nat.reducePow, Nat.reduceSub, Nat.reduceMul, Nat.min_eq_left, Nat.reduceEqDiff, BEq.rfl, Int.tdiv_one, LN_succ]
  refine CallX.gave [nid + 44] (fun nl' => by
    simp only [lends, lend, aqT, aqU, aqN, ↓seqK, ↓blkK, ↓loopK, step, stepBin, Nat.reduceBEq, Nat.reduceBeqDiff, Nat.add_assoc nid, Nat.reduceAdd, reduceCtorEq, ↓reduceIte, Nat.reduceLeDiff, Nat.reduceBneDiff, Option.toList, ← Int.ofNat_tmod, ← Int.ofNat_tdiv, Nat.reduceLT]
    exact share_c nl (nl' _) _) (by simp [getH]) ?_
  simp -dsimp only [aqT, aqU, aqN, ↓seqK, ↓blkK, ↓loopK, step, stepBin, Nat.reduceBEq, Nat.reduceBeqDiff, Nat.add_assoc nid, Nat.reduceAdd, reduceCtorEq, ↓reduceIte, Nat.reduceLeDiff, Nat.reduceBneDiff, Option.toList, ← Int.ofNat_tmod, ← Int.ofNat_tdiv, Nat.reduceLT, Int.cast_ofNat_Int, Int.reduceBEq, Int.reduceBNe, Int.reduceLT, Int.reduceLE, Int.reduceAdd, Int.reduceSub, Int.reduceMul, Int.reduceToNat, Int.reduceNeg, Int.reduceTMod, Int.reduceEq, not_false_eq_true, Int.reducePow, Int.reduceFDiv, Nat.reducePow, Nat.reduceSub, Nat.reduceMul, Nat.min_eq_left, Nat.reduceEqDiff, BEq.rfl, Int.tdiv_one, LN_succ, kill]
  refine CallO.pure (frac12_c _) ?_
  simp -dsimp only [aqT, aqU, aqN, ↓seqK, ↓blkK, ↓loopK, step, stepBin, Nat.reduceBEq, Nat.reduceBeqDiff, Nat.add_assoc nid, Nat.reduceAdd, reduceCtorEq, ↓reduceIte, Nat.reduceLeDiff, Nat.reduceBneDiff, Option.toList, ← Int.ofNat_tmod, ← Int.ofNat_tdiv, Nat.reduceLT, Int.cast_ofNat_Int, Int.reduceBEq, Int.reduceBNe, Int.reduceLT, Int.reduceLE, Int.reduceAdd, Int.reduceSub, Int.reduceMul, Int.reduceToNat, Int.reduceNeg, Int.reduceTMod, Int.reduceEq, not_false_eq_true, Int.reducePow, Int.reduceFDiv, Nat.reducePow, Nat.reduceSub, Nat.reduceMul, Nat.min_eq_left, Nat.reduceEqDiff, BEq.rfl, Int.tdiv_one, LN_succ]
  refine RetOK.go [] [] (.inl rfl) ?_
  simp [a121, retPV, over, keys, List.map_nil, List.map_cons, List.contains_cons, List.contains_nil, Bool.or_false, Bool.or_true, Bool.true_or, Bool.false_or, beq_self_eq_true, cond_true, cond_false, HeapCov, orNil, nilSz, onBlk, srcOf, getH_hit, getH_miss, getH.eq_1, getS_hit, getS_miss, getS.eq_1, BlkCov, PVCovs, PVCov, ColsEq, AColsEq, ACEq, ColEq.refl, liveIds, SlotsCov, List.all_nil, List.all_cons, List.any_nil, List.any_cons, List.nil_append, List.cons_append, inRange, apart, nilBlk, idS1, idS2, readAll, readRes, onAll, step, res, AX.val, List.drop_zero, List.drop_succ_cons, List.take_succ_cons, List.take_zero]
end Go.Proofs.YtpifoghhaohhaaaGreatDoor
namespace Go.Proofs.YtpifoghhaohhaaaGreatDoor
open Go.RowKit
theorem enough_c (id : Nat) (k v : Int) (b : Bool) (hk : (k = 0 ∧ v = 1 ∧ b = false) ∨ (k = 1 ∧ v = 2 ∧ b = false) ∨ (k = 2 ∧ v = 4 ∧ b = false) ∨ (k = 3 ∧ v = 8 ∧ b = true)) (nid : Nat) (h : id < nid) :
    ACall Tryz.prog 199 [.int .i64 k, .ptr id 0] [(id, some (.box 3 [.int .i64 3]))] nid (.bool b) [] := by
  obtain ⟨e1, e2, e3, e4, e5, e6, e7, e8, e9⟩ := id_all h
  have hv : IntKind.i64.wrap (1 * 2 ^ (min k.toNat IntKind.i64.bits)) = v ∧ 0 ≤ k ∧ inI64 (v - 2) ∧ decide (3 ≤ v - 2) = b := by
    rcases hk with ⟨rfl, rfl, rfl⟩ | ⟨rfl, rfl, rfl⟩ | ⟨rfl, rfl, rfl⟩ | ⟨rfl, rfl, rfl⟩ <;> exact ⟨by decide, by decide, by unfold inI64; omega, by decide⟩
  obtain ⟨h1, h2, h3, h4⟩ := hv
  refine acall_run c199 (by simp [a199]) ?_
  simp -dsimp only [a199, aqT, aqU, aqN, ↓seqK, ↓blkK, ↓loopK, step, stepBin, Nat.reduceBEq, Nat.reduceBeqDiff, Nat.add_assoc nid, Nat.reduceAdd, reduceCtorEq, ↓reduceIte, Nat.reduceLeDiff, Nat.reduceBneDiff, Option.toList, ← Int.ofNat_tmod, ← Int.ofNat_tdiv, Nat.reduceLT, e1, e2, e3, e4, e5, e6, e7, e8, e9, h1, h4]
  refine ⟨h2, h3, RetOK.same (.inl rfl) rfl ?_ ?_ ?_⟩ <;> simp [cvT, step, res, e1, e2, e3, e4, e5, e6, e7, e8, e9]
theorem least_c (id nid : Nat) (h : id < nid) : ACall Tryz.prog 198 [.int .i64 0, .fn 199 [.ptr id 0]] [(id, some (.box 3 [.int .i64 3]))] nid (.int .i64 3) [] := by
  obtain ⟨e1, e2, e3, e4, e5, e6, e7, e8, e9⟩ := id_all h
  refine acall_run c198 (by simp [a198]) ?_
  simp -dsimp only [a198, aqT, aqU, aqN, ↓seqK, ↓blkK, ↓loopK, step, stepBin, Nat.reduceBEq, Nat.reduceBeqDiff, Nat.add_assoc nid, Nat.reduceAdd, reduceCtorEq, ↓reduceIte, Nat.reduceLeDiff, Nat.reduceBneDiff, Option.toList, ← Int.ofNat_tmod, ← Int.ofNat_tdiv, Nat.reduceLT, e1, e2, e3, e4, e5, e6, e7, e8, e9]
  refine LP.rounds 5 ?_
  simp -dsimp only [aqT, aqU, aqN, ↓seqK, ↓blkK, ↓loopK, step, stepBin, Nat.reduceBEq, Nat.reduceBeqDiff, Nat.add_assoc nid, Nat.reduceAdd, reduceCtorEq, ↓reduceIte, Nat.reduceLeDiff, Nat.reduceBneDiff, Option.toList, ← Int.ofNat_tmod, ← Int.ofNat_tdiv, Nat.reduceLT, Int.cast_ofNat_Int, Int.reduceBEq, Int.reduceBNe, Int.reduceLT, Int.reduceLE, Int.reduceAdd, Int.reduceSub, Int.reduceMul, Int.reduceToNat, Int.reduceNeg, Int.reduceTMod, Int.reduceEq, not_false_eq_true, Int.reducePow, Int.reduceFDiv, Nat.reducePow, Nat.reduceSub, Nat.reduceMul, Nat.min_eq_left, Nat.reduceEqDiff, BEq.rfl, Int.tdiv_one, LN_succ, e1, e2, e3, e4, e5, e6, e7, e8, e9]
  refine CallO.on (enough_c id 0 1 false (by simp) _ (by omega)) (subH_get (by simp only [aqT, aqU, aqN, ↓seqK, ↓blkK, ↓loopK, step, stepBin, Nat.reduceBEq, Nat.reduceBeqDiff, Nat.add_assoc nid, Nat.reduceAdd, reduceCtorEq, ↓reduceIte, Nat.reduceLeDiff, Nat.reduceBneDiff, Option.toList, ← Int.ofNat_tmod, ← Int.ofNat_tdiv, Nat.reduceLT, e1, e2, e3, e4, e5, e6, e7, e8, e9])) ?_
  simp -dsimp only [aqT, aqU, aqN, ↓seqK, ↓blkK, ↓loopK, step, stepBin, Nat.reduceBEq, Nat.reduceBeqDiff, Nat.add_assoc nid, Nat.reduceAdd, reduceCtorEq, ↓reduceIte, Nat.reduceLeDiff, Nat.reduceBneDiff, Option.toList, ← Int.ofNat_tmod, ← Int.ofNat_tdiv, Nat.reduceLT, Int.cast_ofNat_Int, Int.reduceBEq, Int.reduceBNe, Int.reduceLT, Int.reduceLE, Int.reduceAdd, Int.reduceSub, Int.reduceMul, Int.reduceToNat, Int.reduceNeg, Int.reduceTMod, Int.reduceEq, not_false_eq_true, Int.reducePow, Int.reduceFDiv, Nat.reducePow, Nat.reduceSub, Nat.reduceMul, Nat.min_eq_left, Nat.reduceEqDiff, BEq.rfl, Int.tdiv_one, LN_succ, e1, e2, e3, e4, e5, e6, e7, e8, e9]
  refine ⟨by unfold inI64; omega, CallO.on (enough_c id 1 2 false (by simp) _ (by omega)) (subH_get (by simp only [aqT, aqU, aqN, ↓seqK, ↓blkK, ↓loopK, step, stepBin, Nat.reduceBEq, Nat.reduceBeqDiff, Nat.add_assoc nid, Nat.reduceAdd, reduceCtorEq, ↓reduceIte, Nat.reduceLeDiff, Nat.reduceBneDiff, Option.toList, ← Int.ofNat_tmod, ← Int.ofNat_tdiv, Nat.reduceLT, e1, e2, e3, e4, e5, e6, e7, e8, e9])) ?_⟩
  simp -dsimp only [aqT, aqU, aqN, ↓seqK, ↓blkK, ↓loopK, step, stepBin, Nat.reduceBEq, Nat.reduceBeqDiff, Nat.add_assoc nid, Nat.reduceAdd, reduceCtorEq, ↓reduceIte, Nat.reduceLeDiff, Nat.reduceBneDiff, Option.toList, ← Int.ofNat_tmod, ← Int.ofNat_tdiv, Nat.reduceLT, Int.cast_ofNat_Int, Int.reduceBEq, Int.reduceBNe, Int.reduceLT, Int.reduceLE, Int.reduceAdd, Int.reduceSub, Int.reduceMul, Int.reduceToNat, Int.reduceNeg, Int.reduceTMod, Int.reduceEq, not_false_eq_true, Int.reducePow, Int.reduceFDiv, Nat.reducePow, Nat.reduceSub, Nat.reduceMul, Nat.min_eq_left, Nat.reduceEqDiff, BEq.rfl, Int.tdiv_one, LN_succ, e1, e2, e3, e4, e5, e6, e7, e8, e9]
  refine ⟨by unfold inI64; omega, CallO.on (enough_c id 2 4 false (by simp) _ (by omega)) (subH_get (by simp only [aqT, aqU, aqN, ↓seqK, ↓blkK, ↓loopK, step, stepBin, Nat.reduceBEq, Nat.reduceBeqDiff, Nat.add_assoc nid, Nat.reduceAdd, reduceCtorEq, ↓reduceIte, Nat.reduceLeDiff, Nat.reduceBneDiff, Option.toList, ← Int.ofNat_tmod, ← Int.ofNat_tdiv, Nat.reduceLT, e1, e2, e3, e4, e5, e6, e7, e8, e9])) ?_⟩
  simp -dsimp only [aqT, aqU, aqN, ↓seqK, ↓blkK, ↓loopK, step, stepBin, Nat.reduceBEq, Nat.reduceBeqDiff, Nat.add_assoc nid, Nat.reduceAdd, reduceCtorEq, ↓reduceIte, Nat.reduceLeDiff, Nat.reduceBneDiff, Option.toList, ← Int.ofNat_tmod, ← Int.ofNat_tdiv, Nat.reduceLT, Int.cast_ofNat_Int, Int.reduceBEq, Int.reduceBNe, Int.reduceLT, Int.reduceLE, Int.reduceAdd, Int.reduceSub, Int.reduceMul, Int.reduceToNat, Int.reduceNeg, Int.reduceTMod, Int.reduceEq, not_false_eq_true, Int.reducePow, Int.reduceFDiv, Nat.reducePow, Nat.reduceSub, Nat.reduceMul, Nat.min_eq_left, Nat.reduceEqDiff, BEq.rfl, Int.tdiv_one, LN_succ, e1, e2, e3, e4, e5, e6, e7, e8, e9]
  refine ⟨by unfold inI64; omega, CallO.on (enough_c id 3 8 true (by simp) _ (by omega)) (subH_get (by simp only [aqT, aqU, aqN, ↓seqK, ↓blkK, ↓loopK, step, stepBin, Nat.reduceBEq, Nat.reduceBeqDiff, Nat.add_assoc nid, Nat.reduceAdd, reduceCtorEq, ↓reduceIte, Nat.reduceLeDiff, Nat.reduceBneDiff, Option.toList, ← Int.ofNat_tmod, ← Int.ofNat_tdiv, Nat.reduceLT, e1, e2, e3, e4, e5, e6, e7, e8, e9])) ?_⟩
  simp -dsimp only [aqT, aqU, aqN, ↓seqK, ↓blkK, ↓loopK, step, stepBin, Nat.reduceBEq, Nat.reduceBeqDiff, Nat.add_assoc nid, Nat.reduceAdd, reduceCtorEq, ↓reduceIte, Nat.reduceLeDiff, Nat.reduceBneDiff, Option.toList, ← Int.ofNat_tmod, ← Int.ofNat_tdiv, Nat.reduceLT, Int.cast_ofNat_Int, Int.reduceBEq, Int.reduceBNe, Int.reduceLT, Int.reduceLE, Int.reduceAdd, Int.reduceSub, Int.reduceMul, Int.reduceToNat, Int.reduceNeg, Int.reduceTMod, Int.reduceEq, not_false_eq_true, Int.reducePow, Int.reduceFDiv, Nat.reducePow, Nat.reduceSub, Nat.reduceMul, Nat.min_eq_left, Nat.reduceEqDiff, BEq.rfl, Int.tdiv_one, LN_succ, e1, e2, e3, e4, e5, e6, e7, e8, e9]
  refine RetOK.same (.inl rfl) rfl ?_ ?_ ?_ <;> simp [cvT, step, res, e1, e2, e3, e4, e5, e6, e7, e8, e9]
def bitW (x : Int) (j : Nat) : Int := IntKind.i64.wrap ((BitVec.ofInt IntKind.i64.bits (x.fdiv (2 ^ min j IntKind.i64.bits)) &&& BitVec.ofInt IntKind.i64.bits 1).toNat : Int)
theorem number_c (x b2 b1 b0 : Int) (s : List UInt8) (h2 : bitW x 2 = b2) (h1 : bitW x 1 = b1) (h0 : bitW x 0 = b0) (hb : (0 ≤ b2 ∧ b2 ≤ 1) ∧ (0 ≤ b1 ∧ b1 ≤ 1) ∧ (0 ≤ b0 ∧ b0 ≤ 1))
    (hs : s = [UInt8.ofNat (IntKind.u8.wrap (48 + b2)).toNat, UInt8.ofNat (IntKind.u8.wrap (48 + b1)).toNat, UInt8.ofNat (IntKind.u8.wrap (48 + b0)).toNat]) (nid : Nat) :
    ACall Tryz.prog 200 [.int .i64 x, .int .i64 3] [] nid (.str s) [] := by
  unfold bitW at h2 h1 h0
  refine acall_run c200 (by simp [a200]) ?_
  simp -dsimp only [a200, aqT, aqU, aqN, ↓seqK, ↓blkK, ↓loopK, step, stepBin, Nat.reduceBEq, Nat.reduceBeqDiff, Nat.add_assoc nid, Nat.reduceAdd, reduceCtorEq, ↓reduceIte, Nat.reduceLeDiff, Nat.reduceBneDiff, Option.toList, ← Int.ofNat_tmod, ← Int.ofNat_tdiv, Nat.reduceLT, Int.cast_ofNat_Int, Int.reduceBEq, Int.reduceBNe, Int.reduceLT, Int.reduceLE, Int.reduceAdd, Int.reduceSub, Int.reduceMul, Int.reduceToNat, Int.reduceNeg, Int.reduceTMod, Int.reduceEq, not_false_eq_true, Int.reducePow, Int.reduceFDiv, Nat.reducePow, Nat.reduceSub, Nat.reduceMul, Nat.min_eq_left, Nat.reduceEqDiff, BEq.rfl, Int.tdiv_one, LN_succ]
  refine ⟨by unfold inI64; omega, LP.rounds 5 ?_⟩
  simp -dsimp only [aqT, aqU, aqN, ↓seqK, ↓blkK, ↓loopK, step, stepBin, Nat.reduceBEq, Nat.reduceBeqDiff, Nat.add_assoc nid, Nat.reduceAdd, reduceCtorEq, ↓reduceIte, Nat.reduceLeDiff, Nat.reduceBneDiff, Option.toList, ← Int.ofNat_tmod, ← Int.ofNat_tdiv, Nat.reduceLT, Int.cast_ofNat_Int, Int.reduceBEq, Int.reduceBNe, Int.reduceLT, Int.reduceLE, Int.reduceAdd, Int.reduceSub, Int.reduceMul, Int.reduceToNat, Int.reduceNeg, Int.reduceTMod, Int.reduceEq, not_false_eq_true, Int.reducePow, Int.reduceFDiv, Nat.reducePow, Nat.reduceSub, Nat.reduceMul, Nat.min_eq_left, Nat.reduceEqDiff, BEq.rfl, Int.tdiv_one, LN_succ]
  rw [h2, h1, h0]
  obtain ⟨⟨a1, a2⟩, ⟨a3, a4⟩, a5, a6⟩ := hb
  refine ⟨by unfold inI64; omega, by unfold inI64; omega, by unfold inI64; omega, by unfold inI64; omega, by unfold inI64; omega, by unfold inI64; omega, RetOK.pure (.inl rfl) rfl ?_⟩
  subst hs
  simp [cvT, step, res, List.range_succ]
theorem netsFault_c (nid : Nat) : ACall Tryz.prog 197 [.int .i64 3] [] nid (.int .i64 0) [] := by
  have ho : outB 3 1 100 = false := by decide
  refine acall_run c197 (by simp [a197]) ?_
  simp -dsimp only [a197, aqT, aqU, aqN, ↓seqK, ↓blkK, ↓loopK, step, stepBin, Nat.reduceBEq, Nat.reduceBeqDiff, Nat.add_assoc nid, Nat.reduceAdd, reduceCtorEq, ↓reduceIte, Nat.reduceLeDiff, Nat.reduceBneDiff, Option.toList, ← Int.ofNat_tmod, ← Int.ofNat_tdiv, Nat.reduceLT, Int.cast_ofNat_Int, Int.reduceBEq, Int.reduceBNe, Int.reduceLT, Int.reduceLE, Int.reduceAdd, Int.reduceSub, Int.reduceMul, Int.reduceToNat, Int.reduceNeg, Int.reduceTMod, Int.reduceEq, not_false_eq_true, Int.reducePow, Int.reduceFDiv, Nat.reducePow, Nat.reduceSub, Nat.reduceMul, Nat.min_eq_left, Nat.reduceEqDiff, BEq.rfl, Int.tdiv_one, LN_succ]
  refine CallO.pure (out_c _ _ _ _) ?_
  rw [ho]
  simp -dsimp only [aqT, aqU, aqN, ↓seqK, ↓blkK, ↓loopK, step, stepBin, Nat.reduceBEq, Nat.reduceBeqDiff, Nat.add_assoc nid, Nat.reduceAdd, reduceCtorEq, ↓reduceIte, Nat.reduceLeDiff, Nat.reduceBneDiff, Option.toList, ← Int.ofNat_tmod, ← Int.ofNat_tdiv, Nat.reduceLT, Int.cast_ofNat_Int, Int.reduceBEq, Int.reduceBNe, Int.reduceLT, Int.reduceLE, Int.reduceAdd, Int.reduceSub, Int.reduceMul, Int.reduceToNat, Int.reduceNeg, Int.reduceTMod, Int.reduceEq, not_false_eq_true, Int.reducePow, Int.reduceFDiv, Nat.reducePow, Nat.reduceSub, Nat.reduceMul, Nat.min_eq_left, Nat.reduceEqDiff, BEq.rfl, Int.tdiv_one, LN_succ]
  refine RetOK.pure (.inl rfl) rfl ?_
  simp [cvT, step, res]
def vecs : List (List UInt8) := [[48, 48, 48], [48, 49, 49], [49, 48, 49]]
theorem turned_c (nl : Bool) (nid : Nat) : ACall Tryz.prog 201 [.lit nl 3 [.s fun i => [[48, 48, 49], [48, 49, 48], [48, 49, 49]].getD i []], .int .i64 3] [] nid (.sl nid 0 3) [(nid, some (.arr 9 3 [.s fun i => vecs.getD i []]))] := by
  refine acall_run c201 (by simp [a201]) ?_
  simp -dsimp only [a201, aqT, aqU, aqN, ↓seqK, ↓blkK, ↓loopK, step, stepBin, Nat.reduceBEq, Nat.reduceBeqDiff, Nat.add_assoc nid, Nat.reduceAdd, reduceCtorEq, ↓reduceIte, Nat.reduceLeDiff, Nat.reduceBneDiff, Option.toList, ← Int.ofNat_tmod, ← Int.ofNat_tdiv, Nat.reduceLT, Int.cast_ofNat_Int, Int.reduceBEq, Int.reduceBNe, Int.reduceLT, Int.reduceLE, Int.reduceAdd, Int.reduceSub, Int.reduceMul, Int.reduceToNat, Int.reduceNeg, Int.reduceTMod, Int.reduceEq, not_false_eq_true, Int.reducePow, Int.reduceFDiv, Nat.reducePow, Nat.reduceSub, Nat.reduceMul, Nat.min_eq_left, Nat.reduceEqDiff, BEq.rfl, Int.tdiv_one, LN_succ]
  refine LP.rounds 5 ?_
  simp -dsimp only [aqT, aqU, aqN, ↓seqK, ↓blkK, ↓loopK, step, stepBin, Nat.reduceBEq, Nat.reduceBeqDiff, Nat.add_assoc nid, Nat.reduceAdd, reduceCtorEq, ↓reduceIte, Nat.reduceLeDiff, Nat.reduceBneDiff, Option.toList, ← Int.ofNat_tmod, ← Int.ofNat_tdiv, Nat.reduceLT, Int.cast_ofNat_Int, Int.reduceBEq, Int.reduceBNe, Int.reduceLT, Int.reduceLE, Int.reduceAdd, Int.reduceSub, Int.reduceMul, Int.reduceToNat, Int.reduceNeg, Int.reduceTMod, Int.reduceEq, not_false_eq_true, Int.reducePow, Int.reduceFDiv, Nat.reducePow, Nat.reduceSub, Nat.reduceMul, Nat.min_eq_left, Nat.reduceEqDiff, BEq.rfl, Int.tdiv_one, LN_succ]
  refine LP.rounds 5 ?_
  simp -dsimp only [aqT, aqU, aqN, ↓seqK, ↓blkK, ↓loopK, step, stepBin, Nat.reduceBEq, Nat.reduceBeqDiff, Nat.add_assoc nid, Nat.reduceAdd, reduceCtorEq, ↓reduceIte, Nat.reduceLeDiff, Nat.reduceBneDiff, Option.toList, ← Int.ofNat_tmod, ← Int.ofNat_tdiv, Nat.reduceLT, Int.cast_ofNat_Int, Int.reduceBEq, Int.reduceBNe, Int.reduceLT, Int.reduceLE, Int.reduceAdd, Int.reduceSub, Int.reduceMul, Int.reduceToNat, Int.reduceNeg, Int.reduceTMod, Int.reduceEq, not_false_eq_true, Int.reducePow, Int.reduceFDiv, Nat.reducePow, Nat.reduceSub, Nat.reduceMul, Nat.min_eq_left, Nat.reduceEqDiff, BEq.rfl, Int.tdiv_one, LN_succ, Col.const, List.getD_cons_zero, List.getD_cons_succ]
  refine ⟨by unfold inI64; omega, by unfold inI64; omega, by unfold inI64; omega, by unfold inI64; omega, LP.rounds 5 ?_⟩
  simp -dsimp only [aqT, aqU, aqN, ↓seqK, ↓blkK, ↓loopK, step, stepBin, Nat.reduceBEq, Nat.reduceBeqDiff, Nat.add_assoc nid, Nat.reduceAdd, reduceCtorEq, ↓reduceIte, Nat.reduceLeDiff, Nat.reduceBneDiff, Option.toList, ← Int.ofNat_tmod, ← Int.ofNat_tdiv, Nat.reduceLT, Int.cast_ofNat_Int, Int.reduceBEq, Int.reduceBNe, Int.reduceLT, Int.reduceLE, Int.reduceAdd, Int.reduceSub, Int.reduceMul, Int.reduceToNat, Int.reduceNeg, Int.reduceTMod, Int.reduceEq, not_false_eq_true, Int.reducePow, Int.reduceFDiv, Nat.reducePow, Nat.reduceSub, Nat.reduceMul, Nat.min_eq_left, Nat.reduceEqDiff, BEq.rfl, Int.tdiv_one, LN_succ, Col.const, List.getD_cons_zero, List.getD_cons_succ]
  refine ⟨by unfold inI64; omega, by unfold inI64; omega, by unfold inI64; omega, by unfold inI64; omega, LP.rounds 5 ?_⟩
  simp -dsimp only [aqT, aqU, aqN, ↓seqK, ↓blkK, ↓loopK, step, stepBin, Nat.reduceBEq, Nat.reduceBeqDiff, Nat.add_assoc nid, Nat.reduceAdd, reduceCtorEq, ↓reduceIte, Nat.reduceLeDiff, Nat.reduceBneDiff, Option.toList, ← Int.ofNat_tmod, ← Int.ofNat_tdiv, Nat.reduceLT, Int.cast_ofNat_Int, Int.reduceBEq, Int.reduceBNe, Int.reduceLT, Int.reduceLE, Int.reduceAdd, Int.reduceSub, Int.reduceMul, Int.reduceToNat, Int.reduceNeg, Int.reduceTMod, Int.reduceEq, not_false_eq_true, Int.reducePow, Int.reduceFDiv, Nat.reducePow, Nat.reduceSub, Nat.reduceMul, Nat.min_eq_left, Nat.reduceEqDiff, BEq.rfl, Int.tdiv_one, LN_succ, Col.const, List.getD_cons_zero, List.getD_cons_succ]
  refine ⟨by unfold inI64; omega, by unfold inI64; omega, by unfold inI64; omega, by unfold inI64; omega, RetOK.go [(nid, nid + 768)] [] (.inl rfl) ?_⟩
  simp [a201, cvT, step, res, -List.getD_eq_getElem?_getD]
  trace_state
  refine ColEq.s fun i hi => ?_
  have : i = 0 ∨ i = 1 ∨ i = 2 := by omega
  rcases this with rfl | rfl | rfl <;> decide
theorem counting_c (nid : Nat) : ACall Tryz.prog 120 [.int .i64 3] [] nid (.tup [.sl nid 0 3, .int .i64 0]) [(nid, some (.arr 9 3 [.s fun i => vecs.getD i []]))] := by
  refine acall_run c120 (by simp [a120]) ?_
  simp -dsimp only [a120, aqT, aqU, aqN, ↓seqK, ↓blkK, ↓loopK, step, stepBin, Nat.reduceBEq, Nat.reduceBeqDiff, Nat.add_assoc nid, Nat.reduceAdd, reduceCtorEq, ↓reduceIte, Nat.reduceLeDiff, Nat.reduceBneDiff, Option.toList, ← Int.ofNat_tmod, ← Int.ofNat_tdiv, Nat.reduceLT, Int.cast_ofNat_Int, Int.reduceBEq, Int.reduceBNe, Int.reduceLT, Int.reduceLE, Int.reduceAdd, Int.reduceSub, Int.reduceMul, Int.reduceToNat, Int.reduceNeg, Int.reduceTMod, Int.reduceEq, not_false_eq_true, Int.reducePow, Int.reduceFDiv, Nat.reducePow, Nat.reduceSub, Nat.reduceMul, Nat.min_eq_left, Nat.reduceEqDiff, BEq.rfl, Int.tdiv_one, LN_succ]
  refine CallO.pure (netsFault_c _) ?_
  simp -dsimp only [aqT, aqU, aqN, ↓seqK, ↓blkK, ↓loopK, step, stepBin, Nat.reduceBEq, Nat.reduceBeqDiff, Nat.add_assoc nid, Nat.reduceAdd, reduceCtorEq, ↓reduceIte, Nat.reduceLeDiff, Nat.reduceBneDiff, Option.toList, ← Int.ofNat_tmod, ← Int.ofNat_tdiv, Nat.reduceLT, Int.cast_ofNat_Int, Int.reduceBEq, Int.reduceBNe, Int.reduceLT, Int.reduceLE, Int.reduceAdd, Int.reduceSub, Int.reduceMul, Int.reduceToNat, Int.reduceNeg, Int.reduceTMod, Int.reduceEq, not_false_eq_true, Int.reducePow, Int.reduceFDiv, Nat.reducePow, Nat.reduceSub, Nat.reduceMul, Nat.min_eq_left, Nat.reduceEqDiff, BEq.rfl, Int.tdiv_one, LN_succ]
  refine CallO.on (least_c nid _ (by omega)) (subH_get (by simp only [aqT, aqU, aqN, ↓seqK, ↓blkK, ↓loopK, step, stepBin, Nat.reduceBEq, Nat.reduceBeqDiff, Nat.add_assoc nid, Nat.reduceAdd, reduceCtorEq, ↓reduceIte, Nat.reduceLeDiff, Nat.reduceBneDiff, Option.toList, ← Int.ofNat_tmod, ← Int.ofNat_tdiv, Nat.reduceLT])) ?_
  simp -dsimp only [aqT, aqU, aqN, ↓seqK, ↓blkK, ↓loopK, step, stepBin, Nat.reduceBEq, Nat.reduceBeqDiff, Nat.add_assoc nid, Nat.reduceAdd, reduceCtorEq, ↓reduceIte, Nat.reduceLeDiff, Nat.reduceBneDiff, Option.toList, ← Int.ofNat_tmod, ← Int.ofNat_tdiv, Nat.reduceLT, Int.cast_ofNat_Int, Int.reduceBEq, Int.reduceBNe, Int.reduceLT, Int.reduceLE, Int.reduceAdd, Int.reduceSub, Int.reduceMul, Int.reduceToNat, Int.reduceNeg, Int.reduceTMod, Int.reduceEq, not_false_eq_true, Int.reducePow, Int.reduceFDiv, Nat.reducePow, Nat.reduceSub, Nat.reduceMul, Nat.min_eq_left, Nat.reduceEqDiff, BEq.rfl, Int.tdiv_one, LN_succ]
  refine LP.rounds 5 ?_
  simp -dsimp only [aqT, aqU, aqN, ↓seqK, ↓blkK, ↓loopK, step, stepBin, Nat.reduceBEq, Nat.reduceBeqDiff, Nat.add_assoc nid, Nat.reduceAdd, reduceCtorEq, ↓reduceIte, Nat.reduceLeDiff, Nat.reduceBneDiff, Option.toList, ← Int.ofNat_tmod, ← Int.ofNat_tdiv, Nat.reduceLT, Int.cast_ofNat_Int, Int.reduceBEq, Int.reduceBNe, Int.reduceLT, Int.reduceLE, Int.reduceAdd, Int.reduceSub, Int.reduceMul, Int.reduceToNat, Int.reduceNeg, Int.reduceTMod, Int.reduceEq, not_false_eq_true, Int.reducePow, Int.reduceFDiv, Nat.reducePow, Nat.reduceSub, Nat.reduceMul, Nat.min_eq_left, Nat.reduceEqDiff, BEq.rfl, Int.tdiv_one, LN_succ]
  refine ⟨by unfold inI64; omega, CallO.pure (number_c 1 0 0 1 [48, 48, 49] (by decide) (by decide) (by decide) (by omega) (by decide) _) ?_⟩
  simp -dsimp only [aqT, aqU, aqN, ↓seqK, ↓blkK, ↓loopK, step, stepBin, Nat.reduceBEq, Nat.reduceBeqDiff, Nat.add_assoc nid, Nat.reduceAdd, reduceCtorEq, ↓reduceIte, Nat.reduceLeDiff, Nat.reduceBneDiff, Option.toList, ← Int.ofNat_tmod, ← Int.ofNat_tdiv, Nat.reduceLT, Int.cast_ofNat_Int, Int.reduceBEq, Int.reduceBNe, Int.reduceLT, Int.reduceLE, Int.reduceAdd, Int.reduceSub, Int.reduceMul, Int.reduceToNat, Int.reduceNeg, Int.reduceTMod, Int.reduceEq, not_false_eq_true, Int.reducePow, Int.reduceFDiv, Nat.reducePow, Nat.reduceSub, Nat.reduceMul, Nat.min_eq_left, Nat.reduceEqDiff, BEq.rfl, Int.tdiv_one, LN_succ]
  refine ⟨by unfold inI64; omega, by unfold inI64; omega, CallO.pure (number_c 2 0 1 0 [48, 49, 48] (by decide) (by decide) (by decide) (by omega) (by decide) _) ?_⟩
  simp -dsimp only [aqT, aqU, aqN, ↓seqK, ↓blkK, ↓loopK, step, stepBin, Nat.reduceBEq, Nat.reduceBeqDiff, Nat.add_assoc nid, Nat.reduceAdd, reduceCtorEq, ↓reduceIte, Nat.reduceLeDiff, Nat.reduceBneDiff, Option.toList, ← Int.ofNat_tmod, ← Int.ofNat_tdiv, Nat.reduceLT, Int.cast_ofNat_Int, Int.reduceBEq, Int.reduceBNe, Int.reduceLT, Int.reduceLE, Int.reduceAdd, Int.reduceSub, Int.reduceMul, Int.reduceToNat, Int.reduceNeg, Int.reduceTMod, Int.reduceEq, not_false_eq_true, Int.reducePow, Int.reduceFDiv, Nat.reducePow, Nat.reduceSub, Nat.reduceMul, Nat.min_eq_left, Nat.reduceEqDiff, BEq.rfl, Int.tdiv_one, LN_succ]
  refine ⟨by unfold inI64; omega, by unfold inI64; omega, CallO.pure (number_c 3 0 1 1 [48, 49, 49] (by decide) (by decide) (by decide) (by omega) (by decide) _) ?_⟩
  simp -dsimp only [aqT, aqU, aqN, ↓seqK, ↓blkK, ↓loopK, step, stepBin, Nat.reduceBEq, Nat.reduceBeqDiff, Nat.add_assoc nid, Nat.reduceAdd, reduceCtorEq, ↓reduceIte, Nat.reduceLeDiff, Nat.reduceBneDiff, Option.toList, ← Int.ofNat_tmod, ← Int.ofNat_tdiv, Nat.reduceLT, Int.cast_ofNat_Int, Int.reduceBEq, Int.reduceBNe, Int.reduceLT, Int.reduceLE, Int.reduceAdd, Int.reduceSub, Int.reduceMul, Int.reduceToNat, Int.reduceNeg, Int.reduceTMod, Int.reduceEq, not_false_eq_true, Int.reducePow, Int.reduceFDiv, Nat.reducePow, Nat.reduceSub, Nat.reduceMul, Nat.min_eq_left, Nat.reduceEqDiff, BEq.rfl, Int.tdiv_one, LN_succ]
  refine ⟨by unfold inI64; omega, CallO.gave [nid + 196] (fun nl' => by
    simp only [lends, lend, aqT, aqU, aqN, ↓seqK, ↓blkK, ↓loopK, step, stepBin, Nat.reduceBEq, Nat.reduceBeqDiff, Nat.add_assoc nid, Nat.reduceAdd, reduceCtorEq, ↓reduceIte, Nat.reduceLeDiff, Nat.reduceBneDiff, Option.toList, ← Int.ofNat_tmod, ← Int.ofNat_tdiv, Nat.reduceLT]
    exact (turned_c (nl' _) _).args ⟨⟨rfl, rfl, ColEq.s fun i hi => by
      have : i = 0 ∨ i = 1 ∨ i = 2 := by omega
      rcases this with rfl | rfl | rfl <;> rfl, trivial⟩, rfl, trivial⟩) (fun id hid => by simp only [List.mem_singleton] at hid; subst hid; simp only [aqT, aqU, aqN, ↓seqK, ↓blkK, ↓loopK, step, stepBin, Nat.reduceBEq, Nat.reduceBeqDiff, Nat.add_assoc nid, Nat.reduceAdd, reduceCtorEq, ↓reduceIte, Nat.reduceLeDiff, Nat.reduceBneDiff, Option.toList, ← Int.ofNat_tmod, ← Int.ofNat_tdiv, Nat.reduceLT]) ?_⟩
  simp -dsimp only [aqT, aqU, aqN, ↓seqK, ↓blkK, ↓loopK, step, stepBin, Nat.reduceBEq, Nat.reduceBeqDiff, Nat.add_assoc nid, Nat.reduceAdd, reduceCtorEq, ↓reduceIte, Nat.reduceLeDiff, Nat.reduceBneDiff, Option.toList, ← Int.ofNat_tmod, ← Int.ofNat_tdiv, Nat.reduceLT, Int.cast_ofNat_Int, Int.reduceBEq, Int.reduceBNe, Int.reduceLT, Int.reduceLE, Int.reduceAdd, Int.reduceSub, Int.reduceMul, Int.reduceToNat, Int.reduceNeg, Int.reduceTMod, Int.reduceEq, not_false_eq_true, Int.reducePow, Int.reduceFDiv, Nat.reducePow, Nat.reduceSub, Nat.reduceMul, Nat.min_eq_left, Nat.reduceEqDiff, BEq.rfl, Int.tdiv_one, LN_succ, kill]
  refine RetOK.go [(nid, nid + 224)] [] (.inl rfl) ?_
  simp [a120, cvT, step, res]
end Go.Proofs.YtpifoghhaohhaaaGreatDoor
namespace Go.Proofs.YtpifoghhaohhaaaGreatDoor
open Go.RowKit
theorem isState_c (n : Int) (nid : Nat) : ACall Tryz.prog 195 [.int .i64 n] [] nid (.bool (!outB n 0 15)) [] := by
  refine acall_run c195 (by simp [a195]) ?_
  simp -dsimp only [a195, aqT, aqU, aqN, ↓seqK, ↓blkK, ↓loopK, step, stepBin, Nat.reduceBEq, Nat.reduceBeqDiff, Nat.add_assoc nid, Nat.reduceAdd, reduceCtorEq, ↓reduceIte, Nat.reduceLeDiff, Nat.reduceBneDiff, Option.toList, ← Int.ofNat_tmod, ← Int.ofNat_tdiv, Nat.reduceLT]
  refine CallO.pure (out_c _ _ _ _) ?_
  simp -dsimp only [aqT, aqU, aqN, ↓seqK, ↓blkK, ↓loopK, step, stepBin, Nat.reduceBEq, Nat.reduceBeqDiff, Nat.add_assoc nid, Nat.reduceAdd, reduceCtorEq, ↓reduceIte, Nat.reduceLeDiff, Nat.reduceBneDiff, Option.toList, ← Int.ofNat_tmod, ← Int.ofNat_tdiv, Nat.reduceLT]
  refine RetOK.pure (.inl rfl) rfl ?_
  simp [cvT, step, res]
theorem pathP (s t nid : Nat) (hs : s < 16) (ht : t < 16) : ACall Tryz.prog 119 [.int .i64 (s : Nat), .int .i64 (t : Nat)] [] nid (.tup [.str (pathV s t), .int .i64 0]) [] := by
  have h1 : outB (s : Nat) 0 15 = false := by unfold outB; simp; omega
  have h2 : outB (t : Nat) 0 15 = false := by unfold outB; simp; omega
  refine acall_run c119 (by simp [a119]) ?_
  simp -dsimp only [a119, aqT, aqU, aqN, ↓seqK, ↓blkK, ↓loopK, step, stepBin, Nat.reduceBEq, Nat.reduceBeqDiff, Nat.add_assoc nid, Nat.reduceAdd, reduceCtorEq, ↓reduceIte, Nat.reduceLeDiff, Nat.reduceBneDiff, Option.toList, ← Int.ofNat_tmod, ← Int.ofNat_tdiv, Nat.reduceLT]
  refine CallO.pure (isState_c _ _) ?_
  rw [h1]
  simp -dsimp only [aqT, aqU, aqN, ↓seqK, ↓blkK, ↓loopK, step, stepBin, Nat.reduceBEq, Nat.reduceBeqDiff, Nat.add_assoc nid, Nat.reduceAdd, reduceCtorEq, ↓reduceIte, Nat.reduceLeDiff, Nat.reduceBneDiff, Option.toList, ← Int.ofNat_tmod, ← Int.ofNat_tdiv, Nat.reduceLT, Bool.not_false, Bool.not_true]
  refine CallO.pure (isState_c _ _) ?_
  rw [h2]
  simp -dsimp only [aqT, aqU, aqN, ↓seqK, ↓blkK, ↓loopK, step, stepBin, Nat.reduceBEq, Nat.reduceBeqDiff, Nat.add_assoc nid, Nat.reduceAdd, reduceCtorEq, ↓reduceIte, Nat.reduceLeDiff, Nat.reduceBneDiff, Option.toList, ← Int.ofNat_tmod, ← Int.ofNat_tdiv, Nat.reduceLT, Bool.not_false, Bool.not_true]
  refine CallO.pure (path_st s t _ hs) ?_
  simp -dsimp only [aqT, aqU, aqN, ↓seqK, ↓blkK, ↓loopK, step, stepBin, Nat.reduceBEq, Nat.reduceBeqDiff, Nat.add_assoc nid, Nat.reduceAdd, reduceCtorEq, ↓reduceIte, Nat.reduceLeDiff, Nat.reduceBneDiff, Option.toList, ← Int.ofNat_tmod, ← Int.ofNat_tdiv, Nat.reduceLT]
  refine RetOK.pure (.inl rfl) rfl ?_
  simp [cvT, step, res]
theorem path41 : pathV 4 1 = [49, 49, 48] := by decide
theorem path41_c (nid : Nat) : ACall Tryz.prog 119 [.int .i64 4, .int .i64 1] [] nid (.tup [.str [49, 49, 48], .int .i64 0]) [] := by
  have h := pathP 4 1 nid (by omega) (by omega)
  rw [path41] at h
  exact h
theorem e110 : (([49, 49, 48] : List UInt8) == [49, 49, 48]) = true := by decide
theorem ready_c (nid : Nat) : ACall Tryz.prog 43 [] [] nid (.bool true) [] := by
  refine acall_run c43 (by simp [a43]) ?_
  simp -dsimp only [a43, aqT, aqU, aqN, ↓seqK, ↓blkK, ↓loopK, step, stepBin, Nat.reduceBEq, Nat.reduceBeqDiff, Nat.add_assoc nid, Nat.reduceAdd, reduceCtorEq, ↓reduceIte, Nat.reduceLeDiff, Nat.reduceBneDiff, Option.toList, ← Int.ofNat_tmod, ← Int.ofNat_tdiv, Nat.reduceLT]
  refine CallO.pure (path41_c _) ?_
  simp -dsimp only [aqT, aqU, aqN, ↓seqK, ↓blkK, ↓loopK, step, stepBin, Nat.reduceBEq, Nat.reduceBeqDiff, Nat.add_assoc nid, Nat.reduceAdd, reduceCtorEq, ↓reduceIte, Nat.reduceLeDiff, Nat.reduceBneDiff, Option.toList, ← Int.ofNat_tmod, ← Int.ofNat_tdiv, Nat.reduceLT]
  refine CallO.pure (counting_c _) ?_
  simp -dsimp only [aqT, aqU, aqN, ↓seqK, ↓blkK, ↓loopK, step, stepBin, Nat.reduceBEq, Nat.reduceBeqDiff, Nat.add_assoc nid, Nat.reduceAdd, reduceCtorEq, ↓reduceIte, Nat.reduceLeDiff, Nat.reduceBneDiff, Option.toList, ← Int.ofNat_tmod, ← Int.ofNat_tdiv, Nat.reduceLT]
  refine CallO.gave [nid + 52] (fun nl' => by
    simp only [lends, lend, aqT, aqU, aqN, ↓seqK, ↓blkK, ↓loopK, step, stepBin, Nat.reduceBEq, Nat.reduceBeqDiff, Nat.add_assoc nid, Nat.reduceAdd, reduceCtorEq, ↓reduceIte, Nat.reduceLeDiff, Nat.reduceBneDiff, Option.toList, ← Int.ofNat_tmod, ← Int.ofNat_tdiv, Nat.reduceLT]
    exact yield_c (nl' _) _) (by simp [getH]) ?_
  simp -dsimp only [aqT, aqU, aqN, ↓seqK, ↓blkK, ↓loopK, step, stepBin, Nat.reduceBEq, Nat.reduceBeqDiff, Nat.add_assoc nid, Nat.reduceAdd, reduceCtorEq, ↓reduceIte, Nat.reduceLeDiff, Nat.reduceBneDiff, Option.toList, ← Int.ofNat_tmod, ← Int.ofNat_tdiv, Nat.reduceLT, kill, e110, -seqK]
  refine S2.yes (by decide) ?_
  simp -dsimp only [aqT, aqU, aqN, ↓seqK, ↓blkK, ↓loopK, step, stepBin, Nat.reduceBEq, Nat.reduceBeqDiff, Nat.add_assoc nid, Nat.reduceAdd, reduceCtorEq, ↓reduceIte, Nat.reduceLeDiff, Nat.reduceBneDiff, Option.toList, ← Int.ofNat_tmod, ← Int.ofNat_tdiv, Nat.reduceLT, -seqK]
  refine RetOK.pure (.inl rfl) rfl ?_
  simp [cvT, step, res]
end Go.Proofs.YtpifoghhaohhaaaGreatDoor
namespace Go.Proofs.YtpifoghhaohhaaaGreatDoor
open Go.RowKit Go.Shelf Go.Lib
theorem indexS_c (nl : Bool) (l : List (List UInt8)) (x : List UInt8) (nid : Nat) (hl : l.length ≤ 1000000) :
    ACall Tryz.prog 115 [litS nl l, .str x] [] nid (.int .i64 (idxF (fun y => x == y) l)) [] := by
  refine acall_run c115 (by simp [a115]) ?_
  unfold litS
  simp -dsimp only [aqT, aqU, aqN, ↓seqK, ↓blkK, ↓loopK, step, stepBin, Nat.reduceBEq, Nat.reduceBeqDiff, Nat.add_assoc nid, Nat.reduceAdd, reduceCtorEq, ↓reduceIte, Nat.reduceLeDiff, Nat.reduceBneDiff, Option.toList, ← Int.ofNat_tmod, ← Int.ofNat_tdiv, Nat.reduceLT, Int.cast_ofNat_Int, Int.reduceBEq, Int.reduceBNe, Int.reduceLT, Int.reduceLE, Int.reduceAdd, Int.reduceSub, Int.reduceMul, Int.reduceToNat, Int.reduceNeg, Int.reduceTMod, Int.reduceEq, not_false_eq_true, Int.reducePow, Int.reduceFDiv, Nat.reducePow, Nat.reduceSub, Nat.reduceMul, Nat.min_eq_left, Nat.reduceEqDiff, BEq.rfl, Int.tdiv_one, LN_succ, a115]
  refine LP.mkP (fun k : Nat => k ≤ l.length ∧ ∀ j, j < k → (x == l.getD j []) = false) (fun k : Nat => ⟨[(8, .int .i64 k), (7, .int .i64 l.length), (0, litS nl l), (1, .str x)], [], nid + 100, nid⟩) (fun k => l.length + 1 - k) 0 ⟨by omega, fun j hj => by omega⟩ (Cov.go [] [] ?_) (fun k hk => ?_)
  · simp [cvT, step, res, litS]
  obtain ⟨hk, hb⟩ := hk
  unfold litS
  simp -dsimp only [aqT, aqU, aqN, ↓seqK, ↓blkK, ↓loopK, step, stepBin, Nat.reduceBEq, Nat.reduceBeqDiff, Nat.add_assoc nid, Nat.reduceAdd, reduceCtorEq, ↓reduceIte, Nat.reduceLeDiff, Nat.reduceBneDiff, Option.toList, ← Int.ofNat_tmod, ← Int.ofNat_tdiv, Nat.reduceLT, Int.cast_ofNat_Int, Int.reduceBEq, Int.reduceBNe, Int.reduceLT, Int.reduceLE, Int.reduceAdd, Int.reduceSub, Int.reduceMul, Int.reduceToNat, Int.reduceNeg, Int.reduceTMod, Int.reduceEq, not_false_eq_true, Int.reducePow, Int.reduceFDiv, Nat.reducePow, Nat.reduceSub, Nat.reduceMul, Nat.min_eq_left, Nat.reduceEqDiff, BEq.rfl, Int.tdiv_one, LN_succ]
  refine S2.dec (fun h3 => ?_) (fun h3 => ?_) <;> simp -dsimp only [aqT, aqU, aqN, ↓seqK, ↓blkK, ↓loopK, step, stepBin, Nat.reduceBEq, Nat.reduceBeqDiff, Nat.add_assoc nid, Nat.reduceAdd, reduceCtorEq, ↓reduceIte, Nat.reduceLeDiff, Nat.reduceBneDiff, Option.toList, ← Int.ofNat_tmod, ← Int.ofNat_tdiv, Nat.reduceLT, Int.cast_ofNat_Int, Int.reduceBEq, Int.reduceBNe, Int.reduceLT, Int.reduceLE, Int.reduceAdd, Int.reduceSub, Int.reduceMul, Int.reduceToNat, Int.reduceNeg, Int.reduceTMod, Int.reduceEq, not_false_eq_true, Int.reducePow, Int.reduceFDiv, Nat.reducePow, Nat.reduceSub, Nat.reduceMul, Nat.min_eq_left, Nat.reduceEqDiff, BEq.rfl, Int.tdiv_one, LN_succ]
  · have hkl : k < l.length := by omega
    have hat := fun h => idxF_at (F := fun y => x == y) hkl h hb
    have hnx : (x == l.getD k []) = false → ∀ j, j < k + 1 → (x == l.getD j []) = false := fun h j hj => by
      by_cases e : j = k
      · rw [e]; exact h
      · exact hb j (by omega)
    generalize l.getD k [] = y at *
    refine ⟨by omega, S2.intro (fun h4 => ?_) (fun h4 => ?_)⟩ <;> simp -dsimp only [aqT, aqU, aqN, ↓seqK, ↓blkK, ↓loopK, step, stepBin, Nat.reduceBEq, Nat.reduceBeqDiff, Nat.add_assoc nid, Nat.reduceAdd, reduceCtorEq, ↓reduceIte, Nat.reduceLeDiff, Nat.reduceBneDiff, Option.toList, ← Int.ofNat_tmod, ← Int.ofNat_tdiv, Nat.reduceLT, Int.cast_ofNat_Int, Int.reduceBEq, Int.reduceBNe, Int.reduceLT, Int.reduceLE, Int.reduceAdd, Int.reduceSub, Int.reduceMul, Int.reduceToNat, Int.reduceNeg, Int.reduceTMod, Int.reduceEq, not_false_eq_true, Int.reducePow, Int.reduceFDiv, Nat.reducePow, Nat.reduceSub, Nat.reduceMul, Nat.min_eq_left, Nat.reduceEqDiff, BEq.rfl, Int.tdiv_one, LN_succ]
    · rw [hat h4]
      refine RetOK.pure (.inl rfl) rfl ?_
      simp [cvT, step, res]
    · refine ⟨by unfold inI64; omega, k + 1, ⟨⟨by omega, hnx h4⟩, by omega⟩, Cov.go [] [] ?_⟩
      simp [cvT, step, res, litS]
  · have hkn : k = l.length := by omega
    subst hkn
    rw [idxF_no hb]
    refine RetOK.pure (.inl rfl) rfl ?_
    simp [cvT, step, res]
theorem containsS_c (nl : Bool) (l : List (List UInt8)) (x : List UInt8) (nid : Nat) (hl : l.length ≤ 1000000) :
    ACall Tryz.prog 38 [litS nl l, .str x] [] nid (.bool (l.contains x)) [] := by
  have e : decide (0 ≤ idxF (fun y => x == y) l) = l.contains x := by
    rw [List.contains_eq_any_beq]
    unfold idxF
    cases h : l.any (fun y => x == y) <;> simp
  refine acall_run c38 (by simp [a38]) ?_
  simp -dsimp only [aqT, aqU, aqN, ↓seqK, ↓blkK, ↓loopK, step, stepBin, Nat.reduceBEq, Nat.reduceBeqDiff, Nat.add_assoc nid, Nat.reduceAdd, reduceCtorEq, ↓reduceIte, Nat.reduceLeDiff, Nat.reduceBneDiff, Option.toList, ← Int.ofNat_tmod, ← Int.ofNat_tdiv, Nat.reduceLT, Int.cast_ofNat_Int, Int.reduceBEq, Int.reduceBNe, Int.reduceLT, Int.reduceLE, Int.reduceAdd, Int.reduceSub, Int.reduceMul, Int.reduceToNat, Int.reduceNeg, Int.reduceTMod, Int.reduceEq, not_false_eq_true, Int.reducePow, Int.reduceFDiv, Nat.reducePow, Nat.reduceSub, Nat.reduceMul, Nat.min_eq_left, Nat.reduceEqDiff, BEq.rfl, Int.tdiv_one, LN_succ, a38]
  refine CallO.pure (indexS_c nl l x _ hl) ?_
  simp -dsimp only [aqT, aqU, aqN, ↓seqK, ↓blkK, ↓loopK, step, stepBin, Nat.reduceBEq, Nat.reduceBeqDiff, Nat.add_assoc nid, Nat.reduceAdd, reduceCtorEq, ↓reduceIte, Nat.reduceLeDiff, Nat.reduceBneDiff, Option.toList, ← Int.ofNat_tmod, ← Int.ofNat_tdiv, Nat.reduceLT, Int.cast_ofNat_Int, Int.reduceBEq, Int.reduceBNe, Int.reduceLT, Int.reduceLE, Int.reduceAdd, Int.reduceSub, Int.reduceMul, Int.reduceToNat, Int.reduceNeg, Int.reduceTMod, Int.reduceEq, not_false_eq_true, Int.reducePow, Int.reduceFDiv, Nat.reducePow, Nat.reduceSub, Nat.reduceMul, Nat.min_eq_left, Nat.reduceEqDiff, BEq.rfl, Int.tdiv_one, LN_succ]
  rw [e]
  refine RetOK.pure (.inl rfl) rfl ?_
  simp [cvT, step, res]
set_option maxHeartbeats 8000000 in
theorem theFaultIsCandidate_c (nl : Bool) (A : List Int) (nid : Nat) (hA : A.length ≤ 17592186044416) : ACall Tryz.prog 5 [litI nl A] [] nid (.bool true) [] := by
  refine acall_sr c5 (by simp [a5]) ?_
  unfold a5 litI
  refine SR.seq ?_
  simp -dsimp only [aqT, aqU, aqN, ↓seqK, ↓blkK, ↓loopK, step, stepBin, Nat.reduceBEq, Nat.reduceBeqDiff, Nat.add_assoc nid, Nat.reduceAdd, reduceCtorEq, ↓reduceIte, Nat.reduceLeDiff, Nat.reduceBneDiff, Option.toList, ← Int.ofNat_tmod, ← Int.ofNat_tdiv, Nat.reduceLT, Int.cast_ofNat_Int, Int.reduceBEq, Int.reduceBNe, Int.reduceLT, Int.reduceLE, Int.reduceAdd, Int.reduceSub, Int.reduceMul, Int.reduceToNat, Int.reduceNeg, Int.reduceTMod, Int.reduceEq, not_false_eq_true, Int.reducePow, Int.reduceFDiv, Nat.reducePow, Nat.reduceSub, Nat.reduceMul, Nat.min_eq_left, Nat.reduceEqDiff, BEq.rfl, Int.tdiv_one, LN_succ]
  refine SR.seq ?_
  simp -dsimp only [aqT, aqU, aqN, ↓seqK, ↓blkK, ↓loopK, step, stepBin, Nat.reduceBEq, Nat.reduceBeqDiff, Nat.add_assoc nid, Nat.reduceAdd, reduceCtorEq, ↓reduceIte, Nat.reduceLeDiff, Nat.reduceBneDiff, Option.toList, ← Int.ofNat_tmod, ← Int.ofNat_tdiv, Nat.reduceLT, Int.cast_ofNat_Int, Int.reduceBEq, Int.reduceBNe, Int.reduceLT, Int.reduceLE, Int.reduceAdd, Int.reduceSub, Int.reduceMul, Int.reduceToNat, Int.reduceNeg, Int.reduceTMod, Int.reduceEq, not_false_eq_true, Int.reducePow, Int.reduceFDiv, Nat.reducePow, Nat.reduceSub, Nat.reduceMul, Nat.min_eq_left, Nat.reduceEqDiff, BEq.rfl, Int.tdiv_one, LN_succ]
  refine SR.seqW (ι := {x : DictX // (DictB 4 x.G x.R ∧ dictV x.G x.R = 0) ∧ x.q ≤ 6000}) (fun x => ⟨[(3, .ptr (nid + 12) 0), (4, .ptr (nid + 8) 0)], [(nid + 12, strmC nl A x.1.q), (nid + 8, boxP2 x.1.g0 x.1.r0 x.1.b x.1.G x.1.R)], nid + 200, nid⟩) ?_ (fun ⟨⟨g0, r0, b, G, R, q⟩, ⟨hB, hD⟩, hq⟩ => ?_)
  · refine SR.run (t := .mk) ?_
    simp -dsimp only [aqT, aqU, aqN, ↓seqK, ↓blkK, ↓loopK, step, stepBin, Nat.reduceBEq, Nat.reduceBeqDiff, Nat.add_assoc nid, Nat.reduceAdd, reduceCtorEq, ↓reduceIte, Nat.reduceLeDiff, Nat.reduceBneDiff, Option.toList, ← Int.ofNat_tmod, ← Int.ofNat_tdiv, Nat.reduceLT, Int.cast_ofNat_Int, Int.reduceBEq, Int.reduceBNe, Int.reduceLT, Int.reduceLE, Int.reduceAdd, Int.reduceSub, Int.reduceMul, Int.reduceToNat, Int.reduceNeg, Int.reduceTMod, Int.reduceEq, not_false_eq_true, Int.reducePow, Int.reduceFDiv, Nat.reducePow, Nat.reduceSub, Nat.reduceMul, Nat.min_eq_left, Nat.reduceEqDiff, BEq.rfl, Int.tdiv_one, LN_succ]
    refine CallO.any (rightDict_I (nid + 12) _ nl A 0 6 4 (by omega) (by omega) hA (by omega) (by omega) (by omega)) (subH_get (by simp only [aqT, aqU, aqN, ↓seqK, ↓blkK, ↓loopK, step, stepBin, Nat.reduceBEq, Nat.reduceBeqDiff, Nat.add_assoc nid, Nat.reduceAdd, reduceCtorEq, ↓reduceIte, Nat.reduceLeDiff, Nat.reduceBneDiff, Option.toList, ← Int.ofNat_tmod, ← Int.ofNat_tdiv, Nat.reduceLT, Int.cast_ofNat_Int, Int.reduceBEq, Int.reduceBNe, Int.reduceLT, Int.reduceLE, Int.reduceAdd, Int.reduceSub, Int.reduceMul, Int.reduceToNat, Int.reduceNeg, Int.reduceTMod, Int.reduceEq, not_false_eq_true, Int.reducePow, Int.reduceFDiv, Nat.reducePow, Nat.reduceSub, Nat.reduceMul, Nat.min_eq_left, Nat.reduceEqDiff, BEq.rfl, Int.tdiv_one, LN_succ, strmC])) (fun x hx => ?_)
    unfold dictP
    simp -dsimp only [aqT, aqU, aqN, ↓seqK, ↓blkK, ↓loopK, step, stepBin, Nat.reduceBEq, Nat.reduceBeqDiff, Nat.add_assoc nid, Nat.reduceAdd, reduceCtorEq, ↓reduceIte, Nat.reduceLeDiff, Nat.reduceBneDiff, Option.toList, ← Int.ofNat_tmod, ← Int.ofNat_tdiv, Nat.reduceLT, Int.cast_ofNat_Int, Int.reduceBEq, Int.reduceBNe, Int.reduceLT, Int.reduceLE, Int.reduceAdd, Int.reduceSub, Int.reduceMul, Int.reduceToNat, Int.reduceNeg, Int.reduceTMod, Int.reduceEq, not_false_eq_true, Int.reducePow, Int.reduceFDiv, Nat.reducePow, Nat.reduceSub, Nat.reduceMul, Nat.min_eq_left, Nat.reduceEqDiff, BEq.rfl, Int.tdiv_one, LN_succ]
    refine ⟨⟨x, hx.1, by omega⟩, Cov.go [(nid + 8, nid + 28)] [] ?_⟩
    simp [cvT, step, res, boxP2, strmC, ColsEq.refl, -List.getD_eq_getElem?_getD]
  simp only at hB hD hq ⊢
  have hW := hB.w (by omega)
  have hrl := hB.rl
  have hgl := hB.gl
  have hlen := dictV_rows hD
  have hodd := dictV_odd hD
  unfold boxP2
  refine SR.seqW (ι := {_u : Unit // 0 < R.length}) (fun _ => ⟨[(3, .ptr (nid + 12) 0), (4, .ptr (nid + 8) 0)], [(nid + 12, strmC nl A q), (nid + 8, boxP2 g0 r0 b G R)], nid + 300, nid⟩) ?_ (fun ⟨_, hR0⟩ => ?_)
  · refine SR.run (t := .mk) ?_
    simp -dsimp only [aqT, aqU, aqN, ↓seqK, ↓blkK, ↓loopK, step, stepBin, Nat.reduceBEq, Nat.reduceBeqDiff, Nat.add_assoc nid, Nat.reduceAdd, reduceCtorEq, ↓reduceIte, Nat.reduceLeDiff, Nat.reduceBneDiff, Option.toList, ← Int.ofNat_tmod, ← Int.ofNat_tdiv, Nat.reduceLT, Int.cast_ofNat_Int, Int.reduceBEq, Int.reduceBNe, Int.reduceLT, Int.reduceLE, Int.reduceAdd, Int.reduceSub, Int.reduceMul, Int.reduceToNat, Int.reduceNeg, Int.reduceTMod, Int.reduceEq, not_false_eq_true, Int.reducePow, Int.reduceFDiv, Nat.reducePow, Nat.reduceSub, Nat.reduceMul, Nat.min_eq_left, Nat.reduceEqDiff, BEq.rfl, Int.tdiv_one, LN_succ]
    refine S2.intro (fun h1 => ?_) (fun h1 => ?_) <;> simp -dsimp only [aqT, aqU, aqN, ↓seqK, ↓blkK, ↓loopK, step, stepBin, Nat.reduceBEq, Nat.reduceBeqDiff, Nat.add_assoc nid, Nat.reduceAdd, reduceCtorEq, ↓reduceIte, Nat.reduceLeDiff, Nat.reduceBneDiff, Option.toList, ← Int.ofNat_tmod, ← Int.ofNat_tdiv, Nat.reduceLT, Int.cast_ofNat_Int, Int.reduceBEq, Int.reduceBNe, Int.reduceLT, Int.reduceLE, Int.reduceAdd, Int.reduceSub, Int.reduceMul, Int.reduceToNat, Int.reduceNeg, Int.reduceTMod, Int.reduceEq, not_false_eq_true, Int.reducePow, Int.reduceFDiv, Nat.reducePow, Nat.reduceSub, Nat.reduceMul, Nat.min_eq_left, Nat.reduceEqDiff, BEq.rfl, Int.tdiv_one, LN_succ]
    · refine CallO.pure (ready_c _) ?_
      simp -dsimp only [aqT, aqU, aqN, ↓seqK, ↓blkK, ↓loopK, step, stepBin, Nat.reduceBEq, Nat.reduceBeqDiff, Nat.add_assoc nid, Nat.reduceAdd, reduceCtorEq, ↓reduceIte, Nat.reduceLeDiff, Nat.reduceBneDiff, Option.toList, ← Int.ofNat_tmod, ← Int.ofNat_tdiv, Nat.reduceLT, Int.cast_ofNat_Int, Int.reduceBEq, Int.reduceBNe, Int.reduceLT, Int.reduceLE, Int.reduceAdd, Int.reduceSub, Int.reduceMul, Int.reduceToNat, Int.reduceNeg, Int.reduceTMod, Int.reduceEq, not_false_eq_true, Int.reducePow, Int.reduceFDiv, Nat.reducePow, Nat.reduceSub, Nat.reduceMul, Nat.min_eq_left, Nat.reduceEqDiff, BEq.rfl, Int.tdiv_one, LN_succ]
      refine RetOK.pure (.inl rfl) rfl ?_
      simp [cvT, step, res]
    · refine ⟨⟨(), ?_⟩, Cov.go [] [] ?_⟩
      · have : R ≠ [] := by simpa using h1
        exact List.length_pos_iff.2 this
      · simp [cvT, step, res, boxP2, strmC, ColsEq.refl, -List.getD_eq_getElem?_getD]
  unfold boxP2
  refine SR.seqW (ι := {I : Nat // I < R.length}) (fun I => ⟨[(3, .ptr (nid + 12) 0), (4, .ptr (nid + 8) 0), (5, .ptr (nid + 4) 0)], [(nid + 12, strmC nl A (q + 1)), (nid + 8, boxP2 g0 r0 b G R), (nid + 4, boxRw (rowF R I.1) (b I.1) (rowR R I.1))], nid + 400, nid⟩) ?_ (fun ⟨I, hI⟩ => ?_)
  · refine SR.run (t := .mk) ?_
    simp -dsimp only [aqT, aqU, aqN, ↓seqK, ↓blkK, ↓loopK, step, stepBin, Nat.reduceBEq, Nat.reduceBeqDiff, Nat.add_assoc nid, Nat.reduceAdd, reduceCtorEq, ↓reduceIte, Nat.reduceLeDiff, Nat.reduceBneDiff, Option.toList, ← Int.ofNat_tmod, ← Int.ofNat_tdiv, Nat.reduceLT, Int.cast_ofNat_Int, Int.reduceBEq, Int.reduceBNe, Int.reduceLT, Int.reduceLE, Int.reduceAdd, Int.reduceSub, Int.reduceMul, Int.reduceToNat, Int.reduceNeg, Int.reduceTMod, Int.reduceEq, not_false_eq_true, Int.reducePow, Int.reduceFDiv, Nat.reducePow, Nat.reduceSub, Nat.reduceMul, Nat.min_eq_left, Nat.reduceEqDiff, BEq.rfl, Int.tdiv_one, LN_succ]
    have hnd := nextV_bd A q (n := (R.length : Nat)) (by omega)
    obtain ⟨I, hI⟩ : ∃ I : Nat, nextV A q ((R.length : Nat) : Int) = I := ⟨_, (Int.toNat_of_nonneg hnd.1).symm⟩
    refine CallX.on (next_c (nid + 12) _ nl A q _ (by omega) (by omega) hA (by omega)) (subH_get (by simp only [aqT, aqU, aqN, ↓seqK, ↓blkK, ↓loopK, step, stepBin, Nat.reduceBEq, Nat.reduceBeqDiff, Nat.add_assoc nid, Nat.reduceAdd, reduceCtorEq, ↓reduceIte, Nat.reduceLeDiff, Nat.reduceBneDiff, Option.toList, ← Int.ofNat_tmod, ← Int.ofNat_tdiv, Nat.reduceLT, Int.cast_ofNat_Int, Int.reduceBEq, Int.reduceBNe, Int.reduceLT, Int.reduceLE, Int.reduceAdd, Int.reduceSub, Int.reduceMul, Int.reduceToNat, Int.reduceNeg, Int.reduceTMod, Int.reduceEq, not_false_eq_true, Int.reducePow, Int.reduceFDiv, Nat.reducePow, Nat.reduceSub, Nat.reduceMul, Nat.min_eq_left, Nat.reduceEqDiff, BEq.rfl, Int.tdiv_one, LN_succ])) ?_
    rw [hI]
    simp -dsimp only [aqT, aqU, aqN, ↓seqK, ↓blkK, ↓loopK, step, stepBin, Nat.reduceBEq, Nat.reduceBeqDiff, Nat.add_assoc nid, Nat.reduceAdd, reduceCtorEq, ↓reduceIte, Nat.reduceLeDiff, Nat.reduceBneDiff, Option.toList, ← Int.ofNat_tmod, ← Int.ofNat_tdiv, Nat.reduceLT, Int.cast_ofNat_Int, Int.reduceBEq, Int.reduceBNe, Int.reduceLT, Int.reduceLE, Int.reduceAdd, Int.reduceSub, Int.reduceMul, Int.reduceToNat, Int.reduceNeg, Int.reduceTMod, Int.reduceEq, not_false_eq_true, Int.reducePow, Int.reduceFDiv, Nat.reducePow, Nat.reduceSub, Nat.reduceMul, Nat.min_eq_left, Nat.reduceEqDiff, BEq.rfl, Int.tdiv_one, LN_succ, strmC_low]
    refine ⟨⟨by omega, by omega⟩, ⟨I, by omega⟩, Cov.go [(nid + 4, nid + 336)] [] ?_⟩
    simp [cvT, step, res, boxP2, boxRw, strmC, ColsEq.refl, -List.getD_eq_getElem?_getD]
  simp only
  refine SR.seq ?_
  simp -dsimp only [aqT, aqU, aqN, ↓seqK, ↓blkK, ↓loopK, step, stepBin, Nat.reduceBEq, Nat.reduceBeqDiff, Nat.add_assoc nid, Nat.reduceAdd, reduceCtorEq, ↓reduceIte, Nat.reduceLeDiff, Nat.reduceBneDiff, Option.toList, ← Int.ofNat_tmod, ← Int.ofNat_tdiv, Nat.reduceLT, Int.cast_ofNat_Int, Int.reduceBEq, Int.reduceBNe, Int.reduceLT, Int.reduceLE, Int.reduceAdd, Int.reduceSub, Int.reduceMul, Int.reduceToNat, Int.reduceNeg, Int.reduceTMod, Int.reduceEq, not_false_eq_true, Int.reducePow, Int.reduceFDiv, Nat.reducePow, Nat.reduceSub, Nat.reduceMul, Nat.min_eq_left, Nat.reduceEqDiff, BEq.rfl, Int.tdiv_one, LN_succ]
  unfold boxP2
  refine SR.seqTo ⟨[(3, .ptr (nid + 12) 0), (4, .ptr (nid + 8) 0), (5, .ptr (nid + 4) 0), (6, .lit true 0 []), (7, .int .i64 R.length)], [(nid + 12, strmC nl A (q + 1)), (nid + 8, boxP2 g0 r0 b G R), (nid + 4, boxRw (rowF R I) (b I) (rowR R I))], nid + 500, nid⟩ ?_ ?_
  · simp -dsimp only [aqT, aqU, aqN, ↓seqK, ↓blkK, ↓loopK, step, stepBin, Nat.reduceBEq, Nat.reduceBeqDiff, Nat.add_assoc nid, Nat.reduceAdd, reduceCtorEq, ↓reduceIte, Nat.reduceLeDiff, Nat.reduceBneDiff, Option.toList, ← Int.ofNat_tmod, ← Int.ofNat_tdiv, Nat.reduceLT, Int.cast_ofNat_Int, Int.reduceBEq, Int.reduceBNe, Int.reduceLT, Int.reduceLE, Int.reduceAdd, Int.reduceSub, Int.reduceMul, Int.reduceToNat, Int.reduceNeg, Int.reduceTMod, Int.reduceEq, not_false_eq_true, Int.reducePow, Int.reduceFDiv, Nat.reducePow, Nat.reduceSub, Nat.reduceMul, Nat.min_eq_left, Nat.reduceEqDiff, BEq.rfl, Int.tdiv_one, LN_succ]
    refine Cov.go [] [] ?_
    simp [cvT, step, res, boxP2, boxRw, strmC, ColsEq.refl, -List.getD_eq_getElem?_getD]
  have hLI := hlen I hI
  have hOI := hodd I hI
  generalize hLd : rowR R I = L at *
  generalize hFd : rowF R I = f at *
  refine SR.seqW (ι := Unit) (fun _ => ⟨[], [], nid + 5000, nid⟩) ?_ (fun _ => ?_)
  · unfold boxP2
    refine SR.seqTo ⟨[(40, .int .i64 0), (39, .int .i64 G.length), (3, .ptr (nid + 12) 0), (4, .ptr (nid + 8) 0), (5, .ptr (nid + 4) 0), (6, .lit true 0 []), (7, .int .i64 R.length)], [(nid + 12, strmC nl A (q + 1)), (nid + 8, boxP2 g0 r0 b G R), (nid + 4, boxRw f (b I) L)], nid + 600, nid⟩ ?_ ?_
    · simp -dsimp only [aqT, aqU, aqN, ↓seqK, ↓blkK, ↓loopK, step, stepBin, Nat.reduceBEq, Nat.reduceBeqDiff, Nat.add_assoc nid, Nat.reduceAdd, reduceCtorEq, ↓reduceIte, Nat.reduceLeDiff, Nat.reduceBneDiff, Option.toList, ← Int.ofNat_tmod, ← Int.ofNat_tdiv, Nat.reduceLT, Int.cast_ofNat_Int, Int.reduceBEq, Int.reduceBNe, Int.reduceLT, Int.reduceLE, Int.reduceAdd, Int.reduceSub, Int.reduceMul, Int.reduceToNat, Int.reduceNeg, Int.reduceTMod, Int.reduceEq, not_false_eq_true, Int.reducePow, Int.reduceFDiv, Nat.reducePow, Nat.reduceSub, Nat.reduceMul, Nat.min_eq_left, Nat.reduceEqDiff, BEq.rfl, Int.tdiv_one, LN_succ]
      refine Cov.go [] [] ?_
      simp [cvT, step, res, boxP2, boxRw, strmC, ColsEq.refl, -List.getD_eq_getElem?_getD]
    refine SR.block ?_
    refine SR.loopP (fun x : Nat × SeenL × Nat => x.1 ≤ G.length ∧ SeenOk G L x.2.1 x.1 ∧ (candL R x.2.1).length ≤ x.2.2 ∧ x.2.2 ≤ 7) (fun x => ⟨[(40, .int .i64 x.1), (39, .int .i64 G.length), (3, .ptr (nid + 12) 0), (4, .ptr (nid + 8) 0), (5, .ptr (nid + 4) 0), (6, .sl (nid + 16) 0 x.2.1.length), (7, .int .i64 x.2.2)], [(nid + 16, arrSn x.2.1), (nid + 12, strmC nl A (q + 1 + x.1)), (nid + 8, boxP2 g0 r0 b G R), (nid + 4, boxRw f (b I) L)], nid + 700, nid⟩) (fun x => G.length + 1 - x.1) (0, [], R.length) ⟨by simp, ⟨fun k hk => by simp at hk, fun k hk => by simp at hk, fun k hk => by simp at hk⟩, candL_len R [], hrl⟩ (Cov.go [] [(nid + 16, 2)] ?_) (fun x hx => ?_)
    · simp [cvT, step, res, boxP2, boxRw, strmC, arrSn, ColsEq.refl, -List.getD_eq_getElem?_getD]
    obtain ⟨t, S, most⟩ := x
    obtain ⟨ht, hS, hm, hm6⟩ := hx
    simp only at ht hS hm hm6 ⊢
    have hSl := hS.len
    refine SR.seq ?_
    simp -dsimp only [aqT, aqU, aqN, ↓seqK, ↓blkK, ↓loopK, step, stepBin, Nat.reduceBEq, Nat.reduceBeqDiff, Nat.add_assoc nid, Nat.reduceAdd, reduceCtorEq, ↓reduceIte, Nat.reduceLeDiff, Nat.reduceBneDiff, Option.toList, ← Int.ofNat_tmod, ← Int.ofNat_tdiv, Nat.reduceLT, Int.cast_ofNat_Int, Int.reduceBEq, Int.reduceBNe, Int.reduceLT, Int.reduceLE, Int.reduceAdd, Int.reduceSub, Int.reduceMul, Int.reduceToNat, Int.reduceNeg, Int.reduceTMod, Int.reduceEq, not_false_eq_true, Int.reducePow, Int.reduceFDiv, Nat.reducePow, Nat.reduceSub, Nat.reduceMul, Nat.min_eq_left, Nat.reduceEqDiff, BEq.rfl, Int.tdiv_one, LN_succ]
    refine SR.seq ?_
    simp -dsimp only [aqT, aqU, aqN, ↓seqK, ↓blkK, ↓loopK, step, stepBin, Nat.reduceBEq, Nat.reduceBeqDiff, Nat.add_assoc nid, Nat.reduceAdd, reduceCtorEq, ↓reduceIte, Nat.reduceLeDiff, Nat.reduceBneDiff, Option.toList, ← Int.ofNat_tmod, ← Int.ofNat_tdiv, Nat.reduceLT, Int.cast_ofNat_Int, Int.reduceBEq, Int.reduceBNe, Int.reduceLT, Int.reduceLE, Int.reduceAdd, Int.reduceSub, Int.reduceMul, Int.reduceToNat, Int.reduceNeg, Int.reduceTMod, Int.reduceEq, not_false_eq_true, Int.reducePow, Int.reduceFDiv, Nat.reducePow, Nat.reduceSub, Nat.reduceMul, Nat.min_eq_left, Nat.reduceEqDiff, BEq.rfl, Int.tdiv_one, LN_succ]
    refine S2.dec (fun h4 => ?_) (fun h4 => ?_) <;> simp -dsimp only [aqT, aqU, aqN, ↓seqK, ↓blkK, ↓loopK, step, stepBin, Nat.reduceBEq, Nat.reduceBeqDiff, Nat.add_assoc nid, Nat.reduceAdd, reduceCtorEq, ↓reduceIte, Nat.reduceLeDiff, Nat.reduceBneDiff, Option.toList, ← Int.ofNat_tmod, ← Int.ofNat_tdiv, Nat.reduceLT, Int.cast_ofNat_Int, Int.reduceBEq, Int.reduceBNe, Int.reduceLT, Int.reduceLE, Int.reduceAdd, Int.reduceSub, Int.reduceMul, Int.reduceToNat, Int.reduceNeg, Int.reduceTMod, Int.reduceEq, not_false_eq_true, Int.reducePow, Int.reduceFDiv, Nat.reducePow, Nat.reduceSub, Nat.reduceMul, Nat.min_eq_left, Nat.reduceEqDiff, BEq.rfl, Int.tdiv_one, LN_succ]
    · have htl : t < G.length := by omega
      refine SR.seqW (ι := {x : SeenL × Nat // SeenOk G L x.1 (t + 1) ∧ (candL R x.1).length ≤ x.2 ∧ x.2 ≤ 7}) (fun x => ⟨[(40, .int .i64 t), (39, .int .i64 G.length), (3, .ptr (nid + 12) 0), (4, .ptr (nid + 8) 0), (5, .ptr (nid + 4) 0), (6, .sl (nid + 16) 0 x.1.1.length), (7, .int .i64 x.1.2)], [(nid + 16, arrSn x.1.1), (nid + 12, strmC nl A (q + 1 + (t + 1))), (nid + 8, boxP2 g0 r0 b G R), (nid + 4, boxRw f (b I) L)], nid + 4000, nid⟩) ?_ (fun ⟨⟨S2, m2⟩, hS2, hm2, hm3⟩ => ?_)
      · refine SR.block ?_
        refine SR.seq ?_
        simp -dsimp only [aqT, aqU, aqN, ↓seqK, ↓blkK, ↓loopK, step, stepBin, Nat.reduceBEq, Nat.reduceBeqDiff, Nat.add_assoc nid, Nat.reduceAdd, reduceCtorEq, ↓reduceIte, Nat.reduceLeDiff, Nat.reduceBneDiff, Option.toList, ← Int.ofNat_tmod, ← Int.ofNat_tdiv, Nat.reduceLT, Int.cast_ofNat_Int, Int.reduceBEq, Int.reduceBNe, Int.reduceLT, Int.reduceLE, Int.reduceAdd, Int.reduceSub, Int.reduceMul, Int.reduceToNat, Int.reduceNeg, Int.reduceTMod, Int.reduceEq, not_false_eq_true, Int.reducePow, Int.reduceFDiv, Nat.reducePow, Nat.reduceSub, Nat.reduceMul, Nat.min_eq_left, Nat.reduceEqDiff, BEq.rfl, Int.tdiv_one, LN_succ]
        refine SR.seqW (ι := Unit) (fun _ => ⟨[(8, .int .i64 t), (40, .int .i64 t), (39, .int .i64 G.length), (3, .ptr (nid + 12) 0), (4, .ptr (nid + 8) 0), (5, .ptr (nid + 4) 0), (6, .sl (nid + 16) 0 S.length), (7, .int .i64 most)], [(nid + 16, arrSn S), (nid + 12, strmC nl A (q + 1 + (t + 1))), (nid + 8, boxP2 g0 r0 b G R), (nid + 4, boxRw f (b I) L)], nid + 900, nid⟩) ?_ (fun _ => ?_)
        · refine SR.run (t := .mk) ?_
          simp -dsimp only [aqT, aqU, aqN, ↓seqK, ↓blkK, ↓loopK, step, stepBin, Nat.reduceBEq, Nat.reduceBeqDiff, Nat.add_assoc nid, Nat.reduceAdd, reduceCtorEq, ↓reduceIte, Nat.reduceLeDiff, Nat.reduceBneDiff, Option.toList, ← Int.ofNat_tmod, ← Int.ofNat_tdiv, Nat.reduceLT, Int.cast_ofNat_Int, Int.reduceBEq, Int.reduceBNe, Int.reduceLT, Int.reduceLE, Int.reduceAdd, Int.reduceSub, Int.reduceMul, Int.reduceToNat, Int.reduceNeg, Int.reduceTMod, Int.reduceEq, not_false_eq_true, Int.reducePow, Int.reduceFDiv, Nat.reducePow, Nat.reduceSub, Nat.reduceMul, Nat.min_eq_left, Nat.reduceEqDiff, BEq.rfl, Int.tdiv_one, LN_succ]
          refine CallO.on (flip_c (nid + 12) _ nl A (q + 1 + t) 4 (by omega) (by omega) hA (by omega)) (subH_get (by simp only [aqT, aqU, aqN, ↓seqK, ↓blkK, ↓loopK, step, stepBin, Nat.reduceBEq, Nat.reduceBeqDiff, Nat.add_assoc nid, Nat.reduceAdd, reduceCtorEq, ↓reduceIte, Nat.reduceLeDiff, Nat.reduceBneDiff, Option.toList, ← Int.ofNat_tmod, ← Int.ofNat_tdiv, Nat.reduceLT, Int.cast_ofNat_Int, Int.reduceBEq, Int.reduceBNe, Int.reduceLT, Int.reduceLE, Int.reduceAdd, Int.reduceSub, Int.reduceMul, Int.reduceToNat, Int.reduceNeg, Int.reduceTMod, Int.reduceEq, not_false_eq_true, Int.reducePow, Int.reduceFDiv, Nat.reducePow, Nat.reduceSub, Nat.reduceMul, Nat.min_eq_left, Nat.reduceEqDiff, BEq.rfl, Int.tdiv_one, LN_succ])) ?_
          simp -dsimp only [aqT, aqU, aqN, ↓seqK, ↓blkK, ↓loopK, step, stepBin, Nat.reduceBEq, Nat.reduceBeqDiff, Nat.add_assoc nid, Nat.reduceAdd, reduceCtorEq, ↓reduceIte, Nat.reduceLeDiff, Nat.reduceBneDiff, Option.toList, ← Int.ofNat_tmod, ← Int.ofNat_tdiv, Nat.reduceLT, Int.cast_ofNat_Int, Int.reduceBEq, Int.reduceBNe, Int.reduceLT, Int.reduceLE, Int.reduceAdd, Int.reduceSub, Int.reduceMul, Int.reduceToNat, Int.reduceNeg, Int.reduceTMod, Int.reduceEq, not_false_eq_true, Int.reducePow, Int.reduceFDiv, Nat.reducePow, Nat.reduceSub, Nat.reduceMul, Nat.min_eq_left, Nat.reduceEqDiff, BEq.rfl, Int.tdiv_one, LN_succ]
          refine S2.intro (fun h5 => ?_) (fun h5 => ?_) <;> simp -dsimp only [aqT, aqU, aqN, ↓seqK, ↓blkK, ↓loopK, step, stepBin, Nat.reduceBEq, Nat.reduceBeqDiff, Nat.add_assoc nid, Nat.reduceAdd, reduceCtorEq, ↓reduceIte, Nat.reduceLeDiff, Nat.reduceBneDiff, Option.toList, ← Int.ofNat_tmod, ← Int.ofNat_tdiv, Nat.reduceLT, Int.cast_ofNat_Int, Int.reduceBEq, Int.reduceBNe, Int.reduceLT, Int.reduceLE, Int.reduceAdd, Int.reduceSub, Int.reduceMul, Int.reduceToNat, Int.reduceNeg, Int.reduceTMod, Int.reduceEq, not_false_eq_true, Int.reducePow, Int.reduceFDiv, Nat.reducePow, Nat.reduceSub, Nat.reduceMul, Nat.min_eq_left, Nat.reduceEqDiff, BEq.rfl, Int.tdiv_one, LN_succ]
          · refine ⟨⟨(S, most), hS.skip, hm, hm6⟩, Cov.go [] [] ?_⟩
            simp [cvT, step, res, boxP2, boxRw, strmC, arrSn, ColsEq.refl, Nat.add_assoc, -List.getD_eq_getElem?_getD]
          · refine ⟨(), Cov.go [] [] ?_⟩
            simp [cvT, step, res, boxP2, boxRw, strmC, arrSn, ColsEq.refl, Nat.add_assoc, -List.getD_eq_getElem?_getD]
        have hS1 := hS.more
        have hcl := cand_less R S ((t : Int), L.getD t [])
        have hl1 : (S ++ [((t : Int), L.getD t [])]).length = S.length + 1 := by simp
        unfold arrSn boxRw
        refine SR.seqTo ⟨[(40, .int .i64 t), (39, .int .i64 G.length), (3, .ptr (nid + 12) 0), (4, .ptr (nid + 8) 0), (5, .ptr (nid + 4) 0), (6, .sl (nid + 16) 0 (S ++ [((t : Int), L.getD t [])]).length), (7, .int .i64 most)], [(nid + 16, arrSn (S ++ [((t : Int), L.getD t [])])), (nid + 12, strmC nl A (q + 1 + (t + 1))), (nid + 8, boxP2 g0 r0 b G R), (nid + 4, boxRw f (b I) L)], nid + 1000, nid⟩ ?_ ?_
        · simp -dsimp only [aqT, aqU, aqN, ↓seqK, ↓blkK, ↓loopK, step, stepBin, Nat.reduceBEq, Nat.reduceBeqDiff, Nat.add_assoc nid, Nat.reduceAdd, reduceCtorEq, ↓reduceIte, Nat.reduceLeDiff, Nat.reduceBneDiff, Option.toList, ← Int.ofNat_tmod, ← Int.ofNat_tdiv, Nat.reduceLT, Int.cast_ofNat_Int, Int.reduceBEq, Int.reduceBNe, Int.reduceLT, Int.reduceLE, Int.reduceAdd, Int.reduceSub, Int.reduceMul, Int.reduceToNat, Int.reduceNeg, Int.reduceTMod, Int.reduceEq, not_false_eq_true, Int.reducePow, Int.reduceFDiv, Nat.reducePow, Nat.reduceSub, Nat.reduceMul, Nat.min_eq_left, Nat.reduceEqDiff, BEq.rfl, Int.tdiv_one, LN_succ]
          rw [sT_app S t (L.getD t []), sR_app S t (L.getD t [])]
          refine ⟨by omega, ⟨by omega, by omega⟩, Cov.go [(nid + 16, nid + 936)] [] ?_⟩
          rw [hl1]
          simp [cvT, step, res, boxP2, boxRw, strmC, arrSn, hl1, ColsEq.refl, -List.getD_eq_getElem?_getD, -List.length_append]
        generalize S ++ [((t : Int), L.getD t [])] = S1 at *
        have hLr : ShortRows 1000000 L := by have := (hW.rs I).2.2; rwa [hLd] at this
        have hw1 := hS1.w (by omega) hLr (by omega)
        have hv1 : seenV G R S1 = 0 := seenV_good hD (by omega) (hS1.bad (by omega) hLI hOI)
        have hi1 : SnIn G.length S1 := fun k hk => by have := hS1.i k hk; omega
        have hmem : f ∈ candL R S1 := by rw [← hFd]; exact cand_mem hI (by rw [hLd]; exact hS1.cons)
        have hnear := near_all (R := R) (S := S1) (fun e => by rw [e] at hmem; simp at hmem)
        have hc := fun nl m => candidates_c g0 r0 b G R nl S1 m hW hw1 hD hv1 hi1
        have hn := fun nl m => nearest_c g0 r0 b G R nl S1 m hW hw1 hD hv1 hi1
        rw [hnear] at hn
        unfold dictP litSn at hc hn
        have hc6 : (candL R S1).length ≤ most := by omega
        generalize hcd : candL R S1 = c at *
        unfold boxP2 arrSn
        refine SR.seqTo ⟨[(9, .sl (nid + 24) 0 c.length), (11, .int .i64 0), (40, .int .i64 t), (39, .int .i64 G.length), (3, .ptr (nid + 12) 0), (4, .ptr (nid + 8) 0), (5, .ptr (nid + 4) 0), (6, .sl (nid + 16) 0 S1.length), (7, .int .i64 most)], [(nid + 24, arrS c), (nid + 16, arrSn S1), (nid + 12, strmC nl A (q + 1 + (t + 1))), (nid + 8, boxP2 g0 r0 b G R), (nid + 4, boxRw f (b I) L)], nid + 1200, nid⟩ ?_ ?_
        · simp -dsimp only [aqT, aqU, aqN, ↓seqK, ↓blkK, ↓loopK, step, stepBin, Nat.reduceBEq, Nat.reduceBeqDiff, Nat.add_assoc nid, Nat.reduceAdd, reduceCtorEq, ↓reduceIte, Nat.reduceLeDiff, Nat.reduceBneDiff, Option.toList, ← Int.ofNat_tmod, ← Int.ofNat_tdiv, Nat.reduceLT, Int.cast_ofNat_Int, Int.reduceBEq, Int.reduceBNe, Int.reduceLT, Int.reduceLE, Int.reduceAdd, Int.reduceSub, Int.reduceMul, Int.reduceToNat, Int.reduceNeg, Int.reduceTMod, Int.reduceEq, not_false_eq_true, Int.reducePow, Int.reduceFDiv, Nat.reducePow, Nat.reduceSub, Nat.reduceMul, Nat.min_eq_left, Nat.reduceEqDiff, BEq.rfl, Int.tdiv_one, LN_succ]
          refine CallO.lent [nid + 16] (fun nl' => by
            simp only [lends, lend, noOs, aqT, aqU, aqN, ↓seqK, ↓blkK, ↓loopK, step, stepBin, Nat.reduceBEq, Nat.reduceBeqDiff, Nat.add_assoc nid, Nat.reduceAdd, reduceCtorEq, ↓reduceIte, Nat.reduceLeDiff, Nat.reduceBneDiff, Option.toList, ← Int.ofNat_tmod, ← Int.ofNat_tdiv, Nat.reduceLT, Int.cast_ofNat_Int, Int.reduceBEq, Int.reduceBNe, Int.reduceLT, Int.reduceLE, Int.reduceAdd, Int.reduceSub, Int.reduceMul, Int.reduceToNat, Int.reduceNeg, Int.reduceTMod, Int.reduceEq, not_false_eq_true, Int.reducePow, Int.reduceFDiv, Nat.reducePow, Nat.reduceSub, Nat.reduceMul, Nat.min_eq_left, Nat.reduceEqDiff, BEq.rfl, Int.tdiv_one, LN_succ]
            exact hc _ _) rfl rfl (by simp only [List.mem_singleton, forall_eq, aqT, aqU, aqN, ↓seqK, ↓blkK, ↓loopK, step, stepBin, Nat.reduceBEq, Nat.reduceBeqDiff, Nat.add_assoc nid, Nat.reduceAdd, reduceCtorEq, ↓reduceIte, Nat.reduceLeDiff, Nat.reduceBneDiff, Option.toList, ← Int.ofNat_tmod, ← Int.ofNat_tdiv, Nat.reduceLT, Int.cast_ofNat_Int, Int.reduceBEq, Int.reduceBNe, Int.reduceLT, Int.reduceLE, Int.reduceAdd, Int.reduceSub, Int.reduceMul, Int.reduceToNat, Int.reduceNeg, Int.reduceTMod, Int.reduceEq, not_false_eq_true, Int.reducePow, Int.reduceFDiv, Nat.reducePow, Nat.reduceSub, Nat.reduceMul, Nat.min_eq_left, Nat.reduceEqDiff, BEq.rfl, Int.tdiv_one, LN_succ]) ?_
          simp -dsimp only [aqT, aqU, aqN, ↓seqK, ↓blkK, ↓loopK, step, stepBin, Nat.reduceBEq, Nat.reduceBeqDiff, Nat.add_assoc nid, Nat.reduceAdd, reduceCtorEq, ↓reduceIte, Nat.reduceLeDiff, Nat.reduceBneDiff, Option.toList, ← Int.ofNat_tmod, ← Int.ofNat_tdiv, Nat.reduceLT, Int.cast_ofNat_Int, Int.reduceBEq, Int.reduceBNe, Int.reduceLT, Int.reduceLE, Int.reduceAdd, Int.reduceSub, Int.reduceMul, Int.reduceToNat, Int.reduceNeg, Int.reduceTMod, Int.reduceEq, not_false_eq_true, Int.reducePow, Int.reduceFDiv, Nat.reducePow, Nat.reduceSub, Nat.reduceMul, Nat.min_eq_left, Nat.reduceEqDiff, BEq.rfl, Int.tdiv_one, LN_succ]
          refine Cov.go [(nid + 24, nid + 1008)] [] ?_
          simp [cvT, step, res, boxP2, boxRw, strmC, arrS, arrSn, ColsEq.refl, -List.getD_eq_getElem?_getD]
        unfold boxP2 arrSn
        refine SR.seqTo ⟨[(12, .sl (nid + 28) 0 c.length), (13, .int .i64 0), (14, .int .i64 0), (9, .sl (nid + 24) 0 c.length), (11, .int .i64 0), (40, .int .i64 t), (39, .int .i64 G.length), (3, .ptr (nid + 12) 0), (4, .ptr (nid + 8) 0), (5, .ptr (nid + 4) 0), (6, .sl (nid + 16) 0 S1.length), (7, .int .i64 most)], [(nid + 28, arrS c), (nid + 24, arrS c), (nid + 16, arrSn S1), (nid + 12, strmC nl A (q + 1 + (t + 1))), (nid + 8, boxP2 g0 r0 b G R), (nid + 4, boxRw f (b I) L)], nid + 1400, nid⟩ ?_ ?_
        · simp -dsimp only [aqT, aqU, aqN, ↓seqK, ↓blkK, ↓loopK, step, stepBin, Nat.reduceBEq, Nat.reduceBeqDiff, Nat.add_assoc nid, Nat.reduceAdd, reduceCtorEq, ↓reduceIte, Nat.reduceLeDiff, Nat.reduceBneDiff, Option.toList, ← Int.ofNat_tmod, ← Int.ofNat_tdiv, Nat.reduceLT, Int.cast_ofNat_Int, Int.reduceBEq, Int.reduceBNe, Int.reduceLT, Int.reduceLE, Int.reduceAdd, Int.reduceSub, Int.reduceMul, Int.reduceToNat, Int.reduceNeg, Int.reduceTMod, Int.reduceEq, not_false_eq_true, Int.reducePow, Int.reduceFDiv, Nat.reducePow, Nat.reduceSub, Nat.reduceMul, Nat.min_eq_left, Nat.reduceEqDiff, BEq.rfl, Int.tdiv_one, LN_succ]
          refine CallO.lent [nid + 16] (fun nl' => by
            simp only [lends, lend, noOs, aqT, aqU, aqN, ↓seqK, ↓blkK, ↓loopK, step, stepBin, Nat.reduceBEq, Nat.reduceBeqDiff, Nat.add_assoc nid, Nat.reduceAdd, reduceCtorEq, ↓reduceIte, Nat.reduceLeDiff, Nat.reduceBneDiff, Option.toList, ← Int.ofNat_tmod, ← Int.ofNat_tdiv, Nat.reduceLT, Int.cast_ofNat_Int, Int.reduceBEq, Int.reduceBNe, Int.reduceLT, Int.reduceLE, Int.reduceAdd, Int.reduceSub, Int.reduceMul, Int.reduceToNat, Int.reduceNeg, Int.reduceTMod, Int.reduceEq, not_false_eq_true, Int.reducePow, Int.reduceFDiv, Nat.reducePow, Nat.reduceSub, Nat.reduceMul, Nat.min_eq_left, Nat.reduceEqDiff, BEq.rfl, Int.tdiv_one, LN_succ]
            exact hn _ _) rfl rfl (by simp only [List.mem_singleton, forall_eq, aqT, aqU, aqN, ↓seqK, ↓blkK, ↓loopK, step, stepBin, Nat.reduceBEq, Nat.reduceBeqDiff, Nat.add_assoc nid, Nat.reduceAdd, reduceCtorEq, ↓reduceIte, Nat.reduceLeDiff, Nat.reduceBneDiff, Option.toList, ← Int.ofNat_tmod, ← Int.ofNat_tdiv, Nat.reduceLT, Int.cast_ofNat_Int, Int.reduceBEq, Int.reduceBNe, Int.reduceLT, Int.reduceLE, Int.reduceAdd, Int.reduceSub, Int.reduceMul, Int.reduceToNat, Int.reduceNeg, Int.reduceTMod, Int.reduceEq, not_false_eq_true, Int.reducePow, Int.reduceFDiv, Nat.reducePow, Nat.reduceSub, Nat.reduceMul, Nat.min_eq_left, Nat.reduceEqDiff, BEq.rfl, Int.tdiv_one, LN_succ]) ?_
          simp -dsimp only [aqT, aqU, aqN, ↓seqK, ↓blkK, ↓loopK, step, stepBin, Nat.reduceBEq, Nat.reduceBeqDiff, Nat.add_assoc nid, Nat.reduceAdd, reduceCtorEq, ↓reduceIte, Nat.reduceLeDiff, Nat.reduceBneDiff, Option.toList, ← Int.ofNat_tmod, ← Int.ofNat_tdiv, Nat.reduceLT, Int.cast_ofNat_Int, Int.reduceBEq, Int.reduceBNe, Int.reduceLT, Int.reduceLE, Int.reduceAdd, Int.reduceSub, Int.reduceMul, Int.reduceToNat, Int.reduceNeg, Int.reduceTMod, Int.reduceEq, not_false_eq_true, Int.reducePow, Int.reduceFDiv, Nat.reducePow, Nat.reduceSub, Nat.reduceMul, Nat.min_eq_left, Nat.reduceEqDiff, BEq.rfl, Int.tdiv_one, LN_succ]
          refine Cov.go [(nid + 28, nid + 1208)] [] ?_
          simp [cvT, step, res, boxP2, boxRw, strmC, arrS, arrSn, ColsEq.refl, -List.getD_eq_getElem?_getD]
        unfold arrS boxP2 boxRw arrSn
        refine SR.freezeB [nid + 28, nid + 24] (fun n2 => ?_)
        simp only [frzS, frzH, frzBlk, lends, lend, kill, strmC, noOs, aqT, aqU, aqN, ↓seqK, ↓blkK, ↓loopK, step, stepBin, Nat.reduceBEq, Nat.reduceBeqDiff, Nat.add_assoc nid, Nat.reduceAdd, reduceCtorEq, ↓reduceIte, Nat.reduceLeDiff, Nat.reduceBneDiff, Option.toList, ← Int.ofNat_tmod, ← Int.ofNat_tdiv, Nat.reduceLT, Int.cast_ofNat_Int, Int.reduceBEq, Int.reduceBNe, Int.reduceLT, Int.reduceLE, Int.reduceAdd, Int.reduceSub, Int.reduceMul, Int.reduceToNat, Int.reduceNeg, Int.reduceTMod, Int.reduceEq, not_false_eq_true, Int.reducePow, Int.reduceFDiv, Nat.reducePow, Nat.reduceSub, Nat.reduceMul, Nat.min_eq_left, Nat.reduceEqDiff, BEq.rfl, Int.tdiv_one, LN_succ]
        generalize n2 (nid + 28) = na
        generalize n2 (nid + 24) = nb
        have hcc := fun m => containsS_c nb c f m (by omega)
        have hce : c.contains f = true := by simpa using hmem
        have heq := fun m => equalS_c na nb c c m (by omega) (by omega)
        have hee : (c == c) = true := by simp
        rw [hce] at hcc
        rw [hee] at heq
        unfold litS at hcc heq
        refine SR.seqTo ⟨[(9, .lit nb c.length [.s fun k => c.getD k []]), (40, .int .i64 t), (39, .int .i64 G.length), (3, .ptr (nid + 12) 0), (4, .ptr (nid + 8) 0), (5, .ptr (nid + 4) 0), (6, .sl (nid + 16) 0 S1.length)], [(nid + 16, arrSn S1), (nid + 12, strmC nl A (q + 1 + (t + 1))), (nid + 8, boxP2 g0 r0 b G R), (nid + 4, boxRw f (b I) L)], nid + 1800, nid⟩ ?_ ?_
        · simp -dsimp only [aqT, aqU, aqN, ↓seqK, ↓blkK, ↓loopK, step, stepBin, Nat.reduceBEq, Nat.reduceBeqDiff, Nat.add_assoc nid, Nat.reduceAdd, reduceCtorEq, ↓reduceIte, Nat.reduceLeDiff, Nat.reduceBneDiff, Option.toList, ← Int.ofNat_tmod, ← Int.ofNat_tdiv, Nat.reduceLT, Int.cast_ofNat_Int, Int.reduceBEq, Int.reduceBNe, Int.reduceLT, Int.reduceLE, Int.reduceAdd, Int.reduceSub, Int.reduceMul, Int.reduceToNat, Int.reduceNeg, Int.reduceTMod, Int.reduceEq, not_false_eq_true, Int.reducePow, Int.reduceFDiv, Nat.reducePow, Nat.reduceSub, Nat.reduceMul, Nat.min_eq_left, Nat.reduceEqDiff, BEq.rfl, Int.tdiv_one, LN_succ]
          refine CallO.pure (hcc _) ?_
          simp -dsimp only [aqT, aqU, aqN, ↓seqK, ↓blkK, ↓loopK, step, stepBin, Nat.reduceBEq, Nat.reduceBeqDiff, Nat.add_assoc nid, Nat.reduceAdd, reduceCtorEq, ↓reduceIte, Nat.reduceLeDiff, Nat.reduceBneDiff, Option.toList, ← Int.ofNat_tmod, ← Int.ofNat_tdiv, Nat.reduceLT, Int.cast_ofNat_Int, Int.reduceBEq, Int.reduceBNe, Int.reduceLT, Int.reduceLE, Int.reduceAdd, Int.reduceSub, Int.reduceMul, Int.reduceToNat, Int.reduceNeg, Int.reduceTMod, Int.reduceEq, not_false_eq_true, Int.reducePow, Int.reduceFDiv, Nat.reducePow, Nat.reduceSub, Nat.reduceMul, Nat.min_eq_left, Nat.reduceEqDiff, BEq.rfl, Int.tdiv_one, LN_succ]
          refine S2.dec (fun h6 => absurd h6 (by omega)) (fun h6 => ?_)
          simp -dsimp only [aqT, aqU, aqN, ↓seqK, ↓blkK, ↓loopK, step, stepBin, Nat.reduceBEq, Nat.reduceBeqDiff, Nat.add_assoc nid, Nat.reduceAdd, reduceCtorEq, ↓reduceIte, Nat.reduceLeDiff, Nat.reduceBneDiff, Option.toList, ← Int.ofNat_tmod, ← Int.ofNat_tdiv, Nat.reduceLT, Int.cast_ofNat_Int, Int.reduceBEq, Int.reduceBNe, Int.reduceLT, Int.reduceLE, Int.reduceAdd, Int.reduceSub, Int.reduceMul, Int.reduceToNat, Int.reduceNeg, Int.reduceTMod, Int.reduceEq, not_false_eq_true, Int.reducePow, Int.reduceFDiv, Nat.reducePow, Nat.reduceSub, Nat.reduceMul, Nat.min_eq_left, Nat.reduceEqDiff, BEq.rfl, Int.tdiv_one, LN_succ]
          refine CallO.pure (heq _) ?_
          simp -dsimp only [aqT, aqU, aqN, ↓seqK, ↓blkK, ↓loopK, step, stepBin, Nat.reduceBEq, Nat.reduceBeqDiff, Nat.add_assoc nid, Nat.reduceAdd, reduceCtorEq, ↓reduceIte, Nat.reduceLeDiff, Nat.reduceBneDiff, Option.toList, ← Int.ofNat_tmod, ← Int.ofNat_tdiv, Nat.reduceLT, Int.cast_ofNat_Int, Int.reduceBEq, Int.reduceBNe, Int.reduceLT, Int.reduceLE, Int.reduceAdd, Int.reduceSub, Int.reduceMul, Int.reduceToNat, Int.reduceNeg, Int.reduceTMod, Int.reduceEq, not_false_eq_true, Int.reducePow, Int.reduceFDiv, Nat.reducePow, Nat.reduceSub, Nat.reduceMul, Nat.min_eq_left, Nat.reduceEqDiff, BEq.rfl, Int.tdiv_one, LN_succ]
          refine Cov.go [] [] ?_
          simp [cvT, step, res, boxP2, boxRw, strmC, arrS, arrSn, ColsEq.refl, -List.getD_eq_getElem?_getD]
        refine SR.run (t := .mk) ?_
        simp -dsimp only [aqT, aqU, aqN, ↓seqK, ↓blkK, ↓loopK, step, stepBin, Nat.reduceBEq, Nat.reduceBeqDiff, Nat.add_assoc nid, Nat.reduceAdd, reduceCtorEq, ↓reduceIte, Nat.reduceLeDiff, Nat.reduceBneDiff, Option.toList, ← Int.ofNat_tmod, ← Int.ofNat_tdiv, Nat.reduceLT, Int.cast_ofNat_Int, Int.reduceBEq, Int.reduceBNe, Int.reduceLT, Int.reduceLE, Int.reduceAdd, Int.reduceSub, Int.reduceMul, Int.reduceToNat, Int.reduceNeg, Int.reduceTMod, Int.reduceEq, not_false_eq_true, Int.reducePow, Int.reduceFDiv, Nat.reducePow, Nat.reduceSub, Nat.reduceMul, Nat.min_eq_left, Nat.reduceEqDiff, BEq.rfl, Int.tdiv_one, LN_succ]
        refine ⟨⟨(S1, c.length), hS1, by simp only [hcd]; omega, by simp only; omega⟩, Cov.go [] [] ?_⟩
        simp [cvT, step, res, boxP2, boxRw, strmC, arrS, arrSn, ColsEq.refl, -List.getD_eq_getElem?_getD]
      · refine SR.run (t := .mk) ?_
        simp -dsimp only [aqT, aqU, aqN, ↓seqK, ↓blkK, ↓loopK, step, stepBin, Nat.reduceBEq, Nat.reduceBeqDiff, Nat.add_assoc nid, Nat.reduceAdd, reduceCtorEq, ↓reduceIte, Nat.reduceLeDiff, Nat.reduceBneDiff, Option.toList, ← Int.ofNat_tmod, ← Int.ofNat_tdiv, Nat.reduceLT, Int.cast_ofNat_Int, Int.reduceBEq, Int.reduceBNe, Int.reduceLT, Int.reduceLE, Int.reduceAdd, Int.reduceSub, Int.reduceMul, Int.reduceToNat, Int.reduceNeg, Int.reduceTMod, Int.reduceEq, not_false_eq_true, Int.reducePow, Int.reduceFDiv, Nat.reducePow, Nat.reduceSub, Nat.reduceMul, Nat.min_eq_left, Nat.reduceEqDiff, BEq.rfl, Int.tdiv_one, LN_succ]
        refine ⟨by unfold inI64; omega, (t + 1, S2, m2), ⟨⟨by simp only; omega, hS2, hm2, hm3⟩, by simp only; omega⟩, Cov.go [] [] ?_⟩
        simp [cvT, step, res, boxP2, boxRw, strmC, arrSn, ColsEq.refl, -List.getD_eq_getElem?_getD]
    · refine ⟨(), Cov.go [] [] ?_⟩
      simp [cvT, step, res]
  · refine SR.run (t := .mk) ?_
    simp -dsimp only [aqT, aqU, aqN, ↓seqK, ↓blkK, ↓loopK, step, stepBin, Nat.reduceBEq, Nat.reduceBeqDiff, Nat.add_assoc nid, Nat.reduceAdd, reduceCtorEq, ↓reduceIte, Nat.reduceLeDiff, Nat.reduceBneDiff, Option.toList, ← Int.ofNat_tmod, ← Int.ofNat_tdiv, Nat.reduceLT, Int.cast_ofNat_Int, Int.reduceBEq, Int.reduceBNe, Int.reduceLT, Int.reduceLE, Int.reduceAdd, Int.reduceSub, Int.reduceMul, Int.reduceToNat, Int.reduceNeg, Int.reduceTMod, Int.reduceEq, not_false_eq_true, Int.reducePow, Int.reduceFDiv, Nat.reducePow, Nat.reduceSub, Nat.reduceMul, Nat.min_eq_left, Nat.reduceEqDiff, BEq.rfl, Int.tdiv_one, LN_succ]
    refine CallO.pure (ready_c _) ?_
    simp -dsimp only [aqT, aqU, aqN, ↓seqK, ↓blkK, ↓loopK, step, stepBin, Nat.reduceBEq, Nat.reduceBeqDiff, Nat.add_assoc nid, Nat.reduceAdd, reduceCtorEq, ↓reduceIte, Nat.reduceLeDiff, Nat.reduceBneDiff, Option.toList, ← Int.ofNat_tmod, ← Int.ofNat_tdiv, Nat.reduceLT, Int.cast_ofNat_Int, Int.reduceBEq, Int.reduceBNe, Int.reduceLT, Int.reduceLE, Int.reduceAdd, Int.reduceSub, Int.reduceMul, Int.reduceToNat, Int.reduceNeg, Int.reduceTMod, Int.reduceEq, not_false_eq_true, Int.reducePow, Int.reduceFDiv, Nat.reducePow, Nat.reduceSub, Nat.reduceMul, Nat.min_eq_left, Nat.reduceEqDiff, BEq.rfl, Int.tdiv_one, LN_succ]
    refine RetOK.pure (.inl rfl) rfl ?_
    simp [cvT, step, res]
end Go.Proofs.YtpifoghhaohhaaaGreatDoor
namespace Go.Proofs.YtpifoghhaohhaaaGreatDoor
open Go.RowKit
theorem handed_shaped {H : Type} {enc : TypeId × Value → H} {a : Assume} {C : Checked} {os : Os} {f : FuncId} {fn : Func} {s : ChangeSpec} {conds : List PathCond} {apart fresh handsOn again : Bool} {X : World → Array Value → Prop}
    (hX : ∀ (w w' : World) (args : Array Value), w.heap = w'.heap → X w args → X w' args)
    (own : ownKnob C.prog.godebug = none) (started : os.Started) (noInit : C.prog.inits.idxOf? f = none) (hfn : C.prog.funcs[f]? = some fn)
    (witness : ∃ (w : World) (tape : Tape) (i : Input), w.os = os ∧ (w.forCall tape i).Shaped C.prog ∧ i.vars = [] ∧ Input.okWide C.prog (w.forCall tape i) .any w.heap.size f i ∧
      ((s.pre enc C.prog fn conds apart (w.forCall tape i).memory i.args ∧ X (w.forCall tape i).memory i.args) ∧ sizedMet enc C.prog fn (OpenSpec.ofChange s) apart (w.forCall tape i).memory i.args) ∧ a.holds C.prog (lone (Frame.enter C.prog f i.args .normal) [] (w.forCall tape i)))
    (contract : ∀ (W : World) (base : Nat) (args : Array Value) (ds gs : List (DataW H)) (before : List MemPlace),
      (∀ (j : Nat) t v, fn.params[j]? = some t → args[j]? = some v → Value.okWide C.prog W .any base t v) →
      DataW.Whole enc C.prog fn.params.toList s.vars apart W args.toList ds gs before →
      conds.all (PathCond.test C.prog ⟨fn.params.toList, ds, s.plain.varTypes C.prog, gs⟩) = true →
      (DataW.weightsEach C.prog (fn.params.toList ++ s.plain.varTypes C.prog) (ds ++ gs)).all (· ≤ reachBytes) = true → X W args → W.ShapedOpen C.prog →
      Calls C.prog f args W fun e W' => ∃ v, e = .returned v ∧ s.post enc C.prog fn apart fresh handsOn again W args v W') :
    ReturnsInHanded a C os f .any (fun w args => (s.pre enc C.prog fn conds apart w args ∧ X w args) ∧ sizedMet enc C.prog fn (OpenSpec.ofChange s) apart w args) (s.post enc C.prog fn apart fresh handsOn again) := by
  refine returnsInHanded_of_calls own started noInit witness ?_
  intro w tape i _ hsh _ hok hpre _
  obtain ⟨_, _, _, fn', hfn', _, _, _, _, hval⟩ := hok
  have e : fn' = fn := Option.some.inj (hfn'.symm.trans hfn)
  subst e
  obtain ⟨⟨⟨ds, gs, before, hw, hc⟩, hx⟩, hz⟩ := hpre
  have hw' := DataW.Whole.of_heap (w' := w.forCall tape i) (by rfl) hw
  refine (contract (w.forCall tape i) w.heap.size i.args ds gs before hval hw' hc (hz.weights hw) (hX _ _ _ (by rfl) hx) hsh).mono fun e W' ⟨v, he, hp⟩ => ?_
  subst he
  exact ChangeSpec.post_blind hp
theorem gok_cell {W : World} {g : Nat} {m : Int} (h : W.cell? ⟨g, 0, none⟩ = some (.int .i64 m)) : g < W.heap.size ∧ ∃ o, W.heap[g]? = some o ∧ cell0 o = some (.int .i64 m) := by
  unfold World.cell? at h
  simp only at h
  split at h
  · rename_i c t f hc
    refine ⟨?_, _, hc, ?_⟩
    · rcases Nat.lt_or_ge g W.heap.size with hl | hl
      · exact hl
      · rw [Array.getElem?_eq_none hl] at hc; cases hc
    · simpa [cell0] using h
  · cases h
set_option maxRecDepth 1000000 in
theorem gok0_of {W : World} (h : W.ShapedOpen Tryz.prog) : GOK0 (fun b => W.heap[b]?) W.heap.size := by
  obtain ⟨m, hm⟩ := cell_of_shapedOpen_int (g := 1) (t := 3) (zero := #[.int .i64 0]) (k := .i64) h (of_decide_eq_true (by kernel_rfl)) (by kernel_rfl) rfl (by kernel_rfl) (by kernel_rfl) Tryz.underlying3
  obtain ⟨h1, o, h2, h3⟩ := gok_cell hm
  exact ⟨o, m, h1, h2, h3⟩
theorem gok_of {W : World} (h : W.ShapedOpen Tryz.prog) : GOK (fun b => W.heap[b]?) W.heap.size := gok0_of h
end Go.Proofs.YtpifoghhaohhaaaGreatDoor
namespace Go.Proofs.YtpifoghhaohhaaaGreatDoor
open Go.ChangeShapes Go.WideShapes Go.ChangeAt Go.RowKit
def cellsD : Nat → DataW Unit → List Value
  | 0, _ => []
  | n + 1, .agg l => l.flatMap (cellsD n)
  | _ + 1, .lit (.int k z) => [.int k z]
  | _ + 1, _ => []
noncomputable def laidWorld (os : Os) : World :=
  let w0 := World.holding Tryz.prog os ⟨#[], #[], []⟩
  let put (h : Array Obj) (g : Nat) (cs : List Value) : Array Obj := h.modify g fun
    | .cells _ t frozen => .cells cs.toArray t frozen
    | o => o
  { w0 with heap := put (put (put (put (put (w0.heap) ((Tryz.prog.globalNamed "unicode/utf8.acceptRanges").getD 0) (cellsD 9 Rows.laid_unicode_utf8_acceptRanges)) ((Tryz.prog.globalNamed "unicode/utf8.first").getD 0) (cellsD 9 Rows.laid_unicode_utf8_first)) ((Tryz.prog.globalNamed "math/bits.deBruijn32tab").getD 0) (cellsD 9 Rows.laid_math_bits_deBruijn32tab)) ((Tryz.prog.globalNamed "math/bits.deBruijn64tab").getD 0) (cellsD 9 Rows.laid_math_bits_deBruijn64tab)) ((Tryz.prog.globalNamed "internal/strconv.uint64pow10").getD 0) (cellsD 9 Rows.laid_internal_strconv_uint64pow10) }
set_option maxRecDepth 1000000 in
theorem theFaultIsCandidate_met (os : Os) (args : Array Value) : laidMetH Tryz.prog Rows.theFaultIsCandidateRow.laid ((laidWorld os).forCall (fun _ _ => 0) ⟨#[], args, []⟩).memory := by
  show laidMet Tryz.prog Rows.theFaultIsCandidateRow.laid _
  exact laidMet_of_run' 10 (by kernel_rfl) (by kernel_rfl)
theorem theFaultIsCandidate_own : ownKnob Tryz.prog.godebug = none := by kernel_rfl
theorem theFaultIsCandidate_laidOut : laidOutB Tryz.prog = true := by kernel_rfl
theorem theFaultIsCandidate_cells : Tryz.prog.cellsOf 3 = 1 := by kernel_rfl
theorem theFaultIsCandidate_bytes : Tryz.prog.bytesOf 3 = 8 := by kernel_rfl
set_option maxRecDepth 100000 in
theorem theFaultIsCandidate_block {W : World} {base : Nat} {a0 : Option Addr} {len cap : Nat} (h : Value.okWide Tryz.prog W .any base 22 (.slice a0 len cap)) : ∀ a, a0 = some a → a.block < W.heap.size := by
  intro a e
  subst e
  simp only [Value.okWide, Tryz.underlying22, Cell.okWide, Cell.ok] at h
  obtain ⟨_, _, _, _, row, cells, hs, _⟩ := h
  rcases Nat.lt_or_ge a.block W.heap.size with hl | hl
  · exact hl
  · have hn : W.heap[a.block]? = none := Array.getElem?_eq_none hl
    simp [World.shape?, hn] at hs
set_option maxRecDepth 100000 in
theorem theFaultIsCandidate_lifted (os : Os) (started : os.Started) (H : Type) (enc : TypeId × Value → H) :
    ReturnsInHanded {} Tryz.checked os 5 .any (fun w args => (Rows.theFaultIsCandidateSpec.pre enc Tryz.prog Tryz.f5 Rows.theFaultIsCandidateRow.domain false w args ∧ laidMetH Tryz.prog Rows.theFaultIsCandidateRow.laid w) ∧ sizedMet enc Tryz.prog Tryz.f5 (OpenSpec.ofChange Rows.theFaultIsCandidateSpec) false w args)
      (Rows.theFaultIsCandidateSpec.post enc Tryz.prog Tryz.f5 false true false false) := by
  refine handed_shaped (C := Tryz.checked) (X := fun w _ => laidMetH Tryz.prog Rows.theFaultIsCandidateRow.laid w) (fun _ _ _ hh h => h.of_heap hh) theFaultIsCandidate_own started (by kernel_rfl) Tryz.func5
    (ChangeSpec.witness_at (enc := enc) (C := Tryz.checked) (os := os) (X := fun w _ => laidMetH Tryz.prog Rows.theFaultIsCandidateRow.laid w) false (laidWorld os) #[.slice none 0 0] 8 rfl (by kernel_rfl) (by kernel_rfl) (by kernel_rfl) (by kernel_rfl) (by kernel_rfl) (theFaultIsCandidate_met os _)) ?_
  intro W base args ds gs before hval0 hW hcnd hsz0 _ hsh
  have hsz : (DataW.weightsEach Tryz.prog (Tryz.f5.params.toList ++ Rows.theFaultIsCandidateSpec.plain.varTypes Tryz.prog) (ds ++ gs)).all (· ≤ reachBytes) = true := hsz0
  clear hsz0
  have hval : ∀ (j : Nat) t v, Tryz.f5.params[j]? = some t → args[j]? = some v → Value.okWide Tryz.prog W .any base t v := hval0
  have hW' := hW
  obtain ⟨p, q, hA0, hV, rfl, hfz, hnd⟩ := hW
  have hA : DataW.TrodAll enc Tryz.prog W 0 (fun _ => true) true Tryz.f5.params.toList args.toList ds p := hA0
  rw [Tryz.params5] at hA hval hsz
  obtain ⟨v0, vs0, d0, ds0, p0, q0, hargs, rfl, rfl, h0, r0⟩ := trodAll_cons hA
  obtain ⟨rfl, rfl, rfl⟩ := trodAll_nil r0
  obtain rfl : args = #[v0] := by cases args; simp_all
  obtain ⟨rfl, rfl⟩ := trodVars_none hV
  obtain ⟨a0, len0, cap0, rfl⟩ := okWide_slice Tryz.underlying22 (hval 0 22 v0 rfl rfl)
  have k0 := h0
  have lt0 : ∀ x ∈ p0, x.block < W.heap.size := by obtain ⟨m, hm⟩ := k0; exact DataW.trod_lt m _ _ _ hm
  obtain ⟨L, rfl, hr, hblk, hwf, hlen, hcap, hle⟩ : ∃ L : List Int, len0 = L.length ∧ RowV W a0 (ints L) ∧ (∀ a, a0 = some a → a.block < W.heap.size) ∧ Within (-9223372036854775808) 9223372036854775807 L ∧ L.length ≤ 17592186044415 ∧ (a0 = none → cap0 = 0) ∧ L.length ≤ cap0 := by
    obtain ⟨fuel, hf⟩ := h0
    rcases open_ints Tryz.underlying22 Tryz.underlying3 theFaultIsCandidate_cells hf with ⟨hcs, _⟩ | ⟨x, l, c, zs, hcs, _, hl, hm, hz, hx, hcell, hwz⟩
    · simp [Value.cells] at hcs
      obtain ⟨rfl, rfl, rfl⟩ := hcs
      exact ⟨[], rfl, (fun k u hu => by simp [ints] at hu), (fun a e => by cases e), (fun y hy => by cases hy), by simp, fun _ => rfl, by simp⟩
    · simp [Value.cells] at hcs
      obtain ⟨rfl, rfl, rfl⟩ := hcs
      simp only [Prod.mk.injEq] at hx
      obtain ⟨rfl, rfl⟩ := hx
      simp only [if_true] at hz
      have hreach : len0 * 8 ≤ 140737488351232 := by
        have := sized_slice hsz (j := 0) (t := 22) (e := 3) rfl rfl Tryz.underlying22
        rw [theFaultIsCandidate_bytes] at this
        simp only [lits, List.length_map, List.length_take, List.length_drop, reachBytes] at this
        omega
      have hll : (zs.take len0).length = len0 := by rw [List.length_take]; omega
      refine ⟨zs.take len0, hll.symm, ?_, ?_, ?_, by omega, (fun e => by cases e), by omega⟩
      · intro k u hu
        obtain ⟨b, off, spot⟩ := x
        have hk : k < len0 := by
          have := (List.getElem?_eq_some_iff.1 hu).1
          simp only [ints, List.length_map] at this
          omega
        have hspot : spot = none := by simpa [Addr.add] using World.cell?_spot (hcell 0 (by omega))
        subst hspot
        refine ⟨b, off, rfl, ?_⟩
        have hc := hcell k (by omega)
        simp only [ints, List.getElem?_map, List.getElem?_take, hk, if_true] at hu
        have hkz : k < zs.length := by omega
        rw [List.getElem?_eq_getElem hkz] at hu
        simp only [Option.map_some, Option.some.injEq] at hu
        subst hu
        rw [List.getD_eq_getElem?_getD, List.getElem?_eq_getElem hkz] at hc
        have e : (⟨b, off, none⟩ : Addr).add k = ⟨b, off + k, none⟩ := by unfold Addr.add; split <;> simp_all
        rw [e] at hc
        simpa using hc
      · exact theFaultIsCandidate_block (hval 0 22 _ rfl rfl)
      · intro y hy
        have h1 : IntKind.i64.min = -9223372036854775808 := rfl
        have h2 : IntKind.i64.max = 9223372036854775807 := rfl
        have := hwz y (List.mem_of_mem_take hy)
        simp [Lit.wf, h1, h2] at this
        omega
  clear hA0 hval0
  refine (calls_of_acall Tryz.func5 (by kernel_rfl) (by kernel_rfl) hr hcap hle (gok_of hsh) (fun nl nid => theFaultIsCandidate_c nl L nid (by omega))).mono fun e W' ⟨he, bel⟩ => ?_
  subst he
  exact ⟨_, rfl, _, _, _, [], _, [], hW', trodAll_mk1 (shut_bool Tryz.underlying4 _), (trodAll_cons_mk (Below.trod theFaultIsCandidate_laidOut (by kernel_rfl) (of_decide_eq_true (by kernel_rfl)) k0 bel lt0) trodAll_mk0), rfl, bel.frame _, fun h => by cases h⟩
end Go.Proofs.YtpifoghhaohhaaaGreatDoor
namespace Go.Proofs.YtpifoghhaohhaaaGreatDoor
open Go.ChangeShapes Go.WideShapes Go.ChangeAt Go.RowKit
theorem theFaultIsCandidate_f_laidOut : laidOutB Tryz.pinned.checked.prog = true := by kernel_rfl
theorem theFaultIsCandidate_f_mapsRowed : mapsRowed Tryz.pinned.checked.prog = true := by kernel_rfl
theorem theFaultIsCandidate_f_inPlace : (Rows.theFaultIsCandidateRow.inPlace == Tryz.pinned.checked.prog.inPlace 5) = true := by kernel_rfl
theorem theFaultIsCandidate_f_unfollowed : (Rows.theFaultIsCandidateRow.unfollowed == Tryz.pinned.checked.prog.unfollowed 5) = true := by kernel_rfl
theorem theFaultIsCandidate_f_recurses : (Rows.theFaultIsCandidateRow.recurses == Tryz.pinned.checked.prog.recurses 5) = true := by kernel_rfl
theorem theFaultIsCandidate_f_named : (Rows.theFaultIsCandidateRow.named == Tryz.pinned.checked.prog.varsNamed 5) = true := by kernel_rfl
theorem theFaultIsCandidate_f_plainKeys : (Rows.theFaultIsCandidateRow.plainKeys == Tryz.pinned.checked.prog.plainKeys) = true := by kernel_rfl
theorem theFaultIsCandidate_f_heard : Tryz.pinned.checked.prog.stopsHeard = true := by kernel_rfl
theorem theFaultIsCandidate_f_enter : Tryz.pinned.checked.prog.mayEnter = true := by kernel_rfl
theorem theFaultIsCandidate_closed : joinedFacts Tryz.pinned.checked.prog 5 Tryz.f5 Rows.theFaultIsCandidateSpec Rows.theFaultIsCandidateRow = true := by
  unfold joinedFacts
  rw [theFaultIsCandidate_f_laidOut, theFaultIsCandidate_f_mapsRowed, theFaultIsCandidate_f_inPlace, theFaultIsCandidate_f_unfollowed, theFaultIsCandidate_f_recurses, theFaultIsCandidate_f_named, theFaultIsCandidate_f_plainKeys, theFaultIsCandidate_f_heard, theFaultIsCandidate_f_enter]
  kernel_rfl
theorem theFaultIsCandidate_over : Rows.theFaultIsCandidateRow.holds Tryz.pinned (OpenSpec.ofChange Rows.theFaultIsCandidateSpec) :=
  OpenClaim.holds_of_wide 5 Tryz.f5 rfl rfl rfl rfl rfl rfl rfl ⟨rfl, rfl, rfl, rfl, rfl⟩ rfl rfl rfl rfl rfl (by kernel_rfl) Tryz.func5 theFaultIsCandidate_closed
    (of_decide_eq_true (by kernel_rfl)) (by unfold Func.isWrapper; first | (rw [if_pos (by decide +kernel)]; kernel_rfl) | (rw [if_neg (by decide +kernel)]; exact ⟨rfl, rfl⟩))
    (fun os started H enc _ => theFaultIsCandidate_lifted os started H enc)
end Go.Proofs.YtpifoghhaohhaaaGreatDoor
