/-
  The lines of a dictionary handed on by the program, by the abstract machine.
-/
import Derived.Test.YtpifoghhaohhaaaGreatDoorKDK6
import Derived.Test.YtpifoghhaohhaaaGreatDoorKDK4
import Derived.Test.YtpifoghhaohhaaaGreatDoorKDK3
import Derived.Test.YtpifoghhaohhaaaGreatDoorProg
import Derived.Test.YtpifoghhaohhaaaGreatDoorChecked
import Derived.Handed
import Derived.HandedShaped
import Derived.Shelf.Vars
import Derived.KernelRfl
import Derived.Test.YtpifoghhaohhaaaGreatDoorRows
import Derived.Test.YtpifoghhaohhaaaGreatDoorCards
import Derived.Test.YtpifoghhaohhaaaGreatDoorTie
import Derived.ChangeSame
import Derived.ChangeVars
import Derived.JoinedOf
import Derived.LaidLaws
import Derived.LaidHandle
import Derived.PinnedBridge
import Derived.SevenTiedAt
import Derived.WalkKit
import Derived.ProofKit
import Derived.OpenShut
import Derived.SizedLaws
import Derived.ChangeOld
import Derived.Below
set_option linter.unusedVariables false
set_option linter.unusedSimpArgs false
set_option maxRecDepth 100000
namespace Go.Proofs.YtpifoghhaohhaaaGreatDoor
open Go.RowKit Go.Shelf Go.Lib
def rdU (s nid : Nat) (ok : Bool) (L : List (List UInt8)) : Heap := bif ok then [(s, boxQ nid L), (s + 4, cntD L.length), (nid, arrQr (dR L))] else [(s, none), (s + 4, none)]
def rdH (s oa : Nat) (L : List (List UInt8)) : Nat → Heap
  | 0 => [(s, boxQ0), (s + 4, cntD 0)]
  | k + 1 => [(s, boxQ oa (L.take (k + 1))), (s + 4, cntD (k + 1)), (oa, arrQr (dR (L.take (k + 1))))]
theorem rdH_succ (s oa : Nat) (L : List (List UInt8)) (k : Nat) : rdH s oa L (k + 1) = [(s, boxQ oa (L.take (k + 1))), (s + 4, cntD (k + 1)), (oa, arrQr (dR (L.take (k + 1))))] := rfl
theorem eachD_nil (s nid : Nat) (hs4 : s + 4 < nid) : ACall Tryz.prog 164 [.str [], .fn 165 [.ptr (s + 4) 0, .ptr s 0]] [(s, boxQ0), (s + 4, cntD 0)] nid (.tup [.int .i64 0, .bool true]) [] := by
  have hs : s < nid := by omega
  obtain ⟨a1, a2, a3, a4, a5, a6, a7, a8, a9⟩ := id_all hs
  obtain ⟨b1, b2, b3, b4, b5, b6, b7, b8, b9⟩ := id_all hs4
  have x1 : (s == s + 4) = false := by simp
  have x2 : (s + 4 == s) = false := by simp
  have x3 : ¬ s = s + 4 := by omega
  have x4 : ¬ s + 4 = s := by omega
  refine acall_run c164 (by simp [a164]) ?_
  unfold boxQ0 cntD
  simp -dsimp only [a164, aqT, aqU, aqN, ↓seqK, ↓blkK, ↓loopK, step, stepBin, Nat.reduceBEq, Nat.reduceBeqDiff, Nat.add_assoc nid, Nat.reduceAdd, reduceCtorEq, ↓reduceIte, Nat.reduceLeDiff, Nat.reduceBneDiff, Option.toList, ← Int.ofNat_tmod, ← Int.ofNat_tdiv, Nat.reduceLT, a1, a2, a3, a4, a5, a6, a7, a8, a9, b1, b2, b3, b4, b5, b6, b7, b8, b9, x1, x2, x3, x4]
  refine CallO.pure (lines_nil _) ?_
  simp -dsimp only [aqT, aqU, aqN, ↓seqK, ↓blkK, ↓loopK, step, stepBin, Nat.reduceBEq, Nat.reduceBeqDiff, Nat.add_assoc nid, Nat.reduceAdd, reduceCtorEq, ↓reduceIte, Nat.reduceLeDiff, Nat.reduceBneDiff, Option.toList, ← Int.ofNat_tmod, ← Int.ofNat_tdiv, Nat.reduceLT, a1, a2, a3, a4, a5, a6, a7, a8, a9, b1, b2, b3, b4, b5, b6, b7, b8, b9, x1, x2, x3, x4]
  refine LP.mkP (fun k : Nat => k = 0) (fun k : Nat => ⟨[(17, .int .i64 0), (16, .int .i64 0)], [(s, boxQ0), (s + 4, cntD 0)], nid + 100, nid⟩) (fun k => 1) 0 rfl (Cov.go [] [] ?_) (fun k hk => ?_)
  · simp [cvT, step, res, a1, a2, a3, a4, a5, a6, a7, a8, a9, b1, b2, b3, b4, b5, b6, b7, b8, b9, x1, x2, x3, x4, boxQ0, cntD]
  unfold boxQ0 cntD
  simp -dsimp only [aqT, aqU, aqN, ↓seqK, ↓blkK, ↓loopK, step, stepBin, Nat.reduceBEq, Nat.reduceBeqDiff, Nat.add_assoc nid, Nat.reduceAdd, reduceCtorEq, ↓reduceIte, Nat.reduceLeDiff, Nat.reduceBneDiff, Option.toList, ← Int.ofNat_tmod, ← Int.ofNat_tdiv, Nat.reduceLT, a1, a2, a3, a4, a5, a6, a7, a8, a9, b1, b2, b3, b4, b5, b6, b7, b8, b9, x1, x2, x3, x4]
  refine S2.no (by simp) ?_
  simp -dsimp only [aqT, aqU, aqN, ↓seqK, ↓blkK, ↓loopK, step, stepBin, Nat.reduceBEq, Nat.reduceBeqDiff, Nat.add_assoc nid, Nat.reduceAdd, reduceCtorEq, ↓reduceIte, Nat.reduceLeDiff, Nat.reduceBneDiff, Option.toList, ← Int.ofNat_tmod, ← Int.ofNat_tdiv, Nat.reduceLT, a1, a2, a3, a4, a5, a6, a7, a8, a9, b1, b2, b3, b4, b5, b6, b7, b8, b9, x1, x2, x3, x4]
  refine RetOK.go [] [] (.inl rfl) ?_
  simp [a164, cvT, step, res, a1, a2, a3, a4, a5, a6, a7, a8, a9, b1, b2, b3, b4, b5, b6, b7, b8, b9, x1, x2, x3, x4]
set_option maxHeartbeats 8000000 in
theorem eachD_c (s : Nat) (t : List UInt8) (nid : Nat) (hs4 : s + 4 < nid) (ht : t.length ≤ 1000000) (h0 : t ≠ []) :
    ACall Tryz.prog 164 [.str t, .fn 165 [.ptr (s + 4) 0, .ptr s 0]] [(s, boxQ0), (s + 4, cntD 0)] nid (.tup [.int .i64 (eachW lnOk t).1, .bool (eachW lnOk t).2]) (rdU s nid (eachW lnOk t).2 (spl t).1) := by
  have hs : s < nid := by omega
  obtain ⟨a1, a2, a3, a4, a5, a6, a7, a8, a9⟩ := id_all hs
  obtain ⟨b1, b2, b3, b4, b5, b6, b7, b8, b9⟩ := id_all hs4
  have x1 : (s == s + 4) = false := by simp
  have x2 : (s + 4 == s) = false := by simp
  have x3 : ¬ s = s + 4 := by omega
  have x4 : ¬ s + 4 = s := by omega
  have hsl := spl_len t
  have hm := hsl.1
  have hsh : ShortRows 1000000 (spl t).1 := fun r hr => by have := hsl.2 r hr; omega
  have hbp := body_pieces h0
  have htl := spl_tail t h0
  have hLn : (spl t).2 = [] → (spl t).1 ≠ [] := fun h e => by
    have := lines_spl t h
    rw [e] at this
    exact h0 this.symm
  refine acall_run c164 (by simp [a164]) ?_
  unfold boxQ0 cntD
  simp -dsimp only [a164, aqT, aqU, aqN, ↓seqK, ↓blkK, ↓loopK, step, stepBin, Nat.reduceBEq, Nat.reduceBeqDiff, Nat.add_assoc nid, Nat.reduceAdd, reduceCtorEq, ↓reduceIte, Nat.reduceLeDiff, Nat.reduceBneDiff, Option.toList, ← Int.ofNat_tmod, ← Int.ofNat_tdiv, Nat.reduceLT, a1, a2, a3, a4, a5, a6, a7, a8, a9, b1, b2, b3, b4, b5, b6, b7, b8, b9, x1, x2, x3, x4]
  refine CallO.pure (lines_c t _ h0 (by omega)) ?_
  obtain ⟨E, hE⟩ : ∃ E : Bool, (t.getLast? == some 10) = E := ⟨_, rfl⟩
  have hE2 : E = true ↔ (spl t).2 = [] := by rw [htl, ← hE]; simp
  have hP : pieces (bodyV t) = (spl t).1 ++ (if E = true then [] else [(spl t).2]) := by
    rw [hbp, ← hE]
    cases h : (t.getLast? == some 10)
    · have : ¬ t.getLast? = some 10 := by simpa using h
      rw [if_neg this]; rfl
    · have : t.getLast? = some 10 := by simpa using h
      rw [if_pos this]; simp
  rw [hE]
  have hat : ∀ k, k < (spl t).1.length → (pieces (bodyV t)).getD k [] = (spl t).1.getD k [] := fun k hk => by rw [hP, getD_app_lt _ _ _ hk]
  have hlen : (pieces (bodyV t)).length = (spl t).1.length + (if E = true then 0 else 1) := by
    rw [hP, List.length_append]
    cases E <;> rfl
  generalize pieces (bodyV t) = P at hat hlen ⊢
  clear hP hbp hE htl
  generalize hL : (spl t).1 = L at hat hlen hm hsh hLn ⊢
  simp -dsimp only [aqT, aqU, aqN, ↓seqK, ↓blkK, ↓loopK, step, stepBin, Nat.reduceBEq, Nat.reduceBeqDiff, Nat.add_assoc nid, Nat.reduceAdd, reduceCtorEq, ↓reduceIte, Nat.reduceLeDiff, Nat.reduceBneDiff, Option.toList, ← Int.ofNat_tmod, ← Int.ofNat_tdiv, Nat.reduceLT, a1, a2, a3, a4, a5, a6, a7, a8, a9, b1, b2, b3, b4, b5, b6, b7, b8, b9, x1, x2, x3, x4]
  refine LP.mkP (fun k : Nat => k ≤ L.length ∧ ∀ j, j < k → lnOk j (L.getD j []) = true) (fun k : Nat => ⟨[(17, .int .i64 k), (16, .int .i64 P.length), (15, .lit false P.length [.s fun i => P.getD i []]), (6, .lit false P.length [.s fun i => P.getD i []]), (7, .bool E), (1, .fn 165 [.ptr (s + 4) 0, .ptr s 0])], rdH s (nid + 8) L k, nid + 100, nid⟩) (fun k => L.length + 1 - k) 0 ⟨by omega, fun j hj => by omega⟩ (Cov.go [] [] ?_) (fun k hk => ?_)
  · simp [cvT, step, res, a1, a2, a3, a4, a5, a6, a7, a8, a9, b1, b2, b3, b4, b5, b6, b7, b8, b9, x1, x2, x3, x4, rdH, boxQ0, cntD]
  obtain ⟨hk, hg⟩ := hk
  simp -dsimp only [aqT, aqU, aqN, ↓seqK, ↓blkK, ↓loopK, step, stepBin, Nat.reduceBEq, Nat.reduceBeqDiff, Nat.add_assoc nid, Nat.reduceAdd, reduceCtorEq, ↓reduceIte, Nat.reduceLeDiff, Nat.reduceBneDiff, Option.toList, ← Int.ofNat_tmod, ← Int.ofNat_tdiv, Nat.reduceLT, a1, a2, a3, a4, a5, a6, a7, a8, a9, b1, b2, b3, b4, b5, b6, b7, b8, b9, x1, x2, x3, x4]
  refine S2.dec (fun h1 => ?_) (fun h1 => ?_) <;> simp -dsimp only [aqT, aqU, aqN, ↓seqK, ↓blkK, ↓loopK, step, stepBin, Nat.reduceBEq, Nat.reduceBeqDiff, Nat.add_assoc nid, Nat.reduceAdd, reduceCtorEq, ↓reduceIte, Nat.reduceLeDiff, Nat.reduceBneDiff, Option.toList, ← Int.ofNat_tmod, ← Int.ofNat_tdiv, Nat.reduceLT, a1, a2, a3, a4, a5, a6, a7, a8, a9, b1, b2, b3, b4, b5, b6, b7, b8, b9, x1, x2, x3, x4]
  · refine ⟨by omega, ?_⟩
    cases E
    · have hpl : P.length = L.length + 1 := by simpa using hlen
      simp -dsimp only [Bool.not_true, Bool.not_false, aqT, aqU, aqN, ↓seqK, ↓blkK, ↓loopK, step, stepBin, Nat.reduceBEq, Nat.reduceBeqDiff, Nat.add_assoc nid, Nat.reduceAdd, reduceCtorEq, ↓reduceIte, Nat.reduceLeDiff, Nat.reduceBneDiff, Option.toList, ← Int.ofNat_tmod, ← Int.ofNat_tdiv, Nat.reduceLT, a1, a2, a3, a4, a5, a6, a7, a8, a9, b1, b2, b3, b4, b5, b6, b7, b8, b9, x1, x2, x3, x4]
      refine ⟨by unfold inI64; omega, S2.intro (fun h2 => ?_) (fun h2 => ?_)⟩ <;> simp -dsimp only [Bool.not_true, Bool.not_false, aqT, aqU, aqN, ↓seqK, ↓blkK, ↓loopK, step, stepBin, Nat.reduceBEq, Nat.reduceBeqDiff, Nat.add_assoc nid, Nat.reduceAdd, reduceCtorEq, ↓reduceIte, Nat.reduceLeDiff, Nat.reduceBneDiff, Option.toList, ← Int.ofNat_tmod, ← Int.ofNat_tdiv, Nat.reduceLT, a1, a2, a3, a4, a5, a6, a7, a8, a9, b1, b2, b3, b4, b5, b6, b7, b8, b9, x1, x2, x3, x4]
      · have hkL : k = L.length := by have : (k : Int) = (P.length : Int) - 1 := by simpa using h2
                                      omega
        have hne : (spl t).2 ≠ [] := fun e => by have := hE2.2 e; cases this
        have q1 : eachW lnOk t = (L.length, false) := by rw [← hL]; exact eachW_open hne (by rw [hL]; intro j hj; exact hg j (by omega))
        rw [q1, ← hkL]
        rcases k with _ | k
        · unfold rdH
          refine RetOK.go [] [] (.inl rfl) ?_
          simp [a164, cvT, step, res, a1, a2, a3, a4, a5, a6, a7, a8, a9, b1, b2, b3, b4, b5, b6, b7, b8, b9, x1, x2, x3, x4, rdU]
        · unfold rdH
          refine RetOK.go [] [] (.inl rfl) ?_
          simp [a164, cvT, step, res, a1, a2, a3, a4, a5, a6, a7, a8, a9, b1, b2, b3, b4, b5, b6, b7, b8, b9, x1, x2, x3, x4, rdU]
      have hkl : k < L.length := by
        have : ¬ (k : Int) = (P.length : Int) - 1 := by simpa using h2
        omega
      rw [hat k hkl]
      clear hat hlen hpl h1 h2
      have hrk := hsh.at k
      cases hgk : lnOk k (L.getD k [])
      · have q1 : eachW lnOk t = (k, false) := eachW_bad (by rw [hL]; exact hkl) (by rw [hL]; exact hg) (by rw [hL]; exact hgk)
        rw [q1]
        rcases k with _ | k
        · have hc := fun n h => rdb0_c s n (L.getD 0 []) h hrk hgk
          generalize L.getD 0 [] = line at *
          unfold rdH boxQ0 cntD at *
          simp -dsimp only [aqT, aqU, aqN, ↓seqK, ↓blkK, ↓loopK, step, stepBin, Nat.reduceBEq, Nat.reduceBeqDiff, Nat.add_assoc nid, Nat.reduceAdd, reduceCtorEq, ↓reduceIte, Nat.reduceLeDiff, Nat.reduceBneDiff, Option.toList, ← Int.ofNat_tmod, ← Int.ofNat_tdiv, Nat.reduceLT, a1, a2, a3, a4, a5, a6, a7, a8, a9, b1, b2, b3, b4, b5, b6, b7, b8, b9, x1, x2, x3, x4]
          refine CallO.on (hc _ (by omega)) (subH_cons (by simp only [aqT, aqU, aqN, ↓seqK, ↓blkK, ↓loopK, step, stepBin, Nat.reduceBEq, Nat.reduceBeqDiff, Nat.add_assoc nid, Nat.reduceAdd, reduceCtorEq, ↓reduceIte, Nat.reduceLeDiff, Nat.reduceBneDiff, Option.toList, ← Int.ofNat_tmod, ← Int.ofNat_tdiv, Nat.reduceLT, a1, a2, a3, a4, a5, a6, a7, a8, a9, b1, b2, b3, b4, b5, b6, b7, b8, b9, x1, x2, x3, x4]) (subH_get (by simp only [aqT, aqU, aqN, ↓seqK, ↓blkK, ↓loopK, step, stepBin, Nat.reduceBEq, Nat.reduceBeqDiff, Nat.add_assoc nid, Nat.reduceAdd, reduceCtorEq, ↓reduceIte, Nat.reduceLeDiff, Nat.reduceBneDiff, Option.toList, ← Int.ofNat_tmod, ← Int.ofNat_tdiv, Nat.reduceLT, a1, a2, a3, a4, a5, a6, a7, a8, a9, b1, b2, b3, b4, b5, b6, b7, b8, b9, x1, x2, x3, x4]))) ?_
          simp -dsimp only [aqT, aqU, aqN, ↓seqK, ↓blkK, ↓loopK, step, stepBin, Nat.reduceBEq, Nat.reduceBeqDiff, Nat.add_assoc nid, Nat.reduceAdd, reduceCtorEq, ↓reduceIte, Nat.reduceLeDiff, Nat.reduceBneDiff, Option.toList, ← Int.ofNat_tmod, ← Int.ofNat_tdiv, Nat.reduceLT, a1, a2, a3, a4, a5, a6, a7, a8, a9, b1, b2, b3, b4, b5, b6, b7, b8, b9, x1, x2, x3, x4, Bool.not_false, Bool.not_true]
          refine RetOK.go [] [] (.inl rfl) ?_
          simp [a164, cvT, step, res, a1, a2, a3, a4, a5, a6, a7, a8, a9, b1, b2, b3, b4, b5, b6, b7, b8, b9, x1, x2, x3, x4, rdU]
        · have hc := fun n h => rdbk_c s (nid + 8) n (L.take (k + 1)) (L.getD (k + 1) []) (by omega) h (List.ne_nil_of_length_pos (by rw [List.length_take]; omega)) (by rw [List.length_take]; omega) hrk (by rw [List.length_take, Nat.min_eq_left (by omega)]; exact hgk)
          rw [List.length_take, Nat.min_eq_left (by omega)] at hc
          generalize L.getD (k + 1) [] = line at *
          unfold rdH boxQ cntD arrQr at *
          simp -dsimp only [aqT, aqU, aqN, ↓seqK, ↓blkK, ↓loopK, step, stepBin, Nat.reduceBEq, Nat.reduceBeqDiff, Nat.add_assoc nid, Nat.reduceAdd, reduceCtorEq, ↓reduceIte, Nat.reduceLeDiff, Nat.reduceBneDiff, Option.toList, ← Int.ofNat_tmod, ← Int.ofNat_tdiv, Nat.reduceLT, a1, a2, a3, a4, a5, a6, a7, a8, a9, b1, b2, b3, b4, b5, b6, b7, b8, b9, x1, x2, x3, x4]
          refine CallO.on (hc _ (by omega)) (subH_cons (by simp only [aqT, aqU, aqN, ↓seqK, ↓blkK, ↓loopK, step, stepBin, Nat.reduceBEq, Nat.reduceBeqDiff, Nat.add_assoc nid, Nat.reduceAdd, reduceCtorEq, ↓reduceIte, Nat.reduceLeDiff, Nat.reduceBneDiff, Option.toList, ← Int.ofNat_tmod, ← Int.ofNat_tdiv, Nat.reduceLT, a1, a2, a3, a4, a5, a6, a7, a8, a9, b1, b2, b3, b4, b5, b6, b7, b8, b9, x1, x2, x3, x4]) (subH_cons (by simp only [aqT, aqU, aqN, ↓seqK, ↓blkK, ↓loopK, step, stepBin, Nat.reduceBEq, Nat.reduceBeqDiff, Nat.add_assoc nid, Nat.reduceAdd, reduceCtorEq, ↓reduceIte, Nat.reduceLeDiff, Nat.reduceBneDiff, Option.toList, ← Int.ofNat_tmod, ← Int.ofNat_tdiv, Nat.reduceLT, a1, a2, a3, a4, a5, a6, a7, a8, a9, b1, b2, b3, b4, b5, b6, b7, b8, b9, x1, x2, x3, x4]) (subH_get (by simp only [aqT, aqU, aqN, ↓seqK, ↓blkK, ↓loopK, step, stepBin, Nat.reduceBEq, Nat.reduceBeqDiff, Nat.add_assoc nid, Nat.reduceAdd, reduceCtorEq, ↓reduceIte, Nat.reduceLeDiff, Nat.reduceBneDiff, Option.toList, ← Int.ofNat_tmod, ← Int.ofNat_tdiv, Nat.reduceLT, a1, a2, a3, a4, a5, a6, a7, a8, a9, b1, b2, b3, b4, b5, b6, b7, b8, b9, x1, x2, x3, x4])))) ?_
          simp -dsimp only [aqT, aqU, aqN, ↓seqK, ↓blkK, ↓loopK, step, stepBin, Nat.reduceBEq, Nat.reduceBeqDiff, Nat.add_assoc nid, Nat.reduceAdd, reduceCtorEq, ↓reduceIte, Nat.reduceLeDiff, Nat.reduceBneDiff, Option.toList, ← Int.ofNat_tmod, ← Int.ofNat_tdiv, Nat.reduceLT, a1, a2, a3, a4, a5, a6, a7, a8, a9, b1, b2, b3, b4, b5, b6, b7, b8, b9, x1, x2, x3, x4, Bool.not_false, Bool.not_true]
          refine RetOK.go [] [] (.inl rfl) ?_
          simp [a164, cvT, step, res, a1, a2, a3, a4, a5, a6, a7, a8, a9, b1, b2, b3, b4, b5, b6, b7, b8, b9, x1, x2, x3, x4, rdU]
      · have hg1 : ∀ j, j < k + 1 → lnOk j (L.getD j []) = true := fun j hj => by
          rcases (by omega : j < k ∨ j = k) with hj | hj
          · exact hg j hj
          · rw [hj]; exact hgk
        have hsn : L.take (k + 1) = L.take k ++ [L.getD k []] := take_snoc (by rw [List.getD_eq_getElem?_getD, List.getElem?_eq_getElem hkl]; rfl)
        rcases k with _ | k
        · have hc := fun n h => rd0_c s n (L.getD 0 []) h hrk hgk
          have e1 : [L.getD 0 []] = L.take 1 := by rw [hsn]; simp
          rw [e1] at hc
          generalize L.getD 0 [] = line at *
          unfold rdH boxQ0 cntD at *
          simp -dsimp only [aqT, aqU, aqN, ↓seqK, ↓blkK, ↓loopK, step, stepBin, Nat.reduceBEq, Nat.reduceBeqDiff, Nat.add_assoc nid, Nat.reduceAdd, reduceCtorEq, ↓reduceIte, Nat.reduceLeDiff, Nat.reduceBneDiff, Option.toList, ← Int.ofNat_tmod, ← Int.ofNat_tdiv, Nat.reduceLT, a1, a2, a3, a4, a5, a6, a7, a8, a9, b1, b2, b3, b4, b5, b6, b7, b8, b9, x1, x2, x3, x4]
          refine CallO.on (hc _ (by omega)) (subH_cons (by simp only [aqT, aqU, aqN, ↓seqK, ↓blkK, ↓loopK, step, stepBin, Nat.reduceBEq, Nat.reduceBeqDiff, Nat.add_assoc nid, Nat.reduceAdd, reduceCtorEq, ↓reduceIte, Nat.reduceLeDiff, Nat.reduceBneDiff, Option.toList, ← Int.ofNat_tmod, ← Int.ofNat_tdiv, Nat.reduceLT, a1, a2, a3, a4, a5, a6, a7, a8, a9, b1, b2, b3, b4, b5, b6, b7, b8, b9, x1, x2, x3, x4]) (subH_get (by simp only [aqT, aqU, aqN, ↓seqK, ↓blkK, ↓loopK, step, stepBin, Nat.reduceBEq, Nat.reduceBeqDiff, Nat.add_assoc nid, Nat.reduceAdd, reduceCtorEq, ↓reduceIte, Nat.reduceLeDiff, Nat.reduceBneDiff, Option.toList, ← Int.ofNat_tmod, ← Int.ofNat_tdiv, Nat.reduceLT, a1, a2, a3, a4, a5, a6, a7, a8, a9, b1, b2, b3, b4, b5, b6, b7, b8, b9, x1, x2, x3, x4]))) ?_
          unfold boxQ arrQr at *
          simp -dsimp only [aqT, aqU, aqN, ↓seqK, ↓blkK, ↓loopK, step, stepBin, Nat.reduceBEq, Nat.reduceBeqDiff, Nat.add_assoc nid, Nat.reduceAdd, reduceCtorEq, ↓reduceIte, Nat.reduceLeDiff, Nat.reduceBneDiff, Option.toList, ← Int.ofNat_tmod, ← Int.ofNat_tdiv, Nat.reduceLT, a1, a2, a3, a4, a5, a6, a7, a8, a9, b1, b2, b3, b4, b5, b6, b7, b8, b9, x1, x2, x3, x4, Bool.not_false, Bool.not_true]
          refine ⟨by unfold inI64; omega, 0 + 1, ⟨⟨by omega, hg1⟩, by omega⟩, Cov.go [(nid + 8, nid + 172)] [] ?_⟩
          simp [cvT, step, res, a1, a2, a3, a4, a5, a6, a7, a8, a9, b1, b2, b3, b4, b5, b6, b7, b8, b9, x1, x2, x3, x4, boxQ, cntD, arrQr, ColsEq.refl, -List.getD_eq_getElem?_getD]
        · have hc := fun n h => rdk_c s (nid + 8) n (L.take (k + 1)) (L.getD (k + 1) []) (by omega) h (List.ne_nil_of_length_pos (by rw [List.length_take]; omega)) (by rw [List.length_take]; omega) hrk (by rw [List.length_take, Nat.min_eq_left (by omega)]; exact hgk)
          rw [← hsn, List.length_take, Nat.min_eq_left (by omega)] at hc
          generalize L.getD (k + 1) [] = line at *
          unfold rdH boxQ cntD arrQr at *
          simp -dsimp only [aqT, aqU, aqN, ↓seqK, ↓blkK, ↓loopK, step, stepBin, Nat.reduceBEq, Nat.reduceBeqDiff, Nat.add_assoc nid, Nat.reduceAdd, reduceCtorEq, ↓reduceIte, Nat.reduceLeDiff, Nat.reduceBneDiff, Option.toList, ← Int.ofNat_tmod, ← Int.ofNat_tdiv, Nat.reduceLT, a1, a2, a3, a4, a5, a6, a7, a8, a9, b1, b2, b3, b4, b5, b6, b7, b8, b9, x1, x2, x3, x4]
          refine CallO.on (hc _ (by omega)) (subH_cons (by simp only [aqT, aqU, aqN, ↓seqK, ↓blkK, ↓loopK, step, stepBin, Nat.reduceBEq, Nat.reduceBeqDiff, Nat.add_assoc nid, Nat.reduceAdd, reduceCtorEq, ↓reduceIte, Nat.reduceLeDiff, Nat.reduceBneDiff, Option.toList, ← Int.ofNat_tmod, ← Int.ofNat_tdiv, Nat.reduceLT, a1, a2, a3, a4, a5, a6, a7, a8, a9, b1, b2, b3, b4, b5, b6, b7, b8, b9, x1, x2, x3, x4]) (subH_cons (by simp only [aqT, aqU, aqN, ↓seqK, ↓blkK, ↓loopK, step, stepBin, Nat.reduceBEq, Nat.reduceBeqDiff, Nat.add_assoc nid, Nat.reduceAdd, reduceCtorEq, ↓reduceIte, Nat.reduceLeDiff, Nat.reduceBneDiff, Option.toList, ← Int.ofNat_tmod, ← Int.ofNat_tdiv, Nat.reduceLT, a1, a2, a3, a4, a5, a6, a7, a8, a9, b1, b2, b3, b4, b5, b6, b7, b8, b9, x1, x2, x3, x4]) (subH_get (by simp only [aqT, aqU, aqN, ↓seqK, ↓blkK, ↓loopK, step, stepBin, Nat.reduceBEq, Nat.reduceBeqDiff, Nat.add_assoc nid, Nat.reduceAdd, reduceCtorEq, ↓reduceIte, Nat.reduceLeDiff, Nat.reduceBneDiff, Option.toList, ← Int.ofNat_tmod, ← Int.ofNat_tdiv, Nat.reduceLT, a1, a2, a3, a4, a5, a6, a7, a8, a9, b1, b2, b3, b4, b5, b6, b7, b8, b9, x1, x2, x3, x4])))) ?_
          simp -dsimp only [aqT, aqU, aqN, ↓seqK, ↓blkK, ↓loopK, step, stepBin, Nat.reduceBEq, Nat.reduceBeqDiff, Nat.add_assoc nid, Nat.reduceAdd, reduceCtorEq, ↓reduceIte, Nat.reduceLeDiff, Nat.reduceBneDiff, Option.toList, ← Int.ofNat_tmod, ← Int.ofNat_tdiv, Nat.reduceLT, a1, a2, a3, a4, a5, a6, a7, a8, a9, b1, b2, b3, b4, b5, b6, b7, b8, b9, x1, x2, x3, x4, Bool.not_false, Bool.not_true]
          refine ⟨by unfold inI64; omega, k + 1 + 1, ⟨⟨by omega, hg1⟩, by omega⟩, Cov.go [(nid + 8, nid + 172)] [] ?_⟩
          simp [cvT, step, res, a1, a2, a3, a4, a5, a6, a7, a8, a9, b1, b2, b3, b4, b5, b6, b7, b8, b9, x1, x2, x3, x4, boxQ, cntD, arrQr, ColsEq.refl, -List.getD_eq_getElem?_getD]
    · have hpl : P.length = L.length := by simpa using hlen
      have hkl : k < L.length := by omega
      rw [hat k hkl]
      clear hat hlen hpl h1
      simp -dsimp only [Bool.not_true, Bool.not_false, aqT, aqU, aqN, ↓seqK, ↓blkK, ↓loopK, step, stepBin, Nat.reduceBEq, Nat.reduceBeqDiff, Nat.add_assoc nid, Nat.reduceAdd, reduceCtorEq, ↓reduceIte, Nat.reduceLeDiff, Nat.reduceBneDiff, Option.toList, ← Int.ofNat_tmod, ← Int.ofNat_tdiv, Nat.reduceLT, a1, a2, a3, a4, a5, a6, a7, a8, a9, b1, b2, b3, b4, b5, b6, b7, b8, b9, x1, x2, x3, x4]
      have hrk := hsh.at k
      cases hgk : lnOk k (L.getD k [])
      · have q1 : eachW lnOk t = (k, false) := eachW_bad (by rw [hL]; exact hkl) (by rw [hL]; exact hg) (by rw [hL]; exact hgk)
        rw [q1]
        rcases k with _ | k
        · have hc := fun n h => rdb0_c s n (L.getD 0 []) h hrk hgk
          generalize L.getD 0 [] = line at *
          unfold rdH boxQ0 cntD at *
          simp -dsimp only [aqT, aqU, aqN, ↓seqK, ↓blkK, ↓loopK, step, stepBin, Nat.reduceBEq, Nat.reduceBeqDiff, Nat.add_assoc nid, Nat.reduceAdd, reduceCtorEq, ↓reduceIte, Nat.reduceLeDiff, Nat.reduceBneDiff, Option.toList, ← Int.ofNat_tmod, ← Int.ofNat_tdiv, Nat.reduceLT, a1, a2, a3, a4, a5, a6, a7, a8, a9, b1, b2, b3, b4, b5, b6, b7, b8, b9, x1, x2, x3, x4]
          refine CallO.on (hc _ (by omega)) (subH_cons (by simp only [aqT, aqU, aqN, ↓seqK, ↓blkK, ↓loopK, step, stepBin, Nat.reduceBEq, Nat.reduceBeqDiff, Nat.add_assoc nid, Nat.reduceAdd, reduceCtorEq, ↓reduceIte, Nat.reduceLeDiff, Nat.reduceBneDiff, Option.toList, ← Int.ofNat_tmod, ← Int.ofNat_tdiv, Nat.reduceLT, a1, a2, a3, a4, a5, a6, a7, a8, a9, b1, b2, b3, b4, b5, b6, b7, b8, b9, x1, x2, x3, x4]) (subH_get (by simp only [aqT, aqU, aqN, ↓seqK, ↓blkK, ↓loopK, step, stepBin, Nat.reduceBEq, Nat.reduceBeqDiff, Nat.add_assoc nid, Nat.reduceAdd, reduceCtorEq, ↓reduceIte, Nat.reduceLeDiff, Nat.reduceBneDiff, Option.toList, ← Int.ofNat_tmod, ← Int.ofNat_tdiv, Nat.reduceLT, a1, a2, a3, a4, a5, a6, a7, a8, a9, b1, b2, b3, b4, b5, b6, b7, b8, b9, x1, x2, x3, x4]))) ?_
          simp -dsimp only [aqT, aqU, aqN, ↓seqK, ↓blkK, ↓loopK, step, stepBin, Nat.reduceBEq, Nat.reduceBeqDiff, Nat.add_assoc nid, Nat.reduceAdd, reduceCtorEq, ↓reduceIte, Nat.reduceLeDiff, Nat.reduceBneDiff, Option.toList, ← Int.ofNat_tmod, ← Int.ofNat_tdiv, Nat.reduceLT, a1, a2, a3, a4, a5, a6, a7, a8, a9, b1, b2, b3, b4, b5, b6, b7, b8, b9, x1, x2, x3, x4, Bool.not_false, Bool.not_true]
          refine RetOK.go [] [] (.inl rfl) ?_
          simp [a164, cvT, step, res, a1, a2, a3, a4, a5, a6, a7, a8, a9, b1, b2, b3, b4, b5, b6, b7, b8, b9, x1, x2, x3, x4, rdU]
        · have hc := fun n h => rdbk_c s (nid + 8) n (L.take (k + 1)) (L.getD (k + 1) []) (by omega) h (List.ne_nil_of_length_pos (by rw [List.length_take]; omega)) (by rw [List.length_take]; omega) hrk (by rw [List.length_take, Nat.min_eq_left (by omega)]; exact hgk)
          rw [List.length_take, Nat.min_eq_left (by omega)] at hc
          generalize L.getD (k + 1) [] = line at *
          unfold rdH boxQ cntD arrQr at *
          simp -dsimp only [aqT, aqU, aqN, ↓seqK, ↓blkK, ↓loopK, step, stepBin, Nat.reduceBEq, Nat.reduceBeqDiff, Nat.add_assoc nid, Nat.reduceAdd, reduceCtorEq, ↓reduceIte, Nat.reduceLeDiff, Nat.reduceBneDiff, Option.toList, ← Int.ofNat_tmod, ← Int.ofNat_tdiv, Nat.reduceLT, a1, a2, a3, a4, a5, a6, a7, a8, a9, b1, b2, b3, b4, b5, b6, b7, b8, b9, x1, x2, x3, x4]
          refine CallO.on (hc _ (by omega)) (subH_cons (by simp only [aqT, aqU, aqN, ↓seqK, ↓blkK, ↓loopK, step, stepBin, Nat.reduceBEq, Nat.reduceBeqDiff, Nat.add_assoc nid, Nat.reduceAdd, reduceCtorEq, ↓reduceIte, Nat.reduceLeDiff, Nat.reduceBneDiff, Option.toList, ← Int.ofNat_tmod, ← Int.ofNat_tdiv, Nat.reduceLT, a1, a2, a3, a4, a5, a6, a7, a8, a9, b1, b2, b3, b4, b5, b6, b7, b8, b9, x1, x2, x3, x4]) (subH_cons (by simp only [aqT, aqU, aqN, ↓seqK, ↓blkK, ↓loopK, step, stepBin, Nat.reduceBEq, Nat.reduceBeqDiff, Nat.add_assoc nid, Nat.reduceAdd, reduceCtorEq, ↓reduceIte, Nat.reduceLeDiff, Nat.reduceBneDiff, Option.toList, ← Int.ofNat_tmod, ← Int.ofNat_tdiv, Nat.reduceLT, a1, a2, a3, a4, a5, a6, a7, a8, a9, b1, b2, b3, b4, b5, b6, b7, b8, b9, x1, x2, x3, x4]) (subH_get (by simp only [aqT, aqU, aqN, ↓seqK, ↓blkK, ↓loopK, step, stepBin, Nat.reduceBEq, Nat.reduceBeqDiff, Nat.add_assoc nid, Nat.reduceAdd, reduceCtorEq, ↓reduceIte, Nat.reduceLeDiff, Nat.reduceBneDiff, Option.toList, ← Int.ofNat_tmod, ← Int.ofNat_tdiv, Nat.reduceLT, a1, a2, a3, a4, a5, a6, a7, a8, a9, b1, b2, b3, b4, b5, b6, b7, b8, b9, x1, x2, x3, x4])))) ?_
          simp -dsimp only [aqT, aqU, aqN, ↓seqK, ↓blkK, ↓loopK, step, stepBin, Nat.reduceBEq, Nat.reduceBeqDiff, Nat.add_assoc nid, Nat.reduceAdd, reduceCtorEq, ↓reduceIte, Nat.reduceLeDiff, Nat.reduceBneDiff, Option.toList, ← Int.ofNat_tmod, ← Int.ofNat_tdiv, Nat.reduceLT, a1, a2, a3, a4, a5, a6, a7, a8, a9, b1, b2, b3, b4, b5, b6, b7, b8, b9, x1, x2, x3, x4, Bool.not_false, Bool.not_true]
          refine RetOK.go [] [] (.inl rfl) ?_
          simp [a164, cvT, step, res, a1, a2, a3, a4, a5, a6, a7, a8, a9, b1, b2, b3, b4, b5, b6, b7, b8, b9, x1, x2, x3, x4, rdU]
      · have hg1 : ∀ j, j < k + 1 → lnOk j (L.getD j []) = true := fun j hj => by
          rcases (by omega : j < k ∨ j = k) with hj | hj
          · exact hg j hj
          · rw [hj]; exact hgk
        have hsn : L.take (k + 1) = L.take k ++ [L.getD k []] := take_snoc (by rw [List.getD_eq_getElem?_getD, List.getElem?_eq_getElem hkl]; rfl)
        rcases k with _ | k
        · have hc := fun n h => rd0_c s n (L.getD 0 []) h hrk hgk
          have e1 : [L.getD 0 []] = L.take 1 := by rw [hsn]; simp
          rw [e1] at hc
          generalize L.getD 0 [] = line at *
          unfold rdH boxQ0 cntD at *
          simp -dsimp only [aqT, aqU, aqN, ↓seqK, ↓blkK, ↓loopK, step, stepBin, Nat.reduceBEq, Nat.reduceBeqDiff, Nat.add_assoc nid, Nat.reduceAdd, reduceCtorEq, ↓reduceIte, Nat.reduceLeDiff, Nat.reduceBneDiff, Option.toList, ← Int.ofNat_tmod, ← Int.ofNat_tdiv, Nat.reduceLT, a1, a2, a3, a4, a5, a6, a7, a8, a9, b1, b2, b3, b4, b5, b6, b7, b8, b9, x1, x2, x3, x4]
          refine CallO.on (hc _ (by omega)) (subH_cons (by simp only [aqT, aqU, aqN, ↓seqK, ↓blkK, ↓loopK, step, stepBin, Nat.reduceBEq, Nat.reduceBeqDiff, Nat.add_assoc nid, Nat.reduceAdd, reduceCtorEq, ↓reduceIte, Nat.reduceLeDiff, Nat.reduceBneDiff, Option.toList, ← Int.ofNat_tmod, ← Int.ofNat_tdiv, Nat.reduceLT, a1, a2, a3, a4, a5, a6, a7, a8, a9, b1, b2, b3, b4, b5, b6, b7, b8, b9, x1, x2, x3, x4]) (subH_get (by simp only [aqT, aqU, aqN, ↓seqK, ↓blkK, ↓loopK, step, stepBin, Nat.reduceBEq, Nat.reduceBeqDiff, Nat.add_assoc nid, Nat.reduceAdd, reduceCtorEq, ↓reduceIte, Nat.reduceLeDiff, Nat.reduceBneDiff, Option.toList, ← Int.ofNat_tmod, ← Int.ofNat_tdiv, Nat.reduceLT, a1, a2, a3, a4, a5, a6, a7, a8, a9, b1, b2, b3, b4, b5, b6, b7, b8, b9, x1, x2, x3, x4]))) ?_
          unfold boxQ arrQr at *
          simp -dsimp only [aqT, aqU, aqN, ↓seqK, ↓blkK, ↓loopK, step, stepBin, Nat.reduceBEq, Nat.reduceBeqDiff, Nat.add_assoc nid, Nat.reduceAdd, reduceCtorEq, ↓reduceIte, Nat.reduceLeDiff, Nat.reduceBneDiff, Option.toList, ← Int.ofNat_tmod, ← Int.ofNat_tdiv, Nat.reduceLT, a1, a2, a3, a4, a5, a6, a7, a8, a9, b1, b2, b3, b4, b5, b6, b7, b8, b9, x1, x2, x3, x4, Bool.not_false, Bool.not_true]
          refine ⟨by unfold inI64; omega, 0 + 1, ⟨⟨by omega, hg1⟩, by omega⟩, Cov.go [(nid + 8, nid + 172)] [] ?_⟩
          simp [cvT, step, res, a1, a2, a3, a4, a5, a6, a7, a8, a9, b1, b2, b3, b4, b5, b6, b7, b8, b9, x1, x2, x3, x4, boxQ, cntD, arrQr, ColsEq.refl, -List.getD_eq_getElem?_getD]
        · have hc := fun n h => rdk_c s (nid + 8) n (L.take (k + 1)) (L.getD (k + 1) []) (by omega) h (List.ne_nil_of_length_pos (by rw [List.length_take]; omega)) (by rw [List.length_take]; omega) hrk (by rw [List.length_take, Nat.min_eq_left (by omega)]; exact hgk)
          rw [← hsn, List.length_take, Nat.min_eq_left (by omega)] at hc
          generalize L.getD (k + 1) [] = line at *
          unfold rdH boxQ cntD arrQr at *
          simp -dsimp only [aqT, aqU, aqN, ↓seqK, ↓blkK, ↓loopK, step, stepBin, Nat.reduceBEq, Nat.reduceBeqDiff, Nat.add_assoc nid, Nat.reduceAdd, reduceCtorEq, ↓reduceIte, Nat.reduceLeDiff, Nat.reduceBneDiff, Option.toList, ← Int.ofNat_tmod, ← Int.ofNat_tdiv, Nat.reduceLT, a1, a2, a3, a4, a5, a6, a7, a8, a9, b1, b2, b3, b4, b5, b6, b7, b8, b9, x1, x2, x3, x4]
          refine CallO.on (hc _ (by omega)) (subH_cons (by simp only [aqT, aqU, aqN, ↓seqK, ↓blkK, ↓loopK, step, stepBin, Nat.reduceBEq, Nat.reduceBeqDiff, Nat.add_assoc nid, Nat.reduceAdd, reduceCtorEq, ↓reduceIte, Nat.reduceLeDiff, Nat.reduceBneDiff, Option.toList, ← Int.ofNat_tmod, ← Int.ofNat_tdiv, Nat.reduceLT, a1, a2, a3, a4, a5, a6, a7, a8, a9, b1, b2, b3, b4, b5, b6, b7, b8, b9, x1, x2, x3, x4]) (subH_cons (by simp only [aqT, aqU, aqN, ↓seqK, ↓blkK, ↓loopK, step, stepBin, Nat.reduceBEq, Nat.reduceBeqDiff, Nat.add_assoc nid, Nat.reduceAdd, reduceCtorEq, ↓reduceIte, Nat.reduceLeDiff, Nat.reduceBneDiff, Option.toList, ← Int.ofNat_tmod, ← Int.ofNat_tdiv, Nat.reduceLT, a1, a2, a3, a4, a5, a6, a7, a8, a9, b1, b2, b3, b4, b5, b6, b7, b8, b9, x1, x2, x3, x4]) (subH_get (by simp only [aqT, aqU, aqN, ↓seqK, ↓blkK, ↓loopK, step, stepBin, Nat.reduceBEq, Nat.reduceBeqDiff, Nat.add_assoc nid, Nat.reduceAdd, reduceCtorEq, ↓reduceIte, Nat.reduceLeDiff, Nat.reduceBneDiff, Option.toList, ← Int.ofNat_tmod, ← Int.ofNat_tdiv, Nat.reduceLT, a1, a2, a3, a4, a5, a6, a7, a8, a9, b1, b2, b3, b4, b5, b6, b7, b8, b9, x1, x2, x3, x4])))) ?_
          simp -dsimp only [aqT, aqU, aqN, ↓seqK, ↓blkK, ↓loopK, step, stepBin, Nat.reduceBEq, Nat.reduceBeqDiff, Nat.add_assoc nid, Nat.reduceAdd, reduceCtorEq, ↓reduceIte, Nat.reduceLeDiff, Nat.reduceBneDiff, Option.toList, ← Int.ofNat_tmod, ← Int.ofNat_tdiv, Nat.reduceLT, a1, a2, a3, a4, a5, a6, a7, a8, a9, b1, b2, b3, b4, b5, b6, b7, b8, b9, x1, x2, x3, x4, Bool.not_false, Bool.not_true]
          refine ⟨by unfold inI64; omega, k + 1 + 1, ⟨⟨by omega, hg1⟩, by omega⟩, Cov.go [(nid + 8, nid + 172)] [] ?_⟩
          simp [cvT, step, res, a1, a2, a3, a4, a5, a6, a7, a8, a9, b1, b2, b3, b4, b5, b6, b7, b8, b9, x1, x2, x3, x4, boxQ, cntD, arrQr, ColsEq.refl, -List.getD_eq_getElem?_getD]
  · have hEt : E = true := by
      cases E
      · have hpl : P.length = L.length + 1 := by simpa using hlen
        omega
      · rfl
    subst hEt
    have hpl : P.length = L.length := by simpa using hlen
    have hkL : k = L.length := by omega
    have hLn := hLn (hE2.1 rfl)
    have hLp : 0 < L.length := List.length_pos_iff.2 hLn
    have q1 : eachW lnOk t = (0, true) := eachW_all (hE2.1 rfl) (by rw [hL]; intro j hj; exact hg j (by omega))
    rw [q1]
    obtain ⟨j, hj⟩ : ∃ j, L.length = j + 1 := ⟨L.length - 1, by omega⟩
    rw [hkL, hj]
    have htk : L.take (j + 1) = L := List.take_of_length_le (by omega)
    rw [rdH_succ, htk, ← hj]
    unfold rdU
    unfold boxQ cntD arrQr
    refine RetOK.go [(nid, nid + 8)] [] (.inl rfl) ?_
    simp [a164, cvT, step, res, a1, a2, a3, a4, a5, a6, a7, a8, a9, b1, b2, b3, b4, b5, b6, b7, b8, b9, x1, x2, x3, x4, ColsEq.refl, -List.getD_eq_getElem?_getD]
end Go.Proofs.YtpifoghhaohhaaaGreatDoor
namespace Go.Proofs.YtpifoghhaohhaaaGreatDoor
open Go.RowKit Go.Shelf Go.Lib
theorem wrd_drop_len (r : List UInt8) : ((wrd r).drop 1).length ≤ r.length := by
  have := (wrd_len r).1
  rw [List.length_drop]
  omega
theorem read_W {t : List UInt8} (ht : t.length ≤ 200000) : DictW (dG (spl t).1) (dR (spl t).1) := by
  have hsl := spl_len t
  have hline : ∀ r, r ∈ (spl t).1 → r.length ≤ 200000 := fun r hr => by have := hsl.2 r hr; omega
  have hget : ∀ k, ((spl t).1.getD k []).length ≤ 200000 := fun k => by
    by_cases hk : k < (spl t).1.length
    · rw [getD_lt hk]; exact hline _ (List.getElem_mem hk)
    · rw [List.getD_eq_getElem?_getD, List.getElem?_eq_none (by omega)]; simp
  have hw : ∀ r : List UInt8, r.length ≤ 200000 → ((wrd r).drop 1).length ≤ 1000000 ∧ ShortRows 1000000 ((wrd r).drop 1) := fun r hr => by
    refine ⟨by have := wrd_drop_len r; omega, fun x hx => ?_⟩
    have := (wrd_len r).2 x (List.mem_of_mem_drop hx)
    omega
  refine ⟨(hw _ (hget 0)).1, (hw _ (hget 0)).2, ?_, fun k => ?_⟩
  · unfold dR; rw [List.length_map, List.length_drop]; omega
  · by_cases hk : k < (dR (spl t).1).length
    · obtain ⟨e1, e2⟩ := row_at hk
      rw [e1, e2]
      unfold dR at hk ⊢
      rw [List.length_map] at hk
      rw [List.getElem_map]
      have hm : ((spl t).1.drop 1)[k] ∈ (spl t).1 := List.mem_of_mem_drop (List.getElem_mem hk)
      generalize ((spl t).1.drop 1)[k] = r at *
      have hr := hline r hm
      refine ⟨?_, (hw r hr).1, (hw r hr).2⟩
      show ((wrd r).getD 0 []).length ≤ 1000000
      have hp := List.length_pos_iff.2 (wrd_ne r)
      rw [getD_lt hp]
      have := (wrd_len r).2 _ (List.getElem_mem hp)
      omega
    · rw [rowF_out hk, rowR_out hk]
      exact ⟨by simp, by simp, fun r hr => by simp at hr⟩
theorem lines_pos {t : List UInt8} (h0 : t ≠ []) (h : (spl t).2 = []) : 0 < (spl t).1.length := by
  have := lines_spl t h
  rcases Nat.eq_zero_or_pos (spl t).1.length with e | e
  · rw [List.eq_nil_of_length_eq_zero e] at this
    exact absurd this.symm h0
  · exact e
def noneD : PV := .agg [.lit true 0 [], .lit true 0 []]
set_option maxHeartbeats 4000000 in
theorem readBad_c (t : List UInt8) (nid : Nat) (hE : (readD t).2.2 ≠ 0) : ACall Tryz.prog 71 [.str t] [] nid (.tup [noneD, .int .i64 ((readD t).2.1 : Nat), .int .i64 (readD t).2.2]) [] := by
  refine acall_sr c71 (by simp [a71]) ?_
  unfold a71
  refine SR.seq ?_
  simp -dsimp only [aqT, aqU, aqN, aqS, ↓seqK, ↓blkK, ↓loopK, step, stepBin, Nat.add_assoc nid, ↓reduceIte, Option.toList, ← Int.ofNat_tmod, ← Int.ofNat_tdiv, simprocAttr, BEq.rfl, LN_succ]
  refine SR.seqW (ι := {_u : Unit // ¬ 200000 < t.length}) (fun _ => ⟨[(2, .ptr nid 0), (0, .str t)], [(nid, boxQ0)], nid + 100, nid⟩) ?_ (fun ⟨_, h1⟩ => ?_)
  · refine SR.run (t := .mk) ?_
    simp -dsimp only [aqT, aqU, aqN, aqS, ↓seqK, ↓blkK, ↓loopK, step, stepBin, Nat.add_assoc nid, ↓reduceIte, Option.toList, ← Int.ofNat_tmod, ← Int.ofNat_tdiv, simprocAttr, BEq.rfl, LN_succ]
    refine S2.dec (fun h => ?_) (fun h => ?_) <;> simp -dsimp only [aqT, aqU, aqN, aqS, ↓seqK, ↓blkK, ↓loopK, step, stepBin, Nat.add_assoc nid, ↓reduceIte, Option.toList, ← Int.ofNat_tmod, ← Int.ofNat_tdiv, simprocAttr, BEq.rfl, LN_succ]
    · have e : readD t = (([], []), 0, 2) := by unfold readD; rw [if_pos (by omega)]
      rw [e]
      refine RetOK.go [] [] (.inl rfl) ?_
      simp [a71, cvT, step, res, noneD]
    · refine ⟨⟨(), by omega⟩, Cov.go [] [] ?_⟩
      simp [cvT, step, res, boxQ0]
  unfold readD at hE ⊢
  rw [if_neg h1] at hE ⊢
  unfold boxQ0
  refine SR.seq ?_
  simp -dsimp only [aqT, aqU, aqN, aqS, ↓seqK, ↓blkK, ↓loopK, step, stepBin, Nat.add_assoc nid, ↓reduceIte, Option.toList, ← Int.ofNat_tmod, ← Int.ofNat_tdiv, simprocAttr, BEq.rfl, LN_succ]
  refine SR.seqTo ⟨[(6, .ptr (nid + 8) 0), (5, .ptr (nid + 4) 0), (2, .ptr nid 0), (0, .str t)], [(nid + 4, boxQ0), (nid + 4 + 4, cntD 0), (nid, boxQ0)], nid + 200, nid⟩ ?_ ?_
  · simp -dsimp only [aqT, aqU, aqN, aqS, ↓seqK, ↓blkK, ↓loopK, step, stepBin, Nat.add_assoc nid, ↓reduceIte, Option.toList, ← Int.ofNat_tmod, ← Int.ofNat_tdiv, simprocAttr, BEq.rfl, LN_succ]
    refine Cov.go [(nid + 4, nid + 100), (nid + 8, nid + 104)] [] ?_
    simp [cvT, step, res, boxQ0, cntD]
  by_cases h0 : t = []
  · subst h0
    rw [if_pos rfl] at hE ⊢
    have hc := fun m h => eachD_nil (nid + 4) m h
    unfold boxQ0 cntD at *
    refine SR.run (t := .mk) ?_
    simp -dsimp only [aqT, aqU, aqN, aqS, ↓seqK, ↓blkK, ↓loopK, step, stepBin, Nat.add_assoc nid, ↓reduceIte, Option.toList, ← Int.ofNat_tmod, ← Int.ofNat_tdiv, simprocAttr, BEq.rfl, LN_succ]
    refine CallO.on (hc _ (by omega)) (subH_cons (by simp only [aqT, aqU, aqN, aqS, ↓seqK, ↓blkK, ↓loopK, step, stepBin, Nat.add_assoc nid, ↓reduceIte, Option.toList, ← Int.ofNat_tmod, ← Int.ofNat_tdiv, simprocAttr, BEq.rfl, LN_succ]) (subH_get (by simp only [aqT, aqU, aqN, aqS, ↓seqK, ↓blkK, ↓loopK, step, stepBin, Nat.add_assoc nid, ↓reduceIte, Option.toList, ← Int.ofNat_tmod, ← Int.ofNat_tdiv, simprocAttr, BEq.rfl, LN_succ]))) ?_
    simp -dsimp only [aqT, aqU, aqN, aqS, ↓seqK, ↓blkK, ↓loopK, step, stepBin, Nat.add_assoc nid, ↓reduceIte, Option.toList, ← Int.ofNat_tmod, ← Int.ofNat_tdiv, simprocAttr, BEq.rfl, LN_succ, Bool.not_true, Bool.not_false]
    refine RetOK.go [] [] (.inl rfl) ?_
    simp [a71, cvT, step, res, noneD]
  rw [if_neg h0] at hE ⊢
  have hc := fun m h => eachD_c (nid + 4) t m h (by omega) h0
  have hok := fun h => eachW_ok (good := lnOk) (t := t) h
  obtain ⟨i, hi⟩ : ∃ i, (eachW lnOk t).1 = i := ⟨_, rfl⟩
  rw [hi] at hc hE ⊢
  cases hv : (eachW lnOk t).2 <;> rw [hv] at hc hE hok
  · rw [if_pos rfl] at hE ⊢
    unfold rdU boxQ0 cntD at *
    refine SR.run (t := .mk) ?_
    simp -dsimp only [aqT, aqU, aqN, aqS, ↓seqK, ↓blkK, ↓loopK, step, stepBin, Nat.add_assoc nid, ↓reduceIte, Option.toList, ← Int.ofNat_tmod, ← Int.ofNat_tdiv, simprocAttr, BEq.rfl, LN_succ]
    refine CallO.on (hc _ (by omega)) (subH_cons (by simp only [aqT, aqU, aqN, aqS, ↓seqK, ↓blkK, ↓loopK, step, stepBin, Nat.add_assoc nid, ↓reduceIte, Option.toList, ← Int.ofNat_tmod, ← Int.ofNat_tdiv, simprocAttr, BEq.rfl, LN_succ]) (subH_get (by simp only [aqT, aqU, aqN, aqS, ↓seqK, ↓blkK, ↓loopK, step, stepBin, Nat.add_assoc nid, ↓reduceIte, Option.toList, ← Int.ofNat_tmod, ← Int.ofNat_tdiv, simprocAttr, BEq.rfl, LN_succ]))) ?_
    simp -dsimp only [aqT, aqU, aqN, aqS, ↓seqK, ↓blkK, ↓loopK, step, stepBin, Nat.add_assoc nid, ↓reduceIte, Option.toList, ← Int.ofNat_tmod, ← Int.ofNat_tdiv, simprocAttr, BEq.rfl, LN_succ, Bool.not_true, Bool.not_false, cond_false]
    refine RetOK.go [] [] (.inl rfl) ?_
    simp [a71, cvT, step, res, noneD]
  · rw [if_neg (by simp)] at hE ⊢
    have hLp := lines_pos h0 (hok rfl).1
    have hW := read_W (t := t) (by omega)
    have hV : dictV (dG (spl t).1) (dR (spl t).1) ≠ 0 := fun e => by rw [if_pos e] at hE; exact hE rfl
    rw [if_neg hV]
    have hn0 : ((((spl t).1.length : Nat) : Int) == 0) = false := by rw [beq_eq_false_iff_ne]; omega
    have hd := fun nl m => dictD_c false nl noB (dG (spl t).1) (dR (spl t).1) m hW
    generalize (spl t).1 = L at *
    unfold rdU boxQ0 boxQ arrQr cntD dictP at *
    refine SR.run (t := .mk) ?_
    simp -dsimp only [aqT, aqU, aqN, aqS, ↓seqK, ↓blkK, ↓loopK, step, stepBin, Nat.add_assoc nid, ↓reduceIte, Option.toList, ← Int.ofNat_tmod, ← Int.ofNat_tdiv, simprocAttr, BEq.rfl, LN_succ]
    refine CallO.on (hc _ (by omega)) (subH_cons (by simp only [aqT, aqU, aqN, aqS, ↓seqK, ↓blkK, ↓loopK, step, stepBin, Nat.add_assoc nid, ↓reduceIte, Option.toList, ← Int.ofNat_tmod, ← Int.ofNat_tdiv, simprocAttr, BEq.rfl, LN_succ]) (subH_get (by simp only [aqT, aqU, aqN, aqS, ↓seqK, ↓blkK, ↓loopK, step, stepBin, Nat.add_assoc nid, ↓reduceIte, Option.toList, ← Int.ofNat_tmod, ← Int.ofNat_tdiv, simprocAttr, BEq.rfl, LN_succ]))) ?_
    simp -dsimp only [aqT, aqU, aqN, aqS, ↓seqK, ↓blkK, ↓loopK, step, stepBin, Nat.add_assoc nid, ↓reduceIte, Option.toList, ← Int.ofNat_tmod, ← Int.ofNat_tdiv, simprocAttr, BEq.rfl, LN_succ, Bool.not_true, Bool.not_false, cond_true, hn0]
    refine CallO.lent [nid + 208] (fun nl' => by
      simp only [lends, lend, noOs, aqT, aqU, aqN, aqS, ↓seqK, ↓blkK, ↓loopK, step, stepBin, Nat.add_assoc nid, ↓reduceIte, Option.toList, ← Int.ofNat_tmod, ← Int.ofNat_tdiv, simprocAttr, BEq.rfl, LN_succ]
      exact hd _ _) rfl rfl (by simp only [List.mem_singleton, forall_eq, aqT, aqU, aqN, aqS, ↓seqK, ↓blkK, ↓loopK, step, stepBin, Nat.add_assoc nid, ↓reduceIte, Option.toList, ← Int.ofNat_tmod, ← Int.ofNat_tdiv, simprocAttr, BEq.rfl, LN_succ]) ?_
    simp -dsimp only [aqT, aqU, aqN, aqS, ↓seqK, ↓blkK, ↓loopK, step, stepBin, Nat.add_assoc nid, ↓reduceIte, Option.toList, ← Int.ofNat_tmod, ← Int.ofNat_tdiv, simprocAttr, BEq.rfl, LN_succ]
    refine S2.yes (by simpa using hV) ?_
    simp -dsimp only [aqT, aqU, aqN, aqS, ↓seqK, ↓blkK, ↓loopK, step, stepBin, Nat.add_assoc nid, ↓reduceIte, Option.toList, ← Int.ofNat_tmod, ← Int.ofNat_tdiv, simprocAttr, BEq.rfl, LN_succ]
    refine RetOK.go [] [] (.inl rfl) ?_
    simp [a71, cvT, step, res, noneD]
set_option maxHeartbeats 4000000 in
theorem readOk_c (t : List UInt8) (G : List (List UInt8)) (R : RowL) (nid : Nat) (hE : readD t = ((G, R), 0, 0)) : ACall Tryz.prog 71 [.str t] [] nid (.tup [.agg [.lit false G.length [.s fun i => G.getD i []], .sl nid 0 R.length], .int .i64 0, .int .i64 0]) [(nid, arrQr R)] := by
  unfold readD at hE
  by_cases h1 : 200000 < t.length
  · rw [if_pos h1] at hE; cases hE
  rw [if_neg h1] at hE
  by_cases h0 : t = []
  · rw [if_pos h0] at hE; cases hE
  rw [if_neg h0] at hE
  cases hv : (eachW lnOk t).2
  · rw [hv, if_pos rfl] at hE
    have h9 : (9 : Int) = 0 := congrArg (fun x => x.2.2) hE
    omega
  rw [hv, if_neg (by simp)] at hE
  by_cases hV : dictV (dG (spl t).1) (dR (spl t).1) = 0
  case neg =>
    rw [if_neg hV] at hE
    exact absurd (congrArg (fun x => x.2.2) hE) hV
  rw [if_pos hV] at hE
  have eG : dG (spl t).1 = G := congrArg (fun x => x.1.1) hE
  have eR : dR (spl t).1 = R := congrArg (fun x => x.1.2) hE
  have hok := eachW_ok (good := lnOk) (t := t) hv
  have hLp := lines_pos h0 hok.1
  have hi : (eachW lnOk t).1 = 0 := by rw [eachW_all hok.1 hok.2]
  have hc := fun m h => eachD_c (nid + 4) t m h (by omega) h0
  rw [hv, hi] at hc
  have hW := read_W (t := t) (by omega)
  have hn0 : ((((spl t).1.length : Nat) : Int) == 0) = false := by rw [beq_eq_false_iff_ne]; omega
  have hd := fun nl m => dictD_c false nl noB (dG (spl t).1) (dR (spl t).1) m hW
  rw [hV] at hd
  generalize (spl t).1 = L at *
  refine acall_sr c71 (by simp [a71]) ?_
  unfold a71
  refine SR.seq ?_
  simp -dsimp only [aqT, aqU, aqN, aqS, ↓seqK, ↓blkK, ↓loopK, step, stepBin, Nat.add_assoc nid, ↓reduceIte, Option.toList, ← Int.ofNat_tmod, ← Int.ofNat_tdiv, simprocAttr, BEq.rfl, LN_succ]
  refine SR.seqTo ⟨[(2, .ptr nid 0), (0, .str t)], [(nid, boxQ0)], nid + 100, nid⟩ ?_ ?_
  · simp -dsimp only [aqT, aqU, aqN, aqS, ↓seqK, ↓blkK, ↓loopK, step, stepBin, Nat.add_assoc nid, ↓reduceIte, Option.toList, ← Int.ofNat_tmod, ← Int.ofNat_tdiv, simprocAttr, BEq.rfl, LN_succ]
    refine S2.no (by simp; omega) ?_
    simp -dsimp only [aqT, aqU, aqN, aqS, ↓seqK, ↓blkK, ↓loopK, step, stepBin, Nat.add_assoc nid, ↓reduceIte, Option.toList, ← Int.ofNat_tmod, ← Int.ofNat_tdiv, simprocAttr, BEq.rfl, LN_succ]
    refine Cov.go [] [] ?_
    simp [cvT, step, res, boxQ0]
  unfold boxQ0
  refine SR.seq ?_
  simp -dsimp only [aqT, aqU, aqN, aqS, ↓seqK, ↓blkK, ↓loopK, step, stepBin, Nat.add_assoc nid, ↓reduceIte, Option.toList, ← Int.ofNat_tmod, ← Int.ofNat_tdiv, simprocAttr, BEq.rfl, LN_succ]
  refine SR.seqTo ⟨[(6, .ptr (nid + 8) 0), (5, .ptr (nid + 4) 0), (2, .ptr nid 0), (0, .str t)], [(nid + 4, boxQ0), (nid + 4 + 4, cntD 0), (nid, boxQ0)], nid + 200, nid⟩ ?_ ?_
  · simp -dsimp only [aqT, aqU, aqN, aqS, ↓seqK, ↓blkK, ↓loopK, step, stepBin, Nat.add_assoc nid, ↓reduceIte, Option.toList, ← Int.ofNat_tmod, ← Int.ofNat_tdiv, simprocAttr, BEq.rfl, LN_succ]
    refine Cov.go [(nid + 4, nid + 100), (nid + 8, nid + 104)] [] ?_
    simp [cvT, step, res, boxQ0, cntD]
  unfold rdU boxQ0 boxQ arrQr cntD dictP at *
  rw [eG, eR] at hc hd
  refine SR.run (t := .mk) ?_
  simp -dsimp only [aqT, aqU, aqN, aqS, ↓seqK, ↓blkK, ↓loopK, step, stepBin, Nat.add_assoc nid, ↓reduceIte, Option.toList, ← Int.ofNat_tmod, ← Int.ofNat_tdiv, simprocAttr, BEq.rfl, LN_succ]
  refine CallO.on (hc _ (by omega)) (subH_cons (by simp only [aqT, aqU, aqN, aqS, ↓seqK, ↓blkK, ↓loopK, step, stepBin, Nat.add_assoc nid, ↓reduceIte, Option.toList, ← Int.ofNat_tmod, ← Int.ofNat_tdiv, simprocAttr, BEq.rfl, LN_succ]) (subH_get (by simp only [aqT, aqU, aqN, aqS, ↓seqK, ↓blkK, ↓loopK, step, stepBin, Nat.add_assoc nid, ↓reduceIte, Option.toList, ← Int.ofNat_tmod, ← Int.ofNat_tdiv, simprocAttr, BEq.rfl, LN_succ]))) ?_
  simp -dsimp only [aqT, aqU, aqN, aqS, ↓seqK, ↓blkK, ↓loopK, step, stepBin, Nat.add_assoc nid, ↓reduceIte, Option.toList, ← Int.ofNat_tmod, ← Int.ofNat_tdiv, simprocAttr, BEq.rfl, LN_succ, Bool.not_true, Bool.not_false, cond_true, hn0]
  refine CallO.lent [nid + 208] (fun nl' => by
    simp only [lends, lend, noOs, aqT, aqU, aqN, aqS, ↓seqK, ↓blkK, ↓loopK, step, stepBin, Nat.add_assoc nid, ↓reduceIte, Option.toList, ← Int.ofNat_tmod, ← Int.ofNat_tdiv, simprocAttr, BEq.rfl, LN_succ]
    exact hd _ _) rfl rfl (by simp only [List.mem_singleton, forall_eq, aqT, aqU, aqN, aqS, ↓seqK, ↓blkK, ↓loopK, step, stepBin, Nat.add_assoc nid, ↓reduceIte, Option.toList, ← Int.ofNat_tmod, ← Int.ofNat_tdiv, simprocAttr, BEq.rfl, LN_succ]) ?_
  simp -dsimp only [aqT, aqU, aqN, aqS, ↓seqK, ↓blkK, ↓loopK, step, stepBin, Nat.add_assoc nid, ↓reduceIte, Option.toList, ← Int.ofNat_tmod, ← Int.ofNat_tdiv, simprocAttr, BEq.rfl, LN_succ]
  refine RetOK.go [(nid, nid + 208)] [] (.inl rfl) ?_
  simp [a71, cvT, step, res, ColsEq.refl, -List.getD_eq_getElem?_getD]
end Go.Proofs.YtpifoghhaohhaaaGreatDoor
namespace Go.Proofs.YtpifoghhaohhaaaGreatDoor
open Go.RowKit Go.Shelf Go.Lib
set_option maxHeartbeats 4000000 in
theorem readRBad_c (t : List UInt8) (nid : Nat) (hE : (readD t).2.2 ≠ 0) : ACall Tryz.prog 72 [.str t] [] nid (.tup [noneD, .int .i64 ((readD t).2.1 : Nat), .int .i64 (readD t).2.2]) [] := by
  refine acall_sr c72 (by simp [a72]) ?_
  unfold a72
  refine SR.seq ?_
  simp -dsimp only [aqT, aqU, aqN, aqS, ↓seqK, ↓blkK, ↓loopK, step, stepBin, Nat.add_assoc nid, ↓reduceIte, Option.toList, ← Int.ofNat_tmod, ← Int.ofNat_tdiv, simprocAttr, BEq.rfl, LN_succ]
  refine SR.seq ?_
  simp -dsimp only [aqT, aqU, aqN, aqS, ↓seqK, ↓blkK, ↓loopK, step, stepBin, Nat.add_assoc nid, ↓reduceIte, Option.toList, ← Int.ofNat_tmod, ← Int.ofNat_tdiv, simprocAttr, BEq.rfl, LN_succ]
  refine SR.seqW (ι := {_u : Unit // ¬ 200000 < t.length}) (fun _ => ⟨[(5, .ptr (nid + 4) 0), (2, .ptr nid 0), (0, .str t)], [(nid, boxQ0), (nid + 4, boxQ0)], nid + 100, nid⟩) ?_ (fun ⟨_, h1⟩ => ?_)
  · refine SR.run (t := .mk) ?_
    simp -dsimp only [aqT, aqU, aqN, aqS, ↓seqK, ↓blkK, ↓loopK, step, stepBin, Nat.add_assoc nid, ↓reduceIte, Option.toList, ← Int.ofNat_tmod, ← Int.ofNat_tdiv, simprocAttr, BEq.rfl, LN_succ]
    refine S2.dec (fun h => ?_) (fun h => ?_) <;> simp -dsimp only [aqT, aqU, aqN, aqS, ↓seqK, ↓blkK, ↓loopK, step, stepBin, Nat.add_assoc nid, ↓reduceIte, Option.toList, ← Int.ofNat_tmod, ← Int.ofNat_tdiv, simprocAttr, BEq.rfl, LN_succ]
    · have e : readD t = (([], []), 0, 2) := by unfold readD; rw [if_pos (by omega)]
      rw [e]
      refine RetOK.go [] [] (.inl rfl) ?_
      simp [a72, cvT, step, res, noneD]
    · refine ⟨⟨(), by omega⟩, Cov.go [(nid + 4, nid + 16)] [] ?_⟩
      simp [cvT, step, res, boxQ0]
  unfold readD at hE ⊢
  rw [if_neg h1] at hE ⊢
  unfold boxQ0
  refine SR.seqW (ι := {_u : Unit // t ≠ []}) (fun _ => ⟨[(5, .ptr (nid + 4) 0), (2, .ptr nid 0), (0, .str t)], [(nid, boxQ0), (nid + 4, boxQ0)], nid + 200, nid⟩) ?_ (fun ⟨_, h0⟩ => ?_)
  · refine SR.run (t := .mk) ?_
    simp -dsimp only [aqT, aqU, aqN, aqS, ↓seqK, ↓blkK, ↓loopK, step, stepBin, Nat.add_assoc nid, ↓reduceIte, Option.toList, ← Int.ofNat_tmod, ← Int.ofNat_tdiv, simprocAttr, BEq.rfl, LN_succ]
    refine S2.intro (fun h => ?_) (fun h => ?_) <;> simp -dsimp only [aqT, aqU, aqN, aqS, ↓seqK, ↓blkK, ↓loopK, step, stepBin, Nat.add_assoc nid, ↓reduceIte, Option.toList, ← Int.ofNat_tmod, ← Int.ofNat_tdiv, simprocAttr, BEq.rfl, LN_succ]
    · have h0 : t = [] := by simpa using h
      rw [if_pos h0]
      refine RetOK.go [] [] (.inl rfl) ?_
      simp [a72, cvT, step, res, noneD]
    · refine ⟨⟨(), by simpa using h⟩, Cov.go [] [] ?_⟩
      simp [cvT, step, res, boxQ0]
  rw [if_neg h0] at hE ⊢
  unfold boxQ0
  refine SR.seq ?_
  simp -dsimp only [aqT, aqU, aqN, aqS, ↓seqK, ↓blkK, ↓loopK, step, stepBin, Nat.add_assoc nid, ↓reduceIte, Option.toList, ← Int.ofNat_tmod, ← Int.ofNat_tdiv, simprocAttr, BEq.rfl, LN_succ]
  refine SR.seqTo ⟨[(7, .ptr (nid + 12) 0), (6, .ptr (nid + 8) 0), (5, .ptr (nid + 4) 0), (2, .ptr nid 0), (0, .str t)], [(nid + 8, boxQ0), (nid + 8 + 4, cntR true), (nid, boxQ0), (nid + 4, boxQ0)], nid + 300, nid⟩ ?_ ?_
  · simp -dsimp only [aqT, aqU, aqN, aqS, ↓seqK, ↓blkK, ↓loopK, step, stepBin, Nat.add_assoc nid, ↓reduceIte, Option.toList, ← Int.ofNat_tmod, ← Int.ofNat_tdiv, simprocAttr, BEq.rfl, LN_succ]
    refine Cov.go [(nid + 8, nid + 200), (nid + 12, nid + 204)] [] ?_
    simp [cvT, step, res, boxQ0, cntR]
  have hc := fun m h => linesQ_c (nid + 8) t m h (by omega) h0
  have hok := fun h => eachW_ok (good := lnOk) (t := t) h
  obtain ⟨i, hi⟩ : ∃ i, (eachW lnOk t).1 = i := ⟨_, rfl⟩
  rw [hi] at hc hE ⊢
  cases hv : (eachW lnOk t).2 <;> rw [hv] at hc hE hok
  · rw [if_pos rfl] at hE ⊢
    unfold rrU boxQ0 cntR at *
    refine SR.run (t := .mk) ?_
    simp -dsimp only [aqT, aqU, aqN, aqS, ↓seqK, ↓blkK, ↓loopK, step, stepBin, Nat.add_assoc nid, ↓reduceIte, Option.toList, ← Int.ofNat_tmod, ← Int.ofNat_tdiv, simprocAttr, BEq.rfl, LN_succ]
    refine CallO.on (hc _ (by omega)) (subH_cons (by simp only [aqT, aqU, aqN, aqS, ↓seqK, ↓blkK, ↓loopK, step, stepBin, Nat.add_assoc nid, ↓reduceIte, Option.toList, ← Int.ofNat_tmod, ← Int.ofNat_tdiv, simprocAttr, BEq.rfl, LN_succ]) (subH_get (by simp only [aqT, aqU, aqN, aqS, ↓seqK, ↓blkK, ↓loopK, step, stepBin, Nat.add_assoc nid, ↓reduceIte, Option.toList, ← Int.ofNat_tmod, ← Int.ofNat_tdiv, simprocAttr, BEq.rfl, LN_succ]))) ?_
    simp -dsimp only [aqT, aqU, aqN, aqS, ↓seqK, ↓blkK, ↓loopK, step, stepBin, Nat.add_assoc nid, ↓reduceIte, Option.toList, ← Int.ofNat_tmod, ← Int.ofNat_tdiv, simprocAttr, BEq.rfl, LN_succ, Bool.not_true, Bool.not_false, cond_false]
    refine RetOK.go [] [] (.inl rfl) ?_
    simp [a72, cvT, step, res, noneD]
  · rw [if_neg (by simp)] at hE ⊢
    have hW := read_W (t := t) (by omega)
    have hV : dictV (dG (spl t).1) (dR (spl t).1) ≠ 0 := fun e => by rw [if_pos e] at hE; exact hE rfl
    rw [if_neg hV]
    have hd := fun nl m => dictR_c false nl noB (dG (spl t).1) (dR (spl t).1) m hW
    generalize (spl t).1 = L at *
    unfold rrU boxQ0 boxQ arrQr cntR dictP at *
    refine SR.run (t := .mk) ?_
    simp -dsimp only [aqT, aqU, aqN, aqS, ↓seqK, ↓blkK, ↓loopK, step, stepBin, Nat.add_assoc nid, ↓reduceIte, Option.toList, ← Int.ofNat_tmod, ← Int.ofNat_tdiv, simprocAttr, BEq.rfl, LN_succ]
    refine CallO.on (hc _ (by omega)) (subH_cons (by simp only [aqT, aqU, aqN, aqS, ↓seqK, ↓blkK, ↓loopK, step, stepBin, Nat.add_assoc nid, ↓reduceIte, Option.toList, ← Int.ofNat_tmod, ← Int.ofNat_tdiv, simprocAttr, BEq.rfl, LN_succ]) (subH_get (by simp only [aqT, aqU, aqN, aqS, ↓seqK, ↓blkK, ↓loopK, step, stepBin, Nat.add_assoc nid, ↓reduceIte, Option.toList, ← Int.ofNat_tmod, ← Int.ofNat_tdiv, simprocAttr, BEq.rfl, LN_succ]))) ?_
    simp -dsimp only [aqT, aqU, aqN, aqS, ↓seqK, ↓blkK, ↓loopK, step, stepBin, Nat.add_assoc nid, ↓reduceIte, Option.toList, ← Int.ofNat_tmod, ← Int.ofNat_tdiv, simprocAttr, BEq.rfl, LN_succ, Bool.not_true, Bool.not_false, cond_true]
    refine CallO.lent [nid + 308] (fun nl' => by
      simp only [lends, lend, noOs, aqT, aqU, aqN, aqS, ↓seqK, ↓blkK, ↓loopK, step, stepBin, Nat.add_assoc nid, ↓reduceIte, Option.toList, ← Int.ofNat_tmod, ← Int.ofNat_tdiv, simprocAttr, BEq.rfl, LN_succ]
      exact hd _ _) rfl rfl (by simp only [List.mem_singleton, forall_eq, aqT, aqU, aqN, aqS, ↓seqK, ↓blkK, ↓loopK, step, stepBin, Nat.add_assoc nid, ↓reduceIte, Option.toList, ← Int.ofNat_tmod, ← Int.ofNat_tdiv, simprocAttr, BEq.rfl, LN_succ]) ?_
    simp -dsimp only [aqT, aqU, aqN, aqS, ↓seqK, ↓blkK, ↓loopK, step, stepBin, Nat.add_assoc nid, ↓reduceIte, Option.toList, ← Int.ofNat_tmod, ← Int.ofNat_tdiv, simprocAttr, BEq.rfl, LN_succ]
    refine S2.yes (by simpa using hV) ?_
    simp -dsimp only [aqT, aqU, aqN, aqS, ↓seqK, ↓blkK, ↓loopK, step, stepBin, Nat.add_assoc nid, ↓reduceIte, Option.toList, ← Int.ofNat_tmod, ← Int.ofNat_tdiv, simprocAttr, BEq.rfl, LN_succ]
    refine RetOK.go [] [] (.inl rfl) ?_
    simp [a72, cvT, step, res, noneD]
set_option maxHeartbeats 4000000 in
theorem readROk_c (t : List UInt8) (G : List (List UInt8)) (R : RowL) (nid : Nat) (hE : readD t = ((G, R), 0, 0)) : ACall Tryz.prog 72 [.str t] [] nid (.tup [.agg [.lit false G.length [.s fun i => G.getD i []], .sl nid 0 R.length], .int .i64 0, .int .i64 0]) [(nid, arrQr R)] := by
  unfold readD at hE
  by_cases h1 : 200000 < t.length
  · rw [if_pos h1] at hE; cases hE
  rw [if_neg h1] at hE
  by_cases h0 : t = []
  · rw [if_pos h0] at hE; cases hE
  rw [if_neg h0] at hE
  cases hv : (eachW lnOk t).2
  · rw [hv, if_pos rfl] at hE
    have h9 : (9 : Int) = 0 := congrArg (fun x => x.2.2) hE
    omega
  rw [hv, if_neg (by simp)] at hE
  by_cases hV : dictV (dG (spl t).1) (dR (spl t).1) = 0
  case neg =>
    rw [if_neg hV] at hE
    exact absurd (congrArg (fun x => x.2.2) hE) hV
  rw [if_pos hV] at hE
  have eG : dG (spl t).1 = G := congrArg (fun x => x.1.1) hE
  have eR : dR (spl t).1 = R := congrArg (fun x => x.1.2) hE
  have hok := eachW_ok (good := lnOk) (t := t) hv
  have hi : (eachW lnOk t).1 = 0 := by rw [eachW_all hok.1 hok.2]
  have hc := fun m h => linesQ_c (nid + 8) t m h (by omega) h0
  rw [hv, hi] at hc
  have hW := read_W (t := t) (by omega)
  have hd := fun nl m => dictR_c false nl noB (dG (spl t).1) (dR (spl t).1) m hW
  rw [hV] at hd
  generalize (spl t).1 = L at *
  refine acall_sr c72 (by simp [a72]) ?_
  unfold a72
  refine SR.seq ?_
  simp -dsimp only [aqT, aqU, aqN, aqS, ↓seqK, ↓blkK, ↓loopK, step, stepBin, Nat.add_assoc nid, ↓reduceIte, Option.toList, ← Int.ofNat_tmod, ← Int.ofNat_tdiv, simprocAttr, BEq.rfl, LN_succ]
  refine SR.seq ?_
  simp -dsimp only [aqT, aqU, aqN, aqS, ↓seqK, ↓blkK, ↓loopK, step, stepBin, Nat.add_assoc nid, ↓reduceIte, Option.toList, ← Int.ofNat_tmod, ← Int.ofNat_tdiv, simprocAttr, BEq.rfl, LN_succ]
  refine SR.seqTo ⟨[(5, .ptr (nid + 4) 0), (2, .ptr nid 0), (0, .str t)], [(nid, boxQ0), (nid + 4, boxQ0)], nid + 100, nid⟩ ?_ ?_
  · simp -dsimp only [aqT, aqU, aqN, aqS, ↓seqK, ↓blkK, ↓loopK, step, stepBin, Nat.add_assoc nid, ↓reduceIte, Option.toList, ← Int.ofNat_tmod, ← Int.ofNat_tdiv, simprocAttr, BEq.rfl, LN_succ]
    refine S2.no (by simp; omega) ?_
    simp -dsimp only [aqT, aqU, aqN, aqS, ↓seqK, ↓blkK, ↓loopK, step, stepBin, Nat.add_assoc nid, ↓reduceIte, Option.toList, ← Int.ofNat_tmod, ← Int.ofNat_tdiv, simprocAttr, BEq.rfl, LN_succ]
    refine Cov.go [(nid + 4, nid + 16)] [] ?_
    simp [cvT, step, res, boxQ0]
  unfold boxQ0
  refine SR.seqTo ⟨[(5, .ptr (nid + 4) 0), (2, .ptr nid 0), (0, .str t)], [(nid, boxQ0), (nid + 4, boxQ0)], nid + 200, nid⟩ ?_ ?_
  · simp -dsimp only [aqT, aqU, aqN, aqS, ↓seqK, ↓blkK, ↓loopK, step, stepBin, Nat.add_assoc nid, ↓reduceIte, Option.toList, ← Int.ofNat_tmod, ← Int.ofNat_tdiv, simprocAttr, BEq.rfl, LN_succ]
    refine S2.no (by simpa using h0) ?_
    simp -dsimp only [aqT, aqU, aqN, aqS, ↓seqK, ↓blkK, ↓loopK, step, stepBin, Nat.add_assoc nid, ↓reduceIte, Option.toList, ← Int.ofNat_tmod, ← Int.ofNat_tdiv, simprocAttr, BEq.rfl, LN_succ]
    refine Cov.go [] [] ?_
    simp [cvT, step, res, boxQ0]
  unfold boxQ0
  refine SR.seq ?_
  simp -dsimp only [aqT, aqU, aqN, aqS, ↓seqK, ↓blkK, ↓loopK, step, stepBin, Nat.add_assoc nid, ↓reduceIte, Option.toList, ← Int.ofNat_tmod, ← Int.ofNat_tdiv, simprocAttr, BEq.rfl, LN_succ]
  refine SR.seqTo ⟨[(7, .ptr (nid + 12) 0), (6, .ptr (nid + 8) 0), (5, .ptr (nid + 4) 0), (2, .ptr nid 0), (0, .str t)], [(nid + 8, boxQ0), (nid + 8 + 4, cntR true), (nid, boxQ0), (nid + 4, boxQ0)], nid + 300, nid⟩ ?_ ?_
  · simp -dsimp only [aqT, aqU, aqN, aqS, ↓seqK, ↓blkK, ↓loopK, step, stepBin, Nat.add_assoc nid, ↓reduceIte, Option.toList, ← Int.ofNat_tmod, ← Int.ofNat_tdiv, simprocAttr, BEq.rfl, LN_succ]
    refine Cov.go [(nid + 8, nid + 200), (nid + 12, nid + 204)] [] ?_
    simp [cvT, step, res, boxQ0, cntR]
  unfold rrU boxQ0 boxQ arrQr cntR dictP at *
  rw [eG, eR] at hc hd
  refine SR.run (t := .mk) ?_
  simp -dsimp only [aqT, aqU, aqN, aqS, ↓seqK, ↓blkK, ↓loopK, step, stepBin, Nat.add_assoc nid, ↓reduceIte, Option.toList, ← Int.ofNat_tmod, ← Int.ofNat_tdiv, simprocAttr, BEq.rfl, LN_succ]
  refine CallO.on (hc _ (by omega)) (subH_cons (by simp only [aqT, aqU, aqN, aqS, ↓seqK, ↓blkK, ↓loopK, step, stepBin, Nat.add_assoc nid, ↓reduceIte, Option.toList, ← Int.ofNat_tmod, ← Int.ofNat_tdiv, simprocAttr, BEq.rfl, LN_succ]) (subH_get (by simp only [aqT, aqU, aqN, aqS, ↓seqK, ↓blkK, ↓loopK, step, stepBin, Nat.add_assoc nid, ↓reduceIte, Option.toList, ← Int.ofNat_tmod, ← Int.ofNat_tdiv, simprocAttr, BEq.rfl, LN_succ]))) ?_
  simp -dsimp only [aqT, aqU, aqN, aqS, ↓seqK, ↓blkK, ↓loopK, step, stepBin, Nat.add_assoc nid, ↓reduceIte, Option.toList, ← Int.ofNat_tmod, ← Int.ofNat_tdiv, simprocAttr, BEq.rfl, LN_succ, Bool.not_true, Bool.not_false, cond_true]
  refine CallO.lent [nid + 308] (fun nl' => by
    simp only [lends, lend, noOs, aqT, aqU, aqN, aqS, ↓seqK, ↓blkK, ↓loopK, step, stepBin, Nat.add_assoc nid, ↓reduceIte, Option.toList, ← Int.ofNat_tmod, ← Int.ofNat_tdiv, simprocAttr, BEq.rfl, LN_succ]
    exact hd _ _) rfl rfl (by simp only [List.mem_singleton, forall_eq, aqT, aqU, aqN, aqS, ↓seqK, ↓blkK, ↓loopK, step, stepBin, Nat.add_assoc nid, ↓reduceIte, Option.toList, ← Int.ofNat_tmod, ← Int.ofNat_tdiv, simprocAttr, BEq.rfl, LN_succ]) ?_
  simp -dsimp only [aqT, aqU, aqN, aqS, ↓seqK, ↓blkK, ↓loopK, step, stepBin, Nat.add_assoc nid, ↓reduceIte, Option.toList, ← Int.ofNat_tmod, ← Int.ofNat_tdiv, simprocAttr, BEq.rfl, LN_succ]
  refine RetOK.go [(nid, nid + 308)] [] (.inl rfl) ?_
  simp [a72, cvT, step, res, ColsEq.refl, -List.getD_eq_getElem?_getD]
end Go.Proofs.YtpifoghhaohhaaaGreatDoor
namespace Go.Proofs.YtpifoghhaohhaaaGreatDoor
open Go.RowKit Go.Shelf Go.Lib
theorem indexI_h (f : Nat) (caps : List PV) (Hs : Heap) (F : Nat → Bool) (nl : Bool) (n : Nat) (G : Nat → Int) (nid : Nat) (hs : Scoped nid Hs) (hcap : lowAll nid (idsOfs caps) = true) (hl : n ≤ 1000000)
    (hf : ∀ k, k < n → ∀ nid', nid ≤ nid' → ACall Tryz.prog f (.int .i64 (G k) :: caps) Hs nid' (.bool (F k)) []) :
    ACall Tryz.prog 182 [.lit nl n [.i .i64 G], .fn f caps] Hs nid (.int .i64 (idxR F n)) [] := by
  have hcv := capsC hcap
  refine acall_run c182 (by simp [a182]) ?_
  simp -dsimp only [a182, aqT, aqU, aqN, aqS, ↓seqK, ↓blkK, ↓loopK, step, stepBin, Nat.add_assoc nid, ↓reduceIte, Option.toList, ← Int.ofNat_tmod, ← Int.ofNat_tdiv, simprocAttr, BEq.rfl, LN_succ]
  refine LP.mkP (fun k : Nat => k ≤ n ∧ ∀ j, j < k → F j = false) (fun k : Nat => ⟨[(8, .int .i64 k), (7, .int .i64 n), (0, .lit nl n [.i .i64 G]), (1, .fn f caps)], Hs, nid + 100, nid⟩) (fun k => n + 1 - k) 0 ⟨by omega, fun j hj => by omega⟩ (Cov.goF Hs [] [] [] [] hs (by simp [kOK]) rfl ?_) (fun k hk => ?_)
  · simp [cvT, step, res, hcv]
  obtain ⟨hk, hb⟩ := hk
  simp -dsimp only [aqT, aqU, aqN, aqS, ↓seqK, ↓blkK, ↓loopK, step, stepBin, Nat.add_assoc nid, ↓reduceIte, Option.toList, ← Int.ofNat_tmod, ← Int.ofNat_tdiv, simprocAttr, BEq.rfl, LN_succ]
  refine S2.dec (fun h3 => ?_) (fun h3 => ?_) <;> simp -dsimp only [aqT, aqU, aqN, aqS, ↓seqK, ↓blkK, ↓loopK, step, stepBin, Nat.add_assoc nid, ↓reduceIte, Option.toList, ← Int.ofNat_tmod, ← Int.ofNat_tdiv, simprocAttr, BEq.rfl, LN_succ]
  · have hkl : k < n := by omega
    refine ⟨by omega, CallO.on (hf k hkl _ (by omega)) (subH_frame (X := []) hs (by simp [kOK])) ?_⟩
    simp -dsimp only [aqT, aqU, aqN, aqS, ↓seqK, ↓blkK, ↓loopK, step, stepBin, Nat.add_assoc nid, ↓reduceIte, Option.toList, ← Int.ofNat_tmod, ← Int.ofNat_tdiv, simprocAttr, BEq.rfl, LN_succ]
    refine S2.intro (fun h4 => ?_) (fun h4 => ?_) <;> simp -dsimp only [aqT, aqU, aqN, aqS, ↓seqK, ↓blkK, ↓loopK, step, stepBin, Nat.add_assoc nid, ↓reduceIte, Option.toList, ← Int.ofNat_tmod, ← Int.ofNat_tdiv, simprocAttr, BEq.rfl, LN_succ]
    · rw [idxR_at hkl h4 hb]
      refine RetOK.goF Hs [] [] [] [] [] (.inl rfl) hs (by simp [kOK]) rfl ?_
      simp [a182, cvT, step, res]
    · refine ⟨by unfold inI64; omega, k + 1, ⟨⟨by omega, fun j hj => ?_⟩, by omega⟩, Cov.goF Hs [] [] [] [] hs (by simp [kOK]) rfl ?_⟩
      · rcases (by omega : j < k ∨ j = k) with hj | hj
        · exact hb j hj
        · rw [hj]; exact h4
      · simp [cvT, step, res, hcv]
  · have hkn : k = n := by omega
    subst hkn
    rw [idxR_no hb]
    refine RetOK.goF Hs [] [] [] [] [] (.inl rfl) hs (by simp [kOK]) rfl ?_
    simp [a182, cvT, step, res]
theorem containsI_h (f : Nat) (caps : List PV) (Hs : Heap) (F : Nat → Bool) (nl : Bool) (n : Nat) (G : Nat → Int) (nid : Nat) (hs : Scoped nid Hs) (hcap : lowAll nid (idsOfs caps) = true) (hl : n ≤ 1000000)
    (hf : ∀ k, k < n → ∀ nid', nid ≤ nid' → ACall Tryz.prog f (.int .i64 (G k) :: caps) Hs nid' (.bool (F k)) []) :
    ACall Tryz.prog 90 [.lit nl n [.i .i64 G], .fn f caps] Hs nid (.bool ((List.range n).any F)) [] := by
  have hcv := capsC hcap
  refine acall_run c90 (by simp [a90]) ?_
  simp -dsimp only [a90, aqT, aqU, aqN, aqS, ↓seqK, ↓blkK, ↓loopK, step, stepBin, Nat.add_assoc nid, ↓reduceIte, Option.toList, ← Int.ofNat_tmod, ← Int.ofNat_tdiv, simprocAttr, BEq.rfl, LN_succ]
  refine CallO.on (indexI_h f caps Hs F nl n G _ (hs.mono (by omega)) (lowAll_mono hcap (by omega)) hl (fun k hk nid' h' => hf k hk nid' (by omega))) (fun _ _ h => h) ?_
  simp -dsimp only [aqT, aqU, aqN, aqS, ↓seqK, ↓blkK, ↓loopK, step, stepBin, Nat.add_assoc nid, ↓reduceIte, Option.toList, ← Int.ofNat_tmod, ← Int.ofNat_tdiv, simprocAttr, BEq.rfl, LN_succ]
  have e := idxR_any F n
  generalize idxR F n = i at *
  rw [← e]
  refine RetOK.goF Hs [] [] [] [] [] (.inl rfl) hs (by simp [kOK]) rfl ?_
  simp [a90, cvT, step, res]
end Go.Proofs.YtpifoghhaohhaaaGreatDoor
namespace Go.Proofs.YtpifoghhaohhaaaGreatDoor
open Go.RowKit Go.Shelf Go.Lib
end Go.Proofs.YtpifoghhaohhaaaGreatDoor
namespace Go.Proofs.YtpifoghhaohhaaaGreatDoor
open Go.RowKit Go.Shelf Go.Lib
abbrev Rw := List UInt8 × Bool × List (List UInt8)
def z0 : Rw := ([], true, [])
end Go.Proofs.YtpifoghhaohhaaaGreatDoor
namespace Go.Proofs.YtpifoghhaohhaaaGreatDoor
theorem sT_old {S : SeenL} {y : Int × List UInt8} {k : Nat} (h : k < S.length) : sT (S ++ [y]) k = sT S k := by unfold sT; rw [List.getD_eq_getElem?_getD, List.getElem?_append_left h, ← List.getD_eq_getElem?_getD]
theorem sR_old {S : SeenL} {y : Int × List UInt8} {k : Nat} (h : k < S.length) : sR (S ++ [y]) k = sR S k := by unfold sR; rw [List.getD_eq_getElem?_getD, List.getElem?_append_left h, ← List.getD_eq_getElem?_getD]
theorem sT_new {S : SeenL} {y : Int × List UInt8} {k : Nat} (h : k = S.length) : sT (S ++ [y]) k = y.1 := by unfold sT; subst h; simp
theorem sR_new {S : SeenL} {y : Int × List UInt8} {k : Nat} (h : k = S.length) : sR (S ++ [y]) k = y.2 := by unfold sR; subst h; simp
theorem consB_iff {L : List (List UInt8)} {S : SeenL} : consB L S = true ↔ ∀ k, k < S.length → L.getD (sT S k).toNat [] = sR S k := by
  unfold consB offB
  simp only [Bool.not_eq_true', List.any_eq_false, List.mem_range, Bool.not_eq_false, beq_iff_eq]
theorem sT_app (S : SeenL) (t : Int) (r : List UInt8) : (fun i => if i < S.length then sT S i else [t].getD (i - S.length) 0) = fun k => sT (S ++ [(t, r)]) k := by
  funext i
  by_cases h : i < S.length
  · rw [if_pos h, sT_old h]
  · rw [if_neg h]
    by_cases h' : i = S.length
    · rw [sT_new h', h']; simp
    · have h2 : (S ++ [(t, r)])[i]? = none := List.getElem?_eq_none (by simp; omega)
      have h1 : [t][i - S.length]? = none := List.getElem?_eq_none (by simp; omega)
      unfold sT
      rw [List.getD_eq_getElem?_getD, h1, List.getD_eq_getElem?_getD, h2]
      rfl
theorem sR_app (S : SeenL) (t : Int) (r : List UInt8) : (fun i => if i < S.length then sR S i else [r].getD (i - S.length) []) = fun k => sR (S ++ [(t, r)]) k := by
  funext i
  by_cases h : i < S.length
  · rw [if_pos h, sR_old h]
  · rw [if_neg h]
    by_cases h' : i = S.length
    · rw [sR_new h', h']; simp
    · have h2 : (S ++ [(t, r)])[i]? = none := List.getElem?_eq_none (by simp; omega)
      have h1 : [r][i - S.length]? = none := List.getElem?_eq_none (by simp; omega)
      unfold sR
      rw [List.getD_eq_getElem?_getD, h1, List.getD_eq_getElem?_getD, h2]
      rfl
structure SeenOk (G L : List (List UInt8)) (S : SeenL) (m : Nat) : Prop where
  i : ∀ k, k < S.length → 0 ≤ sT S k ∧ sT S k < m
  o : ∀ k, k + 1 < S.length → sT S k < sT S (k + 1)
  r : ∀ k, k < S.length → sR S k = L.getD (sT S k).toNat []
theorem SeenOk.skip {G L : List (List UInt8)} {S : SeenL} {m : Nat} (h : SeenOk G L S m) : SeenOk G L S (m + 1) := ⟨fun k hk => by have := h.i k hk; omega, h.o, h.r⟩
theorem SeenOk.more {G L : List (List UInt8)} {S : SeenL} {m : Nat} (h : SeenOk G L S m) : SeenOk G L (S ++ [((m : Int), L.getD m [])]) (m + 1) := by
  have hl : (S ++ [((m : Int), L.getD m [])]).length = S.length + 1 := by simp
  refine ⟨fun k hk => ?_, fun k hk => ?_, fun k hk => ?_⟩
  · rw [hl] at hk
    by_cases e : k < S.length
    · rw [sT_old e]; have := h.i k e; omega
    · rw [sT_new (by omega)]; simp only; omega
  · rw [hl] at hk
    by_cases e : k + 1 < S.length
    · rw [sT_old e, sT_old (by omega)]; exact h.o k e
    · rw [sT_old (by omega), sT_new (by omega)]; exact (h.i k (by omega)).2
  · rw [hl] at hk
    by_cases e : k < S.length
    · rw [sT_old e, sR_old e]; exact h.r k e
    · rw [sT_new (by omega), sR_new (by omega)]; simp
theorem SeenOk.len {G L : List (List UInt8)} {S : SeenL} {m : Nat} (h : SeenOk G L S m) : S.length ≤ m := by
  have : ∀ k, k < S.length → (k : Int) ≤ sT S k := fun k => by
    induction k with
    | zero => intro hk; exact (h.i 0 hk).1
    | succ k ih => intro hk; have := ih (by omega); have := h.o k hk; omega
  by_cases e : S.length = 0
  · omega
  · have h1 := this (S.length - 1) (by omega)
    have h2 := (h.i (S.length - 1) (by omega)).2
    omega
theorem SeenOk.w {G L : List (List UInt8)} {S : SeenL} {m : Nat} (h : SeenOk G L S m) (hm : m ≤ 1000000) (hL : ShortRows 1000000 L) (hl : S.length ≤ m) : SnW S := ⟨by omega, fun k => by
  by_cases hk : k < S.length
  · rw [h.r k hk]; exact hL.at _
  · unfold sR; rw [List.getD_eq_getElem?_getD, List.getElem?_eq_none (by omega)]; simp⟩
theorem SeenOk.cons {G L : List (List UInt8)} {S : SeenL} {m : Nat} (h : SeenOk G L S m) : consB L S = true := consB_iff.2 fun k hk => (h.r k hk).symm
theorem SeenOk.bad {G L : List (List UInt8)} {S : SeenL} {m : Nat} (h : SeenOk G L S m) (hm : m ≤ G.length) (hL : L.length = G.length) (hr : L.any oddS = false) : ∀ k, k < S.length → seenBad G.length S k = 0 := fun k hk => by
  have hi := h.i k hk
  unfold seenBad outB
  rw [if_neg (by simp only [decide_eq_true_eq]; omega)]
  have hno : ¬ oddS (sR S k) = true := by
    rw [h.r k hk]
    have hlt : (sT S k).toNat < L.length := by omega
    rw [List.getD_eq_getElem?_getD, List.getElem?_eq_getElem hlt]
    have := List.any_eq_false.1 hr _ (List.getElem_mem hlt)
    exact this
  rw [if_neg hno, if_neg]
  rintro ⟨h1, h2⟩
  have := h.o (k - 1) (by omega)
  rw [show k - 1 + 1 = k by omega] at this
  omega
end Go.Proofs.YtpifoghhaohhaaaGreatDoor
namespace Go.Proofs.YtpifoghhaohhaaaGreatDoor
open Go.RowKit Go.Shelf Go.Lib
structure SnB (m : Nat) (S : SeenL) : Prop where
  l : S.length ≤ m
  r : ∀ x ∈ S, (-1 ≤ x.1 ∧ x.1 ≤ 1000000) ∧ x.2.length ≤ 101
theorem SnB.w {m : Nat} {S : SeenL} (h : SnB m S) (hm : m ≤ 1000000) : SnW S := ⟨by have := h.l; omega, fun k => by
  unfold sR
  rw [List.getD_eq_getElem?_getD]
  cases e : S[k]? with
  | none => simp
  | some x => have := (h.r x (List.mem_of_getElem? e)).2; simp only [Option.getD_some]; omega⟩
theorem SnB.at {m : Nat} {S : SeenL} (h : SnB m S) {k : Nat} (hk : k < S.length) : (-1 ≤ sT S k ∧ sT S k ≤ 1000000) ∧ (sR S k).length ≤ 101 := by
  have := h.r _ (List.getElem_mem hk)
  unfold sT sR
  rw [List.getD_eq_getElem?_getD, List.getElem?_eq_getElem hk]
  exact this
theorem SnB.snoc {m : Nat} {S : SeenL} (h : SnB m S) {t : Int} {r : List UInt8} (ht : -1 ≤ t ∧ t ≤ 1000000) (hr : r.length ≤ 101) : SnB (m + 1) (S ++ [(t, r)]) := ⟨by have := h.l; simp; omega, fun x hx => by
  rcases List.mem_append.1 hx with hx | hx
  · exact h.r x hx
  · simp only [List.mem_singleton] at hx; subst hx; exact ⟨ht, hr⟩⟩
theorem SnB.more {m m' : Nat} {S : SeenL} (h : SnB m S) (hm : m ≤ m') : SnB m' S := ⟨by have := h.l; omega, h.r⟩
theorem SnB.put {m : Nat} {S : SeenL} (h : SnB m S) {t : Int} {r : List UInt8} (ht : -1 ≤ t ∧ t ≤ 1000000) (hr : r.length ≤ 101) (I : Nat) : SnB m (S.set I (t, r)) := ⟨by rw [List.length_set]; exact h.l, fun x hx => by
  rcases List.mem_or_eq_of_mem_set hx with hx | rfl
  · exact h.r x hx
  · exact ⟨ht, hr⟩⟩
theorem sT_set {S : SeenL} {I : Nat} (t : Int) (r : List UInt8) (hI : I < S.length) : (fun j => if j = I then t else sT S j) = fun k => sT (S.set I (t, r)) k := by
  funext j
  unfold sT
  rw [List.getD_eq_getElem?_getD, List.getD_eq_getElem?_getD, List.getElem?_set]
  by_cases h : j = I
  · subst h; simp [hI]
  · rw [if_neg h, if_neg (fun e => h e.symm)]
theorem sR_set {S : SeenL} {I : Nat} (t : Int) (r : List UInt8) (hI : I < S.length) : (fun j => if j = I then r else sR S j) = fun k => sR (S.set I (t, r)) k := by
  funext j
  unfold sR
  rw [List.getD_eq_getElem?_getD, List.getD_eq_getElem?_getD, List.getElem?_set]
  by_cases h : j = I
  · subst h; simp [hI]
  · rw [if_neg h, if_neg (fun e => h e.symm)]
set_option maxHeartbeats 4000000 in
theorem seenOf_I (s nid : Nat) (nl : Bool) (A : List Int) (p : Nat) (g0 r0 : Bool) (b : Nat → Bool) (G : List (List UInt8)) (R : RowL) (h : s < nid) (hp : p ≤ 1099400000000) (hA : A.length ≤ 17592186044416) (hG : G.length ≤ 100) (hGs : ShortRows 101 G) (hR : R.length ≤ 1000000) (hRs : ∀ x ∈ R, x.2.length ≤ 101 ∧ ShortRows 101 x.2) :
    ACallI Tryz.prog 46 [.ptr s 0, dictP g0 r0 b G R] [(s, strmC nl A p)] nid (fun x : SeenL × Nat => SnB G.length x.1 ∧ x.2 ≤ p + 300) (fun x => .sl nid 0 x.1.length) (fun x => [(nid, arrSn x.1), (s, strmC nl A x.2)]) := by
  obtain ⟨e1, e2, e3, e4, e5, e6, e7, e8, e9⟩ := id_all h
  refine acallI_sr c46 (by simp [a46]) ?_
  unfold a46 dictP
  refine SR.seq ?_
  simp -dsimp only [aqT, aqU, aqN, aqS, ↓seqK, ↓blkK, ↓loopK, step, stepBin, Nat.add_assoc nid, ↓reduceIte, Option.toList, ← Int.ofNat_tmod, ← Int.ofNat_tdiv, simprocAttr, BEq.rfl, LN_succ, e1, e2, e3, e4, e5, e6, e7, e8, e9]
  refine SR.seq ?_
  simp -dsimp only [aqT, aqU, aqN, aqS, ↓seqK, ↓blkK, ↓loopK, step, stepBin, Nat.add_assoc nid, ↓reduceIte, Option.toList, ← Int.ofNat_tmod, ← Int.ofNat_tdiv, simprocAttr, BEq.rfl, LN_succ, e1, e2, e3, e4, e5, e6, e7, e8, e9]
  refine SR.seq ?_
  simp -dsimp only [aqT, aqU, aqN, aqS, ↓seqK, ↓blkK, ↓loopK, step, stepBin, Nat.add_assoc nid, ↓reduceIte, Option.toList, ← Int.ofNat_tmod, ← Int.ofNat_tdiv, simprocAttr, BEq.rfl, LN_succ, e1, e2, e3, e4, e5, e6, e7, e8, e9]
  refine SR.seqW (ι := {x : Bool × List (List UInt8) × Nat // x.2.1.length ≤ 101 ∧ ShortRows 101 x.2.1 ∧ x.2.2 ≤ p + 2}) (fun x => ⟨[(6, litS x.1.1 x.1.2.1), (5, .lit true 0 []), (3, .ptr (nid + 4) 0), (0, .ptr s 0)], [(nid + 4, boxP2 g0 r0 b G R), (s, strmC nl A x.1.2.2)], nid + 200, nid⟩) ?_ (fun ⟨⟨nb, L, q⟩, hL, hLs, hq⟩ => ?_)
  · refine SR.run (t := .mk) ?_
    simp -dsimp only [aqT, aqU, aqN, aqS, ↓seqK, ↓blkK, ↓loopK, step, stepBin, Nat.add_assoc nid, ↓reduceIte, Option.toList, ← Int.ofNat_tmod, ← Int.ofNat_tdiv, simprocAttr, BEq.rfl, LN_succ, e1, e2, e3, e4, e5, e6, e7, e8, e9]
    refine S2.dec (fun h1 => ?_) (fun h1 => ?_) <;> simp -dsimp only [aqT, aqU, aqN, aqS, ↓seqK, ↓blkK, ↓loopK, step, stepBin, Nat.add_assoc nid, ↓reduceIte, Option.toList, ← Int.ofNat_tmod, ← Int.ofNat_tdiv, simprocAttr, BEq.rfl, LN_succ, e1, e2, e3, e4, e5, e6, e7, e8, e9]
    · refine CallO.on (flip_c s _ nl A p 4 (by omega) (by omega) hA (by omega)) (subH_get (by simp only [aqT, aqU, aqN, aqS, ↓seqK, ↓blkK, ↓loopK, step, stepBin, Nat.add_assoc nid, ↓reduceIte, Option.toList, ← Int.ofNat_tmod, ← Int.ofNat_tdiv, simprocAttr, BEq.rfl, LN_succ, e1, e2, e3, e4, e5, e6, e7, e8, e9])) ?_
      simp -dsimp only [aqT, aqU, aqN, aqS, ↓seqK, ↓blkK, ↓loopK, step, stepBin, Nat.add_assoc nid, ↓reduceIte, Option.toList, ← Int.ofNat_tmod, ← Int.ofNat_tdiv, simprocAttr, BEq.rfl, LN_succ, e1, e2, e3, e4, e5, e6, e7, e8, e9, strmC_low]
      cases hf : flipV A p 4 <;> simp -dsimp only [aqT, aqU, aqN, aqS, ↓seqK, ↓blkK, ↓loopK, step, stepBin, Nat.add_assoc nid, ↓reduceIte, Option.toList, ← Int.ofNat_tmod, ← Int.ofNat_tdiv, simprocAttr, BEq.rfl, LN_succ, e1, e2, e3, e4, e5, e6, e7, e8, e9, strmC_low, Bool.not_false, Bool.not_true]
      · have hnd := nextV_bd A (p + 1) (n := (R.length : Nat)) (by omega)
        obtain ⟨I, hI⟩ : ∃ I : Nat, nextV A (p + 1) ((R.length : Nat) : Int) = I := ⟨_, (Int.toNat_of_nonneg hnd.1).symm⟩
        refine CallX.on (next_c s _ nl A (p + 1) _ (by omega) (by omega) hA (by omega)) (subH_get (by simp only [aqT, aqU, aqN, aqS, ↓seqK, ↓blkK, ↓loopK, step, stepBin, Nat.add_assoc nid, ↓reduceIte, Option.toList, ← Int.ofNat_tmod, ← Int.ofNat_tdiv, simprocAttr, BEq.rfl, LN_succ, e1, e2, e3, e4, e5, e6, e7, e8, e9])) ?_
        rw [hI]
        simp -dsimp only [aqT, aqU, aqN, aqS, ↓seqK, ↓blkK, ↓loopK, step, stepBin, Nat.add_assoc nid, ↓reduceIte, Option.toList, ← Int.ofNat_tmod, ← Int.ofNat_tdiv, simprocAttr, BEq.rfl, LN_succ, e1, e2, e3, e4, e5, e6, e7, e8, e9, strmC_low]
        have hIR : I < R.length := by omega
        have hrow := hRs _ (row_mem hIR)
        refine ⟨⟨by omega, by omega⟩, ⟨(b I, rowR R I, p + 1 + 1), hrow.1, hrow.2, by simp only; omega⟩, Cov.go [(nid + 4, nid)] [] ?_⟩
        simp [cvT, step, res, e1, e2, e3, e4, e5, e6, e7, e8, e9, boxP2, strmC, litS, ColsEq.refl, -List.getD_eq_getElem?_getD]
      · refine ⟨⟨(g0, G, p + 1), by simp only; omega, hGs, by simp only; omega⟩, Cov.go [(nid + 4, nid)] [] ?_⟩
        simp [cvT, step, res, e1, e2, e3, e4, e5, e6, e7, e8, e9, boxP2, strmC, litS, ColsEq.refl, -List.getD_eq_getElem?_getD]
    · refine ⟨⟨(g0, G, p), by simp only; omega, hGs, by simp only; omega⟩, Cov.go [(nid + 4, nid)] [] ?_⟩
      simp [cvT, step, res, e1, e2, e3, e4, e5, e6, e7, e8, e9, boxP2, strmC, litS, ColsEq.refl, -List.getD_eq_getElem?_getD]
  simp only at hL hLs hq ⊢
  refine SR.seqW (ι := {x : SeenL × Nat // SnB G.length x.1 ∧ x.2 ≤ p + 220}) (fun x => ⟨[(5, .sl (nid + 16) 0 x.1.1.length), (3, .ptr (nid + 4) 0), (0, .ptr s 0)], [(nid + 16, arrSn x.1.1), (nid + 4, boxP2 g0 r0 b G R), (s, strmC nl A x.1.2)], nid + 400, nid⟩) ?_ (fun ⟨⟨S, q2⟩, hS, hq2⟩ => ?_)
  · unfold boxP2
    refine SR.seqTo ⟨[(33, .int .i64 0), (32, .int .i64 G.length), (6, litS nb L), (5, .lit true 0 []), (3, .ptr (nid + 4) 0), (0, .ptr s 0)], [(nid + 4, boxP2 g0 r0 b G R), (s, strmC nl A q)], nid + 250, nid⟩ ?_ ?_
    · simp -dsimp only [aqT, aqU, aqN, aqS, ↓seqK, ↓blkK, ↓loopK, step, stepBin, Nat.add_assoc nid, ↓reduceIte, Option.toList, ← Int.ofNat_tmod, ← Int.ofNat_tdiv, simprocAttr, BEq.rfl, LN_succ, e1, e2, e3, e4, e5, e6, e7, e8, e9, strmC_low]
      refine Cov.go [] [] ?_
      simp [cvT, step, res, e1, e2, e3, e4, e5, e6, e7, e8, e9, boxP2, strmC, litS, ColsEq.refl, -List.getD_eq_getElem?_getD]
    refine SR.block ?_
    refine SR.loopP (fun x : Nat × SeenL × Nat => x.1 ≤ G.length ∧ SnB x.1 x.2.1 ∧ x.2.2 ≤ q + 2 * x.1) (fun x => ⟨[(33, .int .i64 x.1), (32, .int .i64 G.length), (6, litS nb L), (5, .sl (nid + 16) 0 x.2.1.length), (3, .ptr (nid + 4) 0), (0, .ptr s 0)], [(nid + 16, arrSn x.2.1), (nid + 4, boxP2 g0 r0 b G R), (s, strmC nl A x.2.2)], nid + 300, nid⟩) (fun x => G.length + 1 - x.1) (0, [], q) ⟨by simp, ⟨by simp, by simp⟩, by simp⟩ (Cov.go [] [(nid + 16, 2)] ?_) (fun x hx => ?_)
    · simp [cvT, step, res, e1, e2, e3, e4, e5, e6, e7, e8, e9, boxP2, strmC, litS, arrSn, ColsEq.refl, -List.getD_eq_getElem?_getD]
    obtain ⟨t, S, q1⟩ := x
    obtain ⟨ht, hS, hq1⟩ := hx
    simp only at ht hS hq1 ⊢
    have hSl := hS.l
    refine SR.seq ?_
    simp -dsimp only [aqT, aqU, aqN, aqS, ↓seqK, ↓blkK, ↓loopK, step, stepBin, Nat.add_assoc nid, ↓reduceIte, Option.toList, ← Int.ofNat_tmod, ← Int.ofNat_tdiv, simprocAttr, BEq.rfl, LN_succ, e1, e2, e3, e4, e5, e6, e7, e8, e9]
    refine SR.seq ?_
    simp -dsimp only [aqT, aqU, aqN, aqS, ↓seqK, ↓blkK, ↓loopK, step, stepBin, Nat.add_assoc nid, ↓reduceIte, Option.toList, ← Int.ofNat_tmod, ← Int.ofNat_tdiv, simprocAttr, BEq.rfl, LN_succ, e1, e2, e3, e4, e5, e6, e7, e8, e9]
    refine S2.dec (fun h4 => ?_) (fun h4 => ?_) <;> simp -dsimp only [aqT, aqU, aqN, aqS, ↓seqK, ↓blkK, ↓loopK, step, stepBin, Nat.add_assoc nid, ↓reduceIte, Option.toList, ← Int.ofNat_tmod, ← Int.ofNat_tdiv, simprocAttr, BEq.rfl, LN_succ]
    · have htl : t < G.length := by omega
      refine SR.seqW (ι := {x : SeenL × Nat // SnB (t + 1) x.1 ∧ x.2 ≤ q + 2 * (t + 1)}) (fun x => ⟨[(33, .int .i64 t), (32, .int .i64 G.length), (6, litS nb L), (5, .sl (nid + 16) 0 x.1.1.length), (3, .ptr (nid + 4) 0), (0, .ptr s 0)], [(nid + 16, arrSn x.1.1), (nid + 4, boxP2 g0 r0 b G R), (s, strmC nl A x.1.2)], nid + 900, nid⟩) ?_ (fun ⟨⟨S2, q2⟩, hS2, hq2⟩ => ?_)
      · refine SR.block ?_
        refine SR.run (t := .mk) ?_
        unfold litS arrSn
        simp -dsimp only [aqT, aqU, aqN, aqS, ↓seqK, ↓blkK, ↓loopK, step, stepBin, Nat.add_assoc nid, ↓reduceIte, Option.toList, ← Int.ofNat_tmod, ← Int.ofNat_tdiv, simprocAttr, BEq.rfl, LN_succ, e1, e2, e3, e4, e5, e6, e7, e8, e9, strmC_low]
        refine CallO.on (flip_c s _ nl A q1 3 (by omega) (by omega) hA (by omega)) (subH_get (by simp only [aqT, aqU, aqN, aqS, ↓seqK, ↓blkK, ↓loopK, step, stepBin, Nat.add_assoc nid, ↓reduceIte, Option.toList, ← Int.ofNat_tmod, ← Int.ofNat_tdiv, simprocAttr, BEq.rfl, LN_succ, e1, e2, e3, e4, e5, e6, e7, e8, e9])) ?_
        simp -dsimp only [aqT, aqU, aqN, aqS, ↓seqK, ↓blkK, ↓loopK, step, stepBin, Nat.add_assoc nid, ↓reduceIte, Option.toList, ← Int.ofNat_tmod, ← Int.ofNat_tdiv, simprocAttr, BEq.rfl, LN_succ, e1, e2, e3, e4, e5, e6, e7, e8, e9, strmC_low]
        cases hf : flipV A q1 3 <;> simp -dsimp only [aqT, aqU, aqN, aqS, ↓seqK, ↓blkK, ↓loopK, step, stepBin, Nat.add_assoc nid, ↓reduceIte, Option.toList, ← Int.ofNat_tmod, ← Int.ofNat_tdiv, simprocAttr, BEq.rfl, LN_succ, e1, e2, e3, e4, e5, e6, e7, e8, e9, strmC_low, Bool.not_false, Bool.not_true]
        · refine S2.dec (fun h5 => ?_) (fun h5 => ?_) <;> simp -dsimp only [aqT, aqU, aqN, aqS, ↓seqK, ↓blkK, ↓loopK, step, stepBin, Nat.add_assoc nid, ↓reduceIte, Option.toList, ← Int.ofNat_tmod, ← Int.ofNat_tdiv, simprocAttr, BEq.rfl, LN_succ, e1, e2, e3, e4, e5, e6, e7, e8, e9, strmC_low]
          · have htL : t < L.length := by omega
            have hlt := hLs.at t
            refine ⟨by omega, by omega, by omega, ?_⟩
            refine CallX.some_go (T := 9) (nl := nl) (A := A) (p := q1 + 1) (g := fun i => [L.getD t [], L.getD t [], L.getD t [], [48], [49]].getD i []) (by simp only [aqT, aqU, aqN, aqS, ↓seqK, ↓blkK, ↓loopK, step, stepBin, Nat.add_assoc nid, ↓reduceIte, Option.toList, ← Int.ofNat_tmod, ← Int.ofNat_tdiv, simprocAttr, BEq.rfl, LN_succ, e1, e2, e3, e4, e5, e6, e7, e8, e9]) (by simp only [aqT, aqU, aqN, aqS, ↓seqK, ↓blkK, ↓loopK, step, stepBin, Nat.add_assoc nid, ↓reduceIte, Option.toList, ← Int.ofNat_tmod, ← Int.ofNat_tdiv, simprocAttr, BEq.rfl, LN_succ, e1, e2, e3, e4, e5, e6, e7, e8, e9]) (by simp only [aqT, aqU, aqN, aqS, ↓seqK, ↓blkK, ↓loopK, step, stepBin, Nat.add_assoc nid, ↓reduceIte, Option.toList, ← Int.ofNat_tmod, ← Int.ofNat_tdiv, simprocAttr, BEq.rfl, LN_succ, e1, e2, e3, e4, e5, e6, e7, e8, e9]) (by omega) (by omega) hA (by omega) (by omega) ?_
            have hb := getD_all (P := fun x : List UInt8 => x.length ≤ 101) (l := [L.getD t [], L.getD t [], L.getD t [], [48], [49]]) (d := []) (by intro x hx; simp only [List.mem_cons, List.not_mem_nil, or_false] at hx; rcases hx with rfl | rfl | rfl | rfl | rfl <;> first | assumption | simp) (pickI_lt A (q1 + 1) (n := 5) (by omega))
            generalize ([L.getD t [], L.getD t [], L.getD t [], [48], [49]].getD (pickI A (q1 + 1) 5) [] : List UInt8) = v at hb ⊢
            simp -dsimp only [aqT, aqU, aqN, aqS, ↓seqK, ↓blkK, ↓loopK, step, stepBin, Nat.add_assoc nid, ↓reduceIte, Option.toList, ← Int.ofNat_tmod, ← Int.ofNat_tdiv, simprocAttr, BEq.rfl, LN_succ, e1, e2, e3, e4, e5, e6, e7, e8, e9, strmC_low]
            rw [sT_app S t v, sR_app S t v]
            have hl1 : (S ++ [((t : Int), v)]).length = S.length + 1 := by simp
            have hS1 : SnB (t + 1) (S ++ [((t : Int), v)]) := hS.snoc (by omega) hb
            generalize S ++ [((t : Int), v)] = S1 at *
            refine ⟨by omega, ⟨(S1, q1 + 1 + 1), hS1, by simp only; omega⟩, Cov.go [(nid + 16, nid + 424)] [] ?_⟩
            simp [cvT, step, res, e1, e2, e3, e4, e5, e6, e7, e8, e9, boxP2, strmC, litS, arrSn, hl1, ColsEq.refl, -List.getD_eq_getElem?_getD]
          · refine ⟨⟨(S, q1 + 1), hS.more (by omega), by simp only; omega⟩, Cov.go [] [] ?_⟩
            simp [cvT, step, res, e1, e2, e3, e4, e5, e6, e7, e8, e9, boxP2, strmC, litS, arrSn, ColsEq.refl, -List.getD_eq_getElem?_getD]
        · refine ⟨⟨(S, q1 + 1), hS.more (by omega), by simp only; omega⟩, Cov.go [] [] ?_⟩
          simp [cvT, step, res, e1, e2, e3, e4, e5, e6, e7, e8, e9, boxP2, strmC, litS, arrSn, ColsEq.refl, -List.getD_eq_getElem?_getD]
      · refine SR.run (t := .mk) ?_
        simp -dsimp only [aqT, aqU, aqN, aqS, ↓seqK, ↓blkK, ↓loopK, step, stepBin, Nat.add_assoc nid, ↓reduceIte, Option.toList, ← Int.ofNat_tmod, ← Int.ofNat_tdiv, simprocAttr, BEq.rfl, LN_succ, e1, e2, e3, e4, e5, e6, e7, e8, e9]
        refine ⟨by unfold inI64; omega, (t + 1, S2, q2), ⟨⟨by simp only; omega, hS2, hq2⟩, by simp only; omega⟩, Cov.go [] [] ?_⟩
        simp [cvT, step, res, e1, e2, e3, e4, e5, e6, e7, e8, e9, boxP2, strmC, litS, arrSn, ColsEq.refl, -List.getD_eq_getElem?_getD]
    · refine ⟨⟨(S, q1), hS.more ht, by simp only; omega⟩, Cov.go [] [] ?_⟩
      simp [cvT, step, res, e1, e2, e3, e4, e5, e6, e7, e8, e9, boxP2, strmC, litS, arrSn, ColsEq.refl, -List.getD_eq_getElem?_getD]
  simp only at hS hq2 ⊢
  have hSl := hS.l
  refine SR.seqW (ι := {x : SeenL × Nat // SnB G.length x.1 ∧ x.2 ≤ p + 300}) (fun x => ⟨[(5, .sl (nid + 16) 0 x.1.1.length)], [(nid + 16, arrSn x.1.1), (s, strmC nl A x.1.2)], nid + 1000, nid⟩) ?_ (fun ⟨⟨S2, q3⟩, hS2, hq3⟩ => ?_)
  · refine SR.run (t := .mk) ?_
    unfold boxP2 arrSn
    simp -dsimp only [aqT, aqU, aqN, aqS, ↓seqK, ↓blkK, ↓loopK, step, stepBin, Nat.add_assoc nid, ↓reduceIte, Option.toList, ← Int.ofNat_tmod, ← Int.ofNat_tdiv, simprocAttr, BEq.rfl, LN_succ, e1, e2, e3, e4, e5, e6, e7, e8, e9, strmC_low]
    refine S2.dec (fun h1 => ?_) (fun h1 => ?_) <;> simp -dsimp only [aqT, aqU, aqN, aqS, ↓seqK, ↓blkK, ↓loopK, step, stepBin, Nat.add_assoc nid, ↓reduceIte, Option.toList, ← Int.ofNat_tmod, ← Int.ofNat_tdiv, simprocAttr, BEq.rfl, LN_succ, e1, e2, e3, e4, e5, e6, e7, e8, e9, strmC_low]
    · refine CallO.on (flip_c s _ nl A q2 15 (by omega) (by omega) hA (by omega)) (subH_get (by simp only [aqT, aqU, aqN, aqS, ↓seqK, ↓blkK, ↓loopK, step, stepBin, Nat.add_assoc nid, ↓reduceIte, Option.toList, ← Int.ofNat_tmod, ← Int.ofNat_tdiv, simprocAttr, BEq.rfl, LN_succ, e1, e2, e3, e4, e5, e6, e7, e8, e9])) ?_
      simp -dsimp only [aqT, aqU, aqN, aqS, ↓seqK, ↓blkK, ↓loopK, step, stepBin, Nat.add_assoc nid, ↓reduceIte, Option.toList, ← Int.ofNat_tmod, ← Int.ofNat_tdiv, simprocAttr, BEq.rfl, LN_succ, e1, e2, e3, e4, e5, e6, e7, e8, e9, strmC_low]
      cases hf : flipV A q2 15 <;> simp -dsimp only [aqT, aqU, aqN, aqS, ↓seqK, ↓blkK, ↓loopK, step, stepBin, Nat.add_assoc nid, ↓reduceIte, Option.toList, ← Int.ofNat_tmod, ← Int.ofNat_tdiv, simprocAttr, BEq.rfl, LN_succ, e1, e2, e3, e4, e5, e6, e7, e8, e9, strmC_low]
      · refine ⟨⟨(S, q2 + 1), hS, by simp only; omega⟩, Cov.go [] [] ?_⟩
        simp [cvT, step, res, e1, e2, e3, e4, e5, e6, e7, e8, e9, strmC, arrSn, -List.getD_eq_getElem?_getD]
      · have hnd := nextV_bd A (q2 + 1) (n := (S.length : Nat)) (by omega)
        obtain ⟨I, hI⟩ : ∃ I : Nat, nextV A (q2 + 1) ((S.length : Nat) : Int) = I := ⟨_, (Int.toNat_of_nonneg hnd.1).symm⟩
        have hIS : I < S.length := by omega
        obtain ⟨ha1, ha2⟩ := hS.at hIS
        refine CallO.on (next_c s _ nl A (q2 + 1) _ (by omega) (by omega) hA (by omega)) (subH_get (by simp only [aqT, aqU, aqN, aqS, ↓seqK, ↓blkK, ↓loopK, step, stepBin, Nat.add_assoc nid, ↓reduceIte, Option.toList, ← Int.ofNat_tmod, ← Int.ofNat_tdiv, simprocAttr, BEq.rfl, LN_succ, e1, e2, e3, e4, e5, e6, e7, e8, e9])) ?_
        rw [hI]
        simp -dsimp only [aqT, aqU, aqN, aqS, ↓seqK, ↓blkK, ↓loopK, step, stepBin, Nat.add_assoc nid, ↓reduceIte, Option.toList, ← Int.ofNat_tmod, ← Int.ofNat_tdiv, simprocAttr, BEq.rfl, LN_succ, e1, e2, e3, e4, e5, e6, e7, e8, e9, strmC_low]
        refine ⟨⟨by omega, by omega⟩, ?_⟩
        refine CallX.pick_go (T := 3) (nl := nl) (A := A) (p := q2 + 1 + 1) (g := fun i => [sT S I, -1, (G.length : Int), 0].getD i 0) (by simp only [aqT, aqU, aqN, aqS, ↓seqK, ↓blkK, ↓loopK, step, stepBin, Nat.add_assoc nid, ↓reduceIte, Option.toList, ← Int.ofNat_tmod, ← Int.ofNat_tdiv, simprocAttr, BEq.rfl, LN_succ, e1, e2, e3, e4, e5, e6, e7, e8, e9]) (by simp only [aqT, aqU, aqN, aqS, ↓seqK, ↓blkK, ↓loopK, step, stepBin, Nat.add_assoc nid, ↓reduceIte, Option.toList, ← Int.ofNat_tmod, ← Int.ofNat_tdiv, simprocAttr, BEq.rfl, LN_succ, e1, e2, e3, e4, e5, e6, e7, e8, e9]) (by simp only [aqT, aqU, aqN, aqS, ↓seqK, ↓blkK, ↓loopK, step, stepBin, Nat.add_assoc nid, ↓reduceIte, Option.toList, ← Int.ofNat_tmod, ← Int.ofNat_tdiv, simprocAttr, BEq.rfl, LN_succ, e1, e2, e3, e4, e5, e6, e7, e8, e9]) (by omega) (by omega) hA (by omega) (by omega) ?_
        have hb := getD_all (P := fun x : Int => -1 ≤ x ∧ x ≤ 1000000) (l := [sT S I, -1, (G.length : Int), 0]) (d := 0) (by intro x hx; simp only [List.mem_cons, List.not_mem_nil, or_false] at hx; rcases hx with rfl | rfl | rfl | rfl <;> omega) (pickI_lt A (q2 + 1 + 1) (n := 4) (by omega))
        generalize ([sT S I, -1, (G.length : Int), 0].getD (pickI A (q2 + 1 + 1) 4) 0 : Int) = v at hb ⊢
        simp -dsimp only [aqT, aqU, aqN, aqS, ↓seqK, ↓blkK, ↓loopK, step, stepBin, Nat.add_assoc nid, ↓reduceIte, Option.toList, ← Int.ofNat_tmod, ← Int.ofNat_tdiv, simprocAttr, BEq.rfl, LN_succ, e1, e2, e3, e4, e5, e6, e7, e8, e9, strmC_low]
        refine CallX.some_go (T := 9) (nl := nl) (A := A) (p := q2 + 1 + 1 + 1) (g := fun i => [sR S I, [], [32]].getD i []) (by simp only [aqT, aqU, aqN, aqS, ↓seqK, ↓blkK, ↓loopK, step, stepBin, Nat.add_assoc nid, ↓reduceIte, Option.toList, ← Int.ofNat_tmod, ← Int.ofNat_tdiv, simprocAttr, BEq.rfl, LN_succ, e1, e2, e3, e4, e5, e6, e7, e8, e9]) (by simp only [aqT, aqU, aqN, aqS, ↓seqK, ↓blkK, ↓loopK, step, stepBin, Nat.add_assoc nid, ↓reduceIte, Option.toList, ← Int.ofNat_tmod, ← Int.ofNat_tdiv, simprocAttr, BEq.rfl, LN_succ, e1, e2, e3, e4, e5, e6, e7, e8, e9]) (by simp only [aqT, aqU, aqN, aqS, ↓seqK, ↓blkK, ↓loopK, step, stepBin, Nat.add_assoc nid, ↓reduceIte, Option.toList, ← Int.ofNat_tmod, ← Int.ofNat_tdiv, simprocAttr, BEq.rfl, LN_succ, e1, e2, e3, e4, e5, e6, e7, e8, e9]) (by omega) (by omega) hA (by omega) (by omega) ?_
        have hb2 := getD_all (P := fun x : List UInt8 => x.length ≤ 101) (l := [sR S I, [], [32]]) (d := []) (by intro x hx; simp only [List.mem_cons, List.not_mem_nil, or_false] at hx; rcases hx with rfl | rfl | rfl <;> first | assumption | simp) (pickI_lt A (q2 + 1 + 1 + 1) (n := 3) (by omega))
        generalize ([sR S I, [], [32]].getD (pickI A (q2 + 1 + 1 + 1) 3) [] : List UInt8) = r at hb2 ⊢
        simp -dsimp only [aqT, aqU, aqN, aqS, ↓seqK, ↓blkK, ↓loopK, step, stepBin, Nat.add_assoc nid, ↓reduceIte, Option.toList, ← Int.ofNat_tmod, ← Int.ofNat_tdiv, simprocAttr, BEq.rfl, LN_succ, e1, e2, e3, e4, e5, e6, e7, e8, e9, strmC_low]
        rw [sT_set v r hIS, sR_set v r hIS]
        have hl1 : (S.set I (v, r)).length = S.length := List.length_set
        have hS1 : SnB G.length (S.set I (v, r)) := hS.put hb hb2 I
        generalize S.set I (v, r) = S1 at *
        refine ⟨⟨(S1, q2 + 1 + 1 + 1 + 1), hS1, by simp only; omega⟩, Cov.go [] [] ?_⟩
        simp [cvT, step, res, e1, e2, e3, e4, e5, e6, e7, e8, e9, strmC, arrSn, hl1, -List.getD_eq_getElem?_getD]
    · refine ⟨⟨(S, q2), hS, by simp only; omega⟩, Cov.go [] [] ?_⟩
      simp [cvT, step, res, e1, e2, e3, e4, e5, e6, e7, e8, e9, strmC, arrSn, -List.getD_eq_getElem?_getD]
  · refine SR.run (t := .mk) ?_
    unfold arrSn
    simp -dsimp only [aqT, aqU, aqN, aqS, ↓seqK, ↓blkK, ↓loopK, step, stepBin, Nat.add_assoc nid, ↓reduceIte, Option.toList, ← Int.ofNat_tmod, ← Int.ofNat_tdiv, simprocAttr, BEq.rfl, LN_succ, e1, e2, e3, e4, e5, e6, e7, e8, e9, strmC_low]
    refine ⟨(S2, q3), ⟨hS2, hq3⟩, RetOK.go [(nid, nid + 16)] [] (.inl rfl) ?_⟩
    simp [a46, cvT, step, res, e1, e2, e3, e4, e5, e6, e7, e8, e9, strmC, arrSn, -List.getD_eq_getElem?_getD]
end Go.Proofs.YtpifoghhaohhaaaGreatDoor
namespace Go.Proofs.YtpifoghhaohhaaaGreatDoor
open Go.RowKit Go.Shelf Go.Lib
set_option maxHeartbeats 1000000 in
theorem seenR_c (g0 r0 : Bool) (b : Nat → Bool) (G : List (List UInt8)) (R : RowL) (nl : Bool) (S : SeenL) (nid : Nat) (hB : DictW G R) (hS : SnW S) : ACall Tryz.prog 47 [dictP g0 r0 b G R, litSn nl S] [] nid (.int .i64 (seenV G R S)) [] := by
  have hgl := hB.gl
  have hsl := hS.l
  have hd := fun m => dictR_c g0 r0 b G R m hB
  refine acall_sr c47 (by simp [a47]) ?_
  unfold a47
  refine SR.seq ?_
  unfold dictP litSn at *
  simp -dsimp only [aqT, aqU, aqN, aqS, ↓seqK, ↓blkK, ↓loopK, step, stepBin, Nat.add_assoc nid, ↓reduceIte, Option.toList, ← Int.ofNat_tmod, ← Int.ofNat_tdiv, simprocAttr, BEq.rfl, LN_succ]
  refine SR.seqW (ι := {_u : Unit // dictV G R = 0}) (fun _ => ⟨[(2, .ptr nid 0), (1, litSn nl S)], [(nid, boxP2 g0 r0 b G R)], nid + 100, nid⟩) ?_ (fun ⟨_, h1⟩ => ?_)
  · refine SR.run (t := .mk) ?_
    simp -dsimp only [aqT, aqU, aqN, aqS, ↓seqK, ↓blkK, ↓loopK, step, stepBin, Nat.add_assoc nid, ↓reduceIte, Option.toList, ← Int.ofNat_tmod, ← Int.ofNat_tdiv, simprocAttr, BEq.rfl, LN_succ]
    refine CallO.pure (hd _) ?_
    simp -dsimp only [aqT, aqU, aqN, aqS, ↓seqK, ↓blkK, ↓loopK, step, stepBin, Nat.add_assoc nid, ↓reduceIte, Option.toList, ← Int.ofNat_tmod, ← Int.ofNat_tdiv, simprocAttr, BEq.rfl, LN_succ]
    refine S2.intro (fun h1 => ?_) (fun h1 => ?_) <;> simp -dsimp only [aqT, aqU, aqN, aqS, ↓seqK, ↓blkK, ↓loopK, step, stepBin, Nat.add_assoc nid, ↓reduceIte, Option.toList, ← Int.ofNat_tmod, ← Int.ofNat_tdiv, simprocAttr, BEq.rfl, LN_succ]
    · have e : seenV G R S = dictV G R := by unfold seenV; rw [if_pos (by simpa using h1)]
      rw [e]
      refine RetOK.pure (.inl rfl) rfl ?_
      simp [cvT, step, res]
    · refine ⟨⟨(), by simpa using h1⟩, Cov.go [] [] ?_⟩
      simp [cvT, step, res, boxP2, litSn, ColsEq.refl, -List.getD_eq_getElem?_getD]
  refine SR.seqW (ι := {_u : Unit // ¬ 100 < S.length}) (fun _ => ⟨[(2, .ptr nid 0), (1, litSn nl S)], [(nid, boxP2 g0 r0 b G R)], nid + 150, nid⟩) ?_ (fun ⟨_, h2⟩ => ?_)
  · unfold litSn
    refine SR.run (t := .mk) ?_
    simp -dsimp only [aqT, aqU, aqN, aqS, ↓seqK, ↓blkK, ↓loopK, step, stepBin, Nat.add_assoc nid, ↓reduceIte, Option.toList, ← Int.ofNat_tmod, ← Int.ofNat_tdiv, simprocAttr, BEq.rfl, LN_succ]
    refine S2.dec (fun h2 => ?_) (fun h2 => ?_) <;> simp -dsimp only [aqT, aqU, aqN, aqS, ↓seqK, ↓blkK, ↓loopK, step, stepBin, Nat.add_assoc nid, ↓reduceIte, Option.toList, ← Int.ofNat_tmod, ← Int.ofNat_tdiv, simprocAttr, BEq.rfl, LN_succ]
    · have e : seenV G R S = 2 := by unfold seenV; rw [if_neg (by simp [h1]), if_pos (by omega)]
      rw [e]
      refine RetOK.pure (.inl rfl) rfl ?_
      simp [cvT, step, res]
    · refine ⟨⟨(), by omega⟩, Cov.go [] [] ?_⟩
      simp [cvT, step, res, boxP2, litSn, ColsEq.refl, -List.getD_eq_getElem?_getD]
  refine SR.seqW (ι := {_u : Unit // ∀ j, j < S.length → seenBad G.length S j = 0}) (fun _ => ⟨[], [], nid + 2000, nid⟩) ?_ (fun ⟨_, h5⟩ => ?_)
  · unfold boxP2 litSn
    refine SR.seqTo ⟨[(18, .int .i64 0), (17, .int .i64 S.length), (16, litSn nl S), (2, .ptr nid 0), (1, litSn nl S)], [(nid, boxP2 g0 r0 b G R)], nid + 200, nid⟩ ?_ ?_
    · simp -dsimp only [aqT, aqU, aqN, aqS, ↓seqK, ↓blkK, ↓loopK, step, stepBin, Nat.add_assoc nid, ↓reduceIte, Option.toList, ← Int.ofNat_tmod, ← Int.ofNat_tdiv, simprocAttr, BEq.rfl, LN_succ]
      refine Cov.go [] [] ?_
      simp [cvT, step, res, boxP2, litSn, ColsEq.refl, -List.getD_eq_getElem?_getD]
    refine SR.block ?_
    refine SR.loopP (fun k : Nat => k ≤ S.length ∧ ∀ j, j < k → seenBad G.length S j = 0) (fun k : Nat => ⟨[(18, .int .i64 k), (17, .int .i64 S.length), (16, litSn nl S), (2, .ptr nid 0), (1, litSn nl S)], [(nid, boxP2 g0 r0 b G R)], nid + 200, nid⟩) (fun k => S.length + 1 - k) 0 ⟨by omega, fun j hj => by omega⟩ (Cov.drop (by omega) ?_) (fun k hk => ?_)
    · simp only [SlotsIn, aqT, aqU, aqN, ↓seqK, ↓blkK, ↓loopK, step, stepBin, Nat.reduceBEq, Nat.reduceBeqDiff, Nat.add_assoc nid, Nat.reduceAdd, reduceCtorEq, ↓reduceIte, Nat.reduceLeDiff, Nat.reduceBneDiff, Option.toList, ← Int.ofNat_tmod, ← Int.ofNat_tdiv, Nat.reduceLT]
      try simp
    obtain ⟨hk, hall⟩ := hk
    refine SR.seq ?_
    simp -dsimp only [aqT, aqU, aqN, aqS, ↓seqK, ↓blkK, ↓loopK, step, stepBin, Nat.add_assoc nid, ↓reduceIte, Option.toList, ← Int.ofNat_tmod, ← Int.ofNat_tdiv, simprocAttr, BEq.rfl, LN_succ]
    refine SR.seq ?_
    simp -dsimp only [aqT, aqU, aqN, aqS, ↓seqK, ↓blkK, ↓loopK, step, stepBin, Nat.add_assoc nid, ↓reduceIte, Option.toList, ← Int.ofNat_tmod, ← Int.ofNat_tdiv, simprocAttr, BEq.rfl, LN_succ]
    refine S2.dec (fun h4 => ?_) (fun h4 => ?_) <;> simp -dsimp only [aqT, aqU, aqN, aqS, ↓seqK, ↓blkK, ↓loopK, step, stepBin, Nat.add_assoc nid, ↓reduceIte, Option.toList, ← Int.ofNat_tmod, ← Int.ofNat_tdiv, simprocAttr, BEq.rfl, LN_succ]
    · have hkl : k < S.length := by omega
      have hbad := fun e => seenV_row (e := e) h1 h2 hkl hall
      have hr1 := hS.r k
      refine SR.seqW (ι := {_u : Unit // seenBad G.length S k = 0}) (fun _ => ⟨[(18, .int .i64 k), (17, .int .i64 S.length), (16, litSn nl S), (2, .ptr nid 0), (1, litSn nl S)], [(nid, boxP2 g0 r0 b G R)], nid + 900, nid⟩) ?_ (fun ⟨_, h6⟩ => ?_)
      · refine SR.block ?_
        unfold litSn
        refine SR.seqTo ⟨[(7, .ptr (nid + 300) 0), (6, .int .i64 k), (18, .int .i64 k), (17, .int .i64 S.length), (16, litSn nl S), (2, .ptr nid 0), (1, litSn nl S)], [(nid + 300, some (.box 69 [.int .i64 (sT S k), .str (sR S k)])), (nid, boxP2 g0 r0 b G R)], nid + 400, nid⟩ ?_ ?_
        · simp -dsimp only [aqT, aqU, aqN, aqS, ↓seqK, ↓blkK, ↓loopK, step, stepBin, Nat.add_assoc nid, ↓reduceIte, Option.toList, ← Int.ofNat_tmod, ← Int.ofNat_tdiv, simprocAttr, BEq.rfl, LN_succ]
          refine ⟨by omega, Cov.go [(nid + 300, nid + 216)] [] ?_⟩
          simp [cvT, step, res, boxP2, litSn, ColsEq.refl, -List.getD_eq_getElem?_getD]
        unfold boxP2 litSn
        refine SR.block ?_
        refine SR.seq ?_
        simp -dsimp only [aqT, aqU, aqN, aqS, ↓seqK, ↓blkK, ↓loopK, step, stepBin, Nat.add_assoc nid, ↓reduceIte, Option.toList, ← Int.ofNat_tmod, ← Int.ofNat_tdiv, simprocAttr, BEq.rfl, LN_succ]
        refine ⟨by unfold inI64; omega, CallO.pure (in_c _ _ _ _) ?_⟩
        simp -dsimp only [aqT, aqU, aqN, aqS, ↓seqK, ↓blkK, ↓loopK, step, stepBin, Nat.add_assoc nid, ↓reduceIte, Option.toList, ← Int.ofNat_tmod, ← Int.ofNat_tdiv, simprocAttr, BEq.rfl, LN_succ, Bool.not_not]
        refine SR.cond (b := outB (sT S k) 0 ((G.length : Int) - 1)) (by simp [AX.val, getS]) (fun h => ?_) (fun h => ?_)
        · rw [hbad 1 (by unfold seenBad; rw [if_pos h]) (by decide)]
          refine SR.run (t := .mk) ?_
          simp -dsimp only [aqT, aqU, aqN, aqS, ↓seqK, ↓blkK, ↓loopK, step, stepBin, Nat.add_assoc nid, ↓reduceIte, Option.toList, ← Int.ofNat_tmod, ← Int.ofNat_tdiv, simprocAttr, BEq.rfl, LN_succ]
          refine RetOK.pure (.inl rfl) rfl ?_
          simp [cvT, step, res]
        have hk1 : ¬ outB (sT S k) 0 ((G.length : Int) - 1) = true := by simp [h]
        refine SR.seq ?_
        simp -dsimp only [aqT, aqU, aqN, aqS, ↓seqK, ↓blkK, ↓loopK, step, stepBin, Nat.add_assoc nid, ↓reduceIte, Option.toList, ← Int.ofNat_tmod, ← Int.ofNat_tdiv, simprocAttr, BEq.rfl, LN_succ]
        refine CallO.pure (respR_c _ _) ?_
        simp -dsimp only [aqT, aqU, aqN, aqS, ↓seqK, ↓blkK, ↓loopK, step, stepBin, Nat.add_assoc nid, ↓reduceIte, Option.toList, ← Int.ofNat_tmod, ← Int.ofNat_tdiv, simprocAttr, BEq.rfl, LN_succ]
        refine SR.cond (b := !respB (sR S k)) (by simp [AX.val, getS]) (fun h => ?_) (fun h => ?_)
        · rw [hbad 9 (by unfold seenBad; rw [if_neg hk1, if_pos (show oddS (sR S k) = true from h)]) (by decide)]
          refine SR.run (t := .mk) ?_
          simp -dsimp only [aqT, aqU, aqN, aqS, ↓seqK, ↓blkK, ↓loopK, step, stepBin, Nat.add_assoc nid, ↓reduceIte, Option.toList, ← Int.ofNat_tmod, ← Int.ofNat_tdiv, simprocAttr, BEq.rfl, LN_succ]
          refine RetOK.pure (.inl rfl) rfl ?_
          simp [cvT, step, res]
        have hk2 : ¬ oddS (sR S k) = true := by unfold oddS; simpa using h
        refine SR.seqTo ⟨[(37, .bool (decide ((0 : Int) < k) && decide (sT S k ≤ sT S (k - 1)))), (18, .int .i64 k), (17, .int .i64 S.length), (16, litSn nl S), (2, .ptr nid 0), (1, litSn nl S)], [(nid, boxP2 g0 r0 b G R)], nid + 700, nid⟩ ?_ ?_
        · simp -dsimp only [aqT, aqU, aqN, aqS, ↓seqK, ↓blkK, ↓loopK, step, stepBin, Nat.add_assoc nid, ↓reduceIte, Option.toList, ← Int.ofNat_tmod, ← Int.ofNat_tdiv, simprocAttr, BEq.rfl, LN_succ]
          refine S2.dec (fun h0 => ?_) (fun h0 => ?_) <;> simp -dsimp only [aqT, aqU, aqN, aqS, ↓seqK, ↓blkK, ↓loopK, step, stepBin, Nat.add_assoc nid, ↓reduceIte, Option.toList, ← Int.ofNat_tmod, ← Int.ofNat_tdiv, simprocAttr, BEq.rfl, LN_succ]
          · have e : ((k : Int) - 1).toNat = k - 1 := by omega
            rw [e]
            refine ⟨by unfold inI64; omega, by omega, Cov.go [] [] ?_⟩
            simp [cvT, step, res, boxP2, litSn, ColsEq.refl, decide_eq_true h0, -List.getD_eq_getElem?_getD]
            try omega
          · refine Cov.go [] [] ?_
            simp [cvT, step, res, boxP2, litSn, ColsEq.refl, decide_eq_false h0, -List.getD_eq_getElem?_getD]
            try omega
        refine SR.cond (b := decide ((0 : Int) < k) && decide (sT S k ≤ sT S (k - 1))) (by simp [AX.val, getS]) (fun h => ?_) (fun h => ?_)
        · simp only [Bool.and_eq_true, decide_eq_true_eq] at h
          rw [hbad 7 (by unfold seenBad; rw [if_neg hk1, if_neg hk2, if_pos ⟨by omega, h.2⟩]) (by decide)]
          refine SR.run (t := .mk) ?_
          simp -dsimp only [aqT, aqU, aqN, aqS, ↓seqK, ↓blkK, ↓loopK, step, stepBin, Nat.add_assoc nid, ↓reduceIte, Option.toList, ← Int.ofNat_tmod, ← Int.ofNat_tdiv, simprocAttr, BEq.rfl, LN_succ]
          refine RetOK.pure (.inl rfl) rfl ?_
          simp [cvT, step, res]
        have hk4 : ¬ (0 < k ∧ sT S k ≤ sT S (k - 1)) := fun ⟨e1, e2⟩ => by
          rw [decide_eq_true e2, decide_eq_true (by omega)] at h
          simp at h
        refine SR.run (t := .mk) ?_
        simp -dsimp only [aqT, aqU, aqN, aqS, ↓seqK, ↓blkK, ↓loopK, step, stepBin, Nat.add_assoc nid, ↓reduceIte, Option.toList, ← Int.ofNat_tmod, ← Int.ofNat_tdiv, simprocAttr, BEq.rfl, LN_succ]
        refine ⟨⟨(), by unfold seenBad; rw [if_neg hk1, if_neg hk2, if_neg hk4]⟩, Cov.go [] [] ?_⟩
        simp [cvT, step, res, boxP2, litSn, ColsEq.refl, -List.getD_eq_getElem?_getD]
      refine SR.run (t := .mk) ?_
      simp -dsimp only [aqT, aqU, aqN, aqS, ↓seqK, ↓blkK, ↓loopK, step, stepBin, Nat.add_assoc nid, ↓reduceIte, Option.toList, ← Int.ofNat_tmod, ← Int.ofNat_tdiv, simprocAttr, BEq.rfl, LN_succ]
      refine ⟨by unfold inI64; omega, k + 1, ⟨⟨by omega, fun j hj => ?_⟩, by omega⟩, Cov.go [] [] ?_⟩
      · rcases (by omega : j < k ∨ j = k) with hj | hj
        · exact hall j hj
        · rw [hj]; exact h6
      simp [cvT, step, res, boxP2, litSn, ColsEq.refl, -List.getD_eq_getElem?_getD]
    · refine ⟨⟨(), fun j hj => hall j (by omega)⟩, Cov.go [] [] ?_⟩
      simp [cvT, step, res, boxP2, -List.getD_eq_getElem?_getD]
  · rw [seenV_good h1 h2 h5]
    refine SR.run (t := .mk) ?_
    simp -dsimp only [aqT, aqU, aqN, aqS, ↓seqK, ↓blkK, ↓loopK, step, stepBin, Nat.add_assoc nid, ↓reduceIte, Option.toList, ← Int.ofNat_tmod, ← Int.ofNat_tdiv, simprocAttr, BEq.rfl, LN_succ]
    refine RetOK.pure (.inl rfl) rfl ?_
    simp [cvT, step, res]
end Go.Proofs.YtpifoghhaohhaaaGreatDoor
namespace Go.Proofs.YtpifoghhaohhaaaGreatDoor
open Go.RowKit Go.Shelf Go.Lib
end Go.Proofs.YtpifoghhaohhaaaGreatDoor
namespace Go.Proofs.YtpifoghhaohhaaaGreatDoor
open Go.RowKit Go.Shelf Go.Lib
theorem keyFact {b : Nat} {Hs : Heap} (hs : Scoped b Hs) {i : Nat} {x : ABlk} (h : getH Hs i = some x) : (b == i) = false ∧ (∀ k, (b + k == i) = false) ∧ i < b := by
  have hlt := hs.lt i (by simpa using getH_key h)
  refine ⟨?_, fun k => ?_, hlt⟩
  · simp; omega
  · simp; omega
end Go.Proofs.YtpifoghhaohhaaaGreatDoor
namespace Go.Proofs.YtpifoghhaohhaaaGreatDoor
open Go.RowKit Go.Shelf Go.Lib
theorem scoped1 {b i : Nat} {x : ABlk} (h : i < b) (hx : lowBlk b (some x) = true) : Scoped b [(i, some x)] := ⟨fun j hj => by simp [keys] at hj; omega, fun j y hy => by
  simp only [getH] at hy
  by_cases e : (i == j) = true
  · simp only [e, cond_true, Option.some.injEq] at hy; subst hy; exact hx
  · simp only [Bool.not_eq_true] at e; simp [e] at hy⟩
end Go.Proofs.YtpifoghhaohhaaaGreatDoor
namespace Go.Proofs.YtpifoghhaohhaaaGreatDoor
open Go.RowKit Go.Shelf Go.Lib
end Go.Proofs.YtpifoghhaohhaaaGreatDoor
namespace Go.Proofs.YtpifoghhaohhaaaGreatDoor
open Go.RowKit Go.Shelf Go.Lib
end Go.Proofs.YtpifoghhaohhaaaGreatDoor
namespace Go.Proofs.YtpifoghhaohhaaaGreatDoor
open Go.RowKit Go.Shelf Go.Lib
theorem getD_appI (l : List Int) (x : Int) : (fun i => if i < l.length then l.getD i 0 else [x].getD (i - l.length) 0) = fun i => (l ++ [x]).getD i 0 := by
  funext i
  simp only [List.getD_eq_getElem?_getD, List.getElem?_append]
  by_cases h : i < l.length
  · rw [if_pos h, if_pos h]
  · rw [if_neg h, if_neg h]
theorem Scoped.cons {b b' i : Nat} {x : ABlk} {Hs : Heap} (hs : Scoped b Hs) (hb : b ≤ i) (hi : i < b') (hx : lowBlk b' (some x) = true) : Scoped b' ((i, some x) :: Hs) := by
  have hs' := hs.mono (b' := b') (by omega)
  refine ⟨fun j hj => ?_, fun j y hy => ?_⟩
  · simp only [keys, List.map_cons, List.mem_cons] at hj
    rcases hj with rfl | hj
    · exact hi
    · exact hs'.lt j hj
  · simp only [getH] at hy
    by_cases e : (i == j) = true
    · simp only [e, cond_true, Option.some.injEq] at hy; subst hy; exact hx
    · simp only [Bool.not_eq_true] at e; simp only [e, cond_false] at hy
      exact hs'.blk j y hy
def detB (G L : List (List UInt8)) (t : Int) : Bool := !(L.getD t.toNat [] == G.getD t.toNat [])
theorem detects_c (g0 r0 : Bool) (b : Nat → Bool) (G : List (List UInt8)) (R : RowL) (f : List UInt8) (bl : Bool) (L : List (List UInt8)) (t : Int) (nid : Nat) (h0 : 0 ≤ t) (h1 : t < G.length) (h2 : L.length = G.length) (hG : G.length ≤ 1000000) :
    ACall Tryz.prog 92 [dictP g0 r0 b G R, .agg [.str f, litS bl L], .int .i64 t] [] nid (.bool (detB G L t)) [] := by
  refine acall_run c92 (by simp [a92]) ?_
  unfold dictP litS
  simp -dsimp only [aqT, aqU, aqN, aqS, ↓seqK, ↓blkK, ↓loopK, step, stepBin, Nat.add_assoc nid, ↓reduceIte, Option.toList, ← Int.ofNat_tmod, ← Int.ofNat_tdiv, simprocAttr, BEq.rfl, LN_succ, a92]
  refine ⟨⟨by omega, by omega⟩, ⟨by omega, by omega⟩, ?_⟩
  refine RetOK.go [] [] (.inl rfl) ?_
  simp [a92, cvT, step, res, detB, -List.getD_eq_getElem?_getD]
end Go.Proofs.YtpifoghhaohhaaaGreatDoor
namespace Go.Proofs.YtpifoghhaohhaaaGreatDoor
open Go.RowKit Go.Shelf Go.Lib
end Go.Proofs.YtpifoghhaohhaaaGreatDoor
namespace Go.Proofs.YtpifoghhaohhaaaGreatDoor
open Go.RowKit Go.Shelf Go.Lib
end Go.Proofs.YtpifoghhaohhaaaGreatDoor
namespace Go.Proofs.YtpifoghhaohhaaaGreatDoor
open Go.RowKit Go.Shelf Go.Lib
end Go.Proofs.YtpifoghhaohhaaaGreatDoor
namespace Go.Proofs.YtpifoghhaohhaaaGreatDoor
open Go.RowKit Go.Shelf Go.Lib
def covB (G A B : List (List UInt8)) : Bool := !(List.range G.length).any fun t => detB G A (t : Nat) && !detB G B (t : Nat)
theorem cov_yes {G A B : List (List UInt8)} (h : ∀ t, t < G.length → (detB G A (t : Nat) && !detB G B (t : Nat)) = false) : covB G A B = true := by
  unfold covB
  simp only [Bool.not_eq_true', List.any_eq_false, List.mem_range]
  intro i hi
  rw [h i hi]
  simp
theorem cov_no {G A B : List (List UInt8)} {t : Nat} (hi : t < G.length) (h : (detB G A (t : Nat) && !detB G B (t : Nat)) = true) : covB G A B = false := by
  unfold covB
  simp only [Bool.not_eq_false', List.any_eq_true, List.mem_range]
  exact ⟨t, hi, h⟩
theorem covers_c (g0 r0 : Bool) (b : Nat → Bool) (G : List (List UInt8)) (R : RowL) (fa : List UInt8) (ba : Bool) (A : List (List UInt8)) (fb : List UInt8) (bb : Bool) (B : List (List UInt8)) (nid : Nat) (h1 : A.length = G.length) (h2 : B.length = G.length) (hG : G.length ≤ 1000000) :
    ACall Tryz.prog 156 [dictP g0 r0 b G R, .agg [.str fa, litS ba A], .agg [.str fb, litS bb B]] [] nid (.bool (covB G A B)) [] := by
  have hda := fun t m h0 h => detects_c g0 r0 b G R fa ba A t m h0 h h1 hG
  have hdb := fun t m h0 h => detects_c g0 r0 b G R fb bb B t m h0 h h2 hG
  refine acall_run c156 (by simp [a156]) ?_
  unfold dictP litS at *
  simp -dsimp only [aqT, aqU, aqN, aqS, ↓seqK, ↓blkK, ↓loopK, step, stepBin, Nat.add_assoc nid, ↓reduceIte, Option.toList, ← Int.ofNat_tmod, ← Int.ofNat_tdiv, simprocAttr, BEq.rfl, LN_succ, a156]
  refine LP.mkP (fun k : Nat => k ≤ G.length ∧ ∀ j, j < k → (detB G A (j : Nat) && !detB G B (j : Nat)) = false) (fun k => ⟨[(11, .int .i64 k), (10, .int .i64 G.length), (3, .ptr nid 0), (4, .ptr (nid + 4) 0), (5, .ptr (nid + 8) 0)], [(nid, boxP2 g0 r0 b G R), (nid + 4, boxRw fa ba A), (nid + 8, boxRw fb bb B)], nid + 100, nid⟩) (fun k => G.length + 1 - k) 0 ⟨by omega, fun j hj => by omega⟩ (Cov.go [] [] ?_) (fun k hk => ?_)
  · simp [cvT, step, res, boxP2, boxRw, ColsEq.refl, -List.getD_eq_getElem?_getD]
  obtain ⟨hk, hall⟩ := hk
  unfold boxP2 boxRw
  simp -dsimp only [aqT, aqU, aqN, aqS, ↓seqK, ↓blkK, ↓loopK, step, stepBin, Nat.add_assoc nid, ↓reduceIte, Option.toList, ← Int.ofNat_tmod, ← Int.ofNat_tdiv, simprocAttr, BEq.rfl, LN_succ]
  refine S2.dec (fun h3 => ?_) (fun h3 => ?_) <;> simp -dsimp only [aqT, aqU, aqN, aqS, ↓seqK, ↓blkK, ↓loopK, step, stepBin, Nat.add_assoc nid, ↓reduceIte, Option.toList, ← Int.ofNat_tmod, ← Int.ofNat_tdiv, simprocAttr, BEq.rfl, LN_succ]
  · have hkl : k < G.length := by omega
    have hno := fun h => cov_no (G := G) (A := A) (B := B) hkl h
    refine CallO.pure (hda k _ (by omega) (by omega)) ?_
    cases hx : detB G A (k : Nat) <;> simp -dsimp only [aqT, aqU, aqN, aqS, ↓seqK, ↓blkK, ↓loopK, step, stepBin, Nat.add_assoc nid, ↓reduceIte, Option.toList, ← Int.ofNat_tmod, ← Int.ofNat_tdiv, simprocAttr, BEq.rfl, LN_succ]
    · refine ⟨by unfold inI64; omega, k + 1, ⟨⟨by omega, fun j hj => ?_⟩, by omega⟩, Cov.go [] [] ?_⟩
      · rcases (by omega : j < k ∨ j = k) with hj | hj
        · exact hall j hj
        · rw [hj, hx]; rfl
      simp [cvT, step, res, boxP2, boxRw, ColsEq.refl, -List.getD_eq_getElem?_getD]
    · refine CallO.pure (hdb k _ (by omega) (by omega)) ?_
      cases hy : detB G B (k : Nat) <;> simp -dsimp only [aqT, aqU, aqN, aqS, ↓seqK, ↓blkK, ↓loopK, step, stepBin, Nat.add_assoc nid, ↓reduceIte, Option.toList, ← Int.ofNat_tmod, ← Int.ofNat_tdiv, simprocAttr, BEq.rfl, LN_succ, Bool.not_true, Bool.not_false]
      · rw [hno (by rw [hx, hy]; rfl)]
        refine RetOK.go [] [] (.inl rfl) ?_
        simp [a156, cvT, step, res]
      · refine ⟨by unfold inI64; omega, k + 1, ⟨⟨by omega, fun j hj => ?_⟩, by omega⟩, Cov.go [] [] ?_⟩
        · rcases (by omega : j < k ∨ j = k) with hj | hj
          · exact hall j hj
          · rw [hj, hx, hy]; rfl
        simp [cvT, step, res, boxP2, boxRw, ColsEq.refl, -List.getD_eq_getElem?_getD]
  · rw [cov_yes (fun j hj => hall j (by omega))]
    refine RetOK.go [] [] (.inl rfl) ?_
    simp [a156, cvT, step, res]
def someT (G L : List (List UInt8)) (n : Nat) : Bool := (List.range n).any fun t => detB G L (t : Nat)
theorem someT_succ (G L : List (List UInt8)) (n : Nat) : someT G L (n + 1) = (someT G L n || detB G L (n : Nat)) := by
  unfold someT
  rw [List.range_succ, List.any_append]
  simp
theorem any_getDI (l : List Int) (F : Int → Bool) : ((List.range l.length).any fun i => F (l.getD i 0)) = l.any F := by
  rw [Bool.eq_iff_iff, List.any_eq_true, List.any_eq_true]
  constructor
  · rintro ⟨i, hi, h⟩
    have hi := List.mem_range.1 hi
    rw [List.getD_eq_getElem?_getD, List.getElem?_eq_getElem hi] at h
    exact ⟨_, List.getElem_mem hi, h⟩
  · rintro ⟨x, hx, h⟩
    obtain ⟨i, hi, rfl⟩ := List.getElem_of_mem hx
    exact ⟨i, List.mem_range.2 hi, by rw [List.getD_eq_getElem?_getD, List.getElem?_eq_getElem hi]; exact h⟩
def detL (G L : List (List UInt8)) (n : Nat) : List Int := ((List.range n).filter fun t => detB G L (t : Nat)).map fun t => ((t : Nat) : Int)
theorem detL_succ (G L : List (List UInt8)) (n : Nat) : detL G L (n + 1) = if detB G L (n : Nat) = true then detL G L n ++ [((n : Nat) : Int)] else detL G L n := by
  unfold detL
  rw [List.range_succ, List.filter_append, List.map_append]
  cases h : detB G L (n : Nat) <;> simp [h]
theorem detL_len (G L : List (List UInt8)) (n : Nat) : (detL G L n).length ≤ n := by
  unfold detL
  rw [List.length_map]
  have := List.length_filter_le (fun t => detB G L (t : Nat)) (List.range n)
  rwa [List.length_range] at this
theorem detL_pos (G L : List (List UInt8)) (n : Nat) : decide (0 < (detL G L n).length) = someT G L n := by
  rw [Bool.eq_iff_iff, decide_eq_true_eq]
  unfold detL someT
  rw [List.length_map, List.length_pos_iff_exists_mem, List.any_eq_true]
  constructor
  · rintro ⟨x, hx⟩
    exact ⟨x, (List.mem_filter.1 hx).1, (List.mem_filter.1 hx).2⟩
  · rintro ⟨x, hx, h⟩
    exact ⟨x, List.mem_filter.2 ⟨hx, h⟩⟩
theorem detL_has (G L : List (List UInt8)) (n t : Nat) (h : t < n) : (detL G L n).contains ((t : Nat) : Int) = detB G L (t : Nat) := by
  rw [Bool.eq_iff_iff]
  unfold detL
  simp only [List.contains_iff_mem, List.mem_map, List.mem_filter, List.mem_range]
  constructor
  · rintro ⟨a, ⟨h1, h2⟩, e⟩
    have : a = t := by omega
    rw [← this]; exact h2
  · intro h2
    exact ⟨t, ⟨h, h2⟩, rfl⟩
theorem detL_cov (G A B : List (List UInt8)) : ((List.range (detL G A G.length).length).any fun i => !(detL G B G.length).contains ((detL G A G.length).getD i 0)) = !covB G A B := by
  rw [any_getDI (detL G A G.length) (fun t => !(detL G B G.length).contains t)]
  unfold covB
  rw [Bool.not_not]
  conv => lhs; unfold detL
  rw [List.any_map, List.any_filter]
  rw [Bool.eq_iff_iff, List.any_eq_true, List.any_eq_true]
  constructor
  · rintro ⟨t, ht, h⟩
    refine ⟨t, ht, ?_⟩
    have e := detL_has G B G.length t (List.mem_range.1 ht)
    unfold detL at e
    simpa only [Function.comp_apply, e] using h
  · rintro ⟨t, ht, h⟩
    refine ⟨t, ht, ?_⟩
    have e := detL_has G B G.length t (List.mem_range.1 ht)
    unfold detL at e
    simpa only [Function.comp_apply, e] using h
def okP (G : List (List UInt8)) (R : RowL) (i j : Nat) : Bool := (someT G (rowR R i) G.length && !(rowF R i == rowF R j)) && covB G (rowR R i) (rowR R j)
abbrev PrL := List (List UInt8 × List UInt8)
def prI (G : List (List UInt8)) (R : RowL) (i m : Nat) : PrL := ((List.range m).filter (okP G R i)).map fun j => (rowF R i, rowF R j)
def prs (G : List (List UInt8)) (R : RowL) (n : Nat) : PrL := (List.range n).flatMap fun i => prI G R i R.length
theorem prI_succ (G : List (List UInt8)) (R : RowL) (i m : Nat) : prI G R i (m + 1) = if okP G R i m = true then prI G R i m ++ [(rowF R i, rowF R m)] else prI G R i m := by
  unfold prI
  rw [List.range_succ, List.filter_append, List.map_append]
  cases h : okP G R i m <;> simp [h]
theorem prI_len (G : List (List UInt8)) (R : RowL) (i m : Nat) : (prI G R i m).length ≤ m := by
  unfold prI
  rw [List.length_map]
  have := List.length_filter_le (okP G R i) (List.range m)
  rwa [List.length_range] at this
theorem prs_succ (G : List (List UInt8)) (R : RowL) (n : Nat) : prs G R (n + 1) = prs G R n ++ prI G R n R.length := by
  unfold prs
  rw [List.range_succ, List.flatMap_append]
  simp
theorem prs_len (G : List (List UInt8)) (R : RowL) : ∀ n, (prs G R n).length ≤ n * R.length
  | 0 => by simp [prs]
  | n + 1 => by
    have := prs_len G R n
    have := prI_len G R n R.length
    rw [prs_succ, List.length_append, Nat.succ_mul]
    omega
def arrPr (l : PrL) : Option ABlk := some (.arr 109 l.length [.s fun i => (l.getD i ([], [])).1, .s fun i => (l.getD i ([], [])).2])
theorem prApp1 (l : PrL) (x : List UInt8 × List UInt8) : (fun i => if i < l.length then (l.getD i ([], [])).1 else [x.1].getD (i - l.length) []) = fun i => ((l ++ [x]).getD i ([], [])).1 := by
  funext i
  simp only [List.getD_eq_getElem?_getD, List.getElem?_append]
  split
  · rfl
  · cases i - l.length <;> rfl
theorem prApp2 (l : PrL) (x : List UInt8 × List UInt8) : (fun i => if i < l.length then (l.getD i ([], [])).2 else [x.2].getD (i - l.length) []) = fun i => ((l ++ [x]).getD i ([], [])).2 := by
  funext i
  simp only [List.getD_eq_getElem?_getD, List.getElem?_append]
  split
  · rfl
  · cases i - l.length <;> rfl
theorem domBad_c (g0 r0 : Bool) (b : Nat → Bool) (G : List (List UInt8)) (R : RowL) (nid : Nat) (hB : DictW G R) (hV : dictV G R ≠ 0) :
    ACall Tryz.prog 65 [dictP g0 r0 b G R] [] nid (.tup [.lit true 0 [], .int .i64 (dictV G R)]) [] := by
  have hd := fun m => dictD_c g0 r0 b G R m hB
  refine acall_sr c65 (by simp [a65]) ?_
  unfold a65 dictP at *
  refine SR.run (t := .mk) ?_
  simp -dsimp only [aqT, aqU, aqN, aqS, ↓seqK, ↓blkK, ↓loopK, step, stepBin, Nat.add_assoc nid, ↓reduceIte, Option.toList, ← Int.ofNat_tmod, ← Int.ofNat_tdiv, simprocAttr, BEq.rfl, LN_succ]
  refine CallO.pure (hd _) ?_
  simp -dsimp only [aqT, aqU, aqN, aqS, ↓seqK, ↓blkK, ↓loopK, step, stepBin, Nat.add_assoc nid, ↓reduceIte, Option.toList, ← Int.ofNat_tmod, ← Int.ofNat_tdiv, simprocAttr, BEq.rfl, LN_succ]
  refine S2.yes (by simpa using hV) ?_
  simp -dsimp only [aqT, aqU, aqN, aqS, ↓seqK, ↓blkK, ↓loopK, step, stepBin, Nat.add_assoc nid, ↓reduceIte, Option.toList, ← Int.ofNat_tmod, ← Int.ofNat_tdiv, simprocAttr, BEq.rfl, LN_succ]
  refine RetOK.pure (.inl rfl) rfl ?_
  simp [cvT, step, res]
set_option maxHeartbeats 8000000 in
theorem dominated_c (g0 r0 : Bool) (b : Nat → Bool) (G : List (List UInt8)) (R : RowL) (nid : Nat) (hB : DictW G R) (hD : dictV G R = 0) (hr : R.length ≤ 7) :
    ACall Tryz.prog 65 [dictP g0 r0 b G R] [] nid (.tup [.sl nid 0 (prs G R R.length).length, .int .i64 0]) [(nid, arrPr (prs G R R.length))] := by
  have hd := fun m => dictD_c g0 r0 b G R m hB
  rw [hD] at hd
  have hgl := hB.gl
  have hlen := dictV_rows hD
  have hpl : ∀ k, k ≤ R.length → (prs G R k).length ≤ 49 := fun k hk => by
    have := prs_len G R k
    have : k * R.length ≤ 7 * 7 := Nat.mul_le_mul (by omega) hr
    omega
  refine acall_sr c65 (by simp [a65]) ?_
  unfold a65 dictP at *
  refine SR.seq ?_
  simp -dsimp only [aqT, aqU, aqN, aqS, ↓seqK, ↓blkK, ↓loopK, step, stepBin, Nat.add_assoc nid, ↓reduceIte, Option.toList, ← Int.ofNat_tmod, ← Int.ofNat_tdiv, simprocAttr, BEq.rfl, LN_succ]
  refine SR.seqTo ⟨[(1, .ptr nid 0)], [(nid, boxP2 g0 r0 b G R)], nid + 100, nid⟩ ?_ ?_
  · simp -dsimp only [aqT, aqU, aqN, aqS, ↓seqK, ↓blkK, ↓loopK, step, stepBin, Nat.add_assoc nid, ↓reduceIte, Option.toList, ← Int.ofNat_tmod, ← Int.ofNat_tdiv, simprocAttr, BEq.rfl, LN_succ]
    refine CallO.pure (hd _) ?_
    simp -dsimp only [aqT, aqU, aqN, aqS, ↓seqK, ↓blkK, ↓loopK, step, stepBin, Nat.add_assoc nid, ↓reduceIte, Option.toList, ← Int.ofNat_tmod, ← Int.ofNat_tdiv, simprocAttr, BEq.rfl, LN_succ]
    refine Cov.go [] [] ?_
    simp [cvT, step, res, boxP2, ColsEq.refl, -List.getD_eq_getElem?_getD]
  clear hd
  unfold boxP2
  refine SR.seq ?_
  simp -dsimp only [aqT, aqU, aqN, aqS, ↓seqK, ↓blkK, ↓loopK, step, stepBin, Nat.add_assoc nid, ↓reduceIte, Option.toList, ← Int.ofNat_tmod, ← Int.ofNat_tdiv, simprocAttr, BEq.rfl, LN_succ]
  refine SR.seqW (ι := Unit) (fun _ => ⟨[(5, .sl (nid + 20) 0 (prs G R R.length).length)], [(nid + 20, arrPr (prs G R R.length))], nid + 9000, nid⟩) ?_ (fun _ => ?_)
  · refine SR.seqTo ⟨[(20, .int .i64 0), (19, .int .i64 R.length), (18, rowsP r0 b R), (5, .lit true 0 []), (1, .ptr nid 0)], [(nid, boxP2 g0 r0 b G R)], nid + 200, nid⟩ ?_ ?_
    · simp -dsimp only [aqT, aqU, aqN, aqS, ↓seqK, ↓blkK, ↓loopK, step, stepBin, Nat.add_assoc nid, ↓reduceIte, Option.toList, ← Int.ofNat_tmod, ← Int.ofNat_tdiv, simprocAttr, BEq.rfl, LN_succ]
      refine Cov.go [] [] ?_
      simp [cvT, step, res, boxP2, rowsP, ColsEq.refl, -List.getD_eq_getElem?_getD]
    refine SR.block ?_
    refine SR.loopP (fun k : Nat => k ≤ R.length) (fun k => ⟨[(20, .int .i64 k), (19, .int .i64 R.length), (18, rowsP r0 b R), (5, .sl (nid + 20) 0 (prs G R k).length), (1, .ptr nid 0)], [(nid + 20, arrPr (prs G R k)), (nid, boxP2 g0 r0 b G R)], nid + 300, nid⟩) (fun k => R.length + 1 - k) 0 (by omega) (Cov.go [] [(nid + 20, 2)] ?_) (fun k hk => ?_)
    · simp [cvT, step, res, boxP2, rowsP, arrPr, prs, ColsEq.refl, -List.getD_eq_getElem?_getD]
    have hend : k = R.length → prs G R R.length = prs G R k := fun e => by rw [e]
    have hps := prs_succ G R k
    have hpk := hpl k hk
    refine SR.seq ?_
    unfold rowsP
    simp -dsimp only [aqT, aqU, aqN, aqS, ↓seqK, ↓blkK, ↓loopK, step, stepBin, Nat.add_assoc nid, ↓reduceIte, Option.toList, ← Int.ofNat_tmod, ← Int.ofNat_tdiv, simprocAttr, BEq.rfl, LN_succ]
    refine SR.seq ?_
    simp -dsimp only [aqT, aqU, aqN, aqS, ↓seqK, ↓blkK, ↓loopK, step, stepBin, Nat.add_assoc nid, ↓reduceIte, Option.toList, ← Int.ofNat_tmod, ← Int.ofNat_tdiv, simprocAttr, BEq.rfl, LN_succ]
    refine S2.dec (fun h3 => ?_) (fun h3 => ?_) <;> simp -dsimp only [aqT, aqU, aqN, aqS, ↓seqK, ↓blkK, ↓loopK, step, stepBin, Nat.add_assoc nid, ↓reduceIte, Option.toList, ← Int.ofNat_tmod, ← Int.ofNat_tdiv, simprocAttr, BEq.rfl, LN_succ]
    · have hkl : k < R.length := by omega
      have hlk := hlen k hkl
      have hpk1 := hpl (k + 1) (by omega)
      refine SR.seqW (ι := Unit) (fun _ => ⟨[(20, .int .i64 k), (19, .int .i64 R.length), (18, rowsP r0 b R), (5, .sl (nid + 20) 0 (prs G R (k + 1)).length), (1, .ptr nid 0)], [(nid + 20, arrPr (prs G R (k + 1))), (nid, boxP2 g0 r0 b G R)], nid + 8000, nid⟩) ?_ (fun _ => ?_)
      · generalize prs G R k = V at *
        refine SR.block ?_
        refine SR.seqTo ⟨[(7, .ptr (nid + 12) 0), (20, .int .i64 k), (19, .int .i64 R.length), (18, rowsP r0 b R), (5, .sl (nid + 20) 0 V.length), (1, .ptr nid 0)], [(nid + 12, boxRw (rowF R k) (b k) (rowR R k)), (nid + 20, arrPr V), (nid, boxP2 g0 r0 b G R)], nid + 400, nid⟩ ?_ ?_
        · unfold arrPr boxP2
          simp -dsimp only [aqT, aqU, aqN, aqS, ↓seqK, ↓blkK, ↓loopK, step, stepBin, Nat.add_assoc nid, ↓reduceIte, Option.toList, ← Int.ofNat_tmod, ← Int.ofNat_tdiv, simprocAttr, BEq.rfl, LN_succ]
          refine ⟨by omega, Cov.go [(nid + 12, nid + 312)] [] ?_⟩
          simp [cvT, step, res, boxP2, rowsP, arrPr, boxRw, ColsEq.refl, -List.getD_eq_getElem?_getD]
        refine SR.seq ?_
        unfold arrPr boxP2 boxRw rowsP
        simp -dsimp only [aqT, aqU, aqN, aqS, ↓seqK, ↓blkK, ↓loopK, step, stepBin, Nat.add_assoc nid, ↓reduceIte, Option.toList, ← Int.ofNat_tmod, ← Int.ofNat_tdiv, simprocAttr, BEq.rfl, LN_succ]
        refine SR.seqW (ι := Unit) (fun _ => ⟨[(8, .bool (someT G (rowR R k) G.length)), (7, .ptr (nid + 12) 0), (20, .int .i64 k), (19, .int .i64 R.length), (18, rowsP r0 b R), (5, .sl (nid + 20) 0 V.length), (1, .ptr nid 0)], [(nid + 12, boxRw (rowF R k) (b k) (rowR R k)), (nid + 20, arrPr V), (nid, boxP2 g0 r0 b G R)], nid + 2000, nid⟩) ?_ (fun _ => ?_)
        · refine SR.seqTo ⟨[(27, .int .i64 0), (26, .int .i64 G.length), (8, .bool false), (7, .ptr (nid + 12) 0), (20, .int .i64 k), (19, .int .i64 R.length), (18, rowsP r0 b R), (5, .sl (nid + 20) 0 V.length), (1, .ptr nid 0)], [(nid + 12, boxRw (rowF R k) (b k) (rowR R k)), (nid + 20, arrPr V), (nid, boxP2 g0 r0 b G R)], nid + 500, nid⟩ ?_ ?_
          · simp -dsimp only [aqT, aqU, aqN, aqS, ↓seqK, ↓blkK, ↓loopK, step, stepBin, Nat.add_assoc nid, ↓reduceIte, Option.toList, ← Int.ofNat_tmod, ← Int.ofNat_tdiv, simprocAttr, BEq.rfl, LN_succ]
            refine Cov.go [] [] ?_
            simp [cvT, step, res, boxP2, rowsP, arrPr, boxRw, ColsEq.refl, -List.getD_eq_getElem?_getD]
          refine SR.block ?_
          refine SR.loopP (fun t : Nat => t ≤ G.length) (fun t => ⟨[(27, .int .i64 t), (26, .int .i64 G.length), (8, .bool (someT G (rowR R k) t)), (7, .ptr (nid + 12) 0), (20, .int .i64 k), (19, .int .i64 R.length), (18, rowsP r0 b R), (5, .sl (nid + 20) 0 V.length), (1, .ptr nid 0)], [(nid + 12, boxRw (rowF R k) (b k) (rowR R k)), (nid + 20, arrPr V), (nid, boxP2 g0 r0 b G R)], nid + 600, nid⟩) (fun t => G.length + 1 - t) 0 (by omega) (Cov.go [] [] ?_) (fun t ht => ?_)
          · simp [cvT, step, res, boxP2, rowsP, arrPr, boxRw, someT, ColsEq.refl, -List.getD_eq_getElem?_getD]
          have hsu := someT_succ G (rowR R k) t
          have hen : t = G.length → someT G (rowR R k) G.length = someT G (rowR R k) t := fun e => by rw [e]
          generalize someT G (rowR R k) t = z at *
          refine SR.run (t := .mk) ?_
          unfold arrPr boxP2 boxRw rowsP
          simp -dsimp only [aqT, aqU, aqN, aqS, ↓seqK, ↓blkK, ↓loopK, step, stepBin, Nat.add_assoc nid, ↓reduceIte, Option.toList, ← Int.ofNat_tmod, ← Int.ofNat_tdiv, simprocAttr, BEq.rfl, LN_succ]
          refine S2.dec (fun h4 => ?_) (fun h4 => ?_) <;> simp -dsimp only [aqT, aqU, aqN, aqS, ↓seqK, ↓blkK, ↓loopK, step, stepBin, Nat.add_assoc nid, ↓reduceIte, Option.toList, ← Int.ofNat_tmod, ← Int.ofNat_tdiv, simprocAttr, BEq.rfl, LN_succ]
          · have htl : t < G.length := by omega
            have hdt := fun m => detects_c g0 r0 b G R (rowF R k) (b k) (rowR R k) t m (by omega) (by omega) hlk hgl
            unfold dictP litS at hdt
            cases z <;> simp -dsimp only [aqT, aqU, aqN, aqS, ↓seqK, ↓blkK, ↓loopK, step, stepBin, Nat.add_assoc nid, ↓reduceIte, Option.toList, ← Int.ofNat_tmod, ← Int.ofNat_tdiv, simprocAttr, BEq.rfl, LN_succ]
            · refine CallO.pure (hdt _) ?_
              simp -dsimp only [aqT, aqU, aqN, aqS, ↓seqK, ↓blkK, ↓loopK, step, stepBin, Nat.add_assoc nid, ↓reduceIte, Option.toList, ← Int.ofNat_tmod, ← Int.ofNat_tdiv, simprocAttr, BEq.rfl, LN_succ]
              rw [Bool.false_or] at hsu
              rw [← hsu]
              refine ⟨by unfold inI64; omega, t + 1, ⟨by omega, by omega⟩, Cov.go [] [] ?_⟩
              simp [cvT, step, res, boxP2, rowsP, arrPr, boxRw, ColsEq.refl, -List.getD_eq_getElem?_getD]
            · rw [Bool.true_or] at hsu
              refine ⟨by unfold inI64; omega, t + 1, ⟨by omega, by omega⟩, Cov.go [] [] ?_⟩
              simp [cvT, step, res, boxP2, rowsP, arrPr, boxRw, hsu, ColsEq.refl, -List.getD_eq_getElem?_getD]
          · rw [hen (by omega)]
            refine ⟨(), Cov.go [] [] ?_⟩
            simp [cvT, step, res, boxP2, rowsP, arrPr, boxRw, ColsEq.refl, -List.getD_eq_getElem?_getD]
        refine SR.seqW (ι := Unit) (fun _ => ⟨[(5, .sl (nid + 20) 0 (V ++ prI G R k R.length).length), (20, .int .i64 k), (19, .int .i64 R.length), (18, rowsP r0 b R), (1, .ptr nid 0)], [(nid + 20, arrPr (V ++ prI G R k R.length)), (nid, boxP2 g0 r0 b G R)], nid + 7000, nid⟩) ?_ (fun _ => ?_)
        · refine SR.seqTo ⟨[(41, .int .i64 0), (40, .int .i64 R.length), (39, rowsP r0 b R), (8, .bool (someT G (rowR R k) G.length)), (7, .ptr (nid + 12) 0), (20, .int .i64 k), (19, .int .i64 R.length), (18, rowsP r0 b R), (5, .sl (nid + 20) 0 V.length), (1, .ptr nid 0)], [(nid + 12, boxRw (rowF R k) (b k) (rowR R k)), (nid + 20, arrPr V), (nid, boxP2 g0 r0 b G R)], nid + 2100, nid⟩ ?_ ?_
          · unfold boxRw arrPr boxP2 rowsP
            simp -dsimp only [aqT, aqU, aqN, aqS, ↓seqK, ↓blkK, ↓loopK, step, stepBin, Nat.add_assoc nid, ↓reduceIte, Option.toList, ← Int.ofNat_tmod, ← Int.ofNat_tdiv, simprocAttr, BEq.rfl, LN_succ]
            refine Cov.go [] [] ?_
            simp [cvT, step, res, boxP2, rowsP, arrPr, boxRw, ColsEq.refl, -List.getD_eq_getElem?_getD]
          refine SR.block ?_
          refine SR.loopP (fun j : Nat => j ≤ R.length) (fun j => ⟨[(41, .int .i64 j), (40, .int .i64 R.length), (39, rowsP r0 b R), (8, .bool (someT G (rowR R k) G.length)), (7, .ptr (nid + 12) 0), (20, .int .i64 k), (19, .int .i64 R.length), (18, rowsP r0 b R), (5, .sl (nid + 20) 0 (V ++ prI G R k j).length), (1, .ptr nid 0)], [(nid + 12, boxRw (rowF R k) (b k) (rowR R k)), (nid + 20, arrPr (V ++ prI G R k j)), (nid, boxP2 g0 r0 b G R)], nid + 2200, nid⟩) (fun j => R.length + 1 - j) 0 (by omega) (Cov.go [] [] ?_) (fun j hj => ?_)
          · simp [cvT, step, res, boxP2, rowsP, arrPr, boxRw, prI, ColsEq.refl, -List.getD_eq_getElem?_getD]
          have hsu := prI_succ G R k j
          have hen : j = R.length → prI G R k R.length = prI G R k j := fun e => by rw [e]
          have hjl := prI_len G R k j
          have hU : (V ++ prI G R k j).length ≤ 100 := by rw [List.length_append]; omega
          have hsu2 : V ++ prI G R k (j + 1) = if okP G R k j = true then (V ++ prI G R k j) ++ [(rowF R k, rowF R j)] else V ++ prI G R k j := by
            rw [hsu]; split <;> simp
          have hen2 : j = R.length → V ++ prI G R k R.length = V ++ prI G R k j := fun e => by rw [hen e]
          clear hsu hen
          generalize hU1 : V ++ prI G R k (j + 1) = U1 at *
          generalize V ++ prI G R k j = U at *
          have hok : okP G R k j = ((someT G (rowR R k) G.length && !(rowF R k == rowF R j)) && covB G (rowR R k) (rowR R j)) := rfl
          generalize someT G (rowR R k) G.length = z at *
          refine SR.run (t := .mk) ?_
          unfold arrPr boxP2 boxRw rowsP
          simp -dsimp only [aqT, aqU, aqN, aqS, ↓seqK, ↓blkK, ↓loopK, step, stepBin, Nat.add_assoc nid, ↓reduceIte, Option.toList, ← Int.ofNat_tmod, ← Int.ofNat_tdiv, simprocAttr, BEq.rfl, LN_succ]
          refine S2.dec (fun h4 => ?_) (fun h4 => ?_) <;> simp -dsimp only [aqT, aqU, aqN, aqS, ↓seqK, ↓blkK, ↓loopK, step, stepBin, Nat.add_assoc nid, ↓reduceIte, Option.toList, ← Int.ofNat_tmod, ← Int.ofNat_tdiv, simprocAttr, BEq.rfl, LN_succ]
          · have hjl2 : j < R.length := by omega
            have hlj := hlen j hjl2
            have hcv := fun m => covers_c g0 r0 b G R (rowF R k) (b k) (rowR R k) (rowF R j) (b j) (rowR R j) m hlk hlj hgl
            unfold dictP litS at hcv
            refine ⟨by omega, ?_⟩
            cases z <;> simp -dsimp only [aqT, aqU, aqN, aqS, ↓seqK, ↓blkK, ↓loopK, step, stepBin, Nat.add_assoc nid, ↓reduceIte, Option.toList, ← Int.ofNat_tmod, ← Int.ofNat_tdiv, simprocAttr, BEq.rfl, LN_succ, Bool.not_false, Bool.not_true]
            · rw [hok, Bool.false_and, Bool.false_and, if_neg (by simp)] at hsu2
              refine ⟨by unfold inI64; omega, j + 1, ⟨by omega, by omega⟩, Cov.go [] [] ?_⟩
              simp [cvT, step, res, boxP2, rowsP, arrPr, boxRw, hU1, hsu2, ColsEq.refl, -List.getD_eq_getElem?_getD]
            · cases he : (rowF R k == rowF R j) <;> simp -dsimp only [aqT, aqU, aqN, aqS, ↓seqK, ↓blkK, ↓loopK, step, stepBin, Nat.add_assoc nid, ↓reduceIte, Option.toList, ← Int.ofNat_tmod, ← Int.ofNat_tdiv, simprocAttr, BEq.rfl, LN_succ, Bool.not_false, Bool.not_true]
              · refine CallO.pure (hcv _) ?_
                cases hc : covB G (rowR R k) (rowR R j) <;> simp -dsimp only [aqT, aqU, aqN, aqS, ↓seqK, ↓blkK, ↓loopK, step, stepBin, Nat.add_assoc nid, ↓reduceIte, Option.toList, ← Int.ofNat_tmod, ← Int.ofNat_tdiv, simprocAttr, BEq.rfl, LN_succ, Bool.not_false, Bool.not_true]
                · rw [hok, hc, Bool.and_false, if_neg (by simp)] at hsu2
                  refine ⟨by unfold inI64; omega, j + 1, ⟨by omega, by omega⟩, Cov.go [] [] ?_⟩
                  simp [cvT, step, res, boxP2, rowsP, arrPr, boxRw, hU1, hsu2, ColsEq.refl, -List.getD_eq_getElem?_getD]
                · rw [hok, hc, he, if_pos (by rfl)] at hsu2
                  have p1 := prApp1 U (rowF R k, rowF R j)
                  have p2 := prApp2 U (rowF R k, rowF R j)
                  simp only at p1 p2
                  rw [p1, p2]
                  refine ⟨⟨by omega, by omega⟩, by unfold inI64; omega, j + 1, ⟨by omega, by omega⟩, ?_⟩
                  refine Cov.go [(nid + 20, nid + 2312)] [] ?_
                  simp [cvT, step, res, boxP2, rowsP, arrPr, boxRw, hU1, hsu2, ColsEq.refl, -List.getD_eq_getElem?_getD, -List.length_append]
                  try simp
              · rw [hok, he, Bool.not_true, Bool.and_false, Bool.false_and, if_neg (by simp)] at hsu2
                refine ⟨by unfold inI64; omega, j + 1, ⟨by omega, by omega⟩, Cov.go [] [] ?_⟩
                simp [cvT, step, res, boxP2, rowsP, arrPr, boxRw, hU1, hsu2, ColsEq.refl, -List.getD_eq_getElem?_getD]
          · rw [hen2 (by omega)]
            refine ⟨(), Cov.go [] [] ?_⟩
            simp [cvT, step, res, boxP2, rowsP, arrPr, boxRw, ColsEq.refl, -List.getD_eq_getElem?_getD]
        rw [← hps]
        refine SR.run (t := .mk) ?_
        unfold arrPr
        simp -dsimp only [aqT, aqU, aqN, aqS, ↓seqK, ↓blkK, ↓loopK, step, stepBin, Nat.add_assoc nid, ↓reduceIte, Option.toList, ← Int.ofNat_tmod, ← Int.ofNat_tdiv, simprocAttr, BEq.rfl, LN_succ]
        refine S2.no (by simp; omega) ?_
        simp -dsimp only [aqT, aqU, aqN, aqS, ↓seqK, ↓blkK, ↓loopK, step, stepBin, Nat.add_assoc nid, ↓reduceIte, Option.toList, ← Int.ofNat_tmod, ← Int.ofNat_tdiv, simprocAttr, BEq.rfl, LN_succ]
        refine ⟨(), Cov.go [] [] ?_⟩
        simp [cvT, step, res, boxP2, rowsP, arrPr, ColsEq.refl, -List.getD_eq_getElem?_getD]
      · refine SR.run (t := .mk) ?_
        unfold arrPr
        simp -dsimp only [aqT, aqU, aqN, aqS, ↓seqK, ↓blkK, ↓loopK, step, stepBin, Nat.add_assoc nid, ↓reduceIte, Option.toList, ← Int.ofNat_tmod, ← Int.ofNat_tdiv, simprocAttr, BEq.rfl, LN_succ]
        refine ⟨by unfold inI64; omega, k + 1, ⟨by omega, by omega⟩, Cov.go [] [] ?_⟩
        simp [cvT, step, res, boxP2, rowsP, arrPr, ColsEq.refl, -List.getD_eq_getElem?_getD]
    · rw [hend (by omega)]
      refine ⟨(), Cov.go [] [] ?_⟩
      simp [cvT, step, res, arrPr, ColsEq.refl, -List.getD_eq_getElem?_getD]
  refine SR.run (t := .mk) ?_
  unfold arrPr
  simp -dsimp only [aqT, aqU, aqN, aqS, ↓seqK, ↓blkK, ↓loopK, step, stepBin, Nat.add_assoc nid, ↓reduceIte, Option.toList, ← Int.ofNat_tmod, ← Int.ofNat_tdiv, simprocAttr, BEq.rfl, LN_succ]
  refine RetOK.go [(nid, nid + 20)] [] (.inl rfl) ?_
  simp [a65, cvT, step, res, ColsEq.refl, -List.getD_eq_getElem?_getD]
end Go.Proofs.YtpifoghhaohhaaaGreatDoor
namespace Go.Proofs.YtpifoghhaohhaaaGreatDoor
open Go.RowKit Go.Shelf Go.Lib
theorem detecting_c (g0 r0 : Bool) (b : Nat → Bool) (G : List (List UInt8)) (R : RowL) (f : List UInt8) (bl : Bool) (L : List (List UInt8)) (nid : Nat) (h1 : L.length = G.length) (hG : G.length ≤ 1000000) :
    ACall Tryz.prog 157 [dictP g0 r0 b G R, .agg [.str f, litS bl L]] [] nid (.sl nid 0 (detL G L G.length).length) [(nid, arrI (detL G L G.length))] := by
  refine acall_run c157 (by simp [a157]) ?_
  unfold dictP litS at *
  simp -dsimp only [aqT, aqU, aqN, aqS, ↓seqK, ↓blkK, ↓loopK, step, stepBin, Nat.add_assoc nid, ↓reduceIte, Option.toList, ← Int.ofNat_tmod, ← Int.ofNat_tdiv, simprocAttr, BEq.rfl, LN_succ, a157]
  refine LP.mkP (fun k : Nat => k ≤ G.length) (fun k => ⟨[(10, .int .i64 k), (9, .int .i64 G.length), (2, .ptr nid 0), (3, .ptr (nid + 4) 0), (5, .sl (nid + 8) 0 (detL G L k).length)], [(nid + 8, arrI (detL G L k)), (nid, boxP2 g0 r0 b G R), (nid + 4, boxRw f bl L)], nid + 100, nid⟩) (fun k => G.length + 1 - k) 0 (by omega) (Cov.go [] [(nid + 8, 1)] ?_) (fun k hk => ?_)
  · simp [cvT, step, res, boxP2, boxRw, arrI, detL, ColsEq.refl, -List.getD_eq_getElem?_getD]
  have hsu := detL_succ G L k
  have hle := detL_len G L k
  have hen : k = G.length → detL G L G.length = detL G L k := fun e => by rw [e]
  generalize detL G L k = V at *
  unfold boxP2 boxRw arrI
  simp -dsimp only [aqT, aqU, aqN, aqS, ↓seqK, ↓blkK, ↓loopK, step, stepBin, Nat.add_assoc nid, ↓reduceIte, Option.toList, ← Int.ofNat_tmod, ← Int.ofNat_tdiv, simprocAttr, BEq.rfl, LN_succ]
  refine S2.dec (fun h3 => ?_) (fun h3 => ?_) <;> simp -dsimp only [aqT, aqU, aqN, aqS, ↓seqK, ↓blkK, ↓loopK, step, stepBin, Nat.add_assoc nid, ↓reduceIte, Option.toList, ← Int.ofNat_tmod, ← Int.ofNat_tdiv, simprocAttr, BEq.rfl, LN_succ]
  · have hkl : k < G.length := by omega
    refine ⟨by omega, by omega, ?_⟩
    have eo : (!(L.getD k [] == G.getD k [])) = detB G L (k : Nat) := rfl
    rw [eo]
    cases h6 : detB G L (k : Nat) <;> rw [h6] at hsu <;> simp -dsimp only [aqT, aqU, aqN, aqS, ↓seqK, ↓blkK, ↓loopK, step, stepBin, Nat.add_assoc nid, ↓reduceIte, Option.toList, ← Int.ofNat_tmod, ← Int.ofNat_tdiv, simprocAttr, BEq.rfl, LN_succ]
    · rw [if_neg (by simp)] at hsu
      refine ⟨by unfold inI64; omega, k + 1, ⟨by omega, by omega⟩, Cov.go [] [] ?_⟩
      rw [hsu]
      simp [cvT, step, res, boxP2, boxRw, arrI, ColsEq.refl, -List.getD_eq_getElem?_getD]
    · rw [if_pos rfl] at hsu
      rw [getD_appI]
      refine ⟨⟨by omega, by omega⟩, by unfold inI64; omega, k + 1, ⟨by omega, by omega⟩, Cov.go [(nid + 8, nid + 168)] [] ?_⟩
      simp only [hsu]
      simp [cvT, step, res, boxP2, boxRw, arrI, ColsEq.refl, -List.getD_eq_getElem?_getD, -List.length_append]
      try simp
  · rw [hen (by omega)]
    refine RetOK.go [(nid, nid + 8)] [] (.inl rfl) ?_
    simp [a157, cvT, step, res, ColsEq.refl, -List.getD_eq_getElem?_getD]
theorem domF_c (Hs : Heap) (iy T : Nat) (ny : Bool) (Y : List Int) (t : Int) (nid : Nat) (hs : Scoped nid Hs) (hy : getH Hs iy = some (.box T [litI ny Y])) (hY : Y.length ≤ 1000000) :
    ACall Tryz.prog 158 [.int .i64 t, .ptr iy 0] Hs nid (.bool (!Y.contains t)) [] := by
  unfold litI at hy
  obtain ⟨a1, a2, a3⟩ := keyFact hs hy
  have hc := fun m => contains_c ny Y t m (by omega)
  unfold litI at hc
  refine acall_run c158 (by simp [a158]) ?_
  simp -dsimp only [a158, aqT, aqU, aqN, aqS, ↓seqK, ↓blkK, ↓loopK, step, stepBin, Nat.add_assoc nid, ↓reduceIte, Option.toList, ← Int.ofNat_tmod, ← Int.ofNat_tdiv, simprocAttr, BEq.rfl, LN_succ, a1, a2, hy]
  refine CallO.pure (hc _) ?_
  simp -dsimp only [aqT, aqU, aqN, aqS, ↓seqK, ↓blkK, ↓loopK, step, stepBin, Nat.add_assoc nid, ↓reduceIte, Option.toList, ← Int.ofNat_tmod, ← Int.ofNat_tdiv, simprocAttr, BEq.rfl, LN_succ, a1, a2, hy]
  refine RetOK.goF Hs [] [] [] [] [] (.inl rfl) hs (by simp [kOK]) rfl ?_
  simp [a158, cvT, step, res]
set_option maxHeartbeats 8000000 in
theorem dominatedOf_c (g0 r0 : Bool) (b : Nat → Bool) (G : List (List UInt8)) (R : RowL) (nid : Nat) (hB : DictW G R) (hD : dictV G R = 0) (hr : R.length ≤ 7) :
    ACall Tryz.prog 66 [dictP g0 r0 b G R] [] nid (.tup [.sl nid 0 (prs G R R.length).length, .int .i64 0]) [(nid, arrPr (prs G R R.length))] := by
  have hgl := hB.gl
  have hlen := dictV_rows hD
  have hpl : ∀ k, k ≤ R.length → (prs G R k).length ≤ 49 := fun k hk => by
    have := prs_len G R k
    have : k * R.length ≤ 7 * 7 := Nat.mul_le_mul (by omega) hr
    omega
  refine acall_sr c66 (by simp [a66]) ?_
  unfold a66 dictP at *
  refine SR.seq ?_
  simp -dsimp only [aqT, aqU, aqN, aqS, ↓seqK, ↓blkK, ↓loopK, step, stepBin, Nat.add_assoc nid, ↓reduceIte, Option.toList, ← Int.ofNat_tmod, ← Int.ofNat_tdiv, simprocAttr, BEq.rfl, LN_succ]
  refine SR.seq ?_
  simp -dsimp only [aqT, aqU, aqN, aqS, ↓seqK, ↓blkK, ↓loopK, step, stepBin, Nat.add_assoc nid, ↓reduceIte, Option.toList, ← Int.ofNat_tmod, ← Int.ofNat_tdiv, simprocAttr, BEq.rfl, LN_succ]
  refine SR.seqW (ι := Unit) (fun _ => ⟨[(4, .sl (nid + 20) 0 (prs G R R.length).length)], [(nid + 20, arrPr (prs G R R.length))], nid + 9000, nid⟩) ?_ (fun _ => ?_)
  · refine SR.seqTo ⟨[(15, .int .i64 0), (14, .int .i64 R.length), (13, rowsP r0 b R), (4, .lit true 0 []), (1, .ptr nid 0)], [(nid, boxP2 g0 r0 b G R)], nid + 200, nid⟩ ?_ ?_
    · simp -dsimp only [aqT, aqU, aqN, aqS, ↓seqK, ↓blkK, ↓loopK, step, stepBin, Nat.add_assoc nid, ↓reduceIte, Option.toList, ← Int.ofNat_tmod, ← Int.ofNat_tdiv, simprocAttr, BEq.rfl, LN_succ]
      refine Cov.go [] [] ?_
      simp [cvT, step, res, boxP2, rowsP, ColsEq.refl, -List.getD_eq_getElem?_getD]
    refine SR.block ?_
    refine SR.loopP (fun k : Nat => k ≤ R.length) (fun k => ⟨[(15, .int .i64 k), (14, .int .i64 R.length), (13, rowsP r0 b R), (4, .sl (nid + 20) 0 (prs G R k).length), (1, .ptr nid 0)], [(nid + 20, arrPr (prs G R k)), (nid, boxP2 g0 r0 b G R)], nid + 300, nid⟩) (fun k => R.length + 1 - k) 0 (by omega) (Cov.go [] [(nid + 20, 2)] ?_) (fun k hk => ?_)
    · simp [cvT, step, res, boxP2, rowsP, arrPr, prs, ColsEq.refl, -List.getD_eq_getElem?_getD]
    have hend : k = R.length → prs G R R.length = prs G R k := fun e => by rw [e]
    have hps := prs_succ G R k
    have hpk := hpl k hk
    refine SR.seq ?_
    unfold rowsP
    simp -dsimp only [aqT, aqU, aqN, aqS, ↓seqK, ↓blkK, ↓loopK, step, stepBin, Nat.add_assoc nid, ↓reduceIte, Option.toList, ← Int.ofNat_tmod, ← Int.ofNat_tdiv, simprocAttr, BEq.rfl, LN_succ]
    refine SR.seq ?_
    simp -dsimp only [aqT, aqU, aqN, aqS, ↓seqK, ↓blkK, ↓loopK, step, stepBin, Nat.add_assoc nid, ↓reduceIte, Option.toList, ← Int.ofNat_tmod, ← Int.ofNat_tdiv, simprocAttr, BEq.rfl, LN_succ]
    refine S2.dec (fun h3 => ?_) (fun h3 => ?_) <;> simp -dsimp only [aqT, aqU, aqN, aqS, ↓seqK, ↓blkK, ↓loopK, step, stepBin, Nat.add_assoc nid, ↓reduceIte, Option.toList, ← Int.ofNat_tmod, ← Int.ofNat_tdiv, simprocAttr, BEq.rfl, LN_succ]
    · have hkl : k < R.length := by omega
      have hlk := hlen k hkl
      have hpk1 := hpl (k + 1) (by omega)
      refine SR.seqW (ι := Unit) (fun _ => ⟨[(15, .int .i64 k), (14, .int .i64 R.length), (13, rowsP r0 b R), (4, .sl (nid + 20) 0 (prs G R (k + 1)).length), (1, .ptr nid 0)], [(nid + 20, arrPr (prs G R (k + 1))), (nid, boxP2 g0 r0 b G R)], nid + 8000, nid⟩) ?_ (fun _ => ?_)
      · generalize prs G R k = V at *
        refine SR.block ?_
        refine SR.seqTo ⟨[(6, .ptr (nid + 12) 0), (15, .int .i64 k), (14, .int .i64 R.length), (13, rowsP r0 b R), (4, .sl (nid + 20) 0 V.length), (1, .ptr nid 0)], [(nid + 12, boxRw (rowF R k) (b k) (rowR R k)), (nid + 20, arrPr V), (nid, boxP2 g0 r0 b G R)], nid + 400, nid⟩ ?_ ?_
        · unfold arrPr boxP2
          simp -dsimp only [aqT, aqU, aqN, aqS, ↓seqK, ↓blkK, ↓loopK, step, stepBin, Nat.add_assoc nid, ↓reduceIte, Option.toList, ← Int.ofNat_tmod, ← Int.ofNat_tdiv, simprocAttr, BEq.rfl, LN_succ]
          refine ⟨by omega, Cov.go [(nid + 12, nid + 312)] [] ?_⟩
          simp [cvT, step, res, boxP2, rowsP, arrPr, boxRw, ColsEq.refl, -List.getD_eq_getElem?_getD]
        unfold arrPr boxP2 boxRw rowsP
        rw [hps]
        refine SR.seqTo ⟨[(22, .int .i64 0), (21, .int .i64 R.length), (20, rowsP r0 b R), (6, .ptr (nid + 12) 0), (15, .int .i64 k), (14, .int .i64 R.length), (13, rowsP r0 b R), (4, .sl (nid + 20) 0 V.length), (1, .ptr nid 0)], [(nid + 12, boxRw (rowF R k) (b k) (rowR R k)), (nid + 20, arrPr V), (nid, boxP2 g0 r0 b G R)], nid + 500, nid⟩ ?_ ?_
        · simp -dsimp only [aqT, aqU, aqN, aqS, ↓seqK, ↓blkK, ↓loopK, step, stepBin, Nat.add_assoc nid, ↓reduceIte, Option.toList, ← Int.ofNat_tmod, ← Int.ofNat_tdiv, simprocAttr, BEq.rfl, LN_succ]
          refine Cov.go [] [] ?_
          simp [cvT, step, res, boxP2, rowsP, arrPr, boxRw, ColsEq.refl, -List.getD_eq_getElem?_getD]
        refine SR.block ?_
        refine SR.loopP (fun j : Nat => j ≤ R.length) (fun j => ⟨[(22, .int .i64 j), (21, .int .i64 R.length), (20, rowsP r0 b R), (6, .ptr (nid + 12) 0), (15, .int .i64 k), (14, .int .i64 R.length), (13, rowsP r0 b R), (4, .sl (nid + 20) 0 (V ++ prI G R k j).length), (1, .ptr nid 0)], [(nid + 12, boxRw (rowF R k) (b k) (rowR R k)), (nid + 20, arrPr (V ++ prI G R k j)), (nid, boxP2 g0 r0 b G R)], nid + 600, nid⟩) (fun j => R.length + 1 - j) 0 (by omega) (Cov.go [] [] ?_) (fun j hj => ?_)
        · simp [cvT, step, res, boxP2, rowsP, arrPr, boxRw, prI, ColsEq.refl, -List.getD_eq_getElem?_getD]
        have hsu := prI_succ G R k j
        have hen : j = R.length → prI G R k R.length = prI G R k j := fun e => by rw [e]
        have hjl := prI_len G R k j
        have hU : (V ++ prI G R k j).length ≤ 100 := by rw [List.length_append]; omega
        have hsu2 : V ++ prI G R k (j + 1) = if okP G R k j = true then (V ++ prI G R k j) ++ [(rowF R k, rowF R j)] else V ++ prI G R k j := by
          rw [hsu]; split <;> simp
        have hen2 : j = R.length → V ++ prI G R k R.length = V ++ prI G R k j := fun e => by rw [hen e]
        clear hsu hen
        generalize hU1 : V ++ prI G R k (j + 1) = U1 at *
        generalize V ++ prI G R k j = U at *
        have hok : okP G R k j = ((someT G (rowR R k) G.length && !(rowF R k == rowF R j)) && covB G (rowR R k) (rowR R j)) := rfl
        refine SR.seq ?_
        unfold arrPr boxP2 boxRw rowsP
        simp -dsimp only [aqT, aqU, aqN, aqS, ↓seqK, ↓blkK, ↓loopK, step, stepBin, Nat.add_assoc nid, ↓reduceIte, Option.toList, ← Int.ofNat_tmod, ← Int.ofNat_tdiv, simprocAttr, BEq.rfl, LN_succ]
        refine SR.seq ?_
        simp -dsimp only [aqT, aqU, aqN, aqS, ↓seqK, ↓blkK, ↓loopK, step, stepBin, Nat.add_assoc nid, ↓reduceIte, Option.toList, ← Int.ofNat_tmod, ← Int.ofNat_tdiv, simprocAttr, BEq.rfl, LN_succ]
        refine S2.dec (fun h4 => ?_) (fun h4 => ?_) <;> simp -dsimp only [aqT, aqU, aqN, aqS, ↓seqK, ↓blkK, ↓loopK, step, stepBin, Nat.add_assoc nid, ↓reduceIte, Option.toList, ← Int.ofNat_tmod, ← Int.ofNat_tdiv, simprocAttr, BEq.rfl, LN_succ]
        · have hjl2 : j < R.length := by omega
          have hlj := hlen j hjl2
          have hdx := fun m => detecting_c g0 r0 b G R (rowF R k) (b k) (rowR R k) m hlk hgl
          have hdy := fun m => detecting_c g0 r0 b G R (rowF R j) (b j) (rowR R j) m hlj hgl
          have hcov := detL_cov G (rowR R k) (rowR R j)
          have hpos := detL_pos G (rowR R k) G.length
          have hxl := detL_len G (rowR R k) G.length
          have hyl := detL_len G (rowR R j) G.length
          generalize detL G (rowR R k) G.length = X at *
          generalize detL G (rowR R j) G.length = Y at *
          unfold dictP litS at hdx hdy
          refine SR.seqW (ι := Unit) (fun _ => ⟨[(22, .int .i64 j), (21, .int .i64 R.length), (20, rowsP r0 b R), (6, .ptr (nid + 12) 0), (15, .int .i64 k), (14, .int .i64 R.length), (13, rowsP r0 b R), (4, .sl (nid + 20) 0 U1.length), (1, .ptr nid 0)], [(nid + 12, boxRw (rowF R k) (b k) (rowR R k)), (nid + 20, arrPr U1), (nid, boxP2 g0 r0 b G R)], nid + 3000, nid⟩) ?_ (fun _ => ?_)
          · refine SR.block ?_
            refine SR.seqTo ⟨[(8, .ptr (nid + 16) 0), (22, .int .i64 j), (21, .int .i64 R.length), (20, rowsP r0 b R), (6, .ptr (nid + 12) 0), (15, .int .i64 k), (14, .int .i64 R.length), (13, rowsP r0 b R), (4, .sl (nid + 20) 0 U.length), (1, .ptr nid 0)], [(nid + 16, boxRw (rowF R j) (b j) (rowR R j)), (nid + 12, boxRw (rowF R k) (b k) (rowR R k)), (nid + 20, arrPr U), (nid, boxP2 g0 r0 b G R)], nid + 700, nid⟩ ?_ ?_
            · simp -dsimp only [aqT, aqU, aqN, aqS, ↓seqK, ↓blkK, ↓loopK, step, stepBin, Nat.add_assoc nid, ↓reduceIte, Option.toList, ← Int.ofNat_tmod, ← Int.ofNat_tdiv, simprocAttr, BEq.rfl, LN_succ]
              refine ⟨by omega, Cov.go [(nid + 16, nid + 612)] [] ?_⟩
              simp [cvT, step, res, boxP2, rowsP, arrPr, boxRw, ColsEq.refl, -List.getD_eq_getElem?_getD]
            unfold arrPr boxP2 boxRw rowsP
            refine SR.seqTo ⟨[(9, .sl (nid + 28) 0 X.length), (10, .ptr (nid + 24) 0), (8, .ptr (nid + 16) 0), (22, .int .i64 j), (21, .int .i64 R.length), (20, rowsP r0 b R), (6, .ptr (nid + 12) 0), (15, .int .i64 k), (14, .int .i64 R.length), (13, rowsP r0 b R), (4, .sl (nid + 20) 0 U.length), (1, .ptr nid 0)], [(nid + 28, arrI X), (nid + 32, arrI Y), (nid + 24, some (.box 22 [.sl (nid + 32) 0 Y.length])), (nid + 16, boxRw (rowF R j) (b j) (rowR R j)), (nid + 12, boxRw (rowF R k) (b k) (rowR R k)), (nid + 20, arrPr U), (nid, boxP2 g0 r0 b G R)], nid + 900, nid⟩ ?_ ?_
            · simp -dsimp only [aqT, aqU, aqN, aqS, ↓seqK, ↓blkK, ↓loopK, step, stepBin, Nat.add_assoc nid, ↓reduceIte, Option.toList, ← Int.ofNat_tmod, ← Int.ofNat_tdiv, simprocAttr, BEq.rfl, LN_succ]
              refine CallX.pure (hdx _) ?_
              unfold arrI
              simp -dsimp only [aqT, aqU, aqN, aqS, ↓seqK, ↓blkK, ↓loopK, step, stepBin, Nat.add_assoc nid, ↓reduceIte, Option.toList, ← Int.ofNat_tmod, ← Int.ofNat_tdiv, simprocAttr, BEq.rfl, LN_succ]
              refine CallX.pure (hdy _) ?_
              unfold arrI
              simp -dsimp only [aqT, aqU, aqN, aqS, ↓seqK, ↓blkK, ↓loopK, step, stepBin, Nat.add_assoc nid, ↓reduceIte, Option.toList, ← Int.ofNat_tmod, ← Int.ofNat_tdiv, simprocAttr, BEq.rfl, LN_succ]
              refine Cov.go [(nid + 28, nid + 708), (nid + 32, nid + 720), (nid + 24, nid + 724)] [] ?_
              simp [cvT, step, res, boxP2, rowsP, arrPr, arrI, boxRw, ColsEq.refl, -List.getD_eq_getElem?_getD]
            unfold arrI arrPr boxP2 boxRw rowsP
            refine SR.freezeB [nid + 28, nid + 32] (fun n2 => ?_)
            simp only [frzS, frzH, frzBlk, lends, lend, kill, noOs, aqT, aqU, aqN, aqS, ↓seqK, ↓blkK, ↓loopK, step, stepBin, Nat.add_assoc nid, ↓reduceIte, Option.toList, ← Int.ofNat_tmod, ← Int.ofNat_tdiv, simprocAttr, BEq.rfl, LN_succ]
            generalize n2 (nid + 28) = nx
            generalize n2 (nid + 32) = ny
            refine SR.cov (t' := .mk) (st' := ⟨[(9, litI nx X), (10, .ptr (nid + 24) 0), (8, .ptr (nid + 16) 0), (22, .int .i64 j), (21, .int .i64 R.length), (20, rowsP r0 b R), (6, .ptr (nid + 12) 0), (15, .int .i64 k), (14, .int .i64 R.length), (13, rowsP r0 b R), (4, .sl (nid + 20) 0 U.length), (1, .ptr nid 0)], [(nid + 24, some (.box 22 [litI ny Y])), (nid + 16, boxRw (rowF R j) (b j) (rowR R j)), (nid + 12, boxRw (rowF R k) (b k) (rowR R k)), (nid + 20, arrPr U), (nid, boxP2 g0 r0 b G R)], nid + 1000, nid⟩) ?_ ?_
            · refine Cov.go [] [] ?_
              simp [cvT, step, res, boxP2, rowsP, arrPr, litI, boxRw, ColsEq.refl, -List.getD_eq_getElem?_getD]
            refine SR.seqTo ⟨[(11, .bool (!covB G (rowR R k) (rowR R j))), (9, litI nx X), (8, .ptr (nid + 16) 0), (22, .int .i64 j), (21, .int .i64 R.length), (20, rowsP r0 b R), (6, .ptr (nid + 12) 0), (15, .int .i64 k), (14, .int .i64 R.length), (13, rowsP r0 b R), (4, .sl (nid + 20) 0 U.length), (1, .ptr nid 0)], [(nid + 16, boxRw (rowF R j) (b j) (rowR R j)), (nid + 12, boxRw (rowF R k) (b k) (rowR R k)), (nid + 20, arrPr U), (nid, boxP2 g0 r0 b G R)], nid + 1200, nid⟩ ?_ ?_
            · have hcs := fun m (hm : nid + 24 < m) => containsI_h 158 [.ptr (nid + 24) 0] [(nid + 24, some (.box 22 [litI ny Y]))] (fun i => !Y.contains (X.getD i 0)) nx X.length (fun i => X.getD i 0) m (scoped1 hm rfl) (by simp [lowAll, idsOfs, idsOf]; omega) (by omega) (fun i hi m' h' => domF_c [(nid + 24, some (.box 22 [litI ny Y]))] (nid + 24) 22 ny Y (X.getD i 0) m' (scoped1 (by omega) rfl) (by simp only [getH_hit]) (by omega))
              rw [hcov] at hcs
              unfold litI at hcs
              unfold litI arrPr boxP2 boxRw rowsP
              simp -dsimp only [aqT, aqU, aqN, aqS, ↓seqK, ↓blkK, ↓loopK, step, stepBin, Nat.add_assoc nid, ↓reduceIte, Option.toList, ← Int.ofNat_tmod, ← Int.ofNat_tdiv, simprocAttr, BEq.rfl, LN_succ]
              refine CallO.on (hcs _ (by omega)) (subH_get (by simp only [aqT, aqU, aqN, aqS, ↓seqK, ↓blkK, ↓loopK, step, stepBin, Nat.add_assoc nid, ↓reduceIte, Option.toList, ← Int.ofNat_tmod, ← Int.ofNat_tdiv, simprocAttr, BEq.rfl, LN_succ])) ?_
              simp -dsimp only [aqT, aqU, aqN, aqS, ↓seqK, ↓blkK, ↓loopK, step, stepBin, Nat.add_assoc nid, ↓reduceIte, Option.toList, ← Int.ofNat_tmod, ← Int.ofNat_tdiv, simprocAttr, BEq.rfl, LN_succ]
              refine Cov.go [] [] ?_
              simp [cvT, step, res, boxP2, rowsP, arrPr, litI, boxRw, ColsEq.refl, -List.getD_eq_getElem?_getD]
            clear hdx hdy hcov
            rw [← hpos] at hok
            generalize covB G (rowR R k) (rowR R j) = cv at *
            unfold litI arrPr boxP2 boxRw rowsP
            refine SR.run (t := .mk) ?_
            simp -dsimp only [aqT, aqU, aqN, aqS, ↓seqK, ↓blkK, ↓loopK, step, stepBin, Nat.add_assoc nid, ↓reduceIte, Option.toList, ← Int.ofNat_tmod, ← Int.ofNat_tdiv, simprocAttr, BEq.rfl, LN_succ]
            have e1 : decide ((0 : Int) < (X.length : Nat)) = decide (0 < X.length) := by
              rw [Bool.eq_iff_iff]; simp
            cases he : (rowF R k == rowF R j) <;> rw [he] at hok <;> simp -dsimp only [aqT, aqU, aqN, aqS, ↓seqK, ↓blkK, ↓loopK, step, stepBin, Nat.add_assoc nid, ↓reduceIte, Option.toList, ← Int.ofNat_tmod, ← Int.ofNat_tdiv, simprocAttr, BEq.rfl, LN_succ, Bool.not_false, Bool.not_true]
            · rw [e1]
              cases hp : decide (0 < X.length) <;> rw [hp] at hok <;> simp -dsimp only [aqT, aqU, aqN, aqS, ↓seqK, ↓blkK, ↓loopK, step, stepBin, Nat.add_assoc nid, ↓reduceIte, Option.toList, ← Int.ofNat_tmod, ← Int.ofNat_tdiv, simprocAttr, BEq.rfl, LN_succ, Bool.not_false, Bool.not_true]
              · rw [hok, Bool.false_and, Bool.false_and, if_neg (by simp)] at hsu2
                refine ⟨(), Cov.go [] [] ?_⟩
                simp [cvT, step, res, boxP2, rowsP, arrPr, boxRw, hU1, hsu2, ColsEq.refl, -List.getD_eq_getElem?_getD]
              · cases cv <;> simp -dsimp only [aqT, aqU, aqN, aqS, ↓seqK, ↓blkK, ↓loopK, step, stepBin, Nat.add_assoc nid, ↓reduceIte, Option.toList, ← Int.ofNat_tmod, ← Int.ofNat_tdiv, simprocAttr, BEq.rfl, LN_succ, Bool.not_false, Bool.not_true]
                · rw [hok, Bool.and_false, if_neg (by simp)] at hsu2
                  refine ⟨(), Cov.go [] [] ?_⟩
                  simp [cvT, step, res, boxP2, rowsP, arrPr, boxRw, hU1, hsu2, ColsEq.refl, -List.getD_eq_getElem?_getD]
                · rw [hok, if_pos (by rfl)] at hsu2
                  have p1 := prApp1 U (rowF R k, rowF R j)
                  have p2 := prApp2 U (rowF R k, rowF R j)
                  simp only at p1 p2
                  rw [p1, p2]
                  refine ⟨⟨by omega, by omega⟩, (), ?_⟩
                  rw [hsu2]
                  refine Cov.go [(nid + 20, nid + 1284)] [] ?_
                  simp [cvT, step, res, boxP2, rowsP, arrPr, boxRw, ColsEq.refl, -List.getD_eq_getElem?_getD, -List.length_append]
                  try simp
            · rw [hok, Bool.not_true, Bool.and_false, Bool.false_and, if_neg (by simp)] at hsu2
              refine ⟨(), Cov.go [] [] ?_⟩
              simp [cvT, step, res, boxP2, rowsP, arrPr, boxRw, hU1, hsu2, ColsEq.refl, -List.getD_eq_getElem?_getD]
          · refine SR.run (t := .mk) ?_
            unfold arrPr
            simp -dsimp only [aqT, aqU, aqN, aqS, ↓seqK, ↓blkK, ↓loopK, step, stepBin, Nat.add_assoc nid, ↓reduceIte, Option.toList, ← Int.ofNat_tmod, ← Int.ofNat_tdiv, simprocAttr, BEq.rfl, LN_succ]
            refine ⟨by unfold inI64; omega, j + 1, ⟨by omega, by omega⟩, Cov.go [] [] ?_⟩
            simp [cvT, step, res, boxP2, rowsP, arrPr, boxRw, hU1, ColsEq.refl, -List.getD_eq_getElem?_getD]
        · rw [hen2 (by omega)]
          refine ⟨(), Cov.go [] [] ?_⟩
          simp [cvT, step, res, boxP2, rowsP, arrPr, ColsEq.refl, -List.getD_eq_getElem?_getD]
      · refine SR.run (t := .mk) ?_
        unfold arrPr
        simp -dsimp only [aqT, aqU, aqN, aqS, ↓seqK, ↓blkK, ↓loopK, step, stepBin, Nat.add_assoc nid, ↓reduceIte, Option.toList, ← Int.ofNat_tmod, ← Int.ofNat_tdiv, simprocAttr, BEq.rfl, LN_succ]
        refine ⟨by unfold inI64; omega, k + 1, ⟨by omega, by omega⟩, Cov.go [] [] ?_⟩
        simp [cvT, step, res, boxP2, rowsP, arrPr, ColsEq.refl, -List.getD_eq_getElem?_getD]
    · rw [hend (by omega)]
      refine ⟨(), Cov.go [] [] ?_⟩
      simp [cvT, step, res, arrPr, ColsEq.refl, -List.getD_eq_getElem?_getD]
  have hpn := hpl R.length (Nat.le_refl _)
  refine SR.run (t := .mk) ?_
  unfold arrPr
  simp -dsimp only [aqT, aqU, aqN, aqS, ↓seqK, ↓blkK, ↓loopK, step, stepBin, Nat.add_assoc nid, ↓reduceIte, Option.toList, ← Int.ofNat_tmod, ← Int.ofNat_tdiv, simprocAttr, BEq.rfl, LN_succ]
  refine S2.no (by simp; omega) ?_
  simp -dsimp only [aqT, aqU, aqN, aqS, ↓seqK, ↓blkK, ↓loopK, step, stepBin, Nat.add_assoc nid, ↓reduceIte, Option.toList, ← Int.ofNat_tmod, ← Int.ofNat_tdiv, simprocAttr, BEq.rfl, LN_succ]
  refine RetOK.go [(nid, nid + 20)] [] (.inl rfl) ?_
  simp [a66, cvT, step, res, ColsEq.refl, -List.getD_eq_getElem?_getD]
end Go.Proofs.YtpifoghhaohhaaaGreatDoor
namespace Go.Proofs.YtpifoghhaohhaaaGreatDoor
open Go.RowKit Go.Shelf Go.Lib
theorem equalNil_c (nid : Nat) : ACall Tryz.prog 28 [.lit true 0 [], .lit true 0 []] [] nid (.bool true) [] := by
  refine acall_run c28 (by simp [a28]) ?_
  simp -dsimp only [aqT, aqU, aqN, aqS, ↓seqK, ↓blkK, ↓loopK, step, stepBin, Nat.add_assoc nid, ↓reduceIte, Option.toList, ← Int.ofNat_tmod, ← Int.ofNat_tdiv, simprocAttr, BEq.rfl, LN_succ, a28]
  refine LP.mkP (fun k : Nat => k = 0) (fun k : Nat => ⟨[(13, .int .i64 0), (12, .int .i64 0)], [], nid + 100, nid⟩) (fun k => 1) 0 rfl (Cov.go [] [] ?_) (fun k hk => ?_)
  · simp [cvT, step, res]
  simp -dsimp only [aqT, aqU, aqN, aqS, ↓seqK, ↓blkK, ↓loopK, step, stepBin, Nat.add_assoc nid, ↓reduceIte, Option.toList, ← Int.ofNat_tmod, ← Int.ofNat_tdiv, simprocAttr, BEq.rfl, LN_succ]
  refine RetOK.pure (.inl rfl) rfl ?_
  simp [cvT, step, res]
theorem sameRow_c (f : List UInt8) (b1 b2 : Bool) (L : List (List UInt8)) (nid : Nat) (hL : L.length ≤ 1000000) :
    ACall Tryz.prog 170 [.agg [.str f, .lit b1 L.length [.s fun j => L.getD j []]], .agg [.str f, .lit b2 L.length [.s fun j => L.getD j []]]] [] nid (.bool true) [] := by
  have he := fun m => equalS_c b1 b2 L L m (by omega) (by omega)
  rw [show (L == L) = true by simp] at he
  unfold litS at he
  refine acall_run c170 (by simp [a170]) ?_
  simp -dsimp only [a170, aqT, aqU, aqN, aqS, ↓seqK, ↓blkK, ↓loopK, step, stepBin, Nat.add_assoc nid, ↓reduceIte, Option.toList, ← Int.ofNat_tmod, ← Int.ofNat_tdiv, simprocAttr, BEq.rfl, LN_succ, beq_self_eq_true]
  refine CallO.pure (he _) ?_
  simp -dsimp only [aqT, aqU, aqN, aqS, ↓seqK, ↓blkK, ↓loopK, step, stepBin, Nat.add_assoc nid, ↓reduceIte, Option.toList, ← Int.ofNat_tmod, ← Int.ofNat_tdiv, simprocAttr, BEq.rfl, LN_succ]
  refine RetOK.go [] [] (.inl rfl) ?_
  simp [a170, cvT, step, res]
set_option maxHeartbeats 2000000 in
theorem equalRows_c (r1 r2 : Bool) (b1 b2 : Nat → Bool) (R : RowL) (nid : Nat) (hR : R.length ≤ 1000000) (hL : ∀ k, (rowR R k).length ≤ 1000000) :
    ACall Tryz.prog 169 [rowsP r1 b1 R, rowsP r2 b2 R, .fn 170 []] [] nid (.bool true) [] := by
  refine acall_run c169 (by simp [a169]) ?_
  unfold rowsP
  simp -dsimp only [a169, aqT, aqU, aqN, aqS, ↓seqK, ↓blkK, ↓loopK, step, stepBin, Nat.add_assoc nid, ↓reduceIte, Option.toList, ← Int.ofNat_tmod, ← Int.ofNat_tdiv, simprocAttr, BEq.rfl, LN_succ, bne_self_eq_false]
  refine LP.mkP (fun k : Nat => k ≤ R.length) (fun k : Nat => ⟨[(17, .int .i64 k), (16, .int .i64 R.length), (15, rowsP r1 b1 R), (1, rowsP r2 b2 R), (2, .fn 170 [])], [], nid + 100, nid⟩) (fun k => R.length + 1 - k) 0 (by omega) (Cov.go [] [] ?_) (fun k hk => ?_)
  · simp [cvT, step, res, rowsP, ColsEq.refl, -List.getD_eq_getElem?_getD]
  unfold rowsP
  simp -dsimp only [aqT, aqU, aqN, aqS, ↓seqK, ↓blkK, ↓loopK, step, stepBin, Nat.add_assoc nid, ↓reduceIte, Option.toList, ← Int.ofNat_tmod, ← Int.ofNat_tdiv, simprocAttr, BEq.rfl, LN_succ]
  refine S2.dec (fun h3 => ?_) (fun h3 => ?_) <;> simp -dsimp only [aqT, aqU, aqN, aqS, ↓seqK, ↓blkK, ↓loopK, step, stepBin, Nat.add_assoc nid, ↓reduceIte, Option.toList, ← Int.ofNat_tmod, ← Int.ofNat_tdiv, simprocAttr, BEq.rfl, LN_succ]
  · refine ⟨by omega, by omega, CallO.pure (sameRow_c (rowF R k) (b1 k) (b2 k) (rowR R k) _ (hL k)) ?_⟩
    simp -dsimp only [aqT, aqU, aqN, aqS, ↓seqK, ↓blkK, ↓loopK, step, stepBin, Nat.add_assoc nid, ↓reduceIte, Option.toList, ← Int.ofNat_tmod, ← Int.ofNat_tdiv, simprocAttr, BEq.rfl, LN_succ, Bool.not_true]
    refine ⟨by unfold inI64; omega, k + 1, ⟨by omega, by omega⟩, Cov.go [] [] ?_⟩
    simp [cvT, step, res, rowsP, ColsEq.refl, -List.getD_eq_getElem?_getD]
  · refine RetOK.go [] [] (.inl rfl) ?_
    simp [a169, cvT, step, res]
theorem equalRows0_c (nid : Nat) :
    ACall Tryz.prog 169 [.lit true 0 [], .lit true 0 [], .fn 170 []] [] nid (.bool true) [] := by
  refine acall_run c169 (by simp [a169]) ?_
  simp -dsimp only [a169, aqT, aqU, aqN, aqS, ↓seqK, ↓blkK, ↓loopK, step, stepBin, Nat.add_assoc nid, ↓reduceIte, Option.toList, ← Int.ofNat_tmod, ← Int.ofNat_tdiv, simprocAttr, BEq.rfl, LN_succ, bne_self_eq_false]
  refine LP.mkP (fun k : Nat => k = 0) (fun k : Nat => ⟨[(17, .int .i64 0), (16, .int .i64 0)], [], nid + 100, nid⟩) (fun k => 1) 0 rfl (Cov.go [] [] ?_) (fun k hk => ?_)
  · simp [cvT, step, res]
  simp -dsimp only [aqT, aqU, aqN, aqS, ↓seqK, ↓blkK, ↓loopK, step, stepBin, Nat.add_assoc nid, ↓reduceIte, Option.toList, ← Int.ofNat_tmod, ← Int.ofNat_tdiv, simprocAttr, BEq.rfl, LN_succ]
  refine RetOK.pure (.inl rfl) rfl ?_
  simp [cvT, step, res]
theorem sameNone_c (nid : Nat) : ACall Tryz.prog 73 [noneD, noneD] [] nid (.bool true) [] := by
  refine acall_run c73 (by simp [a73]) ?_
  unfold noneD
  simp -dsimp only [aqT, aqU, aqN, aqS, ↓seqK, ↓blkK, ↓loopK, step, stepBin, Nat.add_assoc nid, ↓reduceIte, Option.toList, ← Int.ofNat_tmod, ← Int.ofNat_tdiv, simprocAttr, BEq.rfl, LN_succ, a73]
  refine CallO.pure (equalNil_c _) ?_
  simp -dsimp only [aqT, aqU, aqN, aqS, ↓seqK, ↓blkK, ↓loopK, step, stepBin, Nat.add_assoc nid, ↓reduceIte, Option.toList, ← Int.ofNat_tmod, ← Int.ofNat_tdiv, simprocAttr, BEq.rfl, LN_succ]
  refine CallO.pure (equalRows0_c _) ?_
  simp -dsimp only [aqT, aqU, aqN, aqS, ↓seqK, ↓blkK, ↓loopK, step, stepBin, Nat.add_assoc nid, ↓reduceIte, Option.toList, ← Int.ofNat_tmod, ← Int.ofNat_tdiv, simprocAttr, BEq.rfl, LN_succ]
  refine RetOK.go [] [] (.inl rfl) ?_
  simp [a73, cvT, step, res]
theorem sameDict_c (g1 g2 r1 r2 : Bool) (b1 b2 : Nat → Bool) (G : List (List UInt8)) (R : RowL) (nid : Nat) (hB : DictW G R) :
    ACall Tryz.prog 73 [dictP g1 r1 b1 G R, dictP g2 r2 b2 G R] [] nid (.bool true) [] := by
  have hgl := hB.gl
  have he := fun m => equalS_c g1 g2 G G m (by omega) (by omega)
  have hr := fun m => equalRows_c r1 r2 b1 b2 R m hB.rl (fun k => (hB.rs k).2.1)
  rw [show (G == G) = true by simp] at he
  unfold litS at he
  unfold rowsP at hr
  refine acall_run c73 (by simp [a73]) ?_
  unfold dictP
  simp -dsimp only [aqT, aqU, aqN, aqS, ↓seqK, ↓blkK, ↓loopK, step, stepBin, Nat.add_assoc nid, ↓reduceIte, Option.toList, ← Int.ofNat_tmod, ← Int.ofNat_tdiv, simprocAttr, BEq.rfl, LN_succ, a73]
  refine CallO.pure (he _) ?_
  simp -dsimp only [aqT, aqU, aqN, aqS, ↓seqK, ↓blkK, ↓loopK, step, stepBin, Nat.add_assoc nid, ↓reduceIte, Option.toList, ← Int.ofNat_tmod, ← Int.ofNat_tdiv, simprocAttr, BEq.rfl, LN_succ]
  refine CallO.pure (hr _) ?_
  simp -dsimp only [aqT, aqU, aqN, aqS, ↓seqK, ↓blkK, ↓loopK, step, stepBin, Nat.add_assoc nid, ↓reduceIte, Option.toList, ← Int.ofNat_tmod, ← Int.ofNat_tdiv, simprocAttr, BEq.rfl, LN_succ]
  refine RetOK.go [] [] (.inl rfl) ?_
  simp [a73, cvT, step, res]
set_option maxHeartbeats 2000000 in
theorem equalPr_c (n1 n2 : Bool) (l : PrL) (nid : Nat) (hl : l.length ≤ 1000000) :
    ACall Tryz.prog 67 [.lit n1 l.length [.s fun i => (l.getD i ([], [])).1, .s fun i => (l.getD i ([], [])).2], .lit n2 l.length [.s fun i => (l.getD i ([], [])).1, .s fun i => (l.getD i ([], [])).2]] [] nid (.bool true) [] := by
  refine acall_run c67 (by simp [a67]) ?_
  simp -dsimp only [a67, aqT, aqU, aqN, aqS, ↓seqK, ↓blkK, ↓loopK, step, stepBin, Nat.add_assoc nid, ↓reduceIte, Option.toList, ← Int.ofNat_tmod, ← Int.ofNat_tdiv, simprocAttr, BEq.rfl, LN_succ, bne_self_eq_false]
  refine LP.mkP (fun k : Nat => k ≤ l.length) (fun k : Nat => ⟨[(13, .int .i64 k), (12, .int .i64 l.length), (0, .lit n1 l.length [.s fun i => (l.getD i ([], [])).1, .s fun i => (l.getD i ([], [])).2]), (1, .lit n2 l.length [.s fun i => (l.getD i ([], [])).1, .s fun i => (l.getD i ([], [])).2])], [], nid + 100, nid⟩) (fun k => l.length + 1 - k) 0 (by omega) (Cov.go [] [] ?_) (fun k hk => ?_)
  · simp [cvT, step, res, ColsEq.refl, -List.getD_eq_getElem?_getD]
  simp -dsimp only [aqT, aqU, aqN, aqS, ↓seqK, ↓blkK, ↓loopK, step, stepBin, Nat.add_assoc nid, ↓reduceIte, Option.toList, ← Int.ofNat_tmod, ← Int.ofNat_tdiv, simprocAttr, BEq.rfl, LN_succ]
  refine S2.dec (fun h3 => ?_) (fun h3 => ?_) <;> simp -dsimp only [aqT, aqU, aqN, aqS, ↓seqK, ↓blkK, ↓loopK, step, stepBin, Nat.add_assoc nid, ↓reduceIte, Option.toList, ← Int.ofNat_tmod, ← Int.ofNat_tdiv, simprocAttr, BEq.rfl, LN_succ, beq_self_eq_true, Bool.and_true, Bool.not_true]
  · refine ⟨by omega, by omega, by unfold inI64; omega, k + 1, ⟨by omega, by omega⟩, Cov.go [] [] ?_⟩
    simp [cvT, step, res, ColsEq.refl, -List.getD_eq_getElem?_getD]
  · refine RetOK.go [] [] (.inl rfl) ?_
    simp [a67, cvT, step, res]
theorem equalPr0_c (nid : Nat) : ACall Tryz.prog 67 [.lit true 0 [], .lit true 0 []] [] nid (.bool true) [] := by
  refine acall_run c67 (by simp [a67]) ?_
  simp -dsimp only [a67, aqT, aqU, aqN, aqS, ↓seqK, ↓blkK, ↓loopK, step, stepBin, Nat.add_assoc nid, ↓reduceIte, Option.toList, ← Int.ofNat_tmod, ← Int.ofNat_tdiv, simprocAttr, BEq.rfl, LN_succ, bne_self_eq_false]
  refine LP.mkP (fun k : Nat => k = 0) (fun k : Nat => ⟨[(13, .int .i64 0), (12, .int .i64 0)], [], nid + 100, nid⟩) (fun k => 1) 0 rfl (Cov.go [] [] ?_) (fun k hk => ?_)
  · simp [cvT, step, res]
  simp -dsimp only [aqT, aqU, aqN, aqS, ↓seqK, ↓blkK, ↓loopK, step, stepBin, Nat.add_assoc nid, ↓reduceIte, Option.toList, ← Int.ofNat_tmod, ← Int.ofNat_tdiv, simprocAttr, BEq.rfl, LN_succ]
  refine RetOK.pure (.inl rfl) rfl ?_
  simp [cvT, step, res]
end Go.Proofs.YtpifoghhaohhaaaGreatDoor
namespace Go.Proofs.YtpifoghhaohhaaaGreatDoor
open Go.RowKit Go.Shelf Go.Lib
def dgR : RowL := [([97], [[49]])]
def dgS : SeenL := [(0, [49])]
set_option maxHeartbeats 1000000 in
theorem diagnosedD_c (nid : Nat) : ACall Tryz.prog 25 [] [] nid (.bool true) [] := by
  have hB : DictW [[48]] dgR := ⟨by simp, by intro r hr; simp only [List.mem_singleton] at hr; subst hr; simp, by simp [dgR], fun k => by
    rcases k with _ | k
    · refine ⟨by simp [rowF, dgR], by simp [rowR, dgR], fun r hr => ?_⟩
      simp [rowR, dgR] at hr; subst hr; simp
    · refine ⟨by simp [rowF, dgR], by simp [rowR, dgR], fun r hr => ?_⟩
      simp [rowR, dgR] at hr⟩
  have hS : SnW dgS := ⟨by simp [dgS], fun k => by rcases k with _ | k <;> simp [sR, dgS]⟩
  have hI : SnIn [[48]].length dgS := fun k hk => by
    have : k = 0 := by simp [dgS] at hk; omega
    subst this; simp [sT, dgS]
  have hc := fun nl m => candidates_c false false (fun _ => false) [[48]] dgR nl dgS m hB hS (by rfl) (by rfl) hI
  have e1 : (fun k => sT dgS k) = fun i => [(0 : Int)].getD i 0 := by funext k; rcases k with _ | k <;> rfl
  have e2 : (fun k => sR dgS k) = fun i => ([[49]] : List (List UInt8)).getD i [] := by funext k; rcases k with _ | k <;> rfl
  have e3 : candL dgR dgS = [[97]] := by rfl
  have e4 : consB [[48]] dgS = false := by rfl
  unfold litSn dictP at hc
  rw [e1, e2, e3, e4] at hc
  refine acall_sr c25 (by simp [a25]) ?_
  unfold a25
  refine SR.seq ?_
  simp -dsimp only [aqT, aqU, aqN, aqS, ↓seqK, ↓blkK, ↓loopK, step, stepBin, Nat.add_assoc nid, ↓reduceIte, Option.toList, ← Int.ofNat_tmod, ← Int.ofNat_tdiv, simprocAttr, BEq.rfl, LN_succ]
  refine SR.seqTo ⟨[(1, .ptr (nid + 4) 0)], [(nid + 4, boxP2 false false (fun _ => false) [[48]] dgR)], nid + 100, nid⟩ ?_ ?_
  · simp -dsimp only [aqT, aqU, aqN, aqS, ↓seqK, ↓blkK, ↓loopK, step, stepBin, Nat.add_assoc nid, ↓reduceIte, Option.toList, ← Int.ofNat_tmod, ← Int.ofNat_tdiv, simprocAttr, BEq.rfl, LN_succ]
    refine Cov.go [(nid + 4, nid + 24)] [] ?_
    simp [cvT, step, res, boxP2, ColsEq.refl, -List.getD_eq_getElem?_getD]
    refine ⟨rfl, ColEq.s fun j hj => ?_, ColEq.l fun j hj => ?_⟩
    · obtain rfl : j = 0 := by omega
      rfl
    · obtain rfl : j = 0 := by omega
      exact ⟨rfl, rfl, ColsEq.refl _ _⟩
  refine SR.run (t := .mk) ?_
  unfold boxP2
  simp -dsimp only [aqT, aqU, aqN, aqS, ↓seqK, ↓blkK, ↓loopK, step, stepBin, Nat.add_assoc nid, ↓reduceIte, Option.toList, ← Int.ofNat_tmod, ← Int.ofNat_tdiv, simprocAttr, BEq.rfl, LN_succ]
  refine CallO.lent [nid + 108] (fun nl' => by
    simp only [lends, lend, noOs, aqT, aqU, aqN, aqS, ↓seqK, ↓blkK, ↓loopK, step, stepBin, Nat.add_assoc nid, ↓reduceIte, Option.toList, ← Int.ofNat_tmod, ← Int.ofNat_tdiv, simprocAttr, BEq.rfl, LN_succ]
    exact hc _ _) rfl rfl (by simp only [List.mem_singleton, forall_eq, aqT, aqU, aqN, aqS, ↓seqK, ↓blkK, ↓loopK, step, stepBin, Nat.add_assoc nid, ↓reduceIte, Option.toList, ← Int.ofNat_tmod, ← Int.ofNat_tdiv, simprocAttr, BEq.rfl, LN_succ]) ?_
  unfold arrS
  simp -dsimp only [aqT, aqU, aqN, aqS, ↓seqK, ↓blkK, ↓loopK, step, stepBin, Nat.add_assoc nid, ↓reduceIte, Option.toList, ← Int.ofNat_tmod, ← Int.ofNat_tdiv, simprocAttr, BEq.rfl, LN_succ]
  have heq := fun na nb m => equalS_c na nb [[97]] [[97]] m (by simp) (by simp)
  unfold litS at heq
  refine CallO.lent [nid + 112, nid + 176] (fun nl' => by
    simp only [lends, lend, noOs, aqT, aqU, aqN, aqS, ↓seqK, ↓blkK, ↓loopK, step, stepBin, Nat.add_assoc nid, ↓reduceIte, Option.toList, ← Int.ofNat_tmod, ← Int.ofNat_tdiv, simprocAttr, BEq.rfl, LN_succ]
    exact heq _ _ _) rfl rfl (by simp [getH, idS1, idS2]) ?_
  simp -dsimp only [aqT, aqU, aqN, aqS, ↓seqK, ↓blkK, ↓loopK, step, stepBin, Nat.add_assoc nid, ↓reduceIte, Option.toList, ← Int.ofNat_tmod, ← Int.ofNat_tdiv, simprocAttr, BEq.rfl, LN_succ]
  refine RetOK.go [] [] (.inl rfl) ?_
  simp [a25, cvT, step, res]
end Go.Proofs.YtpifoghhaohhaaaGreatDoor
namespace Go.Proofs.YtpifoghhaohhaaaGreatDoor
open Go.RowKit Go.Shelf Go.Lib
theorem DictB.t {m : Nat} {G : List (List UInt8)} {R : RowL} (h : DictB m G R) (hm : m ≤ 6) : (dictT G R).length ≤ 6600 := by
  have h1 := dictT_len h.gl h.gs h.rl (fun x hx => by
    obtain ⟨a, b, c⟩ := h.rs x hx
    have := namesL_len a
    exact ⟨by omega, b, c⟩)
  have h2 : (m + 1) * 102 ≤ 7 * 102 := Nat.mul_le_mul_right _ (by omega)
  have h3 : (7 + 1) * (104 + (m + 1) * 102) ≤ 8 * (104 + 7 * 102) := Nat.mul_le_mul_left _ (by omega)
  omega
theorem DictB.tw {m : Nat} {G : List (List UInt8)} {R : RowL} (h : DictB m G R) (hm : m ≤ 6) : TxtW G R := ⟨by have := h.t hm; omega⟩
set_option maxHeartbeats 4000000 in
theorem dictString_I (s nid : Nat) (nl : Bool) (A : List Int) (p : Nat) (h : s < nid) (hp : p ≤ 1099300000000) (hA : A.length ≤ 17592186044416) :
    ACallI Tryz.prog 70 [.ptr s 0] [(s, strmC nl A p)] nid (fun x : List UInt8 × Nat => x.1.length ≤ 7000 ∧ x.2 ≤ p + 7000) (fun x => .str x.1) (fun x => [(s, strmC nl A x.2)]) := by
  obtain ⟨e1, e2, e3, e4, e5, e6, e7, e8, e9⟩ := id_all h
  refine acallI_sr c70 (by simp [a70]) ?_
  unfold a70
  refine SR.seq ?_
  simp -dsimp only [aqT, aqU, aqN, aqS, ↓seqK, ↓blkK, ↓loopK, step, stepBin, Nat.add_assoc nid, ↓reduceIte, Option.toList, ← Int.ofNat_tmod, ← Int.ofNat_tdiv, simprocAttr, BEq.rfl, LN_succ, e1, e2, e3, e4, e5, e6, e7, e8, e9]
  refine SR.seqW (ι := {x : List UInt8 × Nat // x.1.length ≤ 6600 ∧ x.2 ≤ p + 6000}) (fun x => ⟨[(3, .str x.1.1), (0, .ptr s 0)], [(s, strmC nl A x.1.2)], nid + 200, nid⟩) ?_ (fun ⟨⟨t, q⟩, ht, hq⟩ => ?_)
  · refine SR.run (t := .mk) ?_
    simp -dsimp only [aqT, aqU, aqN, aqS, ↓seqK, ↓blkK, ↓loopK, step, stepBin, Nat.add_assoc nid, ↓reduceIte, Option.toList, ← Int.ofNat_tmod, ← Int.ofNat_tdiv, simprocAttr, BEq.rfl, LN_succ, e1, e2, e3, e4, e5, e6, e7, e8, e9]
    refine CallO.any (rightDict_I s _ nl A p 4 3 (by omega) (by omega) hA (by omega) (by omega) (by omega)) (subH_get (by simp only [aqT, aqU, aqN, ↓seqK, ↓blkK, ↓loopK, step, stepBin, Nat.reduceBEq, Nat.reduceBeqDiff, Nat.add_assoc nid, Nat.reduceAdd, reduceCtorEq, ↓reduceIte, Nat.reduceLeDiff, Nat.reduceBneDiff, Option.toList, ← Int.ofNat_tmod, ← Int.ofNat_tdiv, Nat.reduceLT, e1, e2, e3, e4, e5, e6, e7, e8, e9, Int.cast_ofNat_Int, Int.reduceBEq, Int.reduceBNe, Int.reduceLT, Int.reduceLE, Int.reduceAdd, Int.reduceSub, Int.reduceMul, Int.reduceToNat, Int.reduceNeg, Int.reduceTMod, Int.reduceEq, not_false_eq_true, Int.reducePow, Int.reduceFDiv, Nat.reducePow, Nat.reduceSub, Nat.reduceMul, Nat.min_eq_left, Nat.reduceEqDiff, BEq.rfl, Int.tdiv_one, LN_succ, strmC])) (fun x hx => ?_)
    obtain ⟨⟨hx1, hx2⟩, hx3⟩ := hx
    have hl := fun m => dictLines_c x.g0 x.r0 x.b x.G x.R m (hx1.w (by omega)) hx2 (hx1.tw (by omega))
    unfold dictP at *
    simp -dsimp only [aqT, aqU, aqN, aqS, ↓seqK, ↓blkK, ↓loopK, step, stepBin, Nat.add_assoc nid, ↓reduceIte, Option.toList, ← Int.ofNat_tmod, ← Int.ofNat_tdiv, simprocAttr, BEq.rfl, LN_succ, e1, e2, e3, e4, e5, e6, e7, e8, e9]
    refine CallO.pure (hl _) ?_
    simp -dsimp only [aqT, aqU, aqN, aqS, ↓seqK, ↓blkK, ↓loopK, step, stepBin, Nat.add_assoc nid, ↓reduceIte, Option.toList, ← Int.ofNat_tmod, ← Int.ofNat_tdiv, simprocAttr, BEq.rfl, LN_succ, e1, e2, e3, e4, e5, e6, e7, e8, e9]
    refine ⟨⟨(dictT x.G x.R, x.q), ⟨hx1.t (by omega), hx3⟩⟩, Cov.go [] [] ?_⟩
    simp [cvT, step, res, e1, e2, e3, e4, e5, e6, e7, e8, e9, strmC]
  simp only at ht hq ⊢
  refine SR.seqW (ι := {x : List UInt8 × Nat // x.1.length ≤ 7000 ∧ x.2 ≤ p + 7000}) (fun x => ⟨[(3, .str x.1.1), (0, .ptr s 0)], [(s, strmC nl A x.1.2)], nid + 3000, nid⟩) ?_ (fun ⟨⟨t, q⟩, ht, hq⟩ => ?_)
  · refine SR.seqW (ι := {m : Nat // m ≤ 2}) (fun m => ⟨[(10, .int .i64 0), (9, .int .i64 m.1), (3, .str t), (0, .ptr s 0)], [(s, strmC nl A (q + 1))], nid + 300, nid⟩) ?_ (fun ⟨m, hm⟩ => ?_)
    · refine SR.run (t := .mk) ?_
      simp -dsimp only [aqT, aqU, aqN, aqS, ↓seqK, ↓blkK, ↓loopK, step, stepBin, Nat.add_assoc nid, ↓reduceIte, Option.toList, ← Int.ofNat_tmod, ← Int.ofNat_tdiv, simprocAttr, BEq.rfl, LN_succ, e1, e2, e3, e4, e5, e6, e7, e8, e9, strmC_low]
      refine CallO.pick_go (T := 3) (nl := nl) (A := A) (p := q) (g := fun i => [0, 0, 1, 2].getD i 0) (by simp only [aqT, aqU, aqN, ↓seqK, ↓blkK, ↓loopK, step, stepBin, Nat.reduceBEq, Nat.reduceBeqDiff, Nat.add_assoc nid, Nat.reduceAdd, reduceCtorEq, ↓reduceIte, Nat.reduceLeDiff, Nat.reduceBneDiff, Option.toList, ← Int.ofNat_tmod, ← Int.ofNat_tdiv, Nat.reduceLT, e1, e2, e3, e4, e5, e6, e7, e8, e9]) (by simp only [aqT, aqU, aqN, ↓seqK, ↓blkK, ↓loopK, step, stepBin, Nat.reduceBEq, Nat.reduceBeqDiff, Nat.add_assoc nid, Nat.reduceAdd, reduceCtorEq, ↓reduceIte, Nat.reduceLeDiff, Nat.reduceBneDiff, Option.toList, ← Int.ofNat_tmod, ← Int.ofNat_tdiv, Nat.reduceLT, e1, e2, e3, e4, e5, e6, e7, e8, e9]) (by simp only [aqT, aqU, aqN, ↓seqK, ↓blkK, ↓loopK, step, stepBin, Nat.reduceBEq, Nat.reduceBeqDiff, Nat.add_assoc nid, Nat.reduceAdd, reduceCtorEq, ↓reduceIte, Nat.reduceLeDiff, Nat.reduceBneDiff, Option.toList, ← Int.ofNat_tmod, ← Int.ofNat_tdiv, Nat.reduceLT, e1, e2, e3, e4, e5, e6, e7, e8, e9]) (by omega) (by omega) hA (by omega) (by omega) ?_
      simp -dsimp only [aqT, aqU, aqN, aqS, ↓seqK, ↓blkK, ↓loopK, step, stepBin, Nat.add_assoc nid, ↓reduceIte, Option.toList, ← Int.ofNat_tmod, ← Int.ofNat_tdiv, simprocAttr, BEq.rfl, LN_succ, e1, e2, e3, e4, e5, e6, e7, e8, e9, strmC_low]
      have hb := getD_all (P := fun x : Int => 0 ≤ x ∧ x ≤ 2) (l := [0, 0, 1, 2]) (d := 0) (by simp) (pickI_lt A q (n := 4) (by omega))
      generalize ([0, 0, 1, 2].getD (pickI A q 4) 0 : Int) = m at hb ⊢
      obtain ⟨m, rfl⟩ : ∃ k : Nat, m = k := ⟨m.toNat, by omega⟩
      refine ⟨⟨m, by omega⟩, Cov.go [] [] ?_⟩
      simp [cvT, step, res, e1, e2, e3, e4, e5, e6, e7, e8, e9, strmC]
    simp only
    refine SR.block ?_
    refine SR.loopP (fun x : Nat × List UInt8 × Nat => x.1 ≤ m ∧ x.2.1.length ≤ 6600 + 8 * x.1 ∧ x.2.2 ≤ q + 1 + 3 * x.1) (fun x => ⟨[(10, .int .i64 x.1), (9, .int .i64 m), (3, .str x.2.1), (0, .ptr s 0)], [(s, strmC nl A x.2.2)], nid + 400, nid⟩) (fun x => m + 1 - x.1) (0, t, q + 1) ⟨by simp only; omega, by simp only; omega, by simp only; omega⟩ (Cov.go [] [] ?_) (fun x hx => ?_)
    · simp [cvT, step, res, e1, e2, e3, e4, e5, e6, e7, e8, e9, strmC]
    obtain ⟨k, t, q3⟩ := x
    obtain ⟨hk, ht, hq3⟩ := hx
    simp only at hk ht hq3 ⊢
    refine SR.run (t := .mk) ?_
    simp -dsimp only [aqT, aqU, aqN, aqS, ↓seqK, ↓blkK, ↓loopK, step, stepBin, Nat.add_assoc nid, ↓reduceIte, Option.toList, ← Int.ofNat_tmod, ← Int.ofNat_tdiv, simprocAttr, BEq.rfl, LN_succ, e1, e2, e3, e4, e5, e6, e7, e8, e9, strmC_low]
    refine S2.dec (fun h2 => ?_) (fun h2 => ?_) <;> simp -dsimp only [aqT, aqU, aqN, aqS, ↓seqK, ↓blkK, ↓loopK, step, stepBin, Nat.add_assoc nid, ↓reduceIte, Option.toList, ← Int.ofNat_tmod, ← Int.ofNat_tdiv, simprocAttr, BEq.rfl, LN_succ, e1, e2, e3, e4, e5, e6, e7, e8, e9, strmC_low]
    · refine CallO.onE (changedX s _ nl A q3 t [32, 10, 48, 49, 103, 102] (by omega) (by omega) (by simp) (by omega) hA) (subH_get (by simp only [aqT, aqU, aqN, ↓seqK, ↓blkK, ↓loopK, step, stepBin, Nat.reduceBEq, Nat.reduceBeqDiff, Nat.add_assoc nid, Nat.reduceAdd, reduceCtorEq, ↓reduceIte, Nat.reduceLeDiff, Nat.reduceBneDiff, Option.toList, ← Int.ofNat_tmod, ← Int.ofNat_tdiv, Nat.reduceLT, e1, e2, e3, e4, e5, e6, e7, e8, e9])) (fun c hc => ?_)
      obtain ⟨c, q4⟩ := c
      obtain ⟨hc1, hc2⟩ := hc
      simp only [List.length_cons, List.length_nil] at hc1 hc2
      simp -dsimp only [aqT, aqU, aqN, aqS, ↓seqK, ↓blkK, ↓loopK, step, stepBin, Nat.add_assoc nid, ↓reduceIte, Option.toList, ← Int.ofNat_tmod, ← Int.ofNat_tdiv, simprocAttr, BEq.rfl, LN_succ, e1, e2, e3, e4, e5, e6, e7, e8, e9, strmC_low]
      refine ⟨by unfold inI64; omega, (k + 1, c, q4), ⟨⟨by simp only; omega, by simp only; omega, by simp only; omega⟩, by simp only; omega⟩, Cov.go [] [] ?_⟩
      simp [cvT, step, res, e1, e2, e3, e4, e5, e6, e7, e8, e9, strmC]
    · refine ⟨⟨(t, q3), ⟨by simp only; omega, by simp only; omega⟩⟩, Cov.go [] [] ?_⟩
      simp [cvT, step, res, e1, e2, e3, e4, e5, e6, e7, e8, e9, strmC]
  simp only at ht hq ⊢
  refine SR.run (t := .mk) ?_
  simp -dsimp only [aqT, aqU, aqN, aqS, ↓seqK, ↓blkK, ↓loopK, step, stepBin, Nat.add_assoc nid, ↓reduceIte, Option.toList, ← Int.ofNat_tmod, ← Int.ofNat_tdiv, simprocAttr, BEq.rfl, LN_succ, e1, e2, e3, e4, e5, e6, e7, e8, e9, strmC_low]
  refine ⟨(t, q), ⟨ht, hq⟩, RetOK.go [] [] (.inl rfl) ?_⟩
  simp [a70, cvT, step, res, e1, e2, e3, e4, e5, e6, e7, e8, e9, strmC]
end Go.Proofs.YtpifoghhaohhaaaGreatDoor
namespace Go.Proofs.YtpifoghhaohhaaaGreatDoor
open Go.RowKit Go.Shelf Go.Lib
theorem read_split {t : List UInt8} (h : (readD t).2.2 = 0) : ∃ G R, readD t = ((G, R), 0, 0) ∧ DictW G R ∧ dictV G R = 0 ∧ t.length ≤ 200000 := by
  unfold readD at *
  by_cases h1 : 200000 < t.length
  · rw [if_pos h1] at h; cases h
  rw [if_neg h1] at *
  by_cases h0 : t = []
  · rw [if_pos h0] at h; cases h
  rw [if_neg h0] at *
  cases hv : (eachW lnOk t).2
  · rw [hv, if_pos rfl] at h
    have h9 : (9 : Int) = 0 := h
    omega
  rw [if_neg (by simp [hv])] at h ⊢
  by_cases hV : dictV (dG (spl t).1) (dR (spl t).1) = 0
  · rw [if_pos hV]
    exact ⟨_, _, rfl, read_W (by omega), hV, by omega⟩
  · rw [if_neg hV] at h
    exact absurd h hV
set_option maxHeartbeats 4000000 in
theorem ldkEnd (nl : Bool) (A : List Int) (q nid : Nat) (hA : A.length ≤ 17592186044416) (hq : q ≤ 20000) :
    SR Tryz.prog (dropV 13 a9.body) ⟨[(3, .ptr (nid + 12) 0)], [(nid + 12, strmC nl A q)], nid + 3000, nid⟩ (RetOK a9.res [] nid (.bool true) []) .mk := by
  simp only [a9, dropV]
  refine SR.seqW (ι := {t : List UInt8 // t.length ≤ 7000}) (fun t => ⟨[(12, .str t.1)], [], nid + 3100, nid⟩) ?_ (fun ⟨t, ht⟩ => ?_)
  · refine SR.run (t := .mk) ?_
    simp -dsimp only [aqT, aqU, aqN, aqS, ↓seqK, ↓blkK, ↓loopK, step, stepBin, Nat.add_assoc nid, ↓reduceIte, Option.toList, ← Int.ofNat_tmod, ← Int.ofNat_tdiv, simprocAttr, BEq.rfl, LN_succ, strmC_low]
    refine CallO.any (dictString_I (nid + 12) _ nl A q (by omega) (by omega) hA) (subH_get (by simp only [aqT, aqU, aqN, aqS, ↓seqK, ↓blkK, ↓loopK, step, stepBin, Nat.add_assoc nid, ↓reduceIte, Option.toList, ← Int.ofNat_tmod, ← Int.ofNat_tdiv, simprocAttr, BEq.rfl, LN_succ, strmC])) (fun x hx => ?_)
    simp -dsimp only [aqT, aqU, aqN, aqS, ↓seqK, ↓blkK, ↓loopK, step, stepBin, Nat.add_assoc nid, ↓reduceIte, Option.toList, ← Int.ofNat_tmod, ← Int.ofNat_tdiv, simprocAttr, BEq.rfl, LN_succ, strmC_low]
    refine ⟨⟨x.1, hx.1⟩, Cov.go [] [] ?_⟩
    simp [cvT, step, res]
  simp only at ht ⊢
  by_cases hE : (readD t).2.2 = 0
  · obtain ⟨G, R, hr, hW, _, _⟩ := read_split hE
    have h1 := fun m => readOk_c t G R m hr
    have h2 := fun m => readROk_c t G R m hr
    have h3 := fun n1 n2 m => sameDict_c false false n1 n2 noB noB G R m hW
    unfold dictP at h3
    unfold arrQr at h1 h2
    refine SR.run (t := .mk) ?_
    simp -dsimp only [aqT, aqU, aqN, aqS, ↓seqK, ↓blkK, ↓loopK, step, stepBin, Nat.add_assoc nid, ↓reduceIte, Option.toList, ← Int.ofNat_tmod, ← Int.ofNat_tdiv, simprocAttr, BEq.rfl, LN_succ]
    refine CallO.pure (h1 _) ?_
    simp -dsimp only [aqT, aqU, aqN, aqS, ↓seqK, ↓blkK, ↓loopK, step, stepBin, Nat.add_assoc nid, ↓reduceIte, Option.toList, ← Int.ofNat_tmod, ← Int.ofNat_tdiv, simprocAttr, BEq.rfl, LN_succ]
    refine CallO.pure (h2 _) ?_
    simp -dsimp only [aqT, aqU, aqN, aqS, ↓seqK, ↓blkK, ↓loopK, step, stepBin, Nat.add_assoc nid, ↓reduceIte, Option.toList, ← Int.ofNat_tmod, ← Int.ofNat_tdiv, simprocAttr, BEq.rfl, LN_succ, beq_self_eq_true]
    refine CallO.lent [nid + 3104, nid + 3144] (fun nl' => by
      simp only [lends, lend, noOs, aqT, aqU, aqN, aqS, ↓seqK, ↓blkK, ↓loopK, step, stepBin, Nat.add_assoc nid, ↓reduceIte, Option.toList, ← Int.ofNat_tmod, ← Int.ofNat_tdiv, simprocAttr, BEq.rfl, LN_succ]
      exact h3 _ _ _) rfl rfl (by simp [getH, idS1, idS2]) ?_
    simp -dsimp only [aqT, aqU, aqN, aqS, ↓seqK, ↓blkK, ↓loopK, step, stepBin, Nat.add_assoc nid, ↓reduceIte, Option.toList, ← Int.ofNat_tmod, ← Int.ofNat_tdiv, simprocAttr, BEq.rfl, LN_succ]
    refine CallO.pure (diagnosedD_c _) ?_
    simp -dsimp only [aqT, aqU, aqN, aqS, ↓seqK, ↓blkK, ↓loopK, step, stepBin, Nat.add_assoc nid, ↓reduceIte, Option.toList, ← Int.ofNat_tmod, ← Int.ofNat_tdiv, simprocAttr, BEq.rfl, LN_succ]
    refine RetOK.go [] [] (.inl rfl) ?_
    simp [a9, cvT, step, res]
  · have h1 := fun m => readBad_c t m hE
    have h2 := fun m => readRBad_c t m hE
    have h3 := fun m => sameNone_c m
    unfold noneD at h1 h2 h3
    refine SR.run (t := .mk) ?_
    simp -dsimp only [aqT, aqU, aqN, aqS, ↓seqK, ↓blkK, ↓loopK, step, stepBin, Nat.add_assoc nid, ↓reduceIte, Option.toList, ← Int.ofNat_tmod, ← Int.ofNat_tdiv, simprocAttr, BEq.rfl, LN_succ]
    refine CallO.pure (h1 _) ?_
    simp -dsimp only [aqT, aqU, aqN, aqS, ↓seqK, ↓blkK, ↓loopK, step, stepBin, Nat.add_assoc nid, ↓reduceIte, Option.toList, ← Int.ofNat_tmod, ← Int.ofNat_tdiv, simprocAttr, BEq.rfl, LN_succ]
    refine CallO.pure (h2 _) ?_
    simp -dsimp only [aqT, aqU, aqN, aqS, ↓seqK, ↓blkK, ↓loopK, step, stepBin, Nat.add_assoc nid, ↓reduceIte, Option.toList, ← Int.ofNat_tmod, ← Int.ofNat_tdiv, simprocAttr, BEq.rfl, LN_succ, beq_self_eq_true]
    refine CallO.pure (h3 _) ?_
    simp -dsimp only [aqT, aqU, aqN, aqS, ↓seqK, ↓blkK, ↓loopK, step, stepBin, Nat.add_assoc nid, ↓reduceIte, Option.toList, ← Int.ofNat_tmod, ← Int.ofNat_tdiv, simprocAttr, BEq.rfl, LN_succ]
    refine CallO.pure (diagnosedD_c _) ?_
    simp -dsimp only [aqT, aqU, aqN, aqS, ↓seqK, ↓blkK, ↓loopK, step, stepBin, Nat.add_assoc nid, ↓reduceIte, Option.toList, ← Int.ofNat_tmod, ← Int.ofNat_tdiv, simprocAttr, BEq.rfl, LN_succ]
    refine RetOK.go [] [] (.inl rfl) ?_
    simp [a9, cvT, step, res]
set_option maxHeartbeats 8000000 in
theorem dictionariesChecked_c (nl : Bool) (A : List Int) (nid : Nat) (hA : A.length ≤ 17592186044416) : ACall Tryz.prog 9 [litI nl A] [] nid (.bool true) [] := by
  have hend := fun q => ldkEnd nl A q nid hA
  simp only [a9, dropV] at hend
  refine acall_sr c9 (by simp [a9]) ?_
  unfold a9 litI
  refine SR.seq ?_
  simp -dsimp only [aqT, aqU, aqN, aqS, ↓seqK, ↓blkK, ↓loopK, step, stepBin, Nat.add_assoc nid, ↓reduceIte, Option.toList, ← Int.ofNat_tmod, ← Int.ofNat_tdiv, simprocAttr, BEq.rfl, LN_succ]
  refine SR.seq ?_
  simp -dsimp only [aqT, aqU, aqN, aqS, ↓seqK, ↓blkK, ↓loopK, step, stepBin, Nat.add_assoc nid, ↓reduceIte, Option.toList, ← Int.ofNat_tmod, ← Int.ofNat_tdiv, simprocAttr, BEq.rfl, LN_succ]
  refine SR.seqW (ι := {x : DictX // DictB 4 x.G x.R ∧ x.q ≤ 1000}) (fun x => ⟨[(3, .ptr (nid + 12) 0), (4, .ptr (nid + 8) 0)], [(nid + 12, strmC nl A x.1.q), (nid + 8, boxP2 x.1.g0 x.1.r0 x.1.b x.1.G x.1.R)], nid + 200, nid⟩) ?_ (fun ⟨⟨g0, r0, b, G, R, q⟩, hB, hq⟩ => ?_)
  · refine SR.run (t := .mk) ?_
    simp -dsimp only [aqT, aqU, aqN, aqS, ↓seqK, ↓blkK, ↓loopK, step, stepBin, Nat.add_assoc nid, ↓reduceIte, Option.toList, ← Int.ofNat_tmod, ← Int.ofNat_tdiv, simprocAttr, BEq.rfl, LN_succ]
    refine CallO.any (dict_I (nid + 12) _ nl A 0 6 4 (by omega) (by omega) hA (by omega) (by omega) (by omega)) (subH_get (by simp only [aqT, aqU, aqN, aqS, ↓seqK, ↓blkK, ↓loopK, step, stepBin, Nat.add_assoc nid, ↓reduceIte, Option.toList, ← Int.ofNat_tmod, ← Int.ofNat_tdiv, simprocAttr, BEq.rfl, LN_succ, strmC])) (fun x hx => ?_)
    unfold dictP
    simp -dsimp only [aqT, aqU, aqN, aqS, ↓seqK, ↓blkK, ↓loopK, step, stepBin, Nat.add_assoc nid, ↓reduceIte, Option.toList, ← Int.ofNat_tmod, ← Int.ofNat_tdiv, simprocAttr, BEq.rfl, LN_succ]
    refine ⟨⟨x, hx.1, by omega⟩, Cov.go [(nid + 8, nid + 28)] [] ?_⟩
    simp [cvT, step, res, boxP2, strmC, ColsEq.refl, -List.getD_eq_getElem?_getD]
  simp only at hB hq ⊢
  have hW := hB.w (by omega)
  have hrl := hB.rl
  have hgl := hB.gl
  unfold boxP2
  refine SR.seqW (ι := {x : SeenL × Nat // SnB G.length x.1 ∧ x.2 ≤ q + 300}) (fun S => ⟨[(5, .sl (nid + 20) 0 S.1.1.length), (3, .ptr (nid + 12) 0), (4, .ptr (nid + 8) 0)], [(nid + 20, arrSn S.1.1), (nid + 12, strmC nl A S.1.2), (nid + 8, boxP2 g0 r0 b G R)], nid + 300, nid⟩) ?_ (fun ⟨⟨S, q2⟩, hSB, hq2⟩ => ?_)
  · refine SR.run (t := .mk) ?_
    have hsn := fun m (hm : nid + 12 < m) => seenOf_I (nid + 12) m nl A q g0 r0 b G R hm (by omega) hA (by omega) hB.gs (by omega) (fun x hx => ⟨by have := (hB.rs x hx).2.1; omega, (hB.rs x hx).2.2⟩)
    unfold dictP at hsn
    simp -dsimp only [aqT, aqU, aqN, aqS, ↓seqK, ↓blkK, ↓loopK, step, stepBin, Nat.add_assoc nid, ↓reduceIte, Option.toList, ← Int.ofNat_tmod, ← Int.ofNat_tdiv, simprocAttr, BEq.rfl, LN_succ]
    refine CallO.any (hsn _ (by omega)) (subH_get (by simp only [aqT, aqU, aqN, aqS, ↓seqK, ↓blkK, ↓loopK, step, stepBin, Nat.add_assoc nid, ↓reduceIte, Option.toList, ← Int.ofNat_tmod, ← Int.ofNat_tdiv, simprocAttr, BEq.rfl, LN_succ, strmC])) (fun x hx => ?_)
    unfold arrSn
    simp -dsimp only [aqT, aqU, aqN, aqS, ↓seqK, ↓blkK, ↓loopK, step, stepBin, Nat.add_assoc nid, ↓reduceIte, Option.toList, ← Int.ofNat_tmod, ← Int.ofNat_tdiv, simprocAttr, BEq.rfl, LN_succ]
    refine ⟨⟨x, hx⟩, Cov.go [(nid + 20, nid + 208)] [] ?_⟩
    simp [cvT, step, res, boxP2, arrSn, strmC, ColsEq.refl, -List.getD_eq_getElem?_getD]
  simp only at hSB hq2 ⊢
  have hSW := hSB.w (by omega)
  unfold arrSn boxP2
  refine SR.freezeB [nid + 20] (fun n2 => ?_)
  simp only [frzS, frzH, frzBlk, lends, lend, kill, noOs, strmC, aqT, aqU, aqN, aqS, ↓seqK, ↓blkK, ↓loopK, step, stepBin, Nat.add_assoc nid, ↓reduceIte, Option.toList, ← Int.ofNat_tmod, ← Int.ofNat_tdiv, simprocAttr, BEq.rfl, LN_succ]
  generalize n2 (nid + 20) = ns
  have hdr := fun m => dictR_c g0 r0 b G R m hW
  have hdd := fun m => dictD_c g0 r0 b G R m hW
  have hsr := fun m => seenR_c g0 r0 b G R ns S m hW hSW
  have hsd := fun m => seenD_c g0 r0 b G R ns S m hW hSW
  unfold dictP at hdr hdd hsr hsd
  unfold litSn at hsr hsd
  refine SR.seqTo ⟨[(6, .int .i64 (dictV G R)), (5, litSn ns S), (3, .ptr (nid + 12) 0), (4, .ptr (nid + 8) 0)], [(nid + 12, strmC nl A q2), (nid + 8, boxP2 g0 r0 b G R)], nid + 400, nid⟩ ?_ ?_
  · simp -dsimp only [aqT, aqU, aqN, aqS, ↓seqK, ↓blkK, ↓loopK, step, stepBin, Nat.add_assoc nid, ↓reduceIte, Option.toList, ← Int.ofNat_tmod, ← Int.ofNat_tdiv, simprocAttr, BEq.rfl, LN_succ]
    refine CallO.pure (hdr _) ?_
    simp -dsimp only [aqT, aqU, aqN, aqS, ↓seqK, ↓blkK, ↓loopK, step, stepBin, Nat.add_assoc nid, ↓reduceIte, Option.toList, ← Int.ofNat_tmod, ← Int.ofNat_tdiv, simprocAttr, BEq.rfl, LN_succ]
    refine Cov.go [] [] ?_
    simp [cvT, step, res, boxP2, litSn, strmC, ColsEq.refl, -List.getD_eq_getElem?_getD]
  refine SR.seqTo ⟨[(6, .int .i64 (dictV G R)), (3, .ptr (nid + 12) 0), (4, .ptr (nid + 8) 0)], [(nid + 12, strmC nl A q2), (nid + 8, boxP2 g0 r0 b G R)], nid + 500, nid⟩ ?_ ?_
  · unfold litSn boxP2
    simp -dsimp only [aqT, aqU, aqN, aqS, ↓seqK, ↓blkK, ↓loopK, step, stepBin, Nat.add_assoc nid, ↓reduceIte, Option.toList, ← Int.ofNat_tmod, ← Int.ofNat_tdiv, simprocAttr, BEq.rfl, LN_succ, strmC_low]
    refine CallX.pure (hdd _) ?_
    simp -dsimp only [aqT, aqU, aqN, aqS, ↓seqK, ↓blkK, ↓loopK, step, stepBin, Nat.add_assoc nid, ↓reduceIte, Option.toList, ← Int.ofNat_tmod, ← Int.ofNat_tdiv, simprocAttr, BEq.rfl, LN_succ, strmC_low, bne_self_eq_false]
    refine CallX.pure (hsd _) ?_
    simp -dsimp only [aqT, aqU, aqN, aqS, ↓seqK, ↓blkK, ↓loopK, step, stepBin, Nat.add_assoc nid, ↓reduceIte, Option.toList, ← Int.ofNat_tmod, ← Int.ofNat_tdiv, simprocAttr, BEq.rfl, LN_succ, strmC_low, bne_self_eq_false]
    refine CallX.pure (hsr _) ?_
    simp -dsimp only [aqT, aqU, aqN, aqS, ↓seqK, ↓blkK, ↓loopK, step, stepBin, Nat.add_assoc nid, ↓reduceIte, Option.toList, ← Int.ofNat_tmod, ← Int.ofNat_tdiv, simprocAttr, BEq.rfl, LN_succ, strmC_low, bne_self_eq_false]
    refine Cov.go [] [] ?_
    simp [cvT, step, res, boxP2, strmC, ColsEq.refl, -List.getD_eq_getElem?_getD]
  clear hdr hdd hsr hsd
  by_cases hD : dictV G R = 0
  · have h1 := fun m => dominated_c g0 r0 b G R m hW hD hrl
    have h2 := fun m => dominatedOf_c g0 r0 b G R m hW hD hrl
    have hpl := prs_len G R R.length
    have hpm : R.length * R.length ≤ 7 * 7 := Nat.mul_le_mul hrl hrl
    have h3 := fun n1 n2 m => equalPr_c n1 n2 (prs G R R.length) m (by omega)
    have hT := hB.tw (by omega)
    have h4 := fun m => text_c g0 r0 b G R m hW hD hT
    have h5 := fun m => dictLines_c g0 r0 b G R m hW hD hT
    generalize prs G R R.length = V at *
    generalize dictT G R = D at *
    rw [hD]
    unfold dictP at h1 h2 h4 h5
    refine SR.seqTo ⟨[(7, .sl (nid + 20) 0 V.length), (8, .int .i64 0), (6, .int .i64 0), (3, .ptr (nid + 12) 0), (4, .ptr (nid + 8) 0)], [(nid + 20, arrPr V), (nid + 12, strmC nl A q2), (nid + 8, boxP2 g0 r0 b G R)], nid + 600, nid⟩ ?_ ?_
    · unfold boxP2
      simp -dsimp only [aqT, aqU, aqN, aqS, ↓seqK, ↓blkK, ↓loopK, step, stepBin, Nat.add_assoc nid, ↓reduceIte, Option.toList, ← Int.ofNat_tmod, ← Int.ofNat_tdiv, simprocAttr, BEq.rfl, LN_succ, strmC_low]
      refine CallO.pure (h1 _) ?_
      unfold arrPr
      simp -dsimp only [aqT, aqU, aqN, aqS, ↓seqK, ↓blkK, ↓loopK, step, stepBin, Nat.add_assoc nid, ↓reduceIte, Option.toList, ← Int.ofNat_tmod, ← Int.ofNat_tdiv, simprocAttr, BEq.rfl, LN_succ, strmC_low]
      refine Cov.go [(nid + 20, nid + 504)] [] ?_
      simp [cvT, step, res, boxP2, strmC, arrPr, ColsEq.refl, -List.getD_eq_getElem?_getD]
    unfold arrPr boxP2
    refine SR.seq ?_
    simp -dsimp only [aqT, aqU, aqN, aqS, ↓seqK, ↓blkK, ↓loopK, step, stepBin, Nat.add_assoc nid, ↓reduceIte, Option.toList, ← Int.ofNat_tmod, ← Int.ofNat_tdiv, simprocAttr, BEq.rfl, LN_succ, strmC_low]
    refine SR.seq ?_
    simp -dsimp only [aqT, aqU, aqN, aqS, ↓seqK, ↓blkK, ↓loopK, step, stepBin, Nat.add_assoc nid, ↓reduceIte, Option.toList, ← Int.ofNat_tmod, ← Int.ofNat_tdiv, simprocAttr, BEq.rfl, LN_succ, strmC_low]
    refine SR.seqTo ⟨[(10, .sl (nid + 24) 0 V.length), (9, .int .i64 0), (7, .sl (nid + 20) 0 V.length), (8, .int .i64 0), (6, .int .i64 0), (3, .ptr (nid + 12) 0), (4, .ptr (nid + 8) 0)], [(nid + 24, arrPr V), (nid + 20, arrPr V), (nid + 12, strmC nl A q2), (nid + 8, boxP2 g0 r0 b G R)], nid + 700, nid⟩ ?_ ?_
    · simp -dsimp only [aqT, aqU, aqN, aqS, ↓seqK, ↓blkK, ↓loopK, step, stepBin, Nat.add_assoc nid, ↓reduceIte, Option.toList, ← Int.ofNat_tmod, ← Int.ofNat_tdiv, simprocAttr, BEq.rfl, LN_succ, strmC_low]
      refine CallO.pure (h2 _) ?_
      unfold arrPr
      simp -dsimp only [aqT, aqU, aqN, aqS, ↓seqK, ↓blkK, ↓loopK, step, stepBin, Nat.add_assoc nid, ↓reduceIte, Option.toList, ← Int.ofNat_tmod, ← Int.ofNat_tdiv, simprocAttr, BEq.rfl, LN_succ, strmC_low]
      refine Cov.go [(nid + 24, nid + 624)] [] ?_
      simp [cvT, step, res, boxP2, strmC, arrPr, ColsEq.refl, -List.getD_eq_getElem?_getD]
    unfold arrPr boxP2
    refine SR.seqTo ⟨[(6, .int .i64 0), (3, .ptr (nid + 12) 0), (4, .ptr (nid + 8) 0)], [(nid + 12, strmC nl A q2), (nid + 8, boxP2 g0 r0 b G R)], nid + 800, nid⟩ ?_ ?_
    · simp -dsimp only [aqT, aqU, aqN, aqS, ↓seqK, ↓blkK, ↓loopK, step, stepBin, Nat.add_assoc nid, ↓reduceIte, Option.toList, ← Int.ofNat_tmod, ← Int.ofNat_tdiv, simprocAttr, BEq.rfl, LN_succ, strmC_low, bne_self_eq_false]
      refine CallO.lent [nid + 20, nid + 24] (fun nl' => by
        simp only [lends, lend, noOs, aqT, aqU, aqN, aqS, ↓seqK, ↓blkK, ↓loopK, step, stepBin, Nat.add_assoc nid, ↓reduceIte, Option.toList, ← Int.ofNat_tmod, ← Int.ofNat_tdiv, simprocAttr, BEq.rfl, LN_succ]
        exact h3 _ _ _) rfl rfl (by simp [getH, idS1, idS2]) ?_
      simp -dsimp only [aqT, aqU, aqN, aqS, ↓seqK, ↓blkK, ↓loopK, step, stepBin, Nat.add_assoc nid, ↓reduceIte, Option.toList, ← Int.ofNat_tmod, ← Int.ofNat_tdiv, simprocAttr, BEq.rfl, LN_succ, strmC_low, Bool.not_true]
      refine Cov.go [] [] ?_
      simp [cvT, step, res, boxP2, strmC, ColsEq.refl, -List.getD_eq_getElem?_getD]
    unfold boxP2
    refine SR.seqTo ⟨[(11, .str D), (8, .int .i64 0), (6, .int .i64 0), (3, .ptr (nid + 12) 0), (4, .ptr (nid + 8) 0)], [(nid + 12, strmC nl A q2), (nid + 8, boxP2 g0 r0 b G R)], nid + 900, nid⟩ ?_ ?_
    · simp -dsimp only [aqT, aqU, aqN, aqS, ↓seqK, ↓blkK, ↓loopK, step, stepBin, Nat.add_assoc nid, ↓reduceIte, Option.toList, ← Int.ofNat_tmod, ← Int.ofNat_tdiv, simprocAttr, BEq.rfl, LN_succ, strmC_low]
      refine CallO.pure (h4 _) ?_
      simp -dsimp only [aqT, aqU, aqN, aqS, ↓seqK, ↓blkK, ↓loopK, step, stepBin, Nat.add_assoc nid, ↓reduceIte, Option.toList, ← Int.ofNat_tmod, ← Int.ofNat_tdiv, simprocAttr, BEq.rfl, LN_succ, strmC_low]
      refine Cov.go [] [] ?_
      simp [cvT, step, res, boxP2, strmC, ColsEq.refl, -List.getD_eq_getElem?_getD]
    unfold boxP2
    refine SR.seqTo ⟨[(3, .ptr (nid + 12) 0)], [(nid + 12, strmC nl A q2)], nid + 3000, nid⟩ ?_ ?_
    · simp -dsimp only [aqT, aqU, aqN, aqS, ↓seqK, ↓blkK, ↓loopK, step, stepBin, Nat.add_assoc nid, ↓reduceIte, Option.toList, ← Int.ofNat_tmod, ← Int.ofNat_tdiv, simprocAttr, BEq.rfl, LN_succ, strmC_low, bne_self_eq_false, beq_self_eq_true]
      refine CallO.pure (h5 _) ?_
      simp -dsimp only [aqT, aqU, aqN, aqS, ↓seqK, ↓blkK, ↓loopK, step, stepBin, Nat.add_assoc nid, ↓reduceIte, Option.toList, ← Int.ofNat_tmod, ← Int.ofNat_tdiv, simprocAttr, BEq.rfl, LN_succ, strmC_low, bne_self_eq_false, beq_self_eq_true, Bool.not_true]
      refine Cov.go [] [] ?_
      simp [cvT, step, res, strmC]
    exact hend q2 (by omega)
  · have h1 := fun m => domBad_c g0 r0 b G R m hW hD
    have h4 := fun m => textBad_c g0 r0 b G R m hW hD
    generalize dictV G R = e at *
    have he : (e == 0) = false := by simpa using hD
    have he2 : (e != 0) = true := by simpa using hD
    unfold dictP at h1 h4
    unfold boxP2
    refine SR.seqTo ⟨[(7, .lit true 0 []), (8, .int .i64 e), (6, .int .i64 e), (3, .ptr (nid + 12) 0), (4, .ptr (nid + 8) 0)], [(nid + 12, strmC nl A q2), (nid + 8, boxP2 g0 r0 b G R)], nid + 600, nid⟩ ?_ ?_
    · simp -dsimp only [aqT, aqU, aqN, aqS, ↓seqK, ↓blkK, ↓loopK, step, stepBin, Nat.add_assoc nid, ↓reduceIte, Option.toList, ← Int.ofNat_tmod, ← Int.ofNat_tdiv, simprocAttr, BEq.rfl, LN_succ, strmC_low]
      refine CallO.pure (h1 _) ?_
      simp -dsimp only [aqT, aqU, aqN, aqS, ↓seqK, ↓blkK, ↓loopK, step, stepBin, Nat.add_assoc nid, ↓reduceIte, Option.toList, ← Int.ofNat_tmod, ← Int.ofNat_tdiv, simprocAttr, BEq.rfl, LN_succ, strmC_low]
      refine Cov.go [] [] ?_
      simp [cvT, step, res, boxP2, strmC, ColsEq.refl, -List.getD_eq_getElem?_getD]
    unfold boxP2
    refine SR.seq ?_
    simp -dsimp only [aqT, aqU, aqN, aqS, ↓seqK, ↓blkK, ↓loopK, step, stepBin, Nat.add_assoc nid, ↓reduceIte, Option.toList, ← Int.ofNat_tmod, ← Int.ofNat_tdiv, simprocAttr, BEq.rfl, LN_succ, strmC_low]
    refine SR.seq ?_
    simp -dsimp only [aqT, aqU, aqN, aqS, ↓seqK, ↓blkK, ↓loopK, step, stepBin, Nat.add_assoc nid, ↓reduceIte, Option.toList, ← Int.ofNat_tmod, ← Int.ofNat_tdiv, simprocAttr, BEq.rfl, LN_succ, strmC_low]
    refine SR.seqTo ⟨[(10, .lit true 0 []), (9, .int .i64 e), (7, .lit true 0 []), (8, .int .i64 e), (6, .int .i64 e), (3, .ptr (nid + 12) 0), (4, .ptr (nid + 8) 0)], [(nid + 12, strmC nl A q2), (nid + 8, boxP2 g0 r0 b G R)], nid + 700, nid⟩ ?_ ?_
    · simp -dsimp only [aqT, aqU, aqN, aqS, ↓seqK, ↓blkK, ↓loopK, step, stepBin, Nat.add_assoc nid, ↓reduceIte, Option.toList, ← Int.ofNat_tmod, ← Int.ofNat_tdiv, simprocAttr, BEq.rfl, LN_succ, strmC_low]
      rw [he]
      simp -dsimp only [aqT, aqU, aqN, aqS, ↓seqK, ↓blkK, ↓loopK, step, stepBin, Nat.add_assoc nid, ↓reduceIte, Option.toList, ← Int.ofNat_tmod, ← Int.ofNat_tdiv, simprocAttr, BEq.rfl, LN_succ, strmC_low]
      refine Cov.go [] [] ?_
      simp [cvT, step, res, boxP2, strmC, ColsEq.refl, -List.getD_eq_getElem?_getD]
    unfold boxP2
    refine SR.seqTo ⟨[(6, .int .i64 e), (3, .ptr (nid + 12) 0), (4, .ptr (nid + 8) 0)], [(nid + 12, strmC nl A q2), (nid + 8, boxP2 g0 r0 b G R)], nid + 800, nid⟩ ?_ ?_
    · simp -dsimp only [aqT, aqU, aqN, aqS, ↓seqK, ↓blkK, ↓loopK, step, stepBin, Nat.add_assoc nid, ↓reduceIte, Option.toList, ← Int.ofNat_tmod, ← Int.ofNat_tdiv, simprocAttr, BEq.rfl, LN_succ, strmC_low, bne_self_eq_false]
      refine CallO.pure (equalPr0_c _) ?_
      simp -dsimp only [aqT, aqU, aqN, aqS, ↓seqK, ↓blkK, ↓loopK, step, stepBin, Nat.add_assoc nid, ↓reduceIte, Option.toList, ← Int.ofNat_tmod, ← Int.ofNat_tdiv, simprocAttr, BEq.rfl, LN_succ, strmC_low, Bool.not_true]
      refine Cov.go [] [] ?_
      simp [cvT, step, res, boxP2, strmC, ColsEq.refl, -List.getD_eq_getElem?_getD]
    unfold boxP2
    refine SR.seqTo ⟨[(11, .str []), (8, .int .i64 e), (6, .int .i64 e), (3, .ptr (nid + 12) 0), (4, .ptr (nid + 8) 0)], [(nid + 12, strmC nl A q2), (nid + 8, boxP2 g0 r0 b G R)], nid + 900, nid⟩ ?_ ?_
    · simp -dsimp only [aqT, aqU, aqN, aqS, ↓seqK, ↓blkK, ↓loopK, step, stepBin, Nat.add_assoc nid, ↓reduceIte, Option.toList, ← Int.ofNat_tmod, ← Int.ofNat_tdiv, simprocAttr, BEq.rfl, LN_succ, strmC_low]
      refine CallO.pure (h4 _) ?_
      simp -dsimp only [aqT, aqU, aqN, aqS, ↓seqK, ↓blkK, ↓loopK, step, stepBin, Nat.add_assoc nid, ↓reduceIte, Option.toList, ← Int.ofNat_tmod, ← Int.ofNat_tdiv, simprocAttr, BEq.rfl, LN_succ, strmC_low]
      refine Cov.go [] [] ?_
      simp [cvT, step, res, boxP2, strmC, ColsEq.refl, -List.getD_eq_getElem?_getD]
    unfold boxP2
    refine SR.seqTo ⟨[(3, .ptr (nid + 12) 0)], [(nid + 12, strmC nl A q2)], nid + 3000, nid⟩ ?_ ?_
    · simp -dsimp only [aqT, aqU, aqN, aqS, ↓seqK, ↓blkK, ↓loopK, step, stepBin, Nat.add_assoc nid, ↓reduceIte, Option.toList, ← Int.ofNat_tmod, ← Int.ofNat_tdiv, simprocAttr, BEq.rfl, LN_succ, strmC_low, bne_self_eq_false, beq_self_eq_true, he, he2]
      refine Cov.go [] [] ?_
      simp [cvT, step, res, strmC]
    exact hend q2 (by omega)
end Go.Proofs.YtpifoghhaohhaaaGreatDoor
namespace Go.Proofs.YtpifoghhaohhaaaGreatDoor
open Go.RowKit
theorem handed_shaped {H : Type} {enc : TypeId × Value → H} {a : Assume} {C : Checked} {os : Os} {f : FuncId} {fn : Func} {s : ChangeSpec} {conds : List PathCond} {apart fresh handsOn again : Bool} {X : World → Array Value → Prop}
    (hX : ∀ (w w' : World) (args : Array Value), w.heap = w'.heap → X w args → X w' args)
    (own : ownKnob C.prog.godebug = none) (started : os.Started) (noInit : C.prog.inits.idxOf? f = none) (hfn : C.prog.funcs[f]? = some fn)
    (witness : ∃ (w : World) (tape : Tape) (i : Input), w.os = os ∧ (w.forCall tape i).Shaped C.prog ∧ i.vars = [] ∧ Input.okWide C.prog (w.forCall tape i) .any w.heap.size f i ∧
      ((s.pre enc C.prog fn conds apart (w.forCall tape i).memory i.args ∧ X (w.forCall tape i).memory i.args) ∧ sizedMet enc C.prog fn (OpenSpec.ofChange s) apart (w.forCall tape i).memory i.args) ∧ a.holds C.prog (lone (Frame.enter C.prog f i.args .normal) [] (w.forCall tape i)))
    (contract : ∀ (W : World) (base : Nat) (args : Array Value) (ds gs : List (DataW H)) (before : List MemPlace),
      (∀ (j : Nat) t v, fn.params[j]? = some t → args[j]? = some v → Value.okWide C.prog W .any base t v) →
      DataW.Whole enc C.prog fn.params.toList s.vars apart W args.toList ds gs before →
      conds.all (PathCond.test C.prog ⟨fn.params.toList, ds, s.plain.varTypes C.prog, gs⟩) = true →
      (DataW.weightsEach C.prog (fn.params.toList ++ s.plain.varTypes C.prog) (ds ++ gs)).all (· ≤ reachBytes) = true → X W args → W.ShapedOpen C.prog →
      Calls C.prog f args W fun e W' => ∃ v, e = .returned v ∧ s.post enc C.prog fn apart fresh handsOn again W args v W') :
    ReturnsInHanded a C os f .any (fun w args => (s.pre enc C.prog fn conds apart w args ∧ X w args) ∧ sizedMet enc C.prog fn (OpenSpec.ofChange s) apart w args) (s.post enc C.prog fn apart fresh handsOn again) := by
  refine returnsInHanded_of_calls own started noInit witness ?_
  intro w tape i _ hsh _ hok hpre _
  obtain ⟨_, _, _, fn', hfn', _, _, _, _, hval⟩ := hok
  have e : fn' = fn := Option.some.inj (hfn'.symm.trans hfn)
  subst e
  obtain ⟨⟨⟨ds, gs, before, hw, hc⟩, hx⟩, hz⟩ := hpre
  have hw' := DataW.Whole.of_heap (w' := w.forCall tape i) (by rfl) hw
  refine (contract (w.forCall tape i) w.heap.size i.args ds gs before hval hw' hc (hz.weights hw) (hX _ _ _ (by rfl) hx) hsh).mono fun e W' ⟨v, he, hp⟩ => ?_
  subst he
  exact ChangeSpec.post_blind hp
theorem gok_cell {W : World} {g : Nat} {m : Int} (h : W.cell? ⟨g, 0, none⟩ = some (.int .i64 m)) : g < W.heap.size ∧ ∃ o, W.heap[g]? = some o ∧ cell0 o = some (.int .i64 m) := by
  unfold World.cell? at h
  simp only at h
  split at h
  · rename_i c t f hc
    refine ⟨?_, _, hc, ?_⟩
    · rcases Nat.lt_or_ge g W.heap.size with hl | hl
      · exact hl
      · rw [Array.getElem?_eq_none hl] at hc; cases hc
    · simpa [cell0] using h
  · cases h
set_option maxRecDepth 1000000 in
theorem gok0_of {W : World} (h : W.ShapedOpen Tryz.prog) : GOK0 (fun b => W.heap[b]?) W.heap.size := by
  obtain ⟨m, hm⟩ := cell_of_shapedOpen_int (g := 1) (t := 3) (zero := #[.int .i64 0]) (k := .i64) h (of_decide_eq_true (by kernel_rfl)) (by kernel_rfl) rfl (by kernel_rfl) (by kernel_rfl) Tryz.underlying3
  obtain ⟨h1, o, h2, h3⟩ := gok_cell hm
  exact ⟨o, m, h1, h2, h3⟩
theorem gok_of {W : World} (h : W.ShapedOpen Tryz.prog) : GOK (fun b => W.heap[b]?) W.heap.size := gok0_of h
end Go.Proofs.YtpifoghhaohhaaaGreatDoor
namespace Go.Proofs.YtpifoghhaohhaaaGreatDoor
open Go.ChangeShapes Go.WideShapes Go.ChangeAt Go.RowKit
def cellsD : Nat → DataW Unit → List Value
  | 0, _ => []
  | n + 1, .agg l => l.flatMap (cellsD n)
  | _ + 1, .lit (.int k z) => [.int k z]
  | _ + 1, _ => []
noncomputable def laidWorld (os : Os) : World :=
  let w0 := World.holding Tryz.prog os ⟨#[], #[], []⟩
  let put (h : Array Obj) (g : Nat) (cs : List Value) : Array Obj := h.modify g fun
    | .cells _ t frozen => .cells cs.toArray t frozen
    | o => o
  { w0 with heap := put (put (put (put (put (w0.heap) ((Tryz.prog.globalNamed "unicode/utf8.acceptRanges").getD 0) (cellsD 9 Rows.laid_unicode_utf8_acceptRanges)) ((Tryz.prog.globalNamed "unicode/utf8.first").getD 0) (cellsD 9 Rows.laid_unicode_utf8_first)) ((Tryz.prog.globalNamed "math/bits.deBruijn32tab").getD 0) (cellsD 9 Rows.laid_math_bits_deBruijn32tab)) ((Tryz.prog.globalNamed "math/bits.deBruijn64tab").getD 0) (cellsD 9 Rows.laid_math_bits_deBruijn64tab)) ((Tryz.prog.globalNamed "internal/strconv.uint64pow10").getD 0) (cellsD 9 Rows.laid_internal_strconv_uint64pow10) }
set_option maxRecDepth 1000000 in
theorem dictionariesChecked_met (os : Os) (args : Array Value) : laidMetH Tryz.prog Rows.dictionariesCheckedRow.laid ((laidWorld os).forCall (fun _ _ => 0) ⟨#[], args, []⟩).memory := by
  show laidMet Tryz.prog Rows.dictionariesCheckedRow.laid _
  exact laidMet_of_run' 10 (by kernel_rfl) (by kernel_rfl)
theorem dictionariesChecked_own : ownKnob Tryz.prog.godebug = none := by kernel_rfl
theorem dictionariesChecked_laidOut : laidOutB Tryz.prog = true := by kernel_rfl
theorem dictionariesChecked_cells : Tryz.prog.cellsOf 3 = 1 := by kernel_rfl
theorem dictionariesChecked_bytes : Tryz.prog.bytesOf 3 = 8 := by kernel_rfl
set_option maxRecDepth 100000 in
theorem dictionariesChecked_block {W : World} {base : Nat} {a0 : Option Addr} {len cap : Nat} (h : Value.okWide Tryz.prog W .any base 22 (.slice a0 len cap)) : ∀ a, a0 = some a → a.block < W.heap.size := by
  intro a e
  subst e
  simp only [Value.okWide, Tryz.underlying22, Cell.okWide, Cell.ok] at h
  obtain ⟨_, _, _, _, row, cells, hs, _⟩ := h
  rcases Nat.lt_or_ge a.block W.heap.size with hl | hl
  · exact hl
  · have hn : W.heap[a.block]? = none := Array.getElem?_eq_none hl
    simp [World.shape?, hn] at hs
set_option maxRecDepth 100000 in
theorem dictionariesChecked_lifted (os : Os) (started : os.Started) (H : Type) (enc : TypeId × Value → H) :
    ReturnsInHanded {} Tryz.checked os 9 .any (fun w args => (Rows.dictionariesCheckedSpec.pre enc Tryz.prog Tryz.f9 Rows.dictionariesCheckedRow.domain false w args ∧ laidMetH Tryz.prog Rows.dictionariesCheckedRow.laid w) ∧ sizedMet enc Tryz.prog Tryz.f9 (OpenSpec.ofChange Rows.dictionariesCheckedSpec) false w args)
      (Rows.dictionariesCheckedSpec.post enc Tryz.prog Tryz.f9 false true false false) := by
  refine handed_shaped (C := Tryz.checked) (X := fun w _ => laidMetH Tryz.prog Rows.dictionariesCheckedRow.laid w) (fun _ _ _ hh h => h.of_heap hh) dictionariesChecked_own started (by kernel_rfl) Tryz.func9
    (ChangeSpec.witness_at (enc := enc) (C := Tryz.checked) (os := os) (X := fun w _ => laidMetH Tryz.prog Rows.dictionariesCheckedRow.laid w) false (laidWorld os) #[.slice none 0 0] 8 rfl (by kernel_rfl) (by kernel_rfl) (by kernel_rfl) (by kernel_rfl) (by kernel_rfl) (dictionariesChecked_met os _)) ?_
  intro W base args ds gs before hval0 hW hcnd hsz0 _ hsh
  have hsz : (DataW.weightsEach Tryz.prog (Tryz.f9.params.toList ++ Rows.dictionariesCheckedSpec.plain.varTypes Tryz.prog) (ds ++ gs)).all (· ≤ reachBytes) = true := hsz0
  clear hsz0
  have hval : ∀ (j : Nat) t v, Tryz.f9.params[j]? = some t → args[j]? = some v → Value.okWide Tryz.prog W .any base t v := hval0
  have hW' := hW
  obtain ⟨p, q, hA0, hV, rfl, hfz, hnd⟩ := hW
  have hA : DataW.TrodAll enc Tryz.prog W 0 (fun _ => true) true Tryz.f9.params.toList args.toList ds p := hA0
  rw [Tryz.params9] at hA hval hsz
  obtain ⟨v0, vs0, d0, ds0, p0, q0, hargs, rfl, rfl, h0, r0⟩ := trodAll_cons hA
  obtain ⟨rfl, rfl, rfl⟩ := trodAll_nil r0
  obtain rfl : args = #[v0] := by cases args; simp_all
  obtain ⟨rfl, rfl⟩ := trodVars_none hV
  obtain ⟨a0, len0, cap0, rfl⟩ := okWide_slice Tryz.underlying22 (hval 0 22 v0 rfl rfl)
  have k0 := h0
  have lt0 : ∀ x ∈ p0, x.block < W.heap.size := by obtain ⟨m, hm⟩ := k0; exact DataW.trod_lt m _ _ _ hm
  obtain ⟨L, rfl, hr, hblk, hwf, hlen, hcap, hle⟩ : ∃ L : List Int, len0 = L.length ∧ RowV W a0 (ints L) ∧ (∀ a, a0 = some a → a.block < W.heap.size) ∧ Within (-9223372036854775808) 9223372036854775807 L ∧ L.length ≤ 17592186044415 ∧ (a0 = none → cap0 = 0) ∧ L.length ≤ cap0 := by
    obtain ⟨fuel, hf⟩ := h0
    rcases open_ints Tryz.underlying22 Tryz.underlying3 dictionariesChecked_cells hf with ⟨hcs, _⟩ | ⟨x, l, c, zs, hcs, _, hl, hm, hz, hx, hcell, hwz⟩
    · simp [Value.cells] at hcs
      obtain ⟨rfl, rfl, rfl⟩ := hcs
      exact ⟨[], rfl, (fun k u hu => by simp [ints] at hu), (fun a e => by cases e), (fun y hy => by cases hy), by simp, fun _ => rfl, by simp⟩
    · simp [Value.cells] at hcs
      obtain ⟨rfl, rfl, rfl⟩ := hcs
      simp only [Prod.mk.injEq] at hx
      obtain ⟨rfl, rfl⟩ := hx
      simp only [if_true] at hz
      have hreach : len0 * 8 ≤ 140737488351232 := by
        have := sized_slice hsz (j := 0) (t := 22) (e := 3) rfl rfl Tryz.underlying22
        rw [dictionariesChecked_bytes] at this
        simp only [lits, List.length_map, List.length_take, List.length_drop, reachBytes] at this
        omega
      have hll : (zs.take len0).length = len0 := by rw [List.length_take]; omega
      refine ⟨zs.take len0, hll.symm, ?_, ?_, ?_, by omega, (fun e => by cases e), by omega⟩
      · intro k u hu
        obtain ⟨b, off, spot⟩ := x
        have hk : k < len0 := by
          have := (List.getElem?_eq_some_iff.1 hu).1
          simp only [ints, List.length_map] at this
          omega
        have hspot : spot = none := by simpa [Addr.add] using World.cell?_spot (hcell 0 (by omega))
        subst hspot
        refine ⟨b, off, rfl, ?_⟩
        have hc := hcell k (by omega)
        simp only [ints, List.getElem?_map, List.getElem?_take, hk, if_true] at hu
        have hkz : k < zs.length := by omega
        rw [List.getElem?_eq_getElem hkz] at hu
        simp only [Option.map_some, Option.some.injEq] at hu
        subst hu
        rw [List.getD_eq_getElem?_getD, List.getElem?_eq_getElem hkz] at hc
        have e : (⟨b, off, none⟩ : Addr).add k = ⟨b, off + k, none⟩ := by unfold Addr.add; split <;> simp_all
        rw [e] at hc
        simpa using hc
      · exact dictionariesChecked_block (hval 0 22 _ rfl rfl)
      · intro y hy
        have h1 : IntKind.i64.min = -9223372036854775808 := rfl
        have h2 : IntKind.i64.max = 9223372036854775807 := rfl
        have := hwz y (List.mem_of_mem_take hy)
        simp [Lit.wf, h1, h2] at this
        omega
  clear hA0 hval0
  refine (calls_of_acall Tryz.func9 (by kernel_rfl) (by kernel_rfl) hr hcap hle (gok_of hsh) (fun nl nid => dictionariesChecked_c nl L nid (by omega))).mono fun e W' ⟨he, bel⟩ => ?_
  subst he
  exact ⟨_, rfl, _, _, _, [], _, [], hW', trodAll_mk1 (shut_bool Tryz.underlying4 _), (trodAll_cons_mk (Below.trod dictionariesChecked_laidOut (by kernel_rfl) (of_decide_eq_true (by kernel_rfl)) k0 bel lt0) trodAll_mk0), rfl, bel.frame _, fun h => by cases h⟩
end Go.Proofs.YtpifoghhaohhaaaGreatDoor
namespace Go.Proofs.YtpifoghhaohhaaaGreatDoor
open Go.ChangeShapes Go.WideShapes Go.ChangeAt Go.RowKit
theorem dictionariesChecked_f_laidOut : laidOutB Tryz.pinned.checked.prog = true := by kernel_rfl
theorem dictionariesChecked_f_mapsRowed : mapsRowed Tryz.pinned.checked.prog = true := by kernel_rfl
theorem dictionariesChecked_f_inPlace : (Rows.dictionariesCheckedRow.inPlace == Tryz.pinned.checked.prog.inPlace 9) = true := by kernel_rfl
theorem dictionariesChecked_f_unfollowed : (Rows.dictionariesCheckedRow.unfollowed == Tryz.pinned.checked.prog.unfollowed 9) = true := by kernel_rfl
theorem dictionariesChecked_f_recurses : (Rows.dictionariesCheckedRow.recurses == Tryz.pinned.checked.prog.recurses 9) = true := by kernel_rfl
theorem dictionariesChecked_f_named : (Rows.dictionariesCheckedRow.named == Tryz.pinned.checked.prog.varsNamed 9) = true := by kernel_rfl
theorem dictionariesChecked_f_plainKeys : (Rows.dictionariesCheckedRow.plainKeys == Tryz.pinned.checked.prog.plainKeys) = true := by kernel_rfl
theorem dictionariesChecked_f_heard : Tryz.pinned.checked.prog.stopsHeard = true := by kernel_rfl
theorem dictionariesChecked_f_enter : Tryz.pinned.checked.prog.mayEnter = true := by kernel_rfl
theorem dictionariesChecked_closed : joinedFacts Tryz.pinned.checked.prog 9 Tryz.f9 Rows.dictionariesCheckedSpec Rows.dictionariesCheckedRow = true := by
  unfold joinedFacts
  rw [dictionariesChecked_f_laidOut, dictionariesChecked_f_mapsRowed, dictionariesChecked_f_inPlace, dictionariesChecked_f_unfollowed, dictionariesChecked_f_recurses, dictionariesChecked_f_named, dictionariesChecked_f_plainKeys, dictionariesChecked_f_heard, dictionariesChecked_f_enter]
  kernel_rfl
theorem dictionariesChecked_over : Rows.dictionariesCheckedRow.holds Tryz.pinned (OpenSpec.ofChange Rows.dictionariesCheckedSpec) :=
  OpenClaim.holds_of_wide 9 Tryz.f9 rfl rfl rfl rfl rfl rfl rfl ⟨rfl, rfl, rfl, rfl, rfl⟩ rfl rfl rfl rfl rfl (by kernel_rfl) Tryz.func9 dictionariesChecked_closed
    (of_decide_eq_true (by kernel_rfl)) (by unfold Func.isWrapper; first | (rw [if_pos (by decide +kernel)]; kernel_rfl) | (rw [if_neg (by decide +kernel)]; exact ⟨rfl, rfl⟩))
    (fun os started H enc _ => dictionariesChecked_lifted os started H enc)
end Go.Proofs.YtpifoghhaohhaaaGreatDoor
