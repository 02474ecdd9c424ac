/-
  pattern.Order, by the abstract machine.
-/
import Derived.Test.YthcldfmlfjomfaaDoorKOO4
import Derived.Test.YthcldfmlfjomfaaDoorKOO1
import Derived.Sort.EncStr
import Derived.Test.YthcldfmlfjomfaaDoorProg
import Derived.RangeFuncBox
import Derived.RangeFuncWrites
import Derived.RangeFuncLeaves
import Derived.Shelf.Abstract
import Derived.WalkKit
import Derived.OwnWalkIn
import Derived.TacticsInMore
import Derived.LoopNIn
import Derived.LoopIn
import Derived.Maps.AppendAt
import Derived.Test.YthcldfmlfjomfaaDoorKOO3
import Derived.Lib.Bytealg
import Derived.Laws.Externs
set_option linter.unusedVariables false
set_option linter.unusedSimpArgs false
set_option maxRecDepth 100000
namespace Go.Proofs.YthcldfmlfjomfaaDoor
open Go.RowKit Go.Lib
def intsO (l : List Nat) : List Int := l.map fun i : Nat => (i : Int)
theorem first_c (b : Nat) (nl : Bool) (v : List (List UInt8)) (w : Nat) (hv : ∀ s ∈ v, s.length = w) (hw : w ≤ 100) (hn : v.length ≤ 10) (i : Nat) (d : MK → Bool) (nid : Nat) (hb : b + 20 < nid) (hi : i < v.length) :
    ACall Tryd.prog 113 (.int .i64 (1 <<< i : Nat) :: .int .i64 (i : Nat) :: capO b) (hsO b nl v d) nid (.int .i64 (costV (dV v) v.length (1 <<< i) i)) [(b + 20, mapO v (domO v.length (v.length - 1) (1 <<< i) i d))] :=
  count_c b nl v w hv hw hn (v.length - 1) (1 <<< i) i d nid hb (by have := zc_one hi; omega) (by rw [Nat.shiftLeft_eq, Nat.one_mul]; exact Nat.pow_lt_pow_right (by omega) hi) hi
theorem fst_lt (v : List (List UInt8)) (h : 0 < v.length) {k : Nat} (hk : k ≤ v.length) : fstO (dV v) v.length k < v.length := by
  cases k with
  | zero => exact h
  | succ k => have := fstO_lt (dV v) v.length (k + 1) (by omega); omega
theorem getD_appI (l : List Int) (x : Int) : (fun i => if i < l.length then l.getD i 0 else [x].getD (i - l.length) 0) = fun i => (l ++ [x]).getD i 0 := by
  funext i
  rw [List.getD_eq_getElem?_getD, List.getD_eq_getElem?_getD, List.getD_eq_getElem?_getD, List.getElem?_append]
  split <;> rfl
theorem cost_hb {v : List (List UInt8)} {w : Nat} (hv : ∀ s ∈ v, s.length = w) (hw : w ≤ 100) (hn : v.length ≤ 10) (ws i : Nat) : 0 ≤ costV (dV v) v.length ws i ∧ costV (dV v) v.length ws i ≤ 1000 := by
  have h1 := cost_bd (dV_bd hv) (n := v.length) ws i
  have h2 : zc v.length ws ≤ v.length := by
    have := List.length_filter_le (fun i => !ws.testBit i) (List.range v.length)
    rw [List.length_range] at this
    exact this
  have h3 : (w : Int) * (zc v.length ws : Nat) ≤ 100 * 10 := Int.mul_le_mul (by omega) (by omega) (by omega) (by omega)
  omega
set_option maxHeartbeats 8000000 in
theorem order_all (nl : Bool) (v : List (List UInt8)) (w : Nat) (nid : Nat) (hv : ∀ s ∈ v, s.length = w) (hw : w ≤ 100) (hn : v.length ≤ 10) (h0 : 0 < v.length) (hp : patV w v = 0) : ACall Tryd.prog 49 [.int .i64 (w : Nat), litS nl v] [] nid (.tup [.sl nid 0 v.length, .int .i64 (sumO v), .int .i64 0]) [(nid, arrI (intsO (orderO v)))] := by
  refine acall_sr c49 (by simp [a49]) ?_
  unfold a49
  unfold litS
  refine SR.seq ?_
  simp -dsimp only [aqT, aqU, aqN, ↓seqK, ↓blkK, ↓loopK, step, stepBin, Nat.reduceBEq, Nat.reduceBeqDiff, Nat.add_assoc nid, Nat.reduceAdd, reduceCtorEq, ↓reduceIte, Nat.reduceLeDiff, Nat.reduceBneDiff, Option.toList, ← Int.ofNat_tmod, ← Int.ofNat_tdiv, Nat.reduceLT, Int.cast_ofNat_Int, Int.reduceBEq, Int.reduceBNe, Int.reduceLT, Int.reduceLE, Int.reduceAdd, Int.reduceSub, Int.reduceMul, Int.reduceToNat, Int.reduceNeg, Int.reduceTMod, Int.reduceEq, not_false_eq_true, Int.reducePow, Int.reduceFDiv, Nat.reducePow, Nat.reduceSub, Nat.reduceMul, Nat.min_eq_left, Nat.reduceEqDiff, BEq.rfl, Int.tdiv_one, LN_succ]
  refine SR.seq ?_
  simp -dsimp only [aqT, aqU, aqN, ↓seqK, ↓blkK, ↓loopK, step, stepBin, Nat.reduceBEq, Nat.reduceBeqDiff, Nat.add_assoc nid, Nat.reduceAdd, reduceCtorEq, ↓reduceIte, Nat.reduceLeDiff, Nat.reduceBneDiff, Option.toList, ← Int.ofNat_tmod, ← Int.ofNat_tdiv, Nat.reduceLT, Int.cast_ofNat_Int, Int.reduceBEq, Int.reduceBNe, Int.reduceLT, Int.reduceLE, Int.reduceAdd, Int.reduceSub, Int.reduceMul, Int.reduceToNat, Int.reduceNeg, Int.reduceTMod, Int.reduceEq, not_false_eq_true, Int.reducePow, Int.reduceFDiv, Nat.reducePow, Nat.reduceSub, Nat.reduceMul, Nat.min_eq_left, Nat.reduceEqDiff, BEq.rfl, Int.tdiv_one, LN_succ]
  refine CallO.pure (checkVectors_all nl w v _ (by omega) (fun s hs => by have := hv s hs; omega)) ?_
  rw [hp]
  simp -dsimp only [aqT, aqU, aqN, ↓seqK, ↓blkK, ↓loopK, step, stepBin, Nat.reduceBEq, Nat.reduceBeqDiff, Nat.add_assoc nid, Nat.reduceAdd, reduceCtorEq, ↓reduceIte, Nat.reduceLeDiff, Nat.reduceBneDiff, Option.toList, ← Int.ofNat_tmod, ← Int.ofNat_tdiv, Nat.reduceLT, Int.cast_ofNat_Int, Int.reduceBEq, Int.reduceBNe, Int.reduceLT, Int.reduceLE, Int.reduceAdd, Int.reduceSub, Int.reduceMul, Int.reduceToNat, Int.reduceNeg, Int.reduceTMod, Int.reduceEq, not_false_eq_true, Int.reducePow, Int.reduceFDiv, Nat.reducePow, Nat.reduceSub, Nat.reduceMul, Nat.min_eq_left, Nat.reduceEqDiff, BEq.rfl, Int.tdiv_one, LN_succ]
  refine SR.seq ?_
  simp -dsimp only [aqT, aqU, aqN, ↓seqK, ↓blkK, ↓loopK, step, stepBin, Nat.reduceBEq, Nat.reduceBeqDiff, Nat.add_assoc nid, Nat.reduceAdd, reduceCtorEq, ↓reduceIte, Nat.reduceLeDiff, Nat.reduceBneDiff, Option.toList, ← Int.ofNat_tmod, ← Int.ofNat_tdiv, Nat.reduceLT, Int.cast_ofNat_Int, Int.reduceBEq, Int.reduceBNe, Int.reduceLT, Int.reduceLE, Int.reduceAdd, Int.reduceSub, Int.reduceMul, Int.reduceToNat, Int.reduceNeg, Int.reduceTMod, Int.reduceEq, not_false_eq_true, Int.reducePow, Int.reduceFDiv, Nat.reducePow, Nat.reduceSub, Nat.reduceMul, Nat.min_eq_left, Nat.reduceEqDiff, BEq.rfl, Int.tdiv_one, LN_succ]
  refine SR.seq ?_
  simp -dsimp only [aqT, aqU, aqN, ↓seqK, ↓blkK, ↓loopK, step, stepBin, Nat.reduceBEq, Nat.reduceBeqDiff, Nat.add_assoc nid, Nat.reduceAdd, reduceCtorEq, ↓reduceIte, Nat.reduceLeDiff, Nat.reduceBneDiff, Option.toList, ← Int.ofNat_tmod, ← Int.ofNat_tdiv, Nat.reduceLT, Int.cast_ofNat_Int, Int.reduceBEq, Int.reduceBNe, Int.reduceLT, Int.reduceLE, Int.reduceAdd, Int.reduceSub, Int.reduceMul, Int.reduceToNat, Int.reduceNeg, Int.reduceTMod, Int.reduceEq, not_false_eq_true, Int.reducePow, Int.reduceFDiv, Nat.reducePow, Nat.reduceSub, Nat.reduceMul, Nat.min_eq_left, Nat.reduceEqDiff, BEq.rfl, Int.tdiv_one, LN_succ]
  refine S2.dec (fun h3 => absurd h3 (by omega)) (fun h3 => ?_) <;> simp -dsimp only [aqT, aqU, aqN, ↓seqK, ↓blkK, ↓loopK, step, stepBin, Nat.reduceBEq, Nat.reduceBeqDiff, Nat.add_assoc nid, Nat.reduceAdd, reduceCtorEq, ↓reduceIte, Nat.reduceLeDiff, Nat.reduceBneDiff, Option.toList, ← Int.ofNat_tmod, ← Int.ofNat_tdiv, Nat.reduceLT, Int.cast_ofNat_Int, Int.reduceBEq, Int.reduceBNe, Int.reduceLT, Int.reduceLE, Int.reduceAdd, Int.reduceSub, Int.reduceMul, Int.reduceToNat, Int.reduceNeg, Int.reduceTMod, Int.reduceEq, not_false_eq_true, Int.reducePow, Int.reduceFDiv, Nat.reducePow, Nat.reduceSub, Nat.reduceMul, Nat.min_eq_left, Nat.reduceEqDiff, BEq.rfl, Int.tdiv_one, LN_succ]
  rw [show (((v.length : Nat) : Int) == 0) = false from by rw [beq_eq_false_iff_ne]; omega]
  simp -dsimp only [aqT, aqU, aqN, ↓seqK, ↓blkK, ↓loopK, step, stepBin, Nat.reduceBEq, Nat.reduceBeqDiff, Nat.add_assoc nid, Nat.reduceAdd, reduceCtorEq, ↓reduceIte, Nat.reduceLeDiff, Nat.reduceBneDiff, Option.toList, ← Int.ofNat_tmod, ← Int.ofNat_tdiv, Nat.reduceLT, Int.cast_ofNat_Int, Int.reduceBEq, Int.reduceBNe, Int.reduceLT, Int.reduceLE, Int.reduceAdd, Int.reduceSub, Int.reduceMul, Int.reduceToNat, Int.reduceNeg, Int.reduceTMod, Int.reduceEq, not_false_eq_true, Int.reducePow, Int.reduceFDiv, Nat.reducePow, Nat.reduceSub, Nat.reduceMul, Nat.min_eq_left, Nat.reduceEqDiff, BEq.rfl, Int.tdiv_one, LN_succ]
  refine SR.seq ?_
  simp -dsimp only [aqT, aqU, aqN, ↓seqK, ↓blkK, ↓loopK, step, stepBin, Nat.reduceBEq, Nat.reduceBeqDiff, Nat.add_assoc nid, Nat.reduceAdd, reduceCtorEq, ↓reduceIte, Nat.reduceLeDiff, Nat.reduceBneDiff, Option.toList, ← Int.ofNat_tmod, ← Int.ofNat_tdiv, Nat.reduceLT, Int.cast_ofNat_Int, Int.reduceBEq, Int.reduceBNe, Int.reduceLT, Int.reduceLE, Int.reduceAdd, Int.reduceSub, Int.reduceMul, Int.reduceToNat, Int.reduceNeg, Int.reduceTMod, Int.reduceEq, not_false_eq_true, Int.reducePow, Int.reduceFDiv, Nat.reducePow, Nat.reduceSub, Nat.reduceMul, Nat.min_eq_left, Nat.reduceEqDiff, BEq.rfl, Int.tdiv_one, LN_succ]
  refine SR.seq ?_
  simp -dsimp only [aqT, aqU, aqN, ↓seqK, ↓blkK, ↓loopK, step, stepBin, Nat.reduceBEq, Nat.reduceBeqDiff, Nat.add_assoc nid, Nat.reduceAdd, reduceCtorEq, ↓reduceIte, Nat.reduceLeDiff, Nat.reduceBneDiff, Option.toList, ← Int.ofNat_tmod, ← Int.ofNat_tdiv, Nat.reduceLT, Int.cast_ofNat_Int, Int.reduceBEq, Int.reduceBNe, Int.reduceLT, Int.reduceLE, Int.reduceAdd, Int.reduceSub, Int.reduceMul, Int.reduceToNat, Int.reduceNeg, Int.reduceTMod, Int.reduceEq, not_false_eq_true, Int.reducePow, Int.reduceFDiv, Nat.reducePow, Nat.reduceSub, Nat.reduceMul, Nat.min_eq_left, Nat.reduceEqDiff, BEq.rfl, Int.tdiv_one, LN_succ]
  refine SR.seq ?_
  simp -dsimp only [aqT, aqU, aqN, ↓seqK, ↓blkK, ↓loopK, step, stepBin, Nat.reduceBEq, Nat.reduceBeqDiff, Nat.add_assoc nid, Nat.reduceAdd, reduceCtorEq, ↓reduceIte, Nat.reduceLeDiff, Nat.reduceBneDiff, Option.toList, ← Int.ofNat_tmod, ← Int.ofNat_tdiv, Nat.reduceLT, Int.cast_ofNat_Int, Int.reduceBEq, Int.reduceBNe, Int.reduceLT, Int.reduceLE, Int.reduceAdd, Int.reduceSub, Int.reduceMul, Int.reduceToNat, Int.reduceNeg, Int.reduceTMod, Int.reduceEq, not_false_eq_true, Int.reducePow, Int.reduceFDiv, Nat.reducePow, Nat.reduceSub, Nat.reduceMul, Nat.min_eq_left, Nat.reduceEqDiff, BEq.rfl, Int.tdiv_one, LN_succ]
  refine SR.seq ?_
  simp -dsimp only [aqT, aqU, aqN, ↓seqK, ↓blkK, ↓loopK, step, stepBin, Nat.reduceBEq, Nat.reduceBeqDiff, Nat.add_assoc nid, Nat.reduceAdd, reduceCtorEq, ↓reduceIte, Nat.reduceLeDiff, Nat.reduceBneDiff, Option.toList, ← Int.ofNat_tmod, ← Int.ofNat_tdiv, Nat.reduceLT, Int.cast_ofNat_Int, Int.reduceBEq, Int.reduceBNe, Int.reduceLT, Int.reduceLE, Int.reduceAdd, Int.reduceSub, Int.reduceMul, Int.reduceToNat, Int.reduceNeg, Int.reduceTMod, Int.reduceEq, not_false_eq_true, Int.reducePow, Int.reduceFDiv, Nat.reducePow, Nat.reduceSub, Nat.reduceMul, Nat.min_eq_left, Nat.reduceEqDiff, BEq.rfl, Int.tdiv_one, LN_succ]
  refine SR.seqEx (fun d : MK → Bool => ⟨[(11, .int .i64 (fstO (dV v) v.length v.length : Nat)), (8, .ptr (nid + 4) 0), (3, .ptr (nid + 12) 0), (10, .ptr (nid + 16) 0)], hsO nid nl v d, nid + 200, nid⟩) ?_ (fun d => ?_)
  · simp -dsimp only [aqT, aqU, aqN, ↓seqK, ↓blkK, ↓loopK, step, stepBin, Nat.reduceBEq, Nat.reduceBeqDiff, Nat.add_assoc nid, Nat.reduceAdd, reduceCtorEq, ↓reduceIte, Nat.reduceLeDiff, Nat.reduceBneDiff, Option.toList, ← Int.ofNat_tmod, ← Int.ofNat_tdiv, Nat.reduceLT, Int.cast_ofNat_Int, Int.reduceBEq, Int.reduceBNe, Int.reduceLT, Int.reduceLE, Int.reduceAdd, Int.reduceSub, Int.reduceMul, Int.reduceToNat, Int.reduceNeg, Int.reduceTMod, Int.reduceEq, not_false_eq_true, Int.reducePow, Int.reduceFDiv, Nat.reducePow, Nat.reduceSub, Nat.reduceMul, Nat.min_eq_left, Nat.reduceEqDiff, BEq.rfl, Int.tdiv_one, LN_succ]
    refine LP.mkP (fun x : Nat × (MK → Bool) => x.1 ≤ v.length) (fun x => ⟨[(34, .int .i64 x.1), (33, .int .i64 v.length), (11, .int .i64 (fstO (dV v) v.length x.1 : Nat)), (8, .ptr (nid + 4) 0), (3, .ptr (nid + 12) 0), (10, .ptr (nid + 16) 0)], hsO nid nl v x.2, nid + 100, nid⟩) (fun x => v.length + 1 - x.1) (0, fun _ => false) (by simp) (Cov.go [(nid + 4, nid + 48), (nid + 8, nid + 84), (nid + 12, nid), (nid + 16, nid + 92), (nid + 20, nid + 80)] [] ?_) (fun x hx => ?_)
    · unfold hsO boxNn boxRm boxVs boxCf mapO capO litS
      simp [cvT, step, res, fstO]
    obtain ⟨k, d⟩ := x
    simp only at hx ⊢
    unfold hsO boxNn boxRm boxVs boxCf mapO capO litS
    simp -dsimp only [aqT, aqU, aqN, ↓seqK, ↓blkK, ↓loopK, step, stepBin, Nat.reduceBEq, Nat.reduceBeqDiff, Nat.add_assoc nid, Nat.reduceAdd, reduceCtorEq, ↓reduceIte, Nat.reduceLeDiff, Nat.reduceBneDiff, Option.toList, ← Int.ofNat_tmod, ← Int.ofNat_tdiv, Nat.reduceLT, Int.cast_ofNat_Int, Int.reduceBEq, Int.reduceBNe, Int.reduceLT, Int.reduceLE, Int.reduceAdd, Int.reduceSub, Int.reduceMul, Int.reduceToNat, Int.reduceNeg, Int.reduceTMod, Int.reduceEq, not_false_eq_true, Int.reducePow, Int.reduceFDiv, Nat.reducePow, Nat.reduceSub, Nat.reduceMul, Nat.min_eq_left, Nat.reduceEqDiff, BEq.rfl, Int.tdiv_one, LN_succ]
    refine S2.dec (fun h3 => ?_) (fun h3 => ?_) <;> simp -dsimp only [aqT, aqU, aqN, ↓seqK, ↓blkK, ↓loopK, step, stepBin, Nat.reduceBEq, Nat.reduceBeqDiff, Nat.add_assoc nid, Nat.reduceAdd, reduceCtorEq, ↓reduceIte, Nat.reduceLeDiff, Nat.reduceBneDiff, Option.toList, ← Int.ofNat_tmod, ← Int.ofNat_tdiv, Nat.reduceLT, Int.cast_ofNat_Int, Int.reduceBEq, Int.reduceBNe, Int.reduceLT, Int.reduceLE, Int.reduceAdd, Int.reduceSub, Int.reduceMul, Int.reduceToNat, Int.reduceNeg, Int.reduceTMod, Int.reduceEq, not_false_eq_true, Int.reducePow, Int.reduceFDiv, Nat.reducePow, Nat.reduceSub, Nat.reduceMul, Nat.min_eq_left, Nat.reduceEqDiff, BEq.rfl, Int.tdiv_one, LN_succ]
    · have hkl : k < v.length := by omega
      have hfl := fst_lt v h0 hx
      have hf : fstO (dV v) v.length (k + 1) = if costV (dV v) v.length (1 <<< k) k < costV (dV v) v.length (1 <<< fstO (dV v) v.length k) (fstO (dV v) v.length k) then k else fstO (dV v) v.length k := rfl
      generalize fstO (dV v) v.length k = F at *
      refine ⟨by omega, ?_⟩
      rw [shl64 k (by omega)]
      refine CallX.on (first_c nid nl v w hv hw hn k d _ (by omega) hkl) (subH_cons (by simp only [aqT, aqU, aqN, ↓seqK, ↓blkK, ↓loopK, step, stepBin, Nat.reduceBEq, Nat.reduceBeqDiff, Nat.add_assoc nid, Nat.reduceAdd, reduceCtorEq, ↓reduceIte, Nat.reduceLeDiff, Nat.reduceBneDiff, Option.toList, ← Int.ofNat_tmod, ← Int.ofNat_tdiv, Nat.reduceLT, Int.cast_ofNat_Int, Int.reduceBEq, Int.reduceBNe, Int.reduceLT, Int.reduceLE, Int.reduceAdd, Int.reduceSub, Int.reduceMul, Int.reduceToNat, Int.reduceNeg, Int.reduceTMod, Int.reduceEq, not_false_eq_true, Int.reducePow, Int.reduceFDiv, Nat.reducePow, Nat.reduceSub, Nat.reduceMul, Nat.min_eq_left, Nat.reduceEqDiff, BEq.rfl, Int.tdiv_one, LN_succ, boxNn]) (subH_cons (by simp only [aqT, aqU, aqN, ↓seqK, ↓blkK, ↓loopK, step, stepBin, Nat.reduceBEq, Nat.reduceBeqDiff, Nat.add_assoc nid, Nat.reduceAdd, reduceCtorEq, ↓reduceIte, Nat.reduceLeDiff, Nat.reduceBneDiff, Option.toList, ← Int.ofNat_tmod, ← Int.ofNat_tdiv, Nat.reduceLT, Int.cast_ofNat_Int, Int.reduceBEq, Int.reduceBNe, Int.reduceLT, Int.reduceLE, Int.reduceAdd, Int.reduceSub, Int.reduceMul, Int.reduceToNat, Int.reduceNeg, Int.reduceTMod, Int.reduceEq, not_false_eq_true, Int.reducePow, Int.reduceFDiv, Nat.reducePow, Nat.reduceSub, Nat.reduceMul, Nat.min_eq_left, Nat.reduceEqDiff, BEq.rfl, Int.tdiv_one, LN_succ, boxRm]) (subH_cons (by simp only [aqT, aqU, aqN, ↓seqK, ↓blkK, ↓loopK, step, stepBin, Nat.reduceBEq, Nat.reduceBeqDiff, Nat.add_assoc nid, Nat.reduceAdd, reduceCtorEq, ↓reduceIte, Nat.reduceLeDiff, Nat.reduceBneDiff, Option.toList, ← Int.ofNat_tmod, ← Int.ofNat_tdiv, Nat.reduceLT, Int.cast_ofNat_Int, Int.reduceBEq, Int.reduceBNe, Int.reduceLT, Int.reduceLE, Int.reduceAdd, Int.reduceSub, Int.reduceMul, Int.reduceToNat, Int.reduceNeg, Int.reduceTMod, Int.reduceEq, not_false_eq_true, Int.reducePow, Int.reduceFDiv, Nat.reducePow, Nat.reduceSub, Nat.reduceMul, Nat.min_eq_left, Nat.reduceEqDiff, BEq.rfl, Int.tdiv_one, LN_succ, boxVs, litS]) (subH_cons (by simp only [aqT, aqU, aqN, ↓seqK, ↓blkK, ↓loopK, step, stepBin, Nat.reduceBEq, Nat.reduceBeqDiff, Nat.add_assoc nid, Nat.reduceAdd, reduceCtorEq, ↓reduceIte, Nat.reduceLeDiff, Nat.reduceBneDiff, Option.toList, ← Int.ofNat_tmod, ← Int.ofNat_tdiv, Nat.reduceLT, Int.cast_ofNat_Int, Int.reduceBEq, Int.reduceBNe, Int.reduceLT, Int.reduceLE, Int.reduceAdd, Int.reduceSub, Int.reduceMul, Int.reduceToNat, Int.reduceNeg, Int.reduceTMod, Int.reduceEq, not_false_eq_true, Int.reducePow, Int.reduceFDiv, Nat.reducePow, Nat.reduceSub, Nat.reduceMul, Nat.min_eq_left, Nat.reduceEqDiff, BEq.rfl, Int.tdiv_one, LN_succ, boxCf, capO]) (subH_get (by simp only [aqT, aqU, aqN, ↓seqK, ↓blkK, ↓loopK, step, stepBin, Nat.reduceBEq, Nat.reduceBeqDiff, Nat.add_assoc nid, Nat.reduceAdd, reduceCtorEq, ↓reduceIte, Nat.reduceLeDiff, Nat.reduceBneDiff, Option.toList, ← Int.ofNat_tmod, ← Int.ofNat_tdiv, Nat.reduceLT, Int.cast_ofNat_Int, Int.reduceBEq, Int.reduceBNe, Int.reduceLT, Int.reduceLE, Int.reduceAdd, Int.reduceSub, Int.reduceMul, Int.reduceToNat, Int.reduceNeg, Int.reduceTMod, Int.reduceEq, not_false_eq_true, Int.reducePow, Int.reduceFDiv, Nat.reducePow, Nat.reduceSub, Nat.reduceMul, Nat.min_eq_left, Nat.reduceEqDiff, BEq.rfl, Int.tdiv_one, LN_succ, mapO])))))) ?_
      refine ⟨by simp [lowH, lowBlk, lowAll, idsOf, idsOfs, keys, hsO, boxNn, boxRm, boxVs, boxCf, litS, capO, mapO, aqT, aqU, aqN, ↓seqK, ↓blkK, ↓loopK, step, stepBin, Nat.reduceBEq, Nat.reduceBeqDiff, Nat.add_assoc nid, Nat.reduceAdd, reduceCtorEq, ↓reduceIte, Nat.reduceLeDiff, Nat.reduceBneDiff, Option.toList, ← Int.ofNat_tmod, ← Int.ofNat_tdiv, Nat.reduceLT, Int.cast_ofNat_Int, Int.reduceBEq, Int.reduceBNe, Int.reduceLT, Int.reduceLE, Int.reduceAdd, Int.reduceSub, Int.reduceMul, Int.reduceToNat, Int.reduceNeg, Int.reduceTMod, Int.reduceEq, not_false_eq_true, Int.reducePow, Int.reduceFDiv, Nat.reducePow, Nat.reduceSub, Nat.reduceMul, Nat.min_eq_left, Nat.reduceEqDiff, BEq.rfl, Int.tdiv_one, LN_succ], by simp [hsO, mapO, freeOf, disj, keys, aqT, aqU, aqN, ↓seqK, ↓blkK, ↓loopK, step, stepBin, Nat.reduceBEq, Nat.reduceBeqDiff, Nat.add_assoc nid, Nat.reduceAdd, reduceCtorEq, ↓reduceIte, Nat.reduceLeDiff, Nat.reduceBneDiff, Option.toList, ← Int.ofNat_tmod, ← Int.ofNat_tdiv, Nat.reduceLT, Int.cast_ofNat_Int, Int.reduceBEq, Int.reduceBNe, Int.reduceLT, Int.reduceLE, Int.reduceAdd, Int.reduceSub, Int.reduceMul, Int.reduceToNat, Int.reduceNeg, Int.reduceTMod, Int.reduceEq, not_false_eq_true, Int.reducePow, Int.reduceFDiv, Nat.reducePow, Nat.reduceSub, Nat.reduceMul, Nat.min_eq_left, Nat.reduceEqDiff, BEq.rfl, Int.tdiv_one, LN_succ], ?_⟩
      unfold mapO
      simp -dsimp only [aqT, aqU, aqN, ↓seqK, ↓blkK, ↓loopK, step, stepBin, Nat.reduceBEq, Nat.reduceBeqDiff, Nat.add_assoc nid, Nat.reduceAdd, reduceCtorEq, ↓reduceIte, Nat.reduceLeDiff, Nat.reduceBneDiff, Option.toList, ← Int.ofNat_tmod, ← Int.ofNat_tdiv, Nat.reduceLT, Int.cast_ofNat_Int, Int.reduceBEq, Int.reduceBNe, Int.reduceLT, Int.reduceLE, Int.reduceAdd, Int.reduceSub, Int.reduceMul, Int.reduceToNat, Int.reduceNeg, Int.reduceTMod, Int.reduceEq, not_false_eq_true, Int.reducePow, Int.reduceFDiv, Nat.reducePow, Nat.reduceSub, Nat.reduceMul, Nat.min_eq_left, Nat.reduceEqDiff, BEq.rfl, Int.tdiv_one, LN_succ]
      refine ⟨by omega, ?_⟩
      rw [shl64 F (by omega)]
      refine CallX.on (first_c nid nl v w hv hw hn F (domO v.length (v.length - 1) (1 <<< k) k d) _ (by omega) hfl) (subH_cons (by simp only [aqT, aqU, aqN, ↓seqK, ↓blkK, ↓loopK, step, stepBin, Nat.reduceBEq, Nat.reduceBeqDiff, Nat.add_assoc nid, Nat.reduceAdd, reduceCtorEq, ↓reduceIte, Nat.reduceLeDiff, Nat.reduceBneDiff, Option.toList, ← Int.ofNat_tmod, ← Int.ofNat_tdiv, Nat.reduceLT, Int.cast_ofNat_Int, Int.reduceBEq, Int.reduceBNe, Int.reduceLT, Int.reduceLE, Int.reduceAdd, Int.reduceSub, Int.reduceMul, Int.reduceToNat, Int.reduceNeg, Int.reduceTMod, Int.reduceEq, not_false_eq_true, Int.reducePow, Int.reduceFDiv, Nat.reducePow, Nat.reduceSub, Nat.reduceMul, Nat.min_eq_left, Nat.reduceEqDiff, BEq.rfl, Int.tdiv_one, LN_succ, boxNn]) (subH_cons (by simp only [aqT, aqU, aqN, ↓seqK, ↓blkK, ↓loopK, step, stepBin, Nat.reduceBEq, Nat.reduceBeqDiff, Nat.add_assoc nid, Nat.reduceAdd, reduceCtorEq, ↓reduceIte, Nat.reduceLeDiff, Nat.reduceBneDiff, Option.toList, ← Int.ofNat_tmod, ← Int.ofNat_tdiv, Nat.reduceLT, Int.cast_ofNat_Int, Int.reduceBEq, Int.reduceBNe, Int.reduceLT, Int.reduceLE, Int.reduceAdd, Int.reduceSub, Int.reduceMul, Int.reduceToNat, Int.reduceNeg, Int.reduceTMod, Int.reduceEq, not_false_eq_true, Int.reducePow, Int.reduceFDiv, Nat.reducePow, Nat.reduceSub, Nat.reduceMul, Nat.min_eq_left, Nat.reduceEqDiff, BEq.rfl, Int.tdiv_one, LN_succ, boxRm]) (subH_cons (by simp only [aqT, aqU, aqN, ↓seqK, ↓blkK, ↓loopK, step, stepBin, Nat.reduceBEq, Nat.reduceBeqDiff, Nat.add_assoc nid, Nat.reduceAdd, reduceCtorEq, ↓reduceIte, Nat.reduceLeDiff, Nat.reduceBneDiff, Option.toList, ← Int.ofNat_tmod, ← Int.ofNat_tdiv, Nat.reduceLT, Int.cast_ofNat_Int, Int.reduceBEq, Int.reduceBNe, Int.reduceLT, Int.reduceLE, Int.reduceAdd, Int.reduceSub, Int.reduceMul, Int.reduceToNat, Int.reduceNeg, Int.reduceTMod, Int.reduceEq, not_false_eq_true, Int.reducePow, Int.reduceFDiv, Nat.reducePow, Nat.reduceSub, Nat.reduceMul, Nat.min_eq_left, Nat.reduceEqDiff, BEq.rfl, Int.tdiv_one, LN_succ, boxVs, litS]) (subH_cons (by simp only [aqT, aqU, aqN, ↓seqK, ↓blkK, ↓loopK, step, stepBin, Nat.reduceBEq, Nat.reduceBeqDiff, Nat.add_assoc nid, Nat.reduceAdd, reduceCtorEq, ↓reduceIte, Nat.reduceLeDiff, Nat.reduceBneDiff, Option.toList, ← Int.ofNat_tmod, ← Int.ofNat_tdiv, Nat.reduceLT, Int.cast_ofNat_Int, Int.reduceBEq, Int.reduceBNe, Int.reduceLT, Int.reduceLE, Int.reduceAdd, Int.reduceSub, Int.reduceMul, Int.reduceToNat, Int.reduceNeg, Int.reduceTMod, Int.reduceEq, not_false_eq_true, Int.reducePow, Int.reduceFDiv, Nat.reducePow, Nat.reduceSub, Nat.reduceMul, Nat.min_eq_left, Nat.reduceEqDiff, BEq.rfl, Int.tdiv_one, LN_succ, boxCf, capO]) (subH_get (by simp only [aqT, aqU, aqN, ↓seqK, ↓blkK, ↓loopK, step, stepBin, Nat.reduceBEq, Nat.reduceBeqDiff, Nat.add_assoc nid, Nat.reduceAdd, reduceCtorEq, ↓reduceIte, Nat.reduceLeDiff, Nat.reduceBneDiff, Option.toList, ← Int.ofNat_tmod, ← Int.ofNat_tdiv, Nat.reduceLT, Int.cast_ofNat_Int, Int.reduceBEq, Int.reduceBNe, Int.reduceLT, Int.reduceLE, Int.reduceAdd, Int.reduceSub, Int.reduceMul, Int.reduceToNat, Int.reduceNeg, Int.reduceTMod, Int.reduceEq, not_false_eq_true, Int.reducePow, Int.reduceFDiv, Nat.reducePow, Nat.reduceSub, Nat.reduceMul, Nat.min_eq_left, Nat.reduceEqDiff, BEq.rfl, Int.tdiv_one, LN_succ, mapO])))))) ?_
      refine ⟨by simp [lowH, lowBlk, lowAll, idsOf, idsOfs, keys, hsO, boxNn, boxRm, boxVs, boxCf, litS, capO, mapO, aqT, aqU, aqN, ↓seqK, ↓blkK, ↓loopK, step, stepBin, Nat.reduceBEq, Nat.reduceBeqDiff, Nat.add_assoc nid, Nat.reduceAdd, reduceCtorEq, ↓reduceIte, Nat.reduceLeDiff, Nat.reduceBneDiff, Option.toList, ← Int.ofNat_tmod, ← Int.ofNat_tdiv, Nat.reduceLT, Int.cast_ofNat_Int, Int.reduceBEq, Int.reduceBNe, Int.reduceLT, Int.reduceLE, Int.reduceAdd, Int.reduceSub, Int.reduceMul, Int.reduceToNat, Int.reduceNeg, Int.reduceTMod, Int.reduceEq, not_false_eq_true, Int.reducePow, Int.reduceFDiv, Nat.reducePow, Nat.reduceSub, Nat.reduceMul, Nat.min_eq_left, Nat.reduceEqDiff, BEq.rfl, Int.tdiv_one, LN_succ], by simp [hsO, mapO, freeOf, disj, keys, aqT, aqU, aqN, ↓seqK, ↓blkK, ↓loopK, step, stepBin, Nat.reduceBEq, Nat.reduceBeqDiff, Nat.add_assoc nid, Nat.reduceAdd, reduceCtorEq, ↓reduceIte, Nat.reduceLeDiff, Nat.reduceBneDiff, Option.toList, ← Int.ofNat_tmod, ← Int.ofNat_tdiv, Nat.reduceLT, Int.cast_ofNat_Int, Int.reduceBEq, Int.reduceBNe, Int.reduceLT, Int.reduceLE, Int.reduceAdd, Int.reduceSub, Int.reduceMul, Int.reduceToNat, Int.reduceNeg, Int.reduceTMod, Int.reduceEq, not_false_eq_true, Int.reducePow, Int.reduceFDiv, Nat.reducePow, Nat.reduceSub, Nat.reduceMul, Nat.min_eq_left, Nat.reduceEqDiff, BEq.rfl, Int.tdiv_one, LN_succ], ?_⟩
      unfold mapO
      simp -dsimp only [aqT, aqU, aqN, ↓seqK, ↓blkK, ↓loopK, step, stepBin, Nat.reduceBEq, Nat.reduceBeqDiff, Nat.add_assoc nid, Nat.reduceAdd, reduceCtorEq, ↓reduceIte, Nat.reduceLeDiff, Nat.reduceBneDiff, Option.toList, ← Int.ofNat_tmod, ← Int.ofNat_tdiv, Nat.reduceLT, Int.cast_ofNat_Int, Int.reduceBEq, Int.reduceBNe, Int.reduceLT, Int.reduceLE, Int.reduceAdd, Int.reduceSub, Int.reduceMul, Int.reduceToNat, Int.reduceNeg, Int.reduceTMod, Int.reduceEq, not_false_eq_true, Int.reducePow, Int.reduceFDiv, Nat.reducePow, Nat.reduceSub, Nat.reduceMul, Nat.min_eq_left, Nat.reduceEqDiff, BEq.rfl, Int.tdiv_one, LN_succ]
      refine S2.dec (fun h5 => ?_) (fun h5 => ?_) <;> simp -dsimp only [aqT, aqU, aqN, ↓seqK, ↓blkK, ↓loopK, step, stepBin, Nat.reduceBEq, Nat.reduceBeqDiff, Nat.add_assoc nid, Nat.reduceAdd, reduceCtorEq, ↓reduceIte, Nat.reduceLeDiff, Nat.reduceBneDiff, Option.toList, ← Int.ofNat_tmod, ← Int.ofNat_tdiv, Nat.reduceLT, Int.cast_ofNat_Int, Int.reduceBEq, Int.reduceBNe, Int.reduceLT, Int.reduceLE, Int.reduceAdd, Int.reduceSub, Int.reduceMul, Int.reduceToNat, Int.reduceNeg, Int.reduceTMod, Int.reduceEq, not_false_eq_true, Int.reducePow, Int.reduceFDiv, Nat.reducePow, Nat.reduceSub, Nat.reduceMul, Nat.min_eq_left, Nat.reduceEqDiff, BEq.rfl, Int.tdiv_one, LN_succ]
      · rw [if_pos h5] at hf
        refine ⟨by unfold inI64; omega, (k + 1, domO v.length (v.length - 1) (1 <<< F) F (domO v.length (v.length - 1) (1 <<< k) k d)), ⟨by simp only; omega, by simp only; omega⟩, Cov.go [] [] ?_⟩
        simp [cvT, step, res, hf]
      · rw [if_neg h5] at hf
        refine ⟨by unfold inI64; omega, (k + 1, domO v.length (v.length - 1) (1 <<< F) F (domO v.length (v.length - 1) (1 <<< k) k d)), ⟨by simp only; omega, by simp only; omega⟩, Cov.go [] [] ?_⟩
        simp [cvT, step, res, hf]
    · obtain rfl : k = v.length := by omega
      refine ⟨d, Cov.go [] [] ?_⟩
      simp [cvT, step, res]
  have hfl := fst_lt v h0 (Nat.le_refl _)
  have hgo : goO (dV v) v.length (v.length - 1) (1 <<< fstO (dV v) v.length v.length) (fstO (dV v) v.length v.length) [fstO (dV v) v.length v.length] = orderO v := rfl
  have hsum : costV (dV v) v.length (1 <<< fstO (dV v) v.length v.length) (fstO (dV v) v.length v.length) = sumO v := rfl
  have hat := ordAt_first (dV v) hfl
  rw [hsum] at hat
  generalize fstO (dV v) v.length v.length = F at *
  unfold hsO boxNn boxRm boxVs boxCf mapO capO litS
  refine SR.seq ?_
  simp -dsimp only [aqT, aqU, aqN, ↓seqK, ↓blkK, ↓loopK, step, stepBin, Nat.reduceBEq, Nat.reduceBeqDiff, Nat.add_assoc nid, Nat.reduceAdd, reduceCtorEq, ↓reduceIte, Nat.reduceLeDiff, Nat.reduceBneDiff, Option.toList, ← Int.ofNat_tmod, ← Int.ofNat_tdiv, Nat.reduceLT, Int.cast_ofNat_Int, Int.reduceBEq, Int.reduceBNe, Int.reduceLT, Int.reduceLE, Int.reduceAdd, Int.reduceSub, Int.reduceMul, Int.reduceToNat, Int.reduceNeg, Int.reduceTMod, Int.reduceEq, not_false_eq_true, Int.reducePow, Int.reduceFDiv, Nat.reducePow, Nat.reduceSub, Nat.reduceMul, Nat.min_eq_left, Nat.reduceEqDiff, BEq.rfl, Int.tdiv_one, LN_succ]
  refine ⟨by omega, ?_⟩
  rw [shl64 F (by omega)]
  refine SR.seqEx (fun d : MK → Bool => ⟨[(13, .sl (nid + 24) 0 v.length), (11, .int .i64 F), (8, .ptr (nid + 4) 0), (3, .ptr (nid + 12) 0), (10, .ptr (nid + 16) 0)], (nid + 24, arrI (intsO (orderO v))) :: hsO nid nl v d, nid + 900, nid⟩) ?_ (fun d => ?_)
  · have hol : (orderO v).length = v.length := (order_facts hv h0).1
    simp -dsimp only [aqT, aqU, aqN, ↓seqK, ↓blkK, ↓loopK, step, stepBin, Nat.reduceBEq, Nat.reduceBeqDiff, Nat.add_assoc nid, Nat.reduceAdd, reduceCtorEq, ↓reduceIte, Nat.reduceLeDiff, Nat.reduceBneDiff, Option.toList, ← Int.ofNat_tmod, ← Int.ofNat_tdiv, Nat.reduceLT, Int.cast_ofNat_Int, Int.reduceBEq, Int.reduceBNe, Int.reduceLT, Int.reduceLE, Int.reduceAdd, Int.reduceSub, Int.reduceMul, Int.reduceToNat, Int.reduceNeg, Int.reduceTMod, Int.reduceEq, not_false_eq_true, Int.reducePow, Int.reduceFDiv, Nat.reducePow, Nat.reduceSub, Nat.reduceMul, Nat.min_eq_left, Nat.reduceEqDiff, BEq.rfl, Int.tdiv_one, LN_succ]
    refine LP.mkP (fun x : Nat × Nat × Nat × List Nat × (MK → Bool) => x.2.2.2.1.length + x.1 = v.length ∧ OrdAt (dV v) v.length (sumO v) x.2.2.2.1 x.2.1 x.2.2.1 ∧ goO (dV v) v.length x.1 x.2.1 x.2.2.1 x.2.2.2.1 = orderO v) (fun x => ⟨[(13, .sl (nid + 24) 0 x.2.2.2.1.length), (14, .int .i64 x.2.1), (15, .int .i64 x.2.2.1), (11, .int .i64 F), (8, .ptr (nid + 4) 0), (3, .ptr (nid + 12) 0), (10, .ptr (nid + 16) 0)], (nid + 24, arrI (intsO x.2.2.2.1)) :: hsO nid nl v x.2.2.2.2, nid + 400, nid⟩) (fun x => x.1) (v.length - 1, 1 <<< F, F, [F], d) ⟨by simp only [List.length_singleton]; omega, hat, hgo⟩ (Cov.go [(nid + 24, nid + 204)] [] ?_) (fun x hx => ?_)
    · unfold hsO boxNn boxRm boxVs boxCf mapO capO litS arrI intsO
      simp [cvT, step, res]
    obtain ⟨f, was, last, out, d⟩ := x
    obtain ⟨hlf, hat, hgo⟩ := hx
    simp only at hlf hat hgo ⊢
    unfold hsO boxNn boxRm boxVs boxCf mapO capO litS arrI
    have hil : (intsO out).length = out.length := by unfold intsO; rw [List.length_map]
    have hlast : last < v.length := by
      have h1 := hat.pos
      have h2 := hat.ins (out.getD (out.length - 1) 0) (by rw [List.getD_eq_getElem?_getD, List.getElem?_eq_getElem (by omega : out.length - 1 < out.length)]; exact List.getElem_mem _)
      rw [← hat.lst] at h2
      exact h2
    have hN := two_lt hn
    have hlt := hat.lt
    have hlen : ∀ i, i < v.length → (v.getD i []).length = w := fun i hi => by
      rw [show v.getD i [] = v[i] from by simp [hi]]
      exact hv _ (List.getElem_mem hi)
    have hcb := cost_hb hv hw hn
    simp -dsimp only [aqT, aqU, aqN, ↓seqK, ↓blkK, ↓loopK, step, stepBin, Nat.reduceBEq, Nat.reduceBeqDiff, Nat.add_assoc nid, Nat.reduceAdd, reduceCtorEq, ↓reduceIte, Nat.reduceLeDiff, Nat.reduceBneDiff, Option.toList, ← Int.ofNat_tmod, ← Int.ofNat_tdiv, Nat.reduceLT, Int.cast_ofNat_Int, Int.reduceBEq, Int.reduceBNe, Int.reduceLT, Int.reduceLE, Int.reduceAdd, Int.reduceSub, Int.reduceMul, Int.reduceToNat, Int.reduceNeg, Int.reduceTMod, Int.reduceEq, not_false_eq_true, Int.reducePow, Int.reduceFDiv, Nat.reducePow, Nat.reduceSub, Nat.reduceMul, Nat.min_eq_left, Nat.reduceEqDiff, BEq.rfl, Int.tdiv_one, LN_succ, hil]
    refine S2.dec (fun h4 => ?_) (fun h4 => ?_) <;> simp -dsimp only [aqT, aqU, aqN, ↓seqK, ↓blkK, ↓loopK, step, stepBin, Nat.reduceBEq, Nat.reduceBeqDiff, Nat.add_assoc nid, Nat.reduceAdd, reduceCtorEq, ↓reduceIte, Nat.reduceLeDiff, Nat.reduceBneDiff, Option.toList, ← Int.ofNat_tmod, ← Int.ofNat_tdiv, Nat.reduceLT, Int.cast_ofNat_Int, Int.reduceBEq, Int.reduceBNe, Int.reduceLT, Int.reduceLE, Int.reduceAdd, Int.reduceSub, Int.reduceMul, Int.reduceToNat, Int.reduceNeg, Int.reduceTMod, Int.reduceEq, not_false_eq_true, Int.reducePow, Int.reduceFDiv, Nat.reducePow, Nat.reduceSub, Nat.reduceMul, Nat.min_eq_left, Nat.reduceEqDiff, BEq.rfl, Int.tdiv_one, LN_succ]
    · obtain ⟨f', rfl⟩ : ∃ f', f = f' + 1 := ⟨f - 1, by omega⟩
      refine LP.mkP (fun x : Nat × (MK → Bool) => x.1 ≤ v.length ∧ ∀ i, i < x.1 → nxtP (dV v) v.length was last i = false) (fun x => ⟨[(60, .int .i64 x.1), (59, .int .i64 v.length), (13, .sl (nid + 24) 0 out.length), (14, .int .i64 was), (15, .int .i64 last), (11, .int .i64 F), (8, .ptr (nid + 4) 0), (3, .ptr (nid + 12) 0), (10, .ptr (nid + 16) 0)], (nid + 24, arrI (intsO out)) :: hsO nid nl v x.2, nid + 500, nid⟩) (fun x => v.length + 1 - x.1) (0, d) ⟨by simp, fun i hi => absurd hi (by simp)⟩ (Cov.go [] [] ?_) (fun x hx => ?_)
      · unfold hsO boxNn boxRm boxVs boxCf mapO capO litS arrI
        simp [cvT, step, res, hil, ColsEq.refl, -List.getD_eq_getElem?_getD]
      obtain ⟨j, d⟩ := x
      obtain ⟨hj, hno⟩ := hx
      simp only at hj hno ⊢
      unfold hsO boxNn boxRm boxVs boxCf mapO capO litS arrI
      simp -dsimp only [aqT, aqU, aqN, ↓seqK, ↓blkK, ↓loopK, step, stepBin, Nat.reduceBEq, Nat.reduceBeqDiff, Nat.add_assoc nid, Nat.reduceAdd, reduceCtorEq, ↓reduceIte, Nat.reduceLeDiff, Nat.reduceBneDiff, Option.toList, ← Int.ofNat_tmod, ← Int.ofNat_tdiv, Nat.reduceLT, Int.cast_ofNat_Int, Int.reduceBEq, Int.reduceBNe, Int.reduceLT, Int.reduceLE, Int.reduceAdd, Int.reduceSub, Int.reduceMul, Int.reduceToNat, Int.reduceNeg, Int.reduceTMod, Int.reduceEq, not_false_eq_true, Int.reducePow, Int.reduceFDiv, Nat.reducePow, Nat.reduceSub, Nat.reduceMul, Nat.min_eq_left, Nat.reduceEqDiff, BEq.rfl, Int.tdiv_one, LN_succ, hil]
      refine S2.dec (fun h5 => ?_) (fun h5 => ?_)
      · have hjl : j < v.length := by omega
        have hnx : nxtP (dV v) v.length was last j = (!was.testBit j && (dV v last j + costV (dV v) v.length (was ||| 1 <<< j) j == costV (dV v) v.length was last)) := rfl
        have hu := unset64 was j (by omega) (by omega)
        have hsk := shl64 j (by omega)
        have h2k : 1 <<< j < 4611686018427387904 := by rw [Nat.shiftLeft_eq, Nat.one_mul]; exact Nat.pow_lt_pow_right (a := 2) (by omega) (show j < 62 by omega)
        have ho := or64 was (1 <<< j) (by omega) h2k
        have hol := or_lt hlt hjl
        have hd1 := dV_bd hv last j
        have hc1 := hcb (was ||| 1 <<< j) j
        cases hbt : was.testBit j <;> rw [hbt] at hnx hu
        · rw [Bool.not_false] at hu
          simp -dsimp only [Run.eq_1, Run.eq_2, Run.eq_3, Run.eq_4, Run.eq_5, Run.eq_6, Run.eq_7, Run.eq_8, Run.eq_9, ↓seqK, ↓blkK, ↓loopK]
          simp -dsimp only [ROps.eq_1, ROps.eq_2, ROps.eq_3, ROps.eq_4, BS_some, BS_true, BS_none, OB_bool, OG_bool, OG_tup, S2_true, S2_false, OF_fn, getS_hit, getS_miss, getS.eq_1, getH_hit, getH_miss, getH.eq_1, putS.eq_1, putS.eq_2, AX.val.eq_1, AX.val.eq_2, cond_true, cond_false, idS1, idS2, List.nil_append, List.cons_append, true_and, and_true, ne_eq, not_true_eq_false, if_false, if_true, ite_false, ite_true, List.map_cons, List.map_nil, List.drop_zero, List.drop_succ_cons, List.take_succ_cons, List.take_zero, List.length_cons, List.length_nil, Nat.zero_add, decide_true, decide_false, beq_self_eq_true, Bool.and_true, Bool.and_false, Bool.true_and, Bool.false_and, Int.toNat_natCast, lowBlk_box, lowBlk_arr, lowBlk_none, List.append_nil, List.getElem?_cons_zero, List.getElem?_cons_succ, List.all_cons, List.all_nil, List.any_cons, List.any_nil, List.contains_cons, List.contains_nil, Bool.or_false, Bool.false_or, Bool.or_true, Bool.true_or, Bool.not_false, Bool.not_true, bne_self_eq_false, List.singleton_append, Int.add_sub_cancel, List.replicate_succ, List.replicate_zero, List.flatten_cons, List.flatten_nil, List.set_cons_succ, List.set_cons_zero, List.headD_cons, List.tail_cons, Nat.add_lt_add_iff_left, freeOf.eq_1, freeOf.eq_2, indep.eq_1, offO.eq_1, offO.eq_2, neqO.eq_1, neqO.eq_2, disj.eq_1, namesX.eq_1, namesX.eq_2, axSlot.eq_1, axSlot.eq_2, opXs.eq_1, opXs.eq_2, opXs.eq_3, opXs.eq_4, opXs.eq_5, opXs.eq_6, opXs.eq_7, opXs.eq_8, opXs.eq_9, opXs.eq_10, opXs.eq_11, opXs.eq_12, opXs.eq_13, opXs.eq_14, opXs.eq_15, opXs.eq_16, opXs.eq_17, opXs.eq_18, opXs.eq_19, opXs.eq_20, opXs.eq_21, opXs.eq_22, opXs.eq_23, opXs.eq_24, opXs.eq_25, opXs.eq_26, opXs.eq_27, opXs.eq_28, opXs.eq_29, opXs.eq_30, opXs.eq_31, opXs.eq_32, opXs.eq_33, opXs.eq_34, opXs.eq_35, opXs.eq_36, opXs.eq_37, opXs.eq_38, opXs.eq_39, opXs.eq_40, opXs.eq_41, opXs.eq_42, opXs.eq_43, opXs.eq_44, opXs.eq_45, opXs.eq_46, opXs.eq_47, rdXs.eq_1, rdXs.eq_2, rdXs.eq_3, rdXs.eq_4, rdXs.eq_5, rdXs.eq_6, rdXs.eq_7, rdXs.eq_8, rdXs.eq_9, rdXs.eq_10, rdXs.eq_11, rdXs.eq_12, rdXs.eq_13, rdXs.eq_14, rdXs.eq_15, idsOf.eq_1, idsOf.eq_2, idsOf.eq_3, idsOf.eq_4, idsOf.eq_5, idsOf.eq_6, idsOf.eq_7, idsOf.eq_8, idsOf.eq_9, idsOfs.eq_1, idsOfs.eq_2, lowH.eq_1, lowH.eq_2, lowAll.eq_1, keys.eq_1, optInt.eq_1, optInt.eq_2, fillP.eq_1, fillP.eq_2, repl.eq_1, chunk.eq_1, chunk.eq_2, mkCols.eq_1, mkCols.eq_2, mkCols.eq_3, mkCol.eq_1, mkCol.eq_2, mkCol.eq_3, mkCol.eq_4, mkCol.eq_5, colInts.eq_1, colInts.eq_2, colInts.eq_3, colBools.eq_1, colBools.eq_2, colBools.eq_3, colStrs.eq_1, colStrs.eq_2, colStrs.eq_3, colLits.eq_1, colLits.eq_2, colLits.eq_3, colsApp.eq_1, colsApp.eq_2, colsApp.eq_3, Col.app.eq_1, Col.app.eq_2, Col.app.eq_3, Col.app.eq_4, Col.app.eq_5, tailOf.eq_1, tailOf.eq_2, tailOf.eq_3, splice.eq_1, splice.eq_2, colsPut.eq_1, colsPut.eq_2, colsPut.eq_3, colsPut.eq_4, Col.put.eq_1, Col.put.eq_2, Col.put.eq_3, Col.put.eq_4, Col.put.eq_5, mmFold.eq_1, mmFold.eq_2, mmFold.eq_3, eqK.eq_1, eqK.eq_2, eqK.eq_3, eqK.eq_4, eqK.eq_5, colsPaste.eq_1, colsPaste.eq_2, colsPaste.eq_3, Col.paste.eq_1, Col.paste.eq_2, Col.paste.eq_3, Col.paste.eq_4, Col.paste.eq_5, mNew.eq_1, mNew.eq_2, mNew.eq_3, mNew.eq_4, mkKey.eq_1, mkKey.eq_2, mkKey.eq_3, mkKey.eq_4, keyIn.eq_1, keyIn.eq_2, keyIn.eq_3, mGet.eq_1, mGet.eq_2, mGet.eq_3, mGet.eq_4, mPut.eq_1, mPut.eq_2, mPut.eq_3, mPut.eq_4, res.eq_1, stepIdx.eq_1, mix.eq_1, mix.eq_2, mix.eq_3, mix.eq_4, PV.cells.eq_1, PV.cells.eq_2, PV.cells.eq_3, PV.cells.eq_4, argSlots.eq_1, argSlots.eq_2, colPV.eq_1, colPV.eq_2, colPV.eq_3, colPV.eq_4, ROp.eq_1, ROp.eq_2, ROp.eq_3, OX.eq_1, OX.eq_2, OX.eq_3, noOs.eq_1, noOs.eq_2, noOs.eq_3, noOs.eq_4, noOs.eq_5, noOs.eq_6, mkCol.eq_6, Col.app.eq_6, Col.put.eq_6, Col.paste.eq_6, colPV.eq_5, colSls.eq_1, colSls.eq_2, colSls.eq_3, step, stepBin, Nat.reduceBEq, Nat.reduceBeqDiff, Nat.add_assoc nid, Nat.reduceAdd, reduceCtorEq, Nat.reduceLeDiff, Nat.reduceBneDiff, Option.toList, ← Int.ofNat_tmod, ← Int.ofNat_tdiv, Nat.reduceLT]
          rw [seqK, Run.eq_4, Run.eq_3]
          rw [RAny.eq_2]
          simp -dsimp only [ROps.eq_1, ROps.eq_2, ROps.eq_3, ROps.eq_4, BS_some, BS_true, BS_none, OB_bool, OG_bool, OG_tup, S2_true, S2_false, OF_fn, getS_hit, getS_miss, getS.eq_1, getH_hit, getH_miss, getH.eq_1, putS.eq_1, putS.eq_2, AX.val.eq_1, AX.val.eq_2, cond_true, cond_false, idS1, idS2, List.nil_append, List.cons_append, true_and, and_true, ne_eq, not_true_eq_false, if_false, if_true, ite_false, ite_true, List.map_cons, List.map_nil, List.drop_zero, List.drop_succ_cons, List.take_succ_cons, List.take_zero, List.length_cons, List.length_nil, Nat.zero_add, decide_true, decide_false, beq_self_eq_true, Bool.and_true, Bool.and_false, Bool.true_and, Bool.false_and, Int.toNat_natCast, lowBlk_box, lowBlk_arr, lowBlk_none, List.append_nil, List.getElem?_cons_zero, List.getElem?_cons_succ, List.all_cons, List.all_nil, List.any_cons, List.any_nil, List.contains_cons, List.contains_nil, Bool.or_false, Bool.false_or, Bool.or_true, Bool.true_or, Bool.not_false, Bool.not_true, bne_self_eq_false, List.singleton_append, Int.add_sub_cancel, List.replicate_succ, List.replicate_zero, List.flatten_cons, List.flatten_nil, List.set_cons_succ, List.set_cons_zero, List.headD_cons, List.tail_cons, Nat.add_lt_add_iff_left, freeOf.eq_1, freeOf.eq_2, indep.eq_1, offO.eq_1, offO.eq_2, neqO.eq_1, neqO.eq_2, disj.eq_1, namesX.eq_1, namesX.eq_2, axSlot.eq_1, axSlot.eq_2, opXs.eq_1, opXs.eq_2, opXs.eq_3, opXs.eq_4, opXs.eq_5, opXs.eq_6, opXs.eq_7, opXs.eq_8, opXs.eq_9, opXs.eq_10, opXs.eq_11, opXs.eq_12, opXs.eq_13, opXs.eq_14, opXs.eq_15, opXs.eq_16, opXs.eq_17, opXs.eq_18, opXs.eq_19, opXs.eq_20, opXs.eq_21, opXs.eq_22, opXs.eq_23, opXs.eq_24, opXs.eq_25, opXs.eq_26, opXs.eq_27, opXs.eq_28, opXs.eq_29, opXs.eq_30, opXs.eq_31, opXs.eq_32, opXs.eq_33, opXs.eq_34, opXs.eq_35, opXs.eq_36, opXs.eq_37, opXs.eq_38, opXs.eq_39, opXs.eq_40, opXs.eq_41, opXs.eq_42, opXs.eq_43, opXs.eq_44, opXs.eq_45, opXs.eq_46, opXs.eq_47, rdXs.eq_1, rdXs.eq_2, rdXs.eq_3, rdXs.eq_4, rdXs.eq_5, rdXs.eq_6, rdXs.eq_7, rdXs.eq_8, rdXs.eq_9, rdXs.eq_10, rdXs.eq_11, rdXs.eq_12, rdXs.eq_13, rdXs.eq_14, rdXs.eq_15, idsOf.eq_1, idsOf.eq_2, idsOf.eq_3, idsOf.eq_4, idsOf.eq_5, idsOf.eq_6, idsOf.eq_7, idsOf.eq_8, idsOf.eq_9, idsOfs.eq_1, idsOfs.eq_2, lowH.eq_1, lowH.eq_2, lowAll.eq_1, keys.eq_1, optInt.eq_1, optInt.eq_2, fillP.eq_1, fillP.eq_2, repl.eq_1, chunk.eq_1, chunk.eq_2, mkCols.eq_1, mkCols.eq_2, mkCols.eq_3, mkCol.eq_1, mkCol.eq_2, mkCol.eq_3, mkCol.eq_4, mkCol.eq_5, colInts.eq_1, colInts.eq_2, colInts.eq_3, colBools.eq_1, colBools.eq_2, colBools.eq_3, colStrs.eq_1, colStrs.eq_2, colStrs.eq_3, colLits.eq_1, colLits.eq_2, colLits.eq_3, colsApp.eq_1, colsApp.eq_2, colsApp.eq_3, Col.app.eq_1, Col.app.eq_2, Col.app.eq_3, Col.app.eq_4, Col.app.eq_5, tailOf.eq_1, tailOf.eq_2, tailOf.eq_3, splice.eq_1, splice.eq_2, colsPut.eq_1, colsPut.eq_2, colsPut.eq_3, colsPut.eq_4, Col.put.eq_1, Col.put.eq_2, Col.put.eq_3, Col.put.eq_4, Col.put.eq_5, mmFold.eq_1, mmFold.eq_2, mmFold.eq_3, eqK.eq_1, eqK.eq_2, eqK.eq_3, eqK.eq_4, eqK.eq_5, colsPaste.eq_1, colsPaste.eq_2, colsPaste.eq_3, Col.paste.eq_1, Col.paste.eq_2, Col.paste.eq_3, Col.paste.eq_4, Col.paste.eq_5, mNew.eq_1, mNew.eq_2, mNew.eq_3, mNew.eq_4, mkKey.eq_1, mkKey.eq_2, mkKey.eq_3, mkKey.eq_4, keyIn.eq_1, keyIn.eq_2, keyIn.eq_3, mGet.eq_1, mGet.eq_2, mGet.eq_3, mGet.eq_4, mPut.eq_1, mPut.eq_2, mPut.eq_3, mPut.eq_4, res.eq_1, stepIdx.eq_1, mix.eq_1, mix.eq_2, mix.eq_3, mix.eq_4, PV.cells.eq_1, PV.cells.eq_2, PV.cells.eq_3, PV.cells.eq_4, argSlots.eq_1, argSlots.eq_2, colPV.eq_1, colPV.eq_2, colPV.eq_3, colPV.eq_4, ROp.eq_1, ROp.eq_2, ROp.eq_3, OX.eq_1, OX.eq_2, OX.eq_3, noOs.eq_1, noOs.eq_2, noOs.eq_3, noOs.eq_4, noOs.eq_5, noOs.eq_6, mkCol.eq_6, Col.app.eq_6, Col.put.eq_6, Col.paste.eq_6, colPV.eq_5, colSls.eq_1, colSls.eq_2, colSls.eq_3, step, stepBin, Nat.reduceBEq, Nat.reduceBeqDiff, Nat.add_assoc nid, Nat.reduceAdd, reduceCtorEq, Nat.reduceLeDiff, Nat.reduceBneDiff, Option.toList, ← Int.ofNat_tmod, ← Int.ofNat_tdiv, Nat.reduceLT]
          rw [RAny.eq_2]
          simp -dsimp only [ROps.eq_1, ROps.eq_2, ROps.eq_3, ROps.eq_4, BS_some, BS_true, BS_none, OB_bool, OG_bool, OG_tup, S2_true, S2_false, OF_fn, getS_hit, getS_miss, getS.eq_1, getH_hit, getH_miss, getH.eq_1, putS.eq_1, putS.eq_2, AX.val.eq_1, AX.val.eq_2, cond_true, cond_false, idS1, idS2, List.nil_append, List.cons_append, true_and, and_true, ne_eq, not_true_eq_false, if_false, if_true, ite_false, ite_true, List.map_cons, List.map_nil, List.drop_zero, List.drop_succ_cons, List.take_succ_cons, List.take_zero, List.length_cons, List.length_nil, Nat.zero_add, decide_true, decide_false, beq_self_eq_true, Bool.and_true, Bool.and_false, Bool.true_and, Bool.false_and, Int.toNat_natCast, lowBlk_box, lowBlk_arr, lowBlk_none, List.append_nil, List.getElem?_cons_zero, List.getElem?_cons_succ, List.all_cons, List.all_nil, List.any_cons, List.any_nil, List.contains_cons, List.contains_nil, Bool.or_false, Bool.false_or, Bool.or_true, Bool.true_or, Bool.not_false, Bool.not_true, bne_self_eq_false, List.singleton_append, Int.add_sub_cancel, List.replicate_succ, List.replicate_zero, List.flatten_cons, List.flatten_nil, List.set_cons_succ, List.set_cons_zero, List.headD_cons, List.tail_cons, Nat.add_lt_add_iff_left, freeOf.eq_1, freeOf.eq_2, indep.eq_1, offO.eq_1, offO.eq_2, neqO.eq_1, neqO.eq_2, disj.eq_1, namesX.eq_1, namesX.eq_2, axSlot.eq_1, axSlot.eq_2, opXs.eq_1, opXs.eq_2, opXs.eq_3, opXs.eq_4, opXs.eq_5, opXs.eq_6, opXs.eq_7, opXs.eq_8, opXs.eq_9, opXs.eq_10, opXs.eq_11, opXs.eq_12, opXs.eq_13, opXs.eq_14, opXs.eq_15, opXs.eq_16, opXs.eq_17, opXs.eq_18, opXs.eq_19, opXs.eq_20, opXs.eq_21, opXs.eq_22, opXs.eq_23, opXs.eq_24, opXs.eq_25, opXs.eq_26, opXs.eq_27, opXs.eq_28, opXs.eq_29, opXs.eq_30, opXs.eq_31, opXs.eq_32, opXs.eq_33, opXs.eq_34, opXs.eq_35, opXs.eq_36, opXs.eq_37, opXs.eq_38, opXs.eq_39, opXs.eq_40, opXs.eq_41, opXs.eq_42, opXs.eq_43, opXs.eq_44, opXs.eq_45, opXs.eq_46, opXs.eq_47, rdXs.eq_1, rdXs.eq_2, rdXs.eq_3, rdXs.eq_4, rdXs.eq_5, rdXs.eq_6, rdXs.eq_7, rdXs.eq_8, rdXs.eq_9, rdXs.eq_10, rdXs.eq_11, rdXs.eq_12, rdXs.eq_13, rdXs.eq_14, rdXs.eq_15, idsOf.eq_1, idsOf.eq_2, idsOf.eq_3, idsOf.eq_4, idsOf.eq_5, idsOf.eq_6, idsOf.eq_7, idsOf.eq_8, idsOf.eq_9, idsOfs.eq_1, idsOfs.eq_2, lowH.eq_1, lowH.eq_2, lowAll.eq_1, keys.eq_1, optInt.eq_1, optInt.eq_2, fillP.eq_1, fillP.eq_2, repl.eq_1, chunk.eq_1, chunk.eq_2, mkCols.eq_1, mkCols.eq_2, mkCols.eq_3, mkCol.eq_1, mkCol.eq_2, mkCol.eq_3, mkCol.eq_4, mkCol.eq_5, colInts.eq_1, colInts.eq_2, colInts.eq_3, colBools.eq_1, colBools.eq_2, colBools.eq_3, colStrs.eq_1, colStrs.eq_2, colStrs.eq_3, colLits.eq_1, colLits.eq_2, colLits.eq_3, colsApp.eq_1, colsApp.eq_2, colsApp.eq_3, Col.app.eq_1, Col.app.eq_2, Col.app.eq_3, Col.app.eq_4, Col.app.eq_5, tailOf.eq_1, tailOf.eq_2, tailOf.eq_3, splice.eq_1, splice.eq_2, colsPut.eq_1, colsPut.eq_2, colsPut.eq_3, colsPut.eq_4, Col.put.eq_1, Col.put.eq_2, Col.put.eq_3, Col.put.eq_4, Col.put.eq_5, mmFold.eq_1, mmFold.eq_2, mmFold.eq_3, eqK.eq_1, eqK.eq_2, eqK.eq_3, eqK.eq_4, eqK.eq_5, colsPaste.eq_1, colsPaste.eq_2, colsPaste.eq_3, Col.paste.eq_1, Col.paste.eq_2, Col.paste.eq_3, Col.paste.eq_4, Col.paste.eq_5, mNew.eq_1, mNew.eq_2, mNew.eq_3, mNew.eq_4, mkKey.eq_1, mkKey.eq_2, mkKey.eq_3, mkKey.eq_4, keyIn.eq_1, keyIn.eq_2, keyIn.eq_3, mGet.eq_1, mGet.eq_2, mGet.eq_3, mGet.eq_4, mPut.eq_1, mPut.eq_2, mPut.eq_3, mPut.eq_4, res.eq_1, stepIdx.eq_1, mix.eq_1, mix.eq_2, mix.eq_3, mix.eq_4, PV.cells.eq_1, PV.cells.eq_2, PV.cells.eq_3, PV.cells.eq_4, argSlots.eq_1, argSlots.eq_2, colPV.eq_1, colPV.eq_2, colPV.eq_3, colPV.eq_4, ROp.eq_1, ROp.eq_2, ROp.eq_3, OX.eq_1, OX.eq_2, OX.eq_3, noOs.eq_1, noOs.eq_2, noOs.eq_3, noOs.eq_4, noOs.eq_5, noOs.eq_6, mkCol.eq_6, Col.app.eq_6, Col.put.eq_6, Col.paste.eq_6, colPV.eq_5, colSls.eq_1, colSls.eq_2, colSls.eq_3, step, stepBin, Nat.reduceBEq, Nat.reduceBeqDiff, Nat.add_assoc nid, Nat.reduceAdd, reduceCtorEq, Nat.reduceLeDiff, Nat.reduceBneDiff, Option.toList, ← Int.ofNat_tmod, ← Int.ofNat_tdiv, Nat.reduceLT]
          rw [RAny.eq_2]
          simp -dsimp only [ROps.eq_1, ROps.eq_2, ROps.eq_3, ROps.eq_4, BS_some, BS_true, BS_none, OB_bool, OG_bool, OG_tup, S2_true, S2_false, OF_fn, getS_hit, getS_miss, getS.eq_1, getH_hit, getH_miss, getH.eq_1, putS.eq_1, putS.eq_2, AX.val.eq_1, AX.val.eq_2, cond_true, cond_false, idS1, idS2, List.nil_append, List.cons_append, true_and, and_true, ne_eq, not_true_eq_false, if_false, if_true, ite_false, ite_true, List.map_cons, List.map_nil, List.drop_zero, List.drop_succ_cons, List.take_succ_cons, List.take_zero, List.length_cons, List.length_nil, Nat.zero_add, decide_true, decide_false, beq_self_eq_true, Bool.and_true, Bool.and_false, Bool.true_and, Bool.false_and, Int.toNat_natCast, lowBlk_box, lowBlk_arr, lowBlk_none, List.append_nil, List.getElem?_cons_zero, List.getElem?_cons_succ, List.all_cons, List.all_nil, List.any_cons, List.any_nil, List.contains_cons, List.contains_nil, Bool.or_false, Bool.false_or, Bool.or_true, Bool.true_or, Bool.not_false, Bool.not_true, bne_self_eq_false, List.singleton_append, Int.add_sub_cancel, List.replicate_succ, List.replicate_zero, List.flatten_cons, List.flatten_nil, List.set_cons_succ, List.set_cons_zero, List.headD_cons, List.tail_cons, Nat.add_lt_add_iff_left, freeOf.eq_1, freeOf.eq_2, indep.eq_1, offO.eq_1, offO.eq_2, neqO.eq_1, neqO.eq_2, disj.eq_1, namesX.eq_1, namesX.eq_2, axSlot.eq_1, axSlot.eq_2, opXs.eq_1, opXs.eq_2, opXs.eq_3, opXs.eq_4, opXs.eq_5, opXs.eq_6, opXs.eq_7, opXs.eq_8, opXs.eq_9, opXs.eq_10, opXs.eq_11, opXs.eq_12, opXs.eq_13, opXs.eq_14, opXs.eq_15, opXs.eq_16, opXs.eq_17, opXs.eq_18, opXs.eq_19, opXs.eq_20, opXs.eq_21, opXs.eq_22, opXs.eq_23, opXs.eq_24, opXs.eq_25, opXs.eq_26, opXs.eq_27, opXs.eq_28, opXs.eq_29, opXs.eq_30, opXs.eq_31, opXs.eq_32, opXs.eq_33, opXs.eq_34, opXs.eq_35, opXs.eq_36, opXs.eq_37, opXs.eq_38, opXs.eq_39, opXs.eq_40, opXs.eq_41, opXs.eq_42, opXs.eq_43, opXs.eq_44, opXs.eq_45, opXs.eq_46, opXs.eq_47, rdXs.eq_1, rdXs.eq_2, rdXs.eq_3, rdXs.eq_4, rdXs.eq_5, rdXs.eq_6, rdXs.eq_7, rdXs.eq_8, rdXs.eq_9, rdXs.eq_10, rdXs.eq_11, rdXs.eq_12, rdXs.eq_13, rdXs.eq_14, rdXs.eq_15, idsOf.eq_1, idsOf.eq_2, idsOf.eq_3, idsOf.eq_4, idsOf.eq_5, idsOf.eq_6, idsOf.eq_7, idsOf.eq_8, idsOf.eq_9, idsOfs.eq_1, idsOfs.eq_2, lowH.eq_1, lowH.eq_2, lowAll.eq_1, keys.eq_1, optInt.eq_1, optInt.eq_2, fillP.eq_1, fillP.eq_2, repl.eq_1, chunk.eq_1, chunk.eq_2, mkCols.eq_1, mkCols.eq_2, mkCols.eq_3, mkCol.eq_1, mkCol.eq_2, mkCol.eq_3, mkCol.eq_4, mkCol.eq_5, colInts.eq_1, colInts.eq_2, colInts.eq_3, colBools.eq_1, colBools.eq_2, colBools.eq_3, colStrs.eq_1, colStrs.eq_2, colStrs.eq_3, colLits.eq_1, colLits.eq_2, colLits.eq_3, colsApp.eq_1, colsApp.eq_2, colsApp.eq_3, Col.app.eq_1, Col.app.eq_2, Col.app.eq_3, Col.app.eq_4, Col.app.eq_5, tailOf.eq_1, tailOf.eq_2, tailOf.eq_3, splice.eq_1, splice.eq_2, colsPut.eq_1, colsPut.eq_2, colsPut.eq_3, colsPut.eq_4, Col.put.eq_1, Col.put.eq_2, Col.put.eq_3, Col.put.eq_4, Col.put.eq_5, mmFold.eq_1, mmFold.eq_2, mmFold.eq_3, eqK.eq_1, eqK.eq_2, eqK.eq_3, eqK.eq_4, eqK.eq_5, colsPaste.eq_1, colsPaste.eq_2, colsPaste.eq_3, Col.paste.eq_1, Col.paste.eq_2, Col.paste.eq_3, Col.paste.eq_4, Col.paste.eq_5, mNew.eq_1, mNew.eq_2, mNew.eq_3, mNew.eq_4, mkKey.eq_1, mkKey.eq_2, mkKey.eq_3, mkKey.eq_4, keyIn.eq_1, keyIn.eq_2, keyIn.eq_3, mGet.eq_1, mGet.eq_2, mGet.eq_3, mGet.eq_4, mPut.eq_1, mPut.eq_2, mPut.eq_3, mPut.eq_4, res.eq_1, stepIdx.eq_1, mix.eq_1, mix.eq_2, mix.eq_3, mix.eq_4, PV.cells.eq_1, PV.cells.eq_2, PV.cells.eq_3, PV.cells.eq_4, argSlots.eq_1, argSlots.eq_2, colPV.eq_1, colPV.eq_2, colPV.eq_3, colPV.eq_4, ROp.eq_1, ROp.eq_2, ROp.eq_3, OX.eq_1, OX.eq_2, OX.eq_3, noOs.eq_1, noOs.eq_2, noOs.eq_3, noOs.eq_4, noOs.eq_5, noOs.eq_6, mkCol.eq_6, Col.app.eq_6, Col.put.eq_6, Col.paste.eq_6, colPV.eq_5, colSls.eq_1, colSls.eq_2, colSls.eq_3, step, stepBin, Nat.reduceBEq, Nat.reduceBeqDiff, Nat.add_assoc nid, Nat.reduceAdd, reduceCtorEq, Nat.reduceLeDiff, Nat.reduceBneDiff, Option.toList, ← Int.ofNat_tmod, ← Int.ofNat_tdiv, Nat.reduceLT]
          refine ⟨by omega, ?_⟩
          rw [RAny.eq_2]
          simp -dsimp only [ROps.eq_1, ROps.eq_2, ROps.eq_3, ROps.eq_4, BS_some, BS_true, BS_none, OB_bool, OG_bool, OG_tup, S2_true, S2_false, OF_fn, getS_hit, getS_miss, getS.eq_1, getH_hit, getH_miss, getH.eq_1, putS.eq_1, putS.eq_2, AX.val.eq_1, AX.val.eq_2, cond_true, cond_false, idS1, idS2, List.nil_append, List.cons_append, true_and, and_true, ne_eq, not_true_eq_false, if_false, if_true, ite_false, ite_true, List.map_cons, List.map_nil, List.drop_zero, List.drop_succ_cons, List.take_succ_cons, List.take_zero, List.length_cons, List.length_nil, Nat.zero_add, decide_true, decide_false, beq_self_eq_true, Bool.and_true, Bool.and_false, Bool.true_and, Bool.false_and, Int.toNat_natCast, lowBlk_box, lowBlk_arr, lowBlk_none, List.append_nil, List.getElem?_cons_zero, List.getElem?_cons_succ, List.all_cons, List.all_nil, List.any_cons, List.any_nil, List.contains_cons, List.contains_nil, Bool.or_false, Bool.false_or, Bool.or_true, Bool.true_or, Bool.not_false, Bool.not_true, bne_self_eq_false, List.singleton_append, Int.add_sub_cancel, List.replicate_succ, List.replicate_zero, List.flatten_cons, List.flatten_nil, List.set_cons_succ, List.set_cons_zero, List.headD_cons, List.tail_cons, Nat.add_lt_add_iff_left, freeOf.eq_1, freeOf.eq_2, indep.eq_1, offO.eq_1, offO.eq_2, neqO.eq_1, neqO.eq_2, disj.eq_1, namesX.eq_1, namesX.eq_2, axSlot.eq_1, axSlot.eq_2, opXs.eq_1, opXs.eq_2, opXs.eq_3, opXs.eq_4, opXs.eq_5, opXs.eq_6, opXs.eq_7, opXs.eq_8, opXs.eq_9, opXs.eq_10, opXs.eq_11, opXs.eq_12, opXs.eq_13, opXs.eq_14, opXs.eq_15, opXs.eq_16, opXs.eq_17, opXs.eq_18, opXs.eq_19, opXs.eq_20, opXs.eq_21, opXs.eq_22, opXs.eq_23, opXs.eq_24, opXs.eq_25, opXs.eq_26, opXs.eq_27, opXs.eq_28, opXs.eq_29, opXs.eq_30, opXs.eq_31, opXs.eq_32, opXs.eq_33, opXs.eq_34, opXs.eq_35, opXs.eq_36, opXs.eq_37, opXs.eq_38, opXs.eq_39, opXs.eq_40, opXs.eq_41, opXs.eq_42, opXs.eq_43, opXs.eq_44, opXs.eq_45, opXs.eq_46, opXs.eq_47, rdXs.eq_1, rdXs.eq_2, rdXs.eq_3, rdXs.eq_4, rdXs.eq_5, rdXs.eq_6, rdXs.eq_7, rdXs.eq_8, rdXs.eq_9, rdXs.eq_10, rdXs.eq_11, rdXs.eq_12, rdXs.eq_13, rdXs.eq_14, rdXs.eq_15, idsOf.eq_1, idsOf.eq_2, idsOf.eq_3, idsOf.eq_4, idsOf.eq_5, idsOf.eq_6, idsOf.eq_7, idsOf.eq_8, idsOf.eq_9, idsOfs.eq_1, idsOfs.eq_2, lowH.eq_1, lowH.eq_2, lowAll.eq_1, keys.eq_1, optInt.eq_1, optInt.eq_2, fillP.eq_1, fillP.eq_2, repl.eq_1, chunk.eq_1, chunk.eq_2, mkCols.eq_1, mkCols.eq_2, mkCols.eq_3, mkCol.eq_1, mkCol.eq_2, mkCol.eq_3, mkCol.eq_4, mkCol.eq_5, colInts.eq_1, colInts.eq_2, colInts.eq_3, colBools.eq_1, colBools.eq_2, colBools.eq_3, colStrs.eq_1, colStrs.eq_2, colStrs.eq_3, colLits.eq_1, colLits.eq_2, colLits.eq_3, colsApp.eq_1, colsApp.eq_2, colsApp.eq_3, Col.app.eq_1, Col.app.eq_2, Col.app.eq_3, Col.app.eq_4, Col.app.eq_5, tailOf.eq_1, tailOf.eq_2, tailOf.eq_3, splice.eq_1, splice.eq_2, colsPut.eq_1, colsPut.eq_2, colsPut.eq_3, colsPut.eq_4, Col.put.eq_1, Col.put.eq_2, Col.put.eq_3, Col.put.eq_4, Col.put.eq_5, mmFold.eq_1, mmFold.eq_2, mmFold.eq_3, eqK.eq_1, eqK.eq_2, eqK.eq_3, eqK.eq_4, eqK.eq_5, colsPaste.eq_1, colsPaste.eq_2, colsPaste.eq_3, Col.paste.eq_1, Col.paste.eq_2, Col.paste.eq_3, Col.paste.eq_4, Col.paste.eq_5, mNew.eq_1, mNew.eq_2, mNew.eq_3, mNew.eq_4, mkKey.eq_1, mkKey.eq_2, mkKey.eq_3, mkKey.eq_4, keyIn.eq_1, keyIn.eq_2, keyIn.eq_3, mGet.eq_1, mGet.eq_2, mGet.eq_3, mGet.eq_4, mPut.eq_1, mPut.eq_2, mPut.eq_3, mPut.eq_4, res.eq_1, stepIdx.eq_1, mix.eq_1, mix.eq_2, mix.eq_3, mix.eq_4, PV.cells.eq_1, PV.cells.eq_2, PV.cells.eq_3, PV.cells.eq_4, argSlots.eq_1, argSlots.eq_2, colPV.eq_1, colPV.eq_2, colPV.eq_3, colPV.eq_4, ROp.eq_1, ROp.eq_2, ROp.eq_3, OX.eq_1, OX.eq_2, OX.eq_3, noOs.eq_1, noOs.eq_2, noOs.eq_3, noOs.eq_4, noOs.eq_5, noOs.eq_6, mkCol.eq_6, Col.app.eq_6, Col.put.eq_6, Col.paste.eq_6, colPV.eq_5, colSls.eq_1, colSls.eq_2, colSls.eq_3, step, stepBin, Nat.reduceBEq, Nat.reduceBeqDiff, Nat.add_assoc nid, Nat.reduceAdd, reduceCtorEq, Nat.reduceLeDiff, Nat.reduceBneDiff, Option.toList, ← Int.ofNat_tmod, ← Int.ofNat_tdiv, Nat.reduceLT]
          rw [RAny.eq_2]
          simp -dsimp only [ROps.eq_1, ROps.eq_2, ROps.eq_3, ROps.eq_4, BS_some, BS_true, BS_none, OB_bool, OG_bool, OG_tup, S2_true, S2_false, OF_fn, getS_hit, getS_miss, getS.eq_1, getH_hit, getH_miss, getH.eq_1, putS.eq_1, putS.eq_2, AX.val.eq_1, AX.val.eq_2, cond_true, cond_false, idS1, idS2, List.nil_append, List.cons_append, true_and, and_true, ne_eq, not_true_eq_false, if_false, if_true, ite_false, ite_true, List.map_cons, List.map_nil, List.drop_zero, List.drop_succ_cons, List.take_succ_cons, List.take_zero, List.length_cons, List.length_nil, Nat.zero_add, decide_true, decide_false, beq_self_eq_true, Bool.and_true, Bool.and_false, Bool.true_and, Bool.false_and, Int.toNat_natCast, lowBlk_box, lowBlk_arr, lowBlk_none, List.append_nil, List.getElem?_cons_zero, List.getElem?_cons_succ, List.all_cons, List.all_nil, List.any_cons, List.any_nil, List.contains_cons, List.contains_nil, Bool.or_false, Bool.false_or, Bool.or_true, Bool.true_or, Bool.not_false, Bool.not_true, bne_self_eq_false, List.singleton_append, Int.add_sub_cancel, List.replicate_succ, List.replicate_zero, List.flatten_cons, List.flatten_nil, List.set_cons_succ, List.set_cons_zero, List.headD_cons, List.tail_cons, Nat.add_lt_add_iff_left, freeOf.eq_1, freeOf.eq_2, indep.eq_1, offO.eq_1, offO.eq_2, neqO.eq_1, neqO.eq_2, disj.eq_1, namesX.eq_1, namesX.eq_2, axSlot.eq_1, axSlot.eq_2, opXs.eq_1, opXs.eq_2, opXs.eq_3, opXs.eq_4, opXs.eq_5, opXs.eq_6, opXs.eq_7, opXs.eq_8, opXs.eq_9, opXs.eq_10, opXs.eq_11, opXs.eq_12, opXs.eq_13, opXs.eq_14, opXs.eq_15, opXs.eq_16, opXs.eq_17, opXs.eq_18, opXs.eq_19, opXs.eq_20, opXs.eq_21, opXs.eq_22, opXs.eq_23, opXs.eq_24, opXs.eq_25, opXs.eq_26, opXs.eq_27, opXs.eq_28, opXs.eq_29, opXs.eq_30, opXs.eq_31, opXs.eq_32, opXs.eq_33, opXs.eq_34, opXs.eq_35, opXs.eq_36, opXs.eq_37, opXs.eq_38, opXs.eq_39, opXs.eq_40, opXs.eq_41, opXs.eq_42, opXs.eq_43, opXs.eq_44, opXs.eq_45, opXs.eq_46, opXs.eq_47, rdXs.eq_1, rdXs.eq_2, rdXs.eq_3, rdXs.eq_4, rdXs.eq_5, rdXs.eq_6, rdXs.eq_7, rdXs.eq_8, rdXs.eq_9, rdXs.eq_10, rdXs.eq_11, rdXs.eq_12, rdXs.eq_13, rdXs.eq_14, rdXs.eq_15, idsOf.eq_1, idsOf.eq_2, idsOf.eq_3, idsOf.eq_4, idsOf.eq_5, idsOf.eq_6, idsOf.eq_7, idsOf.eq_8, idsOf.eq_9, idsOfs.eq_1, idsOfs.eq_2, lowH.eq_1, lowH.eq_2, lowAll.eq_1, keys.eq_1, optInt.eq_1, optInt.eq_2, fillP.eq_1, fillP.eq_2, repl.eq_1, chunk.eq_1, chunk.eq_2, mkCols.eq_1, mkCols.eq_2, mkCols.eq_3, mkCol.eq_1, mkCol.eq_2, mkCol.eq_3, mkCol.eq_4, mkCol.eq_5, colInts.eq_1, colInts.eq_2, colInts.eq_3, colBools.eq_1, colBools.eq_2, colBools.eq_3, colStrs.eq_1, colStrs.eq_2, colStrs.eq_3, colLits.eq_1, colLits.eq_2, colLits.eq_3, colsApp.eq_1, colsApp.eq_2, colsApp.eq_3, Col.app.eq_1, Col.app.eq_2, Col.app.eq_3, Col.app.eq_4, Col.app.eq_5, tailOf.eq_1, tailOf.eq_2, tailOf.eq_3, splice.eq_1, splice.eq_2, colsPut.eq_1, colsPut.eq_2, colsPut.eq_3, colsPut.eq_4, Col.put.eq_1, Col.put.eq_2, Col.put.eq_3, Col.put.eq_4, Col.put.eq_5, mmFold.eq_1, mmFold.eq_2, mmFold.eq_3, eqK.eq_1, eqK.eq_2, eqK.eq_3, eqK.eq_4, eqK.eq_5, colsPaste.eq_1, colsPaste.eq_2, colsPaste.eq_3, Col.paste.eq_1, Col.paste.eq_2, Col.paste.eq_3, Col.paste.eq_4, Col.paste.eq_5, mNew.eq_1, mNew.eq_2, mNew.eq_3, mNew.eq_4, mkKey.eq_1, mkKey.eq_2, mkKey.eq_3, mkKey.eq_4, keyIn.eq_1, keyIn.eq_2, keyIn.eq_3, mGet.eq_1, mGet.eq_2, mGet.eq_3, mGet.eq_4, mPut.eq_1, mPut.eq_2, mPut.eq_3, mPut.eq_4, res.eq_1, stepIdx.eq_1, mix.eq_1, mix.eq_2, mix.eq_3, mix.eq_4, PV.cells.eq_1, PV.cells.eq_2, PV.cells.eq_3, PV.cells.eq_4, argSlots.eq_1, argSlots.eq_2, colPV.eq_1, colPV.eq_2, colPV.eq_3, colPV.eq_4, ROp.eq_1, ROp.eq_2, ROp.eq_3, OX.eq_1, OX.eq_2, OX.eq_3, noOs.eq_1, noOs.eq_2, noOs.eq_3, noOs.eq_4, noOs.eq_5, noOs.eq_6, mkCol.eq_6, Col.app.eq_6, Col.put.eq_6, Col.paste.eq_6, colPV.eq_5, colSls.eq_1, colSls.eq_2, colSls.eq_3, step, stepBin, Nat.reduceBEq, Nat.reduceBeqDiff, Nat.add_assoc nid, Nat.reduceAdd, reduceCtorEq, Nat.reduceLeDiff, Nat.reduceBneDiff, Option.toList, ← Int.ofNat_tmod, ← Int.ofNat_tdiv, Nat.reduceLT]
          rw [RAny.eq_2]
          simp -dsimp only [ROps.eq_1, ROps.eq_2, ROps.eq_3, ROps.eq_4, BS_some, BS_true, BS_none, OB_bool, OG_bool, OG_tup, S2_true, S2_false, OF_fn, getS_hit, getS_miss, getS.eq_1, getH_hit, getH_miss, getH.eq_1, putS.eq_1, putS.eq_2, AX.val.eq_1, AX.val.eq_2, cond_true, cond_false, idS1, idS2, List.nil_append, List.cons_append, true_and, and_true, ne_eq, not_true_eq_false, if_false, if_true, ite_false, ite_true, List.map_cons, List.map_nil, List.drop_zero, List.drop_succ_cons, List.take_succ_cons, List.take_zero, List.length_cons, List.length_nil, Nat.zero_add, decide_true, decide_false, beq_self_eq_true, Bool.and_true, Bool.and_false, Bool.true_and, Bool.false_and, Int.toNat_natCast, lowBlk_box, lowBlk_arr, lowBlk_none, List.append_nil, List.getElem?_cons_zero, List.getElem?_cons_succ, List.all_cons, List.all_nil, List.any_cons, List.any_nil, List.contains_cons, List.contains_nil, Bool.or_false, Bool.false_or, Bool.or_true, Bool.true_or, Bool.not_false, Bool.not_true, bne_self_eq_false, List.singleton_append, Int.add_sub_cancel, List.replicate_succ, List.replicate_zero, List.flatten_cons, List.flatten_nil, List.set_cons_succ, List.set_cons_zero, List.headD_cons, List.tail_cons, Nat.add_lt_add_iff_left, freeOf.eq_1, freeOf.eq_2, indep.eq_1, offO.eq_1, offO.eq_2, neqO.eq_1, neqO.eq_2, disj.eq_1, namesX.eq_1, namesX.eq_2, axSlot.eq_1, axSlot.eq_2, opXs.eq_1, opXs.eq_2, opXs.eq_3, opXs.eq_4, opXs.eq_5, opXs.eq_6, opXs.eq_7, opXs.eq_8, opXs.eq_9, opXs.eq_10, opXs.eq_11, opXs.eq_12, opXs.eq_13, opXs.eq_14, opXs.eq_15, opXs.eq_16, opXs.eq_17, opXs.eq_18, opXs.eq_19, opXs.eq_20, opXs.eq_21, opXs.eq_22, opXs.eq_23, opXs.eq_24, opXs.eq_25, opXs.eq_26, opXs.eq_27, opXs.eq_28, opXs.eq_29, opXs.eq_30, opXs.eq_31, opXs.eq_32, opXs.eq_33, opXs.eq_34, opXs.eq_35, opXs.eq_36, opXs.eq_37, opXs.eq_38, opXs.eq_39, opXs.eq_40, opXs.eq_41, opXs.eq_42, opXs.eq_43, opXs.eq_44, opXs.eq_45, opXs.eq_46, opXs.eq_47, rdXs.eq_1, rdXs.eq_2, rdXs.eq_3, rdXs.eq_4, rdXs.eq_5, rdXs.eq_6, rdXs.eq_7, rdXs.eq_8, rdXs.eq_9, rdXs.eq_10, rdXs.eq_11, rdXs.eq_12, rdXs.eq_13, rdXs.eq_14, rdXs.eq_15, idsOf.eq_1, idsOf.eq_2, idsOf.eq_3, idsOf.eq_4, idsOf.eq_5, idsOf.eq_6, idsOf.eq_7, idsOf.eq_8, idsOf.eq_9, idsOfs.eq_1, idsOfs.eq_2, lowH.eq_1, lowH.eq_2, lowAll.eq_1, keys.eq_1, optInt.eq_1, optInt.eq_2, fillP.eq_1, fillP.eq_2, repl.eq_1, chunk.eq_1, chunk.eq_2, mkCols.eq_1, mkCols.eq_2, mkCols.eq_3, mkCol.eq_1, mkCol.eq_2, mkCol.eq_3, mkCol.eq_4, mkCol.eq_5, colInts.eq_1, colInts.eq_2, colInts.eq_3, colBools.eq_1, colBools.eq_2, colBools.eq_3, colStrs.eq_1, colStrs.eq_2, colStrs.eq_3, colLits.eq_1, colLits.eq_2, colLits.eq_3, colsApp.eq_1, colsApp.eq_2, colsApp.eq_3, Col.app.eq_1, Col.app.eq_2, Col.app.eq_3, Col.app.eq_4, Col.app.eq_5, tailOf.eq_1, tailOf.eq_2, tailOf.eq_3, splice.eq_1, splice.eq_2, colsPut.eq_1, colsPut.eq_2, colsPut.eq_3, colsPut.eq_4, Col.put.eq_1, Col.put.eq_2, Col.put.eq_3, Col.put.eq_4, Col.put.eq_5, mmFold.eq_1, mmFold.eq_2, mmFold.eq_3, eqK.eq_1, eqK.eq_2, eqK.eq_3, eqK.eq_4, eqK.eq_5, colsPaste.eq_1, colsPaste.eq_2, colsPaste.eq_3, Col.paste.eq_1, Col.paste.eq_2, Col.paste.eq_3, Col.paste.eq_4, Col.paste.eq_5, mNew.eq_1, mNew.eq_2, mNew.eq_3, mNew.eq_4, mkKey.eq_1, mkKey.eq_2, mkKey.eq_3, mkKey.eq_4, keyIn.eq_1, keyIn.eq_2, keyIn.eq_3, mGet.eq_1, mGet.eq_2, mGet.eq_3, mGet.eq_4, mPut.eq_1, mPut.eq_2, mPut.eq_3, mPut.eq_4, res.eq_1, stepIdx.eq_1, mix.eq_1, mix.eq_2, mix.eq_3, mix.eq_4, PV.cells.eq_1, PV.cells.eq_2, PV.cells.eq_3, PV.cells.eq_4, argSlots.eq_1, argSlots.eq_2, colPV.eq_1, colPV.eq_2, colPV.eq_3, colPV.eq_4, ROp.eq_1, ROp.eq_2, ROp.eq_3, OX.eq_1, OX.eq_2, OX.eq_3, noOs.eq_1, noOs.eq_2, noOs.eq_3, noOs.eq_4, noOs.eq_5, noOs.eq_6, mkCol.eq_6, Col.app.eq_6, Col.put.eq_6, Col.paste.eq_6, colPV.eq_5, colSls.eq_1, colSls.eq_2, colSls.eq_3, step, stepBin, Nat.reduceBEq, Nat.reduceBeqDiff, Nat.add_assoc nid, Nat.reduceAdd, reduceCtorEq, Nat.reduceLeDiff, Nat.reduceBneDiff, Option.toList, ← Int.ofNat_tmod, ← Int.ofNat_tdiv, Nat.reduceLT]
          rw [hu]
          simp -dsimp only [aqT, aqU, aqN, ↓seqK, ↓blkK, ↓loopK, step, stepBin, Nat.reduceBEq, Nat.reduceBeqDiff, Nat.add_assoc nid, Nat.reduceAdd, reduceCtorEq, ↓reduceIte, Nat.reduceLeDiff, Nat.reduceBneDiff, Option.toList, ← Int.ofNat_tmod, ← Int.ofNat_tdiv, Nat.reduceLT]
          refine ⟨⟨by omega, by omega⟩, ⟨by omega, by omega⟩, ?_⟩
          refine CallX.pure (apart_cc _ _ _ (by rw [hlen last hlast, hlen j hjl]) (by rw [hlen last hlast]; omega)) ?_
          simp -dsimp only [aqT, aqU, aqN, ↓seqK, ↓blkK, ↓loopK, step, stepBin, Nat.reduceBEq, Nat.reduceBeqDiff, Nat.add_assoc nid, Nat.reduceAdd, reduceCtorEq, ↓reduceIte, Nat.reduceLeDiff, Nat.reduceBneDiff, Option.toList, ← Int.ofNat_tmod, ← Int.ofNat_tdiv, Nat.reduceLT, Int.cast_ofNat_Int, Int.reduceBEq, Int.reduceBNe, Int.reduceLT, Int.reduceLE, Int.reduceAdd, Int.reduceSub, Int.reduceMul, Int.reduceToNat, Int.reduceNeg, Int.reduceTMod, Int.reduceEq, not_false_eq_true, Int.reducePow, Int.reduceFDiv, Nat.reducePow, Nat.reduceSub, Nat.reduceMul, Nat.min_eq_left, Nat.reduceEqDiff, BEq.rfl, Int.tdiv_one, LN_succ]
          refine ⟨by omega, ?_⟩
          rw [hsk, ho]
          refine CallX.on (count_c nid nl v w hv hw hn _ (was ||| 1 <<< j) j d _ (by omega) rfl hol hjl) (subH_cons (by simp only [aqT, aqU, aqN, ↓seqK, ↓blkK, ↓loopK, step, stepBin, Nat.reduceBEq, Nat.reduceBeqDiff, Nat.add_assoc nid, Nat.reduceAdd, reduceCtorEq, ↓reduceIte, Nat.reduceLeDiff, Nat.reduceBneDiff, Option.toList, ← Int.ofNat_tmod, ← Int.ofNat_tdiv, Nat.reduceLT, Int.cast_ofNat_Int, Int.reduceBEq, Int.reduceBNe, Int.reduceLT, Int.reduceLE, Int.reduceAdd, Int.reduceSub, Int.reduceMul, Int.reduceToNat, Int.reduceNeg, Int.reduceTMod, Int.reduceEq, not_false_eq_true, Int.reducePow, Int.reduceFDiv, Nat.reducePow, Nat.reduceSub, Nat.reduceMul, Nat.min_eq_left, Nat.reduceEqDiff, BEq.rfl, Int.tdiv_one, LN_succ, boxNn]) (subH_cons (by simp only [aqT, aqU, aqN, ↓seqK, ↓blkK, ↓loopK, step, stepBin, Nat.reduceBEq, Nat.reduceBeqDiff, Nat.add_assoc nid, Nat.reduceAdd, reduceCtorEq, ↓reduceIte, Nat.reduceLeDiff, Nat.reduceBneDiff, Option.toList, ← Int.ofNat_tmod, ← Int.ofNat_tdiv, Nat.reduceLT, Int.cast_ofNat_Int, Int.reduceBEq, Int.reduceBNe, Int.reduceLT, Int.reduceLE, Int.reduceAdd, Int.reduceSub, Int.reduceMul, Int.reduceToNat, Int.reduceNeg, Int.reduceTMod, Int.reduceEq, not_false_eq_true, Int.reducePow, Int.reduceFDiv, Nat.reducePow, Nat.reduceSub, Nat.reduceMul, Nat.min_eq_left, Nat.reduceEqDiff, BEq.rfl, Int.tdiv_one, LN_succ, boxRm]) (subH_cons (by simp only [aqT, aqU, aqN, ↓seqK, ↓blkK, ↓loopK, step, stepBin, Nat.reduceBEq, Nat.reduceBeqDiff, Nat.add_assoc nid, Nat.reduceAdd, reduceCtorEq, ↓reduceIte, Nat.reduceLeDiff, Nat.reduceBneDiff, Option.toList, ← Int.ofNat_tmod, ← Int.ofNat_tdiv, Nat.reduceLT, Int.cast_ofNat_Int, Int.reduceBEq, Int.reduceBNe, Int.reduceLT, Int.reduceLE, Int.reduceAdd, Int.reduceSub, Int.reduceMul, Int.reduceToNat, Int.reduceNeg, Int.reduceTMod, Int.reduceEq, not_false_eq_true, Int.reducePow, Int.reduceFDiv, Nat.reducePow, Nat.reduceSub, Nat.reduceMul, Nat.min_eq_left, Nat.reduceEqDiff, BEq.rfl, Int.tdiv_one, LN_succ, boxVs, litS]) (subH_cons (by simp only [aqT, aqU, aqN, ↓seqK, ↓blkK, ↓loopK, step, stepBin, Nat.reduceBEq, Nat.reduceBeqDiff, Nat.add_assoc nid, Nat.reduceAdd, reduceCtorEq, ↓reduceIte, Nat.reduceLeDiff, Nat.reduceBneDiff, Option.toList, ← Int.ofNat_tmod, ← Int.ofNat_tdiv, Nat.reduceLT, Int.cast_ofNat_Int, Int.reduceBEq, Int.reduceBNe, Int.reduceLT, Int.reduceLE, Int.reduceAdd, Int.reduceSub, Int.reduceMul, Int.reduceToNat, Int.reduceNeg, Int.reduceTMod, Int.reduceEq, not_false_eq_true, Int.reducePow, Int.reduceFDiv, Nat.reducePow, Nat.reduceSub, Nat.reduceMul, Nat.min_eq_left, Nat.reduceEqDiff, BEq.rfl, Int.tdiv_one, LN_succ, boxCf, capO]) (subH_get (by simp only [aqT, aqU, aqN, ↓seqK, ↓blkK, ↓loopK, step, stepBin, Nat.reduceBEq, Nat.reduceBeqDiff, Nat.add_assoc nid, Nat.reduceAdd, reduceCtorEq, ↓reduceIte, Nat.reduceLeDiff, Nat.reduceBneDiff, Option.toList, ← Int.ofNat_tmod, ← Int.ofNat_tdiv, Nat.reduceLT, Int.cast_ofNat_Int, Int.reduceBEq, Int.reduceBNe, Int.reduceLT, Int.reduceLE, Int.reduceAdd, Int.reduceSub, Int.reduceMul, Int.reduceToNat, Int.reduceNeg, Int.reduceTMod, Int.reduceEq, not_false_eq_true, Int.reducePow, Int.reduceFDiv, Nat.reducePow, Nat.reduceSub, Nat.reduceMul, Nat.min_eq_left, Nat.reduceEqDiff, BEq.rfl, Int.tdiv_one, LN_succ, mapO])))))) ?_
          refine ⟨by simp [lowH, lowBlk, lowAll, idsOf, idsOfs, keys, hsO, boxNn, boxRm, boxVs, boxCf, litS, capO, mapO, aqT, aqU, aqN, ↓seqK, ↓blkK, ↓loopK, step, stepBin, Nat.reduceBEq, Nat.reduceBeqDiff, Nat.add_assoc nid, Nat.reduceAdd, reduceCtorEq, ↓reduceIte, Nat.reduceLeDiff, Nat.reduceBneDiff, Option.toList, ← Int.ofNat_tmod, ← Int.ofNat_tdiv, Nat.reduceLT, Int.cast_ofNat_Int, Int.reduceBEq, Int.reduceBNe, Int.reduceLT, Int.reduceLE, Int.reduceAdd, Int.reduceSub, Int.reduceMul, Int.reduceToNat, Int.reduceNeg, Int.reduceTMod, Int.reduceEq, not_false_eq_true, Int.reducePow, Int.reduceFDiv, Nat.reducePow, Nat.reduceSub, Nat.reduceMul, Nat.min_eq_left, Nat.reduceEqDiff, BEq.rfl, Int.tdiv_one, LN_succ], by simp [hsO, mapO, freeOf, disj, keys, aqT, aqU, aqN, ↓seqK, ↓blkK, ↓loopK, step, stepBin, Nat.reduceBEq, Nat.reduceBeqDiff, Nat.add_assoc nid, Nat.reduceAdd, reduceCtorEq, ↓reduceIte, Nat.reduceLeDiff, Nat.reduceBneDiff, Option.toList, ← Int.ofNat_tmod, ← Int.ofNat_tdiv, Nat.reduceLT, Int.cast_ofNat_Int, Int.reduceBEq, Int.reduceBNe, Int.reduceLT, Int.reduceLE, Int.reduceAdd, Int.reduceSub, Int.reduceMul, Int.reduceToNat, Int.reduceNeg, Int.reduceTMod, Int.reduceEq, not_false_eq_true, Int.reducePow, Int.reduceFDiv, Nat.reducePow, Nat.reduceSub, Nat.reduceMul, Nat.min_eq_left, Nat.reduceEqDiff, BEq.rfl, Int.tdiv_one, LN_succ], ?_⟩
          rw [show ((hamK (v.getD last []) (v.getD j []) (v.getD last []).length : Nat) : Int) = dV v last j from rfl]
          unfold mapO
          simp -dsimp only [aqT, aqU, aqN, ↓seqK, ↓blkK, ↓loopK, step, stepBin, Nat.reduceBEq, Nat.reduceBeqDiff, Nat.add_assoc nid, Nat.reduceAdd, reduceCtorEq, ↓reduceIte, Nat.reduceLeDiff, Nat.reduceBneDiff, Option.toList, ← Int.ofNat_tmod, ← Int.ofNat_tdiv, Nat.reduceLT, Int.cast_ofNat_Int, Int.reduceBEq, Int.reduceBNe, Int.reduceLT, Int.reduceLE, Int.reduceAdd, Int.reduceSub, Int.reduceMul, Int.reduceToNat, Int.reduceNeg, Int.reduceTMod, Int.reduceEq, not_false_eq_true, Int.reducePow, Int.reduceFDiv, Nat.reducePow, Nat.reduceSub, Nat.reduceMul, Nat.min_eq_left, Nat.reduceEqDiff, BEq.rfl, Int.tdiv_one, LN_succ]
          refine ⟨by unfold inI64; omega, ?_⟩
          refine CallX.on (count_c nid nl v w hv hw hn _ was last (domO v.length (zc v.length (was ||| 1 <<< j)) (was ||| 1 <<< j) j d) _ (by omega) rfl hlt hlast) (subH_cons (by simp only [aqT, aqU, aqN, ↓seqK, ↓blkK, ↓loopK, step, stepBin, Nat.reduceBEq, Nat.reduceBeqDiff, Nat.add_assoc nid, Nat.reduceAdd, reduceCtorEq, ↓reduceIte, Nat.reduceLeDiff, Nat.reduceBneDiff, Option.toList, ← Int.ofNat_tmod, ← Int.ofNat_tdiv, Nat.reduceLT, Int.cast_ofNat_Int, Int.reduceBEq, Int.reduceBNe, Int.reduceLT, Int.reduceLE, Int.reduceAdd, Int.reduceSub, Int.reduceMul, Int.reduceToNat, Int.reduceNeg, Int.reduceTMod, Int.reduceEq, not_false_eq_true, Int.reducePow, Int.reduceFDiv, Nat.reducePow, Nat.reduceSub, Nat.reduceMul, Nat.min_eq_left, Nat.reduceEqDiff, BEq.rfl, Int.tdiv_one, LN_succ, boxNn]) (subH_cons (by simp only [aqT, aqU, aqN, ↓seqK, ↓blkK, ↓loopK, step, stepBin, Nat.reduceBEq, Nat.reduceBeqDiff, Nat.add_assoc nid, Nat.reduceAdd, reduceCtorEq, ↓reduceIte, Nat.reduceLeDiff, Nat.reduceBneDiff, Option.toList, ← Int.ofNat_tmod, ← Int.ofNat_tdiv, Nat.reduceLT, Int.cast_ofNat_Int, Int.reduceBEq, Int.reduceBNe, Int.reduceLT, Int.reduceLE, Int.reduceAdd, Int.reduceSub, Int.reduceMul, Int.reduceToNat, Int.reduceNeg, Int.reduceTMod, Int.reduceEq, not_false_eq_true, Int.reducePow, Int.reduceFDiv, Nat.reducePow, Nat.reduceSub, Nat.reduceMul, Nat.min_eq_left, Nat.reduceEqDiff, BEq.rfl, Int.tdiv_one, LN_succ, boxRm]) (subH_cons (by simp only [aqT, aqU, aqN, ↓seqK, ↓blkK, ↓loopK, step, stepBin, Nat.reduceBEq, Nat.reduceBeqDiff, Nat.add_assoc nid, Nat.reduceAdd, reduceCtorEq, ↓reduceIte, Nat.reduceLeDiff, Nat.reduceBneDiff, Option.toList, ← Int.ofNat_tmod, ← Int.ofNat_tdiv, Nat.reduceLT, Int.cast_ofNat_Int, Int.reduceBEq, Int.reduceBNe, Int.reduceLT, Int.reduceLE, Int.reduceAdd, Int.reduceSub, Int.reduceMul, Int.reduceToNat, Int.reduceNeg, Int.reduceTMod, Int.reduceEq, not_false_eq_true, Int.reducePow, Int.reduceFDiv, Nat.reducePow, Nat.reduceSub, Nat.reduceMul, Nat.min_eq_left, Nat.reduceEqDiff, BEq.rfl, Int.tdiv_one, LN_succ, boxVs, litS]) (subH_cons (by simp only [aqT, aqU, aqN, ↓seqK, ↓blkK, ↓loopK, step, stepBin, Nat.reduceBEq, Nat.reduceBeqDiff, Nat.add_assoc nid, Nat.reduceAdd, reduceCtorEq, ↓reduceIte, Nat.reduceLeDiff, Nat.reduceBneDiff, Option.toList, ← Int.ofNat_tmod, ← Int.ofNat_tdiv, Nat.reduceLT, Int.cast_ofNat_Int, Int.reduceBEq, Int.reduceBNe, Int.reduceLT, Int.reduceLE, Int.reduceAdd, Int.reduceSub, Int.reduceMul, Int.reduceToNat, Int.reduceNeg, Int.reduceTMod, Int.reduceEq, not_false_eq_true, Int.reducePow, Int.reduceFDiv, Nat.reducePow, Nat.reduceSub, Nat.reduceMul, Nat.min_eq_left, Nat.reduceEqDiff, BEq.rfl, Int.tdiv_one, LN_succ, boxCf, capO]) (subH_get (by simp only [aqT, aqU, aqN, ↓seqK, ↓blkK, ↓loopK, step, stepBin, Nat.reduceBEq, Nat.reduceBeqDiff, Nat.add_assoc nid, Nat.reduceAdd, reduceCtorEq, ↓reduceIte, Nat.reduceLeDiff, Nat.reduceBneDiff, Option.toList, ← Int.ofNat_tmod, ← Int.ofNat_tdiv, Nat.reduceLT, Int.cast_ofNat_Int, Int.reduceBEq, Int.reduceBNe, Int.reduceLT, Int.reduceLE, Int.reduceAdd, Int.reduceSub, Int.reduceMul, Int.reduceToNat, Int.reduceNeg, Int.reduceTMod, Int.reduceEq, not_false_eq_true, Int.reducePow, Int.reduceFDiv, Nat.reducePow, Nat.reduceSub, Nat.reduceMul, Nat.min_eq_left, Nat.reduceEqDiff, BEq.rfl, Int.tdiv_one, LN_succ, mapO])))))) ?_
          refine ⟨by simp [lowH, lowBlk, lowAll, idsOf, idsOfs, keys, hsO, boxNn, boxRm, boxVs, boxCf, litS, capO, mapO, aqT, aqU, aqN, ↓seqK, ↓blkK, ↓loopK, step, stepBin, Nat.reduceBEq, Nat.reduceBeqDiff, Nat.add_assoc nid, Nat.reduceAdd, reduceCtorEq, ↓reduceIte, Nat.reduceLeDiff, Nat.reduceBneDiff, Option.toList, ← Int.ofNat_tmod, ← Int.ofNat_tdiv, Nat.reduceLT, Int.cast_ofNat_Int, Int.reduceBEq, Int.reduceBNe, Int.reduceLT, Int.reduceLE, Int.reduceAdd, Int.reduceSub, Int.reduceMul, Int.reduceToNat, Int.reduceNeg, Int.reduceTMod, Int.reduceEq, not_false_eq_true, Int.reducePow, Int.reduceFDiv, Nat.reducePow, Nat.reduceSub, Nat.reduceMul, Nat.min_eq_left, Nat.reduceEqDiff, BEq.rfl, Int.tdiv_one, LN_succ], by simp [hsO, mapO, freeOf, disj, keys, aqT, aqU, aqN, ↓seqK, ↓blkK, ↓loopK, step, stepBin, Nat.reduceBEq, Nat.reduceBeqDiff, Nat.add_assoc nid, Nat.reduceAdd, reduceCtorEq, ↓reduceIte, Nat.reduceLeDiff, Nat.reduceBneDiff, Option.toList, ← Int.ofNat_tmod, ← Int.ofNat_tdiv, Nat.reduceLT, Int.cast_ofNat_Int, Int.reduceBEq, Int.reduceBNe, Int.reduceLT, Int.reduceLE, Int.reduceAdd, Int.reduceSub, Int.reduceMul, Int.reduceToNat, Int.reduceNeg, Int.reduceTMod, Int.reduceEq, not_false_eq_true, Int.reducePow, Int.reduceFDiv, Nat.reducePow, Nat.reduceSub, Nat.reduceMul, Nat.min_eq_left, Nat.reduceEqDiff, BEq.rfl, Int.tdiv_one, LN_succ], ?_⟩
          unfold mapO
          simp -dsimp only [aqT, aqU, aqN, ↓seqK, ↓blkK, ↓loopK, step, stepBin, Nat.reduceBEq, Nat.reduceBeqDiff, Nat.add_assoc nid, Nat.reduceAdd, reduceCtorEq, ↓reduceIte, Nat.reduceLeDiff, Nat.reduceBneDiff, Option.toList, ← Int.ofNat_tmod, ← Int.ofNat_tdiv, Nat.reduceLT, Int.cast_ofNat_Int, Int.reduceBEq, Int.reduceBNe, Int.reduceLT, Int.reduceLE, Int.reduceAdd, Int.reduceSub, Int.reduceMul, Int.reduceToNat, Int.reduceNeg, Int.reduceTMod, Int.reduceEq, not_false_eq_true, Int.reducePow, Int.reduceFDiv, Nat.reducePow, Nat.reduceSub, Nat.reduceMul, Nat.min_eq_left, Nat.reduceEqDiff, BEq.rfl, Int.tdiv_one, LN_succ]
          generalize domO v.length (zc v.length was) was last (domO v.length (zc v.length (was ||| 1 <<< j)) (was ||| 1 <<< j) j d) = d2
          cases he : (dV v last j + costV (dV v) v.length (was ||| 1 <<< j) j == costV (dV v) v.length was last) <;> rw [he] at hnx <;> simp -dsimp only [aqT, aqU, aqN, ↓seqK, ↓blkK, ↓loopK, step, stepBin, Nat.reduceBEq, Nat.reduceBeqDiff, Nat.add_assoc nid, Nat.reduceAdd, reduceCtorEq, ↓reduceIte, Nat.reduceLeDiff, Nat.reduceBneDiff, Option.toList, ← Int.ofNat_tmod, ← Int.ofNat_tdiv, Nat.reduceLT, Int.cast_ofNat_Int, Int.reduceBEq, Int.reduceBNe, Int.reduceLT, Int.reduceLE, Int.reduceAdd, Int.reduceSub, Int.reduceMul, Int.reduceToNat, Int.reduceNeg, Int.reduceTMod, Int.reduceEq, not_false_eq_true, Int.reducePow, Int.reduceFDiv, Nat.reducePow, Nat.reduceSub, Nat.reduceMul, Nat.min_eq_left, Nat.reduceEqDiff, BEq.rfl, Int.tdiv_one, LN_succ]
          · refine ⟨by unfold inI64; omega, (j + 1, d2), ⟨⟨by simp only; omega, fun i hi => ?_⟩, by simp only; omega⟩, Cov.go [] [] ?_⟩
            · simp only at hi
              rcases (by omega : i < j ∨ i = j) with h6 | h6
              · exact hno i h6
              · subst h6
                rw [hnx]
                rfl
            simp [cvT, step, res, hil, ColsEq.refl, -List.getD_eq_getElem?_getD]
          · refine ⟨by omega, ?_⟩
            rw [hsk, ho]
            have hnx2 : nxtP (dV v) v.length was last j = true := hnx
            have hni := nxtI_eq hjl hnx2 hno
            have happ := getD_appI (intsO out) (j : Int)
            rw [hil] at happ
            rw [happ, show intsO out ++ [((j : Nat) : Int)] = intsO (out ++ [j]) from by simp [intsO]]
            refine ⟨by omega, (f', was ||| 1 <<< j, j, out ++ [j], d2), ⟨⟨by simp only [List.length_append, List.length_singleton]; omega, hat.next hjl hnx2, ?_⟩, by simp only; omega⟩, Cov.go [(nid + 24, nid + 640)] [] ?_⟩
            · rw [← hgo]
              show _ = goO (dV v) v.length f' (was ||| 1 <<< nxtI (dV v) v.length was last) (nxtI (dV v) v.length was last) (out ++ [nxtI (dV v) v.length was last])
              rw [hni]
            have hil2 : (intsO (out ++ [j])).length = out.length + 1 := by simp [intsO]
            simp [cvT, step, res, arrI, hil, hil2, ColsEq.refl, -List.getD_eq_getElem?_getD]
        · rw [Bool.not_true] at hu
          simp -dsimp only [Run.eq_1, Run.eq_2, Run.eq_3, Run.eq_4, Run.eq_5, Run.eq_6, Run.eq_7, Run.eq_8, Run.eq_9, ↓seqK, ↓blkK, ↓loopK]
          simp -dsimp only [ROps.eq_1, ROps.eq_2, ROps.eq_3, ROps.eq_4, BS_some, BS_true, BS_none, OB_bool, OG_bool, OG_tup, S2_true, S2_false, OF_fn, getS_hit, getS_miss, getS.eq_1, getH_hit, getH_miss, getH.eq_1, putS.eq_1, putS.eq_2, AX.val.eq_1, AX.val.eq_2, cond_true, cond_false, idS1, idS2, List.nil_append, List.cons_append, true_and, and_true, ne_eq, not_true_eq_false, if_false, if_true, ite_false, ite_true, List.map_cons, List.map_nil, List.drop_zero, List.drop_succ_cons, List.take_succ_cons, List.take_zero, List.length_cons, List.length_nil, Nat.zero_add, decide_true, decide_false, beq_self_eq_true, Bool.and_true, Bool.and_false, Bool.true_and, Bool.false_and, Int.toNat_natCast, lowBlk_box, lowBlk_arr, lowBlk_none, List.append_nil, List.getElem?_cons_zero, List.getElem?_cons_succ, List.all_cons, List.all_nil, List.any_cons, List.any_nil, List.contains_cons, List.contains_nil, Bool.or_false, Bool.false_or, Bool.or_true, Bool.true_or, Bool.not_false, Bool.not_true, bne_self_eq_false, List.singleton_append, Int.add_sub_cancel, List.replicate_succ, List.replicate_zero, List.flatten_cons, List.flatten_nil, List.set_cons_succ, List.set_cons_zero, List.headD_cons, List.tail_cons, Nat.add_lt_add_iff_left, freeOf.eq_1, freeOf.eq_2, indep.eq_1, offO.eq_1, offO.eq_2, neqO.eq_1, neqO.eq_2, disj.eq_1, namesX.eq_1, namesX.eq_2, axSlot.eq_1, axSlot.eq_2, opXs.eq_1, opXs.eq_2, opXs.eq_3, opXs.eq_4, opXs.eq_5, opXs.eq_6, opXs.eq_7, opXs.eq_8, opXs.eq_9, opXs.eq_10, opXs.eq_11, opXs.eq_12, opXs.eq_13, opXs.eq_14, opXs.eq_15, opXs.eq_16, opXs.eq_17, opXs.eq_18, opXs.eq_19, opXs.eq_20, opXs.eq_21, opXs.eq_22, opXs.eq_23, opXs.eq_24, opXs.eq_25, opXs.eq_26, opXs.eq_27, opXs.eq_28, opXs.eq_29, opXs.eq_30, opXs.eq_31, opXs.eq_32, opXs.eq_33, opXs.eq_34, opXs.eq_35, opXs.eq_36, opXs.eq_37, opXs.eq_38, opXs.eq_39, opXs.eq_40, opXs.eq_41, opXs.eq_42, opXs.eq_43, opXs.eq_44, opXs.eq_45, opXs.eq_46, opXs.eq_47, rdXs.eq_1, rdXs.eq_2, rdXs.eq_3, rdXs.eq_4, rdXs.eq_5, rdXs.eq_6, rdXs.eq_7, rdXs.eq_8, rdXs.eq_9, rdXs.eq_10, rdXs.eq_11, rdXs.eq_12, rdXs.eq_13, rdXs.eq_14, rdXs.eq_15, idsOf.eq_1, idsOf.eq_2, idsOf.eq_3, idsOf.eq_4, idsOf.eq_5, idsOf.eq_6, idsOf.eq_7, idsOf.eq_8, idsOf.eq_9, idsOfs.eq_1, idsOfs.eq_2, lowH.eq_1, lowH.eq_2, lowAll.eq_1, keys.eq_1, optInt.eq_1, optInt.eq_2, fillP.eq_1, fillP.eq_2, repl.eq_1, chunk.eq_1, chunk.eq_2, mkCols.eq_1, mkCols.eq_2, mkCols.eq_3, mkCol.eq_1, mkCol.eq_2, mkCol.eq_3, mkCol.eq_4, mkCol.eq_5, colInts.eq_1, colInts.eq_2, colInts.eq_3, colBools.eq_1, colBools.eq_2, colBools.eq_3, colStrs.eq_1, colStrs.eq_2, colStrs.eq_3, colLits.eq_1, colLits.eq_2, colLits.eq_3, colsApp.eq_1, colsApp.eq_2, colsApp.eq_3, Col.app.eq_1, Col.app.eq_2, Col.app.eq_3, Col.app.eq_4, Col.app.eq_5, tailOf.eq_1, tailOf.eq_2, tailOf.eq_3, splice.eq_1, splice.eq_2, colsPut.eq_1, colsPut.eq_2, colsPut.eq_3, colsPut.eq_4, Col.put.eq_1, Col.put.eq_2, Col.put.eq_3, Col.put.eq_4, Col.put.eq_5, mmFold.eq_1, mmFold.eq_2, mmFold.eq_3, eqK.eq_1, eqK.eq_2, eqK.eq_3, eqK.eq_4, eqK.eq_5, colsPaste.eq_1, colsPaste.eq_2, colsPaste.eq_3, Col.paste.eq_1, Col.paste.eq_2, Col.paste.eq_3, Col.paste.eq_4, Col.paste.eq_5, mNew.eq_1, mNew.eq_2, mNew.eq_3, mNew.eq_4, mkKey.eq_1, mkKey.eq_2, mkKey.eq_3, mkKey.eq_4, keyIn.eq_1, keyIn.eq_2, keyIn.eq_3, mGet.eq_1, mGet.eq_2, mGet.eq_3, mGet.eq_4, mPut.eq_1, mPut.eq_2, mPut.eq_3, mPut.eq_4, res.eq_1, stepIdx.eq_1, mix.eq_1, mix.eq_2, mix.eq_3, mix.eq_4, PV.cells.eq_1, PV.cells.eq_2, PV.cells.eq_3, PV.cells.eq_4, argSlots.eq_1, argSlots.eq_2, colPV.eq_1, colPV.eq_2, colPV.eq_3, colPV.eq_4, ROp.eq_1, ROp.eq_2, ROp.eq_3, OX.eq_1, OX.eq_2, OX.eq_3, noOs.eq_1, noOs.eq_2, noOs.eq_3, noOs.eq_4, noOs.eq_5, noOs.eq_6, mkCol.eq_6, Col.app.eq_6, Col.put.eq_6, Col.paste.eq_6, colPV.eq_5, colSls.eq_1, colSls.eq_2, colSls.eq_3, step, stepBin, Nat.reduceBEq, Nat.reduceBeqDiff, Nat.add_assoc nid, Nat.reduceAdd, reduceCtorEq, Nat.reduceLeDiff, Nat.reduceBneDiff, Option.toList, ← Int.ofNat_tmod, ← Int.ofNat_tdiv, Nat.reduceLT]
          rw [seqK, Run.eq_4, Run.eq_3]
          rw [RAny.eq_2]
          simp -dsimp only [ROps.eq_1, ROps.eq_2, ROps.eq_3, ROps.eq_4, BS_some, BS_true, BS_none, OB_bool, OG_bool, OG_tup, S2_true, S2_false, OF_fn, getS_hit, getS_miss, getS.eq_1, getH_hit, getH_miss, getH.eq_1, putS.eq_1, putS.eq_2, AX.val.eq_1, AX.val.eq_2, cond_true, cond_false, idS1, idS2, List.nil_append, List.cons_append, true_and, and_true, ne_eq, not_true_eq_false, if_false, if_true, ite_false, ite_true, List.map_cons, List.map_nil, List.drop_zero, List.drop_succ_cons, List.take_succ_cons, List.take_zero, List.length_cons, List.length_nil, Nat.zero_add, decide_true, decide_false, beq_self_eq_true, Bool.and_true, Bool.and_false, Bool.true_and, Bool.false_and, Int.toNat_natCast, lowBlk_box, lowBlk_arr, lowBlk_none, List.append_nil, List.getElem?_cons_zero, List.getElem?_cons_succ, List.all_cons, List.all_nil, List.any_cons, List.any_nil, List.contains_cons, List.contains_nil, Bool.or_false, Bool.false_or, Bool.or_true, Bool.true_or, Bool.not_false, Bool.not_true, bne_self_eq_false, List.singleton_append, Int.add_sub_cancel, List.replicate_succ, List.replicate_zero, List.flatten_cons, List.flatten_nil, List.set_cons_succ, List.set_cons_zero, List.headD_cons, List.tail_cons, Nat.add_lt_add_iff_left, freeOf.eq_1, freeOf.eq_2, indep.eq_1, offO.eq_1, offO.eq_2, neqO.eq_1, neqO.eq_2, disj.eq_1, namesX.eq_1, namesX.eq_2, axSlot.eq_1, axSlot.eq_2, opXs.eq_1, opXs.eq_2, opXs.eq_3, opXs.eq_4, opXs.eq_5, opXs.eq_6, opXs.eq_7, opXs.eq_8, opXs.eq_9, opXs.eq_10, opXs.eq_11, opXs.eq_12, opXs.eq_13, opXs.eq_14, opXs.eq_15, opXs.eq_16, opXs.eq_17, opXs.eq_18, opXs.eq_19, opXs.eq_20, opXs.eq_21, opXs.eq_22, opXs.eq_23, opXs.eq_24, opXs.eq_25, opXs.eq_26, opXs.eq_27, opXs.eq_28, opXs.eq_29, opXs.eq_30, opXs.eq_31, opXs.eq_32, opXs.eq_33, opXs.eq_34, opXs.eq_35, opXs.eq_36, opXs.eq_37, opXs.eq_38, opXs.eq_39, opXs.eq_40, opXs.eq_41, opXs.eq_42, opXs.eq_43, opXs.eq_44, opXs.eq_45, opXs.eq_46, opXs.eq_47, rdXs.eq_1, rdXs.eq_2, rdXs.eq_3, rdXs.eq_4, rdXs.eq_5, rdXs.eq_6, rdXs.eq_7, rdXs.eq_8, rdXs.eq_9, rdXs.eq_10, rdXs.eq_11, rdXs.eq_12, rdXs.eq_13, rdXs.eq_14, rdXs.eq_15, idsOf.eq_1, idsOf.eq_2, idsOf.eq_3, idsOf.eq_4, idsOf.eq_5, idsOf.eq_6, idsOf.eq_7, idsOf.eq_8, idsOf.eq_9, idsOfs.eq_1, idsOfs.eq_2, lowH.eq_1, lowH.eq_2, lowAll.eq_1, keys.eq_1, optInt.eq_1, optInt.eq_2, fillP.eq_1, fillP.eq_2, repl.eq_1, chunk.eq_1, chunk.eq_2, mkCols.eq_1, mkCols.eq_2, mkCols.eq_3, mkCol.eq_1, mkCol.eq_2, mkCol.eq_3, mkCol.eq_4, mkCol.eq_5, colInts.eq_1, colInts.eq_2, colInts.eq_3, colBools.eq_1, colBools.eq_2, colBools.eq_3, colStrs.eq_1, colStrs.eq_2, colStrs.eq_3, colLits.eq_1, colLits.eq_2, colLits.eq_3, colsApp.eq_1, colsApp.eq_2, colsApp.eq_3, Col.app.eq_1, Col.app.eq_2, Col.app.eq_3, Col.app.eq_4, Col.app.eq_5, tailOf.eq_1, tailOf.eq_2, tailOf.eq_3, splice.eq_1, splice.eq_2, colsPut.eq_1, colsPut.eq_2, colsPut.eq_3, colsPut.eq_4, Col.put.eq_1, Col.put.eq_2, Col.put.eq_3, Col.put.eq_4, Col.put.eq_5, mmFold.eq_1, mmFold.eq_2, mmFold.eq_3, eqK.eq_1, eqK.eq_2, eqK.eq_3, eqK.eq_4, eqK.eq_5, colsPaste.eq_1, colsPaste.eq_2, colsPaste.eq_3, Col.paste.eq_1, Col.paste.eq_2, Col.paste.eq_3, Col.paste.eq_4, Col.paste.eq_5, mNew.eq_1, mNew.eq_2, mNew.eq_3, mNew.eq_4, mkKey.eq_1, mkKey.eq_2, mkKey.eq_3, mkKey.eq_4, keyIn.eq_1, keyIn.eq_2, keyIn.eq_3, mGet.eq_1, mGet.eq_2, mGet.eq_3, mGet.eq_4, mPut.eq_1, mPut.eq_2, mPut.eq_3, mPut.eq_4, res.eq_1, stepIdx.eq_1, mix.eq_1, mix.eq_2, mix.eq_3, mix.eq_4, PV.cells.eq_1, PV.cells.eq_2, PV.cells.eq_3, PV.cells.eq_4, argSlots.eq_1, argSlots.eq_2, colPV.eq_1, colPV.eq_2, colPV.eq_3, colPV.eq_4, ROp.eq_1, ROp.eq_2, ROp.eq_3, OX.eq_1, OX.eq_2, OX.eq_3, noOs.eq_1, noOs.eq_2, noOs.eq_3, noOs.eq_4, noOs.eq_5, noOs.eq_6, mkCol.eq_6, Col.app.eq_6, Col.put.eq_6, Col.paste.eq_6, colPV.eq_5, colSls.eq_1, colSls.eq_2, colSls.eq_3, step, stepBin, Nat.reduceBEq, Nat.reduceBeqDiff, Nat.add_assoc nid, Nat.reduceAdd, reduceCtorEq, Nat.reduceLeDiff, Nat.reduceBneDiff, Option.toList, ← Int.ofNat_tmod, ← Int.ofNat_tdiv, Nat.reduceLT]
          rw [RAny.eq_2]
          simp -dsimp only [ROps.eq_1, ROps.eq_2, ROps.eq_3, ROps.eq_4, BS_some, BS_true, BS_none, OB_bool, OG_bool, OG_tup, S2_true, S2_false, OF_fn, getS_hit, getS_miss, getS.eq_1, getH_hit, getH_miss, getH.eq_1, putS.eq_1, putS.eq_2, AX.val.eq_1, AX.val.eq_2, cond_true, cond_false, idS1, idS2, List.nil_append, List.cons_append, true_and, and_true, ne_eq, not_true_eq_false, if_false, if_true, ite_false, ite_true, List.map_cons, List.map_nil, List.drop_zero, List.drop_succ_cons, List.take_succ_cons, List.take_zero, List.length_cons, List.length_nil, Nat.zero_add, decide_true, decide_false, beq_self_eq_true, Bool.and_true, Bool.and_false, Bool.true_and, Bool.false_and, Int.toNat_natCast, lowBlk_box, lowBlk_arr, lowBlk_none, List.append_nil, List.getElem?_cons_zero, List.getElem?_cons_succ, List.all_cons, List.all_nil, List.any_cons, List.any_nil, List.contains_cons, List.contains_nil, Bool.or_false, Bool.false_or, Bool.or_true, Bool.true_or, Bool.not_false, Bool.not_true, bne_self_eq_false, List.singleton_append, Int.add_sub_cancel, List.replicate_succ, List.replicate_zero, List.flatten_cons, List.flatten_nil, List.set_cons_succ, List.set_cons_zero, List.headD_cons, List.tail_cons, Nat.add_lt_add_iff_left, freeOf.eq_1, freeOf.eq_2, indep.eq_1, offO.eq_1, offO.eq_2, neqO.eq_1, neqO.eq_2, disj.eq_1, namesX.eq_1, namesX.eq_2, axSlot.eq_1, axSlot.eq_2, opXs.eq_1, opXs.eq_2, opXs.eq_3, opXs.eq_4, opXs.eq_5, opXs.eq_6, opXs.eq_7, opXs.eq_8, opXs.eq_9, opXs.eq_10, opXs.eq_11, opXs.eq_12, opXs.eq_13, opXs.eq_14, opXs.eq_15, opXs.eq_16, opXs.eq_17, opXs.eq_18, opXs.eq_19, opXs.eq_20, opXs.eq_21, opXs.eq_22, opXs.eq_23, opXs.eq_24, opXs.eq_25, opXs.eq_26, opXs.eq_27, opXs.eq_28, opXs.eq_29, opXs.eq_30, opXs.eq_31, opXs.eq_32, opXs.eq_33, opXs.eq_34, opXs.eq_35, opXs.eq_36, opXs.eq_37, opXs.eq_38, opXs.eq_39, opXs.eq_40, opXs.eq_41, opXs.eq_42, opXs.eq_43, opXs.eq_44, opXs.eq_45, opXs.eq_46, opXs.eq_47, rdXs.eq_1, rdXs.eq_2, rdXs.eq_3, rdXs.eq_4, rdXs.eq_5, rdXs.eq_6, rdXs.eq_7, rdXs.eq_8, rdXs.eq_9, rdXs.eq_10, rdXs.eq_11, rdXs.eq_12, rdXs.eq_13, rdXs.eq_14, rdXs.eq_15, idsOf.eq_1, idsOf.eq_2, idsOf.eq_3, idsOf.eq_4, idsOf.eq_5, idsOf.eq_6, idsOf.eq_7, idsOf.eq_8, idsOf.eq_9, idsOfs.eq_1, idsOfs.eq_2, lowH.eq_1, lowH.eq_2, lowAll.eq_1, keys.eq_1, optInt.eq_1, optInt.eq_2, fillP.eq_1, fillP.eq_2, repl.eq_1, chunk.eq_1, chunk.eq_2, mkCols.eq_1, mkCols.eq_2, mkCols.eq_3, mkCol.eq_1, mkCol.eq_2, mkCol.eq_3, mkCol.eq_4, mkCol.eq_5, colInts.eq_1, colInts.eq_2, colInts.eq_3, colBools.eq_1, colBools.eq_2, colBools.eq_3, colStrs.eq_1, colStrs.eq_2, colStrs.eq_3, colLits.eq_1, colLits.eq_2, colLits.eq_3, colsApp.eq_1, colsApp.eq_2, colsApp.eq_3, Col.app.eq_1, Col.app.eq_2, Col.app.eq_3, Col.app.eq_4, Col.app.eq_5, tailOf.eq_1, tailOf.eq_2, tailOf.eq_3, splice.eq_1, splice.eq_2, colsPut.eq_1, colsPut.eq_2, colsPut.eq_3, colsPut.eq_4, Col.put.eq_1, Col.put.eq_2, Col.put.eq_3, Col.put.eq_4, Col.put.eq_5, mmFold.eq_1, mmFold.eq_2, mmFold.eq_3, eqK.eq_1, eqK.eq_2, eqK.eq_3, eqK.eq_4, eqK.eq_5, colsPaste.eq_1, colsPaste.eq_2, colsPaste.eq_3, Col.paste.eq_1, Col.paste.eq_2, Col.paste.eq_3, Col.paste.eq_4, Col.paste.eq_5, mNew.eq_1, mNew.eq_2, mNew.eq_3, mNew.eq_4, mkKey.eq_1, mkKey.eq_2, mkKey.eq_3, mkKey.eq_4, keyIn.eq_1, keyIn.eq_2, keyIn.eq_3, mGet.eq_1, mGet.eq_2, mGet.eq_3, mGet.eq_4, mPut.eq_1, mPut.eq_2, mPut.eq_3, mPut.eq_4, res.eq_1, stepIdx.eq_1, mix.eq_1, mix.eq_2, mix.eq_3, mix.eq_4, PV.cells.eq_1, PV.cells.eq_2, PV.cells.eq_3, PV.cells.eq_4, argSlots.eq_1, argSlots.eq_2, colPV.eq_1, colPV.eq_2, colPV.eq_3, colPV.eq_4, ROp.eq_1, ROp.eq_2, ROp.eq_3, OX.eq_1, OX.eq_2, OX.eq_3, noOs.eq_1, noOs.eq_2, noOs.eq_3, noOs.eq_4, noOs.eq_5, noOs.eq_6, mkCol.eq_6, Col.app.eq_6, Col.put.eq_6, Col.paste.eq_6, colPV.eq_5, colSls.eq_1, colSls.eq_2, colSls.eq_3, step, stepBin, Nat.reduceBEq, Nat.reduceBeqDiff, Nat.add_assoc nid, Nat.reduceAdd, reduceCtorEq, Nat.reduceLeDiff, Nat.reduceBneDiff, Option.toList, ← Int.ofNat_tmod, ← Int.ofNat_tdiv, Nat.reduceLT]
          rw [RAny.eq_2]
          simp -dsimp only [ROps.eq_1, ROps.eq_2, ROps.eq_3, ROps.eq_4, BS_some, BS_true, BS_none, OB_bool, OG_bool, OG_tup, S2_true, S2_false, OF_fn, getS_hit, getS_miss, getS.eq_1, getH_hit, getH_miss, getH.eq_1, putS.eq_1, putS.eq_2, AX.val.eq_1, AX.val.eq_2, cond_true, cond_false, idS1, idS2, List.nil_append, List.cons_append, true_and, and_true, ne_eq, not_true_eq_false, if_false, if_true, ite_false, ite_true, List.map_cons, List.map_nil, List.drop_zero, List.drop_succ_cons, List.take_succ_cons, List.take_zero, List.length_cons, List.length_nil, Nat.zero_add, decide_true, decide_false, beq_self_eq_true, Bool.and_true, Bool.and_false, Bool.true_and, Bool.false_and, Int.toNat_natCast, lowBlk_box, lowBlk_arr, lowBlk_none, List.append_nil, List.getElem?_cons_zero, List.getElem?_cons_succ, List.all_cons, List.all_nil, List.any_cons, List.any_nil, List.contains_cons, List.contains_nil, Bool.or_false, Bool.false_or, Bool.or_true, Bool.true_or, Bool.not_false, Bool.not_true, bne_self_eq_false, List.singleton_append, Int.add_sub_cancel, List.replicate_succ, List.replicate_zero, List.flatten_cons, List.flatten_nil, List.set_cons_succ, List.set_cons_zero, List.headD_cons, List.tail_cons, Nat.add_lt_add_iff_left, freeOf.eq_1, freeOf.eq_2, indep.eq_1, offO.eq_1, offO.eq_2, neqO.eq_1, neqO.eq_2, disj.eq_1, namesX.eq_1, namesX.eq_2, axSlot.eq_1, axSlot.eq_2, opXs.eq_1, opXs.eq_2, opXs.eq_3, opXs.eq_4, opXs.eq_5, opXs.eq_6, opXs.eq_7, opXs.eq_8, opXs.eq_9, opXs.eq_10, opXs.eq_11, opXs.eq_12, opXs.eq_13, opXs.eq_14, opXs.eq_15, opXs.eq_16, opXs.eq_17, opXs.eq_18, opXs.eq_19, opXs.eq_20, opXs.eq_21, opXs.eq_22, opXs.eq_23, opXs.eq_24, opXs.eq_25, opXs.eq_26, opXs.eq_27, opXs.eq_28, opXs.eq_29, opXs.eq_30, opXs.eq_31, opXs.eq_32, opXs.eq_33, opXs.eq_34, opXs.eq_35, opXs.eq_36, opXs.eq_37, opXs.eq_38, opXs.eq_39, opXs.eq_40, opXs.eq_41, opXs.eq_42, opXs.eq_43, opXs.eq_44, opXs.eq_45, opXs.eq_46, opXs.eq_47, rdXs.eq_1, rdXs.eq_2, rdXs.eq_3, rdXs.eq_4, rdXs.eq_5, rdXs.eq_6, rdXs.eq_7, rdXs.eq_8, rdXs.eq_9, rdXs.eq_10, rdXs.eq_11, rdXs.eq_12, rdXs.eq_13, rdXs.eq_14, rdXs.eq_15, idsOf.eq_1, idsOf.eq_2, idsOf.eq_3, idsOf.eq_4, idsOf.eq_5, idsOf.eq_6, idsOf.eq_7, idsOf.eq_8, idsOf.eq_9, idsOfs.eq_1, idsOfs.eq_2, lowH.eq_1, lowH.eq_2, lowAll.eq_1, keys.eq_1, optInt.eq_1, optInt.eq_2, fillP.eq_1, fillP.eq_2, repl.eq_1, chunk.eq_1, chunk.eq_2, mkCols.eq_1, mkCols.eq_2, mkCols.eq_3, mkCol.eq_1, mkCol.eq_2, mkCol.eq_3, mkCol.eq_4, mkCol.eq_5, colInts.eq_1, colInts.eq_2, colInts.eq_3, colBools.eq_1, colBools.eq_2, colBools.eq_3, colStrs.eq_1, colStrs.eq_2, colStrs.eq_3, colLits.eq_1, colLits.eq_2, colLits.eq_3, colsApp.eq_1, colsApp.eq_2, colsApp.eq_3, Col.app.eq_1, Col.app.eq_2, Col.app.eq_3, Col.app.eq_4, Col.app.eq_5, tailOf.eq_1, tailOf.eq_2, tailOf.eq_3, splice.eq_1, splice.eq_2, colsPut.eq_1, colsPut.eq_2, colsPut.eq_3, colsPut.eq_4, Col.put.eq_1, Col.put.eq_2, Col.put.eq_3, Col.put.eq_4, Col.put.eq_5, mmFold.eq_1, mmFold.eq_2, mmFold.eq_3, eqK.eq_1, eqK.eq_2, eqK.eq_3, eqK.eq_4, eqK.eq_5, colsPaste.eq_1, colsPaste.eq_2, colsPaste.eq_3, Col.paste.eq_1, Col.paste.eq_2, Col.paste.eq_3, Col.paste.eq_4, Col.paste.eq_5, mNew.eq_1, mNew.eq_2, mNew.eq_3, mNew.eq_4, mkKey.eq_1, mkKey.eq_2, mkKey.eq_3, mkKey.eq_4, keyIn.eq_1, keyIn.eq_2, keyIn.eq_3, mGet.eq_1, mGet.eq_2, mGet.eq_3, mGet.eq_4, mPut.eq_1, mPut.eq_2, mPut.eq_3, mPut.eq_4, res.eq_1, stepIdx.eq_1, mix.eq_1, mix.eq_2, mix.eq_3, mix.eq_4, PV.cells.eq_1, PV.cells.eq_2, PV.cells.eq_3, PV.cells.eq_4, argSlots.eq_1, argSlots.eq_2, colPV.eq_1, colPV.eq_2, colPV.eq_3, colPV.eq_4, ROp.eq_1, ROp.eq_2, ROp.eq_3, OX.eq_1, OX.eq_2, OX.eq_3, noOs.eq_1, noOs.eq_2, noOs.eq_3, noOs.eq_4, noOs.eq_5, noOs.eq_6, mkCol.eq_6, Col.app.eq_6, Col.put.eq_6, Col.paste.eq_6, colPV.eq_5, colSls.eq_1, colSls.eq_2, colSls.eq_3, step, stepBin, Nat.reduceBEq, Nat.reduceBeqDiff, Nat.add_assoc nid, Nat.reduceAdd, reduceCtorEq, Nat.reduceLeDiff, Nat.reduceBneDiff, Option.toList, ← Int.ofNat_tmod, ← Int.ofNat_tdiv, Nat.reduceLT]
          refine ⟨by omega, ?_⟩
          rw [RAny.eq_2]
          simp -dsimp only [ROps.eq_1, ROps.eq_2, ROps.eq_3, ROps.eq_4, BS_some, BS_true, BS_none, OB_bool, OG_bool, OG_tup, S2_true, S2_false, OF_fn, getS_hit, getS_miss, getS.eq_1, getH_hit, getH_miss, getH.eq_1, putS.eq_1, putS.eq_2, AX.val.eq_1, AX.val.eq_2, cond_true, cond_false, idS1, idS2, List.nil_append, List.cons_append, true_and, and_true, ne_eq, not_true_eq_false, if_false, if_true, ite_false, ite_true, List.map_cons, List.map_nil, List.drop_zero, List.drop_succ_cons, List.take_succ_cons, List.take_zero, List.length_cons, List.length_nil, Nat.zero_add, decide_true, decide_false, beq_self_eq_true, Bool.and_true, Bool.and_false, Bool.true_and, Bool.false_and, Int.toNat_natCast, lowBlk_box, lowBlk_arr, lowBlk_none, List.append_nil, List.getElem?_cons_zero, List.getElem?_cons_succ, List.all_cons, List.all_nil, List.any_cons, List.any_nil, List.contains_cons, List.contains_nil, Bool.or_false, Bool.false_or, Bool.or_true, Bool.true_or, Bool.not_false, Bool.not_true, bne_self_eq_false, List.singleton_append, Int.add_sub_cancel, List.replicate_succ, List.replicate_zero, List.flatten_cons, List.flatten_nil, List.set_cons_succ, List.set_cons_zero, List.headD_cons, List.tail_cons, Nat.add_lt_add_iff_left, freeOf.eq_1, freeOf.eq_2, indep.eq_1, offO.eq_1, offO.eq_2, neqO.eq_1, neqO.eq_2, disj.eq_1, namesX.eq_1, namesX.eq_2, axSlot.eq_1, axSlot.eq_2, opXs.eq_1, opXs.eq_2, opXs.eq_3, opXs.eq_4, opXs.eq_5, opXs.eq_6, opXs.eq_7, opXs.eq_8, opXs.eq_9, opXs.eq_10, opXs.eq_11, opXs.eq_12, opXs.eq_13, opXs.eq_14, opXs.eq_15, opXs.eq_16, opXs.eq_17, opXs.eq_18, opXs.eq_19, opXs.eq_20, opXs.eq_21, opXs.eq_22, opXs.eq_23, opXs.eq_24, opXs.eq_25, opXs.eq_26, opXs.eq_27, opXs.eq_28, opXs.eq_29, opXs.eq_30, opXs.eq_31, opXs.eq_32, opXs.eq_33, opXs.eq_34, opXs.eq_35, opXs.eq_36, opXs.eq_37, opXs.eq_38, opXs.eq_39, opXs.eq_40, opXs.eq_41, opXs.eq_42, opXs.eq_43, opXs.eq_44, opXs.eq_45, opXs.eq_46, opXs.eq_47, rdXs.eq_1, rdXs.eq_2, rdXs.eq_3, rdXs.eq_4, rdXs.eq_5, rdXs.eq_6, rdXs.eq_7, rdXs.eq_8, rdXs.eq_9, rdXs.eq_10, rdXs.eq_11, rdXs.eq_12, rdXs.eq_13, rdXs.eq_14, rdXs.eq_15, idsOf.eq_1, idsOf.eq_2, idsOf.eq_3, idsOf.eq_4, idsOf.eq_5, idsOf.eq_6, idsOf.eq_7, idsOf.eq_8, idsOf.eq_9, idsOfs.eq_1, idsOfs.eq_2, lowH.eq_1, lowH.eq_2, lowAll.eq_1, keys.eq_1, optInt.eq_1, optInt.eq_2, fillP.eq_1, fillP.eq_2, repl.eq_1, chunk.eq_1, chunk.eq_2, mkCols.eq_1, mkCols.eq_2, mkCols.eq_3, mkCol.eq_1, mkCol.eq_2, mkCol.eq_3, mkCol.eq_4, mkCol.eq_5, colInts.eq_1, colInts.eq_2, colInts.eq_3, colBools.eq_1, colBools.eq_2, colBools.eq_3, colStrs.eq_1, colStrs.eq_2, colStrs.eq_3, colLits.eq_1, colLits.eq_2, colLits.eq_3, colsApp.eq_1, colsApp.eq_2, colsApp.eq_3, Col.app.eq_1, Col.app.eq_2, Col.app.eq_3, Col.app.eq_4, Col.app.eq_5, tailOf.eq_1, tailOf.eq_2, tailOf.eq_3, splice.eq_1, splice.eq_2, colsPut.eq_1, colsPut.eq_2, colsPut.eq_3, colsPut.eq_4, Col.put.eq_1, Col.put.eq_2, Col.put.eq_3, Col.put.eq_4, Col.put.eq_5, mmFold.eq_1, mmFold.eq_2, mmFold.eq_3, eqK.eq_1, eqK.eq_2, eqK.eq_3, eqK.eq_4, eqK.eq_5, colsPaste.eq_1, colsPaste.eq_2, colsPaste.eq_3, Col.paste.eq_1, Col.paste.eq_2, Col.paste.eq_3, Col.paste.eq_4, Col.paste.eq_5, mNew.eq_1, mNew.eq_2, mNew.eq_3, mNew.eq_4, mkKey.eq_1, mkKey.eq_2, mkKey.eq_3, mkKey.eq_4, keyIn.eq_1, keyIn.eq_2, keyIn.eq_3, mGet.eq_1, mGet.eq_2, mGet.eq_3, mGet.eq_4, mPut.eq_1, mPut.eq_2, mPut.eq_3, mPut.eq_4, res.eq_1, stepIdx.eq_1, mix.eq_1, mix.eq_2, mix.eq_3, mix.eq_4, PV.cells.eq_1, PV.cells.eq_2, PV.cells.eq_3, PV.cells.eq_4, argSlots.eq_1, argSlots.eq_2, colPV.eq_1, colPV.eq_2, colPV.eq_3, colPV.eq_4, ROp.eq_1, ROp.eq_2, ROp.eq_3, OX.eq_1, OX.eq_2, OX.eq_3, noOs.eq_1, noOs.eq_2, noOs.eq_3, noOs.eq_4, noOs.eq_5, noOs.eq_6, mkCol.eq_6, Col.app.eq_6, Col.put.eq_6, Col.paste.eq_6, colPV.eq_5, colSls.eq_1, colSls.eq_2, colSls.eq_3, step, stepBin, Nat.reduceBEq, Nat.reduceBeqDiff, Nat.add_assoc nid, Nat.reduceAdd, reduceCtorEq, Nat.reduceLeDiff, Nat.reduceBneDiff, Option.toList, ← Int.ofNat_tmod, ← Int.ofNat_tdiv, Nat.reduceLT]
          rw [RAny.eq_2]
          simp -dsimp only [ROps.eq_1, ROps.eq_2, ROps.eq_3, ROps.eq_4, BS_some, BS_true, BS_none, OB_bool, OG_bool, OG_tup, S2_true, S2_false, OF_fn, getS_hit, getS_miss, getS.eq_1, getH_hit, getH_miss, getH.eq_1, putS.eq_1, putS.eq_2, AX.val.eq_1, AX.val.eq_2, cond_true, cond_false, idS1, idS2, List.nil_append, List.cons_append, true_and, and_true, ne_eq, not_true_eq_false, if_false, if_true, ite_false, ite_true, List.map_cons, List.map_nil, List.drop_zero, List.drop_succ_cons, List.take_succ_cons, List.take_zero, List.length_cons, List.length_nil, Nat.zero_add, decide_true, decide_false, beq_self_eq_true, Bool.and_true, Bool.and_false, Bool.true_and, Bool.false_and, Int.toNat_natCast, lowBlk_box, lowBlk_arr, lowBlk_none, List.append_nil, List.getElem?_cons_zero, List.getElem?_cons_succ, List.all_cons, List.all_nil, List.any_cons, List.any_nil, List.contains_cons, List.contains_nil, Bool.or_false, Bool.false_or, Bool.or_true, Bool.true_or, Bool.not_false, Bool.not_true, bne_self_eq_false, List.singleton_append, Int.add_sub_cancel, List.replicate_succ, List.replicate_zero, List.flatten_cons, List.flatten_nil, List.set_cons_succ, List.set_cons_zero, List.headD_cons, List.tail_cons, Nat.add_lt_add_iff_left, freeOf.eq_1, freeOf.eq_2, indep.eq_1, offO.eq_1, offO.eq_2, neqO.eq_1, neqO.eq_2, disj.eq_1, namesX.eq_1, namesX.eq_2, axSlot.eq_1, axSlot.eq_2, opXs.eq_1, opXs.eq_2, opXs.eq_3, opXs.eq_4, opXs.eq_5, opXs.eq_6, opXs.eq_7, opXs.eq_8, opXs.eq_9, opXs.eq_10, opXs.eq_11, opXs.eq_12, opXs.eq_13, opXs.eq_14, opXs.eq_15, opXs.eq_16, opXs.eq_17, opXs.eq_18, opXs.eq_19, opXs.eq_20, opXs.eq_21, opXs.eq_22, opXs.eq_23, opXs.eq_24, opXs.eq_25, opXs.eq_26, opXs.eq_27, opXs.eq_28, opXs.eq_29, opXs.eq_30, opXs.eq_31, opXs.eq_32, opXs.eq_33, opXs.eq_34, opXs.eq_35, opXs.eq_36, opXs.eq_37, opXs.eq_38, opXs.eq_39, opXs.eq_40, opXs.eq_41, opXs.eq_42, opXs.eq_43, opXs.eq_44, opXs.eq_45, opXs.eq_46, opXs.eq_47, rdXs.eq_1, rdXs.eq_2, rdXs.eq_3, rdXs.eq_4, rdXs.eq_5, rdXs.eq_6, rdXs.eq_7, rdXs.eq_8, rdXs.eq_9, rdXs.eq_10, rdXs.eq_11, rdXs.eq_12, rdXs.eq_13, rdXs.eq_14, rdXs.eq_15, idsOf.eq_1, idsOf.eq_2, idsOf.eq_3, idsOf.eq_4, idsOf.eq_5, idsOf.eq_6, idsOf.eq_7, idsOf.eq_8, idsOf.eq_9, idsOfs.eq_1, idsOfs.eq_2, lowH.eq_1, lowH.eq_2, lowAll.eq_1, keys.eq_1, optInt.eq_1, optInt.eq_2, fillP.eq_1, fillP.eq_2, repl.eq_1, chunk.eq_1, chunk.eq_2, mkCols.eq_1, mkCols.eq_2, mkCols.eq_3, mkCol.eq_1, mkCol.eq_2, mkCol.eq_3, mkCol.eq_4, mkCol.eq_5, colInts.eq_1, colInts.eq_2, colInts.eq_3, colBools.eq_1, colBools.eq_2, colBools.eq_3, colStrs.eq_1, colStrs.eq_2, colStrs.eq_3, colLits.eq_1, colLits.eq_2, colLits.eq_3, colsApp.eq_1, colsApp.eq_2, colsApp.eq_3, Col.app.eq_1, Col.app.eq_2, Col.app.eq_3, Col.app.eq_4, Col.app.eq_5, tailOf.eq_1, tailOf.eq_2, tailOf.eq_3, splice.eq_1, splice.eq_2, colsPut.eq_1, colsPut.eq_2, colsPut.eq_3, colsPut.eq_4, Col.put.eq_1, Col.put.eq_2, Col.put.eq_3, Col.put.eq_4, Col.put.eq_5, mmFold.eq_1, mmFold.eq_2, mmFold.eq_3, eqK.eq_1, eqK.eq_2, eqK.eq_3, eqK.eq_4, eqK.eq_5, colsPaste.eq_1, colsPaste.eq_2, colsPaste.eq_3, Col.paste.eq_1, Col.paste.eq_2, Col.paste.eq_3, Col.paste.eq_4, Col.paste.eq_5, mNew.eq_1, mNew.eq_2, mNew.eq_3, mNew.eq_4, mkKey.eq_1, mkKey.eq_2, mkKey.eq_3, mkKey.eq_4, keyIn.eq_1, keyIn.eq_2, keyIn.eq_3, mGet.eq_1, mGet.eq_2, mGet.eq_3, mGet.eq_4, mPut.eq_1, mPut.eq_2, mPut.eq_3, mPut.eq_4, res.eq_1, stepIdx.eq_1, mix.eq_1, mix.eq_2, mix.eq_3, mix.eq_4, PV.cells.eq_1, PV.cells.eq_2, PV.cells.eq_3, PV.cells.eq_4, argSlots.eq_1, argSlots.eq_2, colPV.eq_1, colPV.eq_2, colPV.eq_3, colPV.eq_4, ROp.eq_1, ROp.eq_2, ROp.eq_3, OX.eq_1, OX.eq_2, OX.eq_3, noOs.eq_1, noOs.eq_2, noOs.eq_3, noOs.eq_4, noOs.eq_5, noOs.eq_6, mkCol.eq_6, Col.app.eq_6, Col.put.eq_6, Col.paste.eq_6, colPV.eq_5, colSls.eq_1, colSls.eq_2, colSls.eq_3, step, stepBin, Nat.reduceBEq, Nat.reduceBeqDiff, Nat.add_assoc nid, Nat.reduceAdd, reduceCtorEq, Nat.reduceLeDiff, Nat.reduceBneDiff, Option.toList, ← Int.ofNat_tmod, ← Int.ofNat_tdiv, Nat.reduceLT]
          rw [RAny.eq_2]
          simp -dsimp only [ROps.eq_1, ROps.eq_2, ROps.eq_3, ROps.eq_4, BS_some, BS_true, BS_none, OB_bool, OG_bool, OG_tup, S2_true, S2_false, OF_fn, getS_hit, getS_miss, getS.eq_1, getH_hit, getH_miss, getH.eq_1, putS.eq_1, putS.eq_2, AX.val.eq_1, AX.val.eq_2, cond_true, cond_false, idS1, idS2, List.nil_append, List.cons_append, true_and, and_true, ne_eq, not_true_eq_false, if_false, if_true, ite_false, ite_true, List.map_cons, List.map_nil, List.drop_zero, List.drop_succ_cons, List.take_succ_cons, List.take_zero, List.length_cons, List.length_nil, Nat.zero_add, decide_true, decide_false, beq_self_eq_true, Bool.and_true, Bool.and_false, Bool.true_and, Bool.false_and, Int.toNat_natCast, lowBlk_box, lowBlk_arr, lowBlk_none, List.append_nil, List.getElem?_cons_zero, List.getElem?_cons_succ, List.all_cons, List.all_nil, List.any_cons, List.any_nil, List.contains_cons, List.contains_nil, Bool.or_false, Bool.false_or, Bool.or_true, Bool.true_or, Bool.not_false, Bool.not_true, bne_self_eq_false, List.singleton_append, Int.add_sub_cancel, List.replicate_succ, List.replicate_zero, List.flatten_cons, List.flatten_nil, List.set_cons_succ, List.set_cons_zero, List.headD_cons, List.tail_cons, Nat.add_lt_add_iff_left, freeOf.eq_1, freeOf.eq_2, indep.eq_1, offO.eq_1, offO.eq_2, neqO.eq_1, neqO.eq_2, disj.eq_1, namesX.eq_1, namesX.eq_2, axSlot.eq_1, axSlot.eq_2, opXs.eq_1, opXs.eq_2, opXs.eq_3, opXs.eq_4, opXs.eq_5, opXs.eq_6, opXs.eq_7, opXs.eq_8, opXs.eq_9, opXs.eq_10, opXs.eq_11, opXs.eq_12, opXs.eq_13, opXs.eq_14, opXs.eq_15, opXs.eq_16, opXs.eq_17, opXs.eq_18, opXs.eq_19, opXs.eq_20, opXs.eq_21, opXs.eq_22, opXs.eq_23, opXs.eq_24, opXs.eq_25, opXs.eq_26, opXs.eq_27, opXs.eq_28, opXs.eq_29, opXs.eq_30, opXs.eq_31, opXs.eq_32, opXs.eq_33, opXs.eq_34, opXs.eq_35, opXs.eq_36, opXs.eq_37, opXs.eq_38, opXs.eq_39, opXs.eq_40, opXs.eq_41, opXs.eq_42, opXs.eq_43, opXs.eq_44, opXs.eq_45, opXs.eq_46, opXs.eq_47, rdXs.eq_1, rdXs.eq_2, rdXs.eq_3, rdXs.eq_4, rdXs.eq_5, rdXs.eq_6, rdXs.eq_7, rdXs.eq_8, rdXs.eq_9, rdXs.eq_10, rdXs.eq_11, rdXs.eq_12, rdXs.eq_13, rdXs.eq_14, rdXs.eq_15, idsOf.eq_1, idsOf.eq_2, idsOf.eq_3, idsOf.eq_4, idsOf.eq_5, idsOf.eq_6, idsOf.eq_7, idsOf.eq_8, idsOf.eq_9, idsOfs.eq_1, idsOfs.eq_2, lowH.eq_1, lowH.eq_2, lowAll.eq_1, keys.eq_1, optInt.eq_1, optInt.eq_2, fillP.eq_1, fillP.eq_2, repl.eq_1, chunk.eq_1, chunk.eq_2, mkCols.eq_1, mkCols.eq_2, mkCols.eq_3, mkCol.eq_1, mkCol.eq_2, mkCol.eq_3, mkCol.eq_4, mkCol.eq_5, colInts.eq_1, colInts.eq_2, colInts.eq_3, colBools.eq_1, colBools.eq_2, colBools.eq_3, colStrs.eq_1, colStrs.eq_2, colStrs.eq_3, colLits.eq_1, colLits.eq_2, colLits.eq_3, colsApp.eq_1, colsApp.eq_2, colsApp.eq_3, Col.app.eq_1, Col.app.eq_2, Col.app.eq_3, Col.app.eq_4, Col.app.eq_5, tailOf.eq_1, tailOf.eq_2, tailOf.eq_3, splice.eq_1, splice.eq_2, colsPut.eq_1, colsPut.eq_2, colsPut.eq_3, colsPut.eq_4, Col.put.eq_1, Col.put.eq_2, Col.put.eq_3, Col.put.eq_4, Col.put.eq_5, mmFold.eq_1, mmFold.eq_2, mmFold.eq_3, eqK.eq_1, eqK.eq_2, eqK.eq_3, eqK.eq_4, eqK.eq_5, colsPaste.eq_1, colsPaste.eq_2, colsPaste.eq_3, Col.paste.eq_1, Col.paste.eq_2, Col.paste.eq_3, Col.paste.eq_4, Col.paste.eq_5, mNew.eq_1, mNew.eq_2, mNew.eq_3, mNew.eq_4, mkKey.eq_1, mkKey.eq_2, mkKey.eq_3, mkKey.eq_4, keyIn.eq_1, keyIn.eq_2, keyIn.eq_3, mGet.eq_1, mGet.eq_2, mGet.eq_3, mGet.eq_4, mPut.eq_1, mPut.eq_2, mPut.eq_3, mPut.eq_4, res.eq_1, stepIdx.eq_1, mix.eq_1, mix.eq_2, mix.eq_3, mix.eq_4, PV.cells.eq_1, PV.cells.eq_2, PV.cells.eq_3, PV.cells.eq_4, argSlots.eq_1, argSlots.eq_2, colPV.eq_1, colPV.eq_2, colPV.eq_3, colPV.eq_4, ROp.eq_1, ROp.eq_2, ROp.eq_3, OX.eq_1, OX.eq_2, OX.eq_3, noOs.eq_1, noOs.eq_2, noOs.eq_3, noOs.eq_4, noOs.eq_5, noOs.eq_6, mkCol.eq_6, Col.app.eq_6, Col.put.eq_6, Col.paste.eq_6, colPV.eq_5, colSls.eq_1, colSls.eq_2, colSls.eq_3, step, stepBin, Nat.reduceBEq, Nat.reduceBeqDiff, Nat.add_assoc nid, Nat.reduceAdd, reduceCtorEq, Nat.reduceLeDiff, Nat.reduceBneDiff, Option.toList, ← Int.ofNat_tmod, ← Int.ofNat_tdiv, Nat.reduceLT]
          rw [hu]
          simp -dsimp only [aqT, aqU, aqN, ↓seqK, ↓blkK, ↓loopK, step, stepBin, Nat.reduceBEq, Nat.reduceBeqDiff, Nat.add_assoc nid, Nat.reduceAdd, reduceCtorEq, ↓reduceIte, Nat.reduceLeDiff, Nat.reduceBneDiff, Option.toList, ← Int.ofNat_tmod, ← Int.ofNat_tdiv, Nat.reduceLT, Int.cast_ofNat_Int, Int.reduceBEq, Int.reduceBNe, Int.reduceLT, Int.reduceLE, Int.reduceAdd, Int.reduceSub, Int.reduceMul, Int.reduceToNat, Int.reduceNeg, Int.reduceTMod, Int.reduceEq, not_false_eq_true, Int.reducePow, Int.reduceFDiv, Nat.reducePow, Nat.reduceSub, Nat.reduceMul, Nat.min_eq_left, Nat.reduceEqDiff, BEq.rfl, Int.tdiv_one, LN_succ]
          refine ⟨by unfold inI64; omega, (j + 1, d), ⟨⟨by simp only; omega, fun i hi => ?_⟩, by simp only; omega⟩, Cov.go [] [] ?_⟩
          · simp only at hi
            rcases (by omega : i < j ∨ i = j) with h6 | h6
            · exact hno i h6
            · subst h6
              rw [hnx]
              rfl
          simp [cvT, step, res, hil, ColsEq.refl, -List.getD_eq_getElem?_getD]
      · obtain rfl : j = v.length := by omega
        obtain ⟨i, hi, hp⟩ := hat.more (dV_bd hv) (by omega)
        rw [hno i hi] at hp
        cases hp
    · obtain rfl : f = 0 := by omega
      obtain rfl : out = orderO v := hgo
      refine ⟨d, Cov.go [] [] ?_⟩
      simp [cvT, step, res, hil, hol, ColsEq.refl, -List.getD_eq_getElem?_getD]
  · have hol : (intsO (orderO v)).length = v.length := by unfold intsO; rw [List.length_map]; exact (order_facts hv h0).1
    unfold hsO boxNn boxRm boxVs boxCf mapO capO litS arrI
    refine SR.run (t := .mk) ?_
    simp -dsimp only [aqT, aqU, aqN, ↓seqK, ↓blkK, ↓loopK, step, stepBin, Nat.reduceBEq, Nat.reduceBeqDiff, Nat.add_assoc nid, Nat.reduceAdd, reduceCtorEq, ↓reduceIte, Nat.reduceLeDiff, Nat.reduceBneDiff, Option.toList, ← Int.ofNat_tmod, ← Int.ofNat_tdiv, Nat.reduceLT, Int.cast_ofNat_Int, Int.reduceBEq, Int.reduceBNe, Int.reduceLT, Int.reduceLE, Int.reduceAdd, Int.reduceSub, Int.reduceMul, Int.reduceToNat, Int.reduceNeg, Int.reduceTMod, Int.reduceEq, not_false_eq_true, Int.reducePow, Int.reduceFDiv, Nat.reducePow, Nat.reduceSub, Nat.reduceMul, Nat.min_eq_left, Nat.reduceEqDiff, BEq.rfl, Int.tdiv_one, LN_succ]
    refine ⟨by omega, ?_⟩
    rw [shl64 F (by omega)]
    refine CallX.on (first_c nid nl v w hv hw hn F d _ (by omega) hfl) (subH_cons (by simp only [aqT, aqU, aqN, ↓seqK, ↓blkK, ↓loopK, step, stepBin, Nat.reduceBEq, Nat.reduceBeqDiff, Nat.add_assoc nid, Nat.reduceAdd, reduceCtorEq, ↓reduceIte, Nat.reduceLeDiff, Nat.reduceBneDiff, Option.toList, ← Int.ofNat_tmod, ← Int.ofNat_tdiv, Nat.reduceLT, Int.cast_ofNat_Int, Int.reduceBEq, Int.reduceBNe, Int.reduceLT, Int.reduceLE, Int.reduceAdd, Int.reduceSub, Int.reduceMul, Int.reduceToNat, Int.reduceNeg, Int.reduceTMod, Int.reduceEq, not_false_eq_true, Int.reducePow, Int.reduceFDiv, Nat.reducePow, Nat.reduceSub, Nat.reduceMul, Nat.min_eq_left, Nat.reduceEqDiff, BEq.rfl, Int.tdiv_one, LN_succ, boxNn]) (subH_cons (by simp only [aqT, aqU, aqN, ↓seqK, ↓blkK, ↓loopK, step, stepBin, Nat.reduceBEq, Nat.reduceBeqDiff, Nat.add_assoc nid, Nat.reduceAdd, reduceCtorEq, ↓reduceIte, Nat.reduceLeDiff, Nat.reduceBneDiff, Option.toList, ← Int.ofNat_tmod, ← Int.ofNat_tdiv, Nat.reduceLT, Int.cast_ofNat_Int, Int.reduceBEq, Int.reduceBNe, Int.reduceLT, Int.reduceLE, Int.reduceAdd, Int.reduceSub, Int.reduceMul, Int.reduceToNat, Int.reduceNeg, Int.reduceTMod, Int.reduceEq, not_false_eq_true, Int.reducePow, Int.reduceFDiv, Nat.reducePow, Nat.reduceSub, Nat.reduceMul, Nat.min_eq_left, Nat.reduceEqDiff, BEq.rfl, Int.tdiv_one, LN_succ, boxRm]) (subH_cons (by simp only [aqT, aqU, aqN, ↓seqK, ↓blkK, ↓loopK, step, stepBin, Nat.reduceBEq, Nat.reduceBeqDiff, Nat.add_assoc nid, Nat.reduceAdd, reduceCtorEq, ↓reduceIte, Nat.reduceLeDiff, Nat.reduceBneDiff, Option.toList, ← Int.ofNat_tmod, ← Int.ofNat_tdiv, Nat.reduceLT, Int.cast_ofNat_Int, Int.reduceBEq, Int.reduceBNe, Int.reduceLT, Int.reduceLE, Int.reduceAdd, Int.reduceSub, Int.reduceMul, Int.reduceToNat, Int.reduceNeg, Int.reduceTMod, Int.reduceEq, not_false_eq_true, Int.reducePow, Int.reduceFDiv, Nat.reducePow, Nat.reduceSub, Nat.reduceMul, Nat.min_eq_left, Nat.reduceEqDiff, BEq.rfl, Int.tdiv_one, LN_succ, boxVs, litS]) (subH_cons (by simp only [aqT, aqU, aqN, ↓seqK, ↓blkK, ↓loopK, step, stepBin, Nat.reduceBEq, Nat.reduceBeqDiff, Nat.add_assoc nid, Nat.reduceAdd, reduceCtorEq, ↓reduceIte, Nat.reduceLeDiff, Nat.reduceBneDiff, Option.toList, ← Int.ofNat_tmod, ← Int.ofNat_tdiv, Nat.reduceLT, Int.cast_ofNat_Int, Int.reduceBEq, Int.reduceBNe, Int.reduceLT, Int.reduceLE, Int.reduceAdd, Int.reduceSub, Int.reduceMul, Int.reduceToNat, Int.reduceNeg, Int.reduceTMod, Int.reduceEq, not_false_eq_true, Int.reducePow, Int.reduceFDiv, Nat.reducePow, Nat.reduceSub, Nat.reduceMul, Nat.min_eq_left, Nat.reduceEqDiff, BEq.rfl, Int.tdiv_one, LN_succ, boxCf, capO]) (subH_get (by simp only [aqT, aqU, aqN, ↓seqK, ↓blkK, ↓loopK, step, stepBin, Nat.reduceBEq, Nat.reduceBeqDiff, Nat.add_assoc nid, Nat.reduceAdd, reduceCtorEq, ↓reduceIte, Nat.reduceLeDiff, Nat.reduceBneDiff, Option.toList, ← Int.ofNat_tmod, ← Int.ofNat_tdiv, Nat.reduceLT, Int.cast_ofNat_Int, Int.reduceBEq, Int.reduceBNe, Int.reduceLT, Int.reduceLE, Int.reduceAdd, Int.reduceSub, Int.reduceMul, Int.reduceToNat, Int.reduceNeg, Int.reduceTMod, Int.reduceEq, not_false_eq_true, Int.reducePow, Int.reduceFDiv, Nat.reducePow, Nat.reduceSub, Nat.reduceMul, Nat.min_eq_left, Nat.reduceEqDiff, BEq.rfl, Int.tdiv_one, LN_succ, mapO])))))) ?_
    rw [hsum]
    refine ⟨by simp [lowH, lowBlk, lowAll, idsOf, idsOfs, keys, hsO, boxNn, boxRm, boxVs, boxCf, litS, capO, mapO, aqT, aqU, aqN, ↓seqK, ↓blkK, ↓loopK, step, stepBin, Nat.reduceBEq, Nat.reduceBeqDiff, Nat.add_assoc nid, Nat.reduceAdd, reduceCtorEq, ↓reduceIte, Nat.reduceLeDiff, Nat.reduceBneDiff, Option.toList, ← Int.ofNat_tmod, ← Int.ofNat_tdiv, Nat.reduceLT, Int.cast_ofNat_Int, Int.reduceBEq, Int.reduceBNe, Int.reduceLT, Int.reduceLE, Int.reduceAdd, Int.reduceSub, Int.reduceMul, Int.reduceToNat, Int.reduceNeg, Int.reduceTMod, Int.reduceEq, not_false_eq_true, Int.reducePow, Int.reduceFDiv, Nat.reducePow, Nat.reduceSub, Nat.reduceMul, Nat.min_eq_left, Nat.reduceEqDiff, BEq.rfl, Int.tdiv_one, LN_succ], by simp [hsO, mapO, freeOf, disj, keys, aqT, aqU, aqN, ↓seqK, ↓blkK, ↓loopK, step, stepBin, Nat.reduceBEq, Nat.reduceBeqDiff, Nat.add_assoc nid, Nat.reduceAdd, reduceCtorEq, ↓reduceIte, Nat.reduceLeDiff, Nat.reduceBneDiff, Option.toList, ← Int.ofNat_tmod, ← Int.ofNat_tdiv, Nat.reduceLT, Int.cast_ofNat_Int, Int.reduceBEq, Int.reduceBNe, Int.reduceLT, Int.reduceLE, Int.reduceAdd, Int.reduceSub, Int.reduceMul, Int.reduceToNat, Int.reduceNeg, Int.reduceTMod, Int.reduceEq, not_false_eq_true, Int.reducePow, Int.reduceFDiv, Nat.reducePow, Nat.reduceSub, Nat.reduceMul, Nat.min_eq_left, Nat.reduceEqDiff, BEq.rfl, Int.tdiv_one, LN_succ], ?_⟩
    unfold mapO
    simp -dsimp only [aqT, aqU, aqN, ↓seqK, ↓blkK, ↓loopK, step, stepBin, Nat.reduceBEq, Nat.reduceBeqDiff, Nat.add_assoc nid, Nat.reduceAdd, reduceCtorEq, ↓reduceIte, Nat.reduceLeDiff, Nat.reduceBneDiff, Option.toList, ← Int.ofNat_tmod, ← Int.ofNat_tdiv, Nat.reduceLT, Int.cast_ofNat_Int, Int.reduceBEq, Int.reduceBNe, Int.reduceLT, Int.reduceLE, Int.reduceAdd, Int.reduceSub, Int.reduceMul, Int.reduceToNat, Int.reduceNeg, Int.reduceTMod, Int.reduceEq, not_false_eq_true, Int.reducePow, Int.reduceFDiv, Nat.reducePow, Nat.reduceSub, Nat.reduceMul, Nat.min_eq_left, Nat.reduceEqDiff, BEq.rfl, Int.tdiv_one, LN_succ]
    refine RetOK.go [(nid, nid + 24)] [] (.inl rfl) ?_
    simp [a49, cvT, step, res, arrI, hol, ColsEq.refl, -List.getD_eq_getElem?_getD]
end Go.Proofs.YthcldfmlfjomfaaDoor
namespace Go.Proofs.YthcldfmlfjomfaaDoor
open Go.RowKit Go.Lib
set_option maxHeartbeats 4000000 in
theorem chg_c (b n : Nat) (nl : Bool) (l : List (List UInt8)) (nid : Nat) (hb : b < nid) (hl : l.length ≤ 1000) (hn : n ≤ 100) (hrow : ∀ i, i < l.length → (l.getD i []).length = n) : ACall Tryd.prog 69 [litS nl l, .ptr b 0] [(b, boxNn n)] nid (.int .i64 (chgTo n l (l.length - 1) : Nat)) [] := by
  obtain ⟨p1, p2, p3, p4, p5, p6, p7, p8, p9⟩ := id_all hb
  refine acall_run c69 (by simp [a69]) ?_
  unfold litS boxNn
  simp -dsimp only [a69, aqT, aqU, aqN, ↓seqK, ↓blkK, ↓loopK, step, stepBin, Nat.reduceBEq, Nat.reduceBeqDiff, Nat.add_assoc nid, Nat.reduceAdd, reduceCtorEq, ↓reduceIte, Nat.reduceLeDiff, Nat.reduceBneDiff, Option.toList, ← Int.ofNat_tmod, ← Int.ofNat_tdiv, Nat.reduceLT, Int.cast_ofNat_Int, Int.reduceBEq, Int.reduceBNe, Int.reduceLT, Int.reduceLE, Int.reduceAdd, Int.reduceSub, Int.reduceMul, Int.reduceToNat, Int.reduceNeg, Int.reduceTMod, Int.reduceEq, not_false_eq_true, Int.reducePow, Int.reduceFDiv, Nat.reducePow, Nat.reduceSub, Nat.reduceMul, Nat.min_eq_left, Nat.reduceEqDiff, BEq.rfl, Int.tdiv_one, LN_succ, p1, p2, p3, p4]
  refine LP.mkP (fun k : Nat => 1 ≤ k ∧ k - 1 ≤ l.length - 1) (fun k : Nat => ⟨[(5, .int .i64 k), (4, .int .i64 (chgTo n l (k - 1) : Nat)), (0, litS nl l), (1, .ptr b 0)], [(b, boxNn n)], nid + 100, nid⟩) (fun k => l.length + 1 - k) 1 ⟨by omega, by omega⟩ (Cov.go [] [] ?_) (fun k hk => ?_)
  · unfold litS boxNn
    simp [cvT, step, res, chgTo, p1, p2, p3, p4, -List.getD_eq_getElem?_getD]
    omega
  obtain ⟨hk1, hk⟩ := hk
  have hcl := chgTo_le n l (k - 1)
  have hc2 : n * (k - 1) ≤ 100 * 1000 := Nat.mul_le_mul hn (by omega)
  unfold litS boxNn
  simp -dsimp only [aqT, aqU, aqN, ↓seqK, ↓blkK, ↓loopK, step, stepBin, Nat.reduceBEq, Nat.reduceBeqDiff, Nat.add_assoc nid, Nat.reduceAdd, reduceCtorEq, ↓reduceIte, Nat.reduceLeDiff, Nat.reduceBneDiff, Option.toList, ← Int.ofNat_tmod, ← Int.ofNat_tdiv, Nat.reduceLT, Int.cast_ofNat_Int, Int.reduceBEq, Int.reduceBNe, Int.reduceLT, Int.reduceLE, Int.reduceAdd, Int.reduceSub, Int.reduceMul, Int.reduceToNat, Int.reduceNeg, Int.reduceTMod, Int.reduceEq, not_false_eq_true, Int.reducePow, Int.reduceFDiv, Nat.reducePow, Nat.reduceSub, Nat.reduceMul, Nat.min_eq_left, Nat.reduceEqDiff, BEq.rfl, Int.tdiv_one, LN_succ, p1, p2, p3, p4]
  refine S2.dec (fun h3 => ?_) (fun h3 => ?_) <;> simp -dsimp only [aqT, aqU, aqN, ↓seqK, ↓blkK, ↓loopK, step, stepBin, Nat.reduceBEq, Nat.reduceBeqDiff, Nat.add_assoc nid, Nat.reduceAdd, reduceCtorEq, ↓reduceIte, Nat.reduceLeDiff, Nat.reduceBneDiff, Option.toList, ← Int.ofNat_tmod, ← Int.ofNat_tdiv, Nat.reduceLT, Int.cast_ofNat_Int, Int.reduceBEq, Int.reduceBNe, Int.reduceLT, Int.reduceLE, Int.reduceAdd, Int.reduceSub, Int.reduceMul, Int.reduceToNat, Int.reduceNeg, Int.reduceTMod, Int.reduceEq, not_false_eq_true, Int.reducePow, Int.reduceFDiv, Nat.reducePow, Nat.reduceSub, Nat.reduceMul, Nat.min_eq_left, Nat.reduceEqDiff, BEq.rfl, Int.tdiv_one, LN_succ, p1, p2, p3, p4]
  · have hkl : k < l.length := by omega
    have hsc : chgTo n l k = chgTo n l (k - 1) + hamK (l.getD k []) (l.getD (k - 1) []) n := by
      obtain ⟨m, rfl⟩ : ∃ m, k = m + 1 := ⟨k - 1, by omega⟩
      rfl
    have hr1 := hrow k hkl
    have hr2 := hrow (k - 1) (by omega)
    have e : ((k : Nat) : Int) - 1 = ((k - 1 : Nat) : Int) := by omega
    generalize hC : chgTo n l (k - 1) = C at *
    refine LP.mkP (fun j : Nat => j ≤ n) (fun j : Nat => ⟨[(14, .int .i64 j), (13, .int .i64 n), (5, .int .i64 k), (4, .int .i64 (C + hamK (l.getD k []) (l.getD (k - 1) []) j : Nat)), (0, litS nl l), (1, .ptr b 0)], [(b, boxNn n)], nid + 200, nid⟩) (fun j => n + 1 - j) 0 (by omega) (Cov.go [] [] ?_) (fun j hj => ?_)
    · unfold litS boxNn
      simp [cvT, step, res, hamK, p1, p2, p3, p4, -List.getD_eq_getElem?_getD]
      omega
    have hs := hamK_succ (l.getD k []) (l.getD (k - 1) []) j
    have hle := hamK_le (l.getD k []) (l.getD (k - 1) []) j
    unfold litS boxNn
    simp -dsimp only [aqT, aqU, aqN, ↓seqK, ↓blkK, ↓loopK, step, stepBin, Nat.reduceBEq, Nat.reduceBeqDiff, Nat.add_assoc nid, Nat.reduceAdd, reduceCtorEq, ↓reduceIte, Nat.reduceLeDiff, Nat.reduceBneDiff, Option.toList, ← Int.ofNat_tmod, ← Int.ofNat_tdiv, Nat.reduceLT, Int.cast_ofNat_Int, Int.reduceBEq, Int.reduceBNe, Int.reduceLT, Int.reduceLE, Int.reduceAdd, Int.reduceSub, Int.reduceMul, Int.reduceToNat, Int.reduceNeg, Int.reduceTMod, Int.reduceEq, not_false_eq_true, Int.reducePow, Int.reduceFDiv, Nat.reducePow, Nat.reduceSub, Nat.reduceMul, Nat.min_eq_left, Nat.reduceEqDiff, BEq.rfl, Int.tdiv_one, LN_succ, p1, p2, p3, p4]
    refine S2.dec (fun h4 => ?_) (fun h4 => ?_) <;> simp -dsimp only [aqT, aqU, aqN, ↓seqK, ↓blkK, ↓loopK, step, stepBin, Nat.reduceBEq, Nat.reduceBeqDiff, Nat.add_assoc nid, Nat.reduceAdd, reduceCtorEq, ↓reduceIte, Nat.reduceLeDiff, Nat.reduceBneDiff, Option.toList, ← Int.ofNat_tmod, ← Int.ofNat_tdiv, Nat.reduceLT, Int.cast_ofNat_Int, Int.reduceBEq, Int.reduceBNe, Int.reduceLT, Int.reduceLE, Int.reduceAdd, Int.reduceSub, Int.reduceMul, Int.reduceToNat, Int.reduceNeg, Int.reduceTMod, Int.reduceEq, not_false_eq_true, Int.reducePow, Int.reduceFDiv, Nat.reducePow, Nat.reduceSub, Nat.reduceMul, Nat.min_eq_left, Nat.reduceEqDiff, BEq.rfl, Int.tdiv_one, LN_succ, p1, p2, p3, p4]
    · have hjn : j < n := by omega
      have et : (((k : Nat) : Int) - 1).toNat = k - 1 := by omega
      have eb : ∀ x y : UInt8, (((x.toNat : Nat) : Int) != ((y.toNat : Nat) : Int)) = !(x == y) := fun x y => by
        rw [Bool.eq_iff_iff]
        simp only [bne_iff_ne, ne_eq, Int.natCast_inj, UInt8.toNat_inj, Bool.not_eq_true', beq_eq_false_iff_ne]
      rw [et, eb]
      refine ⟨⟨by omega, by omega⟩, ⟨by omega, by omega⟩, by unfold inI64; omega, ⟨by omega, by omega⟩, ⟨by omega, by omega⟩, ?_⟩
      cases h5 : ((l.getD k []).getD j 0 == (l.getD (k - 1) []).getD j 0) <;> rw [h5] at hs <;> simp -dsimp only [aqT, aqU, aqN, ↓seqK, ↓blkK, ↓loopK, step, stepBin, Nat.reduceBEq, Nat.reduceBeqDiff, Nat.add_assoc nid, Nat.reduceAdd, reduceCtorEq, ↓reduceIte, Nat.reduceLeDiff, Nat.reduceBneDiff, Option.toList, ← Int.ofNat_tmod, ← Int.ofNat_tdiv, Nat.reduceLT, Int.cast_ofNat_Int, Int.reduceBEq, Int.reduceBNe, Int.reduceLT, Int.reduceLE, Int.reduceAdd, Int.reduceSub, Int.reduceMul, Int.reduceToNat, Int.reduceNeg, Int.reduceTMod, Int.reduceEq, not_false_eq_true, Int.reducePow, Int.reduceFDiv, Nat.reducePow, Nat.reduceSub, Nat.reduceMul, Nat.min_eq_left, Nat.reduceEqDiff, BEq.rfl, Int.tdiv_one, LN_succ, Bool.not_true, Bool.not_false, p1, p2, p3, p4]
      · rw [if_neg (by simp)] at hs
        refine ⟨by unfold inI64; omega, by unfold inI64; omega, j + 1, ⟨by omega, by omega⟩, Cov.go [] [] ?_⟩
        simp [cvT, step, res, hs, p1, p2, p3, p4, -List.getD_eq_getElem?_getD]
        omega
      · rw [if_pos rfl] at hs
        refine ⟨by unfold inI64; omega, j + 1, ⟨by omega, by omega⟩, Cov.go [] [] ?_⟩
        simp [cvT, step, res, hs, p1, p2, p3, p4, -List.getD_eq_getElem?_getD]
        omega
    · obtain rfl : j = n := by omega
      refine ⟨by unfold inI64; omega, k + 1, ⟨⟨by omega, by omega⟩, by omega⟩, Cov.go [] [] ?_⟩
      simp [cvT, step, res, hsc, p1, p2, p3, p4, -List.getD_eq_getElem?_getD]
      omega
  · have : k - 1 = l.length - 1 := by omega
    rw [this]
    refine RetOK.go [] [] (.inl rfl) ?_
    simp [a69, cvT, step, res, p1, p2, p3, p4]
    omega
theorem getD_appS1 (l : List (List UInt8)) (x : List UInt8) : (fun i => if i < l.length then l.getD i [] else [x].getD (i - l.length) []) = fun i => (l ++ [x]).getD i [] := by
  funext i
  rw [List.getD_eq_getElem?_getD, List.getD_eq_getElem?_getD, List.getD_eq_getElem?_getD, List.getElem?_append]
  split <;> rfl
theorem inOrd_len (v : List (List UInt8)) (o : List Nat) : (inOrd v o).length = o.length := by simp [inOrd]
theorem inOrd_snoc (v : List (List UInt8)) {o : List Nat} {k : Nat} (h : k < o.length) : inOrd v (o.take (k + 1)) = inOrd v (o.take k) ++ [v.getD (o.getD k 0) []] := by
  unfold inOrd
  rw [List.take_add_one, List.map_append, List.getElem?_eq_getElem h]
  simp [h]
set_option maxHeartbeats 4000000 in
theorem someO_c (nl nl2 : Bool) (v : List (List UInt8)) (o : List Nat) (nid : Nat) (hv : v.length ≤ 1000) (ho : ∀ x ∈ o, x < v.length) (hol : o.length ≤ 1000) : ACall Tryd.prog 52 [litS nl v, litI nl2 (intsO o)] [] nid (.tup [.sl nid 0 o.length, .bool true]) [(nid, arrS (inOrd v o))] := by
  have hil : (intsO o).length = o.length := by unfold intsO; rw [List.length_map]
  have hig : ∀ k, k < o.length → (intsO o).getD k 0 = ((o.getD k 0 : Nat) : Int) := fun k hk => by
    unfold intsO
    rw [List.getD_eq_getElem?_getD, List.getElem?_map, List.getElem?_eq_getElem hk]
    simp [hk]
  refine acall_run c52 (by simp [a52]) ?_
  unfold litS litI
  rw [hil]
  simp -dsimp only [aqT, aqU, aqN, ↓seqK, ↓blkK, ↓loopK, step, stepBin, Nat.reduceBEq, Nat.reduceBeqDiff, Nat.add_assoc nid, Nat.reduceAdd, reduceCtorEq, ↓reduceIte, Nat.reduceLeDiff, Nat.reduceBneDiff, Option.toList, ← Int.ofNat_tmod, ← Int.ofNat_tdiv, Nat.reduceLT, Int.cast_ofNat_Int, Int.reduceBEq, Int.reduceBNe, Int.reduceLT, Int.reduceLE, Int.reduceAdd, Int.reduceSub, Int.reduceMul, Int.reduceToNat, Int.reduceNeg, Int.reduceTMod, Int.reduceEq, not_false_eq_true, Int.reducePow, Int.reduceFDiv, Nat.reducePow, Nat.reduceSub, Nat.reduceMul, Nat.min_eq_left, Nat.reduceEqDiff, BEq.rfl, Int.tdiv_one, LN_succ, a52]
  refine LP.mkP (fun k : Nat => k ≤ o.length) (fun k : Nat => ⟨[(11, .int .i64 k), (10, .int .i64 o.length), (9, .lit nl2 o.length [.i .i64 fun i => (intsO o).getD i 0]), (6, .sl (nid + 8) 0 k), (0, litS nl v)], [(nid + 8, arrS (inOrd v (o.take k)))], nid + 100, nid⟩) (fun k => o.length + 1 - k) 0 (by omega) (Cov.go [] [(nid + 8, 1)] ?_) (fun k hk => ?_)
  · unfold litS arrS
    simp [cvT, step, res, inOrd, ColsEq.refl, -List.getD_eq_getElem?_getD]
  have htl : (inOrd v (o.take k)).length = k := by rw [inOrd_len, List.length_take]; omega
  unfold litS arrS
  simp -dsimp only [aqT, aqU, aqN, ↓seqK, ↓blkK, ↓loopK, step, stepBin, Nat.reduceBEq, Nat.reduceBeqDiff, Nat.add_assoc nid, Nat.reduceAdd, reduceCtorEq, ↓reduceIte, Nat.reduceLeDiff, Nat.reduceBneDiff, Option.toList, ← Int.ofNat_tmod, ← Int.ofNat_tdiv, Nat.reduceLT, Int.cast_ofNat_Int, Int.reduceBEq, Int.reduceBNe, Int.reduceLT, Int.reduceLE, Int.reduceAdd, Int.reduceSub, Int.reduceMul, Int.reduceToNat, Int.reduceNeg, Int.reduceTMod, Int.reduceEq, not_false_eq_true, Int.reducePow, Int.reduceFDiv, Nat.reducePow, Nat.reduceSub, Nat.reduceMul, Nat.min_eq_left, Nat.reduceEqDiff, BEq.rfl, Int.tdiv_one, LN_succ, htl]
  refine S2.dec (fun h3 => ?_) (fun h3 => ?_) <;> simp -dsimp only [aqT, aqU, aqN, ↓seqK, ↓blkK, ↓loopK, step, stepBin, Nat.reduceBEq, Nat.reduceBeqDiff, Nat.add_assoc nid, Nat.reduceAdd, reduceCtorEq, ↓reduceIte, Nat.reduceLeDiff, Nat.reduceBneDiff, Option.toList, ← Int.ofNat_tmod, ← Int.ofNat_tdiv, Nat.reduceLT, Int.cast_ofNat_Int, Int.reduceBEq, Int.reduceBNe, Int.reduceLT, Int.reduceLE, Int.reduceAdd, Int.reduceSub, Int.reduceMul, Int.reduceToNat, Int.reduceNeg, Int.reduceTMod, Int.reduceEq, not_false_eq_true, Int.reducePow, Int.reduceFDiv, Nat.reducePow, Nat.reduceSub, Nat.reduceMul, Nat.min_eq_left, Nat.reduceEqDiff, BEq.rfl, Int.tdiv_one, LN_succ]
  · have hkl : k < o.length := by omega
    rw [hig k hkl]
    have hx := ho (o.getD k 0) (by rw [List.getD_eq_getElem?_getD, List.getElem?_eq_getElem hkl]; exact List.getElem_mem _)
    have hsn := inOrd_snoc v hkl
    generalize o.getD k 0 = x at *
    refine ⟨⟨by omega, by omega⟩, ?_⟩
    refine S2.dec (fun h4 => absurd h4 (by omega)) (fun h4 => ?_) <;> simp -dsimp only [aqT, aqU, aqN, ↓seqK, ↓blkK, ↓loopK, step, stepBin, Nat.reduceBEq, Nat.reduceBeqDiff, Nat.add_assoc nid, Nat.reduceAdd, reduceCtorEq, ↓reduceIte, Nat.reduceLeDiff, Nat.reduceBneDiff, Option.toList, ← Int.ofNat_tmod, ← Int.ofNat_tdiv, Nat.reduceLT, Int.cast_ofNat_Int, Int.reduceBEq, Int.reduceBNe, Int.reduceLT, Int.reduceLE, Int.reduceAdd, Int.reduceSub, Int.reduceMul, Int.reduceToNat, Int.reduceNeg, Int.reduceTMod, Int.reduceEq, not_false_eq_true, Int.reducePow, Int.reduceFDiv, Nat.reducePow, Nat.reduceSub, Nat.reduceMul, Nat.min_eq_left, Nat.reduceEqDiff, BEq.rfl, Int.tdiv_one, LN_succ]
    refine S2.dec (fun h5 => absurd h5 (by omega)) (fun h5 => ?_) <;> simp -dsimp only [aqT, aqU, aqN, ↓seqK, ↓blkK, ↓loopK, step, stepBin, Nat.reduceBEq, Nat.reduceBeqDiff, Nat.add_assoc nid, Nat.reduceAdd, reduceCtorEq, ↓reduceIte, Nat.reduceLeDiff, Nat.reduceBneDiff, Option.toList, ← Int.ofNat_tmod, ← Int.ofNat_tdiv, Nat.reduceLT, Int.cast_ofNat_Int, Int.reduceBEq, Int.reduceBNe, Int.reduceLT, Int.reduceLE, Int.reduceAdd, Int.reduceSub, Int.reduceMul, Int.reduceToNat, Int.reduceNeg, Int.reduceTMod, Int.reduceEq, not_false_eq_true, Int.reducePow, Int.reduceFDiv, Nat.reducePow, Nat.reduceSub, Nat.reduceMul, Nat.min_eq_left, Nat.reduceEqDiff, BEq.rfl, Int.tdiv_one, LN_succ]
    refine ⟨⟨by omega, by omega⟩, ?_⟩
    have happ : (fun i => if i < k then (inOrd v (o.take k)).getD i [] else [v.getD x []].getD (i - k) []) = fun i => (inOrd v (o.take (k + 1))).getD i [] := by
      rw [hsn]
      have := getD_appS1 (inOrd v (o.take k)) (v.getD x [])
      rw [htl] at this
      exact this
    rw [happ]
    have htl2 : (inOrd v (o.take (k + 1))).length = k + 1 := by rw [inOrd_len, List.length_take]; omega
    refine ⟨by omega, by unfold inI64; omega, k + 1, ⟨by omega, by omega⟩, Cov.go [(nid + 8, nid + 172)] [] ?_⟩
    simp [cvT, step, res, htl2, arrS, ColsEq.refl, -List.getD_eq_getElem?_getD]
  · obtain rfl : k = o.length := by omega
    rw [List.take_length] at htl ⊢
    refine RetOK.go [(nid, nid + 8)] [] (.inl rfl) ?_
    simp [a52, cvT, step, res, arrS, htl, ColsEq.refl, -List.getD_eq_getElem?_getD]
end Go.Proofs.YthcldfmlfjomfaaDoor
namespace Go.Proofs.YthcldfmlfjomfaaDoor
open Go.RowKit Go.Shelf Go.Sort
attribute [local go_sem] Oper.semAt_some
def comeN {α : Type} (f : Nat → α) (k : Nat) : List α := (List.range k).map f
theorem comeN_succ {α : Type} (f : Nat → α) (k : Nat) : comeN f (k + 1) = comeN f k ++ [f k] := by simp [comeN, List.range_succ]
theorem comeN_length {α : Type} (f : Nat → α) (k : Nat) : (comeN f k).length = k := by simp [comeN]
set_option maxRecDepth 100000 in
set_option maxHeartbeats 2000000 in
theorem values1N_in (F : Fence) (n : Nat) (h7 : F.fn 129) (hro : F.round = none) (hn : 1 ≤ n) (l Bs Os n₀ b off len cap : Nat) (g : Nat → Int) (hreach : len * 8 ≤ 140737488351232) (hb : b < n₀) (J Jx : List Int → World → Prop)
    (hY : ∀ pre x W, J pre W → pre.length < len → YieldAt F (n - 1) Tryd.prog l #[(Value.int .i64) x] W fun e W' =>
      (e = .returned (.bool true) ∧ J (pre ++ [x]) W' ∧ Below n₀ W W') ∨ (e = .returned (.bool false) ∧ Jx (pre ++ [x]) W'))
    (W : World) (hBs : W.cell? ⟨Bs, Os, none⟩ = some (.slice (some ⟨b, off, none⟩) len cap)) (hc : ∀ j, j < len → W.cell? ⟨b, off + j, none⟩ = some ((Value.int .i64) (g j))) (h0 : J [] W) :
    CallsIn F n Tryd.prog 129 #[.func (.yield l) #[] #[], .pointer (some ⟨Bs, Os, none⟩)] W fun e W' => (∃ v, e = .returned v) ∧
      ((∃ ys, ys = comeN g len ∧ J ys W') ∨ (∃ pre, (∃ k, k ≤ len ∧ pre = comeN g k) ∧ Jx pre W')) := by
  refine callsIn_of_wp Tryd.func129 rfl h7 ?_ hro
  simp only [Tryd.ntmps129, List.size_toArray, List.length_cons, List.length_nil, Nat.reduceAdd, Nat.reduceSub, Array.replicate_succ, Array.replicate_zero, List.push_toArray, List.append_toArray, List.nil_append, List.cons_append]
  gi_wp2
  gi_loopw [7] (fun i wr => ∃ k : Nat, k ≤ len ∧ i = .int .i64 k ∧ J (comeN g k) wr ∧ Below n₀ W wr)
    (fun i _ => len - (intOf i).toNat)
  case atStart => exact ⟨0, Nat.zero_le _, rfl, h0, Below.refl _ _⟩
  case round =>
    obtain ⟨k, hk, rfl, hJs, hnx⟩ := hrel
    have hcx : k < len → wr.cell? ⟨b, off + k, none⟩ = some ((Value.int .i64) (g k)) := fun h => (hnx.cell (p := ⟨b, off + k, none⟩) hb).trans (hc k h)
    by_cases hlt : k < len
    · obtain ⟨fn, tmps, assign, body, hy, hR⟩ := hY _ (g k) wr hJs (by rw [comeN_length]; exact hlt)
      have hcx' := hcx hlt
      gi_wp2
      refine hR.mono ?_
      rintro e W3 (⟨rfl, hJ3, hk3⟩ | ⟨rfl, hJx3⟩)
      · gi_wp2
        go_roundw
        case rel => exact ⟨k + 1, by omega, by simp, by rw [comeN_succ]; exact hJ3, hnx.trans hk3⟩
        case measure => simp [intOf]; omega
      · gi_wp2
        refine bodyPost_ret (results_none rfl _ _ _) rfl ?_
        exact ⟨⟨_, rfl⟩, .inr ⟨_, ⟨k + 1, by omega, (comeN_succ _ _).symm⟩, hJx3⟩⟩
    · obtain rfl : k = len := by omega
      gi_wp2
      go_end0
      exact ⟨⟨_, rfl⟩, .inl ⟨_, rfl, hJs⟩⟩
set_option maxRecDepth 100000 in
set_option maxHeartbeats 1000000 in
theorem values1N_nil_in (F : Fence) (n : Nat) (h7 : F.fn 129) (hro : F.round = none) (l Bs Os : Nat) (J : List Int → World → Prop) (W : World) (A : Option Addr) (cap : Nat) (hBs : W.cell? ⟨Bs, Os, none⟩ = some (.slice A 0 cap)) (h0 : J [] W) :
    CallsIn F n Tryd.prog 129 #[.func (.yield l) #[] #[], .pointer (some ⟨Bs, Os, none⟩)] W fun e W' => (∃ v, e = .returned v) ∧ J [] W' := by
  refine callsIn_of_wp Tryd.func129 rfl h7 ?_ hro
  simp only [Tryd.ntmps129, List.size_toArray, List.length_cons, List.length_nil, Nat.reduceAdd, Nat.reduceSub, Array.replicate_succ, Array.replicate_zero, List.push_toArray, List.append_toArray, List.nil_append, List.cons_append]
  gi_wp2
  gi_loopw [7] (fun i wr => i = .int .i64 0 ∧ J [] wr) (fun _ _ => 0)
  case atStart => exact ⟨rfl, h0⟩
  case round =>
    obtain ⟨rfl, hJs⟩ := hrel
    gi_wp2
    go_end0
    exact ⟨⟨_, rfl⟩, hJs⟩
def IntsN (n₀ : Nat) (W : World) (sv : Value) (n : Nat) (g : Nat → Int) : Prop := ∃ A cap, sv = .slice A n cap ∧ (0 < n → ∃ b o, A = some ⟨b, o, none⟩ ∧ b < n₀ ∧ ∀ j, j < n → W.cell? ⟨b, o + j, none⟩ = some ((Value.int .i64) (g j)))
theorem IntsN.below {n₀ : Nat} {A B : World} (h : Below n₀ A B) {sv : Value} {n : Nat} {g : Nat → Int} : IntsN n₀ A sv n g → IntsN n₀ B sv n g
  | ⟨a, cap, e, hs⟩ => ⟨a, cap, e, fun hn => by
    obtain ⟨b, o, e1, hb, hc⟩ := hs hn
    exact ⟨b, o, e1, hb, fun j hj => (h.cell (p := ⟨b, o + j, none⟩) hb).trans (hc j hj)⟩⟩
theorem valuesN_stops (F : Fence) (n : Nat) (h7 : F.fn 129) (hro : F.round = none) (hn : 1 ≤ n) (Bs Os n₀ : Nat) (sv : Value) (m : Nat) (g : Nat → Int) (hreach : m * 8 ≤ 140737488351232) (w : World) (hBs : Bs < w.heap.size) (hn₀ : n₀ ≤ w.heap.size)
    (hc : w.cell? ⟨Bs, Os, none⟩ = some sv) (hI : IntsN n₀ w sv m g) :
    SeqStopsK F n Tryd.prog 129 #[.pointer (some ⟨Bs, Os, none⟩)] (fun x : Int => #[(Value.int .i64) x]) (Below n₀) (fun ys => ys = comeN g m) (fun pre => ∃ k, k ≤ m ∧ pre = comeN g k) m w := fun l J Jx W hW _ _ hY h0 => by
  have hc' := (hW.cell (p := ⟨Bs, Os, none⟩) hBs).trans hc
  obtain ⟨A, cap, rfl, hs⟩ := hI.below (hW.mono hn₀)
  by_cases hm : 0 < m
  · obtain ⟨b, o, rfl, hb, hcs⟩ := hs hm
    exact values1N_in F n h7 hro hn l Bs Os n₀ b o m cap g hreach hb J Jx hY W hc' hcs h0
  · obtain rfl : m = 0 := by omega
    exact (values1N_nil_in F n h7 hro l Bs Os J W A cap hc' h0).mono fun e W' ⟨he, hj⟩ => ⟨he, .inl ⟨_, rfl, hj⟩⟩
end Go.Proofs.YthcldfmlfjomfaaDoor
namespace Go.Proofs.YthcldfmlfjomfaaDoor
open Go.RowKit Go.Shelf Go.Sort
attribute [local go_sem] Oper.semAt_some
set_option maxRecDepth 100000 in
set_option maxHeartbeats 2000000 in
theorem appendSeqN_in (F : Fence) (n : Nat) (hA : F.fn 167) (h7 : F.fn 129) (hro : F.round = none) (hn : 2 ≤ n) (Bs Os m : Nat) (sv : Value) (g : Nat → Int) (hreach : m * 8 ≤ 140737488351232) (w : World) (hBs : Bs < w.heap.size) (hc : w.cell? ⟨Bs, Os, none⟩ = some sv) (hI : IntsN w.heap.size w sv m g) :
    CallsIn F n Tryd.prog 167 #[.slice none 0 0, .func (.func 129) #[] #[.pointer (some ⟨Bs, Os, none⟩)]] w fun e w' => ∃ v, e = .returned v ∧ w'.ownsRow w.heap.size 3 1 v m ((comeN g m).map (Value.int .i64)) ∧ Below w.heap.size w w' := by
  have h1 : 1 ≤ n := by omega
  obtain ⟨i0, hi, hz0, hz1, hz2⟩ := info_parts (P := Tryd.prog) (e := 3) (z := .int .i64 0) (size := 1) (bytes := 8) (by kernel_rfl)
  refine callsIn_of_wp_marks Tryd.func167 rfl hA ?_ hro
  simp only [Tryd.ntmps167, List.size_toArray, List.length_cons, List.length_nil, Nat.reduceAdd, Nat.reduceSub, Array.replicate_succ, Array.replicate_zero, List.push_toArray, List.append_toArray, List.nil_append, List.cons_append]
  gi_wp2
  have bO := Boxed.new w 22 (.slice none 0 0)
  have hB0 : Below w.heap.size w (w.alloc (.cells #[.slice none 0 0] 22)) := (Below.refl _ w).alloc (Nat.le_refl _) _
  refine wpIn_rangeFunc_ownG hro h1 (gf := 129) (lb := #[.pointer (some ⟨Bs, Os, none⟩)]) rfl h7 (enters_of Tryd.func129 (by kernel_rfl) rfl)
    (valuesN_stops F (n - 1) h7 hro (by omega) Bs Os w.heap.size sv m g hreach _ (by simp; omega) (by simp) ((hB0.cell (p := ⟨Bs, Os, none⟩) hBs).trans hc) (hI.below hB0)) belowK_t (belowK_b (by simp)) (Below.refl _ _) (fun _ => rfl)
    (fun (pre : List Int) W => (∃ v, Boxed W w.heap.size 22 v ∧ W.ownsRow w.heap.size 3 1 v pre.length (pre.map (Value.int .i64)) ∧ True) ∧ Below w.heap.size w W)
    (fun _ _ _ => False)
    (OwnFrom.and (Own.from (holdsRow_own w.heap.size w.heap.size 22 3 1 (fun pre : List Int => pre.length) (fun pre => pre.map (Value.int .i64)) (fun _ _ => True)) _) (ownFrom_below (Nat.le_refl _) (by simp)))
    (fun _ _ _ _ _ hs _ _ => hs)
    ⟨⟨_, bO, World.ownsRow_nil _ _ _ _, trivial⟩, hB0⟩
    (fun x => { tmps := #[.slice none 0 0, .func (.func 129) #[] #[.pointer (some ⟨Bs, Os, none⟩)], .pointer (some ⟨w.heap.size, 0, none⟩), undef, .slice none 0 0, (Value.int .i64) x, .func (.func 129) #[] #[.pointer (some ⟨Bs, Os, none⟩)], (Value.int .i64) x, undef, undef, undef, undef, undef], defers := [] }) ?assign ?body ?done ?stop
  case assign =>
    intro l x W K hK
    gi_wp2
    exact hK
  case body =>
    rintro l pre x W ⟨⟨v, hv, hrow, -⟩, hB⟩ hlt
    have hc := hv.cell
    have b1 : pre.length + 1 ≤ maxLen := by unfold maxLen; omega
    have b2 : (pre.length + 1) * 8 ≤ 140737488355328 := by omega
    have b3 : w.heap.size ≤ (W.alloc (.cells #[(Value.int .i64) x] 3)).heap.size := by have := hB.size; simp; omega
    have hu := Tryd.underlying22
    have h1c : ∀ u ∈ [(Value.int .i64) x], u.oneCell' = true := by simp [Value.oneCell']
    gi_wp2_with (gi_at_builtin; refine wpListIn_append_own _ rfl _ _ 22 rfl w.heap.size 3 i0 (.int .i64 0) 1 8 hu hi hz0 hz1 hz2 rfl (by decide) _ _ _ rfl (hrow.alloc _) ⟨W.heap.size, 0, none⟩ 1 1 [(Value.int .i64) x] rfl rfl (cell_one_new _ _ _) h1c b1 b2 b3 ?_; intro v' w1 hown' hgrow _; obtain ⟨g', cap', rfl⟩ := ownsRow_succ hown'; obtain ⟨hv1, hv2, hr2, hk2, hb2⟩ := hv.appended (by decide) hrow hB.size (Nat.le_refl _) hown' hgrow; have hc1 := hv1.cell; have hf1 := hv1.frozen)
    exact ⟨hk2.from _, hb2, ⟨_, hv2, by simpa using hr2, trivial⟩, hB.trans hb2⟩
  case done =>
    rintro D ys W hD rfl ⟨⟨v, hv, hrow, -⟩, hB⟩ hK
    have hc := hv.cell
    gi_wp2
    refine ⟨by simp, .inl ⟨_, _, rfl, run_takeDeferred hK, ?_⟩⟩
    rw [comeN_length] at hrow
    exact ⟨_, results_tmp rfl _ _ _, v, rfl, ownsRow_putObj hrow _ hK rfl, hB.trans (belowK_b (w := w) (Nat.le_refl _) W D _ _ (by simp at hD; omega) hK rfl rfl)⟩
  case stop =>
    rintro D c pre W _ _ h _
    exact h.elim
end Go.Proofs.YthcldfmlfjomfaaDoor
namespace Go.Proofs.YthcldfmlfjomfaaDoor
open Go.RowKit Go.Shelf Go.Sort
attribute [local go_sem] Oper.semAt_some
set_option maxHeartbeats 1000000 in
theorem collectN_in (F : Fence) (n : Nat) (hC : F.fn 127) (hA : F.fn 167) (h7 : F.fn 129) (hro : F.round = none) (hn : 3 ≤ n) (Bs Os m : Nat) (sv : Value) (g : Nat → Int) (hreach : m * 8 ≤ 140737488351232) (w : World) (hBs : Bs < w.heap.size) (hc : w.cell? ⟨Bs, Os, none⟩ = some sv) (hI : IntsN w.heap.size w sv m g) :
    CallsIn F n Tryd.prog 127 #[.func (.func 129) #[] #[.pointer (some ⟨Bs, Os, none⟩)]] w fun e w' => ∃ v, e = .returned v ∧ w'.ownsRow w.heap.size 3 1 v m ((comeN g m).map (Value.int .i64)) ∧ Below w.heap.size w w' := by
  have h1 : 1 ≤ n := by omega
  refine callsIn_of_wp Tryd.func127 rfl hC ?_ hro
  simp only [Tryd.ntmps127, List.size_toArray, List.length_cons, List.length_nil, Nat.reduceAdd, Nat.reduceSub, Array.replicate_succ, Array.replicate_zero, List.push_toArray, List.append_toArray, List.nil_append, List.cons_append]
  gi_wp2_with (gi_at_call 167; refine (appendSeqN_in F (n - 1) hA h7 hro (by omega) Bs Os m sv g hreach _ hBs hc hI).mono ?_; rintro e w' ⟨v, rfl, hrow, hb⟩)
  go_ret
  exact ⟨v, rfl, hrow, hb⟩
end Go.Proofs.YthcldfmlfjomfaaDoor
namespace Go.Proofs.YthcldfmlfjomfaaDoor
open Go.RowKit Go.Shelf Go.Sort
def sortN (l : List Int) : List Int := l.mergeSort fun x y => decide (x ≤ y)
theorem sortN_perm (l : List Int) : (sortN l).Perm l := List.mergeSort_perm _ _
theorem sortN_len (l : List Int) : (sortN l).length = l.length := (sortN_perm l).length_eq
theorem sortN_c (ix : Nat) (l : List Int) (nid : Nat) (hpos : 0 < l.length) (hl : l.length < 4611686018427387904) :
    ACall Tryd.prog 128 [.sl ix 0 l.length] [(ix, arrI l)] nid (.tup []) [(ix, arrI (sortN l))] :=
  acall_sortedN (T := 3) ix nid Tryd.func128 (by kernel_rfl) (by kernel_rfl) (by decide) hpos (sortN_len l) (fun w blk off cap hH hblk => by
    have h := Any.slices_Sort_int Tryd.lays189 blk off cap l w hH hblk hl
    have hf : Tryd.lays189_ren.f 189 = 128 := by kernel_rfl
    rw [hf] at h
    exact h)
theorem getD_ltN {s : List Int} {i : Nat} (h : i < s.length) : s.getD i 0 = s[i] := by
  simp [List.getD_eq_getElem?_getD, h]
def adjN (s : List Int) : Prop := ∀ i, i + 1 < s.length → s.getD (i + 1) 0 ≠ s.getD i 0
theorem sortN_le (l : List Int) : (sortN l).Pairwise fun a b => a ≤ b := by
  have h := List.pairwise_mergeSort (le := fun x y : Int => decide (x ≤ y)) (fun a b c h1 h2 => by
      simp only [decide_eq_true_eq] at *
      exact Int.le_trans h1 h2) (fun a b => by
      simp only [Bool.or_eq_true, decide_eq_true_eq]
      exact Int.le_total a b) l
  exact h.imp fun h => by simpa using h
theorem sortN_nodup (l : List Int) : adjN (sortN l) ↔ l.Nodup := by
  rw [← (sortN_perm l).nodup_iff]
  constructor
  · intro h
    have hs := List.pairwise_iff_getElem.1 (sortN_le l)
    rw [List.nodup_iff_pairwise_ne, List.pairwise_iff_getElem]
    intro i j hi hj hij e
    have h1 := h i (by omega)
    rw [getD_ltN (by omega), getD_ltN hi] at h1
    apply h1
    have a1 := hs i (i + 1) hi (by omega) (by omega)
    by_cases hji : j = i + 1
    · subst hji; exact e.symm
    · have a2 := hs (i + 1) j (by omega) hj (by omega)
      rw [← e] at a2
      exact Int.le_antisymm a2 a1
  · intro h i hi
    rw [List.nodup_iff_pairwise_ne, List.pairwise_iff_getElem] at h
    rw [getD_ltN hi, getD_ltN (by omega)]
    exact fun e => h i (i + 1) (by omega) hi (by omega) e.symm
set_option maxHeartbeats 4000000 in
theorem compactN_no (ix : Nat) (l : List Int) (nid : Nat) (h : ix < nid) (hl : l.length ≤ 1000000) (ha : adjN l) : ACall Tryd.prog 70 [.sl ix 0 l.length] [(ix, arrI l)] nid (.sl ix 0 l.length) [(ix, arrI l)] := by
  obtain ⟨e1, e2, e3, e4, e5, e6, e7, e8, e9⟩ := id_all h
  refine acall_run c70 (by simp [a70]) ?_
  unfold arrI
  simp -dsimp only [a70, aqT, aqU, aqN, ↓seqK, ↓blkK, ↓loopK, step, stepBin, Nat.reduceBEq, Nat.reduceBeqDiff, Nat.add_assoc nid, Nat.reduceAdd, reduceCtorEq, ↓reduceIte, Nat.reduceLeDiff, Nat.reduceBneDiff, Option.toList, ← Int.ofNat_tmod, ← Int.ofNat_tdiv, Nat.reduceLT, Int.cast_ofNat_Int, Int.reduceBEq, Int.reduceBNe, Int.reduceLT, Int.reduceLE, Int.reduceAdd, Int.reduceSub, Int.reduceMul, Int.reduceToNat, Int.reduceNeg, Int.reduceTMod, Int.reduceEq, not_false_eq_true, Int.reducePow, Int.reduceFDiv, Nat.reducePow, Nat.reduceSub, Nat.reduceMul, Nat.min_eq_left, Nat.reduceEqDiff, BEq.rfl, Int.tdiv_one, LN_succ, e1, e2, e3, e4, e5, e6, e7, e8, e9]
  refine S2.dec (fun h3 => ?_) (fun h3 => ?_) <;> simp -dsimp only [aqT, aqU, aqN, ↓seqK, ↓blkK, ↓loopK, step, stepBin, Nat.reduceBEq, Nat.reduceBeqDiff, Nat.add_assoc nid, Nat.reduceAdd, reduceCtorEq, ↓reduceIte, Nat.reduceLeDiff, Nat.reduceBneDiff, Option.toList, ← Int.ofNat_tmod, ← Int.ofNat_tdiv, Nat.reduceLT, Int.cast_ofNat_Int, Int.reduceBEq, Int.reduceBNe, Int.reduceLT, Int.reduceLE, Int.reduceAdd, Int.reduceSub, Int.reduceMul, Int.reduceToNat, Int.reduceNeg, Int.reduceTMod, Int.reduceEq, not_false_eq_true, Int.reducePow, Int.reduceFDiv, Nat.reducePow, Nat.reduceSub, Nat.reduceMul, Nat.min_eq_left, Nat.reduceEqDiff, BEq.rfl, Int.tdiv_one, LN_succ, e1, e2, e3, e4, e5, e6, e7, e8, e9]
  · refine RetOK.go [] [] (.inl rfl) ?_
    simp [a70, cvT, step, res, e1, e2, e3, e4, e5, e6, e7, e8, e9, arrI, -List.getD_eq_getElem?_getD]
  refine LP.mkP (fun k : Nat => 1 ≤ k ∧ k ≤ l.length) (fun k : Nat => ⟨[(3, .int .i64 k), (0, .sl ix 0 l.length)], [(ix, arrI l)], nid + 100, nid⟩) (fun k => l.length + 1 - k) 1 ⟨by omega, by omega⟩ (Cov.go [] [] ?_) (fun k hk => ?_)
  · simp [cvT, step, res, e1, e2, e3, e4, e5, e6, e7, e8, e9, arrI]
  obtain ⟨hk0, hk⟩ := hk
  unfold arrI
  simp -dsimp only [aqT, aqU, aqN, ↓seqK, ↓blkK, ↓loopK, step, stepBin, Nat.reduceBEq, Nat.reduceBeqDiff, Nat.add_assoc nid, Nat.reduceAdd, reduceCtorEq, ↓reduceIte, Nat.reduceLeDiff, Nat.reduceBneDiff, Option.toList, ← Int.ofNat_tmod, ← Int.ofNat_tdiv, Nat.reduceLT, Int.cast_ofNat_Int, Int.reduceBEq, Int.reduceBNe, Int.reduceLT, Int.reduceLE, Int.reduceAdd, Int.reduceSub, Int.reduceMul, Int.reduceToNat, Int.reduceNeg, Int.reduceTMod, Int.reduceEq, not_false_eq_true, Int.reducePow, Int.reduceFDiv, Nat.reducePow, Nat.reduceSub, Nat.reduceMul, Nat.min_eq_left, Nat.reduceEqDiff, BEq.rfl, Int.tdiv_one, LN_succ, e1, e2, e3, e4, e5, e6, e7, e8, e9]
  refine S2.dec (fun h4 => ?_) (fun h4 => ?_) <;> simp -dsimp only [aqT, aqU, aqN, ↓seqK, ↓blkK, ↓loopK, step, stepBin, Nat.reduceBEq, Nat.reduceBeqDiff, Nat.add_assoc nid, Nat.reduceAdd, reduceCtorEq, ↓reduceIte, Nat.reduceLeDiff, Nat.reduceBneDiff, Option.toList, ← Int.ofNat_tmod, ← Int.ofNat_tdiv, Nat.reduceLT, Int.cast_ofNat_Int, Int.reduceBEq, Int.reduceBNe, Int.reduceLT, Int.reduceLE, Int.reduceAdd, Int.reduceSub, Int.reduceMul, Int.reduceToNat, Int.reduceNeg, Int.reduceTMod, Int.reduceEq, not_false_eq_true, Int.reducePow, Int.reduceFDiv, Nat.reducePow, Nat.reduceSub, Nat.reduceMul, Nat.min_eq_left, Nat.reduceEqDiff, BEq.rfl, Int.tdiv_one, LN_succ, e1, e2, e3, e4, e5, e6, e7, e8, e9]
  · have hkl : k < l.length := by omega
    have e : ((k : Nat) : Int) - 1 = ((k - 1 : Nat) : Int) := by omega
    have hne := ha (k - 1) (by omega)
    rw [show k - 1 + 1 = k by omega] at hne
    have hf : (l.getD k 0 == l.getD (k - 1) 0) = false := by simpa using hne
    rw [e]
    refine ⟨by omega, by unfold inI64; omega, by omega, ?_⟩
    rw [Int.toNat_natCast, hf]
    simp -dsimp only [aqT, aqU, aqN, ↓seqK, ↓blkK, ↓loopK, step, stepBin, Nat.reduceBEq, Nat.reduceBeqDiff, Nat.add_assoc nid, Nat.reduceAdd, reduceCtorEq, ↓reduceIte, Nat.reduceLeDiff, Nat.reduceBneDiff, Option.toList, ← Int.ofNat_tmod, ← Int.ofNat_tdiv, Nat.reduceLT, Int.cast_ofNat_Int, Int.reduceBEq, Int.reduceBNe, Int.reduceLT, Int.reduceLE, Int.reduceAdd, Int.reduceSub, Int.reduceMul, Int.reduceToNat, Int.reduceNeg, Int.reduceTMod, Int.reduceEq, not_false_eq_true, Int.reducePow, Int.reduceFDiv, Nat.reducePow, Nat.reduceSub, Nat.reduceMul, Nat.min_eq_left, Nat.reduceEqDiff, BEq.rfl, Int.tdiv_one, LN_succ, e1, e2, e3, e4, e5, e6, e7, e8, e9]
    refine ⟨by unfold inI64; omega, k + 1, ⟨⟨by omega, by omega⟩, by omega⟩, Cov.go [] [] ?_⟩
    simp [cvT, step, res, e1, e2, e3, e4, e5, e6, e7, e8, e9, arrI, -List.getD_eq_getElem?_getD]
  · refine RetOK.go [] [] (.inl rfl) ?_
    simp [a70, cvT, step, res, e1, e2, e3, e4, e5, e6, e7, e8, e9, arrI, -List.getD_eq_getElem?_getD]
end Go.Proofs.YthcldfmlfjomfaaDoor
namespace Go.Proofs.YthcldfmlfjomfaaDoor
open Go.RowKit Go.Shelf Go.Sort
def boxNv (nl : Bool) (l : List Int) : PV := .elp [.l (fun _ => nl) (fun _ => l.length) (fun _ => [.i .i64 fun i => l.getD i 0])] 0
theorem comeN_getD (l : List Int) : comeN (fun i => l.getD i 0) l.length = l := by
  apply List.ext_getElem
  · simp [comeN]
  · intro i h1 h2
    simp [comeN, h2]
set_option maxHeartbeats 1000000 in
theorem valuesN_in (F : Fence) (n : Nat) (h5 : F.fn 72) (hro : F.round = none) (a : Option Addr) (len cap : Nat) (w : World) :
    CallsIn F n Tryd.prog 72 #[.slice a len cap] w fun e w' => e = .returned (.func (.func 129) #[] #[.pointer (some ⟨w.heap.size, 0, none⟩)]) ∧ w' = w.alloc (.cells #[.slice a len cap] 22) := by
  refine callsIn_of_wp Tryd.func72 rfl h5 ?_ hro
  simp only [Tryd.ntmps72, List.size_toArray, List.length_cons, List.length_nil, Nat.reduceAdd, Nat.reduceSub, Array.replicate_succ, Array.replicate_zero, List.push_toArray, List.append_toArray, List.nil_append, List.cons_append]
  gi_wp2
  go_ret
  exact ⟨rfl, rfl⟩
theorem valuesN_c (nl : Bool) (l : List Int) (nid : Nat) : ACall Tryd.prog 72 [litI nl l] [] nid (.fn 129 [boxNv nl l]) [] :=
  acall_lib nid Tryd.func72 (by kernel_rfl) (by kernel_rfl) (fun Y m w vs hvl hrep hG hY => by
    obtain ⟨v0, rfl⟩ : ∃ v0, vs = [v0] := by
      match vs, hvl with
      | [a], _ => exact ⟨a, rfl⟩
    have r0 := hrep 0 _ _ rfl rfl
    unfold litI at r0
    cases r0 with
    | lit hcr =>
      obtain ⟨A, cap, rfl⟩ : ∃ A cap, v0 = .slice A l.length cap := by cases hcr; exact ⟨_, _, rfl⟩
      rw [← callsIn_wide (n := 1)]
      refine (valuesN_in Fence.wide 1 trivial rfl A l.length cap w).mono ?_
      rintro e w' ⟨rfl, rfl⟩
      have hB : Below w.heap.size w (w.alloc (.cells #[.slice A l.length cap] 22)) := (Below.refl _ w).alloc (Nat.le_refl _) _
      refine ⟨_, rfl, ?_, hB⟩
      refine Rep.fn (vs := [.pointer (some ⟨w.heap.size, 0, none⟩)]) rfl (fun i p v hp hv => ?_)
      match i, hp, hv with
      | 0, hp, hv =>
        injection hp with hp; injection hv with hv
        subst hp; subst hv
        refine Rep.elp (fun _ hYb => absurd (hY _ hYb) (Nat.lt_irrefl _)) (fun _ => .slice A l.length cap) (fun j c hj => ?_)
        match j, hj with
        | 0, hj =>
          injection hj with hj; subst hj
          exact ⟨by simp, hcr.ev (Ev.ofBelow (m := m) hB)⟩)
theorem collectN_c (nl : Bool) (l : List Int) (nid : Nat) (hl : l.length ≤ 1000000) : ACall Tryd.prog 127 [.fn 129 [boxNv nl l]] [] nid (.sl nid 0 l.length) [(nid, arrI l)] :=
  acall_own nid (l.map (Value.int .i64)) Tryd.func127 (by kernel_rfl) (by kernel_rfl) (fun v hv => by obtain ⟨x, _, rfl⟩ := List.mem_map.1 hv; rfl)
    (fun i j c hi hj => by
      match j, hj with
      | 0, hj =>
        injection hj with hj; subst hj
        refine ⟨(Value.int .i64) (l.getD i 0), by simp [List.getElem?_eq_getElem hi], fun Y w => .i⟩)
    (fun Y m w vs hvl hrep hG hY => by
      obtain ⟨v0, rfl⟩ : ∃ v0, vs = [v0] := by
        match vs, hvl with
        | [a], _ => exact ⟨a, rfl⟩
      obtain ⟨us, rfl, hul, hur⟩ := (hrep 0 _ _ rfl rfl).fn_inv
      obtain ⟨u0, rfl⟩ : ∃ u0, us = [u0] := by
        match us, hul with
        | [a], _ => exact ⟨a, rfl⟩
      have r0 := hur 0 _ _ rfl rfl
      unfold boxNv at r0
      obtain ⟨b, o, u, rfl, hYb, hcr⟩ := r0.elp_inv
      obtain ⟨hcell, hrep1⟩ := hcr 0 _ rfl
      rw [Nat.add_zero] at hcell
      generalize u 0 = sv at hcell hrep1
      have hst : IntsN w.heap.size w sv l.length (fun i => l.getD i 0) := by
        have hr2 : Rep Y m w (.lit nl l.length [.i .i64 fun i => l.getD i 0]) sv := .lit hrep1
        obtain ⟨A, cap, rfl, _, hs⟩ := hr2.ints_inv
        exact ⟨A, cap, rfl, fun hn => by
          obtain ⟨b, o, e, hb, hc⟩ := hs hn
          exact ⟨b, o, e, hb, hc⟩⟩
      rw [← callsIn_wide (n := 3)]
      have h := collectN_in Fence.wide 3 trivial trivial trivial rfl (by omega) b o l.length sv (fun i => l.getD i 0) (by omega) w (World.block_lt_of_cell? w _ hcell) hcell hst
      rw [comeN_getD] at h
      exact h)
theorem sortedN_c (nl : Bool) (l : List Int) (nid : Nat) (h0 : 0 < l.length) (hl : l.length ≤ 1000000) : ACall Tryd.prog 71 [.fn 129 [boxNv nl l]] [] nid (.sl nid 0 l.length) [(nid, arrI (sortN l))] := by
  have hsl := sortN_len l
  refine acall_run c71 (by simp [a71]) ?_
  simp -dsimp only [aqT, aqU, aqN, ↓seqK, ↓blkK, ↓loopK, step, stepBin, Nat.reduceBEq, Nat.reduceBeqDiff, Nat.add_assoc nid, Nat.reduceAdd, reduceCtorEq, ↓reduceIte, Nat.reduceLeDiff, Nat.reduceBneDiff, Option.toList, ← Int.ofNat_tmod, ← Int.ofNat_tdiv, Nat.reduceLT, Int.cast_ofNat_Int, Int.reduceBEq, Int.reduceBNe, Int.reduceLT, Int.reduceLE, Int.reduceAdd, Int.reduceSub, Int.reduceMul, Int.reduceToNat, Int.reduceNeg, Int.reduceTMod, Int.reduceEq, not_false_eq_true, Int.reducePow, Int.reduceFDiv, Nat.reducePow, Nat.reduceSub, Nat.reduceMul, Nat.min_eq_left, Nat.reduceEqDiff, BEq.rfl, Int.tdiv_one, LN_succ, a71]
  refine CallO.pure (collectN_c nl l _ hl) ?_
  simp -dsimp only [aqT, aqU, aqN, ↓seqK, ↓blkK, ↓loopK, step, stepBin, Nat.reduceBEq, Nat.reduceBeqDiff, Nat.add_assoc nid, Nat.reduceAdd, reduceCtorEq, ↓reduceIte, Nat.reduceLeDiff, Nat.reduceBneDiff, Option.toList, ← Int.ofNat_tmod, ← Int.ofNat_tdiv, Nat.reduceLT, Int.cast_ofNat_Int, Int.reduceBEq, Int.reduceBNe, Int.reduceLT, Int.reduceLE, Int.reduceAdd, Int.reduceSub, Int.reduceMul, Int.reduceToNat, Int.reduceNeg, Int.reduceTMod, Int.reduceEq, not_false_eq_true, Int.reducePow, Int.reduceFDiv, Nat.reducePow, Nat.reduceSub, Nat.reduceMul, Nat.min_eq_left, Nat.reduceEqDiff, BEq.rfl, Int.tdiv_one, LN_succ]
  refine CallO.on (sortN_c _ l _ h0 (by omega)) (subH_get (by simp only [aqT, aqU, aqN, ↓seqK, ↓blkK, ↓loopK, step, stepBin, Nat.reduceBEq, Nat.reduceBeqDiff, Nat.add_assoc nid, Nat.reduceAdd, reduceCtorEq, ↓reduceIte, Nat.reduceLeDiff, Nat.reduceBneDiff, Option.toList, ← Int.ofNat_tmod, ← Int.ofNat_tdiv, Nat.reduceLT, Int.cast_ofNat_Int, Int.reduceBEq, Int.reduceBNe, Int.reduceLT, Int.reduceLE, Int.reduceAdd, Int.reduceSub, Int.reduceMul, Int.reduceToNat, Int.reduceNeg, Int.reduceTMod, Int.reduceEq, not_false_eq_true, Int.reducePow, Int.reduceFDiv, Nat.reducePow, Nat.reduceSub, Nat.reduceMul, Nat.min_eq_left, Nat.reduceEqDiff, BEq.rfl, Int.tdiv_one, LN_succ])) ?_
  unfold arrI
  simp -dsimp only [aqT, aqU, aqN, ↓seqK, ↓blkK, ↓loopK, step, stepBin, Nat.reduceBEq, Nat.reduceBeqDiff, Nat.add_assoc nid, Nat.reduceAdd, reduceCtorEq, ↓reduceIte, Nat.reduceLeDiff, Nat.reduceBneDiff, Option.toList, ← Int.ofNat_tmod, ← Int.ofNat_tdiv, Nat.reduceLT, Int.cast_ofNat_Int, Int.reduceBEq, Int.reduceBNe, Int.reduceLT, Int.reduceLE, Int.reduceAdd, Int.reduceSub, Int.reduceMul, Int.reduceToNat, Int.reduceNeg, Int.reduceTMod, Int.reduceEq, not_false_eq_true, Int.reducePow, Int.reduceFDiv, Nat.reducePow, Nat.reduceSub, Nat.reduceMul, Nat.min_eq_left, Nat.reduceEqDiff, BEq.rfl, Int.tdiv_one, LN_succ]
  refine RetOK.go [(nid, nid + 8)] [] (.inl rfl) ?_
  simp [a71, cvT, step, res, arrI, hsl, -List.getD_eq_getElem?_getD]
end Go.Proofs.YthcldfmlfjomfaaDoor
namespace Go.Proofs.YthcldfmlfjomfaaDoor
open Go.RowKit Go.Lib
theorem len64_0 (nid : Nat) : ACall Tryd.prog 212 [.int .u64 0] [] nid (.int .i64 0) [] := by
  refine acall_run c212 (by simp [a212]) ?_
  simp -dsimp only [aqT, aqU, aqN, ↓seqK, ↓blkK, ↓loopK, step, stepBin, Nat.reduceBEq, Nat.reduceBeqDiff, Nat.add_assoc nid, Nat.reduceAdd, reduceCtorEq, ↓reduceIte, Nat.reduceLeDiff, Nat.reduceBneDiff, Option.toList, ← Int.ofNat_tmod, ← Int.ofNat_tdiv, Nat.reduceLT, Int.cast_ofNat_Int, Int.reduceBEq, Int.reduceBNe, Int.reduceLT, Int.reduceLE, Int.reduceAdd, Int.reduceSub, Int.reduceMul, Int.reduceToNat, Int.reduceNeg, Int.reduceTMod, Int.reduceEq, not_false_eq_true, Int.reducePow, Int.reduceFDiv, Nat.reducePow, Nat.reduceSub, Nat.reduceMul, Nat.min_eq_left, Nat.reduceEqDiff, BEq.rfl, Int.tdiv_one, LN_succ, a212]
  simp only [show IntKind.u8.wrap 0 = 0 from by decide, Int.toNat_zero, List.getD_cons_zero, show ((0 : UInt8).toNat : Int) = 0 from rfl, show IntKind.i64.wrap 0 = 0 from by decide, Int.add_zero]
  refine ⟨⟨by decide, by decide⟩, by unfold inI64; omega, ?_⟩
  refine RetOK.go [] [] (.inl rfl) ?_
  simp [a212, cvT, step, res]
theorem len_0 (nid : Nat) : ACall Tryd.prog 169 [.int .u64 0] [] nid (.int .i64 0) [] := by
  refine acall_run c169 (by simp [a169]) ?_
  simp -dsimp only [aqT, aqU, aqN, ↓seqK, ↓blkK, ↓loopK, step, stepBin, Nat.reduceBEq, Nat.reduceBeqDiff, Nat.add_assoc nid, Nat.reduceAdd, reduceCtorEq, ↓reduceIte, Nat.reduceLeDiff, Nat.reduceBneDiff, Option.toList, ← Int.ofNat_tmod, ← Int.ofNat_tdiv, Nat.reduceLT, Int.cast_ofNat_Int, Int.reduceBEq, Int.reduceBNe, Int.reduceLT, Int.reduceLE, Int.reduceAdd, Int.reduceSub, Int.reduceMul, Int.reduceToNat, Int.reduceNeg, Int.reduceTMod, Int.reduceEq, not_false_eq_true, Int.reducePow, Int.reduceFDiv, Nat.reducePow, Nat.reduceSub, Nat.reduceMul, Nat.min_eq_left, Nat.reduceEqDiff, BEq.rfl, Int.tdiv_one, LN_succ, a169]
  refine CallO.pure (len64_0 _) ?_
  simp -dsimp only [aqT, aqU, aqN, ↓seqK, ↓blkK, ↓loopK, step, stepBin, Nat.reduceBEq, Nat.reduceBeqDiff, Nat.add_assoc nid, Nat.reduceAdd, reduceCtorEq, ↓reduceIte, Nat.reduceLeDiff, Nat.reduceBneDiff, Option.toList, ← Int.ofNat_tmod, ← Int.ofNat_tdiv, Nat.reduceLT, Int.cast_ofNat_Int, Int.reduceBEq, Int.reduceBNe, Int.reduceLT, Int.reduceLE, Int.reduceAdd, Int.reduceSub, Int.reduceMul, Int.reduceToNat, Int.reduceNeg, Int.reduceTMod, Int.reduceEq, not_false_eq_true, Int.reducePow, Int.reduceFDiv, Nat.reducePow, Nat.reduceSub, Nat.reduceMul, Nat.min_eq_left, Nat.reduceEqDiff, BEq.rfl, Int.tdiv_one, LN_succ]
  refine RetOK.pure (.inl rfl) rfl ?_
  simp [cvT, step, res]
theorem insert_0 (ix nid : Nat) (h : ix < nid) : ACall Tryd.prog 202 [.sl ix 0 0, .int .i64 0, .int .i64 0] [(ix, arrI [])] nid (.tup []) [(ix, arrI [])] := by
  obtain ⟨e1, e2, e3, e4, e5, e6, e7, e8, e9⟩ := id_all h
  refine acall_run c202 (by simp [a202]) ?_
  unfold arrI
  simp -dsimp only [aqT, aqU, aqN, ↓seqK, ↓blkK, ↓loopK, step, stepBin, Nat.reduceBEq, Nat.reduceBeqDiff, Nat.add_assoc nid, Nat.reduceAdd, reduceCtorEq, ↓reduceIte, Nat.reduceLeDiff, Nat.reduceBneDiff, Option.toList, ← Int.ofNat_tmod, ← Int.ofNat_tdiv, Nat.reduceLT, Int.cast_ofNat_Int, Int.reduceBEq, Int.reduceBNe, Int.reduceLT, Int.reduceLE, Int.reduceAdd, Int.reduceSub, Int.reduceMul, Int.reduceToNat, Int.reduceNeg, Int.reduceTMod, Int.reduceEq, not_false_eq_true, Int.reducePow, Int.reduceFDiv, Nat.reducePow, Nat.reduceSub, Nat.reduceMul, Nat.min_eq_left, Nat.reduceEqDiff, BEq.rfl, Int.tdiv_one, LN_succ, a202, e1, e2, e3, e4, e5, e6, e7, e8, e9]
  refine ⟨by unfold inI64; omega, ?_⟩
  refine LP.mkP (fun _ : Unit => True) (fun _ => ⟨[(6, .int .i64 1), (2, .int .i64 0)], [(ix, arrI [])], nid + 50, nid⟩) (fun _ => 0) () trivial (Cov.go [] [] ?_) (fun _ _ => ?_)
  · simp [cvT, step, res, e1, e2, e3, e4, e5, e6, e7, e8, e9, arrI, -List.getD_eq_getElem?_getD]
  unfold arrI
  simp -dsimp only [aqT, aqU, aqN, ↓seqK, ↓blkK, ↓loopK, step, stepBin, Nat.reduceBEq, Nat.reduceBeqDiff, Nat.add_assoc nid, Nat.reduceAdd, reduceCtorEq, ↓reduceIte, Nat.reduceLeDiff, Nat.reduceBneDiff, Option.toList, ← Int.ofNat_tmod, ← Int.ofNat_tdiv, Nat.reduceLT, Int.cast_ofNat_Int, Int.reduceBEq, Int.reduceBNe, Int.reduceLT, Int.reduceLE, Int.reduceAdd, Int.reduceSub, Int.reduceMul, Int.reduceToNat, Int.reduceNeg, Int.reduceTMod, Int.reduceEq, not_false_eq_true, Int.reducePow, Int.reduceFDiv, Nat.reducePow, Nat.reduceSub, Nat.reduceMul, Nat.min_eq_left, Nat.reduceEqDiff, BEq.rfl, Int.tdiv_one, LN_succ, e1, e2, e3, e4, e5, e6, e7, e8, e9]
  refine RetOK.go [] [] (.inr rfl) ?_
  simp [a202, cvT, step, res, e1, e2, e3, e4, e5, e6, e7, e8, e9, arrI, ColsEq.refl, -List.getD_eq_getElem?_getD]
theorem pdq_0 (ix nid : Nat) (h : ix < nid) : ACall Tryd.prog 168 [.sl ix 0 0, .int .i64 0, .int .i64 0, .int .i64 0] [(ix, arrI [])] nid (.tup []) [(ix, arrI [])] := by
  obtain ⟨e1, e2, e3, e4, e5, e6, e7, e8, e9⟩ := id_all h
  refine acall_run c168 (by simp [a168]) ?_
  unfold arrI
  simp -dsimp only [aqT, aqU, aqN, ↓seqK, ↓blkK, ↓loopK, step, stepBin, Nat.reduceBEq, Nat.reduceBeqDiff, Nat.add_assoc nid, Nat.reduceAdd, reduceCtorEq, ↓reduceIte, Nat.reduceLeDiff, Nat.reduceBneDiff, Option.toList, ← Int.ofNat_tmod, ← Int.ofNat_tdiv, Nat.reduceLT, Int.cast_ofNat_Int, Int.reduceBEq, Int.reduceBNe, Int.reduceLT, Int.reduceLE, Int.reduceAdd, Int.reduceSub, Int.reduceMul, Int.reduceToNat, Int.reduceNeg, Int.reduceTMod, Int.reduceEq, not_false_eq_true, Int.reducePow, Int.reduceFDiv, Nat.reducePow, Nat.reduceSub, Nat.reduceMul, Nat.min_eq_left, Nat.reduceEqDiff, BEq.rfl, Int.tdiv_one, LN_succ, a168, e1, e2, e3, e4, e5, e6, e7, e8, e9]
  refine LP.mkP (fun _ : Unit => True) (fun _ => ⟨[(0, .sl ix 0 0), (1, .int .i64 0), (2, .int .i64 0)], [(ix, arrI [])], nid + 50, nid⟩) (fun _ => 0) () trivial (Cov.go [] [] ?_) (fun _ _ => ?_)
  · simp [cvT, step, res, e1, e2, e3, e4, e5, e6, e7, e8, e9, arrI, -List.getD_eq_getElem?_getD]
  unfold arrI
  simp -dsimp only [aqT, aqU, aqN, ↓seqK, ↓blkK, ↓loopK, step, stepBin, Nat.reduceBEq, Nat.reduceBeqDiff, Nat.add_assoc nid, Nat.reduceAdd, reduceCtorEq, ↓reduceIte, Nat.reduceLeDiff, Nat.reduceBneDiff, Option.toList, ← Int.ofNat_tmod, ← Int.ofNat_tdiv, Nat.reduceLT, Int.cast_ofNat_Int, Int.reduceBEq, Int.reduceBNe, Int.reduceLT, Int.reduceLE, Int.reduceAdd, Int.reduceSub, Int.reduceMul, Int.reduceToNat, Int.reduceNeg, Int.reduceTMod, Int.reduceEq, not_false_eq_true, Int.reducePow, Int.reduceFDiv, Nat.reducePow, Nat.reduceSub, Nat.reduceMul, Nat.min_eq_left, Nat.reduceEqDiff, BEq.rfl, Int.tdiv_one, LN_succ, e1, e2, e3, e4, e5, e6, e7, e8, e9]
  refine ⟨by unfold inI64; omega, ?_⟩
  refine CallO.on (insert_0 ix _ (by omega)) (subH_get (by simp only [aqT, aqU, aqN, ↓seqK, ↓blkK, ↓loopK, step, stepBin, Nat.reduceBEq, Nat.reduceBeqDiff, Nat.add_assoc nid, Nat.reduceAdd, reduceCtorEq, ↓reduceIte, Nat.reduceLeDiff, Nat.reduceBneDiff, Option.toList, ← Int.ofNat_tmod, ← Int.ofNat_tdiv, Nat.reduceLT, Int.cast_ofNat_Int, Int.reduceBEq, Int.reduceBNe, Int.reduceLT, Int.reduceLE, Int.reduceAdd, Int.reduceSub, Int.reduceMul, Int.reduceToNat, Int.reduceNeg, Int.reduceTMod, Int.reduceEq, not_false_eq_true, Int.reducePow, Int.reduceFDiv, Nat.reducePow, Nat.reduceSub, Nat.reduceMul, Nat.min_eq_left, Nat.reduceEqDiff, BEq.rfl, Int.tdiv_one, LN_succ, arrI])) ?_
  unfold arrI
  simp -dsimp only [aqT, aqU, aqN, ↓seqK, ↓blkK, ↓loopK, step, stepBin, Nat.reduceBEq, Nat.reduceBeqDiff, Nat.add_assoc nid, Nat.reduceAdd, reduceCtorEq, ↓reduceIte, Nat.reduceLeDiff, Nat.reduceBneDiff, Option.toList, ← Int.ofNat_tmod, ← Int.ofNat_tdiv, Nat.reduceLT, Int.cast_ofNat_Int, Int.reduceBEq, Int.reduceBNe, Int.reduceLT, Int.reduceLE, Int.reduceAdd, Int.reduceSub, Int.reduceMul, Int.reduceToNat, Int.reduceNeg, Int.reduceTMod, Int.reduceEq, not_false_eq_true, Int.reducePow, Int.reduceFDiv, Nat.reducePow, Nat.reduceSub, Nat.reduceMul, Nat.min_eq_left, Nat.reduceEqDiff, BEq.rfl, Int.tdiv_one, LN_succ, e1, e2, e3, e4, e5, e6, e7, e8, e9]
  refine RetOK.go [] [] (.inl rfl) ?_
  simp [a168, cvT, step, res, e1, e2, e3, e4, e5, e6, e7, e8, e9, arrI, ColsEq.refl, -List.getD_eq_getElem?_getD]
theorem sort_0 (ix nid : Nat) (h : ix < nid) : ACall Tryd.prog 128 [.sl ix 0 0] [(ix, arrI [])] nid (.tup []) [(ix, arrI [])] := by
  obtain ⟨e1, e2, e3, e4, e5, e6, e7, e8, e9⟩ := id_all h
  refine acall_run c128 (by simp [a128]) ?_
  unfold arrI
  simp -dsimp only [aqT, aqU, aqN, ↓seqK, ↓blkK, ↓loopK, step, stepBin, Nat.reduceBEq, Nat.reduceBeqDiff, Nat.add_assoc nid, Nat.reduceAdd, reduceCtorEq, ↓reduceIte, Nat.reduceLeDiff, Nat.reduceBneDiff, Option.toList, ← Int.ofNat_tmod, ← Int.ofNat_tdiv, Nat.reduceLT, Int.cast_ofNat_Int, Int.reduceBEq, Int.reduceBNe, Int.reduceLT, Int.reduceLE, Int.reduceAdd, Int.reduceSub, Int.reduceMul, Int.reduceToNat, Int.reduceNeg, Int.reduceTMod, Int.reduceEq, not_false_eq_true, Int.reducePow, Int.reduceFDiv, Nat.reducePow, Nat.reduceSub, Nat.reduceMul, Nat.min_eq_left, Nat.reduceEqDiff, BEq.rfl, Int.tdiv_one, LN_succ, a128, e1, e2, e3, e4, e5, e6, e7, e8, e9]
  rw [show IntKind.u64.wrap 0 = 0 from by decide]
  refine CallO.pure (len_0 _) ?_
  simp -dsimp only [aqT, aqU, aqN, ↓seqK, ↓blkK, ↓loopK, step, stepBin, Nat.reduceBEq, Nat.reduceBeqDiff, Nat.add_assoc nid, Nat.reduceAdd, reduceCtorEq, ↓reduceIte, Nat.reduceLeDiff, Nat.reduceBneDiff, Option.toList, ← Int.ofNat_tmod, ← Int.ofNat_tdiv, Nat.reduceLT, Int.cast_ofNat_Int, Int.reduceBEq, Int.reduceBNe, Int.reduceLT, Int.reduceLE, Int.reduceAdd, Int.reduceSub, Int.reduceMul, Int.reduceToNat, Int.reduceNeg, Int.reduceTMod, Int.reduceEq, not_false_eq_true, Int.reducePow, Int.reduceFDiv, Nat.reducePow, Nat.reduceSub, Nat.reduceMul, Nat.min_eq_left, Nat.reduceEqDiff, BEq.rfl, Int.tdiv_one, LN_succ, e1, e2, e3, e4, e5, e6, e7, e8, e9]
  refine CallO.on (pdq_0 ix _ (by omega)) (subH_get (by simp only [aqT, aqU, aqN, ↓seqK, ↓blkK, ↓loopK, step, stepBin, Nat.reduceBEq, Nat.reduceBeqDiff, Nat.add_assoc nid, Nat.reduceAdd, reduceCtorEq, ↓reduceIte, Nat.reduceLeDiff, Nat.reduceBneDiff, Option.toList, ← Int.ofNat_tmod, ← Int.ofNat_tdiv, Nat.reduceLT, Int.cast_ofNat_Int, Int.reduceBEq, Int.reduceBNe, Int.reduceLT, Int.reduceLE, Int.reduceAdd, Int.reduceSub, Int.reduceMul, Int.reduceToNat, Int.reduceNeg, Int.reduceTMod, Int.reduceEq, not_false_eq_true, Int.reducePow, Int.reduceFDiv, Nat.reducePow, Nat.reduceSub, Nat.reduceMul, Nat.min_eq_left, Nat.reduceEqDiff, BEq.rfl, Int.tdiv_one, LN_succ, arrI])) ?_
  unfold arrI
  simp -dsimp only [aqT, aqU, aqN, ↓seqK, ↓blkK, ↓loopK, step, stepBin, Nat.reduceBEq, Nat.reduceBeqDiff, Nat.add_assoc nid, Nat.reduceAdd, reduceCtorEq, ↓reduceIte, Nat.reduceLeDiff, Nat.reduceBneDiff, Option.toList, ← Int.ofNat_tmod, ← Int.ofNat_tdiv, Nat.reduceLT, Int.cast_ofNat_Int, Int.reduceBEq, Int.reduceBNe, Int.reduceLT, Int.reduceLE, Int.reduceAdd, Int.reduceSub, Int.reduceMul, Int.reduceToNat, Int.reduceNeg, Int.reduceTMod, Int.reduceEq, not_false_eq_true, Int.reducePow, Int.reduceFDiv, Nat.reducePow, Nat.reduceSub, Nat.reduceMul, Nat.min_eq_left, Nat.reduceEqDiff, BEq.rfl, Int.tdiv_one, LN_succ, e1, e2, e3, e4, e5, e6, e7, e8, e9]
  refine RetOK.go [] [] (.inr rfl) ?_
  simp [a128, cvT, step, res, e1, e2, e3, e4, e5, e6, e7, e8, e9, arrI, ColsEq.refl, -List.getD_eq_getElem?_getD]
theorem sorted_any (nl : Bool) (l : List Int) (nid : Nat) (hl : l.length ≤ 1000000) : ACall Tryd.prog 71 [.fn 129 [boxNv nl l]] [] nid (.sl nid 0 l.length) [(nid, arrI (sortN l))] := by
  by_cases h0 : 0 < l.length
  · exact sortedN_c nl l nid h0 hl
  obtain rfl : l = [] := List.eq_nil_of_length_eq_zero (by omega)
  have hs : sortN [] = [] := by simp [sortN]
  rw [hs]
  refine acall_run c71 (by simp [a71]) ?_
  simp -dsimp only [aqT, aqU, aqN, ↓seqK, ↓blkK, ↓loopK, step, stepBin, Nat.reduceBEq, Nat.reduceBeqDiff, Nat.add_assoc nid, Nat.reduceAdd, reduceCtorEq, ↓reduceIte, Nat.reduceLeDiff, Nat.reduceBneDiff, Option.toList, ← Int.ofNat_tmod, ← Int.ofNat_tdiv, Nat.reduceLT, Int.cast_ofNat_Int, Int.reduceBEq, Int.reduceBNe, Int.reduceLT, Int.reduceLE, Int.reduceAdd, Int.reduceSub, Int.reduceMul, Int.reduceToNat, Int.reduceNeg, Int.reduceTMod, Int.reduceEq, not_false_eq_true, Int.reducePow, Int.reduceFDiv, Nat.reducePow, Nat.reduceSub, Nat.reduceMul, Nat.min_eq_left, Nat.reduceEqDiff, BEq.rfl, Int.tdiv_one, LN_succ, a71]
  refine CallO.pure (collectN_c nl [] _ hl) ?_
  simp -dsimp only [aqT, aqU, aqN, ↓seqK, ↓blkK, ↓loopK, step, stepBin, Nat.reduceBEq, Nat.reduceBeqDiff, Nat.add_assoc nid, Nat.reduceAdd, reduceCtorEq, ↓reduceIte, Nat.reduceLeDiff, Nat.reduceBneDiff, Option.toList, ← Int.ofNat_tmod, ← Int.ofNat_tdiv, Nat.reduceLT, Int.cast_ofNat_Int, Int.reduceBEq, Int.reduceBNe, Int.reduceLT, Int.reduceLE, Int.reduceAdd, Int.reduceSub, Int.reduceMul, Int.reduceToNat, Int.reduceNeg, Int.reduceTMod, Int.reduceEq, not_false_eq_true, Int.reducePow, Int.reduceFDiv, Nat.reducePow, Nat.reduceSub, Nat.reduceMul, Nat.min_eq_left, Nat.reduceEqDiff, BEq.rfl, Int.tdiv_one, LN_succ]
  refine CallO.on (sort_0 _ _ (by omega)) (subH_get (by simp only [aqT, aqU, aqN, ↓seqK, ↓blkK, ↓loopK, step, stepBin, Nat.reduceBEq, Nat.reduceBeqDiff, Nat.add_assoc nid, Nat.reduceAdd, reduceCtorEq, ↓reduceIte, Nat.reduceLeDiff, Nat.reduceBneDiff, Option.toList, ← Int.ofNat_tmod, ← Int.ofNat_tdiv, Nat.reduceLT, Int.cast_ofNat_Int, Int.reduceBEq, Int.reduceBNe, Int.reduceLT, Int.reduceLE, Int.reduceAdd, Int.reduceSub, Int.reduceMul, Int.reduceToNat, Int.reduceNeg, Int.reduceTMod, Int.reduceEq, not_false_eq_true, Int.reducePow, Int.reduceFDiv, Nat.reducePow, Nat.reduceSub, Nat.reduceMul, Nat.min_eq_left, Nat.reduceEqDiff, BEq.rfl, Int.tdiv_one, LN_succ])) ?_
  unfold arrI
  simp -dsimp only [aqT, aqU, aqN, ↓seqK, ↓blkK, ↓loopK, step, stepBin, Nat.reduceBEq, Nat.reduceBeqDiff, Nat.add_assoc nid, Nat.reduceAdd, reduceCtorEq, ↓reduceIte, Nat.reduceLeDiff, Nat.reduceBneDiff, Option.toList, ← Int.ofNat_tmod, ← Int.ofNat_tdiv, Nat.reduceLT, Int.cast_ofNat_Int, Int.reduceBEq, Int.reduceBNe, Int.reduceLT, Int.reduceLE, Int.reduceAdd, Int.reduceSub, Int.reduceMul, Int.reduceToNat, Int.reduceNeg, Int.reduceTMod, Int.reduceEq, not_false_eq_true, Int.reducePow, Int.reduceFDiv, Nat.reducePow, Nat.reduceSub, Nat.reduceMul, Nat.min_eq_left, Nat.reduceEqDiff, BEq.rfl, Int.tdiv_one, LN_succ]
  refine RetOK.go [(nid, nid + 8)] [] (.inl rfl) ?_
  simp [a71, cvT, step, res, arrI, -List.getD_eq_getElem?_getD]
end Go.Proofs.YthcldfmlfjomfaaDoor
namespace Go.Proofs.YthcldfmlfjomfaaDoor
open Go.RowKit
def Narrow (x : List (List UInt8)) : Prop := ∃ I : Nat, ∀ j : Nat, j ≠ I → (x.getD j []).length ≤ 6
theorem narrow_short {x : List (List UInt8)} (h : ShortRows 6 x) : Narrow x := ⟨0, fun j _ => h.at j⟩
theorem narrow_nil : Narrow [] := ⟨0, fun j _ => by simp⟩
theorem narrow_set {x : List (List UInt8)} (h : ShortRows 6 x) (I : Nat) (b : List UInt8) : Narrow (x.set I b) := ⟨I, fun j hj => by
  have := h.at j
  rw [List.getD_eq_getElem?_getD, List.getElem?_set_ne (fun e => hj e.symm), ← List.getD_eq_getElem?_getD]
  exact this⟩
theorem narrow_pat {n : Int} {v : List (List UInt8)} (h : patV n v = 0) (hn : Narrow v) : n ≤ 6 ∨ v.length ≤ 1 := by
  rcases Nat.lt_or_ge 1 v.length with hl | hl
  · obtain ⟨I, hI⟩ := hn
    have hv := patV_ok.1 h
    left
    have key : ∀ j, j < v.length → j ≠ I → n ≤ 6 := fun j hj hjI => by
      have h1 := hI j hjI
      have hm : v.getD j [] ∈ v := by rw [List.getD_eq_getElem?_getD, List.getElem?_eq_getElem hj]; exact List.getElem_mem hj
      have := (hv.row _ hm).1
      omega
    by_cases h0 : I = 0
    · exact key 1 hl (by omega)
    · exact key 0 (by omega) (by omega)
  · exact .inr hl
set_option maxHeartbeats 8000000 in
theorem patternsX (s nid : Nat) (nl : Bool) (A : List Int) (p most : Nat) (h : s < nid) (hp : p ≤ 1099500000000) (hA : A.length ≤ 17592186044416) (hm : most ≤ 1000) :
    ∃ x : (Int × List (List UInt8)) × Nat, (x.1.2.length ≤ most + 1 ∧ ShortRows 20 x.1.2 ∧ x.2 ≤ p + 8000 ∧ Narrow x.1.2) ∧ ACall Tryd.prog 22 [.ptr s 0, .int .i64 (most : Nat)] [(s, strmC nl A p)] nid (.tup [.int .i64 x.1.1, .sl nid 0 x.1.2.length]) [(s, strmC nl A x.2), (nid, arrS x.1.2)] := by
  obtain ⟨e1, e2, e3, e4, e5, e6, e7, e8, e9⟩ := id_all h
  refine acall_ex c22 (by simp [a22]) ?_
  simp -dsimp only [aqT0, ROp0, aqT, aqU, aqN, ↓seqK, ↓blkK, ↓loopK, step, stepBin, Nat.reduceBEq, Nat.reduceBeqDiff, Nat.add_assoc nid, Nat.reduceAdd, reduceCtorEq, ↓reduceIte, Nat.reduceLeDiff, Nat.reduceBneDiff, Option.toList, ← Int.ofNat_tmod, ← Int.ofNat_tdiv, Nat.reduceLT, Int.cast_ofNat_Int, Int.reduceBEq, Int.reduceBNe, Int.reduceLT, Int.reduceLE, Int.reduceAdd, Int.reduceSub, Int.reduceMul, Int.reduceToNat, Int.reduceNeg, Int.reduceTMod, Int.reduceEq, not_false_eq_true, Int.reducePow, Int.reduceFDiv, Nat.reducePow, Nat.reduceSub, Nat.reduceMul, Nat.min_eq_left, Nat.reduceEqDiff, BEq.rfl, Int.tdiv_one, LN_succ, e1, e2, e3, e4, e5, e6, e7, e8, e9, a22, strmC_low]
  refine CallX.on (range_c s _ nl A p 1 6 (by omega) (by omega) hA (by omega) (by omega) (by omega)) (subH_get (by simp only [aqT, aqU, aqN, ↓seqK, ↓blkK, ↓loopK, step, stepBin, Nat.reduceBEq, Nat.reduceBeqDiff, Nat.add_assoc nid, Nat.reduceAdd, reduceCtorEq, ↓reduceIte, Nat.reduceLeDiff, Nat.reduceBneDiff, Option.toList, ← Int.ofNat_tmod, ← Int.ofNat_tdiv, Nat.reduceLT, e1, e2, e3, e4, e5, e6, e7, e8, e9])) ?_
  simp -dsimp only [aqT0, ROp0, aqT, aqU, aqN, ↓seqK, ↓blkK, ↓loopK, step, stepBin, Nat.reduceBEq, Nat.reduceBeqDiff, Nat.add_assoc nid, Nat.reduceAdd, reduceCtorEq, ↓reduceIte, Nat.reduceLeDiff, Nat.reduceBneDiff, Option.toList, ← Int.ofNat_tmod, ← Int.ofNat_tdiv, Nat.reduceLT, Int.cast_ofNat_Int, Int.reduceBEq, Int.reduceBNe, Int.reduceLT, Int.reduceLE, Int.reduceAdd, Int.reduceSub, Int.reduceMul, Int.reduceToNat, Int.reduceNeg, Int.reduceTMod, Int.reduceEq, not_false_eq_true, Int.reducePow, Int.reduceFDiv, Nat.reducePow, Nat.reduceSub, Nat.reduceMul, Nat.min_eq_left, Nat.reduceEqDiff, BEq.rfl, Int.tdiv_one, LN_succ, e1, e2, e3, e4, e5, e6, e7, e8, e9, strmC_low]
  have hwd := rangeV_bd A p (lo := 1) (hi := 6) (by omega)
  obtain ⟨w, hw⟩ : ∃ w : Nat, rangeV A p 1 6 = w := ⟨_, (Int.toNat_of_nonneg (by omega)).symm⟩
  rw [hw] at hwd ⊢
  clear hw
  refine CallX.on (range_c s _ nl A (p + 1) 0 most (by omega) (by omega) hA (by omega) (by omega) (by omega)) (subH_get (by simp only [aqT, aqU, aqN, ↓seqK, ↓blkK, ↓loopK, step, stepBin, Nat.reduceBEq, Nat.reduceBeqDiff, Nat.add_assoc nid, Nat.reduceAdd, reduceCtorEq, ↓reduceIte, Nat.reduceLeDiff, Nat.reduceBneDiff, Option.toList, ← Int.ofNat_tmod, ← Int.ofNat_tdiv, Nat.reduceLT, e1, e2, e3, e4, e5, e6, e7, e8, e9])) ?_
  simp -dsimp only [aqT0, ROp0, aqT, aqU, aqN, ↓seqK, ↓blkK, ↓loopK, step, stepBin, Nat.reduceBEq, Nat.reduceBeqDiff, Nat.add_assoc nid, Nat.reduceAdd, reduceCtorEq, ↓reduceIte, Nat.reduceLeDiff, Nat.reduceBneDiff, Option.toList, ← Int.ofNat_tmod, ← Int.ofNat_tdiv, Nat.reduceLT, Int.cast_ofNat_Int, Int.reduceBEq, Int.reduceBNe, Int.reduceLT, Int.reduceLE, Int.reduceAdd, Int.reduceSub, Int.reduceMul, Int.reduceToNat, Int.reduceNeg, Int.reduceTMod, Int.reduceEq, not_false_eq_true, Int.reducePow, Int.reduceFDiv, Nat.reducePow, Nat.reduceSub, Nat.reduceMul, Nat.min_eq_left, Nat.reduceEqDiff, BEq.rfl, Int.tdiv_one, LN_succ, e1, e2, e3, e4, e5, e6, e7, e8, e9, strmC_low]
  have hmd := rangeV_bd A (p + 1) (lo := 0) (hi := (most : Int)) (by omega)
  obtain ⟨m, hm2⟩ : ∃ w : Nat, rangeV A (p + 1) 0 most = w := ⟨_, (Int.toNat_of_nonneg (by omega)).symm⟩
  rw [hm2] at hmd ⊢
  clear hm2
  refine LP0.mkP (fun x : List (List UInt8) × Nat => x.1.length ≤ m ∧ ShortRows 6 x.1 ∧ x.2 ≤ p + 2 + 6 * x.1.length) (fun x => ⟨[(14, .int .i64 x.1.length), (13, .int .i64 m), (7, .sl (nid + 8) 0 x.1.length), (6, .int .i64 w), (0, .ptr s 0)],
    [(s, strmC nl A x.2), (nid + 8, arrS x.1)], nid + 200, nid⟩) (fun x => m + 1 - x.1.length) ([], p + 1 + 1) ⟨by simp, fun r hr => by simp at hr, by simp⟩ (Cov.go [] [(nid + 8, 1)] ?_) (fun x hx => ?_)
  · simp [cvT, step, res, e1, e2, e3, e4, e5, e6, e7, e8, e9, strmC, arrS]
  obtain ⟨x, q⟩ := x
  obtain ⟨hR1, hR2, hq⟩ := hx
  simp only at hR1 hR2 hq
  have hat := fun i => hR2.at i
  unfold arrS
  simp -dsimp only [aqT0, ROp0, aqT, aqU, aqN, ↓seqK, ↓blkK, ↓loopK, step, stepBin, Nat.reduceBEq, Nat.reduceBeqDiff, Nat.add_assoc nid, Nat.reduceAdd, reduceCtorEq, ↓reduceIte, Nat.reduceLeDiff, Nat.reduceBneDiff, Option.toList, ← Int.ofNat_tmod, ← Int.ofNat_tdiv, Nat.reduceLT, Int.cast_ofNat_Int, Int.reduceBEq, Int.reduceBNe, Int.reduceLT, Int.reduceLE, Int.reduceAdd, Int.reduceSub, Int.reduceMul, Int.reduceToNat, Int.reduceNeg, Int.reduceTMod, Int.reduceEq, not_false_eq_true, Int.reducePow, Int.reduceFDiv, Nat.reducePow, Nat.reduceSub, Nat.reduceMul, Nat.min_eq_left, Nat.reduceEqDiff, BEq.rfl, Int.tdiv_one, LN_succ, e1, e2, e3, e4, e5, e6, e7, e8, e9, strmC_low]
  refine S2.dec (fun h2 => ?_) (fun h2 => ?_) <;> simp -dsimp only [aqT0, ROp0, aqT, aqU, aqN, ↓seqK, ↓blkK, ↓loopK, step, stepBin, Nat.reduceBEq, Nat.reduceBeqDiff, Nat.add_assoc nid, Nat.reduceAdd, reduceCtorEq, ↓reduceIte, Nat.reduceLeDiff, Nat.reduceBneDiff, Option.toList, ← Int.ofNat_tmod, ← Int.ofNat_tdiv, Nat.reduceLT, Int.cast_ofNat_Int, Int.reduceBEq, Int.reduceBNe, Int.reduceLT, Int.reduceLE, Int.reduceAdd, Int.reduceSub, Int.reduceMul, Int.reduceToNat, Int.reduceNeg, Int.reduceTMod, Int.reduceEq, not_false_eq_true, Int.reducePow, Int.reduceFDiv, Nat.reducePow, Nat.reduceSub, Nat.reduceMul, Nat.min_eq_left, Nat.reduceEqDiff, BEq.rfl, Int.tdiv_one, LN_succ, e1, e2, e3, e4, e5, e6, e7, e8, e9, strmC_low]
  · refine CallX.onE (bitsX s _ nl A q w (by omega) (by omega) (by omega) hA) (subH_get (by simp only [aqT, aqU, aqN, ↓seqK, ↓blkK, ↓loopK, step, stepBin, Nat.reduceBEq, Nat.reduceBeqDiff, Nat.add_assoc nid, Nat.reduceAdd, reduceCtorEq, ↓reduceIte, Nat.reduceLeDiff, Nat.reduceBneDiff, Option.toList, ← Int.ofNat_tmod, ← Int.ofNat_tdiv, Nat.reduceLT, e1, e2, e3, e4, e5, e6, e7, e8, e9])) (fun t ht => ?_)
    simp -dsimp only [aqT0, ROp0, aqT, aqU, aqN, ↓seqK, ↓blkK, ↓loopK, step, stepBin, Nat.reduceBEq, Nat.reduceBeqDiff, Nat.add_assoc nid, Nat.reduceAdd, reduceCtorEq, ↓reduceIte, Nat.reduceLeDiff, Nat.reduceBneDiff, Option.toList, ← Int.ofNat_tmod, ← Int.ofNat_tdiv, Nat.reduceLT, Int.cast_ofNat_Int, Int.reduceBEq, Int.reduceBNe, Int.reduceLT, Int.reduceLE, Int.reduceAdd, Int.reduceSub, Int.reduceMul, Int.reduceToNat, Int.reduceNeg, Int.reduceTMod, Int.reduceEq, not_false_eq_true, Int.reducePow, Int.reduceFDiv, Nat.reducePow, Nat.reduceSub, Nat.reduceMul, Nat.min_eq_left, Nat.reduceEqDiff, BEq.rfl, Int.tdiv_one, LN_succ, e1, e2, e3, e4, e5, e6, e7, e8, e9, strmC_low]
    rw [getD_app1 x t rfl]
    have hl : (x ++ [t]).length = x.length + 1 := by simp
    refine ⟨by omega, by unfold inI64; omega, (x ++ [t], q + w), ⟨⟨by simp only; omega, by simp only; exact hR2.snoc (by omega), by simp only; omega⟩, by simp only; omega⟩, Cov.go [(nid + 8, nid + 224)] [] ?_⟩
    simp [cvT, step, res, e1, e2, e3, e4, e5, e6, e7, e8, e9, strmC, arrS, hl, -List.length_append, -List.getD_eq_getElem?_getD]
  have hxm : x.length = m := by omega
  clear hxm h2
  rcases Nat.eq_zero_or_pos x.length with hx0 | hx0
  · have hxe : x = [] := List.eq_nil_of_length_eq_zero hx0
    subst hxe
    simp -dsimp only [aqT0, ROp0, aqT, aqU, aqN, ↓seqK, ↓blkK, ↓loopK, step, stepBin, Nat.reduceBEq, Nat.reduceBeqDiff, Nat.add_assoc nid, Nat.reduceAdd, reduceCtorEq, ↓reduceIte, Nat.reduceLeDiff, Nat.reduceBneDiff, Option.toList, ← Int.ofNat_tmod, ← Int.ofNat_tdiv, Nat.reduceLT, Int.cast_ofNat_Int, Int.reduceBEq, Int.reduceBNe, Int.reduceLT, Int.reduceLE, Int.reduceAdd, Int.reduceSub, Int.reduceMul, Int.reduceToNat, Int.reduceNeg, Int.reduceTMod, Int.reduceEq, not_false_eq_true, Int.reducePow, Int.reduceFDiv, Nat.reducePow, Nat.reduceSub, Nat.reduceMul, Nat.min_eq_left, Nat.reduceEqDiff, BEq.rfl, Int.tdiv_one, LN_succ, e1, e2, e3, e4, e5, e6, e7, e8, e9, strmC_low]
    refine CallX.on (flip_c s _ nl A (q) 20 (by omega) (by omega) hA (by omega)) (subH_get (by simp only [aqT, aqU, aqN, ↓seqK, ↓blkK, ↓loopK, step, stepBin, Nat.reduceBEq, Nat.reduceBeqDiff, Nat.add_assoc nid, Nat.reduceAdd, reduceCtorEq, ↓reduceIte, Nat.reduceLeDiff, Nat.reduceBneDiff, Option.toList, ← Int.ofNat_tmod, ← Int.ofNat_tdiv, Nat.reduceLT, e1, e2, e3, e4, e5, e6, e7, e8, e9])) ?_
    simp -dsimp only [aqT0, ROp0, aqT, aqU, aqN, ↓seqK, ↓blkK, ↓loopK, step, stepBin, Nat.reduceBEq, Nat.reduceBeqDiff, Nat.add_assoc nid, Nat.reduceAdd, reduceCtorEq, ↓reduceIte, Nat.reduceLeDiff, Nat.reduceBneDiff, Option.toList, ← Int.ofNat_tmod, ← Int.ofNat_tdiv, Nat.reduceLT, Int.cast_ofNat_Int, Int.reduceBEq, Int.reduceBNe, Int.reduceLT, Int.reduceLE, Int.reduceAdd, Int.reduceSub, Int.reduceMul, Int.reduceToNat, Int.reduceNeg, Int.reduceTMod, Int.reduceEq, not_false_eq_true, Int.reducePow, Int.reduceFDiv, Nat.reducePow, Nat.reduceSub, Nat.reduceMul, Nat.min_eq_left, Nat.reduceEqDiff, BEq.rfl, Int.tdiv_one, LN_succ, e1, e2, e3, e4, e5, e6, e7, e8, e9, strmC_low]
    refine S2.intro (fun h9 => ?_) (fun h9 => ?_) <;> simp -dsimp only [aqT0, ROp0, aqT, aqU, aqN, ↓seqK, ↓blkK, ↓loopK, step, stepBin, Nat.reduceBEq, Nat.reduceBeqDiff, Nat.add_assoc nid, Nat.reduceAdd, reduceCtorEq, ↓reduceIte, Nat.reduceLeDiff, Nat.reduceBneDiff, Option.toList, ← Int.ofNat_tmod, ← Int.ofNat_tdiv, Nat.reduceLT, Int.cast_ofNat_Int, Int.reduceBEq, Int.reduceBNe, Int.reduceLT, Int.reduceLE, Int.reduceAdd, Int.reduceSub, Int.reduceMul, Int.reduceToNat, Int.reduceNeg, Int.reduceTMod, Int.reduceEq, not_false_eq_true, Int.reducePow, Int.reduceFDiv, Nat.reducePow, Nat.reduceSub, Nat.reduceMul, Nat.min_eq_left, Nat.reduceEqDiff, BEq.rfl, Int.tdiv_one, LN_succ, e1, e2, e3, e4, e5, e6, e7, e8, e9, strmC_low]
    · refine CallX.onE (oddI_c s _ nl A (q + 1) 1 100 (by omega) (by omega) hA (by omega) (by omega) (by omega)) (subH_get (by simp only [aqT, aqU, aqN, ↓seqK, ↓blkK, ↓loopK, step, stepBin, Nat.reduceBEq, Nat.reduceBeqDiff, Nat.add_assoc nid, Nat.reduceAdd, reduceCtorEq, ↓reduceIte, Nat.reduceLeDiff, Nat.reduceBneDiff, Option.toList, ← Int.ofNat_tmod, ← Int.ofNat_tdiv, Nat.reduceLT, e1, e2, e3, e4, e5, e6, e7, e8, e9])) (fun z hz => ?_)
      simp -dsimp only [aqT0, ROp0, aqT, aqU, aqN, ↓seqK, ↓blkK, ↓loopK, step, stepBin, Nat.reduceBEq, Nat.reduceBeqDiff, Nat.add_assoc nid, Nat.reduceAdd, reduceCtorEq, ↓reduceIte, Nat.reduceLeDiff, Nat.reduceBneDiff, Option.toList, ← Int.ofNat_tmod, ← Int.ofNat_tdiv, Nat.reduceLT, Int.cast_ofNat_Int, Int.reduceBEq, Int.reduceBNe, Int.reduceLT, Int.reduceLE, Int.reduceAdd, Int.reduceSub, Int.reduceMul, Int.reduceToNat, Int.reduceNeg, Int.reduceTMod, Int.reduceEq, not_false_eq_true, Int.reducePow, Int.reduceFDiv, Nat.reducePow, Nat.reduceSub, Nat.reduceMul, Nat.min_eq_left, Nat.reduceEqDiff, BEq.rfl, Int.tdiv_one, LN_succ, e1, e2, e3, e4, e5, e6, e7, e8, e9, strmC_low]
      refine EndOK.mk ((z, []), q + 1 + 2) ⟨by simp, fun r hr => by simp at hr, by simp only; omega, narrow_nil⟩ ?_
      refine RetOK.go [(nid, nid + 8)] [] (.inl rfl) ?_
      simp [a22, cvT, step, res, e1, e2, e3, e4, e5, e6, e7, e8, e9, strmC, arrS, -List.getD_eq_getElem?_getD]
    · skip
      refine EndOK.mk (((w : Int), []), q + 1) ⟨by simp, fun r hr => by simp at hr, by simp only; omega, narrow_nil⟩ ?_
      refine RetOK.go [(nid, nid + 8)] [] (.inl rfl) ?_
      simp [a22, cvT, step, res, e1, e2, e3, e4, e5, e6, e7, e8, e9, strmC, arrS, -List.getD_eq_getElem?_getD]
  refine S2.yes (by simp <;> omega) ?_
  simp -dsimp only [aqT0, ROp0, aqT, aqU, aqN, ↓seqK, ↓blkK, ↓loopK, step, stepBin, Nat.reduceBEq, Nat.reduceBeqDiff, Nat.add_assoc nid, Nat.reduceAdd, reduceCtorEq, ↓reduceIte, Nat.reduceLeDiff, Nat.reduceBneDiff, Option.toList, ← Int.ofNat_tmod, ← Int.ofNat_tdiv, Nat.reduceLT, Int.cast_ofNat_Int, Int.reduceBEq, Int.reduceBNe, Int.reduceLT, Int.reduceLE, Int.reduceAdd, Int.reduceSub, Int.reduceMul, Int.reduceToNat, Int.reduceNeg, Int.reduceTMod, Int.reduceEq, not_false_eq_true, Int.reducePow, Int.reduceFDiv, Nat.reducePow, Nat.reduceSub, Nat.reduceMul, Nat.min_eq_left, Nat.reduceEqDiff, BEq.rfl, Int.tdiv_one, LN_succ, e1, e2, e3, e4, e5, e6, e7, e8, e9, strmC_low]
  refine CallX.on (flip_c s _ nl A q 4 (by omega) (by omega) hA (by omega)) (subH_get (by simp only [aqT, aqU, aqN, ↓seqK, ↓blkK, ↓loopK, step, stepBin, Nat.reduceBEq, Nat.reduceBeqDiff, Nat.add_assoc nid, Nat.reduceAdd, reduceCtorEq, ↓reduceIte, Nat.reduceLeDiff, Nat.reduceBneDiff, Option.toList, ← Int.ofNat_tmod, ← Int.ofNat_tdiv, Nat.reduceLT, e1, e2, e3, e4, e5, e6, e7, e8, e9])) ?_
  simp -dsimp only [aqT0, ROp0, aqT, aqU, aqN, ↓seqK, ↓blkK, ↓loopK, step, stepBin, Nat.reduceBEq, Nat.reduceBeqDiff, Nat.add_assoc nid, Nat.reduceAdd, reduceCtorEq, ↓reduceIte, Nat.reduceLeDiff, Nat.reduceBneDiff, Option.toList, ← Int.ofNat_tmod, ← Int.ofNat_tdiv, Nat.reduceLT, Int.cast_ofNat_Int, Int.reduceBEq, Int.reduceBNe, Int.reduceLT, Int.reduceLE, Int.reduceAdd, Int.reduceSub, Int.reduceMul, Int.reduceToNat, Int.reduceNeg, Int.reduceTMod, Int.reduceEq, not_false_eq_true, Int.reducePow, Int.reduceFDiv, Nat.reducePow, Nat.reduceSub, Nat.reduceMul, Nat.min_eq_left, Nat.reduceEqDiff, BEq.rfl, Int.tdiv_one, LN_succ, e1, e2, e3, e4, e5, e6, e7, e8, e9, strmC_low]
  refine S2.intro (fun h3 => ?_) (fun h3 => ?_) <;> simp -dsimp only [aqT0, ROp0, aqT, aqU, aqN, ↓seqK, ↓blkK, ↓loopK, step, stepBin, Nat.reduceBEq, Nat.reduceBeqDiff, Nat.add_assoc nid, Nat.reduceAdd, reduceCtorEq, ↓reduceIte, Nat.reduceLeDiff, Nat.reduceBneDiff, Option.toList, ← Int.ofNat_tmod, ← Int.ofNat_tdiv, Nat.reduceLT, Int.cast_ofNat_Int, Int.reduceBEq, Int.reduceBNe, Int.reduceLT, Int.reduceLE, Int.reduceAdd, Int.reduceSub, Int.reduceMul, Int.reduceToNat, Int.reduceNeg, Int.reduceTMod, Int.reduceEq, not_false_eq_true, Int.reducePow, Int.reduceFDiv, Nat.reducePow, Nat.reduceSub, Nat.reduceMul, Nat.min_eq_left, Nat.reduceEqDiff, BEq.rfl, Int.tdiv_one, LN_succ, e1, e2, e3, e4, e5, e6, e7, e8, e9, strmC_low]
  · rw [getD_app1 x _ rfl]
    have hl : (x ++ [x.getD 0 []]).length = x.length + 1 := by simp
    have hS : ShortRows 6 (x ++ [x.getD 0 []]) := hR2.snoc (hat 0)
    refine ⟨by omega, by omega, ?_⟩
    generalize x ++ [x.getD 0 []] = y at *
    refine S2.yes (by simp <;> omega) ?_
    simp -dsimp only [aqT0, ROp0, aqT, aqU, aqN, ↓seqK, ↓blkK, ↓loopK, step, stepBin, Nat.reduceBEq, Nat.reduceBeqDiff, Nat.add_assoc nid, Nat.reduceAdd, reduceCtorEq, ↓reduceIte, Nat.reduceLeDiff, Nat.reduceBneDiff, Option.toList, ← Int.ofNat_tmod, ← Int.ofNat_tdiv, Nat.reduceLT, Int.cast_ofNat_Int, Int.reduceBEq, Int.reduceBNe, Int.reduceLT, Int.reduceLE, Int.reduceAdd, Int.reduceSub, Int.reduceMul, Int.reduceToNat, Int.reduceNeg, Int.reduceTMod, Int.reduceEq, not_false_eq_true, Int.reducePow, Int.reduceFDiv, Nat.reducePow, Nat.reduceSub, Nat.reduceMul, Nat.min_eq_left, Nat.reduceEqDiff, BEq.rfl, Int.tdiv_one, LN_succ, e1, e2, e3, e4, e5, e6, e7, e8, e9, strmC_low]
    refine CallX.on (flip_c s _ nl A (q + 1) 12 (by omega) (by omega) hA (by omega)) (subH_get (by simp only [aqT, aqU, aqN, ↓seqK, ↓blkK, ↓loopK, step, stepBin, Nat.reduceBEq, Nat.reduceBeqDiff, Nat.add_assoc nid, Nat.reduceAdd, reduceCtorEq, ↓reduceIte, Nat.reduceLeDiff, Nat.reduceBneDiff, Option.toList, ← Int.ofNat_tmod, ← Int.ofNat_tdiv, Nat.reduceLT, e1, e2, e3, e4, e5, e6, e7, e8, e9])) ?_
    simp -dsimp only [aqT0, ROp0, aqT, aqU, aqN, ↓seqK, ↓blkK, ↓loopK, step, stepBin, Nat.reduceBEq, Nat.reduceBeqDiff, Nat.add_assoc nid, Nat.reduceAdd, reduceCtorEq, ↓reduceIte, Nat.reduceLeDiff, Nat.reduceBneDiff, Option.toList, ← Int.ofNat_tmod, ← Int.ofNat_tdiv, Nat.reduceLT, Int.cast_ofNat_Int, Int.reduceBEq, Int.reduceBNe, Int.reduceLT, Int.reduceLE, Int.reduceAdd, Int.reduceSub, Int.reduceMul, Int.reduceToNat, Int.reduceNeg, Int.reduceTMod, Int.reduceEq, not_false_eq_true, Int.reducePow, Int.reduceFDiv, Nat.reducePow, Nat.reduceSub, Nat.reduceMul, Nat.min_eq_left, Nat.reduceEqDiff, BEq.rfl, Int.tdiv_one, LN_succ, e1, e2, e3, e4, e5, e6, e7, e8, e9, strmC_low]
    refine S2.intro (fun h4 => ?_) (fun h4 => ?_) <;> simp -dsimp only [aqT0, ROp0, aqT, aqU, aqN, ↓seqK, ↓blkK, ↓loopK, step, stepBin, Nat.reduceBEq, Nat.reduceBeqDiff, Nat.add_assoc nid, Nat.reduceAdd, reduceCtorEq, ↓reduceIte, Nat.reduceLeDiff, Nat.reduceBneDiff, Option.toList, ← Int.ofNat_tmod, ← Int.ofNat_tdiv, Nat.reduceLT, Int.cast_ofNat_Int, Int.reduceBEq, Int.reduceBNe, Int.reduceLT, Int.reduceLE, Int.reduceAdd, Int.reduceSub, Int.reduceMul, Int.reduceToNat, Int.reduceNeg, Int.reduceTMod, Int.reduceEq, not_false_eq_true, Int.reducePow, Int.reduceFDiv, Nat.reducePow, Nat.reduceSub, Nat.reduceMul, Nat.min_eq_left, Nat.reduceEqDiff, BEq.rfl, Int.tdiv_one, LN_succ, e1, e2, e3, e4, e5, e6, e7, e8, e9, strmC_low]
    · refine CallX.on (next_c s _ nl A (q + 1 + 1) _ (by omega) (by omega) hA (by omega)) (subH_get (by simp only [aqT, aqU, aqN, ↓seqK, ↓blkK, ↓loopK, step, stepBin, Nat.reduceBEq, Nat.reduceBeqDiff, Nat.add_assoc nid, Nat.reduceAdd, reduceCtorEq, ↓reduceIte, Nat.reduceLeDiff, Nat.reduceBneDiff, Option.toList, ← Int.ofNat_tmod, ← Int.ofNat_tdiv, Nat.reduceLT, e1, e2, e3, e4, e5, e6, e7, e8, e9])) ?_
      simp -dsimp only [aqT0, ROp0, aqT, aqU, aqN, ↓seqK, ↓blkK, ↓loopK, step, stepBin, Nat.reduceBEq, Nat.reduceBeqDiff, Nat.add_assoc nid, Nat.reduceAdd, reduceCtorEq, ↓reduceIte, Nat.reduceLeDiff, Nat.reduceBneDiff, Option.toList, ← Int.ofNat_tmod, ← Int.ofNat_tdiv, Nat.reduceLT, Int.cast_ofNat_Int, Int.reduceBEq, Int.reduceBNe, Int.reduceLT, Int.reduceLE, Int.reduceAdd, Int.reduceSub, Int.reduceMul, Int.reduceToNat, Int.reduceNeg, Int.reduceTMod, Int.reduceEq, not_false_eq_true, Int.reducePow, Int.reduceFDiv, Nat.reducePow, Nat.reduceSub, Nat.reduceMul, Nat.min_eq_left, Nat.reduceEqDiff, BEq.rfl, Int.tdiv_one, LN_succ, e1, e2, e3, e4, e5, e6, e7, e8, e9, strmC_low]
      have hI0 := nextV_bd A (q + 1 + 1) (n := ((x.length + 1) : Nat)) (by omega)
      obtain ⟨I, hI⟩ : ∃ I : Nat, nextV A (q + 1 + 1) (((x.length + 1) : Nat) : Int) = I := ⟨_, (Int.toNat_of_nonneg hI0.1).symm⟩
      rw [hI] at hI0 ⊢
      have hIR : I < y.length := by omega
      have hyI := hS.at I
      refine ⟨by omega, by unfold inI64; omega, ?_⟩
      refine CallX.onE (bitsX s _ nl A (q + 1 + 1 + 1) (w + 1) (by omega) (by omega) (by omega) hA) (subH_get (by simp only [aqT, aqU, aqN, ↓seqK, ↓blkK, ↓loopK, step, stepBin, Nat.reduceBEq, Nat.reduceBeqDiff, Nat.add_assoc nid, Nat.reduceAdd, reduceCtorEq, ↓reduceIte, Nat.reduceLeDiff, Nat.reduceBneDiff, Option.toList, ← Int.ofNat_tmod, ← Int.ofNat_tdiv, Nat.reduceLT, e1, e2, e3, e4, e5, e6, e7, e8, e9])) (fun t ht => ?_)
      simp -dsimp only [aqT0, ROp0, aqT, aqU, aqN, ↓seqK, ↓blkK, ↓loopK, step, stepBin, Nat.reduceBEq, Nat.reduceBeqDiff, Nat.add_assoc nid, Nat.reduceAdd, reduceCtorEq, ↓reduceIte, Nat.reduceLeDiff, Nat.reduceBneDiff, Option.toList, ← Int.ofNat_tmod, ← Int.ofNat_tdiv, Nat.reduceLT, Int.cast_ofNat_Int, Int.reduceBEq, Int.reduceBNe, Int.reduceLT, Int.reduceLE, Int.reduceAdd, Int.reduceSub, Int.reduceMul, Int.reduceToNat, Int.reduceNeg, Int.reduceTMod, Int.reduceEq, not_false_eq_true, Int.reducePow, Int.reduceFDiv, Nat.reducePow, Nat.reduceSub, Nat.reduceMul, Nat.min_eq_left, Nat.reduceEqDiff, BEq.rfl, Int.tdiv_one, LN_succ, e1, e2, e3, e4, e5, e6, e7, e8, e9, strmC_low]
      refine ⟨by omega, ?_⟩
      refine CallX.onE (changedX s _ nl A (q + 1 + 1 + 1 + (w + 1)) (y.getD I []) [50] (by omega) (by omega) (by simp) (by omega) hA) (subH_get (by simp only [aqT, aqU, aqN, ↓seqK, ↓blkK, ↓loopK, step, stepBin, Nat.reduceBEq, Nat.reduceBeqDiff, Nat.add_assoc nid, Nat.reduceAdd, reduceCtorEq, ↓reduceIte, Nat.reduceLeDiff, Nat.reduceBneDiff, Option.toList, ← Int.ofNat_tmod, ← Int.ofNat_tdiv, Nat.reduceLT, e1, e2, e3, e4, e5, e6, e7, e8, e9])) (fun c hc => ?_)
      obtain ⟨c, q3⟩ := c
      obtain ⟨hc1, hc2⟩ := hc
      simp only [List.length_cons, List.length_nil] at hc1 hc2
      simp -dsimp only [aqT0, ROp0, aqT, aqU, aqN, ↓seqK, ↓blkK, ↓loopK, step, stepBin, Nat.reduceBEq, Nat.reduceBeqDiff, Nat.add_assoc nid, Nat.reduceAdd, reduceCtorEq, ↓reduceIte, Nat.reduceLeDiff, Nat.reduceBneDiff, Option.toList, ← Int.ofNat_tmod, ← Int.ofNat_tdiv, Nat.reduceLT, Int.cast_ofNat_Int, Int.reduceBEq, Int.reduceBNe, Int.reduceLT, Int.reduceLE, Int.reduceAdd, Int.reduceSub, Int.reduceMul, Int.reduceToNat, Int.reduceNeg, Int.reduceTMod, Int.reduceEq, not_false_eq_true, Int.reducePow, Int.reduceFDiv, Nat.reducePow, Nat.reduceSub, Nat.reduceMul, Nat.min_eq_left, Nat.reduceEqDiff, BEq.rfl, Int.tdiv_one, LN_succ, e1, e2, e3, e4, e5, e6, e7, e8, e9, strmC_low]
      refine CallX.some_go (T := 9) (nl := nl) (A := A) (p := q3) (g := fun i => [y.getD I [], [], t, c].getD i []) (by simp only [aqT, aqU, aqN, ↓seqK, ↓blkK, ↓loopK, step, stepBin, Nat.reduceBEq, Nat.reduceBeqDiff, Nat.add_assoc nid, Nat.reduceAdd, reduceCtorEq, ↓reduceIte, Nat.reduceLeDiff, Nat.reduceBneDiff, Option.toList, ← Int.ofNat_tmod, ← Int.ofNat_tdiv, Nat.reduceLT, e1, e2, e3, e4, e5, e6, e7, e8, e9]) (by simp only [aqT, aqU, aqN, ↓seqK, ↓blkK, ↓loopK, step, stepBin, Nat.reduceBEq, Nat.reduceBeqDiff, Nat.add_assoc nid, Nat.reduceAdd, reduceCtorEq, ↓reduceIte, Nat.reduceLeDiff, Nat.reduceBneDiff, Option.toList, ← Int.ofNat_tmod, ← Int.ofNat_tdiv, Nat.reduceLT, e1, e2, e3, e4, e5, e6, e7, e8, e9]) (by simp only [aqT, aqU, aqN, ↓seqK, ↓blkK, ↓loopK, step, stepBin, Nat.reduceBEq, Nat.reduceBeqDiff, Nat.add_assoc nid, Nat.reduceAdd, reduceCtorEq, ↓reduceIte, Nat.reduceLeDiff, Nat.reduceBneDiff, Option.toList, ← Int.ofNat_tmod, ← Int.ofNat_tdiv, Nat.reduceLT, e1, e2, e3, e4, e5, e6, e7, e8, e9]) (by omega) (by omega) hA (by omega) (by omega) ?_
      simp -dsimp only [aqT0, ROp0, aqT, aqU, aqN, ↓seqK, ↓blkK, ↓loopK, step, stepBin, Nat.reduceBEq, Nat.reduceBeqDiff, Nat.add_assoc nid, Nat.reduceAdd, reduceCtorEq, ↓reduceIte, Nat.reduceLeDiff, Nat.reduceBneDiff, Option.toList, ← Int.ofNat_tmod, ← Int.ofNat_tdiv, Nat.reduceLT, Int.cast_ofNat_Int, Int.reduceBEq, Int.reduceBNe, Int.reduceLT, Int.reduceLE, Int.reduceAdd, Int.reduceSub, Int.reduceMul, Int.reduceToNat, Int.reduceNeg, Int.reduceTMod, Int.reduceEq, not_false_eq_true, Int.reducePow, Int.reduceFDiv, Nat.reducePow, Nat.reduceSub, Nat.reduceMul, Nat.min_eq_left, Nat.reduceEqDiff, BEq.rfl, Int.tdiv_one, LN_succ, e1, e2, e3, e4, e5, e6, e7, e8, e9, strmC_low]
      have hb := getD_all (P := fun x : List UInt8 => x.length ≤ 20) (l := [y.getD I [], [], t, c]) (d := []) (by intro x hx; simp only [List.mem_cons, List.not_mem_nil, or_false] at hx; rcases hx with rfl | rfl | rfl | rfl; omega; simp; omega; omega) (pickI_lt A q3 (n := 4) (by omega))
      generalize ([y.getD I [], [], t, c].getD (pickI A q3 4) [] : List UInt8) = b at hb ⊢
      have hna : Narrow (y.set I b) := narrow_set hS I b
      have hset : ShortRows 20 (y.set I b) := (hS.mono (by omega)).set I hb
      have hsl : (y.set I b).length = (x.length + 1) := by rw [List.length_set]; exact hl
      rw [getD_setS y _ hIR]
      refine ⟨by omega, ?_⟩
      generalize y.set I b = zz at *
      refine CallX.on (flip_c s _ nl A (q3 + 1) 20 (by omega) (by omega) hA (by omega)) (subH_get (by simp only [aqT, aqU, aqN, ↓seqK, ↓blkK, ↓loopK, step, stepBin, Nat.reduceBEq, Nat.reduceBeqDiff, Nat.add_assoc nid, Nat.reduceAdd, reduceCtorEq, ↓reduceIte, Nat.reduceLeDiff, Nat.reduceBneDiff, Option.toList, ← Int.ofNat_tmod, ← Int.ofNat_tdiv, Nat.reduceLT, e1, e2, e3, e4, e5, e6, e7, e8, e9])) ?_
      simp -dsimp only [aqT0, ROp0, aqT, aqU, aqN, ↓seqK, ↓blkK, ↓loopK, step, stepBin, Nat.reduceBEq, Nat.reduceBeqDiff, Nat.add_assoc nid, Nat.reduceAdd, reduceCtorEq, ↓reduceIte, Nat.reduceLeDiff, Nat.reduceBneDiff, Option.toList, ← Int.ofNat_tmod, ← Int.ofNat_tdiv, Nat.reduceLT, Int.cast_ofNat_Int, Int.reduceBEq, Int.reduceBNe, Int.reduceLT, Int.reduceLE, Int.reduceAdd, Int.reduceSub, Int.reduceMul, Int.reduceToNat, Int.reduceNeg, Int.reduceTMod, Int.reduceEq, not_false_eq_true, Int.reducePow, Int.reduceFDiv, Nat.reducePow, Nat.reduceSub, Nat.reduceMul, Nat.min_eq_left, Nat.reduceEqDiff, BEq.rfl, Int.tdiv_one, LN_succ, e1, e2, e3, e4, e5, e6, e7, e8, e9, strmC_low]
      refine S2.intro (fun h9 => ?_) (fun h9 => ?_) <;> simp -dsimp only [aqT0, ROp0, aqT, aqU, aqN, ↓seqK, ↓blkK, ↓loopK, step, stepBin, Nat.reduceBEq, Nat.reduceBeqDiff, Nat.add_assoc nid, Nat.reduceAdd, reduceCtorEq, ↓reduceIte, Nat.reduceLeDiff, Nat.reduceBneDiff, Option.toList, ← Int.ofNat_tmod, ← Int.ofNat_tdiv, Nat.reduceLT, Int.cast_ofNat_Int, Int.reduceBEq, Int.reduceBNe, Int.reduceLT, Int.reduceLE, Int.reduceAdd, Int.reduceSub, Int.reduceMul, Int.reduceToNat, Int.reduceNeg, Int.reduceTMod, Int.reduceEq, not_false_eq_true, Int.reducePow, Int.reduceFDiv, Nat.reducePow, Nat.reduceSub, Nat.reduceMul, Nat.min_eq_left, Nat.reduceEqDiff, BEq.rfl, Int.tdiv_one, LN_succ, e1, e2, e3, e4, e5, e6, e7, e8, e9, strmC_low]
      · refine CallX.onE (oddI_c s _ nl A (q3 + 1 + 1) 1 100 (by omega) (by omega) hA (by omega) (by omega) (by omega)) (subH_get (by simp only [aqT, aqU, aqN, ↓seqK, ↓blkK, ↓loopK, step, stepBin, Nat.reduceBEq, Nat.reduceBeqDiff, Nat.add_assoc nid, Nat.reduceAdd, reduceCtorEq, ↓reduceIte, Nat.reduceLeDiff, Nat.reduceBneDiff, Option.toList, ← Int.ofNat_tmod, ← Int.ofNat_tdiv, Nat.reduceLT, e1, e2, e3, e4, e5, e6, e7, e8, e9])) (fun z hz => ?_)
        simp -dsimp only [aqT0, ROp0, aqT, aqU, aqN, ↓seqK, ↓blkK, ↓loopK, step, stepBin, Nat.reduceBEq, Nat.reduceBeqDiff, Nat.add_assoc nid, Nat.reduceAdd, reduceCtorEq, ↓reduceIte, Nat.reduceLeDiff, Nat.reduceBneDiff, Option.toList, ← Int.ofNat_tmod, ← Int.ofNat_tdiv, Nat.reduceLT, Int.cast_ofNat_Int, Int.reduceBEq, Int.reduceBNe, Int.reduceLT, Int.reduceLE, Int.reduceAdd, Int.reduceSub, Int.reduceMul, Int.reduceToNat, Int.reduceNeg, Int.reduceTMod, Int.reduceEq, not_false_eq_true, Int.reducePow, Int.reduceFDiv, Nat.reducePow, Nat.reduceSub, Nat.reduceMul, Nat.min_eq_left, Nat.reduceEqDiff, BEq.rfl, Int.tdiv_one, LN_succ, e1, e2, e3, e4, e5, e6, e7, e8, e9, strmC_low]
        refine EndOK.mk ((z, zz), q3 + 1 + 1 + 2) ⟨by simp only; omega, hset, by simp only; omega, hna⟩ ?_
        refine RetOK.go [(nid, nid + 252)] [] (.inl rfl) ?_
        simp [a22, cvT, step, res, e1, e2, e3, e4, e5, e6, e7, e8, e9, strmC, arrS, hsl, -List.getD_eq_getElem?_getD]
      · skip
        refine EndOK.mk (((w : Int), zz), q3 + 1 + 1) ⟨by simp only; omega, hset, by simp only; omega, hna⟩ ?_
        refine RetOK.go [(nid, nid + 252)] [] (.inl rfl) ?_
        simp [a22, cvT, step, res, e1, e2, e3, e4, e5, e6, e7, e8, e9, strmC, arrS, hsl, -List.getD_eq_getElem?_getD]
    · skip
      refine CallX.on (flip_c s _ nl A (q + 1 + 1) 20 (by omega) (by omega) hA (by omega)) (subH_get (by simp only [aqT, aqU, aqN, ↓seqK, ↓blkK, ↓loopK, step, stepBin, Nat.reduceBEq, Nat.reduceBeqDiff, Nat.add_assoc nid, Nat.reduceAdd, reduceCtorEq, ↓reduceIte, Nat.reduceLeDiff, Nat.reduceBneDiff, Option.toList, ← Int.ofNat_tmod, ← Int.ofNat_tdiv, Nat.reduceLT, e1, e2, e3, e4, e5, e6, e7, e8, e9])) ?_
      simp -dsimp only [aqT0, ROp0, aqT, aqU, aqN, ↓seqK, ↓blkK, ↓loopK, step, stepBin, Nat.reduceBEq, Nat.reduceBeqDiff, Nat.add_assoc nid, Nat.reduceAdd, reduceCtorEq, ↓reduceIte, Nat.reduceLeDiff, Nat.reduceBneDiff, Option.toList, ← Int.ofNat_tmod, ← Int.ofNat_tdiv, Nat.reduceLT, Int.cast_ofNat_Int, Int.reduceBEq, Int.reduceBNe, Int.reduceLT, Int.reduceLE, Int.reduceAdd, Int.reduceSub, Int.reduceMul, Int.reduceToNat, Int.reduceNeg, Int.reduceTMod, Int.reduceEq, not_false_eq_true, Int.reducePow, Int.reduceFDiv, Nat.reducePow, Nat.reduceSub, Nat.reduceMul, Nat.min_eq_left, Nat.reduceEqDiff, BEq.rfl, Int.tdiv_one, LN_succ, e1, e2, e3, e4, e5, e6, e7, e8, e9, strmC_low]
      refine S2.intro (fun h9 => ?_) (fun h9 => ?_) <;> simp -dsimp only [aqT0, ROp0, aqT, aqU, aqN, ↓seqK, ↓blkK, ↓loopK, step, stepBin, Nat.reduceBEq, Nat.reduceBeqDiff, Nat.add_assoc nid, Nat.reduceAdd, reduceCtorEq, ↓reduceIte, Nat.reduceLeDiff, Nat.reduceBneDiff, Option.toList, ← Int.ofNat_tmod, ← Int.ofNat_tdiv, Nat.reduceLT, Int.cast_ofNat_Int, Int.reduceBEq, Int.reduceBNe, Int.reduceLT, Int.reduceLE, Int.reduceAdd, Int.reduceSub, Int.reduceMul, Int.reduceToNat, Int.reduceNeg, Int.reduceTMod, Int.reduceEq, not_false_eq_true, Int.reducePow, Int.reduceFDiv, Nat.reducePow, Nat.reduceSub, Nat.reduceMul, Nat.min_eq_left, Nat.reduceEqDiff, BEq.rfl, Int.tdiv_one, LN_succ, e1, e2, e3, e4, e5, e6, e7, e8, e9, strmC_low]
      · refine CallX.onE (oddI_c s _ nl A (q + 1 + 1 + 1) 1 100 (by omega) (by omega) hA (by omega) (by omega) (by omega)) (subH_get (by simp only [aqT, aqU, aqN, ↓seqK, ↓blkK, ↓loopK, step, stepBin, Nat.reduceBEq, Nat.reduceBeqDiff, Nat.add_assoc nid, Nat.reduceAdd, reduceCtorEq, ↓reduceIte, Nat.reduceLeDiff, Nat.reduceBneDiff, Option.toList, ← Int.ofNat_tmod, ← Int.ofNat_tdiv, Nat.reduceLT, e1, e2, e3, e4, e5, e6, e7, e8, e9])) (fun z hz => ?_)
        simp -dsimp only [aqT0, ROp0, aqT, aqU, aqN, ↓seqK, ↓blkK, ↓loopK, step, stepBin, Nat.reduceBEq, Nat.reduceBeqDiff, Nat.add_assoc nid, Nat.reduceAdd, reduceCtorEq, ↓reduceIte, Nat.reduceLeDiff, Nat.reduceBneDiff, Option.toList, ← Int.ofNat_tmod, ← Int.ofNat_tdiv, Nat.reduceLT, Int.cast_ofNat_Int, Int.reduceBEq, Int.reduceBNe, Int.reduceLT, Int.reduceLE, Int.reduceAdd, Int.reduceSub, Int.reduceMul, Int.reduceToNat, Int.reduceNeg, Int.reduceTMod, Int.reduceEq, not_false_eq_true, Int.reducePow, Int.reduceFDiv, Nat.reducePow, Nat.reduceSub, Nat.reduceMul, Nat.min_eq_left, Nat.reduceEqDiff, BEq.rfl, Int.tdiv_one, LN_succ, e1, e2, e3, e4, e5, e6, e7, e8, e9, strmC_low]
        refine EndOK.mk ((z, y), q + 1 + 1 + 1 + 2) ⟨by simp only; omega, hS.mono (by omega), by simp only; omega, narrow_short hS⟩ ?_
        refine RetOK.go [(nid, nid + 252)] [] (.inl rfl) ?_
        simp [a22, cvT, step, res, e1, e2, e3, e4, e5, e6, e7, e8, e9, strmC, arrS, hl, -List.getD_eq_getElem?_getD]
      · skip
        refine EndOK.mk (((w : Int), y), q + 1 + 1 + 1) ⟨by simp only; omega, hS.mono (by omega), by simp only; omega, narrow_short hS⟩ ?_
        refine RetOK.go [(nid, nid + 252)] [] (.inl rfl) ?_
        simp [a22, cvT, step, res, e1, e2, e3, e4, e5, e6, e7, e8, e9, strmC, arrS, hl, -List.getD_eq_getElem?_getD]
  · skip
    refine S2.yes (by simp <;> omega) ?_
    simp -dsimp only [aqT0, ROp0, aqT, aqU, aqN, ↓seqK, ↓blkK, ↓loopK, step, stepBin, Nat.reduceBEq, Nat.reduceBeqDiff, Nat.add_assoc nid, Nat.reduceAdd, reduceCtorEq, ↓reduceIte, Nat.reduceLeDiff, Nat.reduceBneDiff, Option.toList, ← Int.ofNat_tmod, ← Int.ofNat_tdiv, Nat.reduceLT, Int.cast_ofNat_Int, Int.reduceBEq, Int.reduceBNe, Int.reduceLT, Int.reduceLE, Int.reduceAdd, Int.reduceSub, Int.reduceMul, Int.reduceToNat, Int.reduceNeg, Int.reduceTMod, Int.reduceEq, not_false_eq_true, Int.reducePow, Int.reduceFDiv, Nat.reducePow, Nat.reduceSub, Nat.reduceMul, Nat.min_eq_left, Nat.reduceEqDiff, BEq.rfl, Int.tdiv_one, LN_succ, e1, e2, e3, e4, e5, e6, e7, e8, e9, strmC_low]
    refine CallX.on (flip_c s _ nl A (q + 1) 12 (by omega) (by omega) hA (by omega)) (subH_get (by simp only [aqT, aqU, aqN, ↓seqK, ↓blkK, ↓loopK, step, stepBin, Nat.reduceBEq, Nat.reduceBeqDiff, Nat.add_assoc nid, Nat.reduceAdd, reduceCtorEq, ↓reduceIte, Nat.reduceLeDiff, Nat.reduceBneDiff, Option.toList, ← Int.ofNat_tmod, ← Int.ofNat_tdiv, Nat.reduceLT, e1, e2, e3, e4, e5, e6, e7, e8, e9])) ?_
    simp -dsimp only [aqT0, ROp0, aqT, aqU, aqN, ↓seqK, ↓blkK, ↓loopK, step, stepBin, Nat.reduceBEq, Nat.reduceBeqDiff, Nat.add_assoc nid, Nat.reduceAdd, reduceCtorEq, ↓reduceIte, Nat.reduceLeDiff, Nat.reduceBneDiff, Option.toList, ← Int.ofNat_tmod, ← Int.ofNat_tdiv, Nat.reduceLT, Int.cast_ofNat_Int, Int.reduceBEq, Int.reduceBNe, Int.reduceLT, Int.reduceLE, Int.reduceAdd, Int.reduceSub, Int.reduceMul, Int.reduceToNat, Int.reduceNeg, Int.reduceTMod, Int.reduceEq, not_false_eq_true, Int.reducePow, Int.reduceFDiv, Nat.reducePow, Nat.reduceSub, Nat.reduceMul, Nat.min_eq_left, Nat.reduceEqDiff, BEq.rfl, Int.tdiv_one, LN_succ, e1, e2, e3, e4, e5, e6, e7, e8, e9, strmC_low]
    refine S2.intro (fun h4 => ?_) (fun h4 => ?_) <;> simp -dsimp only [aqT0, ROp0, aqT, aqU, aqN, ↓seqK, ↓blkK, ↓loopK, step, stepBin, Nat.reduceBEq, Nat.reduceBeqDiff, Nat.add_assoc nid, Nat.reduceAdd, reduceCtorEq, ↓reduceIte, Nat.reduceLeDiff, Nat.reduceBneDiff, Option.toList, ← Int.ofNat_tmod, ← Int.ofNat_tdiv, Nat.reduceLT, Int.cast_ofNat_Int, Int.reduceBEq, Int.reduceBNe, Int.reduceLT, Int.reduceLE, Int.reduceAdd, Int.reduceSub, Int.reduceMul, Int.reduceToNat, Int.reduceNeg, Int.reduceTMod, Int.reduceEq, not_false_eq_true, Int.reducePow, Int.reduceFDiv, Nat.reducePow, Nat.reduceSub, Nat.reduceMul, Nat.min_eq_left, Nat.reduceEqDiff, BEq.rfl, Int.tdiv_one, LN_succ, e1, e2, e3, e4, e5, e6, e7, e8, e9, strmC_low]
    · refine CallX.on (next_c s _ nl A (q + 1 + 1) _ (by omega) (by omega) hA (by omega)) (subH_get (by simp only [aqT, aqU, aqN, ↓seqK, ↓blkK, ↓loopK, step, stepBin, Nat.reduceBEq, Nat.reduceBeqDiff, Nat.add_assoc nid, Nat.reduceAdd, reduceCtorEq, ↓reduceIte, Nat.reduceLeDiff, Nat.reduceBneDiff, Option.toList, ← Int.ofNat_tmod, ← Int.ofNat_tdiv, Nat.reduceLT, e1, e2, e3, e4, e5, e6, e7, e8, e9])) ?_
      simp -dsimp only [aqT0, ROp0, aqT, aqU, aqN, ↓seqK, ↓blkK, ↓loopK, step, stepBin, Nat.reduceBEq, Nat.reduceBeqDiff, Nat.add_assoc nid, Nat.reduceAdd, reduceCtorEq, ↓reduceIte, Nat.reduceLeDiff, Nat.reduceBneDiff, Option.toList, ← Int.ofNat_tmod, ← Int.ofNat_tdiv, Nat.reduceLT, Int.cast_ofNat_Int, Int.reduceBEq, Int.reduceBNe, Int.reduceLT, Int.reduceLE, Int.reduceAdd, Int.reduceSub, Int.reduceMul, Int.reduceToNat, Int.reduceNeg, Int.reduceTMod, Int.reduceEq, not_false_eq_true, Int.reducePow, Int.reduceFDiv, Nat.reducePow, Nat.reduceSub, Nat.reduceMul, Nat.min_eq_left, Nat.reduceEqDiff, BEq.rfl, Int.tdiv_one, LN_succ, e1, e2, e3, e4, e5, e6, e7, e8, e9, strmC_low]
      have hI0 := nextV_bd A (q + 1 + 1) (n := (x.length : Nat)) (by omega)
      obtain ⟨I, hI⟩ : ∃ I : Nat, nextV A (q + 1 + 1) ((x.length : Nat) : Int) = I := ⟨_, (Int.toNat_of_nonneg hI0.1).symm⟩
      rw [hI] at hI0 ⊢
      have hIR : I < x.length := by omega
      have hyI := hR2.at I
      refine ⟨by omega, by unfold inI64; omega, ?_⟩
      refine CallX.onE (bitsX s _ nl A (q + 1 + 1 + 1) (w + 1) (by omega) (by omega) (by omega) hA) (subH_get (by simp only [aqT, aqU, aqN, ↓seqK, ↓blkK, ↓loopK, step, stepBin, Nat.reduceBEq, Nat.reduceBeqDiff, Nat.add_assoc nid, Nat.reduceAdd, reduceCtorEq, ↓reduceIte, Nat.reduceLeDiff, Nat.reduceBneDiff, Option.toList, ← Int.ofNat_tmod, ← Int.ofNat_tdiv, Nat.reduceLT, e1, e2, e3, e4, e5, e6, e7, e8, e9])) (fun t ht => ?_)
      simp -dsimp only [aqT0, ROp0, aqT, aqU, aqN, ↓seqK, ↓blkK, ↓loopK, step, stepBin, Nat.reduceBEq, Nat.reduceBeqDiff, Nat.add_assoc nid, Nat.reduceAdd, reduceCtorEq, ↓reduceIte, Nat.reduceLeDiff, Nat.reduceBneDiff, Option.toList, ← Int.ofNat_tmod, ← Int.ofNat_tdiv, Nat.reduceLT, Int.cast_ofNat_Int, Int.reduceBEq, Int.reduceBNe, Int.reduceLT, Int.reduceLE, Int.reduceAdd, Int.reduceSub, Int.reduceMul, Int.reduceToNat, Int.reduceNeg, Int.reduceTMod, Int.reduceEq, not_false_eq_true, Int.reducePow, Int.reduceFDiv, Nat.reducePow, Nat.reduceSub, Nat.reduceMul, Nat.min_eq_left, Nat.reduceEqDiff, BEq.rfl, Int.tdiv_one, LN_succ, e1, e2, e3, e4, e5, e6, e7, e8, e9, strmC_low]
      refine ⟨by omega, ?_⟩
      refine CallX.onE (changedX s _ nl A (q + 1 + 1 + 1 + (w + 1)) (x.getD I []) [50] (by omega) (by omega) (by simp) (by omega) hA) (subH_get (by simp only [aqT, aqU, aqN, ↓seqK, ↓blkK, ↓loopK, step, stepBin, Nat.reduceBEq, Nat.reduceBeqDiff, Nat.add_assoc nid, Nat.reduceAdd, reduceCtorEq, ↓reduceIte, Nat.reduceLeDiff, Nat.reduceBneDiff, Option.toList, ← Int.ofNat_tmod, ← Int.ofNat_tdiv, Nat.reduceLT, e1, e2, e3, e4, e5, e6, e7, e8, e9])) (fun c hc => ?_)
      obtain ⟨c, q3⟩ := c
      obtain ⟨hc1, hc2⟩ := hc
      simp only [List.length_cons, List.length_nil] at hc1 hc2
      simp -dsimp only [aqT0, ROp0, aqT, aqU, aqN, ↓seqK, ↓blkK, ↓loopK, step, stepBin, Nat.reduceBEq, Nat.reduceBeqDiff, Nat.add_assoc nid, Nat.reduceAdd, reduceCtorEq, ↓reduceIte, Nat.reduceLeDiff, Nat.reduceBneDiff, Option.toList, ← Int.ofNat_tmod, ← Int.ofNat_tdiv, Nat.reduceLT, Int.cast_ofNat_Int, Int.reduceBEq, Int.reduceBNe, Int.reduceLT, Int.reduceLE, Int.reduceAdd, Int.reduceSub, Int.reduceMul, Int.reduceToNat, Int.reduceNeg, Int.reduceTMod, Int.reduceEq, not_false_eq_true, Int.reducePow, Int.reduceFDiv, Nat.reducePow, Nat.reduceSub, Nat.reduceMul, Nat.min_eq_left, Nat.reduceEqDiff, BEq.rfl, Int.tdiv_one, LN_succ, e1, e2, e3, e4, e5, e6, e7, e8, e9, strmC_low]
      refine CallX.some_go (T := 9) (nl := nl) (A := A) (p := q3) (g := fun i => [x.getD I [], [], t, c].getD i []) (by simp only [aqT, aqU, aqN, ↓seqK, ↓blkK, ↓loopK, step, stepBin, Nat.reduceBEq, Nat.reduceBeqDiff, Nat.add_assoc nid, Nat.reduceAdd, reduceCtorEq, ↓reduceIte, Nat.reduceLeDiff, Nat.reduceBneDiff, Option.toList, ← Int.ofNat_tmod, ← Int.ofNat_tdiv, Nat.reduceLT, e1, e2, e3, e4, e5, e6, e7, e8, e9]) (by simp only [aqT, aqU, aqN, ↓seqK, ↓blkK, ↓loopK, step, stepBin, Nat.reduceBEq, Nat.reduceBeqDiff, Nat.add_assoc nid, Nat.reduceAdd, reduceCtorEq, ↓reduceIte, Nat.reduceLeDiff, Nat.reduceBneDiff, Option.toList, ← Int.ofNat_tmod, ← Int.ofNat_tdiv, Nat.reduceLT, e1, e2, e3, e4, e5, e6, e7, e8, e9]) (by simp only [aqT, aqU, aqN, ↓seqK, ↓blkK, ↓loopK, step, stepBin, Nat.reduceBEq, Nat.reduceBeqDiff, Nat.add_assoc nid, Nat.reduceAdd, reduceCtorEq, ↓reduceIte, Nat.reduceLeDiff, Nat.reduceBneDiff, Option.toList, ← Int.ofNat_tmod, ← Int.ofNat_tdiv, Nat.reduceLT, e1, e2, e3, e4, e5, e6, e7, e8, e9]) (by omega) (by omega) hA (by omega) (by omega) ?_
      simp -dsimp only [aqT0, ROp0, aqT, aqU, aqN, ↓seqK, ↓blkK, ↓loopK, step, stepBin, Nat.reduceBEq, Nat.reduceBeqDiff, Nat.add_assoc nid, Nat.reduceAdd, reduceCtorEq, ↓reduceIte, Nat.reduceLeDiff, Nat.reduceBneDiff, Option.toList, ← Int.ofNat_tmod, ← Int.ofNat_tdiv, Nat.reduceLT, Int.cast_ofNat_Int, Int.reduceBEq, Int.reduceBNe, Int.reduceLT, Int.reduceLE, Int.reduceAdd, Int.reduceSub, Int.reduceMul, Int.reduceToNat, Int.reduceNeg, Int.reduceTMod, Int.reduceEq, not_false_eq_true, Int.reducePow, Int.reduceFDiv, Nat.reducePow, Nat.reduceSub, Nat.reduceMul, Nat.min_eq_left, Nat.reduceEqDiff, BEq.rfl, Int.tdiv_one, LN_succ, e1, e2, e3, e4, e5, e6, e7, e8, e9, strmC_low]
      have hb := getD_all (P := fun x : List UInt8 => x.length ≤ 20) (l := [x.getD I [], [], t, c]) (d := []) (by intro x hx; simp only [List.mem_cons, List.not_mem_nil, or_false] at hx; rcases hx with rfl | rfl | rfl | rfl; omega; simp; omega; omega) (pickI_lt A q3 (n := 4) (by omega))
      generalize ([x.getD I [], [], t, c].getD (pickI A q3 4) [] : List UInt8) = b at hb ⊢
      have hna : Narrow (x.set I b) := narrow_set hR2 I b
      have hset : ShortRows 20 (x.set I b) := (hR2.mono (by omega)).set I hb
      have hsl : (x.set I b).length = x.length := by rw [List.length_set]
      rw [getD_setS x _ hIR]
      refine ⟨by omega, ?_⟩
      generalize x.set I b = zz at *
      refine CallX.on (flip_c s _ nl A (q3 + 1) 20 (by omega) (by omega) hA (by omega)) (subH_get (by simp only [aqT, aqU, aqN, ↓seqK, ↓blkK, ↓loopK, step, stepBin, Nat.reduceBEq, Nat.reduceBeqDiff, Nat.add_assoc nid, Nat.reduceAdd, reduceCtorEq, ↓reduceIte, Nat.reduceLeDiff, Nat.reduceBneDiff, Option.toList, ← Int.ofNat_tmod, ← Int.ofNat_tdiv, Nat.reduceLT, e1, e2, e3, e4, e5, e6, e7, e8, e9])) ?_
      simp -dsimp only [aqT0, ROp0, aqT, aqU, aqN, ↓seqK, ↓blkK, ↓loopK, step, stepBin, Nat.reduceBEq, Nat.reduceBeqDiff, Nat.add_assoc nid, Nat.reduceAdd, reduceCtorEq, ↓reduceIte, Nat.reduceLeDiff, Nat.reduceBneDiff, Option.toList, ← Int.ofNat_tmod, ← Int.ofNat_tdiv, Nat.reduceLT, Int.cast_ofNat_Int, Int.reduceBEq, Int.reduceBNe, Int.reduceLT, Int.reduceLE, Int.reduceAdd, Int.reduceSub, Int.reduceMul, Int.reduceToNat, Int.reduceNeg, Int.reduceTMod, Int.reduceEq, not_false_eq_true, Int.reducePow, Int.reduceFDiv, Nat.reducePow, Nat.reduceSub, Nat.reduceMul, Nat.min_eq_left, Nat.reduceEqDiff, BEq.rfl, Int.tdiv_one, LN_succ, e1, e2, e3, e4, e5, e6, e7, e8, e9, strmC_low]
      refine S2.intro (fun h9 => ?_) (fun h9 => ?_) <;> simp -dsimp only [aqT0, ROp0, aqT, aqU, aqN, ↓seqK, ↓blkK, ↓loopK, step, stepBin, Nat.reduceBEq, Nat.reduceBeqDiff, Nat.add_assoc nid, Nat.reduceAdd, reduceCtorEq, ↓reduceIte, Nat.reduceLeDiff, Nat.reduceBneDiff, Option.toList, ← Int.ofNat_tmod, ← Int.ofNat_tdiv, Nat.reduceLT, Int.cast_ofNat_Int, Int.reduceBEq, Int.reduceBNe, Int.reduceLT, Int.reduceLE, Int.reduceAdd, Int.reduceSub, Int.reduceMul, Int.reduceToNat, Int.reduceNeg, Int.reduceTMod, Int.reduceEq, not_false_eq_true, Int.reducePow, Int.reduceFDiv, Nat.reducePow, Nat.reduceSub, Nat.reduceMul, Nat.min_eq_left, Nat.reduceEqDiff, BEq.rfl, Int.tdiv_one, LN_succ, e1, e2, e3, e4, e5, e6, e7, e8, e9, strmC_low]
      · refine CallX.onE (oddI_c s _ nl A (q3 + 1 + 1) 1 100 (by omega) (by omega) hA (by omega) (by omega) (by omega)) (subH_get (by simp only [aqT, aqU, aqN, ↓seqK, ↓blkK, ↓loopK, step, stepBin, Nat.reduceBEq, Nat.reduceBeqDiff, Nat.add_assoc nid, Nat.reduceAdd, reduceCtorEq, ↓reduceIte, Nat.reduceLeDiff, Nat.reduceBneDiff, Option.toList, ← Int.ofNat_tmod, ← Int.ofNat_tdiv, Nat.reduceLT, e1, e2, e3, e4, e5, e6, e7, e8, e9])) (fun z hz => ?_)
        simp -dsimp only [aqT0, ROp0, aqT, aqU, aqN, ↓seqK, ↓blkK, ↓loopK, step, stepBin, Nat.reduceBEq, Nat.reduceBeqDiff, Nat.add_assoc nid, Nat.reduceAdd, reduceCtorEq, ↓reduceIte, Nat.reduceLeDiff, Nat.reduceBneDiff, Option.toList, ← Int.ofNat_tmod, ← Int.ofNat_tdiv, Nat.reduceLT, Int.cast_ofNat_Int, Int.reduceBEq, Int.reduceBNe, Int.reduceLT, Int.reduceLE, Int.reduceAdd, Int.reduceSub, Int.reduceMul, Int.reduceToNat, Int.reduceNeg, Int.reduceTMod, Int.reduceEq, not_false_eq_true, Int.reducePow, Int.reduceFDiv, Nat.reducePow, Nat.reduceSub, Nat.reduceMul, Nat.min_eq_left, Nat.reduceEqDiff, BEq.rfl, Int.tdiv_one, LN_succ, e1, e2, e3, e4, e5, e6, e7, e8, e9, strmC_low]
        refine EndOK.mk ((z, zz), q3 + 1 + 1 + 2) ⟨by simp only; omega, hset, by simp only; omega, hna⟩ ?_
        refine RetOK.go [(nid, nid + 8)] [] (.inl rfl) ?_
        simp [a22, cvT, step, res, e1, e2, e3, e4, e5, e6, e7, e8, e9, strmC, arrS, hsl, -List.getD_eq_getElem?_getD]
      · skip
        refine EndOK.mk (((w : Int), zz), q3 + 1 + 1) ⟨by simp only; omega, hset, by simp only; omega, hna⟩ ?_
        refine RetOK.go [(nid, nid + 8)] [] (.inl rfl) ?_
        simp [a22, cvT, step, res, e1, e2, e3, e4, e5, e6, e7, e8, e9, strmC, arrS, hsl, -List.getD_eq_getElem?_getD]
    · skip
      refine CallX.on (flip_c s _ nl A (q + 1 + 1) 20 (by omega) (by omega) hA (by omega)) (subH_get (by simp only [aqT, aqU, aqN, ↓seqK, ↓blkK, ↓loopK, step, stepBin, Nat.reduceBEq, Nat.reduceBeqDiff, Nat.add_assoc nid, Nat.reduceAdd, reduceCtorEq, ↓reduceIte, Nat.reduceLeDiff, Nat.reduceBneDiff, Option.toList, ← Int.ofNat_tmod, ← Int.ofNat_tdiv, Nat.reduceLT, e1, e2, e3, e4, e5, e6, e7, e8, e9])) ?_
      simp -dsimp only [aqT0, ROp0, aqT, aqU, aqN, ↓seqK, ↓blkK, ↓loopK, step, stepBin, Nat.reduceBEq, Nat.reduceBeqDiff, Nat.add_assoc nid, Nat.reduceAdd, reduceCtorEq, ↓reduceIte, Nat.reduceLeDiff, Nat.reduceBneDiff, Option.toList, ← Int.ofNat_tmod, ← Int.ofNat_tdiv, Nat.reduceLT, Int.cast_ofNat_Int, Int.reduceBEq, Int.reduceBNe, Int.reduceLT, Int.reduceLE, Int.reduceAdd, Int.reduceSub, Int.reduceMul, Int.reduceToNat, Int.reduceNeg, Int.reduceTMod, Int.reduceEq, not_false_eq_true, Int.reducePow, Int.reduceFDiv, Nat.reducePow, Nat.reduceSub, Nat.reduceMul, Nat.min_eq_left, Nat.reduceEqDiff, BEq.rfl, Int.tdiv_one, LN_succ, e1, e2, e3, e4, e5, e6, e7, e8, e9, strmC_low]
      refine S2.intro (fun h9 => ?_) (fun h9 => ?_) <;> simp -dsimp only [aqT0, ROp0, aqT, aqU, aqN, ↓seqK, ↓blkK, ↓loopK, step, stepBin, Nat.reduceBEq, Nat.reduceBeqDiff, Nat.add_assoc nid, Nat.reduceAdd, reduceCtorEq, ↓reduceIte, Nat.reduceLeDiff, Nat.reduceBneDiff, Option.toList, ← Int.ofNat_tmod, ← Int.ofNat_tdiv, Nat.reduceLT, Int.cast_ofNat_Int, Int.reduceBEq, Int.reduceBNe, Int.reduceLT, Int.reduceLE, Int.reduceAdd, Int.reduceSub, Int.reduceMul, Int.reduceToNat, Int.reduceNeg, Int.reduceTMod, Int.reduceEq, not_false_eq_true, Int.reducePow, Int.reduceFDiv, Nat.reducePow, Nat.reduceSub, Nat.reduceMul, Nat.min_eq_left, Nat.reduceEqDiff, BEq.rfl, Int.tdiv_one, LN_succ, e1, e2, e3, e4, e5, e6, e7, e8, e9, strmC_low]
      · refine CallX.onE (oddI_c s _ nl A (q + 1 + 1 + 1) 1 100 (by omega) (by omega) hA (by omega) (by omega) (by omega)) (subH_get (by simp only [aqT, aqU, aqN, ↓seqK, ↓blkK, ↓loopK, step, stepBin, Nat.reduceBEq, Nat.reduceBeqDiff, Nat.add_assoc nid, Nat.reduceAdd, reduceCtorEq, ↓reduceIte, Nat.reduceLeDiff, Nat.reduceBneDiff, Option.toList, ← Int.ofNat_tmod, ← Int.ofNat_tdiv, Nat.reduceLT, e1, e2, e3, e4, e5, e6, e7, e8, e9])) (fun z hz => ?_)
        simp -dsimp only [aqT0, ROp0, aqT, aqU, aqN, ↓seqK, ↓blkK, ↓loopK, step, stepBin, Nat.reduceBEq, Nat.reduceBeqDiff, Nat.add_assoc nid, Nat.reduceAdd, reduceCtorEq, ↓reduceIte, Nat.reduceLeDiff, Nat.reduceBneDiff, Option.toList, ← Int.ofNat_tmod, ← Int.ofNat_tdiv, Nat.reduceLT, Int.cast_ofNat_Int, Int.reduceBEq, Int.reduceBNe, Int.reduceLT, Int.reduceLE, Int.reduceAdd, Int.reduceSub, Int.reduceMul, Int.reduceToNat, Int.reduceNeg, Int.reduceTMod, Int.reduceEq, not_false_eq_true, Int.reducePow, Int.reduceFDiv, Nat.reducePow, Nat.reduceSub, Nat.reduceMul, Nat.min_eq_left, Nat.reduceEqDiff, BEq.rfl, Int.tdiv_one, LN_succ, e1, e2, e3, e4, e5, e6, e7, e8, e9, strmC_low]
        refine EndOK.mk ((z, x), q + 1 + 1 + 1 + 2) ⟨by simp only; omega, hR2.mono (by omega), by simp only; omega, narrow_short hR2⟩ ?_
        refine RetOK.go [(nid, nid + 8)] [] (.inl rfl) ?_
        simp [a22, cvT, step, res, e1, e2, e3, e4, e5, e6, e7, e8, e9, strmC, arrS, -List.getD_eq_getElem?_getD]
      · skip
        refine EndOK.mk (((w : Int), x), q + 1 + 1 + 1) ⟨by simp only; omega, hR2.mono (by omega), by simp only; omega, narrow_short hR2⟩ ?_
        refine RetOK.go [(nid, nid + 8)] [] (.inl rfl) ?_
        simp [a22, cvT, step, res, e1, e2, e3, e4, e5, e6, e7, e8, e9, strmC, arrS, -List.getD_eq_getElem?_getD]
set_option maxHeartbeats 4000000 in
theorem rightPatternsX (s nid : Nat) (nl : Bool) (A : List Int) (p most : Nat) (h : s < nid) (hp : p ≤ 1099490000000) (hA : A.length ≤ 17592186044416) (hm : most ≤ 1000) :
    ∃ x : (Int × List (List UInt8)) × Nat, (patV x.1.1 x.1.2 = 0 ∧ x.1.2.length ≤ most + 1 ∧ x.2 ≤ p + 48000 ∧ (x.1.1 ≤ 6 ∨ x.1.2.length ≤ 1)) ∧ ACall Tryd.prog 12 [.ptr s 0, .int .i64 (most : Nat)] [(s, strmC nl A p)] nid (.tup [.int .i64 x.1.1, .sl nid 0 x.1.2.length]) [(s, strmC nl A x.2), (nid, arrS x.1.2)] := by
  obtain ⟨e1, e2, e3, e4, e5, e6, e7, e8, e9⟩ := id_all h
  refine acall_ex c12 (by simp [a12]) ?_
  simp -dsimp only [aqT0, ROp0, aqT, aqU, aqN, ↓seqK, ↓blkK, ↓loopK, step, stepBin, Nat.reduceBEq, Nat.reduceBeqDiff, Nat.add_assoc nid, Nat.reduceAdd, reduceCtorEq, ↓reduceIte, Nat.reduceLeDiff, Nat.reduceBneDiff, Option.toList, ← Int.ofNat_tmod, ← Int.ofNat_tdiv, Nat.reduceLT, Int.cast_ofNat_Int, Int.reduceBEq, Int.reduceBNe, Int.reduceLT, Int.reduceLE, Int.reduceAdd, Int.reduceSub, Int.reduceMul, Int.reduceToNat, Int.reduceNeg, Int.reduceTMod, Int.reduceEq, not_false_eq_true, Int.reducePow, Int.reduceFDiv, Nat.reducePow, Nat.reduceSub, Nat.reduceMul, Nat.min_eq_left, Nat.reduceEqDiff, BEq.rfl, Int.tdiv_one, LN_succ, e1, e2, e3, e4, e5, e6, e7, e8, e9, a12, strmC_low]
  refine LP0.mkP (fun x : Nat × Nat => x.1 ≤ 6 ∧ x.2 ≤ p + 8000 * x.1) (fun x => ⟨[(8, .int .i64 x.1), (0, .ptr s 0), (1, .int .i64 (most : Nat))], [(s, strmC nl A x.2)], nid + 200, nid⟩) (fun x => 7 - x.1) (0, p) ⟨by omega, by omega⟩ (Cov.go [] [] ?_) (fun x hx => ?_)
  · simp [cvT, step, res, e1, e2, e3, e4, e5, e6, e7, e8, e9, strmC]
  obtain ⟨k, q⟩ := x
  obtain ⟨hk, hq⟩ := hx
  simp only at hk hq
  simp -dsimp only [aqT0, ROp0, aqT, aqU, aqN, ↓seqK, ↓blkK, ↓loopK, step, stepBin, Nat.reduceBEq, Nat.reduceBeqDiff, Nat.add_assoc nid, Nat.reduceAdd, reduceCtorEq, ↓reduceIte, Nat.reduceLeDiff, Nat.reduceBneDiff, Option.toList, ← Int.ofNat_tmod, ← Int.ofNat_tdiv, Nat.reduceLT, Int.cast_ofNat_Int, Int.reduceBEq, Int.reduceBNe, Int.reduceLT, Int.reduceLE, Int.reduceAdd, Int.reduceSub, Int.reduceMul, Int.reduceToNat, Int.reduceNeg, Int.reduceTMod, Int.reduceEq, not_false_eq_true, Int.reducePow, Int.reduceFDiv, Nat.reducePow, Nat.reduceSub, Nat.reduceMul, Nat.min_eq_left, Nat.reduceEqDiff, BEq.rfl, Int.tdiv_one, LN_succ, e1, e2, e3, e4, e5, e6, e7, e8, e9, strmC_low]
  refine S2.dec (fun h2 => ?_) (fun h2 => ?_) <;> simp -dsimp only [aqT0, ROp0, aqT, aqU, aqN, ↓seqK, ↓blkK, ↓loopK, step, stepBin, Nat.reduceBEq, Nat.reduceBeqDiff, Nat.add_assoc nid, Nat.reduceAdd, reduceCtorEq, ↓reduceIte, Nat.reduceLeDiff, Nat.reduceBneDiff, Option.toList, ← Int.ofNat_tmod, ← Int.ofNat_tdiv, Nat.reduceLT, Int.cast_ofNat_Int, Int.reduceBEq, Int.reduceBNe, Int.reduceLT, Int.reduceLE, Int.reduceAdd, Int.reduceSub, Int.reduceMul, Int.reduceToNat, Int.reduceNeg, Int.reduceTMod, Int.reduceEq, not_false_eq_true, Int.reducePow, Int.reduceFDiv, Nat.reducePow, Nat.reduceSub, Nat.reduceMul, Nat.min_eq_left, Nat.reduceEqDiff, BEq.rfl, Int.tdiv_one, LN_succ, e1, e2, e3, e4, e5, e6, e7, e8, e9, strmC_low]
  · refine CallX.onE (patternsX s _ nl A q most (by omega) (by omega) hA hm) (subH_get (by simp only [aqT, aqU, aqN, ↓seqK, ↓blkK, ↓loopK, step, stepBin, Nat.reduceBEq, Nat.reduceBeqDiff, Nat.add_assoc nid, Nat.reduceAdd, reduceCtorEq, ↓reduceIte, Nat.reduceLeDiff, Nat.reduceBneDiff, Option.toList, ← Int.ofNat_tmod, ← Int.ofNat_tdiv, Nat.reduceLT, e1, e2, e3, e4, e5, e6, e7, e8, e9])) (fun x hx => ?_)
    obtain ⟨⟨n, v⟩, r⟩ := x
    obtain ⟨hv, hrow, hr, hna⟩ := hx
    simp only at hv hrow hr hna
    unfold arrS
    simp -dsimp only [aqT0, ROp0, aqT, aqU, aqN, ↓seqK, ↓blkK, ↓loopK, step, stepBin, Nat.reduceBEq, Nat.reduceBeqDiff, Nat.add_assoc nid, Nat.reduceAdd, reduceCtorEq, ↓reduceIte, Nat.reduceLeDiff, Nat.reduceBneDiff, Option.toList, ← Int.ofNat_tmod, ← Int.ofNat_tdiv, Nat.reduceLT, Int.cast_ofNat_Int, Int.reduceBEq, Int.reduceBNe, Int.reduceLT, Int.reduceLE, Int.reduceAdd, Int.reduceSub, Int.reduceMul, Int.reduceToNat, Int.reduceNeg, Int.reduceTMod, Int.reduceEq, not_false_eq_true, Int.reducePow, Int.reduceFDiv, Nat.reducePow, Nat.reduceSub, Nat.reduceMul, Nat.min_eq_left, Nat.reduceEqDiff, BEq.rfl, Int.tdiv_one, LN_succ, e1, e2, e3, e4, e5, e6, e7, e8, e9, strmC_low]
    refine CallX.lent [nid + 212] (fun nl' => by
      simp only [lends, lend, aqT, aqU, aqN, ↓seqK, ↓blkK, ↓loopK, step, stepBin, Nat.reduceBEq, Nat.reduceBeqDiff, Nat.add_assoc nid, Nat.reduceAdd, reduceCtorEq, ↓reduceIte, Nat.reduceLeDiff, Nat.reduceBneDiff, Option.toList, ← Int.ofNat_tmod, ← Int.ofNat_tdiv, Nat.reduceLT, Int.cast_ofNat_Int, Int.reduceBEq, Int.reduceBNe, Int.reduceLT, Int.reduceLE, Int.reduceAdd, Int.reduceSub, Int.reduceMul, Int.reduceToNat, Int.reduceNeg, Int.reduceTMod, Int.reduceEq, not_false_eq_true, Int.reducePow, Int.reduceFDiv, Nat.reducePow, Nat.reduceSub, Nat.reduceMul, Nat.min_eq_left, Nat.reduceEqDiff, BEq.rfl, Int.tdiv_one, LN_succ, e1, e2, e3, e4, e5, e6, e7, e8, e9]
      exact patternsFault_all (nl' _) n v _ (by omega) (hrow.mono (by omega))) rfl rfl (by simp only [List.mem_singleton, forall_eq, aqT, aqU, aqN, ↓seqK, ↓blkK, ↓loopK, step, stepBin, Nat.reduceBEq, Nat.reduceBeqDiff, Nat.add_assoc nid, Nat.reduceAdd, reduceCtorEq, ↓reduceIte, Nat.reduceLeDiff, Nat.reduceBneDiff, Option.toList, ← Int.ofNat_tmod, ← Int.ofNat_tdiv, Nat.reduceLT, Int.cast_ofNat_Int, Int.reduceBEq, Int.reduceBNe, Int.reduceLT, Int.reduceLE, Int.reduceAdd, Int.reduceSub, Int.reduceMul, Int.reduceToNat, Int.reduceNeg, Int.reduceTMod, Int.reduceEq, not_false_eq_true, Int.reducePow, Int.reduceFDiv, Nat.reducePow, Nat.reduceSub, Nat.reduceMul, Nat.min_eq_left, Nat.reduceEqDiff, BEq.rfl, Int.tdiv_one, LN_succ]) ?_
    simp -dsimp only [aqT0, ROp0, aqT, aqU, aqN, ↓seqK, ↓blkK, ↓loopK, step, stepBin, Nat.reduceBEq, Nat.reduceBeqDiff, Nat.add_assoc nid, Nat.reduceAdd, reduceCtorEq, ↓reduceIte, Nat.reduceLeDiff, Nat.reduceBneDiff, Option.toList, ← Int.ofNat_tmod, ← Int.ofNat_tdiv, Nat.reduceLT, Int.cast_ofNat_Int, Int.reduceBEq, Int.reduceBNe, Int.reduceLT, Int.reduceLE, Int.reduceAdd, Int.reduceSub, Int.reduceMul, Int.reduceToNat, Int.reduceNeg, Int.reduceTMod, Int.reduceEq, not_false_eq_true, Int.reducePow, Int.reduceFDiv, Nat.reducePow, Nat.reduceSub, Nat.reduceMul, Nat.min_eq_left, Nat.reduceEqDiff, BEq.rfl, Int.tdiv_one, LN_succ, e1, e2, e3, e4, e5, e6, e7, e8, e9, strmC_low]
    refine S2.intro (fun h3 => ?_) (fun h3 => ?_) <;> simp -dsimp only [aqT0, ROp0, aqT, aqU, aqN, ↓seqK, ↓blkK, ↓loopK, step, stepBin, Nat.reduceBEq, Nat.reduceBeqDiff, Nat.add_assoc nid, Nat.reduceAdd, reduceCtorEq, ↓reduceIte, Nat.reduceLeDiff, Nat.reduceBneDiff, Option.toList, ← Int.ofNat_tmod, ← Int.ofNat_tdiv, Nat.reduceLT, Int.cast_ofNat_Int, Int.reduceBEq, Int.reduceBNe, Int.reduceLT, Int.reduceLE, Int.reduceAdd, Int.reduceSub, Int.reduceMul, Int.reduceToNat, Int.reduceNeg, Int.reduceTMod, Int.reduceEq, not_false_eq_true, Int.reducePow, Int.reduceFDiv, Nat.reducePow, Nat.reduceSub, Nat.reduceMul, Nat.min_eq_left, Nat.reduceEqDiff, BEq.rfl, Int.tdiv_one, LN_succ, e1, e2, e3, e4, e5, e6, e7, e8, e9, strmC_low]
    · refine EndOK.mk ((n, v), r) ⟨by simpa using h3, hv, by simp only; omega, narrow_pat (by simpa using h3) hna⟩ ?_
      refine RetOK.go [(nid, nid + 212)] [] (.inl rfl) ?_
      simp [a12, cvT, step, res, e1, e2, e3, e4, e5, e6, e7, e8, e9, strmC, arrS]
    · refine ⟨by unfold inI64; omega, (k + 1, r), ⟨⟨by simp only; omega, by simp only; omega⟩, by simp only; omega⟩, Cov.go [] [] ?_⟩
      simp [cvT, step, res, e1, e2, e3, e4, e5, e6, e7, e8, e9, strmC]
  · refine EndOK.mk ((1, []), q) ⟨by simp only; decide, by simp, by simp only; omega, .inr (by simp)⟩ ?_
    refine RetOK.go [] [(nid, 1)] (.inl rfl) ?_
    simp [a12, cvT, step, res, e1, e2, e3, e4, e5, e6, e7, e8, e9, strmC, arrS]
end Go.Proofs.YthcldfmlfjomfaaDoor
namespace Go.Proofs.YthcldfmlfjomfaaDoor
open Go.RowKit
def stT : List (Nat × Nat) := [(1, 0), (1, 2), (3, 9), (4, 5), (4, 5), (6, 8), (6, 7), (4, 8), (1, 2), (10, 0), (11, 12), (11, 12), (13, 15), (13, 14), (11, 15), (1, 2)]
def nextN (s t : Nat) : Nat := if t = 0 then (stT.getD s (0, 0)).1 else (stT.getD s (0, 0)).2
def stCells : List PV := stT.flatMap fun x => [.int .i64 (x.1 : Nat), .int .i64 (x.2 : Nat)]
theorem stCells_get : ∀ s, s < 16 → ∀ t, t < 2 → ∃ r, stCells.drop (s * 2 + t) = .int .i64 (nextN s t : Nat) :: r := by
  intro s hs t ht
  rcases t with _ | _ | t
  · rcases s with _ | _ | _ | _ | _ | _ | _ | _ | _ | _ | _ | _ | _ | _ | _ | _ | s <;> first | exact ⟨_, rfl⟩ | omega
  · rcases s with _ | _ | _ | _ | _ | _ | _ | _ | _ | _ | _ | _ | _ | _ | _ | _ | s <;> first | exact ⟨_, rfl⟩ | omega
  · omega
theorem next_st (s t nid : Nat) (hs : s < 16) (ht : t < 2) : ACall Tryd.prog 170 [.int .i64 (s : Nat), .int .i64 (t : Nat)] [] nid (.int .i64 (nextN s t : Nat)) [] := by
  refine acall_run c170 (by simp [a170]) ?_
  obtain ⟨r, hr⟩ := stCells_get s hs t ht
  have e : stCells = [.int .i64 1, .int .i64 0, .int .i64 1, .int .i64 2, .int .i64 3, .int .i64 9, .int .i64 4, .int .i64 5, .int .i64 4, .int .i64 5, .int .i64 6, .int .i64 8, .int .i64 6, .int .i64 7, .int .i64 4, .int .i64 8,
    .int .i64 1, .int .i64 2, .int .i64 10, .int .i64 0, .int .i64 11, .int .i64 12, .int .i64 11, .int .i64 12, .int .i64 13, .int .i64 15, .int .i64 13, .int .i64 14, .int .i64 11, .int .i64 15, .int .i64 1, .int .i64 2] := rfl
  rw [e] at hr
  simp -dsimp only [a170, aqT, aqU, aqN, ↓seqK, ↓blkK, ↓loopK, step, stepBin, Nat.reduceBEq, Nat.reduceBeqDiff, Nat.add_assoc nid, Nat.reduceAdd, reduceCtorEq, ↓reduceIte, Nat.reduceLeDiff, Nat.reduceBneDiff, Option.toList, ← Int.ofNat_tmod, ← Int.ofNat_tdiv, Nat.reduceLT]
  refine ⟨by omega, by omega, ?_⟩
  rw [Nat.mul_one, hr]
  simp -dsimp only [aqT, aqU, aqN, ↓seqK, ↓blkK, ↓loopK, step, stepBin, Nat.reduceBEq, Nat.reduceBeqDiff, Nat.add_assoc nid, Nat.reduceAdd, reduceCtorEq, ↓reduceIte, Nat.reduceLeDiff, Nat.reduceBneDiff, Option.toList, ← Int.ofNat_tmod, ← Int.ofNat_tdiv, Nat.reduceLT]
  refine RetOK.pure (.inl rfl) rfl ?_
  simp [cvT, step, res]
def tlook : List (Nat × List UInt8) → MK → Option (List UInt8)
  | [], _ => none
  | (k, v) :: r, q => if q = .i (k : Nat) then some v else tlook r q
def pIn (a t : Nat) (x : List Nat × List (Nat × List UInt8)) : List Nat × List (Nat × List UInt8) :=
  if (tlook x.2 (.i (nextN a t : Nat))).isSome then x else (x.1 ++ [nextN a t], (nextN a t, (tlook x.2 (.i (a : Nat))).getD [] ++ [UInt8.ofNat (48 + t)]) :: x.2)
def pOut (x : List Nat × List (Nat × List UInt8)) : List Nat × List (Nat × List UInt8) := match x.1 with
  | [] => x
  | a :: r => pIn a 1 (pIn a 0 (r, x.2))
def pAt (s : Nat) : Nat → List Nat × List (Nat × List UInt8)
  | 0 => ([s], [(s, [])])
  | n + 1 => pOut (pAt s n)
def pathV (s t : Nat) : List UInt8 := (tlook (pAt s 16).2 (.i (t : Nat))).getD []
theorem pAt_ok : ∀ s, s < 16 → ((pAt s 16).1 = [] ∧ ∀ n, n < 17 → ((pAt s n).1.all (· < 16) = true ∧ (pAt s n).1.length ≤ 16 ∧ (pAt s n).2.all (fun x => decide (x.2.length ≤ 16)) = true)) := by decide
def pInTo (a : Nat) (x : List Nat × List (Nat × List UInt8)) : Nat → List Nat × List (Nat × List UInt8)
  | 0 => x
  | k + 1 => pIn a k (pInTo a x k)
theorem pInTo_len (a : Nat) (x : List Nat × List (Nat × List UInt8)) (k : Nat) : (pInTo a x k).1.length ≤ x.1.length + k := by
  induction k with
  | zero => exact Nat.le_refl _
  | succ k ih =>
    unfold pInTo pIn
    split
    · omega
    · simp; omega
theorem tlook_len {L : Nat} : ∀ {T : List (Nat × List UInt8)}, T.all (fun x => decide (x.2.length ≤ L)) = true → ∀ q, ((tlook T q).getD []).length ≤ L
  | [], _, q => by simp [tlook]
  | (k, v) :: r, h, q => by
    simp only [List.all_cons, Bool.and_eq_true, decide_eq_true_eq] at h
    unfold tlook
    split
    · exact h.1
    · exact tlook_len h.2 q
theorem pInTo_vals {L : Nat} (a : Nat) {x : List Nat × List (Nat × List UInt8)} (h : x.2.all (fun x => decide (x.2.length ≤ L)) = true) : ∀ k, (pInTo a x k).2.all (fun x => decide (x.2.length ≤ L + k)) = true
  | 0 => h
  | k + 1 => by
    have ih := pInTo_vals a h k
    have ih' : (pInTo a x k).2.all (fun x => decide (x.2.length ≤ L + (k + 1))) = true := by
      rw [List.all_eq_true] at ih ⊢
      intro y hy
      have := ih y hy
      simp only [decide_eq_true_eq] at this ⊢
      omega
    unfold pInTo pIn
    split
    · exact ih'
    · simp only [List.all_cons, Bool.and_eq_true, decide_eq_true_eq, ih', and_true, List.length_append, List.length_singleton]
      have := tlook_len ih (.i (a : Nat))
      omega
theorem optD (o : Option (List UInt8)) : (bif o.isSome then o.getD [] else []) = o.getD [] := by cases o <;> rfl
theorem utf8_bit {k : Nat} (hk : k < 2) : (Utf8.encode (IntKind.i32.wrap (48 + (k : Int)))).data.toList = [UInt8.ofNat (48 + k)] := by
  have : k = 0 ∨ k = 1 := by omega
  rcases this with rfl | rfl <;> rfl
theorem getD_snocN (l : List Nat) (x i : Nat) : (l ++ [x]).getD i 0 = if i < l.length then l.getD i 0 else if i = l.length then x else 0 := by
  simp only [List.getD_eq_getElem?_getD, List.getElem?_append]
  split
  · rfl
  · split
    · simp [*]
    · rw [List.getElem?_eq_none (by simp; omega)]; rfl
def mapT (T : List (Nat × List UInt8)) : Option ABlk := some (.map (.i .i64) (fun q => (tlook T q).isSome) (.s fun q => (tlook T q).getD []))
set_option maxHeartbeats 1000000 in
theorem path_st (s t nid : Nat) (hs : s < 16) : ACall Tryd.prog 133 [.int .i64 (s : Nat), .int .i64 (t : Nat)] [] nid (.str (pathV s t)) [] := by
  refine acall_run c133 (by simp [a133]) ?_
  simp -dsimp only [a133, aqT, aqU, aqN, ↓seqK, ↓blkK, ↓loopK, step, stepBin, Nat.reduceBEq, Nat.reduceBeqDiff, Nat.add_assoc nid, Nat.reduceAdd, reduceCtorEq, ↓reduceIte, Nat.reduceLeDiff, Nat.reduceBneDiff, Option.toList, ← Int.ofNat_tmod, ← Int.ofNat_tdiv, Nat.reduceLT, mNew, mkKey, keyIn, mPut]
  refine LP.mkP (fun x : Nat × Nat × (Nat → Int) => x.1 ≤ 16) (fun x => ⟨[(6, .sl (nid + 4) x.2.1 (pAt s x.1).1.length), (5, .mp (nid + 8)), (1, .int .i64 (t : Nat))],
    [(nid + 4, some (.arr 3 (x.2.1 + (pAt s x.1).1.length) [.i .i64 fun i => if i < x.2.1 then x.2.2 i else (((pAt s x.1).1.getD (i - x.2.1) 0 : Nat) : Int)])), (nid + 8, mapT (pAt s x.1).2)], nid + 100, nid⟩)
    (fun x => 17 - x.1) (0, 0, fun _ => 0) (by simp) (Cov.go [(nid + 4, nid + 28), (nid + 8, nid + 4)] [] ?_) (fun x hx => ?_)
  · simp [cvT, step, res, pAt, mapT]
    refine ⟨ColEq.i fun i hi => ?_, fun q hq => ?_⟩
    · have : i = 0 := by omega
      subst this; rfl
    · unfold tlook tlook
      split <;> simp [*, mVal]
  obtain ⟨n, d, g⟩ := x
  simp only at hx
  obtain ⟨ok1, ok2⟩ := pAt_ok s hs
  have ok := ok2 n (by omega)
  have hst : pAt s (n + 1) = pOut (pAt s n) := rfl
  unfold mapT
  simp -dsimp only [aqT, aqU, aqN, ↓seqK, ↓blkK, ↓loopK, step, stepBin, Nat.reduceBEq, Nat.reduceBeqDiff, Nat.add_assoc nid, Nat.reduceAdd, reduceCtorEq, ↓reduceIte, Nat.reduceLeDiff, Nat.reduceBneDiff, Option.toList, ← Int.ofNat_tmod, ← Int.ofNat_tdiv, Nat.reduceLT]
  refine S2.dec (fun h1 => ?_) (fun h1 => ?_)
  · have hn : n < 16 := by
      rcases Nat.lt_or_ge n 16 with h | h
      · exact h
      · have : n = 16 := by omega
        subst this; rw [ok1] at h1; simp at h1
    rcases hQ : pAt s n with ⟨Q, T⟩
    rw [hQ] at ok hst h1
    rcases Q with _ | ⟨a, r⟩
    · simp at h1
    simp only [List.all_cons, Bool.and_eq_true, decide_eq_true_eq, List.length_cons] at ok
    obtain ⟨⟨ha, hr⟩, hlen, hvl⟩ := ok
    have hst : pAt s (n + 1) = pInTo a (r, T) 2 := hst
    simp -dsimp only [aqT, aqU, aqN, ↓seqK, ↓blkK, ↓loopK, step, stepBin, Nat.reduceBEq, Nat.reduceBeqDiff, Nat.add_assoc nid, Nat.reduceAdd, reduceCtorEq, ↓reduceIte, Nat.reduceLeDiff, Nat.reduceBneDiff, Option.toList, ← Int.ofNat_tmod, ← Int.ofNat_tdiv, Nat.reduceLT]
    refine ⟨by omega, by omega, LP.mkP (fun x : Nat × Nat × (Nat → Int) => x.1 ≤ 2) (fun x => ⟨[(25, .int .i64 (x.1 : Nat)), (7, .int .i64 (a : Nat)), (6, .sl (nid + 4) x.2.1 (pInTo a (r, T) x.1).1.length), (5, .mp (nid + 8)), (1, .int .i64 (t : Nat))],
      [(nid + 4, some (.arr 3 (x.2.1 + (pInTo a (r, T) x.1).1.length) [.i .i64 fun i => if i < x.2.1 then x.2.2 i else (((pInTo a (r, T) x.1).1.getD (i - x.2.1) 0 : Nat) : Int)])), (nid + 8, mapT (pInTo a (r, T) x.1).2)], nid + 200, nid⟩)
      (fun x => 3 - x.1) (0, d + 1, fun i => if i < d then g i else (((a :: r).getD (i - d) 0 : Nat) : Int)) (by simp) (Cov.go [] [] ?_) (fun y hy => ?_)⟩
    · simp [cvT, step, res, pInTo, mapT, -List.getD_eq_getElem?_getD]
      refine ⟨⟨by omega, ColEq.i fun i hi => ?_⟩, by simp⟩
      by_cases hid : i < d + 1
      · rw [if_pos hid]
      · rw [if_neg hid, if_neg (by omega), show i - d = i - (d + 1) + 1 from by omega]
        rfl
    obtain ⟨k, d2, g2⟩ := y
    simp only at hy
    unfold mapT
    have hql := pInTo_len a (r, T) k
    have hqv := pInTo_vals a (x := (r, T)) hvl k
    rcases hX : pInTo a (r, T) k with ⟨Q2, T2⟩
    have hk1 : pInTo a (r, T) (k + 1) = pIn a k (Q2, T2) := by rw [← hX]; rfl
    rw [hX] at hql hqv
    simp only at hql hqv
    have hsl := tlook_len hqv (.i (a : Nat))
    simp -dsimp only [aqT, aqU, aqN, ↓seqK, ↓blkK, ↓loopK, step, stepBin, Nat.reduceBEq, Nat.reduceBeqDiff, Nat.add_assoc nid, Nat.reduceAdd, reduceCtorEq, ↓reduceIte, Nat.reduceLeDiff, Nat.reduceBneDiff, Option.toList, ← Int.ofNat_tmod, ← Int.ofNat_tdiv, Nat.reduceLT, hX]
    refine S2.dec (fun h2 => ?_) (fun h2 => ?_)
    · simp -dsimp only [aqT, aqU, aqN, ↓seqK, ↓blkK, ↓loopK, step, stepBin, Nat.reduceBEq, Nat.reduceBeqDiff, Nat.add_assoc nid, Nat.reduceAdd, reduceCtorEq, ↓reduceIte, Nat.reduceLeDiff, Nat.reduceBneDiff, Option.toList, ← Int.ofNat_tmod, ← Int.ofNat_tdiv, Nat.reduceLT]
      refine CallO.pure (next_st a k _ ha (by omega)) ?_
      simp -dsimp only [aqT, aqU, aqN, ↓seqK, ↓blkK, ↓loopK, step, stepBin, Nat.reduceBEq, Nat.reduceBeqDiff, Nat.add_assoc nid, Nat.reduceAdd, reduceCtorEq, ↓reduceIte, Nat.reduceLeDiff, Nat.reduceBneDiff, Option.toList, ← Int.ofNat_tmod, ← Int.ofNat_tdiv, Nat.reduceLT, mkKey, keyIn, mGet, optD]
      refine S2.intro (fun h3 => ?_) (fun h3 => ?_)
      · have h3' : (tlook T2 (.i (nextN a k : Nat))).isSome = false := by simpa using h3
        rw [show pIn a k (Q2, T2) = (Q2 ++ [nextN a k], (nextN a k, (tlook T2 (.i (a : Nat))).getD [] ++ [UInt8.ofNat (48 + k)]) :: T2) from by unfold pIn; rw [if_neg (by rw [h3']; simp)]] at hk1
        simp -dsimp only [aqT, aqU, aqN, ↓seqK, ↓blkK, ↓loopK, step, stepBin, Nat.reduceBEq, Nat.reduceBeqDiff, Nat.add_assoc nid, Nat.reduceAdd, reduceCtorEq, ↓reduceIte, Nat.reduceLeDiff, Nat.reduceBneDiff, Option.toList, ← Int.ofNat_tmod, ← Int.ofNat_tdiv, Nat.reduceLT, mkKey, keyIn, mGet, mPut, optD, utf8_bit (show k < 2 by omega)]
        refine ⟨by unfold inI64; omega, by simp; omega, ?_⟩
        cases hd2 : d2 == 0
        · simp -dsimp only [aqT, aqU, aqN, ↓seqK, ↓blkK, ↓loopK, step, stepBin, Nat.reduceBEq, Nat.reduceBeqDiff, Nat.add_assoc nid, Nat.reduceAdd, reduceCtorEq, ↓reduceIte, Nat.reduceLeDiff, Nat.reduceBneDiff, Option.toList, ← Int.ofNat_tmod, ← Int.ofNat_tdiv, Nat.reduceLT, Col.shift]
          refine ⟨⟨by omega, by omega⟩, by unfold inI64; omega, (k + 1, 0, fun _ => 0), ⟨by omega, by omega⟩, Cov.go [(nid + 4, nid + 324)] [] ?_⟩
          rw [hk1]
          simp [cvT, step, res, mapT, -List.getD_eq_getElem?_getD]
          refine ⟨ColEq.i fun i hi => ?_, fun q hq => ?_⟩
          · rw [getD_snocN]
            by_cases h : i < Q2.length
            · simp only [if_pos h, if_neg (show ¬ d2 + i < d2 by omega)]
            · have : i = Q2.length := by omega
              subst this
              simp
          · simp only [tlook, mVal]
            by_cases h : q = .i (nextN a k : Nat)
            · simp [h]
            · simp [h]
        · have hd0 : d2 = 0 := by simpa using hd2
          subst hd0
          simp -dsimp only [aqT, aqU, aqN, ↓seqK, ↓blkK, ↓loopK, step, stepBin, Nat.reduceBEq, Nat.reduceBeqDiff, Nat.add_assoc nid, Nat.reduceAdd, reduceCtorEq, ↓reduceIte, Nat.reduceLeDiff, Nat.reduceBneDiff, Option.toList, ← Int.ofNat_tmod, ← Int.ofNat_tdiv, Nat.reduceLT]
          refine ⟨⟨by omega, by omega⟩, by unfold inI64; omega, (k + 1, 0, fun _ => 0), ⟨by omega, by omega⟩, Cov.go [(nid + 4, nid + 324)] [] ?_⟩
          rw [hk1]
          simp [cvT, step, res, mapT, -List.getD_eq_getElem?_getD]
          refine ⟨ColEq.i fun i hi => ?_, fun q hq => ?_⟩
          · rw [getD_snocN]
            by_cases h : i < Q2.length
            · simp only [if_pos h]
            · have : i = Q2.length := by omega
              subst this
              simp
          · simp only [tlook, mVal]
            by_cases h : q = .i (nextN a k : Nat)
            · simp [h]
            · simp [h]
      · have h3' : (tlook T2 (.i (nextN a k : Nat))).isSome = true := by simpa using h3
        rw [show pIn a k (Q2, T2) = (Q2, T2) from by unfold pIn; rw [if_pos h3']] at hk1
        simp -dsimp only [aqT, aqU, aqN, ↓seqK, ↓blkK, ↓loopK, step, stepBin, Nat.reduceBEq, Nat.reduceBeqDiff, Nat.add_assoc nid, Nat.reduceAdd, reduceCtorEq, ↓reduceIte, Nat.reduceLeDiff, Nat.reduceBneDiff, Option.toList, ← Int.ofNat_tmod, ← Int.ofNat_tdiv, Nat.reduceLT]
        refine ⟨by unfold inI64; omega, (k + 1, d2, g2), ⟨by omega, by omega⟩, Cov.go [] [] ?_⟩
        rw [hk1]
        simp [cvT, step, res, mapT]
    · have hk2 : k = 2 := by omega
      subst hk2
      simp -dsimp only [aqT, aqU, aqN, ↓seqK, ↓blkK, ↓loopK, step, stepBin, Nat.reduceBEq, Nat.reduceBeqDiff, Nat.add_assoc nid, Nat.reduceAdd, reduceCtorEq, ↓reduceIte, Nat.reduceLeDiff, Nat.reduceBneDiff, Option.toList, ← Int.ofNat_tmod, ← Int.ofNat_tdiv, Nat.reduceLT]
      refine ⟨(n + 1, d2, g2), ⟨by omega, by omega⟩, Cov.go [] [] ?_⟩
      rw [hst, hX]
      simp [cvT, step, res, mapT]
  · simp -dsimp only [aqT, aqU, aqN, ↓seqK, ↓blkK, ↓loopK, step, stepBin, Nat.reduceBEq, Nat.reduceBeqDiff, Nat.add_assoc nid, Nat.reduceAdd, reduceCtorEq, ↓reduceIte, Nat.reduceLeDiff, Nat.reduceBneDiff, Option.toList, ← Int.ofNat_tmod, ← Int.ofNat_tdiv, Nat.reduceLT, mkKey, keyIn, mGet, optD]
    have h0 : (pAt s n).1 = [] := List.eq_nil_of_length_eq_zero (by omega)
    have h16 : ∀ j, (pAt s (n + j)) = pAt s n := by
      intro j
      induction j with
      | zero => rfl
      | succ j ih =>
        show pOut (pAt s (n + j)) = _
        rw [ih]
        unfold pOut
        rw [h0]
    have := h16 (16 - n)
    rw [show n + (16 - n) = 16 from by omega] at this
    refine RetOK.pure (.inl rfl) rfl ?_
    simp [cvT, step, res, pathV, this]
end Go.Proofs.YthcldfmlfjomfaaDoor
namespace Go.Proofs.YthcldfmlfjomfaaDoor
open Go.RowKit
def isBinV (c : Int) : Bool := (decide (48 ≤ c) && decide (c ≤ 57)) || (decide (97 ≤ c) && decide (c ≤ 122))
theorem isBin_c (c : Int) (nid : Nat) : ACall Tryd.prog 172 [.int .u8 c] [] nid (.bool (isBinV c)) [] := by
  refine acall_run c172 (by simp [a172]) ?_
  unfold isBinV
  simp -dsimp only [a172, aqT, aqU, aqN, ↓seqK, ↓blkK, ↓loopK, step, stepBin, Nat.reduceBEq, Nat.reduceBeqDiff, Nat.add_assoc nid, Nat.reduceAdd, reduceCtorEq, ↓reduceIte, Nat.reduceLeDiff, Nat.reduceBneDiff, Option.toList, ← Int.ofNat_tmod, ← Int.ofNat_tdiv, Nat.reduceLT]
  cases h1 : decide (48 ≤ c) <;> simp -dsimp only [aqT, aqU, aqN, ↓seqK, ↓blkK, ↓loopK, step, stepBin, Nat.reduceBEq, Nat.reduceBeqDiff, Nat.add_assoc nid, Nat.reduceAdd, reduceCtorEq, ↓reduceIte, Nat.reduceLeDiff, Nat.reduceBneDiff, Option.toList, ← Int.ofNat_tmod, ← Int.ofNat_tdiv, Nat.reduceLT]
  · cases h3 : decide (97 ≤ c) <;> simp -dsimp only [aqT, aqU, aqN, ↓seqK, ↓blkK, ↓loopK, step, stepBin, Nat.reduceBEq, Nat.reduceBeqDiff, Nat.add_assoc nid, Nat.reduceAdd, reduceCtorEq, ↓reduceIte, Nat.reduceLeDiff, Nat.reduceBneDiff, Option.toList, ← Int.ofNat_tmod, ← Int.ofNat_tdiv, Nat.reduceLT]
    · refine RetOK.pure (.inl rfl) rfl ?_
      simp [cvT, step, res, h1, h3]
    · refine RetOK.pure (.inl rfl) rfl ?_
      simp [cvT, step, res, h1, h3]
  · cases h2 : decide (c ≤ 57) <;> simp -dsimp only [aqT, aqU, aqN, ↓seqK, ↓blkK, ↓loopK, step, stepBin, Nat.reduceBEq, Nat.reduceBeqDiff, Nat.add_assoc nid, Nat.reduceAdd, reduceCtorEq, ↓reduceIte, Nat.reduceLeDiff, Nat.reduceBneDiff, Option.toList, ← Int.ofNat_tmod, ← Int.ofNat_tdiv, Nat.reduceLT]
    · cases h3 : decide (97 ≤ c) <;> simp -dsimp only [aqT, aqU, aqN, ↓seqK, ↓blkK, ↓loopK, step, stepBin, Nat.reduceBEq, Nat.reduceBeqDiff, Nat.add_assoc nid, Nat.reduceAdd, reduceCtorEq, ↓reduceIte, Nat.reduceLeDiff, Nat.reduceBneDiff, Option.toList, ← Int.ofNat_tmod, ← Int.ofNat_tdiv, Nat.reduceLT] <;> refine RetOK.pure (.inl rfl) rfl ?_ <;> simp [cvT, step, res, h1, h2, h3]
    · refine RetOK.pure (.inl rfl) rfl ?_
      simp [cvT, step, res, h1, h2]
theorem isPlace_c (c : Int) (nid : Nat) : ACall Tryd.prog 215 [.int .u8 c] [] nid (.bool (isBinV c || c == 46 || c == 63 || c == 42)) [] := by
  refine acall_run c215 (by simp [a215]) ?_
  simp -dsimp only [a215, aqT, aqU, aqN, ↓seqK, ↓blkK, ↓loopK, step, stepBin, Nat.reduceBEq, Nat.reduceBeqDiff, Nat.add_assoc nid, Nat.reduceAdd, reduceCtorEq, ↓reduceIte, Nat.reduceLeDiff, Nat.reduceBneDiff, Option.toList, ← Int.ofNat_tmod, ← Int.ofNat_tdiv, Nat.reduceLT]
  refine CallO.pure (isBin_c _ _) ?_
  simp -dsimp only [aqT, aqU, aqN, ↓seqK, ↓blkK, ↓loopK, step, stepBin, Nat.reduceBEq, Nat.reduceBeqDiff, Nat.add_assoc nid, Nat.reduceAdd, reduceCtorEq, ↓reduceIte, Nat.reduceLeDiff, Nat.reduceBneDiff, Option.toList, ← Int.ofNat_tmod, ← Int.ofNat_tdiv, Nat.reduceLT]
  cases h0 : isBinV c <;> simp -dsimp only [aqT, aqU, aqN, ↓seqK, ↓blkK, ↓loopK, step, stepBin, Nat.reduceBEq, Nat.reduceBeqDiff, Nat.add_assoc nid, Nat.reduceAdd, reduceCtorEq, ↓reduceIte, Nat.reduceLeDiff, Nat.reduceBneDiff, Option.toList, ← Int.ofNat_tmod, ← Int.ofNat_tdiv, Nat.reduceLT]
  · cases h1 : (c == 46) <;> simp -dsimp only [aqT, aqU, aqN, ↓seqK, ↓blkK, ↓loopK, step, stepBin, Nat.reduceBEq, Nat.reduceBeqDiff, Nat.add_assoc nid, Nat.reduceAdd, reduceCtorEq, ↓reduceIte, Nat.reduceLeDiff, Nat.reduceBneDiff, Option.toList, ← Int.ofNat_tmod, ← Int.ofNat_tdiv, Nat.reduceLT, h1]
    · cases h2 : (c == 63) <;> simp -dsimp only [aqT, aqU, aqN, ↓seqK, ↓blkK, ↓loopK, step, stepBin, Nat.reduceBEq, Nat.reduceBeqDiff, Nat.add_assoc nid, Nat.reduceAdd, reduceCtorEq, ↓reduceIte, Nat.reduceLeDiff, Nat.reduceBneDiff, Option.toList, ← Int.ofNat_tmod, ← Int.ofNat_tdiv, Nat.reduceLT, h2] <;> refine RetOK.pure (.inl rfl) rfl ?_ <;> simp [cvT, step, res, h1, h2]
    · refine RetOK.pure (.inl rfl) rfl ?_
      simp [cvT, step, res]
  · refine RetOK.pure (.inl rfl) rfl ?_
    simp [cvT, step, res]
theorem oddF_c (c : Int) (nid : Nat) : ACall Tryd.prog 214 [.int .u8 c] [] nid (.bool (!(isBinV c || c == 46 || c == 63 || c == 42))) [] := by
  refine acall_run c214 (by simp [a214]) ?_
  simp -dsimp only [a214, aqT, aqU, aqN, ↓seqK, ↓blkK, ↓loopK, step, stepBin, Nat.reduceBEq, Nat.reduceBeqDiff, Nat.add_assoc nid, Nat.reduceAdd, reduceCtorEq, ↓reduceIte, Nat.reduceLeDiff, Nat.reduceBneDiff, Option.toList, ← Int.ofNat_tmod, ← Int.ofNat_tdiv, Nat.reduceLT]
  refine CallO.pure (isPlace_c _ _) ?_
  simp -dsimp only [aqT, aqU, aqN, ↓seqK, ↓blkK, ↓loopK, step, stepBin, Nat.reduceBEq, Nat.reduceBeqDiff, Nat.add_assoc nid, Nat.reduceAdd, reduceCtorEq, ↓reduceIte, Nat.reduceLeDiff, Nat.reduceBneDiff, Option.toList, ← Int.ofNat_tmod, ← Int.ofNat_tdiv, Nat.reduceLT]
  refine RetOK.pure (.inl rfl) rfl ?_
  simp [cvT, step, res]
def placeB (c : Int) : Bool := isBinV c || c == 46 || c == 63 || c == 42
theorem indexF_c (nl : Bool) (n : Nat) (g : Nat → Int) (nid : Nat) (hn : n ≤ 1000000000) (h : ∀ i, i < n → placeB (g i) = true) : ACall Tryd.prog 238 [.lit nl n [.i .u8 g], .fn 214 []] [] nid (.int .i64 (-1)) [] := by
  refine acall_run c238 (by simp [a238]) ?_
  simp -dsimp only [a238, aqT, aqU, aqN, ↓seqK, ↓blkK, ↓loopK, step, stepBin, Nat.reduceBEq, Nat.reduceBeqDiff, Nat.add_assoc nid, Nat.reduceAdd, reduceCtorEq, ↓reduceIte, Nat.reduceLeDiff, Nat.reduceBneDiff, Option.toList, ← Int.ofNat_tmod, ← Int.ofNat_tdiv, Nat.reduceLT]
  refine LP.mkP (fun k : Nat => k ≤ n) (fun k : Nat => ⟨[(8, .int .i64 k), (7, .int .i64 n), (0, .lit nl n [.i .u8 g]), (1, .fn 214 [])], [], nid + 100, nid⟩) (fun k => n + 1 - k) 0 (by omega) (Cov.go [] [] ?_) (fun k hk => ?_)
  · simp [cvT, step, res]
  simp -dsimp only [aqT, aqU, aqN, ↓seqK, ↓blkK, ↓loopK, step, stepBin, Nat.reduceBEq, Nat.reduceBeqDiff, Nat.add_assoc nid, Nat.reduceAdd, reduceCtorEq, ↓reduceIte, Nat.reduceLeDiff, Nat.reduceBneDiff, Option.toList, ← Int.ofNat_tmod, ← Int.ofNat_tdiv, Nat.reduceLT]
  refine S2.dec (fun h3 => ?_) (fun h3 => ?_) <;> simp -dsimp only [aqT, aqU, aqN, ↓seqK, ↓blkK, ↓loopK, step, stepBin, Nat.reduceBEq, Nat.reduceBeqDiff, Nat.add_assoc nid, Nat.reduceAdd, reduceCtorEq, ↓reduceIte, Nat.reduceLeDiff, Nat.reduceBneDiff, Option.toList, ← Int.ofNat_tmod, ← Int.ofNat_tdiv, Nat.reduceLT]
  · refine ⟨by omega, CallO.pure (oddF_c _ _) ?_⟩
    have hp := h k (by omega)
    unfold placeB at hp
    rw [hp]
    simp -dsimp only [aqT, aqU, aqN, ↓seqK, ↓blkK, ↓loopK, step, stepBin, Nat.reduceBEq, Nat.reduceBeqDiff, Nat.add_assoc nid, Nat.reduceAdd, reduceCtorEq, ↓reduceIte, Nat.reduceLeDiff, Nat.reduceBneDiff, Option.toList, ← Int.ofNat_tmod, ← Int.ofNat_tdiv, Nat.reduceLT]
    refine ⟨by unfold inI64; omega, k + 1, ⟨by omega, by omega⟩, Cov.go [] [] ?_⟩
    simp [cvT, step, res]
  · refine RetOK.pure (.inl rfl) rfl ?_
    simp [cvT, step, res]
theorem odd_c' (s : List UInt8) (nid : Nat) (hn : s.length ≤ 1000000000) (h : ∀ i, i < s.length → placeB ((s.getD i 0).toNat : Nat) = true) : ACall Tryd.prog 171 [.str s] [] nid (.bool false) [] := by
  have hcf : ∀ nid, ACall Tryd.prog 213 [.lit false s.length [.i .u8 fun i => ((s.getD i 0).toNat : Nat)], .fn 214 []] [] nid (.bool false) [] := fun nid => by
    refine acall_run c213 (by simp [a213]) ?_
    simp -dsimp only [a213, aqT, aqU, aqN, ↓seqK, ↓blkK, ↓loopK, step, stepBin, Nat.reduceBEq, Nat.reduceBeqDiff, Nat.add_assoc nid, Nat.reduceAdd, reduceCtorEq, ↓reduceIte, Nat.reduceLeDiff, Nat.reduceBneDiff, Option.toList, ← Int.ofNat_tmod, ← Int.ofNat_tdiv, Nat.reduceLT]
    refine CallO.pure (indexF_c _ _ _ _ hn h) ?_
    simp -dsimp only [aqT, aqU, aqN, ↓seqK, ↓blkK, ↓loopK, step, stepBin, Nat.reduceBEq, Nat.reduceBeqDiff, Nat.add_assoc nid, Nat.reduceAdd, reduceCtorEq, ↓reduceIte, Nat.reduceLeDiff, Nat.reduceBneDiff, Option.toList, ← Int.ofNat_tmod, ← Int.ofNat_tdiv, Nat.reduceLT, Int.cast_ofNat_Int, Int.reduceBEq, Int.reduceBNe, Int.reduceLT, Int.reduceLE, Int.reduceAdd, Int.reduceSub, Int.reduceMul, Int.reduceToNat, Int.reduceNeg, Int.reduceTMod, Int.reduceEq, not_false_eq_true, Int.reducePow, Int.reduceFDiv, Nat.reducePow, Nat.reduceSub, Nat.reduceMul, Nat.min_eq_left, Nat.reduceEqDiff, BEq.rfl, Int.tdiv_one, LN_succ]
    refine RetOK.pure (.inl rfl) rfl ?_
    simp [cvT, step, res]
  refine acall_run c171 (by simp [a171]) ?_
  simp -dsimp only [a171, aqT, aqU, aqN, ↓seqK, ↓blkK, ↓loopK, step, stepBin, Nat.reduceBEq, Nat.reduceBeqDiff, Nat.add_assoc nid, Nat.reduceAdd, reduceCtorEq, ↓reduceIte, Nat.reduceLeDiff, Nat.reduceBneDiff, Option.toList, ← Int.ofNat_tmod, ← Int.ofNat_tdiv, Nat.reduceLT]
  refine CallO.pure (hcf _) ?_
  simp -dsimp only [aqT, aqU, aqN, ↓seqK, ↓blkK, ↓loopK, step, stepBin, Nat.reduceBEq, Nat.reduceBeqDiff, Nat.add_assoc nid, Nat.reduceAdd, reduceCtorEq, ↓reduceIte, Nat.reduceLeDiff, Nat.reduceBneDiff, Option.toList, ← Int.ofNat_tmod, ← Int.ofNat_tdiv, Nat.reduceLT]
  refine RetOK.pure (.inl rfl) rfl ?_
  simp [cvT, step, res]
theorem tested_c (c : Int) (nid : Nat) : ACall Tryd.prog 174 [.int .u8 c] [] nid (.bool (isBinV c || c == 42)) [] := by
  refine acall_run c174 (by simp [a174]) ?_
  simp -dsimp only [a174, aqT, aqU, aqN, ↓seqK, ↓blkK, ↓loopK, step, stepBin, Nat.reduceBEq, Nat.reduceBeqDiff, Nat.add_assoc nid, Nat.reduceAdd, reduceCtorEq, ↓reduceIte, Nat.reduceLeDiff, Nat.reduceBneDiff, Option.toList, ← Int.ofNat_tmod, ← Int.ofNat_tdiv, Nat.reduceLT]
  refine CallO.pure (isBin_c _ _) ?_
  cases h0 : isBinV c <;> cases h1 : (c == 42) <;>
    simp -dsimp only [aqT, aqU, aqN, ↓seqK, ↓blkK, ↓loopK, step, stepBin, Nat.reduceBEq, Nat.reduceBeqDiff, Nat.add_assoc nid, Nat.reduceAdd, reduceCtorEq, ↓reduceIte, Nat.reduceLeDiff, Nat.reduceBneDiff, Option.toList, ← Int.ofNat_tmod, ← Int.ofNat_tdiv, Nat.reduceLT, h0, h1] <;> refine RetOK.pure (.inl rfl) rfl ?_ <;> simp [cvT, step, res]
theorem gcd12_c (nid : Nat) : ACall Tryd.prog 146 [.int .i64 1, .int .i64 2] [] nid (.int .i64 1) [] := by
  refine acall_run c146 (by simp [a146]) ?_
  simp -dsimp only [a146, aqT, aqU, aqN, ↓seqK, ↓blkK, ↓loopK, step, stepBin, Nat.reduceBEq, Nat.reduceBeqDiff, Nat.add_assoc nid, Nat.reduceAdd, reduceCtorEq, ↓reduceIte, Nat.reduceLeDiff, Nat.reduceBneDiff, Option.toList, ← Int.ofNat_tmod, ← Int.ofNat_tdiv, Nat.reduceLT]
  refine LP.rounds 5 ?_
  simp -dsimp only [aqT, aqU, aqN, ↓seqK, ↓blkK, ↓loopK, step, stepBin, Nat.reduceBEq, Nat.reduceBeqDiff, Nat.add_assoc nid, Nat.reduceAdd, reduceCtorEq, ↓reduceIte, Nat.reduceLeDiff, Nat.reduceBneDiff, Option.toList, ← Int.ofNat_tmod, ← Int.ofNat_tdiv, Nat.reduceLT, Int.cast_ofNat_Int, Int.reduceBEq, Int.reduceBNe, Int.reduceLT, Int.reduceLE, Int.reduceAdd, Int.reduceSub, Int.reduceMul, Int.reduceToNat, Int.reduceNeg, Int.reduceTMod, Int.reduceEq, not_false_eq_true, Int.reducePow, Int.reduceFDiv, Nat.reducePow, Nat.reduceSub, Nat.reduceMul, Nat.min_eq_left, Nat.reduceEqDiff, BEq.rfl, Int.tdiv_one, LN_succ]
  refine RetOK.pure (.inl rfl) rfl ?_
  simp [cvT, step, res]
theorem frac12_c (nid : Nat) : ACall Tryd.prog 106 [.int .i64 1, .int .i64 2] [] nid (.agg [.int .i64 1, .int .i64 2]) [] := by
  refine acall_run c106 (by simp [a106]) ?_
  simp -dsimp only [a106, aqT, aqU, aqN, ↓seqK, ↓blkK, ↓loopK, step, stepBin, Nat.reduceBEq, Nat.reduceBeqDiff, Nat.add_assoc nid, Nat.reduceAdd, reduceCtorEq, ↓reduceIte, Nat.reduceLeDiff, Nat.reduceBneDiff, Option.toList, ← Int.ofNat_tmod, ← Int.ofNat_tdiv, Nat.reduceLT, Int.cast_ofNat_Int, Int.reduceBEq, Int.reduceBNe, Int.reduceLT, Int.reduceLE, Int.reduceAdd, Int.reduceSub, Int.reduceMul, Int.reduceToNat, Int.reduceNeg, Int.reduceTMod, Int.reduceEq, not_false_eq_true, Int.reducePow, Int.reduceFDiv, Nat.reducePow, Nat.reduceSub, Nat.reduceMul, Nat.min_eq_left, Nat.reduceEqDiff, BEq.rfl, Int.tdiv_one, LN_succ]
  have hm : max (1 : Int) (-1) = 1 := by decide
  rw [hm]
  refine ⟨by unfold inI64; omega, CallO.pure (gcd12_c _) ?_⟩
  simp -dsimp only [aqT, aqU, aqN, ↓seqK, ↓blkK, ↓loopK, step, stepBin, Nat.reduceBEq, Nat.reduceBeqDiff, Nat.add_assoc nid, Nat.reduceAdd, reduceCtorEq, ↓reduceIte, Nat.reduceLeDiff, Nat.reduceBneDiff, Option.toList, ← Int.ofNat_tmod, ← Int.ofNat_tdiv, Nat.reduceLT, Int.cast_ofNat_Int, Int.reduceBEq, Int.reduceBNe, Int.reduceLT, Int.reduceLE, Int.reduceAdd, Int.reduceSub, Int.reduceMul, Int.reduceToNat, Int.reduceNeg, Int.reduceTMod, Int.reduceEq, not_false_eq_true, Int.reducePow, Int.reduceFDiv, Nat.reducePow, Nat.reduceSub, Nat.reduceMul, Nat.min_eq_left, Nat.reduceEqDiff, BEq.rfl, Int.tdiv_one, LN_succ]
  have h1 : IntKind.i64.wrap 1 = 1 := by decide
  have h2 : IntKind.i64.wrap 2 = 2 := by decide
  rw [h1, h2]
  refine RetOK.go [] [] (.inl rfl) ?_
  simp [a106, cvT, step, res]
theorem indexBS_c (s : List UInt8) (c : Int) (nid : Nat) : ACall Tryd.prog 253 [.str s, .int .u8 c] [] nid (.int .i64 (Lib.indexByte s c.toNat.toUInt8)) [] := by
  intro C vs hb hl hr hs
  obtain ⟨v0, v1, rfl⟩ : ∃ a b, vs = [a, b] := by
    rcases vs with _ | ⟨a, _ | ⟨b, _ | ⟨c, r⟩⟩⟩
    · simp at hl
    · simp at hl
    · exact ⟨a, b, rfl⟩
    · simp at hl
  have r0 := (hr 0 _ v0 rfl rfl).str_inv
  have r1 := (hr 1 _ v1 rfl rfl).int_inv
  subst r0; subst r1
  refine .inr ⟨.int .i64 (Lib.indexByte s c.toNat.toUInt8), C.w0, ?_, C.Y0, C.m0, .int, by simpa using hs.next (show nid ≤ nid + 4 by omega), Ev.refl _ _ _⟩
  rw [run_callFunc_extern (P := Tryd.prog) (f := 253) (fn := Tryd.f253) (e := Extern.BytealgIndexByte.indexByte) Tryd.func253 (by kernel_rfl) (by kernel_rfl) (by kernel_rfl) (by kernel_rfl)]
  have h := Lib.run_indexByteString (P := Tryd.prog) ⟨s.toArray⟩ c C.w0
  show ((Extern.BytealgIndexByte.indexByte #[.string ⟨s.toArray⟩, .int .u8 c]).run Tryd.prog C.w0).andThen _ = _
  rw [h]
  rfl
theorem indexB_c (s : List UInt8) (c : Int) (nid : Nat) : ACall Tryd.prog 216 [.str s, .int .u8 c] [] nid (.int .i64 (Lib.indexByte s c.toNat.toUInt8)) [] := by
  have h1 : ∀ nid, ACall Tryd.prog 239 [.str s, .int .u8 c] [] nid (.int .i64 (Lib.indexByte s c.toNat.toUInt8)) [] := fun nid => by
    refine acall_run c239 (by simp [a239]) ?_
    simp -dsimp only [a239, aqT, aqU, aqN, ↓seqK, ↓blkK, ↓loopK, step, stepBin, Nat.reduceBEq, Nat.reduceBeqDiff, Nat.add_assoc nid, Nat.reduceAdd, reduceCtorEq, ↓reduceIte, Nat.reduceLeDiff, Nat.reduceBneDiff, Option.toList, ← Int.ofNat_tmod, ← Int.ofNat_tdiv, Nat.reduceLT]
    refine CallO.pure (indexBS_c s c _) ?_
    simp -dsimp only [aqT, aqU, aqN, ↓seqK, ↓blkK, ↓loopK, step, stepBin, Nat.reduceBEq, Nat.reduceBeqDiff, Nat.add_assoc nid, Nat.reduceAdd, reduceCtorEq, ↓reduceIte, Nat.reduceLeDiff, Nat.reduceBneDiff, Option.toList, ← Int.ofNat_tmod, ← Int.ofNat_tdiv, Nat.reduceLT]
    refine RetOK.pure (.inl rfl) rfl ?_
    simp [cvT, step, res]
  refine acall_run c216 (by simp [a216]) ?_
  simp -dsimp only [a216, aqT, aqU, aqN, ↓seqK, ↓blkK, ↓loopK, step, stepBin, Nat.reduceBEq, Nat.reduceBeqDiff, Nat.add_assoc nid, Nat.reduceAdd, reduceCtorEq, ↓reduceIte, Nat.reduceLeDiff, Nat.reduceBneDiff, Option.toList, ← Int.ofNat_tmod, ← Int.ofNat_tdiv, Nat.reduceLT]
  refine CallO.pure (h1 _) ?_
  simp -dsimp only [aqT, aqU, aqN, ↓seqK, ↓blkK, ↓loopK, step, stepBin, Nat.reduceBEq, Nat.reduceBeqDiff, Nat.add_assoc nid, Nat.reduceAdd, reduceCtorEq, ↓reduceIte, Nat.reduceLeDiff, Nat.reduceBneDiff, Option.toList, ← Int.ofNat_tmod, ← Int.ofNat_tdiv, Nat.reduceLT]
  refine RetOK.pure (.inl rfl) rfl ?_
  simp [cvT, step, res]
def passedV (pass : List UInt8) (c : Int) : Bool := isBinV c && decide (0 ≤ Lib.indexByte pass c.toNat.toUInt8)
theorem passed_c (rows : PV) (pass : List UInt8) (c : Int) (nid : Nat) (nl : Bool) (n : Nat) (cols : List Col) (hr : rows = .lit nl n cols) : ACall Tryd.prog 175 [.agg [rows, .str pass], .int .u8 c] [] nid (.bool (passedV pass c)) [] := by
  subst hr
  refine acall_run c175 (by simp [a175]) ?_
  simp -dsimp only [a175, aqT, aqU, aqN, ↓seqK, ↓blkK, ↓loopK, step, stepBin, Nat.reduceBEq, Nat.reduceBeqDiff, Nat.add_assoc nid, Nat.reduceAdd, reduceCtorEq, ↓reduceIte, Nat.reduceLeDiff, Nat.reduceBneDiff, Option.toList, ← Int.ofNat_tmod, ← Int.ofNat_tdiv, Nat.reduceLT]
  refine CallO.pure (isBin_c _ _) ?_
  unfold passedV
  simp -dsimp only [aqT, aqU, aqN, ↓seqK, ↓blkK, ↓loopK, step, stepBin, Nat.reduceBEq, Nat.reduceBeqDiff, Nat.add_assoc nid, Nat.reduceAdd, reduceCtorEq, ↓reduceIte, Nat.reduceLeDiff, Nat.reduceBneDiff, Option.toList, ← Int.ofNat_tmod, ← Int.ofNat_tdiv, Nat.reduceLT]
  cases h0 : isBinV c <;> simp -dsimp only [aqT, aqU, aqN, ↓seqK, ↓blkK, ↓loopK, step, stepBin, Nat.reduceBEq, Nat.reduceBeqDiff, Nat.add_assoc nid, Nat.reduceAdd, reduceCtorEq, ↓reduceIte, Nat.reduceLeDiff, Nat.reduceBneDiff, Option.toList, ← Int.ofNat_tmod, ← Int.ofNat_tdiv, Nat.reduceLT]
  · refine RetOK.pure (.inl rfl) rfl ?_
    simp [cvT, step, res]
  · refine CallO.pure (indexB_c _ _ _) ?_
    simp -dsimp only [aqT, aqU, aqN, ↓seqK, ↓blkK, ↓loopK, step, stepBin, Nat.reduceBEq, Nat.reduceBeqDiff, Nat.add_assoc nid, Nat.reduceAdd, reduceCtorEq, ↓reduceIte, Nat.reduceLeDiff, Nat.reduceBneDiff, Option.toList, ← Int.ofNat_tmod, ← Int.ofNat_tdiv, Nat.reduceLT]
    refine RetOK.pure (.inl rfl) rfl ?_
    simp [cvT, step, res]
end Go.Proofs.YthcldfmlfjomfaaDoor
