/-
  The checks of memories and words, by the abstract machine.
-/
import Derived.Test.YtmnhlfkphibhfaaKE4
import Derived.Test.YtmnhlfkphibhfaaKE3
import Derived.Lib.Bytealg
import Derived.Laws.Externs
namespace Go.Proofs.Ytmnhlfkphibhfaa
open Go.RowKit
set_option linter.unusedVariables false
set_option linter.unusedSimpArgs false
set_option maxRecDepth 100000
theorem out_c (x lo hi : Int) (nid : Nat) : ACall Try.prog 62 [.int .i64 x, .int .i64 lo, .int .i64 hi] [] nid (.bool (outB x lo hi)) [] := by
  refine acall_run c62 (by simp [a62]) ?_
  simp -dsimp only [a62, aqT, ROp, OX, ↓seqK, ↓blkK, ↓loopK, step, stepBin, res, stepIdx, mix, PV.cells, argSlots, Nat.reduceBEq, Nat.reduceBeqDiff, Nat.add_assoc nid, Nat.reduceAdd, reduceCtorEq, ↓reduceIte, Nat.reduceLeDiff, colPV, freeOf, indep, offO, neqO, disj, namesX, axSlot, opXs, rdXs, idsOf, idsOfs, lowH, lowAll, keys, Nat.reduceBneDiff, Option.toList, ← Int.ofNat_tmod, ← Int.ofNat_tdiv, optInt, fillP, repl, chunk, mkCols, mkCol, colInts, colBools, colStrs, colLits, colsApp, Col.app, tailOf, splice, colsPut, Col.put, mmFold, eqK, Nat.reduceLT, colsPaste, Col.paste]
  refine S2.dec (fun h => ?_) (fun h => ?_) <;> simp -dsimp only [aqT, ROp, OX, ↓seqK, ↓blkK, ↓loopK, step, stepBin, res, stepIdx, mix, PV.cells, argSlots, Nat.reduceBEq, Nat.reduceBeqDiff, Nat.add_assoc nid, Nat.reduceAdd, reduceCtorEq, ↓reduceIte, Nat.reduceLeDiff, colPV, freeOf, indep, offO, neqO, disj, namesX, axSlot, opXs, rdXs, idsOf, idsOfs, lowH, lowAll, keys, Nat.reduceBneDiff, Option.toList, ← Int.ofNat_tmod, ← Int.ofNat_tdiv, optInt, fillP, repl, chunk, mkCols, mkCol, colInts, colBools, colStrs, colLits, colsApp, Col.app, tailOf, splice, colsPut, Col.put, mmFold, eqK, Nat.reduceLT, colsPaste, Col.paste] <;> refine RetOK.pure (.inl rfl) rfl ?_ <;> simp [retPV, over, keys, List.map_nil, List.map_cons, List.contains_cons, List.contains_nil, Bool.or_false, Bool.or_true, Bool.true_or, Bool.false_or, beq_self_eq_true, cond_true, cond_false, HeapCov, orNil, nilSz, onBlk, srcOf, getH_hit, getH_miss, getH.eq_1, getS_hit, getS_miss, getS.eq_1, BlkCov, PVCovs, PVCov, ColsEq, ColEq.refl, liveIds, SlotsCov, List.all_nil, List.all_cons, List.any_nil, List.any_cons, List.nil_append, List.cons_append, inRange, apart, nilBlk, idS1, idS2, readAll, readRes, onAll, step, res, AX.val, List.drop_zero, List.drop_succ_cons, List.take_succ_cons, List.take_zero, outB] <;> omega
theorem in_c (x lo hi : Int) (nid : Nat) : ACall Try.prog 60 [.int .i64 x, .int .i64 lo, .int .i64 hi] [] nid (.bool (!outB x lo hi)) [] := by
  refine acall_run c60 (by simp [a60]) ?_
  simp -dsimp only [a60, aqT, ROp, OX, ↓seqK, ↓blkK, ↓loopK, step, stepBin, res, stepIdx, mix, PV.cells, argSlots, Nat.reduceBEq, Nat.reduceBeqDiff, Nat.add_assoc nid, Nat.reduceAdd, reduceCtorEq, ↓reduceIte, Nat.reduceLeDiff, colPV, freeOf, indep, offO, neqO, disj, namesX, axSlot, opXs, rdXs, idsOf, idsOfs, lowH, lowAll, keys, Nat.reduceBneDiff, Option.toList, ← Int.ofNat_tmod, ← Int.ofNat_tdiv, optInt, fillP, repl, chunk, mkCols, mkCol, colInts, colBools, colStrs, colLits, colsApp, Col.app, tailOf, splice, colsPut, Col.put, mmFold, eqK, Nat.reduceLT, colsPaste, Col.paste]
  refine S2.dec (fun h => ?_) (fun h => ?_) <;> simp -dsimp only [aqT, ROp, OX, ↓seqK, ↓blkK, ↓loopK, step, stepBin, res, stepIdx, mix, PV.cells, argSlots, Nat.reduceBEq, Nat.reduceBeqDiff, Nat.add_assoc nid, Nat.reduceAdd, reduceCtorEq, ↓reduceIte, Nat.reduceLeDiff, colPV, freeOf, indep, offO, neqO, disj, namesX, axSlot, opXs, rdXs, idsOf, idsOfs, lowH, lowAll, keys, Nat.reduceBneDiff, Option.toList, ← Int.ofNat_tmod, ← Int.ofNat_tdiv, optInt, fillP, repl, chunk, mkCols, mkCol, colInts, colBools, colStrs, colLits, colsApp, Col.app, tailOf, splice, colsPut, Col.put, mmFold, eqK, Nat.reduceLT, colsPaste, Col.paste] <;> refine RetOK.pure (.inl rfl) rfl ?_ <;> simp [retPV, over, keys, List.map_nil, List.map_cons, List.contains_cons, List.contains_nil, Bool.or_false, Bool.or_true, Bool.true_or, Bool.false_or, beq_self_eq_true, cond_true, cond_false, HeapCov, orNil, nilSz, onBlk, srcOf, getH_hit, getH_miss, getH.eq_1, getS_hit, getS_miss, getS.eq_1, BlkCov, PVCovs, PVCov, ColsEq, ColEq.refl, liveIds, SlotsCov, List.all_nil, List.all_cons, List.any_nil, List.any_cons, List.nil_append, List.cons_append, inRange, apart, nilBlk, idS1, idS2, readAll, readRes, onAll, step, res, AX.val, List.drop_zero, List.drop_succ_cons, List.take_succ_cons, List.take_zero, outB] <;> first | omega | (rw [Bool.eq_iff_iff]; simp; omega)
theorem sumIS {l : List Int} {k : Nat} (h : k < l.length) : sumI (l.take (k + 1)) = sumI (l.take k) + l.getD k 0 := by
  rw [take_snoc (x := l.getD k 0) (by rw [List.getD_eq_getElem?_getD, List.getElem?_eq_getElem h]; rfl), sumI_snoc]
theorem size_c (nl : Bool) (l : List Int) (nid : Nat) (hl : l.length ≤ 1000000000) (hb : ∀ k, k ≤ l.length → inI64 (sumI (l.take k))) : ACall Try.prog 63 [.agg [litI nl l]] [] nid (.int .i64 (sumI l)) [] := by
  refine acall_run c63 (by simp [a63]) ?_
  unfold litI
  simp -dsimp only [a63, aqT, ROp, OX, ↓seqK, ↓blkK, ↓loopK, step, stepBin, res, stepIdx, mix, PV.cells, argSlots, Nat.reduceBEq, Nat.reduceBeqDiff, Nat.add_assoc nid, Nat.reduceAdd, reduceCtorEq, ↓reduceIte, Nat.reduceLeDiff, colPV, freeOf, indep, offO, neqO, disj, namesX, axSlot, opXs, rdXs, idsOf, idsOfs, lowH, lowAll, keys, Nat.reduceBneDiff, Option.toList, ← Int.ofNat_tmod, ← Int.ofNat_tdiv, optInt, fillP, repl, chunk, mkCols, mkCol, colInts, colBools, colStrs, colLits, colsApp, Col.app, tailOf, splice, colsPut, Col.put, mmFold, eqK, Nat.reduceLT, colsPaste, Col.paste]
  refine LP.mkP (fun k : Nat => k ≤ l.length) (fun k : Nat => ⟨[(9, .int .i64 k), (8, .int .i64 l.length), (7, litI nl l), (3, .int .i64 (sumI (l.take k)))], [], nid + 28, nid⟩) (fun k => l.length + 1 - k) 0 (by omega) (Cov.go [] [] ?_) (fun k hk => ?_)
  · simp [retPV, over, keys, List.map_nil, List.map_cons, List.contains_cons, List.contains_nil, Bool.or_false, Bool.or_true, Bool.true_or, Bool.false_or, beq_self_eq_true, cond_true, cond_false, HeapCov, orNil, nilSz, onBlk, srcOf, getH_hit, getH_miss, getH.eq_1, getS_hit, getS_miss, getS.eq_1, BlkCov, PVCovs, PVCov, ColsEq, ColEq.refl, liveIds, SlotsCov, List.all_nil, List.all_cons, List.any_nil, List.any_cons, List.nil_append, List.cons_append, inRange, apart, nilBlk, idS1, idS2, readAll, readRes, onAll, step, res, AX.val, List.drop_zero, List.drop_succ_cons, List.take_succ_cons, List.take_zero, litI, sumI]
  unfold litI
  simp -dsimp only [aqT, ROp, OX, ↓seqK, ↓blkK, ↓loopK, step, stepBin, res, stepIdx, mix, PV.cells, argSlots, Nat.reduceBEq, Nat.reduceBeqDiff, Nat.add_assoc nid, Nat.reduceAdd, reduceCtorEq, ↓reduceIte, Nat.reduceLeDiff, colPV, freeOf, indep, offO, neqO, disj, namesX, axSlot, opXs, rdXs, idsOf, idsOfs, lowH, lowAll, keys, Nat.reduceBneDiff, Option.toList, ← Int.ofNat_tmod, ← Int.ofNat_tdiv, optInt, fillP, repl, chunk, mkCols, mkCol, colInts, colBools, colStrs, colLits, colsApp, Col.app, tailOf, splice, colsPut, Col.put, mmFold, eqK, Nat.reduceLT, colsPaste, Col.paste]
  refine S2.dec (fun h => ?_) (fun h => ?_) <;> simp -dsimp only [aqT, ROp, OX, ↓seqK, ↓blkK, ↓loopK, step, stepBin, res, stepIdx, mix, PV.cells, argSlots, Nat.reduceBEq, Nat.reduceBeqDiff, Nat.add_assoc nid, Nat.reduceAdd, reduceCtorEq, ↓reduceIte, Nat.reduceLeDiff, colPV, freeOf, indep, offO, neqO, disj, namesX, axSlot, opXs, rdXs, idsOf, idsOfs, lowH, lowAll, keys, Nat.reduceBneDiff, Option.toList, ← Int.ofNat_tmod, ← Int.ofNat_tdiv, optInt, fillP, repl, chunk, mkCols, mkCol, colInts, colBools, colStrs, colLits, colsApp, Col.app, tailOf, splice, colsPut, Col.put, mmFold, eqK, Nat.reduceLT, colsPaste, Col.paste]
  · have h1 := sumIS (l := l) (k := k) (by omega)
    have h2 := hb (k + 1) (by omega)
    refine ⟨by omega, by rw [← h1]; exact h2, by unfold inI64; omega, k + 1, ⟨by omega, by omega⟩, Cov.go [] [] ?_⟩
    simp [retPV, over, keys, List.map_nil, List.map_cons, List.contains_cons, List.contains_nil, Bool.or_false, Bool.or_true, Bool.true_or, Bool.false_or, beq_self_eq_true, cond_true, cond_false, HeapCov, orNil, nilSz, onBlk, srcOf, getH_hit, getH_miss, getH.eq_1, getS_hit, getS_miss, getS.eq_1, BlkCov, PVCovs, PVCov, ColsEq, ColEq.refl, liveIds, SlotsCov, List.all_nil, List.all_cons, List.any_nil, List.any_cons, List.nil_append, List.cons_append, inRange, apart, nilBlk, idS1, idS2, readAll, readRes, onAll, step, res, AX.val, List.drop_zero, List.drop_succ_cons, List.take_succ_cons, List.take_zero, h1]
  · refine RetOK.pure (.inl rfl) rfl ?_
    have : k = l.length := by omega
    subst this
    simp [retPV, over, keys, List.map_nil, List.map_cons, List.contains_cons, List.contains_nil, Bool.or_false, Bool.or_true, Bool.true_or, Bool.false_or, beq_self_eq_true, cond_true, cond_false, HeapCov, orNil, nilSz, onBlk, srcOf, getH_hit, getH_miss, getH.eq_1, getS_hit, getS_miss, getS.eq_1, BlkCov, PVCovs, PVCov, ColsEq, ColEq.refl, liveIds, SlotsCov, List.all_nil, List.all_cons, List.any_nil, List.any_cons, List.nil_append, List.cons_append, inRange, apart, nilBlk, idS1, idS2, readAll, readRes, onAll, step, res, AX.val, List.drop_zero, List.drop_succ_cons, List.take_succ_cons, List.take_zero]
theorem wordsOf_c (nl : Bool) (l : List Int) (nid : Nat) (hl : l.length ≤ 1000000000) (hb : ∀ k, k ≤ l.length → inI64 (sumI (l.take k))) : ACall Try.prog 61 [.agg [litI nl l]] [] nid (.int .i64 (sumI l)) [] := by
  refine acall_run c61 (by simp [a61]) ?_
  unfold litI
  simp -dsimp only [a61, aqT, ROp, OX, ↓seqK, ↓blkK, ↓loopK, step, stepBin, res, stepIdx, mix, PV.cells, argSlots, Nat.reduceBEq, Nat.reduceBeqDiff, Nat.add_assoc nid, Nat.reduceAdd, reduceCtorEq, ↓reduceIte, Nat.reduceLeDiff, colPV, freeOf, indep, offO, neqO, disj, namesX, axSlot, opXs, rdXs, idsOf, idsOfs, lowH, lowAll, keys, Nat.reduceBneDiff, Option.toList, ← Int.ofNat_tmod, ← Int.ofNat_tdiv, optInt, fillP, repl, chunk, mkCols, mkCol, colInts, colBools, colStrs, colLits, colsApp, Col.app, tailOf, splice, colsPut, Col.put, mmFold, eqK, Nat.reduceLT, colsPaste, Col.paste]
  refine LP.mkP (fun k : Nat => k ≤ l.length) (fun k : Nat => ⟨[(9, .int .i64 k), (8, .int .i64 l.length), (7, litI nl l), (3, .int .i64 (sumI (l.take k)))], [], nid + 28, nid⟩) (fun k => l.length + 1 - k) 0 (by omega) (Cov.go [] [] ?_) (fun k hk => ?_)
  · simp [retPV, over, keys, List.map_nil, List.map_cons, List.contains_cons, List.contains_nil, Bool.or_false, Bool.or_true, Bool.true_or, Bool.false_or, beq_self_eq_true, cond_true, cond_false, HeapCov, orNil, nilSz, onBlk, srcOf, getH_hit, getH_miss, getH.eq_1, getS_hit, getS_miss, getS.eq_1, BlkCov, PVCovs, PVCov, ColsEq, ColEq.refl, liveIds, SlotsCov, List.all_nil, List.all_cons, List.any_nil, List.any_cons, List.nil_append, List.cons_append, inRange, apart, nilBlk, idS1, idS2, readAll, readRes, onAll, step, res, AX.val, List.drop_zero, List.drop_succ_cons, List.take_succ_cons, List.take_zero, litI, sumI]
  unfold litI
  simp -dsimp only [aqT, ROp, OX, ↓seqK, ↓blkK, ↓loopK, step, stepBin, res, stepIdx, mix, PV.cells, argSlots, Nat.reduceBEq, Nat.reduceBeqDiff, Nat.add_assoc nid, Nat.reduceAdd, reduceCtorEq, ↓reduceIte, Nat.reduceLeDiff, colPV, freeOf, indep, offO, neqO, disj, namesX, axSlot, opXs, rdXs, idsOf, idsOfs, lowH, lowAll, keys, Nat.reduceBneDiff, Option.toList, ← Int.ofNat_tmod, ← Int.ofNat_tdiv, optInt, fillP, repl, chunk, mkCols, mkCol, colInts, colBools, colStrs, colLits, colsApp, Col.app, tailOf, splice, colsPut, Col.put, mmFold, eqK, Nat.reduceLT, colsPaste, Col.paste]
  refine S2.dec (fun h => ?_) (fun h => ?_) <;> simp -dsimp only [aqT, ROp, OX, ↓seqK, ↓blkK, ↓loopK, step, stepBin, res, stepIdx, mix, PV.cells, argSlots, Nat.reduceBEq, Nat.reduceBeqDiff, Nat.add_assoc nid, Nat.reduceAdd, reduceCtorEq, ↓reduceIte, Nat.reduceLeDiff, colPV, freeOf, indep, offO, neqO, disj, namesX, axSlot, opXs, rdXs, idsOf, idsOfs, lowH, lowAll, keys, Nat.reduceBneDiff, Option.toList, ← Int.ofNat_tmod, ← Int.ofNat_tdiv, optInt, fillP, repl, chunk, mkCols, mkCol, colInts, colBools, colStrs, colLits, colsApp, Col.app, tailOf, splice, colsPut, Col.put, mmFold, eqK, Nat.reduceLT, colsPaste, Col.paste]
  · have h1 := sumIS (l := l) (k := k) (by omega)
    have h2 := hb (k + 1) (by omega)
    refine ⟨by omega, by rw [← h1]; exact h2, by unfold inI64; omega, k + 1, ⟨by omega, by omega⟩, Cov.go [] [] ?_⟩
    simp [retPV, over, keys, List.map_nil, List.map_cons, List.contains_cons, List.contains_nil, Bool.or_false, Bool.or_true, Bool.true_or, Bool.false_or, beq_self_eq_true, cond_true, cond_false, HeapCov, orNil, nilSz, onBlk, srcOf, getH_hit, getH_miss, getH.eq_1, getS_hit, getS_miss, getS.eq_1, BlkCov, PVCovs, PVCov, ColsEq, ColEq.refl, liveIds, SlotsCov, List.all_nil, List.all_cons, List.any_nil, List.any_cons, List.nil_append, List.cons_append, inRange, apart, nilBlk, idS1, idS2, readAll, readRes, onAll, step, res, AX.val, List.drop_zero, List.drop_succ_cons, List.take_succ_cons, List.take_zero, h1]
  · refine RetOK.pure (.inl rfl) rfl ?_
    have : k = l.length := by omega
    subst this
    simp [retPV, over, keys, List.map_nil, List.map_cons, List.contains_cons, List.contains_nil, Bool.or_false, Bool.or_true, Bool.true_or, Bool.false_or, beq_self_eq_true, cond_true, cond_false, HeapCov, orNil, nilSz, onBlk, srcOf, getH_hit, getH_miss, getH.eq_1, getS_hit, getS_miss, getS.eq_1, BlkCov, PVCovs, PVCov, ColsEq, ColEq.refl, liveIds, SlotsCov, List.all_nil, List.all_cons, List.any_nil, List.any_cons, List.nil_append, List.cons_append, inRange, apart, nilBlk, idS1, idS2, readAll, readRes, onAll, step, res, AX.val, List.drop_zero, List.drop_succ_cons, List.take_succ_cons, List.take_zero]
theorem badS {f : Int → Int} {l : List Int} {k : Nat} (h : k < l.length) (h1 : firstBad f (l.take k) = 0) (h2 : f (l.getD k 0) = 0) : firstBad f (l.take (k + 1)) = 0 :=
  firstBad_step (x := l.getD k 0) (by rw [List.getD_eq_getElem?_getD, List.getElem?_eq_getElem h]; rfl) h1 h2
theorem badH {f : Int → Int} {l : List Int} {k : Nat} (h : k < l.length) (h1 : firstBad f (l.take k) = 0) (h2 : f (l.getD k 0) ≠ 0) : firstBad f l = f (l.getD k 0) :=
  firstBad_hit (x := l.getD k 0) (by rw [List.getD_eq_getElem?_getD, List.getElem?_eq_getElem h]; rfl) h1 h2
theorem sums_in {l : List Int} (h : Within 1 4096 l) (hl : l.length ≤ 20) (k : Nat) : inI64 (sumI (l.take k)) := by
  have := sumI_bd (l.take k) (h.take k)
  have : (l.take k).length ≤ 20 := by rw [List.length_take]; omega
  unfold inI64; omega
theorem checkFlash_c (nl : Bool) (l : List Int) (nid : Nat) (hl : l.length ≤ 1000000000) : ACall Try.prog 16 [.agg [litI nl l]] [] nid (.int .i64 (flashFault l)) [] := by
  refine acall_run c16 (by simp [a16]) ?_
  unfold litI
  simp -dsimp only [a16, aqT, ROp, OX, ↓seqK, ↓blkK, ↓loopK, step, stepBin, res, stepIdx, mix, PV.cells, argSlots, Nat.reduceBEq, Nat.reduceBeqDiff, Nat.add_assoc nid, Nat.reduceAdd, reduceCtorEq, ↓reduceIte, Nat.reduceLeDiff, colPV, freeOf, indep, offO, neqO, disj, namesX, axSlot, opXs, rdXs, idsOf, idsOfs, lowH, lowAll, keys, Nat.reduceBneDiff, Option.toList, ← Int.ofNat_tmod, ← Int.ofNat_tdiv, optInt, fillP, repl, chunk, mkCols, mkCol, colInts, colBools, colStrs, colLits, colsApp, Col.app, tailOf, splice, colsPut, Col.put, mmFold, eqK, Nat.reduceLT, colsPaste, Col.paste]
  refine S2.intro (fun h => ?_) (fun h => ?_) <;> simp -dsimp only [aqT, ROp, OX, ↓seqK, ↓blkK, ↓loopK, step, stepBin, res, stepIdx, mix, PV.cells, argSlots, Nat.reduceBEq, Nat.reduceBeqDiff, Nat.add_assoc nid, Nat.reduceAdd, reduceCtorEq, ↓reduceIte, Nat.reduceLeDiff, colPV, freeOf, indep, offO, neqO, disj, namesX, axSlot, opXs, rdXs, idsOf, idsOfs, lowH, lowAll, keys, Nat.reduceBneDiff, Option.toList, ← Int.ofNat_tmod, ← Int.ofNat_tdiv, optInt, fillP, repl, chunk, mkCols, mkCol, colInts, colBools, colStrs, colLits, colsApp, Col.app, tailOf, splice, colsPut, Col.put, mmFold, eqK, Nat.reduceLT, colsPaste, Col.paste]
  · have h0 : l.length = 0 := by simpa using h
    refine RetOK.pure (.inl rfl) rfl ?_
    simp [retPV, over, keys, List.map_nil, List.map_cons, List.contains_cons, List.contains_nil, Bool.or_false, Bool.or_true, Bool.true_or, Bool.false_or, beq_self_eq_true, cond_true, cond_false, HeapCov, orNil, nilSz, onBlk, srcOf, getH_hit, getH_miss, getH.eq_1, getS_hit, getS_miss, getS.eq_1, BlkCov, PVCovs, PVCov, ColsEq, ColEq.refl, liveIds, SlotsCov, List.all_nil, List.all_cons, List.any_nil, List.any_cons, List.nil_append, List.cons_append, inRange, apart, nilBlk, idS1, idS2, readAll, readRes, onAll, step, res, AX.val, List.drop_zero, List.drop_succ_cons, List.take_succ_cons, List.take_zero, flashFault, h0]
  have h0 : l.length ≠ 0 := by simpa using h
  refine S2.dec (fun h1 => ?_) (fun h1 => ?_) <;> simp -dsimp only [aqT, ROp, OX, ↓seqK, ↓blkK, ↓loopK, step, stepBin, res, stepIdx, mix, PV.cells, argSlots, Nat.reduceBEq, Nat.reduceBeqDiff, Nat.add_assoc nid, Nat.reduceAdd, reduceCtorEq, ↓reduceIte, Nat.reduceLeDiff, colPV, freeOf, indep, offO, neqO, disj, namesX, axSlot, opXs, rdXs, idsOf, idsOfs, lowH, lowAll, keys, Nat.reduceBneDiff, Option.toList, ← Int.ofNat_tmod, ← Int.ofNat_tdiv, optInt, fillP, repl, chunk, mkCols, mkCol, colInts, colBools, colStrs, colLits, colsApp, Col.app, tailOf, splice, colsPut, Col.put, mmFold, eqK, Nat.reduceLT, colsPaste, Col.paste]
  · refine RetOK.pure (.inl rfl) rfl ?_
    have h2 : 20 < l.length := by omega
    simp [retPV, over, keys, List.map_nil, List.map_cons, List.contains_cons, List.contains_nil, Bool.or_false, Bool.or_true, Bool.true_or, Bool.false_or, beq_self_eq_true, cond_true, cond_false, HeapCov, orNil, nilSz, onBlk, srcOf, getH_hit, getH_miss, getH.eq_1, getS_hit, getS_miss, getS.eq_1, BlkCov, PVCovs, PVCov, ColsEq, ColEq.refl, liveIds, SlotsCov, List.all_nil, List.all_cons, List.any_nil, List.any_cons, List.nil_append, List.cons_append, inRange, apart, nilBlk, idS1, idS2, readAll, readRes, onAll, step, res, AX.val, List.drop_zero, List.drop_succ_cons, List.take_succ_cons, List.take_zero, flashFault, h0, h2]
  have h2 : l.length ≤ 20 := by omega
  refine LP.mkP (fun k : Nat => k ≤ l.length ∧ firstBad secBad (l.take k) = 0) (fun k : Nat => ⟨[(18, .int .i64 k), (17, .int .i64 l.length), (16, litI nl l), (1, .ptr nid 0)], [(nid, some (.box 27 [litI nl l]))], nid + 60, nid⟩) (fun k => l.length + 1 - k) 0 ⟨by omega, rfl⟩ (Cov.go [] [] ?_) (fun k hk => ?_)
  · simp [retPV, over, keys, List.map_nil, List.map_cons, List.contains_cons, List.contains_nil, Bool.or_false, Bool.or_true, Bool.true_or, Bool.false_or, beq_self_eq_true, cond_true, cond_false, HeapCov, orNil, nilSz, onBlk, srcOf, getH_hit, getH_miss, getH.eq_1, getS_hit, getS_miss, getS.eq_1, BlkCov, PVCovs, PVCov, ColsEq, ColEq.refl, liveIds, SlotsCov, List.all_nil, List.all_cons, List.any_nil, List.any_cons, List.nil_append, List.cons_append, inRange, apart, nilBlk, idS1, idS2, readAll, readRes, onAll, step, res, AX.val, List.drop_zero, List.drop_succ_cons, List.take_succ_cons, List.take_zero, litI]
  unfold litI
  obtain ⟨hk, hb⟩ := hk
  simp -dsimp only [aqT, ROp, OX, ↓seqK, ↓blkK, ↓loopK, step, stepBin, res, stepIdx, mix, PV.cells, argSlots, Nat.reduceBEq, Nat.reduceBeqDiff, Nat.add_assoc nid, Nat.reduceAdd, reduceCtorEq, ↓reduceIte, Nat.reduceLeDiff, colPV, freeOf, indep, offO, neqO, disj, namesX, axSlot, opXs, rdXs, idsOf, idsOfs, lowH, lowAll, keys, Nat.reduceBneDiff, Option.toList, ← Int.ofNat_tmod, ← Int.ofNat_tdiv, optInt, fillP, repl, chunk, mkCols, mkCol, colInts, colBools, colStrs, colLits, colsApp, Col.app, tailOf, splice, colsPut, Col.put, mmFold, eqK, Nat.reduceLT, colsPaste, Col.paste]
  refine S2.dec (fun h3 => ?_) (fun h3 => ?_) <;> simp -dsimp only [aqT, ROp, OX, ↓seqK, ↓blkK, ↓loopK, step, stepBin, res, stepIdx, mix, PV.cells, argSlots, Nat.reduceBEq, Nat.reduceBeqDiff, Nat.add_assoc nid, Nat.reduceAdd, reduceCtorEq, ↓reduceIte, Nat.reduceLeDiff, colPV, freeOf, indep, offO, neqO, disj, namesX, axSlot, opXs, rdXs, idsOf, idsOfs, lowH, lowAll, keys, Nat.reduceBneDiff, Option.toList, ← Int.ofNat_tmod, ← Int.ofNat_tdiv, optInt, fillP, repl, chunk, mkCols, mkCol, colInts, colBools, colStrs, colLits, colsApp, Col.app, tailOf, splice, colsPut, Col.put, mmFold, eqK, Nat.reduceLT, colsPaste, Col.paste]
  · refine ⟨by omega, CallO.pure (out_c _ _ _ _) ?_⟩
    simp -dsimp only [aqT, ROp, OX, ↓seqK, ↓blkK, ↓loopK, step, stepBin, res, stepIdx, mix, PV.cells, argSlots, Nat.reduceBEq, Nat.reduceBeqDiff, Nat.add_assoc nid, Nat.reduceAdd, reduceCtorEq, ↓reduceIte, Nat.reduceLeDiff, colPV, freeOf, indep, offO, neqO, disj, namesX, axSlot, opXs, rdXs, idsOf, idsOfs, lowH, lowAll, keys, Nat.reduceBneDiff, Option.toList, ← Int.ofNat_tmod, ← Int.ofNat_tdiv, optInt, fillP, repl, chunk, mkCols, mkCol, colInts, colBools, colStrs, colLits, colsApp, Col.app, tailOf, splice, colsPut, Col.put, mmFold, eqK, Nat.reduceLT, colsPaste, Col.paste, Bool.not_not]
    refine S2.intro (fun h4 => ?_) (fun h4 => ?_) <;> simp -dsimp only [aqT, ROp, OX, ↓seqK, ↓blkK, ↓loopK, step, stepBin, res, stepIdx, mix, PV.cells, argSlots, Nat.reduceBEq, Nat.reduceBeqDiff, Nat.add_assoc nid, Nat.reduceAdd, reduceCtorEq, ↓reduceIte, Nat.reduceLeDiff, colPV, freeOf, indep, offO, neqO, disj, namesX, axSlot, opXs, rdXs, idsOf, idsOfs, lowH, lowAll, keys, Nat.reduceBneDiff, Option.toList, ← Int.ofNat_tmod, ← Int.ofNat_tdiv, optInt, fillP, repl, chunk, mkCols, mkCol, colInts, colBools, colStrs, colLits, colsApp, Col.app, tailOf, splice, colsPut, Col.put, mmFold, eqK, Nat.reduceLT, colsPaste, Col.paste]
    · refine RetOK.pure (.inl rfl) rfl ?_
      have hs : secBad (l.getD k 0) = 1 := by unfold secBad; rw [h4]; rfl
      have := badH (by omega) hb (by rw [hs]; decide)
      have hf : flashFault l = 1 := by unfold flashFault; rw [if_neg h0, if_neg (by omega), if_pos (by rw [this, hs]; decide)]
      simp [retPV, over, keys, List.map_nil, List.map_cons, List.contains_cons, List.contains_nil, Bool.or_false, Bool.or_true, Bool.true_or, Bool.false_or, beq_self_eq_true, cond_true, cond_false, HeapCov, orNil, nilSz, onBlk, srcOf, getH_hit, getH_miss, getH.eq_1, getS_hit, getS_miss, getS.eq_1, BlkCov, PVCovs, PVCov, ColsEq, ColEq.refl, liveIds, SlotsCov, List.all_nil, List.all_cons, List.any_nil, List.any_cons, List.nil_append, List.cons_append, inRange, apart, nilBlk, idS1, idS2, readAll, readRes, onAll, step, res, AX.val, List.drop_zero, List.drop_succ_cons, List.take_succ_cons, List.take_zero, hf]
    · have hs : secBad (l.getD k 0) = 0 := by unfold secBad; rw [h4]; rfl
      refine ⟨by unfold inI64; omega, k + 1, ⟨⟨by omega, badS (by omega) hb hs⟩, by omega⟩, Cov.go [] [] ?_⟩
      simp [retPV, over, keys, List.map_nil, List.map_cons, List.contains_cons, List.contains_nil, Bool.or_false, Bool.or_true, Bool.true_or, Bool.false_or, beq_self_eq_true, cond_true, cond_false, HeapCov, orNil, nilSz, onBlk, srcOf, getH_hit, getH_miss, getH.eq_1, getS_hit, getS_miss, getS.eq_1, BlkCov, PVCovs, PVCov, ColsEq, ColEq.refl, liveIds, SlotsCov, List.all_nil, List.all_cons, List.any_nil, List.any_cons, List.nil_append, List.cons_append, inRange, apart, nilBlk, idS1, idS2, readAll, readRes, onAll, step, res, AX.val, List.drop_zero, List.drop_succ_cons, List.take_succ_cons, List.take_zero, litI]
  · have : k = l.length := by omega
    subst this
    rw [List.take_length] at hb
    have hw := within_of_secBad hb
    refine CallO.pure (size_c nl l _ (by omega) (fun k _ => sums_in hw h2 k)) ?_
    simp -dsimp only [aqT, ROp, OX, ↓seqK, ↓blkK, ↓loopK, step, stepBin, res, stepIdx, mix, PV.cells, argSlots, Nat.reduceBEq, Nat.reduceBeqDiff, Nat.add_assoc nid, Nat.reduceAdd, reduceCtorEq, ↓reduceIte, Nat.reduceLeDiff, colPV, freeOf, indep, offO, neqO, disj, namesX, axSlot, opXs, rdXs, idsOf, idsOfs, lowH, lowAll, keys, Nat.reduceBneDiff, Option.toList, ← Int.ofNat_tmod, ← Int.ofNat_tdiv, optInt, fillP, repl, chunk, mkCols, mkCol, colInts, colBools, colStrs, colLits, colsApp, Col.app, tailOf, splice, colsPut, Col.put, mmFold, eqK, Nat.reduceLT, colsPaste, Col.paste]
    refine S2.dec (fun h4 => ?_) (fun h4 => ?_) <;> simp -dsimp only [aqT, ROp, OX, ↓seqK, ↓blkK, ↓loopK, step, stepBin, res, stepIdx, mix, PV.cells, argSlots, Nat.reduceBEq, Nat.reduceBeqDiff, Nat.add_assoc nid, Nat.reduceAdd, reduceCtorEq, ↓reduceIte, Nat.reduceLeDiff, colPV, freeOf, indep, offO, neqO, disj, namesX, axSlot, opXs, rdXs, idsOf, idsOfs, lowH, lowAll, keys, Nat.reduceBneDiff, Option.toList, ← Int.ofNat_tmod, ← Int.ofNat_tdiv, optInt, fillP, repl, chunk, mkCols, mkCol, colInts, colBools, colStrs, colLits, colsApp, Col.app, tailOf, splice, colsPut, Col.put, mmFold, eqK, Nat.reduceLT, colsPaste, Col.paste] <;> refine RetOK.pure (.inl rfl) rfl ?_ <;> rw [flashFault_mk h0 h2 hb] <;> simp [retPV, over, keys, List.map_nil, List.map_cons, List.contains_cons, List.contains_nil, Bool.or_false, Bool.or_true, Bool.true_or, Bool.false_or, beq_self_eq_true, cond_true, cond_false, HeapCov, orNil, nilSz, onBlk, srcOf, getH_hit, getH_miss, getH.eq_1, getS_hit, getS_miss, getS.eq_1, BlkCov, PVCovs, PVCov, ColsEq, ColEq.refl, liveIds, SlotsCov, List.all_nil, List.all_cons, List.any_nil, List.any_cons, List.nil_append, List.cons_append, inRange, apart, nilBlk, idS1, idS2, readAll, readRes, onAll, step, res, AX.val, List.drop_zero, List.drop_succ_cons, List.take_succ_cons, List.take_zero, h4] <;> omega
theorem flashFault_c (nl : Bool) (l : List Int) (nid : Nat) (hl : l.length ≤ 1000000000) : ACall Try.prog 13 [.agg [litI nl l]] [] nid (.int .i64 (flashFault l)) [] := by
  refine acall_run c13 (by simp [a13]) ?_
  unfold litI
  simp -dsimp only [a13, aqT, ROp, OX, ↓seqK, ↓blkK, ↓loopK, step, stepBin, res, stepIdx, mix, PV.cells, argSlots, Nat.reduceBEq, Nat.reduceBeqDiff, Nat.add_assoc nid, Nat.reduceAdd, reduceCtorEq, ↓reduceIte, Nat.reduceLeDiff, colPV, freeOf, indep, offO, neqO, disj, namesX, axSlot, opXs, rdXs, idsOf, idsOfs, lowH, lowAll, keys, Nat.reduceBneDiff, Option.toList, ← Int.ofNat_tmod, ← Int.ofNat_tdiv, optInt, fillP, repl, chunk, mkCols, mkCol, colInts, colBools, colStrs, colLits, colsApp, Col.app, tailOf, splice, colsPut, Col.put, mmFold, eqK, Nat.reduceLT, colsPaste, Col.paste]
  refine S2.intro (fun h => ?_) (fun h => ?_) <;> simp -dsimp only [aqT, ROp, OX, ↓seqK, ↓blkK, ↓loopK, step, stepBin, res, stepIdx, mix, PV.cells, argSlots, Nat.reduceBEq, Nat.reduceBeqDiff, Nat.add_assoc nid, Nat.reduceAdd, reduceCtorEq, ↓reduceIte, Nat.reduceLeDiff, colPV, freeOf, indep, offO, neqO, disj, namesX, axSlot, opXs, rdXs, idsOf, idsOfs, lowH, lowAll, keys, Nat.reduceBneDiff, Option.toList, ← Int.ofNat_tmod, ← Int.ofNat_tdiv, optInt, fillP, repl, chunk, mkCols, mkCol, colInts, colBools, colStrs, colLits, colsApp, Col.app, tailOf, splice, colsPut, Col.put, mmFold, eqK, Nat.reduceLT, colsPaste, Col.paste]
  · have h0 : l.length = 0 := by simpa using h
    refine RetOK.pure (.inl rfl) rfl ?_
    simp [retPV, over, keys, List.map_nil, List.map_cons, List.contains_cons, List.contains_nil, Bool.or_false, Bool.or_true, Bool.true_or, Bool.false_or, beq_self_eq_true, cond_true, cond_false, HeapCov, orNil, nilSz, onBlk, srcOf, getH_hit, getH_miss, getH.eq_1, getS_hit, getS_miss, getS.eq_1, BlkCov, PVCovs, PVCov, ColsEq, ColEq.refl, liveIds, SlotsCov, List.all_nil, List.all_cons, List.any_nil, List.any_cons, List.nil_append, List.cons_append, inRange, apart, nilBlk, idS1, idS2, readAll, readRes, onAll, step, res, AX.val, List.drop_zero, List.drop_succ_cons, List.take_succ_cons, List.take_zero, flashFault, h0]
  have h0 : l.length ≠ 0 := by simpa using h
  refine S2.dec (fun h1 => ?_) (fun h1 => ?_) <;> simp -dsimp only [aqT, ROp, OX, ↓seqK, ↓blkK, ↓loopK, step, stepBin, res, stepIdx, mix, PV.cells, argSlots, Nat.reduceBEq, Nat.reduceBeqDiff, Nat.add_assoc nid, Nat.reduceAdd, reduceCtorEq, ↓reduceIte, Nat.reduceLeDiff, colPV, freeOf, indep, offO, neqO, disj, namesX, axSlot, opXs, rdXs, idsOf, idsOfs, lowH, lowAll, keys, Nat.reduceBneDiff, Option.toList, ← Int.ofNat_tmod, ← Int.ofNat_tdiv, optInt, fillP, repl, chunk, mkCols, mkCol, colInts, colBools, colStrs, colLits, colsApp, Col.app, tailOf, splice, colsPut, Col.put, mmFold, eqK, Nat.reduceLT, colsPaste, Col.paste]
  · refine RetOK.pure (.inl rfl) rfl ?_
    have h2 : 20 < l.length := by omega
    simp [retPV, over, keys, List.map_nil, List.map_cons, List.contains_cons, List.contains_nil, Bool.or_false, Bool.or_true, Bool.true_or, Bool.false_or, beq_self_eq_true, cond_true, cond_false, HeapCov, orNil, nilSz, onBlk, srcOf, getH_hit, getH_miss, getH.eq_1, getS_hit, getS_miss, getS.eq_1, BlkCov, PVCovs, PVCov, ColsEq, ColEq.refl, liveIds, SlotsCov, List.all_nil, List.all_cons, List.any_nil, List.any_cons, List.nil_append, List.cons_append, inRange, apart, nilBlk, idS1, idS2, readAll, readRes, onAll, step, res, AX.val, List.drop_zero, List.drop_succ_cons, List.take_succ_cons, List.take_zero, flashFault, h0, h2]
  have h2 : l.length ≤ 20 := by omega
  refine LP.mkP (fun k : Nat => k ≤ l.length ∧ firstBad secBad (l.take k) = 0) (fun k : Nat => ⟨[(18, .int .i64 k), (17, .int .i64 l.length), (16, litI nl l), (1, .ptr nid 0)], [(nid, some (.box 27 [litI nl l]))], nid + 60, nid⟩) (fun k => l.length + 1 - k) 0 ⟨by omega, rfl⟩ (Cov.go [] [] ?_) (fun k hk => ?_)
  · simp [retPV, over, keys, List.map_nil, List.map_cons, List.contains_cons, List.contains_nil, Bool.or_false, Bool.or_true, Bool.true_or, Bool.false_or, beq_self_eq_true, cond_true, cond_false, HeapCov, orNil, nilSz, onBlk, srcOf, getH_hit, getH_miss, getH.eq_1, getS_hit, getS_miss, getS.eq_1, BlkCov, PVCovs, PVCov, ColsEq, ColEq.refl, liveIds, SlotsCov, List.all_nil, List.all_cons, List.any_nil, List.any_cons, List.nil_append, List.cons_append, inRange, apart, nilBlk, idS1, idS2, readAll, readRes, onAll, step, res, AX.val, List.drop_zero, List.drop_succ_cons, List.take_succ_cons, List.take_zero, litI]
  unfold litI
  obtain ⟨hk, hb⟩ := hk
  simp -dsimp only [aqT, ROp, OX, ↓seqK, ↓blkK, ↓loopK, step, stepBin, res, stepIdx, mix, PV.cells, argSlots, Nat.reduceBEq, Nat.reduceBeqDiff, Nat.add_assoc nid, Nat.reduceAdd, reduceCtorEq, ↓reduceIte, Nat.reduceLeDiff, colPV, freeOf, indep, offO, neqO, disj, namesX, axSlot, opXs, rdXs, idsOf, idsOfs, lowH, lowAll, keys, Nat.reduceBneDiff, Option.toList, ← Int.ofNat_tmod, ← Int.ofNat_tdiv, optInt, fillP, repl, chunk, mkCols, mkCol, colInts, colBools, colStrs, colLits, colsApp, Col.app, tailOf, splice, colsPut, Col.put, mmFold, eqK, Nat.reduceLT, colsPaste, Col.paste]
  refine S2.dec (fun h3 => ?_) (fun h3 => ?_) <;> simp -dsimp only [aqT, ROp, OX, ↓seqK, ↓blkK, ↓loopK, step, stepBin, res, stepIdx, mix, PV.cells, argSlots, Nat.reduceBEq, Nat.reduceBeqDiff, Nat.add_assoc nid, Nat.reduceAdd, reduceCtorEq, ↓reduceIte, Nat.reduceLeDiff, colPV, freeOf, indep, offO, neqO, disj, namesX, axSlot, opXs, rdXs, idsOf, idsOfs, lowH, lowAll, keys, Nat.reduceBneDiff, Option.toList, ← Int.ofNat_tmod, ← Int.ofNat_tdiv, optInt, fillP, repl, chunk, mkCols, mkCol, colInts, colBools, colStrs, colLits, colsApp, Col.app, tailOf, splice, colsPut, Col.put, mmFold, eqK, Nat.reduceLT, colsPaste, Col.paste]
  · refine ⟨by omega, CallO.pure (in_c _ _ _ _) ?_⟩
    simp -dsimp only [aqT, ROp, OX, ↓seqK, ↓blkK, ↓loopK, step, stepBin, res, stepIdx, mix, PV.cells, argSlots, Nat.reduceBEq, Nat.reduceBeqDiff, Nat.add_assoc nid, Nat.reduceAdd, reduceCtorEq, ↓reduceIte, Nat.reduceLeDiff, colPV, freeOf, indep, offO, neqO, disj, namesX, axSlot, opXs, rdXs, idsOf, idsOfs, lowH, lowAll, keys, Nat.reduceBneDiff, Option.toList, ← Int.ofNat_tmod, ← Int.ofNat_tdiv, optInt, fillP, repl, chunk, mkCols, mkCol, colInts, colBools, colStrs, colLits, colsApp, Col.app, tailOf, splice, colsPut, Col.put, mmFold, eqK, Nat.reduceLT, colsPaste, Col.paste, Bool.not_not]
    refine S2.intro (fun h4 => ?_) (fun h4 => ?_) <;> simp -dsimp only [aqT, ROp, OX, ↓seqK, ↓blkK, ↓loopK, step, stepBin, res, stepIdx, mix, PV.cells, argSlots, Nat.reduceBEq, Nat.reduceBeqDiff, Nat.add_assoc nid, Nat.reduceAdd, reduceCtorEq, ↓reduceIte, Nat.reduceLeDiff, colPV, freeOf, indep, offO, neqO, disj, namesX, axSlot, opXs, rdXs, idsOf, idsOfs, lowH, lowAll, keys, Nat.reduceBneDiff, Option.toList, ← Int.ofNat_tmod, ← Int.ofNat_tdiv, optInt, fillP, repl, chunk, mkCols, mkCol, colInts, colBools, colStrs, colLits, colsApp, Col.app, tailOf, splice, colsPut, Col.put, mmFold, eqK, Nat.reduceLT, colsPaste, Col.paste]
    · refine RetOK.pure (.inl rfl) rfl ?_
      have hs : secBad (l.getD k 0) = 1 := by unfold secBad; rw [h4]; rfl
      have := badH (by omega) hb (by rw [hs]; decide)
      have hf : flashFault l = 1 := by unfold flashFault; rw [if_neg h0, if_neg (by omega), if_pos (by rw [this, hs]; decide)]
      simp [retPV, over, keys, List.map_nil, List.map_cons, List.contains_cons, List.contains_nil, Bool.or_false, Bool.or_true, Bool.true_or, Bool.false_or, beq_self_eq_true, cond_true, cond_false, HeapCov, orNil, nilSz, onBlk, srcOf, getH_hit, getH_miss, getH.eq_1, getS_hit, getS_miss, getS.eq_1, BlkCov, PVCovs, PVCov, ColsEq, ColEq.refl, liveIds, SlotsCov, List.all_nil, List.all_cons, List.any_nil, List.any_cons, List.nil_append, List.cons_append, inRange, apart, nilBlk, idS1, idS2, readAll, readRes, onAll, step, res, AX.val, List.drop_zero, List.drop_succ_cons, List.take_succ_cons, List.take_zero, hf]
    · have hs : secBad (l.getD k 0) = 0 := by unfold secBad; rw [h4]; rfl
      refine ⟨by unfold inI64; omega, k + 1, ⟨⟨by omega, badS (by omega) hb hs⟩, by omega⟩, Cov.go [] [] ?_⟩
      simp [retPV, over, keys, List.map_nil, List.map_cons, List.contains_cons, List.contains_nil, Bool.or_false, Bool.or_true, Bool.true_or, Bool.false_or, beq_self_eq_true, cond_true, cond_false, HeapCov, orNil, nilSz, onBlk, srcOf, getH_hit, getH_miss, getH.eq_1, getS_hit, getS_miss, getS.eq_1, BlkCov, PVCovs, PVCov, ColsEq, ColEq.refl, liveIds, SlotsCov, List.all_nil, List.all_cons, List.any_nil, List.any_cons, List.nil_append, List.cons_append, inRange, apart, nilBlk, idS1, idS2, readAll, readRes, onAll, step, res, AX.val, List.drop_zero, List.drop_succ_cons, List.take_succ_cons, List.take_zero, litI]
  · have : k = l.length := by omega
    subst this
    rw [List.take_length] at hb
    have hw := within_of_secBad hb
    refine CallO.pure (wordsOf_c nl l _ (by omega) (fun k _ => sums_in hw h2 k)) ?_
    simp -dsimp only [aqT, ROp, OX, ↓seqK, ↓blkK, ↓loopK, step, stepBin, res, stepIdx, mix, PV.cells, argSlots, Nat.reduceBEq, Nat.reduceBeqDiff, Nat.add_assoc nid, Nat.reduceAdd, reduceCtorEq, ↓reduceIte, Nat.reduceLeDiff, colPV, freeOf, indep, offO, neqO, disj, namesX, axSlot, opXs, rdXs, idsOf, idsOfs, lowH, lowAll, keys, Nat.reduceBneDiff, Option.toList, ← Int.ofNat_tmod, ← Int.ofNat_tdiv, optInt, fillP, repl, chunk, mkCols, mkCol, colInts, colBools, colStrs, colLits, colsApp, Col.app, tailOf, splice, colsPut, Col.put, mmFold, eqK, Nat.reduceLT, colsPaste, Col.paste]
    refine S2.dec (fun h4 => ?_) (fun h4 => ?_) <;> simp -dsimp only [aqT, ROp, OX, ↓seqK, ↓blkK, ↓loopK, step, stepBin, res, stepIdx, mix, PV.cells, argSlots, Nat.reduceBEq, Nat.reduceBeqDiff, Nat.add_assoc nid, Nat.reduceAdd, reduceCtorEq, ↓reduceIte, Nat.reduceLeDiff, colPV, freeOf, indep, offO, neqO, disj, namesX, axSlot, opXs, rdXs, idsOf, idsOfs, lowH, lowAll, keys, Nat.reduceBneDiff, Option.toList, ← Int.ofNat_tmod, ← Int.ofNat_tdiv, optInt, fillP, repl, chunk, mkCols, mkCol, colInts, colBools, colStrs, colLits, colsApp, Col.app, tailOf, splice, colsPut, Col.put, mmFold, eqK, Nat.reduceLT, colsPaste, Col.paste] <;> refine RetOK.pure (.inl rfl) rfl ?_ <;> rw [flashFault_mk h0 h2 hb] <;> simp [retPV, over, keys, List.map_nil, List.map_cons, List.contains_cons, List.contains_nil, Bool.or_false, Bool.or_true, Bool.true_or, Bool.false_or, beq_self_eq_true, cond_true, cond_false, HeapCov, orNil, nilSz, onBlk, srcOf, getH_hit, getH_miss, getH.eq_1, getS_hit, getS_miss, getS.eq_1, BlkCov, PVCovs, PVCov, ColsEq, ColEq.refl, liveIds, SlotsCov, List.all_nil, List.all_cons, List.any_nil, List.any_cons, List.nil_append, List.cons_append, inRange, apart, nilBlk, idS1, idS2, readAll, readRes, onAll, step, res, AX.val, List.drop_zero, List.drop_succ_cons, List.take_succ_cons, List.take_zero, h4] <;> omega
theorem imageFault_c (nl nlw : Bool) (l ws : List Int) (nid : Nat) (hff : flashFault l = 0) (hl : ws.length ≤ 1000000000) : ACall Try.prog 54 [.agg [litI nl l], litI nlw ws] [] nid (.int .i64 (imageFault l ws)) [] := by
  have hok := flashFault_ok hff
  refine acall_run c54 (by simp [a54]) ?_
  unfold litI
  simp -dsimp only [a54, aqT, ROp, OX, ↓seqK, ↓blkK, ↓loopK, step, stepBin, res, stepIdx, mix, PV.cells, argSlots, Nat.reduceBEq, Nat.reduceBeqDiff, Nat.add_assoc nid, Nat.reduceAdd, reduceCtorEq, ↓reduceIte, Nat.reduceLeDiff, colPV, freeOf, indep, offO, neqO, disj, namesX, axSlot, opXs, rdXs, idsOf, idsOfs, lowH, lowAll, keys, Nat.reduceBneDiff, Option.toList, ← Int.ofNat_tmod, ← Int.ofNat_tdiv, optInt, fillP, repl, chunk, mkCols, mkCol, colInts, colBools, colStrs, colLits, colsApp, Col.app, tailOf, splice, colsPut, Col.put, mmFold, eqK, Nat.reduceLT, colsPaste, Col.paste]
  refine CallO.pure (wordsOf_c nl l _ (by have := hok.len; omega) (fun k _ => sums_in hok.wit hok.len k)) ?_
  simp -dsimp only [aqT, ROp, OX, ↓seqK, ↓blkK, ↓loopK, step, stepBin, res, stepIdx, mix, PV.cells, argSlots, Nat.reduceBEq, Nat.reduceBeqDiff, Nat.add_assoc nid, Nat.reduceAdd, reduceCtorEq, ↓reduceIte, Nat.reduceLeDiff, colPV, freeOf, indep, offO, neqO, disj, namesX, axSlot, opXs, rdXs, idsOf, idsOfs, lowH, lowAll, keys, Nat.reduceBneDiff, Option.toList, ← Int.ofNat_tmod, ← Int.ofNat_tdiv, optInt, fillP, repl, chunk, mkCols, mkCol, colInts, colBools, colStrs, colLits, colsApp, Col.app, tailOf, splice, colsPut, Col.put, mmFold, eqK, Nat.reduceLT, colsPaste, Col.paste]
  refine S2.intro (fun h => ?_) (fun h => ?_) <;> simp -dsimp only [aqT, ROp, OX, ↓seqK, ↓blkK, ↓loopK, step, stepBin, res, stepIdx, mix, PV.cells, argSlots, Nat.reduceBEq, Nat.reduceBeqDiff, Nat.add_assoc nid, Nat.reduceAdd, reduceCtorEq, ↓reduceIte, Nat.reduceLeDiff, colPV, freeOf, indep, offO, neqO, disj, namesX, axSlot, opXs, rdXs, idsOf, idsOfs, lowH, lowAll, keys, Nat.reduceBneDiff, Option.toList, ← Int.ofNat_tmod, ← Int.ofNat_tdiv, optInt, fillP, repl, chunk, mkCols, mkCol, colInts, colBools, colStrs, colLits, colsApp, Col.app, tailOf, splice, colsPut, Col.put, mmFold, eqK, Nat.reduceLT, colsPaste, Col.paste]
  · refine RetOK.pure (.inl rfl) rfl ?_
    have h1 : (ws.length : Int) ≠ sumI l := by simpa using h
    simp [retPV, over, keys, List.map_nil, List.map_cons, List.contains_cons, List.contains_nil, Bool.or_false, Bool.or_true, Bool.true_or, Bool.false_or, beq_self_eq_true, cond_true, cond_false, HeapCov, orNil, nilSz, onBlk, srcOf, getH_hit, getH_miss, getH.eq_1, getS_hit, getS_miss, getS.eq_1, BlkCov, PVCovs, PVCov, ColsEq, ColEq.refl, liveIds, SlotsCov, List.all_nil, List.all_cons, List.any_nil, List.any_cons, List.nil_append, List.cons_append, inRange, apart, nilBlk, idS1, idS2, readAll, readRes, onAll, step, res, AX.val, List.drop_zero, List.drop_succ_cons, List.take_succ_cons, List.take_zero, imageFault, h1]
  have hlen : (ws.length : Int) = sumI l := by simpa using h
  refine LP.mkP (fun k : Nat => k ≤ ws.length ∧ firstBad wordBad (ws.take k) = 0) (fun k : Nat => ⟨[(14, .int .i64 k), (13, .int .i64 ws.length), (12, litI nlw ws)], [], nid + 48, nid⟩) (fun k => ws.length + 1 - k) 0 ⟨by omega, rfl⟩ (Cov.go [] [] ?_) (fun k hk => ?_)
  · simp [retPV, over, keys, List.map_nil, List.map_cons, List.contains_cons, List.contains_nil, Bool.or_false, Bool.or_true, Bool.true_or, Bool.false_or, beq_self_eq_true, cond_true, cond_false, HeapCov, orNil, nilSz, onBlk, srcOf, getH_hit, getH_miss, getH.eq_1, getS_hit, getS_miss, getS.eq_1, BlkCov, PVCovs, PVCov, ColsEq, ColEq.refl, liveIds, SlotsCov, List.all_nil, List.all_cons, List.any_nil, List.any_cons, List.nil_append, List.cons_append, inRange, apart, nilBlk, idS1, idS2, readAll, readRes, onAll, step, res, AX.val, List.drop_zero, List.drop_succ_cons, List.take_succ_cons, List.take_zero, litI]
  unfold litI
  obtain ⟨hk, hb⟩ := hk
  simp -dsimp only [aqT, ROp, OX, ↓seqK, ↓blkK, ↓loopK, step, stepBin, res, stepIdx, mix, PV.cells, argSlots, Nat.reduceBEq, Nat.reduceBeqDiff, Nat.add_assoc nid, Nat.reduceAdd, reduceCtorEq, ↓reduceIte, Nat.reduceLeDiff, colPV, freeOf, indep, offO, neqO, disj, namesX, axSlot, opXs, rdXs, idsOf, idsOfs, lowH, lowAll, keys, Nat.reduceBneDiff, Option.toList, ← Int.ofNat_tmod, ← Int.ofNat_tdiv, optInt, fillP, repl, chunk, mkCols, mkCol, colInts, colBools, colStrs, colLits, colsApp, Col.app, tailOf, splice, colsPut, Col.put, mmFold, eqK, Nat.reduceLT, colsPaste, Col.paste]
  refine S2.dec (fun h3 => ?_) (fun h3 => ?_) <;> simp -dsimp only [aqT, ROp, OX, ↓seqK, ↓blkK, ↓loopK, step, stepBin, res, stepIdx, mix, PV.cells, argSlots, Nat.reduceBEq, Nat.reduceBeqDiff, Nat.add_assoc nid, Nat.reduceAdd, reduceCtorEq, ↓reduceIte, Nat.reduceLeDiff, colPV, freeOf, indep, offO, neqO, disj, namesX, axSlot, opXs, rdXs, idsOf, idsOfs, lowH, lowAll, keys, Nat.reduceBneDiff, Option.toList, ← Int.ofNat_tmod, ← Int.ofNat_tdiv, optInt, fillP, repl, chunk, mkCols, mkCol, colInts, colBools, colStrs, colLits, colsApp, Col.app, tailOf, splice, colsPut, Col.put, mmFold, eqK, Nat.reduceLT, colsPaste, Col.paste]
  · refine ⟨by omega, CallO.pure (in_c _ _ _ _) ?_⟩
    simp -dsimp only [aqT, ROp, OX, ↓seqK, ↓blkK, ↓loopK, step, stepBin, res, stepIdx, mix, PV.cells, argSlots, Nat.reduceBEq, Nat.reduceBeqDiff, Nat.add_assoc nid, Nat.reduceAdd, reduceCtorEq, ↓reduceIte, Nat.reduceLeDiff, colPV, freeOf, indep, offO, neqO, disj, namesX, axSlot, opXs, rdXs, idsOf, idsOfs, lowH, lowAll, keys, Nat.reduceBneDiff, Option.toList, ← Int.ofNat_tmod, ← Int.ofNat_tdiv, optInt, fillP, repl, chunk, mkCols, mkCol, colInts, colBools, colStrs, colLits, colsApp, Col.app, tailOf, splice, colsPut, Col.put, mmFold, eqK, Nat.reduceLT, colsPaste, Col.paste, Bool.not_not]
    refine S2.intro (fun h4 => ?_) (fun h4 => ?_) <;> simp -dsimp only [aqT, ROp, OX, ↓seqK, ↓blkK, ↓loopK, step, stepBin, res, stepIdx, mix, PV.cells, argSlots, Nat.reduceBEq, Nat.reduceBeqDiff, Nat.add_assoc nid, Nat.reduceAdd, reduceCtorEq, ↓reduceIte, Nat.reduceLeDiff, colPV, freeOf, indep, offO, neqO, disj, namesX, axSlot, opXs, rdXs, idsOf, idsOfs, lowH, lowAll, keys, Nat.reduceBneDiff, Option.toList, ← Int.ofNat_tmod, ← Int.ofNat_tdiv, optInt, fillP, repl, chunk, mkCols, mkCol, colInts, colBools, colStrs, colLits, colsApp, Col.app, tailOf, splice, colsPut, Col.put, mmFold, eqK, Nat.reduceLT, colsPaste, Col.paste]
    · refine RetOK.pure (.inl rfl) rfl ?_
      have hs : wordBad (ws.getD k 0) = 1 := by unfold wordBad; rw [h4]; rfl
      have := badH (by omega) hb (by rw [hs]; decide)
      have hf : imageFault l ws = 1 := by unfold imageFault; rw [if_neg (by simpa using hlen), this, hs]
      simp [retPV, over, keys, List.map_nil, List.map_cons, List.contains_cons, List.contains_nil, Bool.or_false, Bool.or_true, Bool.true_or, Bool.false_or, beq_self_eq_true, cond_true, cond_false, HeapCov, orNil, nilSz, onBlk, srcOf, getH_hit, getH_miss, getH.eq_1, getS_hit, getS_miss, getS.eq_1, BlkCov, PVCovs, PVCov, ColsEq, ColEq.refl, liveIds, SlotsCov, List.all_nil, List.all_cons, List.any_nil, List.any_cons, List.nil_append, List.cons_append, inRange, apart, nilBlk, idS1, idS2, readAll, readRes, onAll, step, res, AX.val, List.drop_zero, List.drop_succ_cons, List.take_succ_cons, List.take_zero, hf, checkImage, hff]
    · have hs : wordBad (ws.getD k 0) = 0 := by unfold wordBad; rw [h4]; rfl
      refine ⟨by unfold inI64; omega, k + 1, ⟨⟨by omega, badS (by omega) hb hs⟩, by omega⟩, Cov.go [] [] ?_⟩
      simp [retPV, over, keys, List.map_nil, List.map_cons, List.contains_cons, List.contains_nil, Bool.or_false, Bool.or_true, Bool.true_or, Bool.false_or, beq_self_eq_true, cond_true, cond_false, HeapCov, orNil, nilSz, onBlk, srcOf, getH_hit, getH_miss, getH.eq_1, getS_hit, getS_miss, getS.eq_1, BlkCov, PVCovs, PVCov, ColsEq, ColEq.refl, liveIds, SlotsCov, List.all_nil, List.all_cons, List.any_nil, List.any_cons, List.nil_append, List.cons_append, inRange, apart, nilBlk, idS1, idS2, readAll, readRes, onAll, step, res, AX.val, List.drop_zero, List.drop_succ_cons, List.take_succ_cons, List.take_zero, litI]
  · have : k = ws.length := by omega
    subst this
    rw [List.take_length] at hb
    refine RetOK.pure (.inl rfl) rfl ?_
    have hf : imageFault l ws = 0 := by unfold imageFault; rw [if_neg (by simpa using hlen), hb]
    simp [retPV, over, keys, List.map_nil, List.map_cons, List.contains_cons, List.contains_nil, Bool.or_false, Bool.or_true, Bool.true_or, Bool.false_or, beq_self_eq_true, cond_true, cond_false, HeapCov, orNil, nilSz, onBlk, srcOf, getH_hit, getH_miss, getH.eq_1, getS_hit, getS_miss, getS.eq_1, BlkCov, PVCovs, PVCov, ColsEq, ColEq.refl, liveIds, SlotsCov, List.all_nil, List.all_cons, List.any_nil, List.any_cons, List.nil_append, List.cons_append, inRange, apart, nilBlk, idS1, idS2, readAll, readRes, onAll, step, res, AX.val, List.drop_zero, List.drop_succ_cons, List.take_succ_cons, List.take_zero, hf, checkImage, hff]
theorem checkImage_c (nl nlw : Bool) (l ws : List Int) (nid : Nat) (hll : l.length ≤ 1000000000) (hl : ws.length ≤ 1000000000) : ACall Try.prog 17 [.agg [litI nl l], litI nlw ws] [] nid (.int .i64 (checkImage l ws)) [] := by
  refine acall_run c17 (by simp [a17]) ?_
  unfold litI
  simp -dsimp only [a17, aqT, ROp, OX, ↓seqK, ↓blkK, ↓loopK, step, stepBin, res, stepIdx, mix, PV.cells, argSlots, Nat.reduceBEq, Nat.reduceBeqDiff, Nat.add_assoc nid, Nat.reduceAdd, reduceCtorEq, ↓reduceIte, Nat.reduceLeDiff, colPV, freeOf, indep, offO, neqO, disj, namesX, axSlot, opXs, rdXs, idsOf, idsOfs, lowH, lowAll, keys, Nat.reduceBneDiff, Option.toList, ← Int.ofNat_tmod, ← Int.ofNat_tdiv, optInt, fillP, repl, chunk, mkCols, mkCol, colInts, colBools, colStrs, colLits, colsApp, Col.app, tailOf, splice, colsPut, Col.put, mmFold, eqK, Nat.reduceLT, colsPaste, Col.paste]
  refine CallO.pure (checkFlash_c nl l _ hll) ?_
  simp -dsimp only [aqT, ROp, OX, ↓seqK, ↓blkK, ↓loopK, step, stepBin, res, stepIdx, mix, PV.cells, argSlots, Nat.reduceBEq, Nat.reduceBeqDiff, Nat.add_assoc nid, Nat.reduceAdd, reduceCtorEq, ↓reduceIte, Nat.reduceLeDiff, colPV, freeOf, indep, offO, neqO, disj, namesX, axSlot, opXs, rdXs, idsOf, idsOfs, lowH, lowAll, keys, Nat.reduceBneDiff, Option.toList, ← Int.ofNat_tmod, ← Int.ofNat_tdiv, optInt, fillP, repl, chunk, mkCols, mkCol, colInts, colBools, colStrs, colLits, colsApp, Col.app, tailOf, splice, colsPut, Col.put, mmFold, eqK, Nat.reduceLT, colsPaste, Col.paste]
  refine S2.intro (fun h => ?_) (fun h => ?_) <;> simp -dsimp only [aqT, ROp, OX, ↓seqK, ↓blkK, ↓loopK, step, stepBin, res, stepIdx, mix, PV.cells, argSlots, Nat.reduceBEq, Nat.reduceBeqDiff, Nat.add_assoc nid, Nat.reduceAdd, reduceCtorEq, ↓reduceIte, Nat.reduceLeDiff, colPV, freeOf, indep, offO, neqO, disj, namesX, axSlot, opXs, rdXs, idsOf, idsOfs, lowH, lowAll, keys, Nat.reduceBneDiff, Option.toList, ← Int.ofNat_tmod, ← Int.ofNat_tdiv, optInt, fillP, repl, chunk, mkCols, mkCol, colInts, colBools, colStrs, colLits, colsApp, Col.app, tailOf, splice, colsPut, Col.put, mmFold, eqK, Nat.reduceLT, colsPaste, Col.paste]
  · refine RetOK.pure (.inl rfl) rfl ?_
    have h1 : flashFault l ≠ 0 := by simpa using h
    simp [retPV, over, keys, List.map_nil, List.map_cons, List.contains_cons, List.contains_nil, Bool.or_false, Bool.or_true, Bool.true_or, Bool.false_or, beq_self_eq_true, cond_true, cond_false, HeapCov, orNil, nilSz, onBlk, srcOf, getH_hit, getH_miss, getH.eq_1, getS_hit, getS_miss, getS.eq_1, BlkCov, PVCovs, PVCov, ColsEq, ColEq.refl, liveIds, SlotsCov, List.all_nil, List.all_cons, List.any_nil, List.any_cons, List.nil_append, List.cons_append, inRange, apart, nilBlk, idS1, idS2, readAll, readRes, onAll, step, res, AX.val, List.drop_zero, List.drop_succ_cons, List.take_succ_cons, List.take_zero, checkImage, h1]
  have hff : flashFault l = 0 := by simpa using h
  have hok := flashFault_ok hff
  refine CallO.pure (size_c nl l _ (by omega) (fun k _ => sums_in hok.wit hok.len k)) ?_
  simp -dsimp only [aqT, ROp, OX, ↓seqK, ↓blkK, ↓loopK, step, stepBin, res, stepIdx, mix, PV.cells, argSlots, Nat.reduceBEq, Nat.reduceBeqDiff, Nat.add_assoc nid, Nat.reduceAdd, reduceCtorEq, ↓reduceIte, Nat.reduceLeDiff, colPV, freeOf, indep, offO, neqO, disj, namesX, axSlot, opXs, rdXs, idsOf, idsOfs, lowH, lowAll, keys, Nat.reduceBneDiff, Option.toList, ← Int.ofNat_tmod, ← Int.ofNat_tdiv, optInt, fillP, repl, chunk, mkCols, mkCol, colInts, colBools, colStrs, colLits, colsApp, Col.app, tailOf, splice, colsPut, Col.put, mmFold, eqK, Nat.reduceLT, colsPaste, Col.paste]
  refine S2.intro (fun h => ?_) (fun h => ?_) <;> simp -dsimp only [aqT, ROp, OX, ↓seqK, ↓blkK, ↓loopK, step, stepBin, res, stepIdx, mix, PV.cells, argSlots, Nat.reduceBEq, Nat.reduceBeqDiff, Nat.add_assoc nid, Nat.reduceAdd, reduceCtorEq, ↓reduceIte, Nat.reduceLeDiff, colPV, freeOf, indep, offO, neqO, disj, namesX, axSlot, opXs, rdXs, idsOf, idsOfs, lowH, lowAll, keys, Nat.reduceBneDiff, Option.toList, ← Int.ofNat_tmod, ← Int.ofNat_tdiv, optInt, fillP, repl, chunk, mkCols, mkCol, colInts, colBools, colStrs, colLits, colsApp, Col.app, tailOf, splice, colsPut, Col.put, mmFold, eqK, Nat.reduceLT, colsPaste, Col.paste]
  · refine RetOK.pure (.inl rfl) rfl ?_
    have h1 : (ws.length : Int) ≠ sumI l := by simpa using h
    simp [retPV, over, keys, List.map_nil, List.map_cons, List.contains_cons, List.contains_nil, Bool.or_false, Bool.or_true, Bool.true_or, Bool.false_or, beq_self_eq_true, cond_true, cond_false, HeapCov, orNil, nilSz, onBlk, srcOf, getH_hit, getH_miss, getH.eq_1, getS_hit, getS_miss, getS.eq_1, BlkCov, PVCovs, PVCov, ColsEq, ColEq.refl, liveIds, SlotsCov, List.all_nil, List.all_cons, List.any_nil, List.any_cons, List.nil_append, List.cons_append, inRange, apart, nilBlk, idS1, idS2, readAll, readRes, onAll, step, res, AX.val, List.drop_zero, List.drop_succ_cons, List.take_succ_cons, List.take_zero, checkImage, hff, imageFault, h1]
  have hlen : (ws.length : Int) = sumI l := by simpa using h
  refine LP.mkP (fun k : Nat => k ≤ ws.length ∧ firstBad wordBad (ws.take k) = 0) (fun k : Nat => ⟨[(20, .int .i64 k), (19, .int .i64 ws.length), (18, litI nlw ws)], [], nid + 100, nid⟩) (fun k => ws.length + 1 - k) 0 ⟨by omega, rfl⟩ (Cov.go [] [] ?_) (fun k hk => ?_)
  · simp [retPV, over, keys, List.map_nil, List.map_cons, List.contains_cons, List.contains_nil, Bool.or_false, Bool.or_true, Bool.true_or, Bool.false_or, beq_self_eq_true, cond_true, cond_false, HeapCov, orNil, nilSz, onBlk, srcOf, getH_hit, getH_miss, getH.eq_1, getS_hit, getS_miss, getS.eq_1, BlkCov, PVCovs, PVCov, ColsEq, ColEq.refl, liveIds, SlotsCov, List.all_nil, List.all_cons, List.any_nil, List.any_cons, List.nil_append, List.cons_append, inRange, apart, nilBlk, idS1, idS2, readAll, readRes, onAll, step, res, AX.val, List.drop_zero, List.drop_succ_cons, List.take_succ_cons, List.take_zero, litI]
  unfold litI
  obtain ⟨hk, hb⟩ := hk
  simp -dsimp only [aqT, ROp, OX, ↓seqK, ↓blkK, ↓loopK, step, stepBin, res, stepIdx, mix, PV.cells, argSlots, Nat.reduceBEq, Nat.reduceBeqDiff, Nat.add_assoc nid, Nat.reduceAdd, reduceCtorEq, ↓reduceIte, Nat.reduceLeDiff, colPV, freeOf, indep, offO, neqO, disj, namesX, axSlot, opXs, rdXs, idsOf, idsOfs, lowH, lowAll, keys, Nat.reduceBneDiff, Option.toList, ← Int.ofNat_tmod, ← Int.ofNat_tdiv, optInt, fillP, repl, chunk, mkCols, mkCol, colInts, colBools, colStrs, colLits, colsApp, Col.app, tailOf, splice, colsPut, Col.put, mmFold, eqK, Nat.reduceLT, colsPaste, Col.paste]
  refine S2.dec (fun h3 => ?_) (fun h3 => ?_) <;> simp -dsimp only [aqT, ROp, OX, ↓seqK, ↓blkK, ↓loopK, step, stepBin, res, stepIdx, mix, PV.cells, argSlots, Nat.reduceBEq, Nat.reduceBeqDiff, Nat.add_assoc nid, Nat.reduceAdd, reduceCtorEq, ↓reduceIte, Nat.reduceLeDiff, colPV, freeOf, indep, offO, neqO, disj, namesX, axSlot, opXs, rdXs, idsOf, idsOfs, lowH, lowAll, keys, Nat.reduceBneDiff, Option.toList, ← Int.ofNat_tmod, ← Int.ofNat_tdiv, optInt, fillP, repl, chunk, mkCols, mkCol, colInts, colBools, colStrs, colLits, colsApp, Col.app, tailOf, splice, colsPut, Col.put, mmFold, eqK, Nat.reduceLT, colsPaste, Col.paste]
  · refine ⟨by omega, CallO.pure (out_c _ _ _ _) ?_⟩
    simp -dsimp only [aqT, ROp, OX, ↓seqK, ↓blkK, ↓loopK, step, stepBin, res, stepIdx, mix, PV.cells, argSlots, Nat.reduceBEq, Nat.reduceBeqDiff, Nat.add_assoc nid, Nat.reduceAdd, reduceCtorEq, ↓reduceIte, Nat.reduceLeDiff, colPV, freeOf, indep, offO, neqO, disj, namesX, axSlot, opXs, rdXs, idsOf, idsOfs, lowH, lowAll, keys, Nat.reduceBneDiff, Option.toList, ← Int.ofNat_tmod, ← Int.ofNat_tdiv, optInt, fillP, repl, chunk, mkCols, mkCol, colInts, colBools, colStrs, colLits, colsApp, Col.app, tailOf, splice, colsPut, Col.put, mmFold, eqK, Nat.reduceLT, colsPaste, Col.paste, Bool.not_not]
    refine S2.intro (fun h4 => ?_) (fun h4 => ?_) <;> simp -dsimp only [aqT, ROp, OX, ↓seqK, ↓blkK, ↓loopK, step, stepBin, res, stepIdx, mix, PV.cells, argSlots, Nat.reduceBEq, Nat.reduceBeqDiff, Nat.add_assoc nid, Nat.reduceAdd, reduceCtorEq, ↓reduceIte, Nat.reduceLeDiff, colPV, freeOf, indep, offO, neqO, disj, namesX, axSlot, opXs, rdXs, idsOf, idsOfs, lowH, lowAll, keys, Nat.reduceBneDiff, Option.toList, ← Int.ofNat_tmod, ← Int.ofNat_tdiv, optInt, fillP, repl, chunk, mkCols, mkCol, colInts, colBools, colStrs, colLits, colsApp, Col.app, tailOf, splice, colsPut, Col.put, mmFold, eqK, Nat.reduceLT, colsPaste, Col.paste]
    · refine RetOK.pure (.inl rfl) rfl ?_
      have hs : wordBad (ws.getD k 0) = 1 := by unfold wordBad; rw [h4]; rfl
      have := badH (by omega) hb (by rw [hs]; decide)
      have hf : imageFault l ws = 1 := by unfold imageFault; rw [if_neg (by simpa using hlen), this, hs]
      simp [retPV, over, keys, List.map_nil, List.map_cons, List.contains_cons, List.contains_nil, Bool.or_false, Bool.or_true, Bool.true_or, Bool.false_or, beq_self_eq_true, cond_true, cond_false, HeapCov, orNil, nilSz, onBlk, srcOf, getH_hit, getH_miss, getH.eq_1, getS_hit, getS_miss, getS.eq_1, BlkCov, PVCovs, PVCov, ColsEq, ColEq.refl, liveIds, SlotsCov, List.all_nil, List.all_cons, List.any_nil, List.any_cons, List.nil_append, List.cons_append, inRange, apart, nilBlk, idS1, idS2, readAll, readRes, onAll, step, res, AX.val, List.drop_zero, List.drop_succ_cons, List.take_succ_cons, List.take_zero, hf, checkImage, hff]
    · have hs : wordBad (ws.getD k 0) = 0 := by unfold wordBad; rw [h4]; rfl
      refine ⟨by unfold inI64; omega, k + 1, ⟨⟨by omega, badS (by omega) hb hs⟩, by omega⟩, Cov.go [] [] ?_⟩
      simp [retPV, over, keys, List.map_nil, List.map_cons, List.contains_cons, List.contains_nil, Bool.or_false, Bool.or_true, Bool.true_or, Bool.false_or, beq_self_eq_true, cond_true, cond_false, HeapCov, orNil, nilSz, onBlk, srcOf, getH_hit, getH_miss, getH.eq_1, getS_hit, getS_miss, getS.eq_1, BlkCov, PVCovs, PVCov, ColsEq, ColEq.refl, liveIds, SlotsCov, List.all_nil, List.all_cons, List.any_nil, List.any_cons, List.nil_append, List.cons_append, inRange, apart, nilBlk, idS1, idS2, readAll, readRes, onAll, step, res, AX.val, List.drop_zero, List.drop_succ_cons, List.take_succ_cons, List.take_zero, litI]
  · have : k = ws.length := by omega
    subst this
    rw [List.take_length] at hb
    refine RetOK.pure (.inl rfl) rfl ?_
    have hf : imageFault l ws = 0 := by unfold imageFault; rw [if_neg (by simpa using hlen), hb]
    simp [retPV, over, keys, List.map_nil, List.map_cons, List.contains_cons, List.contains_nil, Bool.or_false, Bool.or_true, Bool.true_or, Bool.false_or, beq_self_eq_true, cond_true, cond_false, HeapCov, orNil, nilSz, onBlk, srcOf, getH_hit, getH_miss, getH.eq_1, getS_hit, getS_miss, getS.eq_1, BlkCov, PVCovs, PVCov, ColsEq, ColEq.refl, liveIds, SlotsCov, List.all_nil, List.all_cons, List.any_nil, List.any_cons, List.nil_append, List.cons_append, inRange, apart, nilBlk, idS1, idS2, readAll, readRes, onAll, step, res, AX.val, List.drop_zero, List.drop_succ_cons, List.take_succ_cons, List.take_zero, hf, checkImage, hff]
end Go.Proofs.Ytmnhlfkphibhfaa
/-
  The checks of operations, by the abstract machine.
-/
namespace Go.Proofs.Ytmnhlfkphibhfaa
open Go.RowKit
set_option linter.unusedVariables false
set_option linter.unusedSimpArgs false
set_option maxRecDepth 100000
def op0 : FOp := ⟨0, 0, 0⟩
def litO (nl : Bool) (l : List FOp) : PV := .lit nl l.length [.i .i64 fun i => (l.getD i op0).k, .i .i64 fun i => (l.getD i op0).a, .i .i64 fun i => (l.getD i op0).v]
theorem badSG {α : Type} (d : α) {f : α → Int} {l : List α} {k : Nat} (h : k < l.length) (h1 : firstBad f (l.take k) = 0) (h2 : f (l.getD k d) = 0) : firstBad f (l.take (k + 1)) = 0 :=
  firstBad_step (x := l.getD k d) (by rw [List.getD_eq_getElem?_getD, List.getElem?_eq_getElem h]; rfl) h1 h2
theorem badHG {α : Type} (d : α) {f : α → Int} {l : List α} {k : Nat} (h : k < l.length) (h1 : firstBad f (l.take k) = 0) (h2 : f (l.getD k d) ≠ 0) : firstBad f l = f (l.getD k d) :=
  firstBad_hit (x := l.getD k d) (by rw [List.getD_eq_getElem?_getD, List.getElem?_eq_getElem h]; rfl) h1 h2
theorem checkOps_c (nl nlo : Bool) (l : List Int) (os : List FOp) (nid : Nat) (hl : l.length ≤ 1000000000) (ho : os.length ≤ 1000000000) : ACall Try.prog 18 [.agg [litI nl l], litO nlo os] [] nid (.int .i64 (checkOps l os)) [] := by
  refine acall_run c18 (by simp [a18]) ?_
  unfold litI litO
  simp -dsimp only [a18, aqT, ROp, OX, ↓seqK, ↓blkK, ↓loopK, step, stepBin, res, stepIdx, mix, PV.cells, argSlots, Nat.reduceBEq, Nat.reduceBeqDiff, Nat.add_assoc nid, Nat.reduceAdd, reduceCtorEq, ↓reduceIte, Nat.reduceLeDiff, colPV, freeOf, indep, offO, neqO, disj, namesX, axSlot, opXs, rdXs, idsOf, idsOfs, lowH, lowAll, keys, Nat.reduceBneDiff, Option.toList, ← Int.ofNat_tmod, ← Int.ofNat_tdiv, optInt, fillP, repl, chunk, mkCols, mkCol, colInts, colBools, colStrs, colLits, colsApp, Col.app, tailOf, splice, colsPut, Col.put, mmFold, eqK, Nat.reduceLT, colsPaste, Col.paste]
  refine CallO.pure (checkFlash_c nl l _ hl) ?_
  simp -dsimp only [aqT, ROp, OX, ↓seqK, ↓blkK, ↓loopK, step, stepBin, res, stepIdx, mix, PV.cells, argSlots, Nat.reduceBEq, Nat.reduceBeqDiff, Nat.add_assoc nid, Nat.reduceAdd, reduceCtorEq, ↓reduceIte, Nat.reduceLeDiff, colPV, freeOf, indep, offO, neqO, disj, namesX, axSlot, opXs, rdXs, idsOf, idsOfs, lowH, lowAll, keys, Nat.reduceBneDiff, Option.toList, ← Int.ofNat_tmod, ← Int.ofNat_tdiv, optInt, fillP, repl, chunk, mkCols, mkCol, colInts, colBools, colStrs, colLits, colsApp, Col.app, tailOf, splice, colsPut, Col.put, mmFold, eqK, Nat.reduceLT, colsPaste, Col.paste]
  refine S2.intro (fun h => ?_) (fun h => ?_) <;> simp -dsimp only [aqT, ROp, OX, ↓seqK, ↓blkK, ↓loopK, step, stepBin, res, stepIdx, mix, PV.cells, argSlots, Nat.reduceBEq, Nat.reduceBeqDiff, Nat.add_assoc nid, Nat.reduceAdd, reduceCtorEq, ↓reduceIte, Nat.reduceLeDiff, colPV, freeOf, indep, offO, neqO, disj, namesX, axSlot, opXs, rdXs, idsOf, idsOfs, lowH, lowAll, keys, Nat.reduceBneDiff, Option.toList, ← Int.ofNat_tmod, ← Int.ofNat_tdiv, optInt, fillP, repl, chunk, mkCols, mkCol, colInts, colBools, colStrs, colLits, colsApp, Col.app, tailOf, splice, colsPut, Col.put, mmFold, eqK, Nat.reduceLT, colsPaste, Col.paste]
  · refine RetOK.pure (.inl rfl) rfl ?_
    have h1 : flashFault l ≠ 0 := by simpa using h
    simp [retPV, over, keys, List.map_nil, List.map_cons, List.contains_cons, List.contains_nil, Bool.or_false, Bool.or_true, Bool.true_or, Bool.false_or, beq_self_eq_true, cond_true, cond_false, HeapCov, orNil, nilSz, onBlk, srcOf, getH_hit, getH_miss, getH.eq_1, getS_hit, getS_miss, getS.eq_1, BlkCov, PVCovs, PVCov, ColsEq, ColEq.refl, liveIds, SlotsCov, List.all_nil, List.all_cons, List.any_nil, List.any_cons, List.nil_append, List.cons_append, inRange, apart, nilBlk, idS1, idS2, readAll, readRes, onAll, step, res, AX.val, List.drop_zero, List.drop_succ_cons, List.take_succ_cons, List.take_zero, checkOps, h1]
  have hff : flashFault l = 0 := by simpa using h
  have hok := flashFault_ok hff
  have hlen := hok.len
  have hpos := hok.pos
  refine S2.dec (fun h1 => ?_) (fun h1 => ?_) <;> simp -dsimp only [aqT, ROp, OX, ↓seqK, ↓blkK, ↓loopK, step, stepBin, res, stepIdx, mix, PV.cells, argSlots, Nat.reduceBEq, Nat.reduceBeqDiff, Nat.add_assoc nid, Nat.reduceAdd, reduceCtorEq, ↓reduceIte, Nat.reduceLeDiff, colPV, freeOf, indep, offO, neqO, disj, namesX, axSlot, opXs, rdXs, idsOf, idsOfs, lowH, lowAll, keys, Nat.reduceBneDiff, Option.toList, ← Int.ofNat_tmod, ← Int.ofNat_tdiv, optInt, fillP, repl, chunk, mkCols, mkCol, colInts, colBools, colStrs, colLits, colsApp, Col.app, tailOf, splice, colsPut, Col.put, mmFold, eqK, Nat.reduceLT, colsPaste, Col.paste]
  · refine RetOK.pure (.inl rfl) rfl ?_
    have h2 : 50000 < os.length := by omega
    simp [retPV, over, keys, List.map_nil, List.map_cons, List.contains_cons, List.contains_nil, Bool.or_false, Bool.or_true, Bool.true_or, Bool.false_or, beq_self_eq_true, cond_true, cond_false, HeapCov, orNil, nilSz, onBlk, srcOf, getH_hit, getH_miss, getH.eq_1, getS_hit, getS_miss, getS.eq_1, BlkCov, PVCovs, PVCov, ColsEq, ColEq.refl, liveIds, SlotsCov, List.all_nil, List.all_cons, List.any_nil, List.any_cons, List.nil_append, List.cons_append, inRange, apart, nilBlk, idS1, idS2, readAll, readRes, onAll, step, res, AX.val, List.drop_zero, List.drop_succ_cons, List.take_succ_cons, List.take_zero, checkOps, hff, opsFault, h2]
  have h2 : ¬ 50000 < os.length := by omega
  have fin : ∀ r, firstBad (opFault l.length (sumI l)) os = r → checkOps l os = r := fun r e => by unfold checkOps opsFault; rw [if_pos hff, if_neg h2, e]
  refine LP.mkP (fun k : Nat => k ≤ os.length ∧ firstBad (opFault l.length (sumI l)) (os.take k) = 0) (fun k : Nat => ⟨[(18, .int .i64 k), (17, .int .i64 os.length), (16, litO nlo os), (2, .ptr nid 0)], [(nid, some (.box 27 [litI nl l]))], nid + 100, nid⟩) (fun k => os.length + 1 - k) 0 ⟨by omega, rfl⟩ (Cov.go [] [] ?_) (fun k hk => ?_)
  · simp [retPV, over, keys, List.map_nil, List.map_cons, List.contains_cons, List.contains_nil, Bool.or_false, Bool.or_true, Bool.true_or, Bool.false_or, beq_self_eq_true, cond_true, cond_false, HeapCov, orNil, nilSz, onBlk, srcOf, getH_hit, getH_miss, getH.eq_1, getS_hit, getS_miss, getS.eq_1, BlkCov, PVCovs, PVCov, ColsEq, ColEq.refl, liveIds, SlotsCov, List.all_nil, List.all_cons, List.any_nil, List.any_cons, List.nil_append, List.cons_append, inRange, apart, nilBlk, idS1, idS2, readAll, readRes, onAll, step, res, AX.val, List.drop_zero, List.drop_succ_cons, List.take_succ_cons, List.take_zero, litI, litO]
  unfold litI litO
  obtain ⟨hk, hb⟩ := hk
  simp -dsimp only [aqT, ROp, OX, ↓seqK, ↓blkK, ↓loopK, step, stepBin, res, stepIdx, mix, PV.cells, argSlots, Nat.reduceBEq, Nat.reduceBeqDiff, Nat.add_assoc nid, Nat.reduceAdd, reduceCtorEq, ↓reduceIte, Nat.reduceLeDiff, colPV, freeOf, indep, offO, neqO, disj, namesX, axSlot, opXs, rdXs, idsOf, idsOfs, lowH, lowAll, keys, Nat.reduceBneDiff, Option.toList, ← Int.ofNat_tmod, ← Int.ofNat_tdiv, optInt, fillP, repl, chunk, mkCols, mkCol, colInts, colBools, colStrs, colLits, colsApp, Col.app, tailOf, splice, colsPut, Col.put, mmFold, eqK, Nat.reduceLT, colsPaste, Col.paste]
  refine S2.dec (fun h3 => ?_) (fun h3 => ?_) <;> simp -dsimp only [aqT, ROp, OX, ↓seqK, ↓blkK, ↓loopK, step, stepBin, res, stepIdx, mix, PV.cells, argSlots, Nat.reduceBEq, Nat.reduceBeqDiff, Nat.add_assoc nid, Nat.reduceAdd, reduceCtorEq, ↓reduceIte, Nat.reduceLeDiff, colPV, freeOf, indep, offO, neqO, disj, namesX, axSlot, opXs, rdXs, idsOf, idsOfs, lowH, lowAll, keys, Nat.reduceBneDiff, Option.toList, ← Int.ofNat_tmod, ← Int.ofNat_tdiv, optInt, fillP, repl, chunk, mkCols, mkCol, colInts, colBools, colStrs, colLits, colsApp, Col.app, tailOf, splice, colsPut, Col.put, mmFold, eqK, Nat.reduceLT, colsPaste, Col.paste]
  · have hkl : k < os.length := by omega
    have bad : ∀ r, opFault l.length (sumI l) (os.getD k op0) = r → r ≠ 0 → checkOps l os = r := fun r e hr => fin r (by rw [badHG op0 hkl hb (by rw [e]; exact hr), e])
    have good : opFault l.length (sumI l) (os.getD k op0) = 0 → firstBad (opFault l.length (sumI l)) (os.take (k + 1)) = 0 := badSG op0 hkl hb
    generalize hx : os.getD k op0 = x at bad good ⊢
    refine ⟨by omega, S2.intro (fun h4 => ?_) (fun h4 => ?_)⟩ <;> simp -dsimp only [aqT, ROp, OX, ↓seqK, ↓blkK, ↓loopK, step, stepBin, res, stepIdx, mix, PV.cells, argSlots, Nat.reduceBEq, Nat.reduceBeqDiff, Nat.add_assoc nid, Nat.reduceAdd, reduceCtorEq, ↓reduceIte, Nat.reduceLeDiff, colPV, freeOf, indep, offO, neqO, disj, namesX, axSlot, opXs, rdXs, idsOf, idsOfs, lowH, lowAll, keys, Nat.reduceBneDiff, Option.toList, ← Int.ofNat_tmod, ← Int.ofNat_tdiv, optInt, fillP, repl, chunk, mkCols, mkCol, colInts, colBools, colStrs, colLits, colsApp, Col.app, tailOf, splice, colsPut, Col.put, mmFold, eqK, Nat.reduceLT, colsPaste, Col.paste]
    · have hk1 : x.k = 1 := by simpa using h4
      refine ⟨by unfold inI64; omega, CallO.pure (out_c _ _ _ _) ?_⟩
      simp -dsimp only [aqT, ROp, OX, ↓seqK, ↓blkK, ↓loopK, step, stepBin, res, stepIdx, mix, PV.cells, argSlots, Nat.reduceBEq, Nat.reduceBeqDiff, Nat.add_assoc nid, Nat.reduceAdd, reduceCtorEq, ↓reduceIte, Nat.reduceLeDiff, colPV, freeOf, indep, offO, neqO, disj, namesX, axSlot, opXs, rdXs, idsOf, idsOfs, lowH, lowAll, keys, Nat.reduceBneDiff, Option.toList, ← Int.ofNat_tmod, ← Int.ofNat_tdiv, optInt, fillP, repl, chunk, mkCols, mkCol, colInts, colBools, colStrs, colLits, colsApp, Col.app, tailOf, splice, colsPut, Col.put, mmFold, eqK, Nat.reduceLT, colsPaste, Col.paste]
      refine S2.intro (fun h5 => ?_) (fun h5 => ?_) <;> simp -dsimp only [aqT, ROp, OX, ↓seqK, ↓blkK, ↓loopK, step, stepBin, res, stepIdx, mix, PV.cells, argSlots, Nat.reduceBEq, Nat.reduceBeqDiff, Nat.add_assoc nid, Nat.reduceAdd, reduceCtorEq, ↓reduceIte, Nat.reduceLeDiff, colPV, freeOf, indep, offO, neqO, disj, namesX, axSlot, opXs, rdXs, idsOf, idsOfs, lowH, lowAll, keys, Nat.reduceBneDiff, Option.toList, ← Int.ofNat_tmod, ← Int.ofNat_tdiv, optInt, fillP, repl, chunk, mkCols, mkCol, colInts, colBools, colStrs, colLits, colsApp, Col.app, tailOf, splice, colsPut, Col.put, mmFold, eqK, Nat.reduceLT, colsPaste, Col.paste]
      · refine RetOK.pure (.inl rfl) rfl ?_
        have := bad 1 (by unfold opFault; rw [if_pos hk1, if_pos h5]) (by decide)
        simp [retPV, over, keys, List.map_nil, List.map_cons, List.contains_cons, List.contains_nil, Bool.or_false, Bool.or_true, Bool.true_or, Bool.false_or, beq_self_eq_true, cond_true, cond_false, HeapCov, orNil, nilSz, onBlk, srcOf, getH_hit, getH_miss, getH.eq_1, getS_hit, getS_miss, getS.eq_1, BlkCov, PVCovs, PVCov, ColsEq, ColEq.refl, liveIds, SlotsCov, List.all_nil, List.all_cons, List.any_nil, List.any_cons, List.nil_append, List.cons_append, inRange, apart, nilBlk, idS1, idS2, readAll, readRes, onAll, step, res, AX.val, List.drop_zero, List.drop_succ_cons, List.take_succ_cons, List.take_zero, this]
      · refine S2.intro (fun h6 => ?_) (fun h6 => ?_) <;> simp -dsimp only [aqT, ROp, OX, ↓seqK, ↓blkK, ↓loopK, step, stepBin, res, stepIdx, mix, PV.cells, argSlots, Nat.reduceBEq, Nat.reduceBeqDiff, Nat.add_assoc nid, Nat.reduceAdd, reduceCtorEq, ↓reduceIte, Nat.reduceLeDiff, colPV, freeOf, indep, offO, neqO, disj, namesX, axSlot, opXs, rdXs, idsOf, idsOfs, lowH, lowAll, keys, Nat.reduceBneDiff, Option.toList, ← Int.ofNat_tmod, ← Int.ofNat_tdiv, optInt, fillP, repl, chunk, mkCols, mkCol, colInts, colBools, colStrs, colLits, colsApp, Col.app, tailOf, splice, colsPut, Col.put, mmFold, eqK, Nat.reduceLT, colsPaste, Col.paste]
        · refine RetOK.pure (.inl rfl) rfl ?_
          have hv : x.v ≠ 0 := by simpa using h6
          have := bad 3 (by unfold opFault; rw [if_pos hk1, if_neg (by simp [h5]), if_neg hv]) (by decide)
          simp [retPV, over, keys, List.map_nil, List.map_cons, List.contains_cons, List.contains_nil, Bool.or_false, Bool.or_true, Bool.true_or, Bool.false_or, beq_self_eq_true, cond_true, cond_false, HeapCov, orNil, nilSz, onBlk, srcOf, getH_hit, getH_miss, getH.eq_1, getS_hit, getS_miss, getS.eq_1, BlkCov, PVCovs, PVCov, ColsEq, ColEq.refl, liveIds, SlotsCov, List.all_nil, List.all_cons, List.any_nil, List.any_cons, List.nil_append, List.cons_append, inRange, apart, nilBlk, idS1, idS2, readAll, readRes, onAll, step, res, AX.val, List.drop_zero, List.drop_succ_cons, List.take_succ_cons, List.take_zero, this]
        · have hv : x.v = 0 := by simpa using h6
          refine ⟨by unfold inI64; omega, k + 1, ⟨⟨by omega, good (by unfold opFault; rw [if_pos hk1, if_neg (by simp [h5]), if_pos hv])⟩, by omega⟩, Cov.go [] [] ?_⟩
          simp [retPV, over, keys, List.map_nil, List.map_cons, List.contains_cons, List.contains_nil, Bool.or_false, Bool.or_true, Bool.true_or, Bool.false_or, beq_self_eq_true, cond_true, cond_false, HeapCov, orNil, nilSz, onBlk, srcOf, getH_hit, getH_miss, getH.eq_1, getS_hit, getS_miss, getS.eq_1, BlkCov, PVCovs, PVCov, ColsEq, ColEq.refl, liveIds, SlotsCov, List.all_nil, List.all_cons, List.any_nil, List.any_cons, List.nil_append, List.cons_append, inRange, apart, nilBlk, idS1, idS2, readAll, readRes, onAll, step, res, AX.val, List.drop_zero, List.drop_succ_cons, List.take_succ_cons, List.take_zero, litI, litO]
    · have hk1 : x.k ≠ 1 := by simpa using h4
      refine S2.intro (fun h5 => ?_) (fun h5 => ?_) <;> simp -dsimp only [aqT, ROp, OX, ↓seqK, ↓blkK, ↓loopK, step, stepBin, res, stepIdx, mix, PV.cells, argSlots, Nat.reduceBEq, Nat.reduceBeqDiff, Nat.add_assoc nid, Nat.reduceAdd, reduceCtorEq, ↓reduceIte, Nat.reduceLeDiff, colPV, freeOf, indep, offO, neqO, disj, namesX, axSlot, opXs, rdXs, idsOf, idsOfs, lowH, lowAll, keys, Nat.reduceBneDiff, Option.toList, ← Int.ofNat_tmod, ← Int.ofNat_tdiv, optInt, fillP, repl, chunk, mkCols, mkCol, colInts, colBools, colStrs, colLits, colsApp, Col.app, tailOf, splice, colsPut, Col.put, mmFold, eqK, Nat.reduceLT, colsPaste, Col.paste]
      · have hk2 : x.k = 2 := by simpa using h5
        refine CallX.pure (size_c nl l _ (by omega) (fun k _ => sums_in hok.wit hlen k)) ?_
        simp -dsimp only [aqT, ROp, OX, ↓seqK, ↓blkK, ↓loopK, step, stepBin, res, stepIdx, mix, PV.cells, argSlots, Nat.reduceBEq, Nat.reduceBeqDiff, Nat.add_assoc nid, Nat.reduceAdd, reduceCtorEq, ↓reduceIte, Nat.reduceLeDiff, colPV, freeOf, indep, offO, neqO, disj, namesX, axSlot, opXs, rdXs, idsOf, idsOfs, lowH, lowAll, keys, Nat.reduceBneDiff, Option.toList, ← Int.ofNat_tmod, ← Int.ofNat_tdiv, optInt, fillP, repl, chunk, mkCols, mkCol, colInts, colBools, colStrs, colLits, colsApp, Col.app, tailOf, splice, colsPut, Col.put, mmFold, eqK, Nat.reduceLT, colsPaste, Col.paste]
        have hsum := sums_in hok.wit hlen l.length
        rw [List.take_length] at hsum
        have hs0 := sumI_bd l hok.wit
        refine ⟨by unfold inI64 at hsum ⊢; omega, CallX.pure (out_c _ _ _ _) ?_⟩
        simp -dsimp only [aqT, ROp, OX, ↓seqK, ↓blkK, ↓loopK, step, stepBin, res, stepIdx, mix, PV.cells, argSlots, Nat.reduceBEq, Nat.reduceBeqDiff, Nat.add_assoc nid, Nat.reduceAdd, reduceCtorEq, ↓reduceIte, Nat.reduceLeDiff, colPV, freeOf, indep, offO, neqO, disj, namesX, axSlot, opXs, rdXs, idsOf, idsOfs, lowH, lowAll, keys, Nat.reduceBneDiff, Option.toList, ← Int.ofNat_tmod, ← Int.ofNat_tdiv, optInt, fillP, repl, chunk, mkCols, mkCol, colInts, colBools, colStrs, colLits, colsApp, Col.app, tailOf, splice, colsPut, Col.put, mmFold, eqK, Nat.reduceLT, colsPaste, Col.paste]
        refine S2.intro (fun h6 => ?_) (fun h6 => ?_) <;> simp -dsimp only [aqT, ROp, OX, ↓seqK, ↓blkK, ↓loopK, step, stepBin, res, stepIdx, mix, PV.cells, argSlots, Nat.reduceBEq, Nat.reduceBeqDiff, Nat.add_assoc nid, Nat.reduceAdd, reduceCtorEq, ↓reduceIte, Nat.reduceLeDiff, colPV, freeOf, indep, offO, neqO, disj, namesX, axSlot, opXs, rdXs, idsOf, idsOfs, lowH, lowAll, keys, Nat.reduceBneDiff, Option.toList, ← Int.ofNat_tmod, ← Int.ofNat_tdiv, optInt, fillP, repl, chunk, mkCols, mkCol, colInts, colBools, colStrs, colLits, colsApp, Col.app, tailOf, splice, colsPut, Col.put, mmFold, eqK, Nat.reduceLT, colsPaste, Col.paste]
        · refine RetOK.pure (.inl rfl) rfl ?_
          have := bad 1 (by unfold opFault; rw [if_neg hk1, if_pos hk2, if_pos h6]) (by decide)
          simp [retPV, over, keys, List.map_nil, List.map_cons, List.contains_cons, List.contains_nil, Bool.or_false, Bool.or_true, Bool.true_or, Bool.false_or, beq_self_eq_true, cond_true, cond_false, HeapCov, orNil, nilSz, onBlk, srcOf, getH_hit, getH_miss, getH.eq_1, getS_hit, getS_miss, getS.eq_1, BlkCov, PVCovs, PVCov, ColsEq, ColEq.refl, liveIds, SlotsCov, List.all_nil, List.all_cons, List.any_nil, List.any_cons, List.nil_append, List.cons_append, inRange, apart, nilBlk, idS1, idS2, readAll, readRes, onAll, step, res, AX.val, List.drop_zero, List.drop_succ_cons, List.take_succ_cons, List.take_zero, this]
        · refine CallX.pure (out_c _ _ _ _) ?_
          simp -dsimp only [aqT, ROp, OX, ↓seqK, ↓blkK, ↓loopK, step, stepBin, res, stepIdx, mix, PV.cells, argSlots, Nat.reduceBEq, Nat.reduceBeqDiff, Nat.add_assoc nid, Nat.reduceAdd, reduceCtorEq, ↓reduceIte, Nat.reduceLeDiff, colPV, freeOf, indep, offO, neqO, disj, namesX, axSlot, opXs, rdXs, idsOf, idsOfs, lowH, lowAll, keys, Nat.reduceBneDiff, Option.toList, ← Int.ofNat_tmod, ← Int.ofNat_tdiv, optInt, fillP, repl, chunk, mkCols, mkCol, colInts, colBools, colStrs, colLits, colsApp, Col.app, tailOf, splice, colsPut, Col.put, mmFold, eqK, Nat.reduceLT, colsPaste, Col.paste]
          refine S2.intro (fun h7 => ?_) (fun h7 => ?_) <;> simp -dsimp only [aqT, ROp, OX, ↓seqK, ↓blkK, ↓loopK, step, stepBin, res, stepIdx, mix, PV.cells, argSlots, Nat.reduceBEq, Nat.reduceBeqDiff, Nat.add_assoc nid, Nat.reduceAdd, reduceCtorEq, ↓reduceIte, Nat.reduceLeDiff, colPV, freeOf, indep, offO, neqO, disj, namesX, axSlot, opXs, rdXs, idsOf, idsOfs, lowH, lowAll, keys, Nat.reduceBneDiff, Option.toList, ← Int.ofNat_tmod, ← Int.ofNat_tdiv, optInt, fillP, repl, chunk, mkCols, mkCol, colInts, colBools, colStrs, colLits, colsApp, Col.app, tailOf, splice, colsPut, Col.put, mmFold, eqK, Nat.reduceLT, colsPaste, Col.paste]
          · refine RetOK.pure (.inl rfl) rfl ?_
            have := bad 1 (by unfold opFault; rw [if_neg hk1, if_pos hk2, if_neg (by simp [h6]), if_pos h7]) (by decide)
            simp [retPV, over, keys, List.map_nil, List.map_cons, List.contains_cons, List.contains_nil, Bool.or_false, Bool.or_true, Bool.true_or, Bool.false_or, beq_self_eq_true, cond_true, cond_false, HeapCov, orNil, nilSz, onBlk, srcOf, getH_hit, getH_miss, getH.eq_1, getS_hit, getS_miss, getS.eq_1, BlkCov, PVCovs, PVCov, ColsEq, ColEq.refl, liveIds, SlotsCov, List.all_nil, List.all_cons, List.any_nil, List.any_cons, List.nil_append, List.cons_append, inRange, apart, nilBlk, idS1, idS2, readAll, readRes, onAll, step, res, AX.val, List.drop_zero, List.drop_succ_cons, List.take_succ_cons, List.take_zero, this]
          · refine ⟨by unfold inI64; omega, k + 1, ⟨⟨by omega, good (by unfold opFault; rw [if_neg hk1, if_pos hk2, if_neg (by simp [h6]), if_neg (by simp [h7])])⟩, by omega⟩, Cov.go [] [] ?_⟩
            simp [retPV, over, keys, List.map_nil, List.map_cons, List.contains_cons, List.contains_nil, Bool.or_false, Bool.or_true, Bool.true_or, Bool.false_or, beq_self_eq_true, cond_true, cond_false, HeapCov, orNil, nilSz, onBlk, srcOf, getH_hit, getH_miss, getH.eq_1, getS_hit, getS_miss, getS.eq_1, BlkCov, PVCovs, PVCov, ColsEq, ColEq.refl, liveIds, SlotsCov, List.all_nil, List.all_cons, List.any_nil, List.any_cons, List.nil_append, List.cons_append, inRange, apart, nilBlk, idS1, idS2, readAll, readRes, onAll, step, res, AX.val, List.drop_zero, List.drop_succ_cons, List.take_succ_cons, List.take_zero, litI, litO]
      · have hk2 : x.k ≠ 2 := by simpa using h5
        refine RetOK.pure (.inl rfl) rfl ?_
        have := bad 4 (by unfold opFault; rw [if_neg hk1, if_neg hk2]) (by decide)
        simp [retPV, over, keys, List.map_nil, List.map_cons, List.contains_cons, List.contains_nil, Bool.or_false, Bool.or_true, Bool.true_or, Bool.false_or, beq_self_eq_true, cond_true, cond_false, HeapCov, orNil, nilSz, onBlk, srcOf, getH_hit, getH_miss, getH.eq_1, getS_hit, getS_miss, getS.eq_1, BlkCov, PVCovs, PVCov, ColsEq, ColEq.refl, liveIds, SlotsCov, List.all_nil, List.all_cons, List.any_nil, List.any_cons, List.nil_append, List.cons_append, inRange, apart, nilBlk, idS1, idS2, readAll, readRes, onAll, step, res, AX.val, List.drop_zero, List.drop_succ_cons, List.take_succ_cons, List.take_zero, this]
  · have : k = os.length := by omega
    subst this
    rw [List.take_length] at hb
    refine RetOK.pure (.inl rfl) rfl ?_
    simp [retPV, over, keys, List.map_nil, List.map_cons, List.contains_cons, List.contains_nil, Bool.or_false, Bool.or_true, Bool.true_or, Bool.false_or, beq_self_eq_true, cond_true, cond_false, HeapCov, orNil, nilSz, onBlk, srcOf, getH_hit, getH_miss, getH.eq_1, getS_hit, getS_miss, getS.eq_1, BlkCov, PVCovs, PVCov, ColsEq, ColEq.refl, liveIds, SlotsCov, List.all_nil, List.all_cons, List.any_nil, List.any_cons, List.nil_append, List.cons_append, inRange, apart, nilBlk, idS1, idS2, readAll, readRes, onAll, step, res, AX.val, List.drop_zero, List.drop_succ_cons, List.take_succ_cons, List.take_zero, fin 0 hb]
end Go.Proofs.Ytmnhlfkphibhfaa
/-
  OpsFault, by the abstract machine. (Waits for guards upon operations that were skipped.)
-/
namespace Go.Proofs.Ytmnhlfkphibhfaa
open Go.RowKit
set_option linter.unusedVariables false
set_option linter.unusedSimpArgs false
set_option maxRecDepth 100000
end Go.Proofs.Ytmnhlfkphibhfaa
/-
  Sectors of addresses, by the abstract machine.
-/
namespace Go.Proofs.Ytmnhlfkphibhfaa
open Go.RowKit
set_option linter.unusedVariables false
set_option linter.unusedSimpArgs false
set_option maxRecDepth 100000
theorem preS {l : List Int} {k : Nat} (h : k < l.length) : pre l (k + 1) = pre l k + l.getD k 0 := sumIS h
theorem window_c (nl : Bool) (l : List Int) (t : Nat) (nid : Nat) (hff : flashFault l = 0) (ht : t < l.length) : ACall Try.prog 73 [.agg [litI nl l], .int .i64 t] [] nid (.agg [.int .i64 (pre l t), .int .i64 (pre l (t + 1))]) [] := by
  have hok := flashFault_ok hff
  have hlen := hok.len
  refine acall_run c73 (by simp [a73]) ?_
  unfold litI
  simp -dsimp only [a73, aqT, ROp, OX, ↓seqK, ↓blkK, ↓loopK, step, stepBin, res, stepIdx, mix, PV.cells, argSlots, Nat.reduceBEq, Nat.reduceBeqDiff, Nat.add_assoc nid, Nat.reduceAdd, reduceCtorEq, ↓reduceIte, Nat.reduceLeDiff, colPV, freeOf, indep, offO, neqO, disj, namesX, axSlot, opXs, rdXs, idsOf, idsOfs, lowH, lowAll, keys, Nat.reduceBneDiff, Option.toList, ← Int.ofNat_tmod, ← Int.ofNat_tdiv, optInt, fillP, repl, chunk, mkCols, mkCol, colInts, colBools, colStrs, colLits, colsApp, Col.app, tailOf, splice, colsPut, Col.put, mmFold, eqK, Nat.reduceLT, colsPaste, Col.paste]
  refine ⟨by omega, LP.mkP (fun k : Nat => k ≤ t) (fun k : Nat => ⟨[(13, .int .i64 k), (12, .int .i64 t), (11, .lit nl t [.i .i64 fun i => l.getD i 0]), (5, .int .i64 (pre l k)), (2, .ptr nid 0), (4, .ptr (nid + 4) 0), (1, .int .i64 t)], [(nid, some (.box 27 [litI nl l])), (nid + 4, some (.box 67 [.int .i64 0, .int .i64 0]))], nid + 100, nid⟩) (fun k => l.length + 1 - k) 0 (by omega) (Cov.go [] [] ?_) (fun k hk => ?_)⟩
  · simp [retPV, over, keys, List.map_nil, List.map_cons, List.contains_cons, List.contains_nil, Bool.or_false, Bool.or_true, Bool.true_or, Bool.false_or, beq_self_eq_true, cond_true, cond_false, HeapCov, orNil, nilSz, onBlk, srcOf, getH_hit, getH_miss, getH.eq_1, getS_hit, getS_miss, getS.eq_1, BlkCov, PVCovs, PVCov, ColsEq, ColEq.refl, liveIds, SlotsCov, List.all_nil, List.all_cons, List.any_nil, List.any_cons, List.nil_append, List.cons_append, inRange, apart, nilBlk, idS1, idS2, readAll, readRes, onAll, step, res, AX.val, List.drop_zero, List.drop_succ_cons, List.take_succ_cons, List.take_zero, litI, pre_zero]
  unfold litI
  simp -dsimp only [aqT, ROp, OX, ↓seqK, ↓blkK, ↓loopK, step, stepBin, res, stepIdx, mix, PV.cells, argSlots, Nat.reduceBEq, Nat.reduceBeqDiff, Nat.add_assoc nid, Nat.reduceAdd, reduceCtorEq, ↓reduceIte, Nat.reduceLeDiff, colPV, freeOf, indep, offO, neqO, disj, namesX, axSlot, opXs, rdXs, idsOf, idsOfs, lowH, lowAll, keys, Nat.reduceBneDiff, Option.toList, ← Int.ofNat_tmod, ← Int.ofNat_tdiv, optInt, fillP, repl, chunk, mkCols, mkCol, colInts, colBools, colStrs, colLits, colsApp, Col.app, tailOf, splice, colsPut, Col.put, mmFold, eqK, Nat.reduceLT, colsPaste, Col.paste]
  refine S2.dec (fun h3 => ?_) (fun h3 => ?_) <;> simp -dsimp only [aqT, ROp, OX, ↓seqK, ↓blkK, ↓loopK, step, stepBin, res, stepIdx, mix, PV.cells, argSlots, Nat.reduceBEq, Nat.reduceBeqDiff, Nat.add_assoc nid, Nat.reduceAdd, reduceCtorEq, ↓reduceIte, Nat.reduceLeDiff, colPV, freeOf, indep, offO, neqO, disj, namesX, axSlot, opXs, rdXs, idsOf, idsOfs, lowH, lowAll, keys, Nat.reduceBneDiff, Option.toList, ← Int.ofNat_tmod, ← Int.ofNat_tdiv, optInt, fillP, repl, chunk, mkCols, mkCol, colInts, colBools, colStrs, colLits, colsApp, Col.app, tailOf, splice, colsPut, Col.put, mmFold, eqK, Nat.reduceLT, colsPaste, Col.paste]
  · have hkl : k < l.length := by omega
    have h4 := preS hkl
    have h5 := sums_in hok.wit hlen (k + 1)
    have h7 : inI64 (pre l (k + 1)) := h5
    rw [h4] at h7
    refine ⟨by omega, h7, by unfold inI64; omega, k + 1, ⟨by omega, by omega⟩, Cov.go [] [] ?_⟩
    simp [retPV, over, keys, List.map_nil, List.map_cons, List.contains_cons, List.contains_nil, Bool.or_false, Bool.or_true, Bool.true_or, Bool.false_or, beq_self_eq_true, cond_true, cond_false, HeapCov, orNil, nilSz, onBlk, srcOf, getH_hit, getH_miss, getH.eq_1, getS_hit, getS_miss, getS.eq_1, BlkCov, PVCovs, PVCov, ColsEq, ColEq.refl, liveIds, SlotsCov, List.all_nil, List.all_cons, List.any_nil, List.any_cons, List.nil_append, List.cons_append, inRange, apart, nilBlk, idS1, idS2, readAll, readRes, onAll, step, res, AX.val, List.drop_zero, List.drop_succ_cons, List.take_succ_cons, List.take_zero, litI, h4]
  · have hkt : k = t := by omega
    subst hkt
    have h4 := preS ht
    have h7 : inI64 (pre l (k + 1)) := sums_in hok.wit hlen (k + 1)
    rw [h4] at h7
    refine ⟨by omega, h7, ?_⟩
    refine RetOK.go [] [] (.inl rfl) ?_
    simp [a73, retPV, over, keys, List.map_nil, List.map_cons, List.contains_cons, List.contains_nil, Bool.or_false, Bool.or_true, Bool.true_or, Bool.false_or, beq_self_eq_true, cond_true, cond_false, HeapCov, orNil, nilSz, onBlk, srcOf, getH_hit, getH_miss, getH.eq_1, getS_hit, getS_miss, getS.eq_1, BlkCov, PVCovs, PVCov, ColsEq, ColEq.refl, liveIds, SlotsCov, List.all_nil, List.all_cons, List.any_nil, List.any_cons, List.nil_append, List.cons_append, inRange, apart, nilBlk, idS1, idS2, readAll, readRes, onAll, step, res, AX.val, List.drop_zero, List.drop_succ_cons, List.take_succ_cons, List.take_zero, h4]
end Go.Proofs.Ytmnhlfkphibhfaa
/-
  Words erased in place, by the abstract machine.
-/
namespace Go.Proofs.Ytmnhlfkphibhfaa
open Go.RowKit
set_option linter.unusedVariables false
set_option linter.unusedSimpArgs false
set_option maxRecDepth 100000
theorem erase_c (nl : Bool) (l : List Int) (t id n : Nat) (g : Nat → Int) (nid : Nat) (h : id < nid) (hff : flashFault l = 0) (ht : t < l.length) (hn : (n : Int) = sumI l) :
    ACall Try.prog 67 [.agg [litI nl l], .sl id 0 n, .int .i64 t] [(id, some (.arr 3 n [.i .i64 g]))] nid (.tup []) [(id, some (.arr 3 n [.i .i64 fun i => if pre l t ≤ i ∧ (i : Int) < pre l (t + 1) then 65535 else g i]))] := by
  obtain ⟨e1, e2, e3, e4, e5, e6, e7, e8, e9⟩ := id_all h
  have hok := flashFault_ok hff
  have hlen := hok.len
  have h4 := preS ht
  have h6 := getDin hok.wit ht
  have hpn : 0 ≤ pre l t := by
    have := sumI_bd (l.take t) (hok.wit.take t)
    have e : pre l t = sumI (l.take t) := rfl
    omega
  have hle : pre l (t + 1) ≤ sumI l := pre_le hok.wit (t + 1)
  have hsum := hok.sum
  refine acall_run c67 (by simp [a67]) ?_
  unfold litI
  simp -dsimp only [a67, aqT, ROp, OX, ↓seqK, ↓blkK, ↓loopK, step, stepBin, res, stepIdx, mix, PV.cells, argSlots, Nat.reduceBEq, Nat.reduceBeqDiff, Nat.add_assoc nid, Nat.reduceAdd, reduceCtorEq, ↓reduceIte, Nat.reduceLeDiff, colPV, freeOf, indep, offO, neqO, disj, namesX, axSlot, opXs, rdXs, idsOf, idsOfs, lowH, lowAll, keys, Nat.reduceBneDiff, Option.toList, ← Int.ofNat_tmod, ← Int.ofNat_tdiv, optInt, fillP, repl, chunk, mkCols, mkCol, colInts, colBools, colStrs, colLits, colsApp, Col.app, tailOf, splice, colsPut, Col.put, mmFold, eqK, Nat.reduceLT, colsPaste, Col.paste, e1, e2, e3, e4, e5, e6, e7, e8, e9]
  refine CallO.pure (window_c nl l t _ hff ht) ?_
  simp -dsimp only [aqT, ROp, OX, ↓seqK, ↓blkK, ↓loopK, step, stepBin, res, stepIdx, mix, PV.cells, argSlots, Nat.reduceBEq, Nat.reduceBeqDiff, Nat.add_assoc nid, Nat.reduceAdd, reduceCtorEq, ↓reduceIte, Nat.reduceLeDiff, colPV, freeOf, indep, offO, neqO, disj, namesX, axSlot, opXs, rdXs, idsOf, idsOfs, lowH, lowAll, keys, Nat.reduceBneDiff, Option.toList, ← Int.ofNat_tmod, ← Int.ofNat_tdiv, optInt, fillP, repl, chunk, mkCols, mkCol, colInts, colBools, colStrs, colLits, colsApp, Col.app, tailOf, splice, colsPut, Col.put, mmFold, eqK, Nat.reduceLT, colsPaste, Col.paste, e1, e2, e3, e4, e5, e6, e7, e8, e9]
  refine LP.mkP (fun k : Nat => pre l t ≤ k ∧ (k : Int) ≤ pre l (t + 1)) (fun k : Nat => ⟨[(7, .int .i64 k), (6, .ptr (nid + 12) 0), (1, .sl id 0 n)], [(id, some (.arr 3 n [.i .i64 fun i => if pre l t ≤ i ∧ i < k then 65535 else g i])), (nid + 12, some (.box 67 [.int .i64 (pre l t), .int .i64 (pre l (t + 1))]))], nid + 100, nid⟩)
    (fun k => n + 1 - k) (pre l t).toNat ⟨by omega, by omega⟩ (Cov.go [(nid + 12, nid + 16)] [] ?_) (fun k hk => ?_)
  · simp [retPV, over, keys, List.map_nil, List.map_cons, List.contains_cons, List.contains_nil, Bool.or_false, Bool.or_true, Bool.true_or, Bool.false_or, beq_self_eq_true, cond_true, cond_false, HeapCov, orNil, nilSz, onBlk, srcOf, getH_hit, getH_miss, getH.eq_1, getS_hit, getS_miss, getS.eq_1, BlkCov, PVCovs, PVCov, ColsEq, ColEq.refl, liveIds, SlotsCov, List.all_nil, List.all_cons, List.any_nil, List.any_cons, List.nil_append, List.cons_append, inRange, apart, nilBlk, idS1, idS2, readAll, readRes, onAll, step, res, AX.val, List.drop_zero, List.drop_succ_cons, List.take_succ_cons, List.take_zero, e1, e2, e3, e4, e5, e6, e7, e8, e9]
    exact ⟨ColEq.i fun i hi => by rw [if_neg (by omega)], by omega⟩
  obtain ⟨hk1, hk2⟩ := hk
  simp -dsimp only [aqT, ROp, OX, ↓seqK, ↓blkK, ↓loopK, step, stepBin, res, stepIdx, mix, PV.cells, argSlots, Nat.reduceBEq, Nat.reduceBeqDiff, Nat.add_assoc nid, Nat.reduceAdd, reduceCtorEq, ↓reduceIte, Nat.reduceLeDiff, colPV, freeOf, indep, offO, neqO, disj, namesX, axSlot, opXs, rdXs, idsOf, idsOfs, lowH, lowAll, keys, Nat.reduceBneDiff, Option.toList, ← Int.ofNat_tmod, ← Int.ofNat_tdiv, optInt, fillP, repl, chunk, mkCols, mkCol, colInts, colBools, colStrs, colLits, colsApp, Col.app, tailOf, splice, colsPut, Col.put, mmFold, eqK, Nat.reduceLT, colsPaste, Col.paste, e1, e2, e3, e4, e5, e6, e7, e8, e9]
  refine S2.dec (fun h3 => ?_) (fun h3 => ?_) <;> simp -dsimp only [aqT, ROp, OX, ↓seqK, ↓blkK, ↓loopK, step, stepBin, res, stepIdx, mix, PV.cells, argSlots, Nat.reduceBEq, Nat.reduceBeqDiff, Nat.add_assoc nid, Nat.reduceAdd, reduceCtorEq, ↓reduceIte, Nat.reduceLeDiff, colPV, freeOf, indep, offO, neqO, disj, namesX, axSlot, opXs, rdXs, idsOf, idsOfs, lowH, lowAll, keys, Nat.reduceBneDiff, Option.toList, ← Int.ofNat_tmod, ← Int.ofNat_tdiv, optInt, fillP, repl, chunk, mkCols, mkCol, colInts, colBools, colStrs, colLits, colsApp, Col.app, tailOf, splice, colsPut, Col.put, mmFold, eqK, Nat.reduceLT, colsPaste, Col.paste, e1, e2, e3, e4, e5, e6, e7, e8, e9]
  · refine ⟨by omega, by unfold inI64; omega, k + 1, ⟨⟨by omega, by omega⟩, by omega⟩, Cov.go [] [] ?_⟩
    simp [retPV, over, keys, List.map_nil, List.map_cons, List.contains_cons, List.contains_nil, Bool.or_false, Bool.or_true, Bool.true_or, Bool.false_or, beq_self_eq_true, cond_true, cond_false, HeapCov, orNil, nilSz, onBlk, srcOf, getH_hit, getH_miss, getH.eq_1, getS_hit, getS_miss, getS.eq_1, BlkCov, PVCovs, PVCov, ColsEq, ColEq.refl, liveIds, SlotsCov, List.all_nil, List.all_cons, List.any_nil, List.any_cons, List.nil_append, List.cons_append, inRange, apart, nilBlk, idS1, idS2, readAll, readRes, onAll, step, res, AX.val, List.drop_zero, List.drop_succ_cons, List.take_succ_cons, List.take_zero, e1, e2, e3, e4, e5, e6, e7, e8, e9]
    refine ColEq.i fun i hi => ?_
    by_cases hik : i = k
    · subst hik; rw [if_pos rfl, if_pos (by omega)]
    · rw [if_neg hik]
      by_cases hc : pre l t ≤ (i : Int) ∧ i < k
      · rw [if_pos hc, if_pos (by omega)]
      · rw [if_neg hc, if_neg (by omega)]
  · refine RetOK.go [] [] (.inr rfl) ?_
    simp [a67, retPV, over, keys, List.map_nil, List.map_cons, List.contains_cons, List.contains_nil, Bool.or_false, Bool.or_true, Bool.true_or, Bool.false_or, beq_self_eq_true, cond_true, cond_false, HeapCov, orNil, nilSz, onBlk, srcOf, getH_hit, getH_miss, getH.eq_1, getS_hit, getS_miss, getS.eq_1, BlkCov, PVCovs, PVCov, ColsEq, ColEq.refl, liveIds, SlotsCov, List.all_nil, List.all_cons, List.any_nil, List.any_cons, List.nil_append, List.cons_append, inRange, apart, nilBlk, idS1, idS2, readAll, readRes, onAll, step, res, AX.val, List.drop_zero, List.drop_succ_cons, List.take_succ_cons, List.take_zero, e1, e2, e3, e4, e5, e6, e7, e8, e9]
    refine ColEq.i fun i hi => ?_
    by_cases hc : pre l t ≤ (i : Int) ∧ i < k
    · rw [if_pos hc, if_pos (by omega)]
    · rw [if_neg hc, if_neg (by omega)]
end Go.Proofs.Ytmnhlfkphibhfaa
/-
  The first fault, and copies, by the abstract machine.
-/
namespace Go.Proofs.Ytmnhlfkphibhfaa
open Go.RowKit
set_option linter.unusedVariables false
set_option linter.unusedSimpArgs false
set_option maxRecDepth 100000
theorem first_c (nl : Bool) (l : List Int) (nid : Nat) (hl : l.length ≤ 1000000000) : ACall Try.prog 65 [litI nl l] [] nid (.int .i64 (firstBad (fun x => x) l)) [] := by
  refine acall_run c65 (by simp [a65]) ?_
  unfold litI
  simp -dsimp only [a65, aqT, ROp, OX, ↓seqK, ↓blkK, ↓loopK, step, stepBin, res, stepIdx, mix, PV.cells, argSlots, Nat.reduceBEq, Nat.reduceBeqDiff, Nat.add_assoc nid, Nat.reduceAdd, reduceCtorEq, ↓reduceIte, Nat.reduceLeDiff, colPV, freeOf, indep, offO, neqO, disj, namesX, axSlot, opXs, rdXs, idsOf, idsOfs, lowH, lowAll, keys, Nat.reduceBneDiff, Option.toList, ← Int.ofNat_tmod, ← Int.ofNat_tdiv, optInt, fillP, repl, chunk, mkCols, mkCol, colInts, colBools, colStrs, colLits, colsApp, Col.app, tailOf, splice, colsPut, Col.put, mmFold, eqK, Nat.reduceLT, colsPaste, Col.paste]
  refine LP.mkP (fun k : Nat => k ≤ l.length ∧ firstBad (fun x => x) (l.take k) = 0) (fun k : Nat => ⟨[(7, .int .i64 k), (6, .int .i64 l.length), (5, litI nl l)], [], nid + 100, nid⟩) (fun k => l.length + 1 - k) 0 ⟨by omega, rfl⟩ (Cov.go [] [] ?_) (fun k hk => ?_)
  · simp [retPV, over, keys, List.map_nil, List.map_cons, List.contains_cons, List.contains_nil, Bool.or_false, Bool.or_true, Bool.true_or, Bool.false_or, beq_self_eq_true, cond_true, cond_false, HeapCov, orNil, nilSz, onBlk, srcOf, getH_hit, getH_miss, getH.eq_1, getS_hit, getS_miss, getS.eq_1, BlkCov, PVCovs, PVCov, ColsEq, ColEq.refl, liveIds, SlotsCov, List.all_nil, List.all_cons, List.any_nil, List.any_cons, List.nil_append, List.cons_append, inRange, apart, nilBlk, idS1, idS2, readAll, readRes, onAll, step, res, AX.val, List.drop_zero, List.drop_succ_cons, List.take_succ_cons, List.take_zero, litI]
  unfold litI
  obtain ⟨hk, hb⟩ := hk
  simp -dsimp only [aqT, ROp, OX, ↓seqK, ↓blkK, ↓loopK, step, stepBin, res, stepIdx, mix, PV.cells, argSlots, Nat.reduceBEq, Nat.reduceBeqDiff, Nat.add_assoc nid, Nat.reduceAdd, reduceCtorEq, ↓reduceIte, Nat.reduceLeDiff, colPV, freeOf, indep, offO, neqO, disj, namesX, axSlot, opXs, rdXs, idsOf, idsOfs, lowH, lowAll, keys, Nat.reduceBneDiff, Option.toList, ← Int.ofNat_tmod, ← Int.ofNat_tdiv, optInt, fillP, repl, chunk, mkCols, mkCol, colInts, colBools, colStrs, colLits, colsApp, Col.app, tailOf, splice, colsPut, Col.put, mmFold, eqK, Nat.reduceLT, colsPaste, Col.paste]
  refine S2.dec (fun h3 => ?_) (fun h3 => ?_) <;> simp -dsimp only [aqT, ROp, OX, ↓seqK, ↓blkK, ↓loopK, step, stepBin, res, stepIdx, mix, PV.cells, argSlots, Nat.reduceBEq, Nat.reduceBeqDiff, Nat.add_assoc nid, Nat.reduceAdd, reduceCtorEq, ↓reduceIte, Nat.reduceLeDiff, colPV, freeOf, indep, offO, neqO, disj, namesX, axSlot, opXs, rdXs, idsOf, idsOfs, lowH, lowAll, keys, Nat.reduceBneDiff, Option.toList, ← Int.ofNat_tmod, ← Int.ofNat_tdiv, optInt, fillP, repl, chunk, mkCols, mkCol, colInts, colBools, colStrs, colLits, colsApp, Col.app, tailOf, splice, colsPut, Col.put, mmFold, eqK, Nat.reduceLT, colsPaste, Col.paste]
  · refine ⟨by omega, S2.intro (fun h4 => ?_) (fun h4 => ?_)⟩ <;> simp -dsimp only [aqT, ROp, OX, ↓seqK, ↓blkK, ↓loopK, step, stepBin, res, stepIdx, mix, PV.cells, argSlots, Nat.reduceBEq, Nat.reduceBeqDiff, Nat.add_assoc nid, Nat.reduceAdd, reduceCtorEq, ↓reduceIte, Nat.reduceLeDiff, colPV, freeOf, indep, offO, neqO, disj, namesX, axSlot, opXs, rdXs, idsOf, idsOfs, lowH, lowAll, keys, Nat.reduceBneDiff, Option.toList, ← Int.ofNat_tmod, ← Int.ofNat_tdiv, optInt, fillP, repl, chunk, mkCols, mkCol, colInts, colBools, colStrs, colLits, colsApp, Col.app, tailOf, splice, colsPut, Col.put, mmFold, eqK, Nat.reduceLT, colsPaste, Col.paste]
    · refine RetOK.pure (.inl rfl) rfl ?_
      have h5 : l.getD k 0 ≠ 0 := by simpa using h4
      have := badH (f := fun x => x) (by omega) hb h5
      rw [this]
      simp [retPV, over, keys, List.map_nil, List.map_cons, List.contains_cons, List.contains_nil, Bool.or_false, Bool.or_true, Bool.true_or, Bool.false_or, beq_self_eq_true, cond_true, cond_false, HeapCov, orNil, nilSz, onBlk, srcOf, getH_hit, getH_miss, getH.eq_1, getS_hit, getS_miss, getS.eq_1, BlkCov, PVCovs, PVCov, ColsEq, ColEq.refl, liveIds, SlotsCov, List.all_nil, List.all_cons, List.any_nil, List.any_cons, List.nil_append, List.cons_append, inRange, apart, nilBlk, idS1, idS2, readAll, readRes, onAll, step, res, AX.val, List.drop_zero, List.drop_succ_cons, List.take_succ_cons, List.take_zero]
    · have h5 : l.getD k 0 = 0 := by simpa using h4
      refine ⟨by unfold inI64; omega, k + 1, ⟨⟨by omega, badS (f := fun x => x) (by omega) hb h5⟩, by omega⟩, Cov.go [] [] ?_⟩
      simp [retPV, over, keys, List.map_nil, List.map_cons, List.contains_cons, List.contains_nil, Bool.or_false, Bool.or_true, Bool.true_or, Bool.false_or, beq_self_eq_true, cond_true, cond_false, HeapCov, orNil, nilSz, onBlk, srcOf, getH_hit, getH_miss, getH.eq_1, getS_hit, getS_miss, getS.eq_1, BlkCov, PVCovs, PVCov, ColsEq, ColEq.refl, liveIds, SlotsCov, List.all_nil, List.all_cons, List.any_nil, List.any_cons, List.nil_append, List.cons_append, inRange, apart, nilBlk, idS1, idS2, readAll, readRes, onAll, step, res, AX.val, List.drop_zero, List.drop_succ_cons, List.take_succ_cons, List.take_zero, litI]
  · have : k = l.length := by omega
    subst this
    rw [List.take_length] at hb
    refine RetOK.pure (.inl rfl) rfl ?_
    simp [retPV, over, keys, List.map_nil, List.map_cons, List.contains_cons, List.contains_nil, Bool.or_false, Bool.or_true, Bool.true_or, Bool.false_or, beq_self_eq_true, cond_true, cond_false, HeapCov, orNil, nilSz, onBlk, srcOf, getH_hit, getH_miss, getH.eq_1, getS_hit, getS_miss, getS.eq_1, BlkCov, PVCovs, PVCov, ColsEq, ColEq.refl, liveIds, SlotsCov, List.all_nil, List.all_cons, List.any_nil, List.any_cons, List.nil_append, List.cons_append, inRange, apart, nilBlk, idS1, idS2, readAll, readRes, onAll, step, res, AX.val, List.drop_zero, List.drop_succ_cons, List.take_succ_cons, List.take_zero, hb]
theorem cloneI_c (nl : Bool) (l : List Int) (nid : Nat) (hl : l.length ≤ 1000000000) (hnl : nl = true → l = []) : ACall Try.prog 66 [litI nl l] [] nid (.sl nid 0 l.length) [(nid, arrI l)] := by
  refine acall_run c66 (by simp [a66]) ?_
  unfold litI
  simp -dsimp only [a66, aqT, ROp, OX, ↓seqK, ↓blkK, ↓loopK, step, stepBin, res, stepIdx, mix, PV.cells, argSlots, Nat.reduceBEq, Nat.reduceBeqDiff, Nat.add_assoc nid, Nat.reduceAdd, reduceCtorEq, ↓reduceIte, Nat.reduceLeDiff, colPV, freeOf, indep, offO, neqO, disj, namesX, axSlot, opXs, rdXs, idsOf, idsOfs, lowH, lowAll, keys, Nat.reduceBneDiff, Option.toList, ← Int.ofNat_tmod, ← Int.ofNat_tdiv, optInt, fillP, repl, chunk, mkCols, mkCol, colInts, colBools, colStrs, colLits, colsApp, Col.app, tailOf, splice, colsPut, Col.put, mmFold, eqK, Nat.reduceLT, colsPaste, Col.paste]
  refine S2.intro (fun h => ?_) (fun h => ?_) <;> simp -dsimp only [aqT, ROp, OX, ↓seqK, ↓blkK, ↓loopK, step, stepBin, res, stepIdx, mix, PV.cells, argSlots, Nat.reduceBEq, Nat.reduceBeqDiff, Nat.add_assoc nid, Nat.reduceAdd, reduceCtorEq, ↓reduceIte, Nat.reduceLeDiff, colPV, freeOf, indep, offO, neqO, disj, namesX, axSlot, opXs, rdXs, idsOf, idsOfs, lowH, lowAll, keys, Nat.reduceBneDiff, Option.toList, ← Int.ofNat_tmod, ← Int.ofNat_tdiv, optInt, fillP, repl, chunk, mkCols, mkCol, colInts, colBools, colStrs, colLits, colsApp, Col.app, tailOf, splice, colsPut, Col.put, mmFold, eqK, Nat.reduceLT, colsPaste, Col.paste]
  · refine RetOK.go [] [(nid, 1)] (.inl rfl) ?_
    have := hnl h
    subst this
    simp [a66, retPV, over, keys, List.map_nil, List.map_cons, List.contains_cons, List.contains_nil, Bool.or_false, Bool.or_true, Bool.true_or, Bool.false_or, beq_self_eq_true, cond_true, cond_false, HeapCov, orNil, nilSz, onBlk, srcOf, getH_hit, getH_miss, getH.eq_1, getS_hit, getS_miss, getS.eq_1, BlkCov, PVCovs, PVCov, ColsEq, ColEq.refl, liveIds, SlotsCov, List.all_nil, List.all_cons, List.any_nil, List.any_cons, List.nil_append, List.cons_append, inRange, apart, nilBlk, idS1, idS2, readAll, readRes, onAll, step, res, AX.val, List.drop_zero, List.drop_succ_cons, List.take_succ_cons, List.take_zero, arrI]
  · refine ⟨⟨by omega, by omega⟩, RetOK.go [(nid, nid + 20)] [] (.inl rfl) ?_⟩
    simp [a66, retPV, over, keys, List.map_nil, List.map_cons, List.contains_cons, List.contains_nil, Bool.or_false, Bool.or_true, Bool.true_or, Bool.false_or, beq_self_eq_true, cond_true, cond_false, HeapCov, orNil, nilSz, onBlk, srcOf, getH_hit, getH_miss, getH.eq_1, getS_hit, getS_miss, getS.eq_1, BlkCov, PVCovs, PVCov, ColsEq, ColEq.refl, liveIds, SlotsCov, List.all_nil, List.all_cons, List.any_nil, List.any_cons, List.nil_append, List.cons_append, inRange, apart, nilBlk, idS1, idS2, readAll, readRes, onAll, step, res, AX.val, List.drop_zero, List.drop_succ_cons, List.take_succ_cons, List.take_zero, arrI]
end Go.Proofs.Ytmnhlfkphibhfaa
/-
  The document's erased words, by the abstract machine.
-/
namespace Go.Proofs.Ytmnhlfkphibhfaa
open Go.RowKit
set_option linter.unusedVariables false
set_option linter.unusedSimpArgs false
set_option maxRecDepth 100000
end Go.Proofs.Ytmnhlfkphibhfaa
/-
  The fault of levelling, by the abstract machine.
-/
namespace Go.Proofs.Ytmnhlfkphibhfaa
open Go.RowKit
set_option linter.unusedVariables false
set_option linter.unusedSimpArgs false
set_option maxRecDepth 100000
end Go.Proofs.Ytmnhlfkphibhfaa
/-
  The error of a memory and words, by the abstract machine.
-/
namespace Go.Proofs.Ytmnhlfkphibhfaa
open Go.RowKit
set_option linter.unusedVariables false
set_option linter.unusedSimpArgs false
set_option maxRecDepth 100000
end Go.Proofs.Ytmnhlfkphibhfaa
/-
  Small functions on write cycles, by the abstract machine.
-/
namespace Go.Proofs.Ytmnhlfkphibhfaa
open Go.RowKit
set_option linter.unusedVariables false
set_option linter.unusedSimpArgs false
set_option maxRecDepth 100000
end Go.Proofs.Ytmnhlfkphibhfaa
/-
  The cycles of operations, as the document makes them, by the abstract machine.
-/
namespace Go.Proofs.Ytmnhlfkphibhfaa
open Go.RowKit
set_option linter.unusedVariables false
set_option linter.unusedSimpArgs false
set_option maxRecDepth 100000
end Go.Proofs.Ytmnhlfkphibhfaa
/-
  The cycles of operations, as the program makes them, by the abstract machine.
-/
namespace Go.Proofs.Ytmnhlfkphibhfaa
open Go.RowKit
set_option linter.unusedVariables false
set_option linter.unusedSimpArgs false
set_option maxRecDepth 100000
theorem ok_of_checkOps {l : List Int} {os : List FOp} (h : checkOps l os = 0) : flashFault l = 0 ∧ opsFault l os = 0 := by
  unfold checkOps at h
  split at h
  · exact ⟨by assumption, h⟩
  · exact absurd h (by assumption)
end Go.Proofs.Ytmnhlfkphibhfaa
/-
  A driven memory: whether a cycle fits, by the abstract machine.
-/
namespace Go.Proofs.Ytmnhlfkphibhfaa
open Go.RowKit
set_option linter.unusedVariables false
set_option linter.unusedSimpArgs false
set_option maxRecDepth 100000
theorem and_i64 {a b : Int} (ha0 : 0 ≤ a) (ha : a ≤ 65535) (hb0 : 0 ≤ b) (hb : b ≤ 65535) : IntKind.i64.wrap ((BitVec.ofInt IntKind.i64.bits a &&& BitVec.ofInt IntKind.i64.bits b).toNat : Int) = andI a b := by
  obtain ⟨N, rfl⟩ := Int.eq_ofNat_of_zero_le ha0
  obtain ⟨W, rfl⟩ := Int.eq_ofNat_of_zero_le hb0
  have e : (BitVec.ofInt IntKind.i64.bits (N : Int) &&& BitVec.ofInt IntKind.i64.bits (W : Int)).toNat = N &&& W := by
    show (BitVec.ofInt 64 (N : Int) &&& BitVec.ofInt 64 (W : Int)).toNat = _
    rw [BitVec.toNat_and, ofInt_nat64' N (by omega), ofInt_nat64' W (by omega)]
  have hle : N &&& W ≤ N := Nat.and_le_left
  rw [e, IntKind.wrap_i64]
  unfold andI
  simp only [Int.toNat_natCast]
  omega
end Go.Proofs.Ytmnhlfkphibhfaa
/-
  A driven memory, by the abstract machine.
-/
namespace Go.Proofs.Ytmnhlfkphibhfaa
open Go.RowKit
set_option linter.unusedVariables false
set_option linter.unusedSimpArgs false
set_option maxRecDepth 100000
theorem checkImage_ok {l ws : List Int} (h : checkImage l ws = 0) : flashFault l = 0 ∧ (ws.length : Int) = sumI l ∧ Within 0 65535 ws := by
  unfold checkImage at h
  split at h
  · exact ⟨by assumption, within_of_imageFault h⟩
  · exact absurd h (by assumption)
end Go.Proofs.Ytmnhlfkphibhfaa
/-
  Plans, by the abstract machine.
-/
namespace Go.Proofs.Ytmnhlfkphibhfaa
open Go.RowKit
set_option linter.unusedVariables false
set_option linter.unusedSimpArgs false
set_option maxRecDepth 100000
def arrO (l : List FOp) : Option ABlk := some (.arr 63 l.length [.i .i64 fun i => (l.getD i op0).k, .i .i64 fun i => (l.getD i op0).a, .i .i64 fun i => (l.getD i op0).v])
theorem getD_appO (a b : List FOp) (i : Nat) : (a ++ b).getD i op0 = if i < a.length then a.getD i op0 else b.getD (i - a.length) op0 := by
  simp only [List.getD_eq_getElem?_getD, List.getElem?_append]
  split <;> rfl
/-- rows behind rows, a column of theirs -/
theorem cappO (p : FOp → Int) (h0 : p op0 = 0) (a b : List FOp) {n : Nat} {f : Nat → Int} (hn : n = a.length) (hf : ∀ i, i < n → f i = p (a.getD i op0)) : ∀ i, i < n + b.length → (if i < n then f i else (b.map p).getD (i - n) 0) = p ((a ++ b).getD i op0) := fun i hi => by
  subst hn
  rw [getD_appO]
  split
  · rename_i h; exact hf i h
  · simp only [List.getD_eq_getElem?_getD, List.getElem?_map]
    cases b[i - a.length]? <;> simp [h0]
theorem plan_c (nl nln nlw : Bool) (l now want : List Int) (nid : Nat) (hl : l.length ≤ 1000000000) (hn : now.length ≤ 1000000000) (hw : want.length ≤ 1000000000) :
    ACall Try.prog 32 [.agg [litI nl l], litI nln now, litI nlw want] [] nid (.tup [.sl nid 0 (planR l now want).length, .int .i64 (planFault l now want)]) [(nid, arrO (planR l now want))] := by
  refine ACall.nonnil 1 rfl (fun hnl0 => ?_)
  have hnl : nln = true → now = [] := fun h => List.eq_nil_of_length_eq_zero (hnl0 h)
  refine acall_run c32 (by simp [a32]) ?_
  unfold litI
  simp -dsimp only [a32, aqT, ROp, OX, ↓seqK, ↓blkK, ↓loopK, step, stepBin, res, stepIdx, mix, PV.cells, argSlots, Nat.reduceBEq, Nat.reduceBeqDiff, Nat.add_assoc nid, Nat.reduceAdd, reduceCtorEq, ↓reduceIte, Nat.reduceLeDiff, colPV, freeOf, indep, offO, neqO, disj, namesX, axSlot, opXs, rdXs, idsOf, idsOfs, lowH, lowAll, keys, Nat.reduceBneDiff, Option.toList, ← Int.ofNat_tmod, ← Int.ofNat_tdiv, optInt, fillP, repl, chunk, mkCols, mkCol, colInts, colBools, colStrs, colLits, colsApp, Col.app, tailOf, splice, colsPut, Col.put, mmFold, eqK, Nat.reduceLT, colsPaste, Col.paste]
  refine CallX.pure (checkImage_c nl nln l now _ hl hn) ?_
  simp -dsimp only [aqT, ROp, OX, ↓seqK, ↓blkK, ↓loopK, step, stepBin, res, stepIdx, mix, PV.cells, argSlots, Nat.reduceBEq, Nat.reduceBeqDiff, Nat.add_assoc nid, Nat.reduceAdd, reduceCtorEq, ↓reduceIte, Nat.reduceLeDiff, colPV, freeOf, indep, offO, neqO, disj, namesX, axSlot, opXs, rdXs, idsOf, idsOfs, lowH, lowAll, keys, Nat.reduceBneDiff, Option.toList, ← Int.ofNat_tmod, ← Int.ofNat_tdiv, optInt, fillP, repl, chunk, mkCols, mkCol, colInts, colBools, colStrs, colLits, colsApp, Col.app, tailOf, splice, colsPut, Col.put, mmFold, eqK, Nat.reduceLT, colsPaste, Col.paste]
  refine CallX.pure (checkImage_c nl nlw l want _ hl hw) ?_
  simp -dsimp only [aqT, ROp, OX, ↓seqK, ↓blkK, ↓loopK, step, stepBin, res, stepIdx, mix, PV.cells, argSlots, Nat.reduceBEq, Nat.reduceBeqDiff, Nat.add_assoc nid, Nat.reduceAdd, reduceCtorEq, ↓reduceIte, Nat.reduceLeDiff, colPV, freeOf, indep, offO, neqO, disj, namesX, axSlot, opXs, rdXs, idsOf, idsOfs, lowH, lowAll, keys, Nat.reduceBneDiff, Option.toList, ← Int.ofNat_tmod, ← Int.ofNat_tdiv, optInt, fillP, repl, chunk, mkCols, mkCol, colInts, colBools, colStrs, colLits, colsApp, Col.app, tailOf, splice, colsPut, Col.put, mmFold, eqK, Nat.reduceLT, colsPaste, Col.paste]
  refine CallX.gave [nid + 36] (fun nl' => by
    simp only [lends, lend, aqT, ROp, OX, ↓seqK, ↓blkK, ↓loopK, step, stepBin, res, stepIdx, mix, PV.cells, argSlots, Nat.reduceBEq, Nat.reduceBeqDiff, Nat.add_assoc nid, Nat.reduceAdd, reduceCtorEq, ↓reduceIte, Nat.reduceLeDiff, colPV, freeOf, indep, offO, neqO, disj, namesX, axSlot, opXs, rdXs, idsOf, idsOfs, lowH, lowAll, keys, Nat.reduceBneDiff, Option.toList, ← Int.ofNat_tmod, ← Int.ofNat_tdiv, optInt, fillP, repl, chunk, mkCols, mkCol, colInts, colBools, colStrs, colLits, colsApp, Col.app, tailOf, splice, colsPut, Col.put, mmFold, eqK, Nat.reduceLT, colsPaste, Col.paste]
    exact first_c (nl' _) [checkImage l now, checkImage l want] _ (by simp)) (by simp [getH]) ?_
  simp -dsimp only [aqT, ROp, OX, ↓seqK, ↓blkK, ↓loopK, step, stepBin, res, stepIdx, mix, PV.cells, argSlots, Nat.reduceBEq, Nat.reduceBeqDiff, Nat.add_assoc nid, Nat.reduceAdd, reduceCtorEq, ↓reduceIte, Nat.reduceLeDiff, colPV, freeOf, indep, offO, neqO, disj, namesX, axSlot, opXs, rdXs, idsOf, idsOfs, lowH, lowAll, keys, Nat.reduceBneDiff, Option.toList, ← Int.ofNat_tmod, ← Int.ofNat_tdiv, optInt, fillP, repl, chunk, mkCols, mkCol, colInts, colBools, colStrs, colLits, colsApp, Col.app, tailOf, splice, colsPut, Col.put, mmFold, eqK, Nat.reduceLT, colsPaste, Col.paste, kill]
  have hfa : firstBad (fun x => x) [checkImage l now, checkImage l want] = planFault l now want := rfl
  rw [hfa]
  refine S2.intro (fun h => ?_) (fun h => ?_) <;> simp -dsimp only [aqT, ROp, OX, ↓seqK, ↓blkK, ↓loopK, step, stepBin, res, stepIdx, mix, PV.cells, argSlots, Nat.reduceBEq, Nat.reduceBeqDiff, Nat.add_assoc nid, Nat.reduceAdd, reduceCtorEq, ↓reduceIte, Nat.reduceLeDiff, colPV, freeOf, indep, offO, neqO, disj, namesX, axSlot, opXs, rdXs, idsOf, idsOfs, lowH, lowAll, keys, Nat.reduceBneDiff, Option.toList, ← Int.ofNat_tmod, ← Int.ofNat_tdiv, optInt, fillP, repl, chunk, mkCols, mkCol, colInts, colBools, colStrs, colLits, colsApp, Col.app, tailOf, splice, colsPut, Col.put, mmFold, eqK, Nat.reduceLT, colsPaste, Col.paste]
  · have h1 : planFault l now want ≠ 0 := by simpa using h
    have e2 : planR l now want = [] := by unfold planR; rw [if_neg h1]
    rw [e2]
    refine RetOK.go [] [(nid, 3)] (.inl rfl) ?_
    simp [a32, retPV, over, keys, List.map_nil, List.map_cons, List.contains_cons, List.contains_nil, Bool.or_false, Bool.or_true, Bool.true_or, Bool.false_or, beq_self_eq_true, cond_true, cond_false, HeapCov, orNil, nilSz, onBlk, srcOf, getH_hit, getH_miss, getH.eq_1, getS_hit, getS_miss, getS.eq_1, BlkCov, PVCovs, PVCov, ColsEq, ColEq.refl, liveIds, SlotsCov, List.all_nil, List.all_cons, List.any_nil, List.any_cons, List.nil_append, List.cons_append, inRange, apart, nilBlk, idS1, idS2, readAll, readRes, onAll, step, res, AX.val, List.drop_zero, List.drop_succ_cons, List.take_succ_cons, List.take_zero, arrO]
  have hpf : planFault l now want = 0 := by simpa using h
  obtain ⟨hok, ⟨hnl2, hnw⟩, hwl, hww⟩ := planFault_ok hpf
  have hff : flashFault l = 0 := by
    have h1 := firstBad_all hpf (checkImage l now) (by simp)
    exact (checkImage_ok h1).1
  have e2 : planR l now want = (planTo l now want l.length).1 := by unfold planR; rw [if_pos hpf]
  rw [hpf, e2]
  have hlen := hok.len
  have hsum := hok.sum
  refine CallO.pure (cloneI_c nln now _ hn hnl) ?_
  simp -dsimp only [aqT, ROp, OX, ↓seqK, ↓blkK, ↓loopK, step, stepBin, res, stepIdx, mix, PV.cells, argSlots, Nat.reduceBEq, Nat.reduceBeqDiff, Nat.add_assoc nid, Nat.reduceAdd, reduceCtorEq, ↓reduceIte, Nat.reduceLeDiff, colPV, freeOf, indep, offO, neqO, disj, namesX, axSlot, opXs, rdXs, idsOf, idsOfs, lowH, lowAll, keys, Nat.reduceBneDiff, Option.toList, ← Int.ofNat_tmod, ← Int.ofNat_tdiv, optInt, fillP, repl, chunk, mkCols, mkCol, colInts, colBools, colStrs, colLits, colsApp, Col.app, tailOf, splice, colsPut, Col.put, mmFold, eqK, Nat.reduceLT, colsPaste, Col.paste]
  refine LP.mkP (fun s : Nat => s ≤ l.length) (fun s : Nat => ⟨[(30, .int .i64 s), (29, .int .i64 l.length), (3, .ptr nid 0), (1, .sl (nid + 4) 0 now.length), (2, litI nlw want), (9, .sl (nid + 8) 0 (planTo l now want s).1.length)],
    [(nid, some (.box 27 [litI nl l])), (nid + 4, some (.arr 3 now.length [.i .i64 fun i => (planTo l now want s).2.getD i 0])), (nid + 8, arrO (planTo l now want s).1)], nid + 200, nid⟩) (fun s => l.length + 1 - s) 0 (by omega) (Cov.go [(nid + 4, nid + 60)] [(nid + 8, 3)] ?_) (fun s hs => ?_)
  · simp [retPV, over, keys, List.map_nil, List.map_cons, List.contains_cons, List.contains_nil, Bool.or_false, Bool.or_true, Bool.true_or, Bool.false_or, beq_self_eq_true, cond_true, cond_false, HeapCov, orNil, nilSz, onBlk, srcOf, getH_hit, getH_miss, getH.eq_1, getS_hit, getS_miss, getS.eq_1, BlkCov, PVCovs, PVCov, ColsEq, ColEq.refl, liveIds, SlotsCov, List.all_nil, List.all_cons, List.any_nil, List.any_cons, List.nil_append, List.cons_append, inRange, apart, nilBlk, idS1, idS2, readAll, readRes, onAll, step, res, AX.val, List.drop_zero, List.drop_succ_cons, List.take_succ_cons, List.take_zero, litI, arrI, arrO, planTo]
  unfold arrO litI
  simp -dsimp only [aqT, ROp, OX, ↓seqK, ↓blkK, ↓loopK, step, stepBin, res, stepIdx, mix, PV.cells, argSlots, Nat.reduceBEq, Nat.reduceBeqDiff, Nat.add_assoc nid, Nat.reduceAdd, reduceCtorEq, ↓reduceIte, Nat.reduceLeDiff, colPV, freeOf, indep, offO, neqO, disj, namesX, axSlot, opXs, rdXs, idsOf, idsOfs, lowH, lowAll, keys, Nat.reduceBneDiff, Option.toList, ← Int.ofNat_tmod, ← Int.ofNat_tdiv, optInt, fillP, repl, chunk, mkCols, mkCol, colInts, colBools, colStrs, colLits, colsApp, Col.app, tailOf, splice, colsPut, Col.put, mmFold, eqK, Nat.reduceLT, colsPaste, Col.paste]
  refine S2.dec (fun h3 => ?_) (fun h3 => ?_) <;> simp -dsimp only [aqT, ROp, OX, ↓seqK, ↓blkK, ↓loopK, step, stepBin, res, stepIdx, mix, PV.cells, argSlots, Nat.reduceBEq, Nat.reduceBeqDiff, Nat.add_assoc nid, Nat.reduceAdd, reduceCtorEq, ↓reduceIte, Nat.reduceLeDiff, colPV, freeOf, indep, offO, neqO, disj, namesX, axSlot, opXs, rdXs, idsOf, idsOfs, lowH, lowAll, keys, Nat.reduceBneDiff, Option.toList, ← Int.ofNat_tmod, ← Int.ofNat_tdiv, optInt, fillP, repl, chunk, mkCols, mkCol, colInts, colBools, colStrs, colLits, colsApp, Col.app, tailOf, splice, colsPut, Col.put, mmFold, eqK, Nat.reduceLT, colsPaste, Col.paste]
  · have hsl : s < l.length := by omega
    refine CallO.pure (window_c nl l s _ hff hsl) ?_
    simp -dsimp only [aqT, ROp, OX, ↓seqK, ↓blkK, ↓loopK, step, stepBin, res, stepIdx, mix, PV.cells, argSlots, Nat.reduceBEq, Nat.reduceBeqDiff, Nat.add_assoc nid, Nat.reduceAdd, reduceCtorEq, ↓reduceIte, Nat.reduceLeDiff, colPV, freeOf, indep, offO, neqO, disj, namesX, axSlot, opXs, rdXs, idsOf, idsOfs, lowH, lowAll, keys, Nat.reduceBneDiff, Option.toList, ← Int.ofNat_tmod, ← Int.ofNat_tdiv, optInt, fillP, repl, chunk, mkCols, mkCol, colInts, colBools, colStrs, colLits, colsApp, Col.app, tailOf, splice, colsPut, Col.put, mmFold, eqK, Nat.reduceLT, colsPaste, Col.paste]
    have h4 := preS hsl
    have h6 := getDin hok.wit hsl
    have hp0 : 0 ≤ pre l s := (pre_bd hok.wit hlen s).1
    have hle : pre l (s + 1) ≤ sumI l := pre_le hok.wit (s + 1)
    have hNl := planTo_len l now want s
    have hNw := planTo_within (l := l) (want := want) hnw s
    have hOl := planTo_ops_len hok.wit now want s
    have hstep : planTo l now want (s + 1) = ((planTo l now want s).1 ++ planOps l (planTo l now want s).2 want s, planNow l (planTo l now want s).2 want s) := rfl
    generalize (planTo l now want s).1 = O at hstep hOl ⊢
    generalize (planTo l now want s).2 = N at hstep hNl hNw ⊢
    obtain ⟨a, ha⟩ : ∃ a : Nat, pre l s = a := ⟨(pre l s).toNat, by omega⟩
    obtain ⟨d, hd⟩ : ∃ d : Nat, pre l (s + 1) = (a + d : Nat) := ⟨(pre l (s + 1)).toNat - a, by omega⟩
    have hpo : planOps l N want s = (if lackTo N want a d = true then [⟨1, (s : Int), 0⟩] else []) ++ progTo (planNow l N want s) want a d := by
      unfold planOps
      rw [show (pre l s).toNat = a by omega, show (pre l (s + 1)).toNat - a = d by omega]
    have hpn : planNow l N want s = if lackTo N want a d = true then eraseV l N s else N := by
      unfold planNow
      rw [show (pre l s).toNat = a by omega, show (pre l (s + 1)).toNat - a = d by omega]
    have hpl := planNow_len l N want s
    have hpw := planNow_within (l := l) (want := want) hNw s
    obtain ⟨E, hE⟩ : ∃ E : List FOp, (if lackTo N want a d = true then [⟨1, (s : Int), 0⟩] else []) = E := ⟨_, rfl⟩
    have hEl : E.length ≤ 1 := by rw [← hE]; split <;> simp
    rw [hE] at hpo
    have hNN : N.length = now.length := hNl
    rw [ha, hd]
    refine LP.mkP (fun m : Nat => m ≤ d ∧ lackTo N want a m = false) (fun m : Nat => ⟨[(12, .int .i64 (a + m : Nat)), (11, .ptr (nid + 12) 0), (10, .int .i64 s), (30, .int .i64 s), (29, .int .i64 l.length), (3, .ptr nid 0), (1, .sl (nid + 4) 0 now.length), (2, litI nlw want), (9, .sl (nid + 8) 0 O.length)],
      [(nid, some (.box 27 [litI nl l])), (nid + 12, some (.box 67 [.int .i64 (a : Nat), .int .i64 (a + d : Nat)])), (nid + 4, some (.arr 3 now.length [.i .i64 fun i => N.getD i 0])), (nid + 8, arrO O)], nid + 400, nid⟩) (fun m => d + 1 - m) 0 ⟨by omega, rfl⟩ (Cov.go [(nid + 12, nid + 224)] [] ?_) (fun m hm => ?_)
    · simp [retPV, over, keys, List.map_nil, List.map_cons, List.contains_cons, List.contains_nil, Bool.or_false, Bool.or_true, Bool.true_or, Bool.false_or, beq_self_eq_true, cond_true, cond_false, HeapCov, orNil, nilSz, onBlk, srcOf, getH_hit, getH_miss, getH.eq_1, getS_hit, getS_miss, getS.eq_1, BlkCov, PVCovs, PVCov, ColsEq, ColEq.refl, liveIds, SlotsCov, List.all_nil, List.all_cons, List.any_nil, List.any_cons, List.nil_append, List.cons_append, inRange, apart, nilBlk, idS1, idS2, readAll, readRes, onAll, step, res, AX.val, List.drop_zero, List.drop_succ_cons, List.take_succ_cons, List.take_zero, litI, arrO]
    unfold arrO litI
    obtain ⟨hm, hlk⟩ := hm
    simp -dsimp only [aqT, ROp, OX, ↓seqK, ↓blkK, ↓loopK, step, stepBin, res, stepIdx, mix, PV.cells, argSlots, Nat.reduceBEq, Nat.reduceBeqDiff, Nat.add_assoc nid, Nat.reduceAdd, reduceCtorEq, ↓reduceIte, Nat.reduceLeDiff, colPV, freeOf, indep, offO, neqO, disj, namesX, axSlot, opXs, rdXs, idsOf, idsOfs, lowH, lowAll, keys, Nat.reduceBneDiff, Option.toList, ← Int.ofNat_tmod, ← Int.ofNat_tdiv, optInt, fillP, repl, chunk, mkCols, mkCol, colInts, colBools, colStrs, colLits, colsApp, Col.app, tailOf, splice, colsPut, Col.put, mmFold, eqK, Nat.reduceLT, colsPaste, Col.paste]
    refine S2.dec (fun h5 => ?_) (fun h5 => ?_) <;> simp -dsimp only [aqT, ROp, OX, ↓seqK, ↓blkK, ↓loopK, step, stepBin, res, stepIdx, mix, PV.cells, argSlots, Nat.reduceBEq, Nat.reduceBeqDiff, Nat.add_assoc nid, Nat.reduceAdd, reduceCtorEq, ↓reduceIte, Nat.reduceLeDiff, colPV, freeOf, indep, offO, neqO, disj, namesX, axSlot, opXs, rdXs, idsOf, idsOfs, lowH, lowAll, keys, Nat.reduceBneDiff, Option.toList, ← Int.ofNat_tmod, ← Int.ofNat_tdiv, optInt, fillP, repl, chunk, mkCols, mkCol, colInts, colBools, colStrs, colLits, colsApp, Col.app, tailOf, splice, colsPut, Col.put, mmFold, eqK, Nat.reduceLT, colsPaste, Col.paste]
    · have hgN := getD_within hNw (a + m)
      have hgW := getD_within hww (a + m)
      have hlkI : (IntKind.i64.wrap ((BitVec.ofInt IntKind.i64.bits (want.getD (a + m) 0) &&& ~~~BitVec.ofInt IntKind.i64.bits (N.getD (a + m) 0)).toNat : Int) != 0) = lackI (N.getD (a + m) 0) (want.getD (a + m) 0) := andNot_lack hgN.1 hgN.2 hgW.1 hgW.2
      refine ⟨by omega, by omega, ?_⟩
      rw [hlkI]
      refine S2.intro (fun h6 => ?_) (fun h6 => ?_) <;> simp -dsimp only [aqT, ROp, OX, ↓seqK, ↓blkK, ↓loopK, step, stepBin, res, stepIdx, mix, PV.cells, argSlots, Nat.reduceBEq, Nat.reduceBeqDiff, Nat.add_assoc nid, Nat.reduceAdd, reduceCtorEq, ↓reduceIte, Nat.reduceLeDiff, colPV, freeOf, indep, offO, neqO, disj, namesX, axSlot, opXs, rdXs, idsOf, idsOfs, lowH, lowAll, keys, Nat.reduceBneDiff, Option.toList, ← Int.ofNat_tmod, ← Int.ofNat_tdiv, optInt, fillP, repl, chunk, mkCols, mkCol, colInts, colBools, colStrs, colLits, colsApp, Col.app, tailOf, splice, colsPut, Col.put, mmFold, eqK, Nat.reduceLT, colsPaste, Col.paste]
      · have hla : lackTo N want a d = true := lackTo_hit (by omega) h6
        rw [if_pos hla] at hE hpn
        refine ⟨⟨by omega, by omega⟩, CallO.on (erase_c nl l s (nid + 4) now.length (fun i => N.getD i 0) _ (by omega) hff hsl hnl2) (subH_get (by simp only [aqT, ROp, OX, ↓seqK, ↓blkK, ↓loopK, step, stepBin, res, stepIdx, mix, PV.cells, argSlots, Nat.reduceBEq, Nat.reduceBeqDiff, Nat.add_assoc nid, Nat.reduceAdd, reduceCtorEq, ↓reduceIte, Nat.reduceLeDiff, colPV, freeOf, indep, offO, neqO, disj, namesX, axSlot, opXs, rdXs, idsOf, idsOfs, lowH, lowAll, keys, Nat.reduceBneDiff, Option.toList, ← Int.ofNat_tmod, ← Int.ofNat_tdiv, optInt, fillP, repl, chunk, mkCols, mkCol, colInts, colBools, colStrs, colLits, colsApp, Col.app, tailOf, splice, colsPut, Col.put, mmFold, eqK, Nat.reduceLT, colsPaste, Col.paste])) ?_⟩
        simp -dsimp only [aqT, ROp, OX, ↓seqK, ↓blkK, ↓loopK, step, stepBin, res, stepIdx, mix, PV.cells, argSlots, Nat.reduceBEq, Nat.reduceBeqDiff, Nat.add_assoc nid, Nat.reduceAdd, reduceCtorEq, ↓reduceIte, Nat.reduceLeDiff, colPV, freeOf, indep, offO, neqO, disj, namesX, axSlot, opXs, rdXs, idsOf, idsOfs, lowH, lowAll, keys, Nat.reduceBneDiff, Option.toList, ← Int.ofNat_tmod, ← Int.ofNat_tdiv, optInt, fillP, repl, chunk, mkCols, mkCol, colInts, colBools, colStrs, colLits, colsApp, Col.app, tailOf, splice, colsPut, Col.put, mmFold, eqK, Nat.reduceLT, colsPaste, Col.paste]
        generalize hN' : planNow l N want s = N' at *
        refine LP.mkP (fun m : Nat => m ≤ d) (fun m : Nat => ⟨[(13, .int .i64 (a + m : Nat)), (11, .ptr (nid + 12) 0), (30, .int .i64 s), (29, .int .i64 l.length), (3, .ptr nid 0), (1, .sl (nid + 4) 0 now.length), (2, litI nlw want), (9, .sl (nid + 8) 0 (O ++ E ++ progTo N' want a m).length)],
          [(nid, some (.box 27 [litI nl l])), (nid + 12, some (.box 67 [.int .i64 (a : Nat), .int .i64 (a + d : Nat)])), (nid + 4, some (.arr 3 now.length [.i .i64 fun i => N'.getD i 0])), (nid + 8, arrO (O ++ E ++ progTo N' want a m))], nid + 600, nid⟩) (fun m => d + 1 - m) 0 (by omega) (Cov.go [(nid + 4, nid + 4), (nid + 8, nid + 472)] [] ?_) (fun m hm => ?_)
        · simp [retPV, over, keys, List.map_nil, List.map_cons, List.contains_cons, List.contains_nil, Bool.or_false, Bool.or_true, Bool.true_or, Bool.false_or, beq_self_eq_true, cond_true, cond_false, HeapCov, orNil, nilSz, onBlk, srcOf, getH_hit, getH_miss, getH.eq_1, getS_hit, getS_miss, getS.eq_1, BlkCov, PVCovs, PVCov, ColsEq, ColEq.refl, liveIds, SlotsCov, List.all_nil, List.all_cons, List.any_nil, List.any_cons, List.nil_append, List.cons_append, inRange, apart, nilBlk, idS1, idS2, readAll, readRes, onAll, step, res, AX.val, List.drop_zero, List.drop_succ_cons, List.take_succ_cons, List.take_zero, litI, arrO, progTo, -List.getD_eq_getElem?_getD]
          rw [← hE]
          refine ⟨⟨ColEq.i fun i hi => ?_, rfl, ColEq.i (cappO FOp.k rfl O [⟨1, (s : Int), 0⟩] rfl (fun i _ => rfl)), ColEq.i (cappO FOp.a rfl O [⟨1, (s : Int), 0⟩] rfl (fun i _ => rfl)), ColEq.i (cappO FOp.v rfl O [⟨1, (s : Int), 0⟩] rfl (fun i _ => rfl))⟩, rfl⟩
          have hge := eraseV_get l N s (i := i) (x := N.getD i 0) (by rw [List.getD_eq_getElem?_getD, List.getElem?_eq_getElem (by omega)]; rfl)
          rw [hpn]
          show _ = ((eraseV l N s)[i]?).getD 0
          rw [hge]
          rfl
        unfold arrO litI
        have hpt := progTo_len N' want a m
        simp -dsimp only [aqT, ROp, OX, ↓seqK, ↓blkK, ↓loopK, step, stepBin, res, stepIdx, mix, PV.cells, argSlots, Nat.reduceBEq, Nat.reduceBeqDiff, Nat.add_assoc nid, Nat.reduceAdd, reduceCtorEq, ↓reduceIte, Nat.reduceLeDiff, colPV, freeOf, indep, offO, neqO, disj, namesX, axSlot, opXs, rdXs, idsOf, idsOfs, lowH, lowAll, keys, Nat.reduceBneDiff, Option.toList, ← Int.ofNat_tmod, ← Int.ofNat_tdiv, optInt, fillP, repl, chunk, mkCols, mkCol, colInts, colBools, colStrs, colLits, colsApp, Col.app, tailOf, splice, colsPut, Col.put, mmFold, eqK, Nat.reduceLT, colsPaste, Col.paste]
        refine S2.dec (fun h8 => ?_) (fun h8 => ?_) <;> simp -dsimp only [aqT, ROp, OX, ↓seqK, ↓blkK, ↓loopK, step, stepBin, res, stepIdx, mix, PV.cells, argSlots, Nat.reduceBEq, Nat.reduceBeqDiff, Nat.add_assoc nid, Nat.reduceAdd, reduceCtorEq, ↓reduceIte, Nat.reduceLeDiff, colPV, freeOf, indep, offO, neqO, disj, namesX, axSlot, opXs, rdXs, idsOf, idsOfs, lowH, lowAll, keys, Nat.reduceBneDiff, Option.toList, ← Int.ofNat_tmod, ← Int.ofNat_tdiv, optInt, fillP, repl, chunk, mkCols, mkCol, colInts, colBools, colStrs, colLits, colsApp, Col.app, tailOf, splice, colsPut, Col.put, mmFold, eqK, Nat.reduceLT, colsPaste, Col.paste]
        · refine ⟨by omega, by omega, S2.intro (fun h9 => ?_) (fun h9 => ?_)⟩ <;> simp -dsimp only [aqT, ROp, OX, ↓seqK, ↓blkK, ↓loopK, step, stepBin, res, stepIdx, mix, PV.cells, argSlots, Nat.reduceBEq, Nat.reduceBeqDiff, Nat.add_assoc nid, Nat.reduceAdd, reduceCtorEq, ↓reduceIte, Nat.reduceLeDiff, colPV, freeOf, indep, offO, neqO, disj, namesX, axSlot, opXs, rdXs, idsOf, idsOfs, lowH, lowAll, keys, Nat.reduceBneDiff, Option.toList, ← Int.ofNat_tmod, ← Int.ofNat_tdiv, optInt, fillP, repl, chunk, mkCols, mkCol, colInts, colBools, colStrs, colLits, colsApp, Col.app, tailOf, splice, colsPut, Col.put, mmFold, eqK, Nat.reduceLT, colsPaste, Col.paste]
          · have hne : N'.getD (a + m) 0 ≠ want.getD (a + m) 0 := by simpa using h9
            refine ⟨by omega, ⟨by simp only [List.length_append]; omega, by simp only [List.length_append]; omega⟩, by unfold inI64; omega, m + 1, ⟨by omega, by omega⟩, Cov.go [(nid + 8, nid + 684)] [] ?_⟩
            rw [progTo_diff hne, ← List.append_assoc]
            simp [retPV, over, keys, List.map_nil, List.map_cons, List.contains_cons, List.contains_nil, Bool.or_false, Bool.or_true, Bool.true_or, Bool.false_or, beq_self_eq_true, cond_true, cond_false, HeapCov, orNil, nilSz, onBlk, srcOf, getH_hit, getH_miss, getH.eq_1, getS_hit, getS_miss, getS.eq_1, BlkCov, PVCovs, PVCov, ColsEq, ColEq.refl, liveIds, SlotsCov, List.all_nil, List.all_cons, List.any_nil, List.any_cons, List.nil_append, List.cons_append, inRange, apart, nilBlk, idS1, idS2, readAll, readRes, onAll, step, res, AX.val, List.drop_zero, List.drop_succ_cons, List.take_succ_cons, List.take_zero, litI, arrO, -List.getD_eq_getElem?_getD, -List.append_assoc]
            exact ⟨⟨ColEq.i (cappO FOp.k rfl (O ++ E ++ progTo N' want a m) [⟨2, (a : Int) + m, want.getD (a + m) 0⟩] (by simp only [List.length_append]) (fun i _ => rfl)), ColEq.i (cappO FOp.a rfl (O ++ E ++ progTo N' want a m) [⟨2, (a : Int) + m, want.getD (a + m) 0⟩] (by simp only [List.length_append]) (fun i _ => rfl)), ColEq.i (cappO FOp.v rfl (O ++ E ++ progTo N' want a m) [⟨2, (a : Int) + m, want.getD (a + m) 0⟩] (by simp only [List.length_append]) (fun i _ => rfl))⟩, by omega⟩
          · have he : N'.getD (a + m) 0 = want.getD (a + m) 0 := by simpa using h9
            refine ⟨by unfold inI64; omega, m + 1, ⟨by omega, by omega⟩, Cov.go [] [] ?_⟩
            rw [progTo_same he]
            simp [retPV, over, keys, List.map_nil, List.map_cons, List.contains_cons, List.contains_nil, Bool.or_false, Bool.or_true, Bool.true_or, Bool.false_or, beq_self_eq_true, cond_true, cond_false, HeapCov, orNil, nilSz, onBlk, srcOf, getH_hit, getH_miss, getH.eq_1, getS_hit, getS_miss, getS.eq_1, BlkCov, PVCovs, PVCov, ColsEq, ColEq.refl, liveIds, SlotsCov, List.all_nil, List.all_cons, List.any_nil, List.any_cons, List.nil_append, List.cons_append, inRange, apart, nilBlk, idS1, idS2, readAll, readRes, onAll, step, res, AX.val, List.drop_zero, List.drop_succ_cons, List.take_succ_cons, List.take_zero, litI, arrO]
            omega
        · have hmd : m = d := by omega
          rw [hmd]
          refine ⟨by unfold inI64; omega, s + 1, ⟨by omega, by omega⟩, Cov.go [] [] ?_⟩
          rw [hstep, hpo, ← List.append_assoc]
          simp [retPV, over, keys, List.map_nil, List.map_cons, List.contains_cons, List.contains_nil, Bool.or_false, Bool.or_true, Bool.true_or, Bool.false_or, beq_self_eq_true, cond_true, cond_false, HeapCov, orNil, nilSz, onBlk, srcOf, getH_hit, getH_miss, getH.eq_1, getS_hit, getS_miss, getS.eq_1, BlkCov, PVCovs, PVCov, ColsEq, ColEq.refl, liveIds, SlotsCov, List.all_nil, List.all_cons, List.any_nil, List.any_cons, List.nil_append, List.cons_append, inRange, apart, nilBlk, idS1, idS2, readAll, readRes, onAll, step, res, AX.val, List.drop_zero, List.drop_succ_cons, List.take_succ_cons, List.take_zero, litI, arrO]
      · refine ⟨by unfold inI64; omega, m + 1, ⟨⟨by omega, by rw [lackTo_succ, hlk, h6]; rfl⟩, by omega⟩, Cov.go [] [] ?_⟩
        simp [retPV, over, keys, List.map_nil, List.map_cons, List.contains_cons, List.contains_nil, Bool.or_false, Bool.or_true, Bool.true_or, Bool.false_or, beq_self_eq_true, cond_true, cond_false, HeapCov, orNil, nilSz, onBlk, srcOf, getH_hit, getH_miss, getH.eq_1, getS_hit, getS_miss, getS.eq_1, BlkCov, PVCovs, PVCov, ColsEq, ColEq.refl, liveIds, SlotsCov, List.all_nil, List.all_cons, List.any_nil, List.any_cons, List.nil_append, List.cons_append, inRange, apart, nilBlk, idS1, idS2, readAll, readRes, onAll, step, res, AX.val, List.drop_zero, List.drop_succ_cons, List.take_succ_cons, List.take_zero, litI, arrO]
        omega
    · have hmd : m = d := by omega
      have hlk' : lackTo N want a d = false := by rw [← hmd]; exact hlk
      rw [if_neg (by simp [hlk'])] at hE hpn
      generalize hN' : planNow l N want s = N' at *
      subst hpn
      refine LP.mkP (fun m : Nat => m ≤ d) (fun m : Nat => ⟨[(13, .int .i64 (a + m : Nat)), (11, .ptr (nid + 12) 0), (30, .int .i64 s), (29, .int .i64 l.length), (3, .ptr nid 0), (1, .sl (nid + 4) 0 now.length), (2, litI nlw want), (9, .sl (nid + 8) 0 (O ++ E ++ progTo N' want a m).length)],
        [(nid, some (.box 27 [litI nl l])), (nid + 12, some (.box 67 [.int .i64 (a : Nat), .int .i64 (a + d : Nat)])), (nid + 4, some (.arr 3 now.length [.i .i64 fun i => N'.getD i 0])), (nid + 8, arrO (O ++ E ++ progTo N' want a m))], nid + 600, nid⟩) (fun m => d + 1 - m) 0 (by omega) (Cov.go [] [] ?_) (fun m hm => ?_)
      · simp [retPV, over, keys, List.map_nil, List.map_cons, List.contains_cons, List.contains_nil, Bool.or_false, Bool.or_true, Bool.true_or, Bool.false_or, beq_self_eq_true, cond_true, cond_false, HeapCov, orNil, nilSz, onBlk, srcOf, getH_hit, getH_miss, getH.eq_1, getS_hit, getS_miss, getS.eq_1, BlkCov, PVCovs, PVCov, ColsEq, ColEq.refl, liveIds, SlotsCov, List.all_nil, List.all_cons, List.any_nil, List.any_cons, List.nil_append, List.cons_append, inRange, apart, nilBlk, idS1, idS2, readAll, readRes, onAll, step, res, AX.val, List.drop_zero, List.drop_succ_cons, List.take_succ_cons, List.take_zero, litI, arrO, progTo, ← hE]
      unfold arrO litI
      have hpt := progTo_len N' want a m
      simp -dsimp only [aqT, ROp, OX, ↓seqK, ↓blkK, ↓loopK, step, stepBin, res, stepIdx, mix, PV.cells, argSlots, Nat.reduceBEq, Nat.reduceBeqDiff, Nat.add_assoc nid, Nat.reduceAdd, reduceCtorEq, ↓reduceIte, Nat.reduceLeDiff, colPV, freeOf, indep, offO, neqO, disj, namesX, axSlot, opXs, rdXs, idsOf, idsOfs, lowH, lowAll, keys, Nat.reduceBneDiff, Option.toList, ← Int.ofNat_tmod, ← Int.ofNat_tdiv, optInt, fillP, repl, chunk, mkCols, mkCol, colInts, colBools, colStrs, colLits, colsApp, Col.app, tailOf, splice, colsPut, Col.put, mmFold, eqK, Nat.reduceLT, colsPaste, Col.paste]
      refine S2.dec (fun h8 => ?_) (fun h8 => ?_) <;> simp -dsimp only [aqT, ROp, OX, ↓seqK, ↓blkK, ↓loopK, step, stepBin, res, stepIdx, mix, PV.cells, argSlots, Nat.reduceBEq, Nat.reduceBeqDiff, Nat.add_assoc nid, Nat.reduceAdd, reduceCtorEq, ↓reduceIte, Nat.reduceLeDiff, colPV, freeOf, indep, offO, neqO, disj, namesX, axSlot, opXs, rdXs, idsOf, idsOfs, lowH, lowAll, keys, Nat.reduceBneDiff, Option.toList, ← Int.ofNat_tmod, ← Int.ofNat_tdiv, optInt, fillP, repl, chunk, mkCols, mkCol, colInts, colBools, colStrs, colLits, colsApp, Col.app, tailOf, splice, colsPut, Col.put, mmFold, eqK, Nat.reduceLT, colsPaste, Col.paste]
      · refine ⟨by omega, by omega, S2.intro (fun h9 => ?_) (fun h9 => ?_)⟩ <;> simp -dsimp only [aqT, ROp, OX, ↓seqK, ↓blkK, ↓loopK, step, stepBin, res, stepIdx, mix, PV.cells, argSlots, Nat.reduceBEq, Nat.reduceBeqDiff, Nat.add_assoc nid, Nat.reduceAdd, reduceCtorEq, ↓reduceIte, Nat.reduceLeDiff, colPV, freeOf, indep, offO, neqO, disj, namesX, axSlot, opXs, rdXs, idsOf, idsOfs, lowH, lowAll, keys, Nat.reduceBneDiff, Option.toList, ← Int.ofNat_tmod, ← Int.ofNat_tdiv, optInt, fillP, repl, chunk, mkCols, mkCol, colInts, colBools, colStrs, colLits, colsApp, Col.app, tailOf, splice, colsPut, Col.put, mmFold, eqK, Nat.reduceLT, colsPaste, Col.paste]
        · have hne : N'.getD (a + m) 0 ≠ want.getD (a + m) 0 := by simpa using h9
          refine ⟨by omega, ⟨by simp only [List.length_append]; omega, by simp only [List.length_append]; omega⟩, by unfold inI64; omega, m + 1, ⟨by omega, by omega⟩, Cov.go [(nid + 8, nid + 684)] [] ?_⟩
          rw [progTo_diff hne, ← List.append_assoc]
          simp [retPV, over, keys, List.map_nil, List.map_cons, List.contains_cons, List.contains_nil, Bool.or_false, Bool.or_true, Bool.true_or, Bool.false_or, beq_self_eq_true, cond_true, cond_false, HeapCov, orNil, nilSz, onBlk, srcOf, getH_hit, getH_miss, getH.eq_1, getS_hit, getS_miss, getS.eq_1, BlkCov, PVCovs, PVCov, ColsEq, ColEq.refl, liveIds, SlotsCov, List.all_nil, List.all_cons, List.any_nil, List.any_cons, List.nil_append, List.cons_append, inRange, apart, nilBlk, idS1, idS2, readAll, readRes, onAll, step, res, AX.val, List.drop_zero, List.drop_succ_cons, List.take_succ_cons, List.take_zero, litI, arrO, -List.getD_eq_getElem?_getD, -List.append_assoc]
          exact ⟨⟨ColEq.i (cappO FOp.k rfl (O ++ E ++ progTo N' want a m) [⟨2, (a : Int) + m, want.getD (a + m) 0⟩] (by simp only [List.length_append]) (fun i _ => rfl)), ColEq.i (cappO FOp.a rfl (O ++ E ++ progTo N' want a m) [⟨2, (a : Int) + m, want.getD (a + m) 0⟩] (by simp only [List.length_append]) (fun i _ => rfl)), ColEq.i (cappO FOp.v rfl (O ++ E ++ progTo N' want a m) [⟨2, (a : Int) + m, want.getD (a + m) 0⟩] (by simp only [List.length_append]) (fun i _ => rfl))⟩, by omega⟩
        · have he : N'.getD (a + m) 0 = want.getD (a + m) 0 := by simpa using h9
          refine ⟨by unfold inI64; omega, m + 1, ⟨by omega, by omega⟩, Cov.go [] [] ?_⟩
          rw [progTo_same he]
          simp [retPV, over, keys, List.map_nil, List.map_cons, List.contains_cons, List.contains_nil, Bool.or_false, Bool.or_true, Bool.true_or, Bool.false_or, beq_self_eq_true, cond_true, cond_false, HeapCov, orNil, nilSz, onBlk, srcOf, getH_hit, getH_miss, getH.eq_1, getS_hit, getS_miss, getS.eq_1, BlkCov, PVCovs, PVCov, ColsEq, ColEq.refl, liveIds, SlotsCov, List.all_nil, List.all_cons, List.any_nil, List.any_cons, List.nil_append, List.cons_append, inRange, apart, nilBlk, idS1, idS2, readAll, readRes, onAll, step, res, AX.val, List.drop_zero, List.drop_succ_cons, List.take_succ_cons, List.take_zero, litI, arrO]
          omega
      · have hmd : m = d := by omega
        rw [hmd]
        refine ⟨by unfold inI64; omega, s + 1, ⟨by omega, by omega⟩, Cov.go [] [] ?_⟩
        rw [hstep, hpo, ← List.append_assoc]
        simp [retPV, over, keys, List.map_nil, List.map_cons, List.contains_cons, List.contains_nil, Bool.or_false, Bool.or_true, Bool.true_or, Bool.false_or, beq_self_eq_true, cond_true, cond_false, HeapCov, orNil, nilSz, onBlk, srcOf, getH_hit, getH_miss, getH.eq_1, getS_hit, getS_miss, getS.eq_1, BlkCov, PVCovs, PVCov, ColsEq, ColEq.refl, liveIds, SlotsCov, List.all_nil, List.all_cons, List.any_nil, List.any_cons, List.nil_append, List.cons_append, inRange, apart, nilBlk, idS1, idS2, readAll, readRes, onAll, step, res, AX.val, List.drop_zero, List.drop_succ_cons, List.take_succ_cons, List.take_zero, litI, arrO]
  · have hse : s = l.length := by omega
    subst hse
    refine RetOK.go [(nid, nid + 8)] [] (.inl rfl) ?_
    simp [a32, retPV, over, keys, List.map_nil, List.map_cons, List.contains_cons, List.contains_nil, Bool.or_false, Bool.or_true, Bool.true_or, Bool.false_or, beq_self_eq_true, cond_true, cond_false, HeapCov, orNil, nilSz, onBlk, srcOf, getH_hit, getH_miss, getH.eq_1, getS_hit, getS_miss, getS.eq_1, BlkCov, PVCovs, PVCov, ColsEq, ColEq.refl, liveIds, SlotsCov, List.all_nil, List.all_cons, List.any_nil, List.any_cons, List.nil_append, List.cons_append, inRange, apart, nilBlk, idS1, idS2, readAll, readRes, onAll, step, res, AX.val, List.drop_zero, List.drop_succ_cons, List.take_succ_cons, List.take_zero, arrO]
end Go.Proofs.Ytmnhlfkphibhfaa
/-
  Apply, by the abstract machine.
-/
namespace Go.Proofs.Ytmnhlfkphibhfaa
open Go.RowKit
set_option linter.unusedVariables false
set_option linter.unusedSimpArgs false
set_option maxRecDepth 100000
theorem apply_c (nl nlw nlo : Bool) (l ws : List Int) (os : List FOp) (nid : Nat) (hl : l.length ≤ 1000000000) (hw : ws.length ≤ 1000000000) (ho : os.length ≤ 1000000000) :
    ACall Try.prog 21 [.agg [litI nl l], litI nlw ws, litO nlo os] [] nid (.tup [.sl nid 0 (applyR l ws os).length, .int .i64 (applyFault l ws os)]) [(nid, arrI (applyR l ws os))] := by
  refine ACall.nonnil 1 rfl (fun hnl0 => ?_)
  have hnl : nlw = true → ws = [] := fun h => List.eq_nil_of_length_eq_zero (hnl0 h)
  refine acall_run c21 (by simp [a21]) ?_
  unfold litI litO
  simp -dsimp only [aqT, ROp, OX, ↓seqK, ↓blkK, ↓loopK, step, stepBin, res, stepIdx, mix, PV.cells, argSlots, Nat.reduceBEq, Nat.reduceBeqDiff, Nat.add_assoc nid, Nat.reduceAdd, reduceCtorEq, ↓reduceIte, Nat.reduceLeDiff, colPV, freeOf, indep, offO, neqO, disj, namesX, axSlot, opXs, rdXs, idsOf, idsOfs, lowH, lowAll, keys, Nat.reduceBneDiff, Option.toList, ← Int.ofNat_tmod, ← Int.ofNat_tdiv, optInt, fillP, repl, chunk, mkCols, mkCol, colInts, colBools, colStrs, colLits, colsApp, Col.app, tailOf, splice, colsPut, Col.put, mmFold, eqK, Nat.reduceLT, colsPaste, Col.paste, a21]
  refine CallX.pure (checkImage_c nl nlw l ws _ hl hw) ?_
  simp -dsimp only [aqT, ROp, OX, ↓seqK, ↓blkK, ↓loopK, step, stepBin, res, stepIdx, mix, PV.cells, argSlots, Nat.reduceBEq, Nat.reduceBeqDiff, Nat.add_assoc nid, Nat.reduceAdd, reduceCtorEq, ↓reduceIte, Nat.reduceLeDiff, colPV, freeOf, indep, offO, neqO, disj, namesX, axSlot, opXs, rdXs, idsOf, idsOfs, lowH, lowAll, keys, Nat.reduceBneDiff, Option.toList, ← Int.ofNat_tmod, ← Int.ofNat_tdiv, optInt, fillP, repl, chunk, mkCols, mkCol, colInts, colBools, colStrs, colLits, colsApp, Col.app, tailOf, splice, colsPut, Col.put, mmFold, eqK, Nat.reduceLT, colsPaste, Col.paste]
  refine CallX.pure (checkOps_c nl nlo l os _ hl ho) ?_
  simp -dsimp only [aqT, ROp, OX, ↓seqK, ↓blkK, ↓loopK, step, stepBin, res, stepIdx, mix, PV.cells, argSlots, Nat.reduceBEq, Nat.reduceBeqDiff, Nat.add_assoc nid, Nat.reduceAdd, reduceCtorEq, ↓reduceIte, Nat.reduceLeDiff, colPV, freeOf, indep, offO, neqO, disj, namesX, axSlot, opXs, rdXs, idsOf, idsOfs, lowH, lowAll, keys, Nat.reduceBneDiff, Option.toList, ← Int.ofNat_tmod, ← Int.ofNat_tdiv, optInt, fillP, repl, chunk, mkCols, mkCol, colInts, colBools, colStrs, colLits, colsApp, Col.app, tailOf, splice, colsPut, Col.put, mmFold, eqK, Nat.reduceLT, colsPaste, Col.paste]
  refine CallX.gave [nid + 36] (fun nl' => by
    simp only [lends, lend, aqT, ROp, OX, ↓seqK, ↓blkK, ↓loopK, step, stepBin, res, stepIdx, mix, PV.cells, argSlots, Nat.reduceBEq, Nat.reduceBeqDiff, Nat.add_assoc nid, Nat.reduceAdd, reduceCtorEq, ↓reduceIte, Nat.reduceLeDiff, colPV, freeOf, indep, offO, neqO, disj, namesX, axSlot, opXs, rdXs, idsOf, idsOfs, lowH, lowAll, keys, Nat.reduceBneDiff, Option.toList, ← Int.ofNat_tmod, ← Int.ofNat_tdiv, optInt, fillP, repl, chunk, mkCols, mkCol, colInts, colBools, colStrs, colLits, colsApp, Col.app, tailOf, splice, colsPut, Col.put, mmFold, eqK, Nat.reduceLT, colsPaste, Col.paste]
    exact first_c (nl' _) [checkImage l ws, checkOps l os] _ (by simp)) (by simp [getH]) ?_
  simp -dsimp only [aqT, ROp, OX, ↓seqK, ↓blkK, ↓loopK, step, stepBin, res, stepIdx, mix, PV.cells, argSlots, Nat.reduceBEq, Nat.reduceBeqDiff, Nat.add_assoc nid, Nat.reduceAdd, reduceCtorEq, ↓reduceIte, Nat.reduceLeDiff, colPV, freeOf, indep, offO, neqO, disj, namesX, axSlot, opXs, rdXs, idsOf, idsOfs, lowH, lowAll, keys, Nat.reduceBneDiff, Option.toList, ← Int.ofNat_tmod, ← Int.ofNat_tdiv, optInt, fillP, repl, chunk, mkCols, mkCol, colInts, colBools, colStrs, colLits, colsApp, Col.app, tailOf, splice, colsPut, Col.put, mmFold, eqK, Nat.reduceLT, colsPaste, Col.paste, kill]
  have hfa : firstBad (fun x => x) [checkImage l ws, checkOps l os] = applyFault l ws os := rfl
  rw [hfa]
  refine S2.intro (fun h => ?_) (fun h => ?_) <;> simp -dsimp only [aqT, ROp, OX, ↓seqK, ↓blkK, ↓loopK, step, stepBin, res, stepIdx, mix, PV.cells, argSlots, Nat.reduceBEq, Nat.reduceBeqDiff, Nat.add_assoc nid, Nat.reduceAdd, reduceCtorEq, ↓reduceIte, Nat.reduceLeDiff, colPV, freeOf, indep, offO, neqO, disj, namesX, axSlot, opXs, rdXs, idsOf, idsOfs, lowH, lowAll, keys, Nat.reduceBneDiff, Option.toList, ← Int.ofNat_tmod, ← Int.ofNat_tdiv, optInt, fillP, repl, chunk, mkCols, mkCol, colInts, colBools, colStrs, colLits, colsApp, Col.app, tailOf, splice, colsPut, Col.put, mmFold, eqK, Nat.reduceLT, colsPaste, Col.paste]
  · have h1 : applyFault l ws os ≠ 0 := by simpa using h
    have e2 : applyR l ws os = [] := by unfold applyR; rw [if_neg h1]
    rw [e2]
    refine RetOK.go [] [(nid, 1)] (.inl rfl) ?_
    simp [retPV, over, keys, List.map_nil, List.map_cons, List.contains_cons, List.contains_nil, Bool.or_false, Bool.or_true, Bool.true_or, Bool.false_or, beq_self_eq_true, cond_true, cond_false, HeapCov, orNil, nilSz, onBlk, srcOf, getH_hit, getH_miss, getH.eq_1, getS_hit, getS_miss, getS.eq_1, BlkCov, PVCovs, PVCov, ColsEq, ColEq.refl, liveIds, SlotsCov, List.all_nil, List.all_cons, List.any_nil, List.any_cons, List.nil_append, List.cons_append, inRange, apart, nilBlk, idS1, idS2, readAll, readRes, onAll, step, res, AX.val, List.drop_zero, List.drop_succ_cons, List.take_succ_cons, List.take_zero, a21, arrI]
  have hpf : applyFault l ws os = 0 := by simpa using h
  obtain ⟨hok, hwl, hww, hol, hos⟩ := applyFault_ok hpf
  have hff : flashFault l = 0 := by
    have h1 := firstBad_all hpf (checkImage l ws) (by simp)
    exact (checkImage_ok h1).1
  have e2 : applyR l ws os = applyV l ws os := by unfold applyR; rw [if_pos hpf]
  rw [hpf, e2]
  refine CallO.pure (cloneI_c nlw ws _ hw hnl) ?_
  simp -dsimp only [aqT, ROp, OX, ↓seqK, ↓blkK, ↓loopK, step, stepBin, res, stepIdx, mix, PV.cells, argSlots, Nat.reduceBEq, Nat.reduceBeqDiff, Nat.add_assoc nid, Nat.reduceAdd, reduceCtorEq, ↓reduceIte, Nat.reduceLeDiff, colPV, freeOf, indep, offO, neqO, disj, namesX, axSlot, opXs, rdXs, idsOf, idsOfs, lowH, lowAll, keys, Nat.reduceBneDiff, Option.toList, ← Int.ofNat_tmod, ← Int.ofNat_tdiv, optInt, fillP, repl, chunk, mkCols, mkCol, colInts, colBools, colStrs, colLits, colsApp, Col.app, tailOf, splice, colsPut, Col.put, mmFold, eqK, Nat.reduceLT, colsPaste, Col.paste]
  refine LP.mkP (fun k : Nat => k ≤ os.length) (fun k : Nat => ⟨[(27, .int .i64 k), (26, .int .i64 os.length), (25, litO nlo os), (3, .ptr nid 0), (9, .sl (nid + 4) 0 ws.length)], [(nid, some (.box 27 [litI nl l])), (nid + 4, some (.arr 3 ws.length [.i .i64 fun i => (applyV l ws (os.take k)).getD i 0]))], nid + 1000, nid⟩) (fun k => os.length + 1 - k) 0 ?_ (Cov.go [(nid + 4, nid + 60)] [] ?_) (fun k hk => ?_)
  · omega
  · simp [retPV, over, keys, List.map_nil, List.map_cons, List.contains_cons, List.contains_nil, Bool.or_false, Bool.or_true, Bool.true_or, Bool.false_or, beq_self_eq_true, cond_true, cond_false, HeapCov, orNil, nilSz, onBlk, srcOf, getH_hit, getH_miss, getH.eq_1, getS_hit, getS_miss, getS.eq_1, BlkCov, PVCovs, PVCov, ColsEq, ColEq.refl, liveIds, SlotsCov, List.all_nil, List.all_cons, List.any_nil, List.any_cons, List.nil_append, List.cons_append, inRange, apart, nilBlk, idS1, idS2, readAll, readRes, onAll, step, res, AX.val, List.drop_zero, List.drop_succ_cons, List.take_succ_cons, List.take_zero, litI, litO, arrI, applyV]
  unfold litO litI
  have hAl := applyV_len l ws (os.take k)
  have hAw := applyV_within (l := l) (r := os.take k) hww
  simp -dsimp only [aqT, ROp, OX, ↓seqK, ↓blkK, ↓loopK, step, stepBin, res, stepIdx, mix, PV.cells, argSlots, Nat.reduceBEq, Nat.reduceBeqDiff, Nat.add_assoc nid, Nat.reduceAdd, reduceCtorEq, ↓reduceIte, Nat.reduceLeDiff, colPV, freeOf, indep, offO, neqO, disj, namesX, axSlot, opXs, rdXs, idsOf, idsOfs, lowH, lowAll, keys, Nat.reduceBneDiff, Option.toList, ← Int.ofNat_tmod, ← Int.ofNat_tdiv, optInt, fillP, repl, chunk, mkCols, mkCol, colInts, colBools, colStrs, colLits, colsApp, Col.app, tailOf, splice, colsPut, Col.put, mmFold, eqK, Nat.reduceLT, colsPaste, Col.paste]
  refine S2.dec (fun h3 => ?_) (fun h3 => ?_) <;> simp -dsimp only [aqT, ROp, OX, ↓seqK, ↓blkK, ↓loopK, step, stepBin, res, stepIdx, mix, PV.cells, argSlots, Nat.reduceBEq, Nat.reduceBeqDiff, Nat.add_assoc nid, Nat.reduceAdd, reduceCtorEq, ↓reduceIte, Nat.reduceLeDiff, colPV, freeOf, indep, offO, neqO, disj, namesX, axSlot, opXs, rdXs, idsOf, idsOfs, lowH, lowAll, keys, Nat.reduceBneDiff, Option.toList, ← Int.ofNat_tmod, ← Int.ofNat_tdiv, optInt, fillP, repl, chunk, mkCols, mkCol, colInts, colBools, colStrs, colLits, colsApp, Col.app, tailOf, splice, colsPut, Col.put, mmFold, eqK, Nat.reduceLT, colsPaste, Col.paste]
  · have hkl : k < os.length := by omega
    have hsn : os.take (k + 1) = os.take k ++ [os.getD k op0] := take_snoc (by rw [List.getD_eq_getElem?_getD, List.getElem?_eq_getElem hkl]; rfl)
    have hxk : OpOk l (os.getD k op0) := hos _ (by rw [List.getD_eq_getElem?_getD, List.getElem?_eq_getElem hkl]; exact List.getElem_mem hkl)
    have hstep : ∀ i, i < ws.length → (applyV l ws (os.take (k + 1))).getD i 0 = locV l i ((applyV l ws (os.take k)).getD i 0) (os.getD k op0) := fun i hi => by rw [hsn, applyV_snoc, opV_get _ _ _ (by omega)]
    generalize os.getD k op0 = x at *
    refine ⟨by omega, S2.intro (fun h => ?_) (fun h => ?_)⟩ <;> simp -dsimp only [aqT, ROp, OX, ↓seqK, ↓blkK, ↓loopK, step, stepBin, res, stepIdx, mix, PV.cells, argSlots, Nat.reduceBEq, Nat.reduceBeqDiff, Nat.add_assoc nid, Nat.reduceAdd, reduceCtorEq, ↓reduceIte, Nat.reduceLeDiff, colPV, freeOf, indep, offO, neqO, disj, namesX, axSlot, opXs, rdXs, idsOf, idsOfs, lowH, lowAll, keys, Nat.reduceBneDiff, Option.toList, ← Int.ofNat_tmod, ← Int.ofNat_tdiv, optInt, fillP, repl, chunk, mkCols, mkCol, colInts, colBools, colStrs, colLits, colsApp, Col.app, tailOf, splice, colsPut, Col.put, mmFold, eqK, Nat.reduceLT, colsPaste, Col.paste]
    · have hk1 : x.k = 1 := by simpa using h
      have ha := hxk.er hk1
      obtain ⟨t, ht⟩ := Int.eq_ofNat_of_zero_le ha.1
      rw [ht]
      refine CallO.on (erase_c nl l t (nid + 4) ws.length (fun i => (applyV l ws (os.take k)).getD i 0) _ (by omega) hff (by omega) hwl) (subH_get (by simp only [aqT, ROp, OX, ↓seqK, ↓blkK, ↓loopK, step, stepBin, res, stepIdx, mix, PV.cells, argSlots, Nat.reduceBEq, Nat.reduceBeqDiff, Nat.add_assoc nid, Nat.reduceAdd, reduceCtorEq, ↓reduceIte, Nat.reduceLeDiff, colPV, freeOf, indep, offO, neqO, disj, namesX, axSlot, opXs, rdXs, idsOf, idsOfs, lowH, lowAll, keys, Nat.reduceBneDiff, Option.toList, ← Int.ofNat_tmod, ← Int.ofNat_tdiv, optInt, fillP, repl, chunk, mkCols, mkCol, colInts, colBools, colStrs, colLits, colsApp, Col.app, tailOf, splice, colsPut, Col.put, mmFold, eqK, Nat.reduceLT, colsPaste, Col.paste])) ?_
      simp -dsimp only [aqT, ROp, OX, ↓seqK, ↓blkK, ↓loopK, step, stepBin, res, stepIdx, mix, PV.cells, argSlots, Nat.reduceBEq, Nat.reduceBeqDiff, Nat.add_assoc nid, Nat.reduceAdd, reduceCtorEq, ↓reduceIte, Nat.reduceLeDiff, colPV, freeOf, indep, offO, neqO, disj, namesX, axSlot, opXs, rdXs, idsOf, idsOfs, lowH, lowAll, keys, Nat.reduceBneDiff, Option.toList, ← Int.ofNat_tmod, ← Int.ofNat_tdiv, optInt, fillP, repl, chunk, mkCols, mkCol, colInts, colBools, colStrs, colLits, colsApp, Col.app, tailOf, splice, colsPut, Col.put, mmFold, eqK, Nat.reduceLT, colsPaste, Col.paste]
      refine ⟨by unfold inI64; omega, k + 1, ⟨by omega, by omega⟩, Cov.go [] [] ?_⟩
      simp [retPV, over, keys, List.map_nil, List.map_cons, List.contains_cons, List.contains_nil, Bool.or_false, Bool.or_true, Bool.true_or, Bool.false_or, beq_self_eq_true, cond_true, cond_false, HeapCov, orNil, nilSz, onBlk, srcOf, getH_hit, getH_miss, getH.eq_1, getS_hit, getS_miss, getS.eq_1, BlkCov, PVCovs, PVCov, ColsEq, ColEq.refl, liveIds, SlotsCov, List.all_nil, List.all_cons, List.any_nil, List.any_cons, List.nil_append, List.cons_append, inRange, apart, nilBlk, idS1, idS2, readAll, readRes, onAll, step, res, AX.val, List.drop_zero, List.drop_succ_cons, List.take_succ_cons, List.take_zero, litI, litO, -List.getD_eq_getElem?_getD]
      refine ColEq.i fun i hi => ?_
      rw [hstep i hi]
      unfold locV
      rw [if_pos hk1, ht]
      rfl
    · have hk2 : x.k = 2 := by
        have h1 : x.k ≠ 1 := by simpa using h
        have := hxk.kind
        omega
      obtain ⟨h1, h2, h4, h5⟩ := hxk.pr hk2
      have hg := getD_within hAw x.a.toNat
      rw [and_i64 hg.1 hg.2 h4 h5]
      refine ⟨by omega, by omega, by unfold inI64; omega, k + 1, ⟨by omega, by omega⟩, Cov.go [] [] ?_⟩
      simp [retPV, over, keys, List.map_nil, List.map_cons, List.contains_cons, List.contains_nil, Bool.or_false, Bool.or_true, Bool.true_or, Bool.false_or, beq_self_eq_true, cond_true, cond_false, HeapCov, orNil, nilSz, onBlk, srcOf, getH_hit, getH_miss, getH.eq_1, getS_hit, getS_miss, getS.eq_1, BlkCov, PVCovs, PVCov, ColsEq, ColEq.refl, liveIds, SlotsCov, List.all_nil, List.all_cons, List.any_nil, List.any_cons, List.nil_append, List.cons_append, inRange, apart, nilBlk, idS1, idS2, readAll, readRes, onAll, step, res, AX.val, List.drop_zero, List.drop_succ_cons, List.take_succ_cons, List.take_zero, litI, litO, -List.getD_eq_getElem?_getD]
      refine ColEq.i fun i hi => ?_
      rw [hstep i hi]
      unfold locV
      rw [if_neg (show ¬ x.k = 1 by omega)]
      by_cases he : i = x.a.toNat
      · subst he; simp
      · rw [if_neg he, if_neg (fun h => he h.symm)]
  · have : k = os.length := by omega
    subst this
    rw [List.take_length] at hAl ⊢
    refine RetOK.go [(nid, nid + 4)] [] (.inl rfl) ?_
    simp [retPV, over, keys, List.map_nil, List.map_cons, List.contains_cons, List.contains_nil, Bool.or_false, Bool.or_true, Bool.true_or, Bool.false_or, beq_self_eq_true, cond_true, cond_false, HeapCov, orNil, nilSz, onBlk, srcOf, getH_hit, getH_miss, getH.eq_1, getS_hit, getS_miss, getS.eq_1, BlkCov, PVCovs, PVCov, ColsEq, ColEq.refl, liveIds, SlotsCov, List.all_nil, List.all_cons, List.any_nil, List.any_cons, List.nil_append, List.cons_append, inRange, apart, nilBlk, idS1, idS2, readAll, readRes, onAll, step, res, AX.val, List.drop_zero, List.drop_succ_cons, List.take_succ_cons, List.take_zero, a21, arrI, hAl]
end Go.Proofs.Ytmnhlfkphibhfaa
/-
  Differ and Wear, by the abstract machine.
-/
namespace Go.Proofs.Ytmnhlfkphibhfaa
open Go.RowKit
set_option linter.unusedVariables false
set_option linter.unusedSimpArgs false
set_option maxRecDepth 100000
/-- windows of addresses, one address more -/
def winAdd (O : List Cyc) (k : Nat) : List Cyc :=
  if O.length ≠ 0 ∧ (O.getD (O.length - 1) c0).2 = k then O.set (O.length - 1) ((O.getD (O.length - 1) c0).1, (k : Int) + 1) else O ++ [((k : Int), (k : Int) + 1)]
def diffTo (a b : List Int) : Nat → List Cyc
  | 0 => []
  | k + 1 => if a.getD k 0 = b.getD k 0 then diffTo a b k else winAdd (diffTo a b k) k
theorem diffTo_same (a : List Int) (k : Nat) : diffTo a a k = [] := by
  induction k with
  | zero => rfl
  | succ k ih => unfold diffTo; rw [if_pos rfl, ih]
def diffR (l a b : List Int) : List Cyc := if planFault l a b = 0 then diffTo a b a.length else []
def wearR (l : List Int) (os : List FOp) : List Int := if checkOps l os = 0 then (List.range l.length).map fun i => (wearV os i : Int) else []
theorem wear_c (nl nlo : Bool) (l : List Int) (os : List FOp) (nid : Nat) (hl : l.length ≤ 1000000000) (ho : os.length ≤ 1000000000) :
    ACall Try.prog 39 [.agg [litI nl l], litO nlo os] [] nid (.tup [.sl nid 0 (wearR l os).length, .int .i64 (checkOps l os)]) [(nid, arrI (wearR l os))] := by
  refine acall_run c39 (by simp [a39]) ?_
  unfold litI litO
  simp -dsimp only [aqT, ROp, OX, ↓seqK, ↓blkK, ↓loopK, step, stepBin, res, stepIdx, mix, PV.cells, argSlots, Nat.reduceBEq, Nat.reduceBeqDiff, Nat.add_assoc nid, Nat.reduceAdd, reduceCtorEq, ↓reduceIte, Nat.reduceLeDiff, colPV, freeOf, indep, offO, neqO, disj, namesX, axSlot, opXs, rdXs, idsOf, idsOfs, lowH, lowAll, keys, Nat.reduceBneDiff, Option.toList, ← Int.ofNat_tmod, ← Int.ofNat_tdiv, optInt, fillP, repl, chunk, mkCols, mkCol, colInts, colBools, colStrs, colLits, colsApp, Col.app, tailOf, splice, colsPut, Col.put, mmFold, eqK, Nat.reduceLT, colsPaste, Col.paste, a39]
  refine CallO.pure (checkOps_c nl nlo l os _ hl ho) ?_
  simp -dsimp only [aqT, ROp, OX, ↓seqK, ↓blkK, ↓loopK, step, stepBin, res, stepIdx, mix, PV.cells, argSlots, Nat.reduceBEq, Nat.reduceBeqDiff, Nat.add_assoc nid, Nat.reduceAdd, reduceCtorEq, ↓reduceIte, Nat.reduceLeDiff, colPV, freeOf, indep, offO, neqO, disj, namesX, axSlot, opXs, rdXs, idsOf, idsOfs, lowH, lowAll, keys, Nat.reduceBneDiff, Option.toList, ← Int.ofNat_tmod, ← Int.ofNat_tdiv, optInt, fillP, repl, chunk, mkCols, mkCol, colInts, colBools, colStrs, colLits, colsApp, Col.app, tailOf, splice, colsPut, Col.put, mmFold, eqK, Nat.reduceLT, colsPaste, Col.paste]
  refine S2.intro (fun h => ?_) (fun h => ?_) <;> simp -dsimp only [aqT, ROp, OX, ↓seqK, ↓blkK, ↓loopK, step, stepBin, res, stepIdx, mix, PV.cells, argSlots, Nat.reduceBEq, Nat.reduceBeqDiff, Nat.add_assoc nid, Nat.reduceAdd, reduceCtorEq, ↓reduceIte, Nat.reduceLeDiff, colPV, freeOf, indep, offO, neqO, disj, namesX, axSlot, opXs, rdXs, idsOf, idsOfs, lowH, lowAll, keys, Nat.reduceBneDiff, Option.toList, ← Int.ofNat_tmod, ← Int.ofNat_tdiv, optInt, fillP, repl, chunk, mkCols, mkCol, colInts, colBools, colStrs, colLits, colsApp, Col.app, tailOf, splice, colsPut, Col.put, mmFold, eqK, Nat.reduceLT, colsPaste, Col.paste]
  · have h1 : checkOps l os ≠ 0 := by simpa using h
    have e2 : wearR l os = [] := by unfold wearR; rw [if_neg h1]
    rw [e2]
    refine RetOK.go [] [(nid, 1)] (.inl rfl) ?_
    simp [retPV, over, keys, List.map_nil, List.map_cons, List.contains_cons, List.contains_nil, Bool.or_false, Bool.or_true, Bool.true_or, Bool.false_or, beq_self_eq_true, cond_true, cond_false, HeapCov, orNil, nilSz, onBlk, srcOf, getH_hit, getH_miss, getH.eq_1, getS_hit, getS_miss, getS.eq_1, BlkCov, PVCovs, PVCov, ColsEq, ColEq.refl, liveIds, SlotsCov, List.all_nil, List.all_cons, List.any_nil, List.any_cons, List.nil_append, List.cons_append, inRange, apart, nilBlk, idS1, idS2, readAll, readRes, onAll, step, res, AX.val, List.drop_zero, List.drop_succ_cons, List.take_succ_cons, List.take_zero, a39, arrI]
  have hco : checkOps l os = 0 := by simpa using h
  obtain ⟨hff, hopf⟩ := ok_of_checkOps hco
  obtain ⟨hol, hos⟩ := ok_of_opsFault hopf
  have hlen := (flashFault_ok hff).len
  have e2 : wearR l os = (List.range l.length).map fun i => (wearV os i : Int) := by unfold wearR; rw [if_pos hco]
  rw [hco, e2]
  refine ⟨⟨by omega, by omega, by omega⟩, ?_⟩
  refine LP.mkP (fun k : Nat => k ≤ os.length) (fun k : Nat => ⟨[(22, .int .i64 k), (21, .int .i64 os.length), (20, litO nlo os), (7, .sl (nid + 4) 0 l.length)], [(nid + 4, some (.arr 3 l.length [.i .i64 fun i => (wearV (os.take k) i : Nat)]))], nid + 1000, nid⟩) (fun k => os.length + 1 - k) 0 ?_ (Cov.go [(nid + 4, nid + 48)] [] ?_) (fun k hk => ?_)
  · omega
  · simp [retPV, over, keys, List.map_nil, List.map_cons, List.contains_cons, List.contains_nil, Bool.or_false, Bool.or_true, Bool.true_or, Bool.false_or, beq_self_eq_true, cond_true, cond_false, HeapCov, orNil, nilSz, onBlk, srcOf, getH_hit, getH_miss, getH.eq_1, getS_hit, getS_miss, getS.eq_1, BlkCov, PVCovs, PVCov, ColsEq, ColEq.refl, liveIds, SlotsCov, List.all_nil, List.all_cons, List.any_nil, List.any_cons, List.nil_append, List.cons_append, inRange, apart, nilBlk, idS1, idS2, readAll, readRes, onAll, step, res, AX.val, List.drop_zero, List.drop_succ_cons, List.take_succ_cons, List.take_zero, litO, Col.const, wearV]
  unfold litO
  simp -dsimp only [aqT, ROp, OX, ↓seqK, ↓blkK, ↓loopK, step, stepBin, res, stepIdx, mix, PV.cells, argSlots, Nat.reduceBEq, Nat.reduceBeqDiff, Nat.add_assoc nid, Nat.reduceAdd, reduceCtorEq, ↓reduceIte, Nat.reduceLeDiff, colPV, freeOf, indep, offO, neqO, disj, namesX, axSlot, opXs, rdXs, idsOf, idsOfs, lowH, lowAll, keys, Nat.reduceBneDiff, Option.toList, ← Int.ofNat_tmod, ← Int.ofNat_tdiv, optInt, fillP, repl, chunk, mkCols, mkCol, colInts, colBools, colStrs, colLits, colsApp, Col.app, tailOf, splice, colsPut, Col.put, mmFold, eqK, Nat.reduceLT, colsPaste, Col.paste]
  refine S2.dec (fun h3 => ?_) (fun h3 => ?_) <;> simp -dsimp only [aqT, ROp, OX, ↓seqK, ↓blkK, ↓loopK, step, stepBin, res, stepIdx, mix, PV.cells, argSlots, Nat.reduceBEq, Nat.reduceBeqDiff, Nat.add_assoc nid, Nat.reduceAdd, reduceCtorEq, ↓reduceIte, Nat.reduceLeDiff, colPV, freeOf, indep, offO, neqO, disj, namesX, axSlot, opXs, rdXs, idsOf, idsOfs, lowH, lowAll, keys, Nat.reduceBneDiff, Option.toList, ← Int.ofNat_tmod, ← Int.ofNat_tdiv, optInt, fillP, repl, chunk, mkCols, mkCol, colInts, colBools, colStrs, colLits, colsApp, Col.app, tailOf, splice, colsPut, Col.put, mmFold, eqK, Nat.reduceLT, colsPaste, Col.paste]
  · have hkl : k < os.length := by omega
    have hsn : os.take (k + 1) = os.take k ++ [os.getD k op0] := take_snoc (by rw [List.getD_eq_getElem?_getD, List.getElem?_eq_getElem hkl]; rfl)
    have hxk : OpOk l (os.getD k op0) := hos _ (by rw [List.getD_eq_getElem?_getD, List.getElem?_eq_getElem hkl]; exact List.getElem_mem hkl)
    have hstep : ∀ i, wearV (os.take (k + 1)) i = wearV (os.take k) i + if (os.getD k op0).k = 1 ∧ (os.getD k op0).a.toNat = i then 1 else 0 := fun i => by rw [hsn, wearV_snoc]
    generalize os.getD k op0 = x at *
    refine ⟨by omega, S2.intro (fun h => ?_) (fun h => ?_)⟩ <;> simp -dsimp only [aqT, ROp, OX, ↓seqK, ↓blkK, ↓loopK, step, stepBin, res, stepIdx, mix, PV.cells, argSlots, Nat.reduceBEq, Nat.reduceBeqDiff, Nat.add_assoc nid, Nat.reduceAdd, reduceCtorEq, ↓reduceIte, Nat.reduceLeDiff, colPV, freeOf, indep, offO, neqO, disj, namesX, axSlot, opXs, rdXs, idsOf, idsOfs, lowH, lowAll, keys, Nat.reduceBneDiff, Option.toList, ← Int.ofNat_tmod, ← Int.ofNat_tdiv, optInt, fillP, repl, chunk, mkCols, mkCol, colInts, colBools, colStrs, colLits, colsApp, Col.app, tailOf, splice, colsPut, Col.put, mmFold, eqK, Nat.reduceLT, colsPaste, Col.paste]
    · have hk1 : x.k = 1 := by simpa using h
      have ha := hxk.er hk1
      have hwl := wearV_le (os.take k) x.a.toNat
      have htl : (os.take k).length ≤ os.length := by rw [List.length_take]; omega
      refine ⟨by omega, by unfold inI64; omega, by omega, by unfold inI64; omega, k + 1, ⟨by omega, by omega⟩, Cov.go [] [] ?_⟩
      simp [retPV, over, keys, List.map_nil, List.map_cons, List.contains_cons, List.contains_nil, Bool.or_false, Bool.or_true, Bool.true_or, Bool.false_or, beq_self_eq_true, cond_true, cond_false, HeapCov, orNil, nilSz, onBlk, srcOf, getH_hit, getH_miss, getH.eq_1, getS_hit, getS_miss, getS.eq_1, BlkCov, PVCovs, PVCov, ColsEq, ColEq.refl, liveIds, SlotsCov, List.all_nil, List.all_cons, List.any_nil, List.any_cons, List.nil_append, List.cons_append, inRange, apart, nilBlk, idS1, idS2, readAll, readRes, onAll, step, res, AX.val, List.drop_zero, List.drop_succ_cons, List.take_succ_cons, List.take_zero, litO, -List.getD_eq_getElem?_getD]
      refine ColEq.i fun i hi => ?_
      rw [hstep i]
      by_cases he : i = x.a.toNat
      · subst he; simp [hk1]
      · rw [if_neg he, if_neg (fun h => he h.2.symm)]; rfl
    · have hk1 : x.k ≠ 1 := by simpa using h
      refine ⟨by unfold inI64; omega, k + 1, ⟨by omega, by omega⟩, Cov.go [] [] ?_⟩
      simp [retPV, over, keys, List.map_nil, List.map_cons, List.contains_cons, List.contains_nil, Bool.or_false, Bool.or_true, Bool.true_or, Bool.false_or, beq_self_eq_true, cond_true, cond_false, HeapCov, orNil, nilSz, onBlk, srcOf, getH_hit, getH_miss, getH.eq_1, getS_hit, getS_miss, getS.eq_1, BlkCov, PVCovs, PVCov, ColsEq, ColEq.refl, liveIds, SlotsCov, List.all_nil, List.all_cons, List.any_nil, List.any_cons, List.nil_append, List.cons_append, inRange, apart, nilBlk, idS1, idS2, readAll, readRes, onAll, step, res, AX.val, List.drop_zero, List.drop_succ_cons, List.take_succ_cons, List.take_zero, litO, -List.getD_eq_getElem?_getD]
      refine ColEq.i fun i hi => ?_
      rw [hstep i, if_neg (fun h => hk1 h.1)]; rfl
  · have : k = os.length := by omega
    subst this
    refine RetOK.go [(nid, nid + 4)] [] (.inl rfl) ?_
    simp [retPV, over, keys, List.map_nil, List.map_cons, List.contains_cons, List.contains_nil, Bool.or_false, Bool.or_true, Bool.true_or, Bool.false_or, beq_self_eq_true, cond_true, cond_false, HeapCov, orNil, nilSz, onBlk, srcOf, getH_hit, getH_miss, getH.eq_1, getS_hit, getS_miss, getS.eq_1, BlkCov, PVCovs, PVCov, ColsEq, ColEq.refl, liveIds, SlotsCov, List.all_nil, List.all_cons, List.any_nil, List.any_cons, List.nil_append, List.cons_append, inRange, apart, nilBlk, idS1, idS2, readAll, readRes, onAll, step, res, AX.val, List.drop_zero, List.drop_succ_cons, List.take_succ_cons, List.take_zero, a39, arrI]
    refine ColEq.i fun i hi => ?_
    simp [hi]
end Go.Proofs.Ytmnhlfkphibhfaa
/-
  Equal of slices, by the abstract machine.
-/
namespace Go.Proofs.Ytmnhlfkphibhfaa
open Go.RowKit
set_option linter.unusedVariables false
set_option linter.unusedSimpArgs false
set_option maxRecDepth 100000
theorem take_eqS {l m : List Int} {k : Nat} (hl : k < l.length) (hm : k < m.length) (h : l.take k = m.take k) (hx : l.getD k 0 = m.getD k 0) : l.take (k + 1) = m.take (k + 1) := by
  rw [take_snoc (x := l.getD k 0) (by rw [List.getD_eq_getElem?_getD, List.getElem?_eq_getElem hl]; rfl), take_snoc (x := m.getD k 0) (by rw [List.getD_eq_getElem?_getD, List.getElem?_eq_getElem hm]; rfl), h, hx]
theorem equalI_c (nl nl' : Bool) (l m : List Int) (nid : Nat) (hl : l.length ≤ 1000000000000) (hm : m.length ≤ 1000000000000) : ACall Try.prog 23 [litI nl l, litI nl' m] [] nid (.bool (l == m)) [] := by
  refine acall_run c23 (by simp [a23]) ?_
  unfold litI
  simp -dsimp only [a23, aqT, ROp, OX, ↓seqK, ↓blkK, ↓loopK, step, stepBin, res, stepIdx, mix, PV.cells, argSlots, Nat.reduceBEq, Nat.reduceBeqDiff, Nat.add_assoc nid, Nat.reduceAdd, reduceCtorEq, ↓reduceIte, Nat.reduceLeDiff, colPV, freeOf, indep, offO, neqO, disj, namesX, axSlot, opXs, rdXs, idsOf, idsOfs, lowH, lowAll, keys, Nat.reduceBneDiff, Option.toList, ← Int.ofNat_tmod, ← Int.ofNat_tdiv, optInt, fillP, repl, chunk, mkCols, mkCol, colInts, colBools, colStrs, colLits, colsApp, Col.app, tailOf, splice, colsPut, Col.put, mmFold, eqK, Nat.reduceLT, colsPaste, Col.paste]
  refine S2.intro (fun h => ?_) (fun h => ?_) <;> simp -dsimp only [aqT, ROp, OX, ↓seqK, ↓blkK, ↓loopK, step, stepBin, res, stepIdx, mix, PV.cells, argSlots, Nat.reduceBEq, Nat.reduceBeqDiff, Nat.add_assoc nid, Nat.reduceAdd, reduceCtorEq, ↓reduceIte, Nat.reduceLeDiff, colPV, freeOf, indep, offO, neqO, disj, namesX, axSlot, opXs, rdXs, idsOf, idsOfs, lowH, lowAll, keys, Nat.reduceBneDiff, Option.toList, ← Int.ofNat_tmod, ← Int.ofNat_tdiv, optInt, fillP, repl, chunk, mkCols, mkCol, colInts, colBools, colStrs, colLits, colsApp, Col.app, tailOf, splice, colsPut, Col.put, mmFold, eqK, Nat.reduceLT, colsPaste, Col.paste]
  · refine RetOK.pure (.inl rfl) rfl ?_
    have h1 : l ≠ m := fun e => by subst e; simp at h
    have h2 : (l == m) = false := by simpa using h1
    simp [retPV, over, keys, List.map_nil, List.map_cons, List.contains_cons, List.contains_nil, Bool.or_false, Bool.or_true, Bool.true_or, Bool.false_or, beq_self_eq_true, cond_true, cond_false, HeapCov, orNil, nilSz, onBlk, srcOf, getH_hit, getH_miss, getH.eq_1, getS_hit, getS_miss, getS.eq_1, BlkCov, PVCovs, PVCov, ColsEq, ColEq.refl, liveIds, SlotsCov, List.all_nil, List.all_cons, List.any_nil, List.any_cons, List.nil_append, List.cons_append, inRange, apart, nilBlk, idS1, idS2, readAll, readRes, onAll, step, res, AX.val, List.drop_zero, List.drop_succ_cons, List.take_succ_cons, List.take_zero, h1]
  have hlm : l.length = m.length := by have : (l.length : Int) = m.length := by simpa using h
                                       omega
  refine LP.mkP (fun k : Nat => k ≤ l.length ∧ l.take k = m.take k) (fun k : Nat => ⟨[(13, .int .i64 k), (12, .int .i64 l.length), (0, litI nl l), (1, litI nl' m)], [], nid + 36, nid⟩) (fun k => l.length + 1 - k) 0 ⟨by omega, rfl⟩ (Cov.go [] [] ?_) (fun k hk => ?_)
  · simp [retPV, over, keys, List.map_nil, List.map_cons, List.contains_cons, List.contains_nil, Bool.or_false, Bool.or_true, Bool.true_or, Bool.false_or, beq_self_eq_true, cond_true, cond_false, HeapCov, orNil, nilSz, onBlk, srcOf, getH_hit, getH_miss, getH.eq_1, getS_hit, getS_miss, getS.eq_1, BlkCov, PVCovs, PVCov, ColsEq, ColEq.refl, liveIds, SlotsCov, List.all_nil, List.all_cons, List.any_nil, List.any_cons, List.nil_append, List.cons_append, inRange, apart, nilBlk, idS1, idS2, readAll, readRes, onAll, step, res, AX.val, List.drop_zero, List.drop_succ_cons, List.take_succ_cons, List.take_zero, litI]
  unfold litI
  obtain ⟨hk, ht⟩ := hk
  simp -dsimp only [aqT, ROp, OX, ↓seqK, ↓blkK, ↓loopK, step, stepBin, res, stepIdx, mix, PV.cells, argSlots, Nat.reduceBEq, Nat.reduceBeqDiff, Nat.add_assoc nid, Nat.reduceAdd, reduceCtorEq, ↓reduceIte, Nat.reduceLeDiff, colPV, freeOf, indep, offO, neqO, disj, namesX, axSlot, opXs, rdXs, idsOf, idsOfs, lowH, lowAll, keys, Nat.reduceBneDiff, Option.toList, ← Int.ofNat_tmod, ← Int.ofNat_tdiv, optInt, fillP, repl, chunk, mkCols, mkCol, colInts, colBools, colStrs, colLits, colsApp, Col.app, tailOf, splice, colsPut, Col.put, mmFold, eqK, Nat.reduceLT, colsPaste, Col.paste]
  refine S2.dec (fun h3 => ?_) (fun h3 => ?_) <;> simp -dsimp only [aqT, ROp, OX, ↓seqK, ↓blkK, ↓loopK, step, stepBin, res, stepIdx, mix, PV.cells, argSlots, Nat.reduceBEq, Nat.reduceBeqDiff, Nat.add_assoc nid, Nat.reduceAdd, reduceCtorEq, ↓reduceIte, Nat.reduceLeDiff, colPV, freeOf, indep, offO, neqO, disj, namesX, axSlot, opXs, rdXs, idsOf, idsOfs, lowH, lowAll, keys, Nat.reduceBneDiff, Option.toList, ← Int.ofNat_tmod, ← Int.ofNat_tdiv, optInt, fillP, repl, chunk, mkCols, mkCol, colInts, colBools, colStrs, colLits, colsApp, Col.app, tailOf, splice, colsPut, Col.put, mmFold, eqK, Nat.reduceLT, colsPaste, Col.paste]
  · refine ⟨by omega, by omega, S2.intro (fun h4 => ?_) (fun h4 => ?_)⟩ <;> simp -dsimp only [aqT, ROp, OX, ↓seqK, ↓blkK, ↓loopK, step, stepBin, res, stepIdx, mix, PV.cells, argSlots, Nat.reduceBEq, Nat.reduceBeqDiff, Nat.add_assoc nid, Nat.reduceAdd, reduceCtorEq, ↓reduceIte, Nat.reduceLeDiff, colPV, freeOf, indep, offO, neqO, disj, namesX, axSlot, opXs, rdXs, idsOf, idsOfs, lowH, lowAll, keys, Nat.reduceBneDiff, Option.toList, ← Int.ofNat_tmod, ← Int.ofNat_tdiv, optInt, fillP, repl, chunk, mkCols, mkCol, colInts, colBools, colStrs, colLits, colsApp, Col.app, tailOf, splice, colsPut, Col.put, mmFold, eqK, Nat.reduceLT, colsPaste, Col.paste]
    · refine RetOK.pure (.inl rfl) rfl ?_
      have h1 : l ≠ m := fun e => by subst e; simp at h4
      simp [retPV, over, keys, List.map_nil, List.map_cons, List.contains_cons, List.contains_nil, Bool.or_false, Bool.or_true, Bool.true_or, Bool.false_or, beq_self_eq_true, cond_true, cond_false, HeapCov, orNil, nilSz, onBlk, srcOf, getH_hit, getH_miss, getH.eq_1, getS_hit, getS_miss, getS.eq_1, BlkCov, PVCovs, PVCov, ColsEq, ColEq.refl, liveIds, SlotsCov, List.all_nil, List.all_cons, List.any_nil, List.any_cons, List.nil_append, List.cons_append, inRange, apart, nilBlk, idS1, idS2, readAll, readRes, onAll, step, res, AX.val, List.drop_zero, List.drop_succ_cons, List.take_succ_cons, List.take_zero, h1]
    · have h5 : l.getD k 0 = m.getD k 0 := by simpa using h4
      refine ⟨by unfold inI64; omega, k + 1, ⟨⟨by omega, take_eqS (by omega) (by omega) ht h5⟩, by omega⟩, Cov.go [] [] ?_⟩
      simp [retPV, over, keys, List.map_nil, List.map_cons, List.contains_cons, List.contains_nil, Bool.or_false, Bool.or_true, Bool.true_or, Bool.false_or, beq_self_eq_true, cond_true, cond_false, HeapCov, orNil, nilSz, onBlk, srcOf, getH_hit, getH_miss, getH.eq_1, getS_hit, getS_miss, getS.eq_1, BlkCov, PVCovs, PVCov, ColsEq, ColEq.refl, liveIds, SlotsCov, List.all_nil, List.all_cons, List.any_nil, List.any_cons, List.nil_append, List.cons_append, inRange, apart, nilBlk, idS1, idS2, readAll, readRes, onAll, step, res, AX.val, List.drop_zero, List.drop_succ_cons, List.take_succ_cons, List.take_zero, litI]
  · have hkl : k = l.length := by omega
    have h1 : l = m := by rw [hkl] at ht; rw [List.take_length, hlm, List.take_length] at ht; exact ht
    refine RetOK.pure (.inl rfl) rfl ?_
    simp [retPV, over, keys, List.map_nil, List.map_cons, List.contains_cons, List.contains_nil, Bool.or_false, Bool.or_true, Bool.true_or, Bool.false_or, beq_self_eq_true, cond_true, cond_false, HeapCov, orNil, nilSz, onBlk, srcOf, getH_hit, getH_miss, getH.eq_1, getS_hit, getS_miss, getS.eq_1, BlkCov, PVCovs, PVCov, ColsEq, ColEq.refl, liveIds, SlotsCov, List.all_nil, List.all_cons, List.any_nil, List.any_cons, List.nil_append, List.cons_append, inRange, apart, nilBlk, idS1, idS2, readAll, readRes, onAll, step, res, AX.val, List.drop_zero, List.drop_succ_cons, List.take_succ_cons, List.take_zero, h1]
end Go.Proofs.Ytmnhlfkphibhfaa
/-
  The states of a test access port and the shortest path between two of them, by the abstract machine.
-/
namespace Go.Proofs.Ytmnhlfkphibhfaa
open Go.RowKit
set_option linter.unusedVariables false
set_option linter.unusedSimpArgs false
set_option maxRecDepth 100000
/-- the next state, plainly -/
def stT : List (Nat × Nat) := [(1, 0), (1, 2), (3, 9), (4, 5), (4, 5), (6, 8), (6, 7), (4, 8), (1, 2), (10, 0), (11, 12), (11, 12), (13, 15), (13, 14), (11, 15), (1, 2)]
def nextN (s t : Nat) : Nat := if t = 0 then (stT.getD s (0, 0)).1 else (stT.getD s (0, 0)).2
def stCells : List PV := stT.flatMap fun x => [.int .i64 (x.1 : Nat), .int .i64 (x.2 : Nat)]
theorem stCells_get : ∀ s, s < 16 → ∀ t, t < 2 → ∃ r, stCells.drop (s * 2 + t) = .int .i64 (nextN s t : Nat) :: r := by
  intro s hs t ht
  rcases t with _ | _ | t
  · rcases s with _ | _ | _ | _ | _ | _ | _ | _ | _ | _ | _ | _ | _ | _ | _ | _ | s <;> first | exact ⟨_, rfl⟩ | omega
  · rcases s with _ | _ | _ | _ | _ | _ | _ | _ | _ | _ | _ | _ | _ | _ | _ | _ | s <;> first | exact ⟨_, rfl⟩ | omega
  · omega
theorem next_st (s t nid : Nat) (hs : s < 16) (ht : t < 2) : ACall Try.prog 98 [.int .i64 (s : Nat), .int .i64 (t : Nat)] [] nid (.int .i64 (nextN s t : Nat)) [] := by
  refine acall_run c98 (by simp [a98]) ?_
  obtain ⟨r, hr⟩ := stCells_get s hs t ht
  have e : stCells = [.int .i64 1, .int .i64 0, .int .i64 1, .int .i64 2, .int .i64 3, .int .i64 9, .int .i64 4, .int .i64 5, .int .i64 4, .int .i64 5, .int .i64 6, .int .i64 8, .int .i64 6, .int .i64 7, .int .i64 4, .int .i64 8,
    .int .i64 1, .int .i64 2, .int .i64 10, .int .i64 0, .int .i64 11, .int .i64 12, .int .i64 11, .int .i64 12, .int .i64 13, .int .i64 15, .int .i64 13, .int .i64 14, .int .i64 11, .int .i64 15, .int .i64 1, .int .i64 2] := rfl
  rw [e] at hr
  simp -dsimp only [a98, aqT, ROp, OX, ↓seqK, ↓blkK, ↓loopK, step, stepBin, res, stepIdx, mix, PV.cells, argSlots, Nat.reduceBEq, Nat.reduceBeqDiff, Nat.add_assoc nid, Nat.reduceAdd, reduceCtorEq, ↓reduceIte, Nat.reduceLeDiff, colPV, freeOf, indep, offO, neqO, disj, namesX, axSlot, opXs, rdXs, idsOf, idsOfs, lowH, lowAll, keys, Nat.reduceBneDiff, Option.toList, ← Int.ofNat_tmod, ← Int.ofNat_tdiv, optInt, fillP, repl, chunk, mkCols, mkCol, colInts, colBools, colStrs, colLits, colsApp, Col.app, tailOf, splice, colsPut, Col.put, mmFold, eqK, Nat.reduceLT, colsPaste, Col.paste]
  refine ⟨by omega, by omega, ?_⟩
  rw [Nat.mul_one, hr]
  simp -dsimp only [aqT, ROp, OX, ↓seqK, ↓blkK, ↓loopK, step, stepBin, res, stepIdx, mix, PV.cells, argSlots, Nat.reduceBEq, Nat.reduceBeqDiff, Nat.add_assoc nid, Nat.reduceAdd, reduceCtorEq, ↓reduceIte, Nat.reduceLeDiff, colPV, freeOf, indep, offO, neqO, disj, namesX, axSlot, opXs, rdXs, idsOf, idsOfs, lowH, lowAll, keys, Nat.reduceBneDiff, Option.toList, ← Int.ofNat_tmod, ← Int.ofNat_tdiv, optInt, fillP, repl, chunk, mkCols, mkCol, colInts, colBools, colStrs, colLits, colsApp, Col.app, tailOf, splice, colsPut, Col.put, mmFold, eqK, Nat.reduceLT, colsPaste, Col.paste]
  refine RetOK.pure (.inl rfl) rfl ?_
  simp [retPV, over, keys, List.map_nil, List.map_cons, List.contains_cons, List.contains_nil, Bool.or_false, Bool.or_true, Bool.true_or, Bool.false_or, beq_self_eq_true, cond_true, cond_false, HeapCov, orNil, nilSz, onBlk, srcOf, getH_hit, getH_miss, getH.eq_1, getS_hit, getS_miss, getS.eq_1, BlkCov, PVCovs, PVCov, ColsEq, ColEq.refl, liveIds, SlotsCov, List.all_nil, List.all_cons, List.any_nil, List.any_cons, List.nil_append, List.cons_append, inRange, apart, nilBlk, idS1, idS2, readAll, readRes, onAll, step, res, AX.val, List.drop_zero, List.drop_succ_cons, List.take_succ_cons, List.take_zero]
/-- the search for paths, plainly: the states to look at, and the ways found -/
def tlook : List (Nat × List UInt8) → MK → Option (List UInt8)
  | [], _ => none
  | (k, v) :: r, q => if q = .i (k : Nat) then some v else tlook r q
def pIn (a t : Nat) (x : List Nat × List (Nat × List UInt8)) : List Nat × List (Nat × List UInt8) :=
  if (tlook x.2 (.i (nextN a t : Nat))).isSome then x else (x.1 ++ [nextN a t], (nextN a t, (tlook x.2 (.i (a : Nat))).getD [] ++ [UInt8.ofNat (48 + t)]) :: x.2)
def pOut (x : List Nat × List (Nat × List UInt8)) : List Nat × List (Nat × List UInt8) := match x.1 with
  | [] => x
  | a :: r => pIn a 1 (pIn a 0 (r, x.2))
def pAt (s : Nat) : Nat → List Nat × List (Nat × List UInt8)
  | 0 => ([s], [(s, [])])
  | n + 1 => pOut (pAt s n)
def pathV (s t : Nat) : List UInt8 := (tlook (pAt s 16).2 (.i (t : Nat))).getD []
theorem pAt_ok : ∀ s, s < 16 → ((pAt s 16).1 = [] ∧ ∀ n, n < 17 → ((pAt s n).1.all (· < 16) = true ∧ (pAt s n).1.length ≤ 16 ∧ (pAt s n).2.all (fun x => decide (x.2.length ≤ 16)) = true)) := by decide
def pInTo (a : Nat) (x : List Nat × List (Nat × List UInt8)) : Nat → List Nat × List (Nat × List UInt8)
  | 0 => x
  | k + 1 => pIn a k (pInTo a x k)
theorem pInTo_len (a : Nat) (x : List Nat × List (Nat × List UInt8)) (k : Nat) : (pInTo a x k).1.length ≤ x.1.length + k := by
  induction k with
  | zero => exact Nat.le_refl _
  | succ k ih =>
    unfold pInTo pIn
    split
    · omega
    · simp; omega
theorem tlook_len {L : Nat} : ∀ {T : List (Nat × List UInt8)}, T.all (fun x => decide (x.2.length ≤ L)) = true → ∀ q, ((tlook T q).getD []).length ≤ L
  | [], _, q => by simp [tlook]
  | (k, v) :: r, h, q => by
    simp only [List.all_cons, Bool.and_eq_true, decide_eq_true_eq] at h
    unfold tlook
    split
    · exact h.1
    · exact tlook_len h.2 q
theorem pInTo_vals {L : Nat} (a : Nat) {x : List Nat × List (Nat × List UInt8)} (h : x.2.all (fun x => decide (x.2.length ≤ L)) = true) : ∀ k, (pInTo a x k).2.all (fun x => decide (x.2.length ≤ L + k)) = true
  | 0 => h
  | k + 1 => by
    have ih := pInTo_vals a h k
    have ih' : (pInTo a x k).2.all (fun x => decide (x.2.length ≤ L + (k + 1))) = true := by
      rw [List.all_eq_true] at ih ⊢
      intro y hy
      have := ih y hy
      simp only [decide_eq_true_eq] at this ⊢
      omega
    unfold pInTo pIn
    split
    · exact ih'
    · simp only [List.all_cons, Bool.and_eq_true, decide_eq_true_eq, ih', and_true, List.length_append, List.length_singleton]
      have := tlook_len ih (.i (a : Nat))
      omega
theorem optD (o : Option (List UInt8)) : (bif o.isSome then o.getD [] else []) = o.getD [] := by cases o <;> rfl
theorem utf8_bit {k : Nat} (hk : k < 2) : (Utf8.encode (IntKind.i32.wrap (48 + (k : Int)))).data.toList = [UInt8.ofNat (48 + k)] := by
  have : k = 0 ∨ k = 1 := by omega
  rcases this with rfl | rfl <;> rfl
theorem getD_snocN (l : List Nat) (x i : Nat) : (l ++ [x]).getD i 0 = if i < l.length then l.getD i 0 else if i = l.length then x else 0 := by
  simp only [List.getD_eq_getElem?_getD, List.getElem?_append]
  split
  · rfl
  · split
    · simp [*]
    · rw [List.getElem?_eq_none (by simp; omega)]; rfl
def mapT (T : List (Nat × List UInt8)) : Option ABlk := some (.map (some .i64) (fun q => (tlook T q).isSome) (.s fun q => (tlook T q).getD []))
set_option maxHeartbeats 1000000 in
theorem path_st (s t nid : Nat) (hs : s < 16) : ACall Try.prog 86 [.int .i64 (s : Nat), .int .i64 (t : Nat)] [] nid (.str (pathV s t)) [] := by
  refine acall_run c86 (by simp [a86]) ?_
  simp -dsimp only [a86, aqT, ROp, OX, ↓seqK, ↓blkK, ↓loopK, step, stepBin, res, stepIdx, mix, PV.cells, argSlots, Nat.reduceBEq, Nat.reduceBeqDiff, Nat.add_assoc nid, Nat.reduceAdd, reduceCtorEq, ↓reduceIte, Nat.reduceLeDiff, colPV, freeOf, indep, offO, neqO, disj, namesX, axSlot, opXs, rdXs, idsOf, idsOfs, lowH, lowAll, keys, Nat.reduceBneDiff, Option.toList, ← Int.ofNat_tmod, ← Int.ofNat_tdiv, optInt, fillP, repl, chunk, mkCols, mkCol, colInts, colBools, colStrs, colLits, colsApp, Col.app, tailOf, splice, colsPut, Col.put, mmFold, eqK, Nat.reduceLT, colsPaste, Col.paste, mNew, mkKey, mPut]
  refine LP.mkP (fun x : Nat × Nat × (Nat → Int) => x.1 ≤ 16) (fun x => ⟨[(6, .sl (nid + 4) x.2.1 (pAt s x.1).1.length), (5, .mp (nid + 8)), (1, .int .i64 (t : Nat))],
    [(nid + 4, some (.arr 3 (x.2.1 + (pAt s x.1).1.length) [.i .i64 fun i => if i < x.2.1 then x.2.2 i else (((pAt s x.1).1.getD (i - x.2.1) 0 : Nat) : Int)])), (nid + 8, mapT (pAt s x.1).2)], nid + 100, nid⟩)
    (fun x => 17 - x.1) (0, 0, fun _ => 0) (by simp) (Cov.go [(nid + 4, nid + 28), (nid + 8, nid + 4)] [] ?_) (fun x hx => ?_)
  · simp [retPV, over, keys, List.map_nil, List.map_cons, List.contains_cons, List.contains_nil, Bool.or_false, Bool.or_true, Bool.true_or, Bool.false_or, beq_self_eq_true, cond_true, cond_false, HeapCov, orNil, nilSz, onBlk, srcOf, getH_hit, getH_miss, getH.eq_1, getS_hit, getS_miss, getS.eq_1, BlkCov, PVCovs, PVCov, ColsEq, ColEq.refl, liveIds, SlotsCov, List.all_nil, List.all_cons, List.any_nil, List.any_cons, List.nil_append, List.cons_append, inRange, apart, nilBlk, idS1, idS2, readAll, readRes, onAll, step, res, AX.val, List.drop_zero, List.drop_succ_cons, List.take_succ_cons, List.take_zero, pAt, mapT]
    refine ⟨ColEq.i fun i hi => ?_, fun q hq => ?_⟩
    · have : i = 0 := by omega
      subst this; rfl
    · unfold tlook tlook
      split <;> simp [*, mVal]
  obtain ⟨n, d, g⟩ := x
  simp only at hx
  obtain ⟨ok1, ok2⟩ := pAt_ok s hs
  have ok := ok2 n (by omega)
  have hst : pAt s (n + 1) = pOut (pAt s n) := rfl
  unfold mapT
  simp -dsimp only [aqT, ROp, OX, ↓seqK, ↓blkK, ↓loopK, step, stepBin, res, stepIdx, mix, PV.cells, argSlots, Nat.reduceBEq, Nat.reduceBeqDiff, Nat.add_assoc nid, Nat.reduceAdd, reduceCtorEq, ↓reduceIte, Nat.reduceLeDiff, colPV, freeOf, indep, offO, neqO, disj, namesX, axSlot, opXs, rdXs, idsOf, idsOfs, lowH, lowAll, keys, Nat.reduceBneDiff, Option.toList, ← Int.ofNat_tmod, ← Int.ofNat_tdiv, optInt, fillP, repl, chunk, mkCols, mkCol, colInts, colBools, colStrs, colLits, colsApp, Col.app, tailOf, splice, colsPut, Col.put, mmFold, eqK, Nat.reduceLT, colsPaste, Col.paste]
  refine S2.dec (fun h1 => ?_) (fun h1 => ?_)
  · have hn : n < 16 := by
      rcases Nat.lt_or_ge n 16 with h | h
      · exact h
      · have : n = 16 := by omega
        subst this; rw [ok1] at h1; simp at h1
    rcases hQ : pAt s n with ⟨Q, T⟩
    rw [hQ] at ok hst h1
    rcases Q with _ | ⟨a, r⟩
    · simp at h1
    simp only [List.all_cons, Bool.and_eq_true, decide_eq_true_eq, List.length_cons] at ok
    obtain ⟨⟨ha, hr⟩, hlen, hvl⟩ := ok
    have hst : pAt s (n + 1) = pInTo a (r, T) 2 := hst
    simp -dsimp only [aqT, ROp, OX, ↓seqK, ↓blkK, ↓loopK, step, stepBin, res, stepIdx, mix, PV.cells, argSlots, Nat.reduceBEq, Nat.reduceBeqDiff, Nat.add_assoc nid, Nat.reduceAdd, reduceCtorEq, ↓reduceIte, Nat.reduceLeDiff, colPV, freeOf, indep, offO, neqO, disj, namesX, axSlot, opXs, rdXs, idsOf, idsOfs, lowH, lowAll, keys, Nat.reduceBneDiff, Option.toList, ← Int.ofNat_tmod, ← Int.ofNat_tdiv, optInt, fillP, repl, chunk, mkCols, mkCol, colInts, colBools, colStrs, colLits, colsApp, Col.app, tailOf, splice, colsPut, Col.put, mmFold, eqK, Nat.reduceLT, colsPaste, Col.paste]
    refine ⟨by omega, by omega, LP.mkP (fun x : Nat × Nat × (Nat → Int) => x.1 ≤ 2) (fun x => ⟨[(25, .int .i64 (x.1 : Nat)), (7, .int .i64 (a : Nat)), (6, .sl (nid + 4) x.2.1 (pInTo a (r, T) x.1).1.length), (5, .mp (nid + 8)), (1, .int .i64 (t : Nat))],
      [(nid + 4, some (.arr 3 (x.2.1 + (pInTo a (r, T) x.1).1.length) [.i .i64 fun i => if i < x.2.1 then x.2.2 i else (((pInTo a (r, T) x.1).1.getD (i - x.2.1) 0 : Nat) : Int)])), (nid + 8, mapT (pInTo a (r, T) x.1).2)], nid + 200, nid⟩)
      (fun x => 3 - x.1) (0, d + 1, fun i => if i < d then g i else (((a :: r).getD (i - d) 0 : Nat) : Int)) (by simp) (Cov.go [] [] ?_) (fun y hy => ?_)⟩
    · simp [retPV, over, keys, List.map_nil, List.map_cons, List.contains_cons, List.contains_nil, Bool.or_false, Bool.or_true, Bool.true_or, Bool.false_or, beq_self_eq_true, cond_true, cond_false, HeapCov, orNil, nilSz, onBlk, srcOf, getH_hit, getH_miss, getH.eq_1, getS_hit, getS_miss, getS.eq_1, BlkCov, PVCovs, PVCov, ColsEq, ColEq.refl, liveIds, SlotsCov, List.all_nil, List.all_cons, List.any_nil, List.any_cons, List.nil_append, List.cons_append, inRange, apart, nilBlk, idS1, idS2, readAll, readRes, onAll, step, res, AX.val, List.drop_zero, List.drop_succ_cons, List.take_succ_cons, List.take_zero, pInTo, mapT, -List.getD_eq_getElem?_getD]
      refine ⟨⟨by omega, ColEq.i fun i hi => ?_⟩, by simp⟩
      by_cases hid : i < d + 1
      · rw [if_pos hid]
      · rw [if_neg hid, if_neg (by omega), show i - d = i - (d + 1) + 1 from by omega]
        rfl
    obtain ⟨k, d2, g2⟩ := y
    simp only at hy
    unfold mapT
    have hql := pInTo_len a (r, T) k
    have hqv := pInTo_vals a (x := (r, T)) hvl k
    rcases hX : pInTo a (r, T) k with ⟨Q2, T2⟩
    have hk1 : pInTo a (r, T) (k + 1) = pIn a k (Q2, T2) := by rw [← hX]; rfl
    rw [hX] at hql hqv
    simp only at hql hqv
    have hsl := tlook_len hqv (.i (a : Nat))
    simp -dsimp only [aqT, ROp, OX, ↓seqK, ↓blkK, ↓loopK, step, stepBin, res, stepIdx, mix, PV.cells, argSlots, Nat.reduceBEq, Nat.reduceBeqDiff, Nat.add_assoc nid, Nat.reduceAdd, reduceCtorEq, ↓reduceIte, Nat.reduceLeDiff, colPV, freeOf, indep, offO, neqO, disj, namesX, axSlot, opXs, rdXs, idsOf, idsOfs, lowH, lowAll, keys, Nat.reduceBneDiff, Option.toList, ← Int.ofNat_tmod, ← Int.ofNat_tdiv, optInt, fillP, repl, chunk, mkCols, mkCol, colInts, colBools, colStrs, colLits, colsApp, Col.app, tailOf, splice, colsPut, Col.put, mmFold, eqK, Nat.reduceLT, colsPaste, Col.paste, hX]
    refine S2.dec (fun h2 => ?_) (fun h2 => ?_)
    · simp -dsimp only [aqT, ROp, OX, ↓seqK, ↓blkK, ↓loopK, step, stepBin, res, stepIdx, mix, PV.cells, argSlots, Nat.reduceBEq, Nat.reduceBeqDiff, Nat.add_assoc nid, Nat.reduceAdd, reduceCtorEq, ↓reduceIte, Nat.reduceLeDiff, colPV, freeOf, indep, offO, neqO, disj, namesX, axSlot, opXs, rdXs, idsOf, idsOfs, lowH, lowAll, keys, Nat.reduceBneDiff, Option.toList, ← Int.ofNat_tmod, ← Int.ofNat_tdiv, optInt, fillP, repl, chunk, mkCols, mkCol, colInts, colBools, colStrs, colLits, colsApp, Col.app, tailOf, splice, colsPut, Col.put, mmFold, eqK, Nat.reduceLT, colsPaste, Col.paste]
      refine CallO.pure (next_st a k _ ha (by omega)) ?_
      simp -dsimp only [aqT, ROp, OX, ↓seqK, ↓blkK, ↓loopK, step, stepBin, res, stepIdx, mix, PV.cells, argSlots, Nat.reduceBEq, Nat.reduceBeqDiff, Nat.add_assoc nid, Nat.reduceAdd, reduceCtorEq, ↓reduceIte, Nat.reduceLeDiff, colPV, freeOf, indep, offO, neqO, disj, namesX, axSlot, opXs, rdXs, idsOf, idsOfs, lowH, lowAll, keys, Nat.reduceBneDiff, Option.toList, ← Int.ofNat_tmod, ← Int.ofNat_tdiv, optInt, fillP, repl, chunk, mkCols, mkCol, colInts, colBools, colStrs, colLits, colsApp, Col.app, tailOf, splice, colsPut, Col.put, mmFold, eqK, Nat.reduceLT, colsPaste, Col.paste, mkKey, mGet, optD]
      refine S2.intro (fun h3 => ?_) (fun h3 => ?_)
      · have h3' : (tlook T2 (.i (nextN a k : Nat))).isSome = false := by simpa using h3
        rw [show pIn a k (Q2, T2) = (Q2 ++ [nextN a k], (nextN a k, (tlook T2 (.i (a : Nat))).getD [] ++ [UInt8.ofNat (48 + k)]) :: T2) from by unfold pIn; rw [if_neg (by rw [h3']; simp)]] at hk1
        simp -dsimp only [aqT, ROp, OX, ↓seqK, ↓blkK, ↓loopK, step, stepBin, res, stepIdx, mix, PV.cells, argSlots, Nat.reduceBEq, Nat.reduceBeqDiff, Nat.add_assoc nid, Nat.reduceAdd, reduceCtorEq, ↓reduceIte, Nat.reduceLeDiff, colPV, freeOf, indep, offO, neqO, disj, namesX, axSlot, opXs, rdXs, idsOf, idsOfs, lowH, lowAll, keys, Nat.reduceBneDiff, Option.toList, ← Int.ofNat_tmod, ← Int.ofNat_tdiv, optInt, fillP, repl, chunk, mkCols, mkCol, colInts, colBools, colStrs, colLits, colsApp, Col.app, tailOf, splice, colsPut, Col.put, mmFold, eqK, Nat.reduceLT, colsPaste, Col.paste, mkKey, mGet, mPut, optD, utf8_bit (show k < 2 by omega)]
        refine ⟨by unfold inI64; omega, by simp; omega, ?_⟩
        cases hd2 : d2 == 0
        · simp -dsimp only [aqT, ROp, OX, ↓seqK, ↓blkK, ↓loopK, step, stepBin, res, stepIdx, mix, PV.cells, argSlots, Nat.reduceBEq, Nat.reduceBeqDiff, Nat.add_assoc nid, Nat.reduceAdd, reduceCtorEq, ↓reduceIte, Nat.reduceLeDiff, colPV, freeOf, indep, offO, neqO, disj, namesX, axSlot, opXs, rdXs, idsOf, idsOfs, lowH, lowAll, keys, Nat.reduceBneDiff, Option.toList, ← Int.ofNat_tmod, ← Int.ofNat_tdiv, optInt, fillP, repl, chunk, mkCols, mkCol, colInts, colBools, colStrs, colLits, colsApp, Col.app, tailOf, splice, colsPut, Col.put, mmFold, eqK, Nat.reduceLT, colsPaste, Col.paste, Col.shift]
          refine ⟨⟨by omega, by omega⟩, by unfold inI64; omega, (k + 1, 0, fun _ => 0), ⟨by omega, by omega⟩, Cov.go [(nid + 4, nid + 324)] [] ?_⟩
          rw [hk1]
          simp [retPV, over, keys, List.map_nil, List.map_cons, List.contains_cons, List.contains_nil, Bool.or_false, Bool.or_true, Bool.true_or, Bool.false_or, beq_self_eq_true, cond_true, cond_false, HeapCov, orNil, nilSz, onBlk, srcOf, getH_hit, getH_miss, getH.eq_1, getS_hit, getS_miss, getS.eq_1, BlkCov, PVCovs, PVCov, ColsEq, ColEq.refl, liveIds, SlotsCov, List.all_nil, List.all_cons, List.any_nil, List.any_cons, List.nil_append, List.cons_append, inRange, apart, nilBlk, idS1, idS2, readAll, readRes, onAll, step, res, AX.val, List.drop_zero, List.drop_succ_cons, List.take_succ_cons, List.take_zero, mapT, -List.getD_eq_getElem?_getD]
          refine ⟨ColEq.i fun i hi => ?_, fun q hq => ?_⟩
          · rw [getD_snocN]
            by_cases h : i < Q2.length
            · simp only [if_pos h, if_neg (show ¬ d2 + i < d2 by omega)]
            · have : i = Q2.length := by omega
              subst this
              simp
          · simp only [tlook, mVal]
            by_cases h : q = .i (nextN a k : Nat)
            · simp [h]
            · simp [h]
        · have hd0 : d2 = 0 := by simpa using hd2
          subst hd0
          simp -dsimp only [aqT, ROp, OX, ↓seqK, ↓blkK, ↓loopK, step, stepBin, res, stepIdx, mix, PV.cells, argSlots, Nat.reduceBEq, Nat.reduceBeqDiff, Nat.add_assoc nid, Nat.reduceAdd, reduceCtorEq, ↓reduceIte, Nat.reduceLeDiff, colPV, freeOf, indep, offO, neqO, disj, namesX, axSlot, opXs, rdXs, idsOf, idsOfs, lowH, lowAll, keys, Nat.reduceBneDiff, Option.toList, ← Int.ofNat_tmod, ← Int.ofNat_tdiv, optInt, fillP, repl, chunk, mkCols, mkCol, colInts, colBools, colStrs, colLits, colsApp, Col.app, tailOf, splice, colsPut, Col.put, mmFold, eqK, Nat.reduceLT, colsPaste, Col.paste]
          refine ⟨⟨by omega, by omega⟩, by unfold inI64; omega, (k + 1, 0, fun _ => 0), ⟨by omega, by omega⟩, Cov.go [(nid + 4, nid + 324)] [] ?_⟩
          rw [hk1]
          simp [retPV, over, keys, List.map_nil, List.map_cons, List.contains_cons, List.contains_nil, Bool.or_false, Bool.or_true, Bool.true_or, Bool.false_or, beq_self_eq_true, cond_true, cond_false, HeapCov, orNil, nilSz, onBlk, srcOf, getH_hit, getH_miss, getH.eq_1, getS_hit, getS_miss, getS.eq_1, BlkCov, PVCovs, PVCov, ColsEq, ColEq.refl, liveIds, SlotsCov, List.all_nil, List.all_cons, List.any_nil, List.any_cons, List.nil_append, List.cons_append, inRange, apart, nilBlk, idS1, idS2, readAll, readRes, onAll, step, res, AX.val, List.drop_zero, List.drop_succ_cons, List.take_succ_cons, List.take_zero, mapT, -List.getD_eq_getElem?_getD]
          refine ⟨ColEq.i fun i hi => ?_, fun q hq => ?_⟩
          · rw [getD_snocN]
            by_cases h : i < Q2.length
            · simp only [if_pos h]
            · have : i = Q2.length := by omega
              subst this
              simp
          · simp only [tlook, mVal]
            by_cases h : q = .i (nextN a k : Nat)
            · simp [h]
            · simp [h]
      · have h3' : (tlook T2 (.i (nextN a k : Nat))).isSome = true := by simpa using h3
        rw [show pIn a k (Q2, T2) = (Q2, T2) from by unfold pIn; rw [if_pos h3']] at hk1
        simp -dsimp only [aqT, ROp, OX, ↓seqK, ↓blkK, ↓loopK, step, stepBin, res, stepIdx, mix, PV.cells, argSlots, Nat.reduceBEq, Nat.reduceBeqDiff, Nat.add_assoc nid, Nat.reduceAdd, reduceCtorEq, ↓reduceIte, Nat.reduceLeDiff, colPV, freeOf, indep, offO, neqO, disj, namesX, axSlot, opXs, rdXs, idsOf, idsOfs, lowH, lowAll, keys, Nat.reduceBneDiff, Option.toList, ← Int.ofNat_tmod, ← Int.ofNat_tdiv, optInt, fillP, repl, chunk, mkCols, mkCol, colInts, colBools, colStrs, colLits, colsApp, Col.app, tailOf, splice, colsPut, Col.put, mmFold, eqK, Nat.reduceLT, colsPaste, Col.paste]
        refine ⟨by unfold inI64; omega, (k + 1, d2, g2), ⟨by omega, by omega⟩, Cov.go [] [] ?_⟩
        rw [hk1]
        simp [retPV, over, keys, List.map_nil, List.map_cons, List.contains_cons, List.contains_nil, Bool.or_false, Bool.or_true, Bool.true_or, Bool.false_or, beq_self_eq_true, cond_true, cond_false, HeapCov, orNil, nilSz, onBlk, srcOf, getH_hit, getH_miss, getH.eq_1, getS_hit, getS_miss, getS.eq_1, BlkCov, PVCovs, PVCov, ColsEq, ColEq.refl, liveIds, SlotsCov, List.all_nil, List.all_cons, List.any_nil, List.any_cons, List.nil_append, List.cons_append, inRange, apart, nilBlk, idS1, idS2, readAll, readRes, onAll, step, res, AX.val, List.drop_zero, List.drop_succ_cons, List.take_succ_cons, List.take_zero, mapT]
    · have hk2 : k = 2 := by omega
      subst hk2
      simp -dsimp only [aqT, ROp, OX, ↓seqK, ↓blkK, ↓loopK, step, stepBin, res, stepIdx, mix, PV.cells, argSlots, Nat.reduceBEq, Nat.reduceBeqDiff, Nat.add_assoc nid, Nat.reduceAdd, reduceCtorEq, ↓reduceIte, Nat.reduceLeDiff, colPV, freeOf, indep, offO, neqO, disj, namesX, axSlot, opXs, rdXs, idsOf, idsOfs, lowH, lowAll, keys, Nat.reduceBneDiff, Option.toList, ← Int.ofNat_tmod, ← Int.ofNat_tdiv, optInt, fillP, repl, chunk, mkCols, mkCol, colInts, colBools, colStrs, colLits, colsApp, Col.app, tailOf, splice, colsPut, Col.put, mmFold, eqK, Nat.reduceLT, colsPaste, Col.paste]
      refine ⟨(n + 1, d2, g2), ⟨by omega, by omega⟩, Cov.go [] [] ?_⟩
      rw [hst, hX]
      simp [retPV, over, keys, List.map_nil, List.map_cons, List.contains_cons, List.contains_nil, Bool.or_false, Bool.or_true, Bool.true_or, Bool.false_or, beq_self_eq_true, cond_true, cond_false, HeapCov, orNil, nilSz, onBlk, srcOf, getH_hit, getH_miss, getH.eq_1, getS_hit, getS_miss, getS.eq_1, BlkCov, PVCovs, PVCov, ColsEq, ColEq.refl, liveIds, SlotsCov, List.all_nil, List.all_cons, List.any_nil, List.any_cons, List.nil_append, List.cons_append, inRange, apart, nilBlk, idS1, idS2, readAll, readRes, onAll, step, res, AX.val, List.drop_zero, List.drop_succ_cons, List.take_succ_cons, List.take_zero, mapT]
  · simp -dsimp only [aqT, ROp, OX, ↓seqK, ↓blkK, ↓loopK, step, stepBin, res, stepIdx, mix, PV.cells, argSlots, Nat.reduceBEq, Nat.reduceBeqDiff, Nat.add_assoc nid, Nat.reduceAdd, reduceCtorEq, ↓reduceIte, Nat.reduceLeDiff, colPV, freeOf, indep, offO, neqO, disj, namesX, axSlot, opXs, rdXs, idsOf, idsOfs, lowH, lowAll, keys, Nat.reduceBneDiff, Option.toList, ← Int.ofNat_tmod, ← Int.ofNat_tdiv, optInt, fillP, repl, chunk, mkCols, mkCol, colInts, colBools, colStrs, colLits, colsApp, Col.app, tailOf, splice, colsPut, Col.put, mmFold, eqK, Nat.reduceLT, colsPaste, Col.paste, mkKey, mGet, optD]
    have h0 : (pAt s n).1 = [] := List.eq_nil_of_length_eq_zero (by omega)
    have h16 : ∀ j, (pAt s (n + j)) = pAt s n := by
      intro j
      induction j with
      | zero => rfl
      | succ j ih =>
        show pOut (pAt s (n + j)) = _
        rw [ih]
        unfold pOut
        rw [h0]
    have := h16 (16 - n)
    rw [show n + (16 - n) = 16 from by omega] at this
    refine RetOK.pure (.inl rfl) rfl ?_
    simp [retPV, over, keys, List.map_nil, List.map_cons, List.contains_cons, List.contains_nil, Bool.or_false, Bool.or_true, Bool.true_or, Bool.false_or, beq_self_eq_true, cond_true, cond_false, HeapCov, orNil, nilSz, onBlk, srcOf, getH_hit, getH_miss, getH.eq_1, getS_hit, getS_miss, getS.eq_1, BlkCov, PVCovs, PVCov, ColsEq, ColEq.refl, liveIds, SlotsCov, List.all_nil, List.all_cons, List.any_nil, List.any_cons, List.nil_append, List.cons_append, inRange, apart, nilBlk, idS1, idS2, readAll, readRes, onAll, step, res, AX.val, List.drop_zero, List.drop_succ_cons, List.take_succ_cons, List.take_zero, pathV, this]
end Go.Proofs.Ytmnhlfkphibhfaa
/-
  The yield of one wafer, step by step, by the abstract machine.
-/
namespace Go.Proofs.Ytmnhlfkphibhfaa
open Go.RowKit
set_option linter.unusedVariables false
set_option linter.unusedSimpArgs false
set_option maxRecDepth 100000
def isBinV (c : Int) : Bool := (decide (48 ≤ c) && decide (c ≤ 57)) || (decide (97 ≤ c) && decide (c ≤ 122))
theorem isBin_c (c : Int) (nid : Nat) : ACall Try.prog 100 [.int .u8 c] [] nid (.bool (isBinV c)) [] := by
  refine acall_run c100 (by simp [a100]) ?_
  unfold isBinV
  simp -dsimp only [a100, aqT, ROp, OX, ↓seqK, ↓blkK, ↓loopK, step, stepBin, res, stepIdx, mix, PV.cells, argSlots, Nat.reduceBEq, Nat.reduceBeqDiff, Nat.add_assoc nid, Nat.reduceAdd, reduceCtorEq, ↓reduceIte, Nat.reduceLeDiff, colPV, freeOf, indep, offO, neqO, disj, namesX, axSlot, opXs, rdXs, idsOf, idsOfs, lowH, lowAll, keys, Nat.reduceBneDiff, Option.toList, ← Int.ofNat_tmod, ← Int.ofNat_tdiv, optInt, fillP, repl, chunk, mkCols, mkCol, colInts, colBools, colStrs, colLits, colsApp, Col.app, tailOf, splice, colsPut, Col.put, mmFold, eqK, Nat.reduceLT, colsPaste, Col.paste]
  cases h1 : decide (48 ≤ c) <;> simp -dsimp only [aqT, ROp, OX, ↓seqK, ↓blkK, ↓loopK, step, stepBin, res, stepIdx, mix, PV.cells, argSlots, Nat.reduceBEq, Nat.reduceBeqDiff, Nat.add_assoc nid, Nat.reduceAdd, reduceCtorEq, ↓reduceIte, Nat.reduceLeDiff, colPV, freeOf, indep, offO, neqO, disj, namesX, axSlot, opXs, rdXs, idsOf, idsOfs, lowH, lowAll, keys, Nat.reduceBneDiff, Option.toList, ← Int.ofNat_tmod, ← Int.ofNat_tdiv, optInt, fillP, repl, chunk, mkCols, mkCol, colInts, colBools, colStrs, colLits, colsApp, Col.app, tailOf, splice, colsPut, Col.put, mmFold, eqK, Nat.reduceLT, colsPaste, Col.paste]
  · cases h3 : decide (97 ≤ c) <;> simp -dsimp only [aqT, ROp, OX, ↓seqK, ↓blkK, ↓loopK, step, stepBin, res, stepIdx, mix, PV.cells, argSlots, Nat.reduceBEq, Nat.reduceBeqDiff, Nat.add_assoc nid, Nat.reduceAdd, reduceCtorEq, ↓reduceIte, Nat.reduceLeDiff, colPV, freeOf, indep, offO, neqO, disj, namesX, axSlot, opXs, rdXs, idsOf, idsOfs, lowH, lowAll, keys, Nat.reduceBneDiff, Option.toList, ← Int.ofNat_tmod, ← Int.ofNat_tdiv, optInt, fillP, repl, chunk, mkCols, mkCol, colInts, colBools, colStrs, colLits, colsApp, Col.app, tailOf, splice, colsPut, Col.put, mmFold, eqK, Nat.reduceLT, colsPaste, Col.paste]
    · refine RetOK.pure (.inl rfl) rfl ?_
      simp [retPV, over, keys, List.map_nil, List.map_cons, List.contains_cons, List.contains_nil, Bool.or_false, Bool.or_true, Bool.true_or, Bool.false_or, beq_self_eq_true, cond_true, cond_false, HeapCov, orNil, nilSz, onBlk, srcOf, getH_hit, getH_miss, getH.eq_1, getS_hit, getS_miss, getS.eq_1, BlkCov, PVCovs, PVCov, ColsEq, ColEq.refl, liveIds, SlotsCov, List.all_nil, List.all_cons, List.any_nil, List.any_cons, List.nil_append, List.cons_append, inRange, apart, nilBlk, idS1, idS2, readAll, readRes, onAll, step, res, AX.val, List.drop_zero, List.drop_succ_cons, List.take_succ_cons, List.take_zero, h1, h3]
    · refine RetOK.pure (.inl rfl) rfl ?_
      simp [retPV, over, keys, List.map_nil, List.map_cons, List.contains_cons, List.contains_nil, Bool.or_false, Bool.or_true, Bool.true_or, Bool.false_or, beq_self_eq_true, cond_true, cond_false, HeapCov, orNil, nilSz, onBlk, srcOf, getH_hit, getH_miss, getH.eq_1, getS_hit, getS_miss, getS.eq_1, BlkCov, PVCovs, PVCov, ColsEq, ColEq.refl, liveIds, SlotsCov, List.all_nil, List.all_cons, List.any_nil, List.any_cons, List.nil_append, List.cons_append, inRange, apart, nilBlk, idS1, idS2, readAll, readRes, onAll, step, res, AX.val, List.drop_zero, List.drop_succ_cons, List.take_succ_cons, List.take_zero, h1, h3]
  · cases h2 : decide (c ≤ 57) <;> simp -dsimp only [aqT, ROp, OX, ↓seqK, ↓blkK, ↓loopK, step, stepBin, res, stepIdx, mix, PV.cells, argSlots, Nat.reduceBEq, Nat.reduceBeqDiff, Nat.add_assoc nid, Nat.reduceAdd, reduceCtorEq, ↓reduceIte, Nat.reduceLeDiff, colPV, freeOf, indep, offO, neqO, disj, namesX, axSlot, opXs, rdXs, idsOf, idsOfs, lowH, lowAll, keys, Nat.reduceBneDiff, Option.toList, ← Int.ofNat_tmod, ← Int.ofNat_tdiv, optInt, fillP, repl, chunk, mkCols, mkCol, colInts, colBools, colStrs, colLits, colsApp, Col.app, tailOf, splice, colsPut, Col.put, mmFold, eqK, Nat.reduceLT, colsPaste, Col.paste]
    · cases h3 : decide (97 ≤ c) <;> simp -dsimp only [aqT, ROp, OX, ↓seqK, ↓blkK, ↓loopK, step, stepBin, res, stepIdx, mix, PV.cells, argSlots, Nat.reduceBEq, Nat.reduceBeqDiff, Nat.add_assoc nid, Nat.reduceAdd, reduceCtorEq, ↓reduceIte, Nat.reduceLeDiff, colPV, freeOf, indep, offO, neqO, disj, namesX, axSlot, opXs, rdXs, idsOf, idsOfs, lowH, lowAll, keys, Nat.reduceBneDiff, Option.toList, ← Int.ofNat_tmod, ← Int.ofNat_tdiv, optInt, fillP, repl, chunk, mkCols, mkCol, colInts, colBools, colStrs, colLits, colsApp, Col.app, tailOf, splice, colsPut, Col.put, mmFold, eqK, Nat.reduceLT, colsPaste, Col.paste] <;> refine RetOK.pure (.inl rfl) rfl ?_ <;> simp [retPV, over, keys, List.map_nil, List.map_cons, List.contains_cons, List.contains_nil, Bool.or_false, Bool.or_true, Bool.true_or, Bool.false_or, beq_self_eq_true, cond_true, cond_false, HeapCov, orNil, nilSz, onBlk, srcOf, getH_hit, getH_miss, getH.eq_1, getS_hit, getS_miss, getS.eq_1, BlkCov, PVCovs, PVCov, ColsEq, ColEq.refl, liveIds, SlotsCov, List.all_nil, List.all_cons, List.any_nil, List.any_cons, List.nil_append, List.cons_append, inRange, apart, nilBlk, idS1, idS2, readAll, readRes, onAll, step, res, AX.val, List.drop_zero, List.drop_succ_cons, List.take_succ_cons, List.take_zero, h1, h2, h3]
    · refine RetOK.pure (.inl rfl) rfl ?_
      simp [retPV, over, keys, List.map_nil, List.map_cons, List.contains_cons, List.contains_nil, Bool.or_false, Bool.or_true, Bool.true_or, Bool.false_or, beq_self_eq_true, cond_true, cond_false, HeapCov, orNil, nilSz, onBlk, srcOf, getH_hit, getH_miss, getH.eq_1, getS_hit, getS_miss, getS.eq_1, BlkCov, PVCovs, PVCov, ColsEq, ColEq.refl, liveIds, SlotsCov, List.all_nil, List.all_cons, List.any_nil, List.any_cons, List.nil_append, List.cons_append, inRange, apart, nilBlk, idS1, idS2, readAll, readRes, onAll, step, res, AX.val, List.drop_zero, List.drop_succ_cons, List.take_succ_cons, List.take_zero, h1, h2]
theorem isPlace_c (c : Int) (nid : Nat) : ACall Try.prog 107 [.int .u8 c] [] nid (.bool (isBinV c || c == 46 || c == 63 || c == 42)) [] := by
  refine acall_run c107 (by simp [a107]) ?_
  simp -dsimp only [a107, aqT, ROp, OX, ↓seqK, ↓blkK, ↓loopK, step, stepBin, res, stepIdx, mix, PV.cells, argSlots, Nat.reduceBEq, Nat.reduceBeqDiff, Nat.add_assoc nid, Nat.reduceAdd, reduceCtorEq, ↓reduceIte, Nat.reduceLeDiff, colPV, freeOf, indep, offO, neqO, disj, namesX, axSlot, opXs, rdXs, idsOf, idsOfs, lowH, lowAll, keys, Nat.reduceBneDiff, Option.toList, ← Int.ofNat_tmod, ← Int.ofNat_tdiv, optInt, fillP, repl, chunk, mkCols, mkCol, colInts, colBools, colStrs, colLits, colsApp, Col.app, tailOf, splice, colsPut, Col.put, mmFold, eqK, Nat.reduceLT, colsPaste, Col.paste]
  refine CallO.pure (isBin_c _ _) ?_
  simp -dsimp only [aqT, ROp, OX, ↓seqK, ↓blkK, ↓loopK, step, stepBin, res, stepIdx, mix, PV.cells, argSlots, Nat.reduceBEq, Nat.reduceBeqDiff, Nat.add_assoc nid, Nat.reduceAdd, reduceCtorEq, ↓reduceIte, Nat.reduceLeDiff, colPV, freeOf, indep, offO, neqO, disj, namesX, axSlot, opXs, rdXs, idsOf, idsOfs, lowH, lowAll, keys, Nat.reduceBneDiff, Option.toList, ← Int.ofNat_tmod, ← Int.ofNat_tdiv, optInt, fillP, repl, chunk, mkCols, mkCol, colInts, colBools, colStrs, colLits, colsApp, Col.app, tailOf, splice, colsPut, Col.put, mmFold, eqK, Nat.reduceLT, colsPaste, Col.paste]
  cases h0 : isBinV c <;> simp -dsimp only [aqT, ROp, OX, ↓seqK, ↓blkK, ↓loopK, step, stepBin, res, stepIdx, mix, PV.cells, argSlots, Nat.reduceBEq, Nat.reduceBeqDiff, Nat.add_assoc nid, Nat.reduceAdd, reduceCtorEq, ↓reduceIte, Nat.reduceLeDiff, colPV, freeOf, indep, offO, neqO, disj, namesX, axSlot, opXs, rdXs, idsOf, idsOfs, lowH, lowAll, keys, Nat.reduceBneDiff, Option.toList, ← Int.ofNat_tmod, ← Int.ofNat_tdiv, optInt, fillP, repl, chunk, mkCols, mkCol, colInts, colBools, colStrs, colLits, colsApp, Col.app, tailOf, splice, colsPut, Col.put, mmFold, eqK, Nat.reduceLT, colsPaste, Col.paste]
  · cases h1 : (c == 46) <;> simp -dsimp only [aqT, ROp, OX, ↓seqK, ↓blkK, ↓loopK, step, stepBin, res, stepIdx, mix, PV.cells, argSlots, Nat.reduceBEq, Nat.reduceBeqDiff, Nat.add_assoc nid, Nat.reduceAdd, reduceCtorEq, ↓reduceIte, Nat.reduceLeDiff, colPV, freeOf, indep, offO, neqO, disj, namesX, axSlot, opXs, rdXs, idsOf, idsOfs, lowH, lowAll, keys, Nat.reduceBneDiff, Option.toList, ← Int.ofNat_tmod, ← Int.ofNat_tdiv, optInt, fillP, repl, chunk, mkCols, mkCol, colInts, colBools, colStrs, colLits, colsApp, Col.app, tailOf, splice, colsPut, Col.put, mmFold, eqK, Nat.reduceLT, colsPaste, Col.paste, h1]
    · cases h2 : (c == 63) <;> simp -dsimp only [aqT, ROp, OX, ↓seqK, ↓blkK, ↓loopK, step, stepBin, res, stepIdx, mix, PV.cells, argSlots, Nat.reduceBEq, Nat.reduceBeqDiff, Nat.add_assoc nid, Nat.reduceAdd, reduceCtorEq, ↓reduceIte, Nat.reduceLeDiff, colPV, freeOf, indep, offO, neqO, disj, namesX, axSlot, opXs, rdXs, idsOf, idsOfs, lowH, lowAll, keys, Nat.reduceBneDiff, Option.toList, ← Int.ofNat_tmod, ← Int.ofNat_tdiv, optInt, fillP, repl, chunk, mkCols, mkCol, colInts, colBools, colStrs, colLits, colsApp, Col.app, tailOf, splice, colsPut, Col.put, mmFold, eqK, Nat.reduceLT, colsPaste, Col.paste, h2] <;> refine RetOK.pure (.inl rfl) rfl ?_ <;> simp [retPV, over, keys, List.map_nil, List.map_cons, List.contains_cons, List.contains_nil, Bool.or_false, Bool.or_true, Bool.true_or, Bool.false_or, beq_self_eq_true, cond_true, cond_false, HeapCov, orNil, nilSz, onBlk, srcOf, getH_hit, getH_miss, getH.eq_1, getS_hit, getS_miss, getS.eq_1, BlkCov, PVCovs, PVCov, ColsEq, ColEq.refl, liveIds, SlotsCov, List.all_nil, List.all_cons, List.any_nil, List.any_cons, List.nil_append, List.cons_append, inRange, apart, nilBlk, idS1, idS2, readAll, readRes, onAll, step, res, AX.val, List.drop_zero, List.drop_succ_cons, List.take_succ_cons, List.take_zero, h1, h2]
    · refine RetOK.pure (.inl rfl) rfl ?_
      simp [retPV, over, keys, List.map_nil, List.map_cons, List.contains_cons, List.contains_nil, Bool.or_false, Bool.or_true, Bool.true_or, Bool.false_or, beq_self_eq_true, cond_true, cond_false, HeapCov, orNil, nilSz, onBlk, srcOf, getH_hit, getH_miss, getH.eq_1, getS_hit, getS_miss, getS.eq_1, BlkCov, PVCovs, PVCov, ColsEq, ColEq.refl, liveIds, SlotsCov, List.all_nil, List.all_cons, List.any_nil, List.any_cons, List.nil_append, List.cons_append, inRange, apart, nilBlk, idS1, idS2, readAll, readRes, onAll, step, res, AX.val, List.drop_zero, List.drop_succ_cons, List.take_succ_cons, List.take_zero]
  · refine RetOK.pure (.inl rfl) rfl ?_
    simp [retPV, over, keys, List.map_nil, List.map_cons, List.contains_cons, List.contains_nil, Bool.or_false, Bool.or_true, Bool.true_or, Bool.false_or, beq_self_eq_true, cond_true, cond_false, HeapCov, orNil, nilSz, onBlk, srcOf, getH_hit, getH_miss, getH.eq_1, getS_hit, getS_miss, getS.eq_1, BlkCov, PVCovs, PVCov, ColsEq, ColEq.refl, liveIds, SlotsCov, List.all_nil, List.all_cons, List.any_nil, List.any_cons, List.nil_append, List.cons_append, inRange, apart, nilBlk, idS1, idS2, readAll, readRes, onAll, step, res, AX.val, List.drop_zero, List.drop_succ_cons, List.take_succ_cons, List.take_zero]
theorem oddF_c (c : Int) (nid : Nat) : ACall Try.prog 106 [.int .u8 c] [] nid (.bool (!(isBinV c || c == 46 || c == 63 || c == 42))) [] := by
  refine acall_run c106 (by simp [a106]) ?_
  simp -dsimp only [a106, aqT, ROp, OX, ↓seqK, ↓blkK, ↓loopK, step, stepBin, res, stepIdx, mix, PV.cells, argSlots, Nat.reduceBEq, Nat.reduceBeqDiff, Nat.add_assoc nid, Nat.reduceAdd, reduceCtorEq, ↓reduceIte, Nat.reduceLeDiff, colPV, freeOf, indep, offO, neqO, disj, namesX, axSlot, opXs, rdXs, idsOf, idsOfs, lowH, lowAll, keys, Nat.reduceBneDiff, Option.toList, ← Int.ofNat_tmod, ← Int.ofNat_tdiv, optInt, fillP, repl, chunk, mkCols, mkCol, colInts, colBools, colStrs, colLits, colsApp, Col.app, tailOf, splice, colsPut, Col.put, mmFold, eqK, Nat.reduceLT, colsPaste, Col.paste]
  refine CallO.pure (isPlace_c _ _) ?_
  simp -dsimp only [aqT, ROp, OX, ↓seqK, ↓blkK, ↓loopK, step, stepBin, res, stepIdx, mix, PV.cells, argSlots, Nat.reduceBEq, Nat.reduceBeqDiff, Nat.add_assoc nid, Nat.reduceAdd, reduceCtorEq, ↓reduceIte, Nat.reduceLeDiff, colPV, freeOf, indep, offO, neqO, disj, namesX, axSlot, opXs, rdXs, idsOf, idsOfs, lowH, lowAll, keys, Nat.reduceBneDiff, Option.toList, ← Int.ofNat_tmod, ← Int.ofNat_tdiv, optInt, fillP, repl, chunk, mkCols, mkCol, colInts, colBools, colStrs, colLits, colsApp, Col.app, tailOf, splice, colsPut, Col.put, mmFold, eqK, Nat.reduceLT, colsPaste, Col.paste]
  refine RetOK.pure (.inl rfl) rfl ?_
  simp [retPV, over, keys, List.map_nil, List.map_cons, List.contains_cons, List.contains_nil, Bool.or_false, Bool.or_true, Bool.true_or, Bool.false_or, beq_self_eq_true, cond_true, cond_false, HeapCov, orNil, nilSz, onBlk, srcOf, getH_hit, getH_miss, getH.eq_1, getS_hit, getS_miss, getS.eq_1, BlkCov, PVCovs, PVCov, ColsEq, ColEq.refl, liveIds, SlotsCov, List.all_nil, List.all_cons, List.any_nil, List.any_cons, List.nil_append, List.cons_append, inRange, apart, nilBlk, idS1, idS2, readAll, readRes, onAll, step, res, AX.val, List.drop_zero, List.drop_succ_cons, List.take_succ_cons, List.take_zero]
def placeB (c : Int) : Bool := isBinV c || c == 46 || c == 63 || c == 42
theorem indexF_c (nl : Bool) (n : Nat) (g : Nat → Int) (nid : Nat) (hn : n ≤ 1000000000) (h : ∀ i, i < n → placeB (g i) = true) : ACall Try.prog 109 [.lit nl n [.i .u8 g], .fn 106 []] [] nid (.int .i64 (-1)) [] := by
  refine acall_run c109 (by simp [a109]) ?_
  simp -dsimp only [a109, aqT, ROp, OX, ↓seqK, ↓blkK, ↓loopK, step, stepBin, res, stepIdx, mix, PV.cells, argSlots, Nat.reduceBEq, Nat.reduceBeqDiff, Nat.add_assoc nid, Nat.reduceAdd, reduceCtorEq, ↓reduceIte, Nat.reduceLeDiff, colPV, freeOf, indep, offO, neqO, disj, namesX, axSlot, opXs, rdXs, idsOf, idsOfs, lowH, lowAll, keys, Nat.reduceBneDiff, Option.toList, ← Int.ofNat_tmod, ← Int.ofNat_tdiv, optInt, fillP, repl, chunk, mkCols, mkCol, colInts, colBools, colStrs, colLits, colsApp, Col.app, tailOf, splice, colsPut, Col.put, mmFold, eqK, Nat.reduceLT, colsPaste, Col.paste]
  refine LP.mkP (fun k : Nat => k ≤ n) (fun k : Nat => ⟨[(8, .int .i64 k), (7, .int .i64 n), (0, .lit nl n [.i .u8 g]), (1, .fn 106 [])], [], nid + 100, nid⟩) (fun k => n + 1 - k) 0 (by omega) (Cov.go [] [] ?_) (fun k hk => ?_)
  · simp [retPV, over, keys, List.map_nil, List.map_cons, List.contains_cons, List.contains_nil, Bool.or_false, Bool.or_true, Bool.true_or, Bool.false_or, beq_self_eq_true, cond_true, cond_false, HeapCov, orNil, nilSz, onBlk, srcOf, getH_hit, getH_miss, getH.eq_1, getS_hit, getS_miss, getS.eq_1, BlkCov, PVCovs, PVCov, ColsEq, ColEq.refl, liveIds, SlotsCov, List.all_nil, List.all_cons, List.any_nil, List.any_cons, List.nil_append, List.cons_append, inRange, apart, nilBlk, idS1, idS2, readAll, readRes, onAll, step, res, AX.val, List.drop_zero, List.drop_succ_cons, List.take_succ_cons, List.take_zero]
  simp -dsimp only [aqT, ROp, OX, ↓seqK, ↓blkK, ↓loopK, step, stepBin, res, stepIdx, mix, PV.cells, argSlots, Nat.reduceBEq, Nat.reduceBeqDiff, Nat.add_assoc nid, Nat.reduceAdd, reduceCtorEq, ↓reduceIte, Nat.reduceLeDiff, colPV, freeOf, indep, offO, neqO, disj, namesX, axSlot, opXs, rdXs, idsOf, idsOfs, lowH, lowAll, keys, Nat.reduceBneDiff, Option.toList, ← Int.ofNat_tmod, ← Int.ofNat_tdiv, optInt, fillP, repl, chunk, mkCols, mkCol, colInts, colBools, colStrs, colLits, colsApp, Col.app, tailOf, splice, colsPut, Col.put, mmFold, eqK, Nat.reduceLT, colsPaste, Col.paste]
  refine S2.dec (fun h3 => ?_) (fun h3 => ?_) <;> simp -dsimp only [aqT, ROp, OX, ↓seqK, ↓blkK, ↓loopK, step, stepBin, res, stepIdx, mix, PV.cells, argSlots, Nat.reduceBEq, Nat.reduceBeqDiff, Nat.add_assoc nid, Nat.reduceAdd, reduceCtorEq, ↓reduceIte, Nat.reduceLeDiff, colPV, freeOf, indep, offO, neqO, disj, namesX, axSlot, opXs, rdXs, idsOf, idsOfs, lowH, lowAll, keys, Nat.reduceBneDiff, Option.toList, ← Int.ofNat_tmod, ← Int.ofNat_tdiv, optInt, fillP, repl, chunk, mkCols, mkCol, colInts, colBools, colStrs, colLits, colsApp, Col.app, tailOf, splice, colsPut, Col.put, mmFold, eqK, Nat.reduceLT, colsPaste, Col.paste]
  · refine ⟨by omega, CallO.pure (oddF_c _ _) ?_⟩
    have hp := h k (by omega)
    unfold placeB at hp
    rw [hp]
    simp -dsimp only [aqT, ROp, OX, ↓seqK, ↓blkK, ↓loopK, step, stepBin, res, stepIdx, mix, PV.cells, argSlots, Nat.reduceBEq, Nat.reduceBeqDiff, Nat.add_assoc nid, Nat.reduceAdd, reduceCtorEq, ↓reduceIte, Nat.reduceLeDiff, colPV, freeOf, indep, offO, neqO, disj, namesX, axSlot, opXs, rdXs, idsOf, idsOfs, lowH, lowAll, keys, Nat.reduceBneDiff, Option.toList, ← Int.ofNat_tmod, ← Int.ofNat_tdiv, optInt, fillP, repl, chunk, mkCols, mkCol, colInts, colBools, colStrs, colLits, colsApp, Col.app, tailOf, splice, colsPut, Col.put, mmFold, eqK, Nat.reduceLT, colsPaste, Col.paste]
    refine ⟨by unfold inI64; omega, k + 1, ⟨by omega, by omega⟩, Cov.go [] [] ?_⟩
    simp [retPV, over, keys, List.map_nil, List.map_cons, List.contains_cons, List.contains_nil, Bool.or_false, Bool.or_true, Bool.true_or, Bool.false_or, beq_self_eq_true, cond_true, cond_false, HeapCov, orNil, nilSz, onBlk, srcOf, getH_hit, getH_miss, getH.eq_1, getS_hit, getS_miss, getS.eq_1, BlkCov, PVCovs, PVCov, ColsEq, ColEq.refl, liveIds, SlotsCov, List.all_nil, List.all_cons, List.any_nil, List.any_cons, List.nil_append, List.cons_append, inRange, apart, nilBlk, idS1, idS2, readAll, readRes, onAll, step, res, AX.val, List.drop_zero, List.drop_succ_cons, List.take_succ_cons, List.take_zero]
  · refine RetOK.pure (.inl rfl) rfl ?_
    simp [retPV, over, keys, List.map_nil, List.map_cons, List.contains_cons, List.contains_nil, Bool.or_false, Bool.or_true, Bool.true_or, Bool.false_or, beq_self_eq_true, cond_true, cond_false, HeapCov, orNil, nilSz, onBlk, srcOf, getH_hit, getH_miss, getH.eq_1, getS_hit, getS_miss, getS.eq_1, BlkCov, PVCovs, PVCov, ColsEq, ColEq.refl, liveIds, SlotsCov, List.all_nil, List.all_cons, List.any_nil, List.any_cons, List.nil_append, List.cons_append, inRange, apart, nilBlk, idS1, idS2, readAll, readRes, onAll, step, res, AX.val, List.drop_zero, List.drop_succ_cons, List.take_succ_cons, List.take_zero]
theorem odd_c' (s : List UInt8) (nid : Nat) (hn : s.length ≤ 1000000000) (h : ∀ i, i < s.length → placeB ((s.getD i 0).toNat : Nat) = true) : ACall Try.prog 99 [.str s] [] nid (.bool false) [] := by
  have hcf : ∀ nid, ACall Try.prog 105 [.lit false s.length [.i .u8 fun i => ((s.getD i 0).toNat : Nat)], .fn 106 []] [] nid (.bool false) [] := fun nid => by
    refine acall_run c105 (by simp [a105]) ?_
    simp -dsimp only [a105, aqT, ROp, OX, ↓seqK, ↓blkK, ↓loopK, step, stepBin, res, stepIdx, mix, PV.cells, argSlots, Nat.reduceBEq, Nat.reduceBeqDiff, Nat.add_assoc nid, Nat.reduceAdd, reduceCtorEq, ↓reduceIte, Nat.reduceLeDiff, colPV, freeOf, indep, offO, neqO, disj, namesX, axSlot, opXs, rdXs, idsOf, idsOfs, lowH, lowAll, keys, Nat.reduceBneDiff, Option.toList, ← Int.ofNat_tmod, ← Int.ofNat_tdiv, optInt, fillP, repl, chunk, mkCols, mkCol, colInts, colBools, colStrs, colLits, colsApp, Col.app, tailOf, splice, colsPut, Col.put, mmFold, eqK, Nat.reduceLT, colsPaste, Col.paste]
    refine CallO.pure (indexF_c _ _ _ _ hn h) ?_
    simp -dsimp only [aqT, ROp, OX, ↓seqK, ↓blkK, ↓loopK, step, stepBin, res, stepIdx, mix, PV.cells, argSlots, Nat.reduceBEq, Nat.reduceBeqDiff, Nat.add_assoc nid, Nat.reduceAdd, reduceCtorEq, ↓reduceIte, Nat.reduceLeDiff, colPV, freeOf, indep, offO, neqO, disj, namesX, axSlot, opXs, rdXs, idsOf, idsOfs, lowH, lowAll, keys, Nat.reduceBneDiff, Option.toList, ← Int.ofNat_tmod, ← Int.ofNat_tdiv, optInt, fillP, repl, chunk, mkCols, mkCol, colInts, colBools, colStrs, colLits, colsApp, Col.app, tailOf, splice, colsPut, Col.put, mmFold, eqK, Nat.reduceLT, colsPaste, Col.paste, Int.cast_ofNat_Int, Int.reduceBEq, Int.reduceBNe, Int.reduceLT, Int.reduceLE, Int.reduceAdd, Int.reduceSub, Int.reduceMul, Int.reduceToNat, Int.reduceNeg, Int.reduceTMod, Int.reduceEq, not_false_eq_true, Int.reducePow, Int.reduceFDiv, Nat.reducePow, Nat.reduceSub, Nat.reduceMul, Nat.min_eq_left, Nat.reduceEqDiff, BEq.rfl, Int.tdiv_one, LN_succ]
    refine RetOK.pure (.inl rfl) rfl ?_
    simp [retPV, over, keys, List.map_nil, List.map_cons, List.contains_cons, List.contains_nil, Bool.or_false, Bool.or_true, Bool.true_or, Bool.false_or, beq_self_eq_true, cond_true, cond_false, HeapCov, orNil, nilSz, onBlk, srcOf, getH_hit, getH_miss, getH.eq_1, getS_hit, getS_miss, getS.eq_1, BlkCov, PVCovs, PVCov, ColsEq, ColEq.refl, liveIds, SlotsCov, List.all_nil, List.all_cons, List.any_nil, List.any_cons, List.nil_append, List.cons_append, inRange, apart, nilBlk, idS1, idS2, readAll, readRes, onAll, step, res, AX.val, List.drop_zero, List.drop_succ_cons, List.take_succ_cons, List.take_zero]
  refine acall_run c99 (by simp [a99]) ?_
  simp -dsimp only [a99, aqT, ROp, OX, ↓seqK, ↓blkK, ↓loopK, step, stepBin, res, stepIdx, mix, PV.cells, argSlots, Nat.reduceBEq, Nat.reduceBeqDiff, Nat.add_assoc nid, Nat.reduceAdd, reduceCtorEq, ↓reduceIte, Nat.reduceLeDiff, colPV, freeOf, indep, offO, neqO, disj, namesX, axSlot, opXs, rdXs, idsOf, idsOfs, lowH, lowAll, keys, Nat.reduceBneDiff, Option.toList, ← Int.ofNat_tmod, ← Int.ofNat_tdiv, optInt, fillP, repl, chunk, mkCols, mkCol, colInts, colBools, colStrs, colLits, colsApp, Col.app, tailOf, splice, colsPut, Col.put, mmFold, eqK, Nat.reduceLT, colsPaste, Col.paste]
  refine CallO.pure (hcf _) ?_
  simp -dsimp only [aqT, ROp, OX, ↓seqK, ↓blkK, ↓loopK, step, stepBin, res, stepIdx, mix, PV.cells, argSlots, Nat.reduceBEq, Nat.reduceBeqDiff, Nat.add_assoc nid, Nat.reduceAdd, reduceCtorEq, ↓reduceIte, Nat.reduceLeDiff, colPV, freeOf, indep, offO, neqO, disj, namesX, axSlot, opXs, rdXs, idsOf, idsOfs, lowH, lowAll, keys, Nat.reduceBneDiff, Option.toList, ← Int.ofNat_tmod, ← Int.ofNat_tdiv, optInt, fillP, repl, chunk, mkCols, mkCol, colInts, colBools, colStrs, colLits, colsApp, Col.app, tailOf, splice, colsPut, Col.put, mmFold, eqK, Nat.reduceLT, colsPaste, Col.paste]
  refine RetOK.pure (.inl rfl) rfl ?_
  simp [retPV, over, keys, List.map_nil, List.map_cons, List.contains_cons, List.contains_nil, Bool.or_false, Bool.or_true, Bool.true_or, Bool.false_or, beq_self_eq_true, cond_true, cond_false, HeapCov, orNil, nilSz, onBlk, srcOf, getH_hit, getH_miss, getH.eq_1, getS_hit, getS_miss, getS.eq_1, BlkCov, PVCovs, PVCov, ColsEq, ColEq.refl, liveIds, SlotsCov, List.all_nil, List.all_cons, List.any_nil, List.any_cons, List.nil_append, List.cons_append, inRange, apart, nilBlk, idS1, idS2, readAll, readRes, onAll, step, res, AX.val, List.drop_zero, List.drop_succ_cons, List.take_succ_cons, List.take_zero]
theorem tested_c (c : Int) (nid : Nat) : ACall Try.prog 102 [.int .u8 c] [] nid (.bool (isBinV c || c == 42)) [] := by
  refine acall_run c102 (by simp [a102]) ?_
  simp -dsimp only [a102, aqT, ROp, OX, ↓seqK, ↓blkK, ↓loopK, step, stepBin, res, stepIdx, mix, PV.cells, argSlots, Nat.reduceBEq, Nat.reduceBeqDiff, Nat.add_assoc nid, Nat.reduceAdd, reduceCtorEq, ↓reduceIte, Nat.reduceLeDiff, colPV, freeOf, indep, offO, neqO, disj, namesX, axSlot, opXs, rdXs, idsOf, idsOfs, lowH, lowAll, keys, Nat.reduceBneDiff, Option.toList, ← Int.ofNat_tmod, ← Int.ofNat_tdiv, optInt, fillP, repl, chunk, mkCols, mkCol, colInts, colBools, colStrs, colLits, colsApp, Col.app, tailOf, splice, colsPut, Col.put, mmFold, eqK, Nat.reduceLT, colsPaste, Col.paste]
  refine CallO.pure (isBin_c _ _) ?_
  cases h0 : isBinV c <;> cases h1 : (c == 42) <;>
    simp -dsimp only [aqT, ROp, OX, ↓seqK, ↓blkK, ↓loopK, step, stepBin, res, stepIdx, mix, PV.cells, argSlots, Nat.reduceBEq, Nat.reduceBeqDiff, Nat.add_assoc nid, Nat.reduceAdd, reduceCtorEq, ↓reduceIte, Nat.reduceLeDiff, colPV, freeOf, indep, offO, neqO, disj, namesX, axSlot, opXs, rdXs, idsOf, idsOfs, lowH, lowAll, keys, Nat.reduceBneDiff, Option.toList, ← Int.ofNat_tmod, ← Int.ofNat_tdiv, optInt, fillP, repl, chunk, mkCols, mkCol, colInts, colBools, colStrs, colLits, colsApp, Col.app, tailOf, splice, colsPut, Col.put, mmFold, eqK, Nat.reduceLT, colsPaste, Col.paste, h0, h1] <;> refine RetOK.pure (.inl rfl) rfl ?_ <;> simp [retPV, over, keys, List.map_nil, List.map_cons, List.contains_cons, List.contains_nil, Bool.or_false, Bool.or_true, Bool.true_or, Bool.false_or, beq_self_eq_true, cond_true, cond_false, HeapCov, orNil, nilSz, onBlk, srcOf, getH_hit, getH_miss, getH.eq_1, getS_hit, getS_miss, getS.eq_1, BlkCov, PVCovs, PVCov, ColsEq, ColEq.refl, liveIds, SlotsCov, List.all_nil, List.all_cons, List.any_nil, List.any_cons, List.nil_append, List.cons_append, inRange, apart, nilBlk, idS1, idS2, readAll, readRes, onAll, step, res, AX.val, List.drop_zero, List.drop_succ_cons, List.take_succ_cons, List.take_zero]
theorem gcd12_c (nid : Nat) : ACall Try.prog 104 [.int .i64 1, .int .i64 2] [] nid (.int .i64 1) [] := by
  refine acall_run c104 (by simp [a104]) ?_
  simp -dsimp only [a104, aqT, ROp, OX, ↓seqK, ↓blkK, ↓loopK, step, stepBin, res, stepIdx, mix, PV.cells, argSlots, Nat.reduceBEq, Nat.reduceBeqDiff, Nat.add_assoc nid, Nat.reduceAdd, reduceCtorEq, ↓reduceIte, Nat.reduceLeDiff, colPV, freeOf, indep, offO, neqO, disj, namesX, axSlot, opXs, rdXs, idsOf, idsOfs, lowH, lowAll, keys, Nat.reduceBneDiff, Option.toList, ← Int.ofNat_tmod, ← Int.ofNat_tdiv, optInt, fillP, repl, chunk, mkCols, mkCol, colInts, colBools, colStrs, colLits, colsApp, Col.app, tailOf, splice, colsPut, Col.put, mmFold, eqK, Nat.reduceLT, colsPaste, Col.paste]
  refine LP.rounds 5 ?_
  simp -dsimp only [aqT, ROp, OX, ↓seqK, ↓blkK, ↓loopK, step, stepBin, res, stepIdx, mix, PV.cells, argSlots, Nat.reduceBEq, Nat.reduceBeqDiff, Nat.add_assoc nid, Nat.reduceAdd, reduceCtorEq, ↓reduceIte, Nat.reduceLeDiff, colPV, freeOf, indep, offO, neqO, disj, namesX, axSlot, opXs, rdXs, idsOf, idsOfs, lowH, lowAll, keys, Nat.reduceBneDiff, Option.toList, ← Int.ofNat_tmod, ← Int.ofNat_tdiv, optInt, fillP, repl, chunk, mkCols, mkCol, colInts, colBools, colStrs, colLits, colsApp, Col.app, tailOf, splice, colsPut, Col.put, mmFold, eqK, Nat.reduceLT, colsPaste, Col.paste, Int.cast_ofNat_Int, Int.reduceBEq, Int.reduceBNe, Int.reduceLT, Int.reduceLE, Int.reduceAdd, Int.reduceSub, Int.reduceMul, Int.reduceToNat, Int.reduceNeg, Int.reduceTMod, Int.reduceEq, not_false_eq_true, Int.reducePow, Int.reduceFDiv, Nat.reducePow, Nat.reduceSub, Nat.reduceMul, Nat.min_eq_left, Nat.reduceEqDiff, BEq.rfl, Int.tdiv_one, LN_succ]
  refine RetOK.pure (.inl rfl) rfl ?_
  simp [retPV, over, keys, List.map_nil, List.map_cons, List.contains_cons, List.contains_nil, Bool.or_false, Bool.or_true, Bool.true_or, Bool.false_or, beq_self_eq_true, cond_true, cond_false, HeapCov, orNil, nilSz, onBlk, srcOf, getH_hit, getH_miss, getH.eq_1, getS_hit, getS_miss, getS.eq_1, BlkCov, PVCovs, PVCov, ColsEq, ColEq.refl, liveIds, SlotsCov, List.all_nil, List.all_cons, List.any_nil, List.any_cons, List.nil_append, List.cons_append, inRange, apart, nilBlk, idS1, idS2, readAll, readRes, onAll, step, res, AX.val, List.drop_zero, List.drop_succ_cons, List.take_succ_cons, List.take_zero]
theorem frac12_c (nid : Nat) : ACall Try.prog 95 [.int .i64 1, .int .i64 2] [] nid (.agg [.int .i64 1, .int .i64 2]) [] := by
  refine acall_run c95 (by simp [a95]) ?_
  simp -dsimp only [a95, aqT, ROp, OX, ↓seqK, ↓blkK, ↓loopK, step, stepBin, res, stepIdx, mix, PV.cells, argSlots, Nat.reduceBEq, Nat.reduceBeqDiff, Nat.add_assoc nid, Nat.reduceAdd, reduceCtorEq, ↓reduceIte, Nat.reduceLeDiff, colPV, freeOf, indep, offO, neqO, disj, namesX, axSlot, opXs, rdXs, idsOf, idsOfs, lowH, lowAll, keys, Nat.reduceBneDiff, Option.toList, ← Int.ofNat_tmod, ← Int.ofNat_tdiv, optInt, fillP, repl, chunk, mkCols, mkCol, colInts, colBools, colStrs, colLits, colsApp, Col.app, tailOf, splice, colsPut, Col.put, mmFold, eqK, Nat.reduceLT, colsPaste, Col.paste, Int.cast_ofNat_Int, Int.reduceBEq, Int.reduceBNe, Int.reduceLT, Int.reduceLE, Int.reduceAdd, Int.reduceSub, Int.reduceMul, Int.reduceToNat, Int.reduceNeg, Int.reduceTMod, Int.reduceEq, not_false_eq_true, Int.reducePow, Int.reduceFDiv, Nat.reducePow, Nat.reduceSub, Nat.reduceMul, Nat.min_eq_left, Nat.reduceEqDiff, BEq.rfl, Int.tdiv_one, LN_succ]
  have hm : max (1 : Int) (-1) = 1 := by decide
  rw [hm]
  refine ⟨by unfold inI64; omega, CallO.pure (gcd12_c _) ?_⟩
  simp -dsimp only [aqT, ROp, OX, ↓seqK, ↓blkK, ↓loopK, step, stepBin, res, stepIdx, mix, PV.cells, argSlots, Nat.reduceBEq, Nat.reduceBeqDiff, Nat.add_assoc nid, Nat.reduceAdd, reduceCtorEq, ↓reduceIte, Nat.reduceLeDiff, colPV, freeOf, indep, offO, neqO, disj, namesX, axSlot, opXs, rdXs, idsOf, idsOfs, lowH, lowAll, keys, Nat.reduceBneDiff, Option.toList, ← Int.ofNat_tmod, ← Int.ofNat_tdiv, optInt, fillP, repl, chunk, mkCols, mkCol, colInts, colBools, colStrs, colLits, colsApp, Col.app, tailOf, splice, colsPut, Col.put, mmFold, eqK, Nat.reduceLT, colsPaste, Col.paste, Int.cast_ofNat_Int, Int.reduceBEq, Int.reduceBNe, Int.reduceLT, Int.reduceLE, Int.reduceAdd, Int.reduceSub, Int.reduceMul, Int.reduceToNat, Int.reduceNeg, Int.reduceTMod, Int.reduceEq, not_false_eq_true, Int.reducePow, Int.reduceFDiv, Nat.reducePow, Nat.reduceSub, Nat.reduceMul, Nat.min_eq_left, Nat.reduceEqDiff, BEq.rfl, Int.tdiv_one, LN_succ]
  have h1 : IntKind.i64.wrap 1 = 1 := by decide
  have h2 : IntKind.i64.wrap 2 = 2 := by decide
  rw [h1, h2]
  refine RetOK.go [] [] (.inl rfl) ?_
  simp [a95, retPV, over, keys, List.map_nil, List.map_cons, List.contains_cons, List.contains_nil, Bool.or_false, Bool.or_true, Bool.true_or, Bool.false_or, beq_self_eq_true, cond_true, cond_false, HeapCov, orNil, nilSz, onBlk, srcOf, getH_hit, getH_miss, getH.eq_1, getS_hit, getS_miss, getS.eq_1, BlkCov, PVCovs, PVCov, ColsEq, ColEq.refl, liveIds, SlotsCov, List.all_nil, List.all_cons, List.any_nil, List.any_cons, List.nil_append, List.cons_append, inRange, apart, nilBlk, idS1, idS2, readAll, readRes, onAll, step, res, AX.val, List.drop_zero, List.drop_succ_cons, List.take_succ_cons, List.take_zero]
theorem indexBS_c (s : List UInt8) (c : Int) (nid : Nat) : ACall Try.prog 111 [.str s, .int .u8 c] [] nid (.int .i64 (Lib.indexByte s c.toNat.toUInt8)) [] := by
  intro C vs hb hl hr hs
  obtain ⟨v0, v1, rfl⟩ : ∃ a b, vs = [a, b] := by
    rcases vs with _ | ⟨a, _ | ⟨b, _ | ⟨c, r⟩⟩⟩
    · simp at hl
    · simp at hl
    · exact ⟨a, b, rfl⟩
    · simp at hl
  have r0 := (hr 0 _ v0 rfl rfl).str_inv
  have r1 := (hr 1 _ v1 rfl rfl).int_inv
  subst r0; subst r1
  refine .inr ⟨.int .i64 (Lib.indexByte s c.toNat.toUInt8), C.w0, ?_, C.Y0, C.m0, .int, by simpa using hs.next (show nid ≤ nid + 4 by omega), Ev.refl _ _ _⟩
  rw [run_callFunc_extern (P := Try.prog) (f := 111) (fn := Try.f111) (e := Extern.BytealgIndexByte.indexByte) Try.func111 (by kernel_rfl) (by kernel_rfl) (by kernel_rfl) (by kernel_rfl)]
  have h := Lib.run_indexByteString (P := Try.prog) ⟨s.toArray⟩ c C.w0
  show ((Extern.BytealgIndexByte.indexByte #[.string ⟨s.toArray⟩, .int .u8 c]).run Try.prog C.w0).andThen _ = _
  rw [h]
  rfl
theorem indexB_c (s : List UInt8) (c : Int) (nid : Nat) : ACall Try.prog 108 [.str s, .int .u8 c] [] nid (.int .i64 (Lib.indexByte s c.toNat.toUInt8)) [] := by
  have h1 : ∀ nid, ACall Try.prog 110 [.str s, .int .u8 c] [] nid (.int .i64 (Lib.indexByte s c.toNat.toUInt8)) [] := fun nid => by
    refine acall_run c110 (by simp [a110]) ?_
    simp -dsimp only [a110, aqT, ROp, OX, ↓seqK, ↓blkK, ↓loopK, step, stepBin, res, stepIdx, mix, PV.cells, argSlots, Nat.reduceBEq, Nat.reduceBeqDiff, Nat.add_assoc nid, Nat.reduceAdd, reduceCtorEq, ↓reduceIte, Nat.reduceLeDiff, colPV, freeOf, indep, offO, neqO, disj, namesX, axSlot, opXs, rdXs, idsOf, idsOfs, lowH, lowAll, keys, Nat.reduceBneDiff, Option.toList, ← Int.ofNat_tmod, ← Int.ofNat_tdiv, optInt, fillP, repl, chunk, mkCols, mkCol, colInts, colBools, colStrs, colLits, colsApp, Col.app, tailOf, splice, colsPut, Col.put, mmFold, eqK, Nat.reduceLT, colsPaste, Col.paste]
    refine CallO.pure (indexBS_c s c _) ?_
    simp -dsimp only [aqT, ROp, OX, ↓seqK, ↓blkK, ↓loopK, step, stepBin, res, stepIdx, mix, PV.cells, argSlots, Nat.reduceBEq, Nat.reduceBeqDiff, Nat.add_assoc nid, Nat.reduceAdd, reduceCtorEq, ↓reduceIte, Nat.reduceLeDiff, colPV, freeOf, indep, offO, neqO, disj, namesX, axSlot, opXs, rdXs, idsOf, idsOfs, lowH, lowAll, keys, Nat.reduceBneDiff, Option.toList, ← Int.ofNat_tmod, ← Int.ofNat_tdiv, optInt, fillP, repl, chunk, mkCols, mkCol, colInts, colBools, colStrs, colLits, colsApp, Col.app, tailOf, splice, colsPut, Col.put, mmFold, eqK, Nat.reduceLT, colsPaste, Col.paste]
    refine RetOK.pure (.inl rfl) rfl ?_
    simp [retPV, over, keys, List.map_nil, List.map_cons, List.contains_cons, List.contains_nil, Bool.or_false, Bool.or_true, Bool.true_or, Bool.false_or, beq_self_eq_true, cond_true, cond_false, HeapCov, orNil, nilSz, onBlk, srcOf, getH_hit, getH_miss, getH.eq_1, getS_hit, getS_miss, getS.eq_1, BlkCov, PVCovs, PVCov, ColsEq, ColEq.refl, liveIds, SlotsCov, List.all_nil, List.all_cons, List.any_nil, List.any_cons, List.nil_append, List.cons_append, inRange, apart, nilBlk, idS1, idS2, readAll, readRes, onAll, step, res, AX.val, List.drop_zero, List.drop_succ_cons, List.take_succ_cons, List.take_zero]
  refine acall_run c108 (by simp [a108]) ?_
  simp -dsimp only [a108, aqT, ROp, OX, ↓seqK, ↓blkK, ↓loopK, step, stepBin, res, stepIdx, mix, PV.cells, argSlots, Nat.reduceBEq, Nat.reduceBeqDiff, Nat.add_assoc nid, Nat.reduceAdd, reduceCtorEq, ↓reduceIte, Nat.reduceLeDiff, colPV, freeOf, indep, offO, neqO, disj, namesX, axSlot, opXs, rdXs, idsOf, idsOfs, lowH, lowAll, keys, Nat.reduceBneDiff, Option.toList, ← Int.ofNat_tmod, ← Int.ofNat_tdiv, optInt, fillP, repl, chunk, mkCols, mkCol, colInts, colBools, colStrs, colLits, colsApp, Col.app, tailOf, splice, colsPut, Col.put, mmFold, eqK, Nat.reduceLT, colsPaste, Col.paste]
  refine CallO.pure (h1 _) ?_
  simp -dsimp only [aqT, ROp, OX, ↓seqK, ↓blkK, ↓loopK, step, stepBin, res, stepIdx, mix, PV.cells, argSlots, Nat.reduceBEq, Nat.reduceBeqDiff, Nat.add_assoc nid, Nat.reduceAdd, reduceCtorEq, ↓reduceIte, Nat.reduceLeDiff, colPV, freeOf, indep, offO, neqO, disj, namesX, axSlot, opXs, rdXs, idsOf, idsOfs, lowH, lowAll, keys, Nat.reduceBneDiff, Option.toList, ← Int.ofNat_tmod, ← Int.ofNat_tdiv, optInt, fillP, repl, chunk, mkCols, mkCol, colInts, colBools, colStrs, colLits, colsApp, Col.app, tailOf, splice, colsPut, Col.put, mmFold, eqK, Nat.reduceLT, colsPaste, Col.paste]
  refine RetOK.pure (.inl rfl) rfl ?_
  simp [retPV, over, keys, List.map_nil, List.map_cons, List.contains_cons, List.contains_nil, Bool.or_false, Bool.or_true, Bool.true_or, Bool.false_or, beq_self_eq_true, cond_true, cond_false, HeapCov, orNil, nilSz, onBlk, srcOf, getH_hit, getH_miss, getH.eq_1, getS_hit, getS_miss, getS.eq_1, BlkCov, PVCovs, PVCov, ColsEq, ColEq.refl, liveIds, SlotsCov, List.all_nil, List.all_cons, List.any_nil, List.any_cons, List.nil_append, List.cons_append, inRange, apart, nilBlk, idS1, idS2, readAll, readRes, onAll, step, res, AX.val, List.drop_zero, List.drop_succ_cons, List.take_succ_cons, List.take_zero]
def passedV (pass : List UInt8) (c : Int) : Bool := isBinV c && decide (0 ≤ Lib.indexByte pass c.toNat.toUInt8)
theorem passed_c (rows : PV) (pass : List UInt8) (c : Int) (nid : Nat) (nl : Bool) (n : Nat) (cols : List Col) (hr : rows = .lit nl n cols) : ACall Try.prog 103 [.agg [rows, .str pass], .int .u8 c] [] nid (.bool (passedV pass c)) [] := by
  subst hr
  refine acall_run c103 (by simp [a103]) ?_
  simp -dsimp only [a103, aqT, ROp, OX, ↓seqK, ↓blkK, ↓loopK, step, stepBin, res, stepIdx, mix, PV.cells, argSlots, Nat.reduceBEq, Nat.reduceBeqDiff, Nat.add_assoc nid, Nat.reduceAdd, reduceCtorEq, ↓reduceIte, Nat.reduceLeDiff, colPV, freeOf, indep, offO, neqO, disj, namesX, axSlot, opXs, rdXs, idsOf, idsOfs, lowH, lowAll, keys, Nat.reduceBneDiff, Option.toList, ← Int.ofNat_tmod, ← Int.ofNat_tdiv, optInt, fillP, repl, chunk, mkCols, mkCol, colInts, colBools, colStrs, colLits, colsApp, Col.app, tailOf, splice, colsPut, Col.put, mmFold, eqK, Nat.reduceLT, colsPaste, Col.paste]
  refine CallO.pure (isBin_c _ _) ?_
  unfold passedV
  simp -dsimp only [aqT, ROp, OX, ↓seqK, ↓blkK, ↓loopK, step, stepBin, res, stepIdx, mix, PV.cells, argSlots, Nat.reduceBEq, Nat.reduceBeqDiff, Nat.add_assoc nid, Nat.reduceAdd, reduceCtorEq, ↓reduceIte, Nat.reduceLeDiff, colPV, freeOf, indep, offO, neqO, disj, namesX, axSlot, opXs, rdXs, idsOf, idsOfs, lowH, lowAll, keys, Nat.reduceBneDiff, Option.toList, ← Int.ofNat_tmod, ← Int.ofNat_tdiv, optInt, fillP, repl, chunk, mkCols, mkCol, colInts, colBools, colStrs, colLits, colsApp, Col.app, tailOf, splice, colsPut, Col.put, mmFold, eqK, Nat.reduceLT, colsPaste, Col.paste]
  cases h0 : isBinV c <;> simp -dsimp only [aqT, ROp, OX, ↓seqK, ↓blkK, ↓loopK, step, stepBin, res, stepIdx, mix, PV.cells, argSlots, Nat.reduceBEq, Nat.reduceBeqDiff, Nat.add_assoc nid, Nat.reduceAdd, reduceCtorEq, ↓reduceIte, Nat.reduceLeDiff, colPV, freeOf, indep, offO, neqO, disj, namesX, axSlot, opXs, rdXs, idsOf, idsOfs, lowH, lowAll, keys, Nat.reduceBneDiff, Option.toList, ← Int.ofNat_tmod, ← Int.ofNat_tdiv, optInt, fillP, repl, chunk, mkCols, mkCol, colInts, colBools, colStrs, colLits, colsApp, Col.app, tailOf, splice, colsPut, Col.put, mmFold, eqK, Nat.reduceLT, colsPaste, Col.paste]
  · refine RetOK.pure (.inl rfl) rfl ?_
    simp [retPV, over, keys, List.map_nil, List.map_cons, List.contains_cons, List.contains_nil, Bool.or_false, Bool.or_true, Bool.true_or, Bool.false_or, beq_self_eq_true, cond_true, cond_false, HeapCov, orNil, nilSz, onBlk, srcOf, getH_hit, getH_miss, getH.eq_1, getS_hit, getS_miss, getS.eq_1, BlkCov, PVCovs, PVCov, ColsEq, ColEq.refl, liveIds, SlotsCov, List.all_nil, List.all_cons, List.any_nil, List.any_cons, List.nil_append, List.cons_append, inRange, apart, nilBlk, idS1, idS2, readAll, readRes, onAll, step, res, AX.val, List.drop_zero, List.drop_succ_cons, List.take_succ_cons, List.take_zero]
  · refine CallO.pure (indexB_c _ _ _) ?_
    simp -dsimp only [aqT, ROp, OX, ↓seqK, ↓blkK, ↓loopK, step, stepBin, res, stepIdx, mix, PV.cells, argSlots, Nat.reduceBEq, Nat.reduceBeqDiff, Nat.add_assoc nid, Nat.reduceAdd, reduceCtorEq, ↓reduceIte, Nat.reduceLeDiff, colPV, freeOf, indep, offO, neqO, disj, namesX, axSlot, opXs, rdXs, idsOf, idsOfs, lowH, lowAll, keys, Nat.reduceBneDiff, Option.toList, ← Int.ofNat_tmod, ← Int.ofNat_tdiv, optInt, fillP, repl, chunk, mkCols, mkCol, colInts, colBools, colStrs, colLits, colsApp, Col.app, tailOf, splice, colsPut, Col.put, mmFold, eqK, Nat.reduceLT, colsPaste, Col.paste]
    refine RetOK.pure (.inl rfl) rfl ?_
    simp [retPV, over, keys, List.map_nil, List.map_cons, List.contains_cons, List.contains_nil, Bool.or_false, Bool.or_true, Bool.true_or, Bool.false_or, beq_self_eq_true, cond_true, cond_false, HeapCov, orNil, nilSz, onBlk, srcOf, getH_hit, getH_miss, getH.eq_1, getS_hit, getS_miss, getS.eq_1, BlkCov, PVCovs, PVCov, ColsEq, ColEq.refl, liveIds, SlotsCov, List.all_nil, List.all_cons, List.any_nil, List.any_cons, List.nil_append, List.cons_append, inRange, apart, nilBlk, idS1, idS2, readAll, readRes, onAll, step, res, AX.val, List.drop_zero, List.drop_succ_cons, List.take_succ_cons, List.take_zero]
end Go.Proofs.Ytmnhlfkphibhfaa
