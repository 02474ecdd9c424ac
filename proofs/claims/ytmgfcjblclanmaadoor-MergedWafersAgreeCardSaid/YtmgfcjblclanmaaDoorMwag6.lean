/-
  Points deleted out of a list, the function given by its contract, by the abstract machine.
-/
import Derived.Test.YtmgfcjblclanmaaDoorMwag5
import Derived.Test.YtmgfcjblclanmaaDoorMwag3
import Derived.Test.YtmgfcjblclanmaaDoorProg
import Derived.Ground.NamesProg
import Derived.Shelf.Strings.Replace
import Derived.WalkKit
import Derived.Lib.SplitLaws
import Derived.Lib.Agree
import Derived.Test.YtmgfcjblclanmaaDoorMwag4
namespace Go.Proofs.YtmgfcjblclanmaaDoor
open Go.RowKit
set_option linter.unusedVariables false
set_option linter.unusedSimpArgs false
set_option maxRecDepth 100000
theorem ptMem {l : List Pt} {k : Nat} (h : k < l.length) : l.getD k p0 ∈ l := by
  rw [List.getD_eq_getElem?_getD, List.getElem?_eq_getElem h]; exact List.getElem_mem _
/-- where the first point is for which something is so -/
def idxP (F : Pt → Bool) (l : List Pt) : Int := match l.findIdx? F with
  | some i => (i : Int)
  | none => -1
theorem idxP_hit {F : Pt → Bool} : ∀ {l : List Pt} {k : Nat}, k < l.length → (∀ j, j < k → F (l.getD j p0) = false) → F (l.getD k p0) = true → l.findIdx? F = some k
  | [], k, hk, _, _ => by simp at hk
  | a :: l, 0, _, _, h => by
    have h' : F a = true := by simpa using h
    simp [List.findIdx?_cons, h']
  | a :: l, k + 1, hk, hall, h => by
    have h0 : F a = false := by simpa using hall 0 (by omega)
    have := idxP_hit (F := F) (l := l) (k := k) (by simpa using hk) (fun j hj => by simpa using hall (j + 1) (by omega)) (by simpa using h)
    simp [List.findIdx?_cons, h0, this]
theorem idxP_none {F : Pt → Bool} : ∀ {l : List Pt}, (∀ j, j < l.length → F (l.getD j p0) = false) → l.findIdx? F = none
  | [], _ => rfl
  | a :: l, hall => by
    have h0 : F a = false := by simpa using hall 0 (by simp)
    have := idxP_none (F := F) (l := l) (fun j hj => by simpa using hall (j + 1) (by simpa using hj))
    simp [List.findIdx?_cons, h0, this]
set_option maxHeartbeats 4000000 in
theorem indexP_c (f id ia ib : Nat) (nla nlb : Bool) (A B : Waf) (F : Pt → Bool) (l : List Pt) (nid : Nat) (hid : id < nid) (hia : ia < nid) (hib : ib < nid) (n1 : id ≠ ia) (n2 : id ≠ ib) (n3 : ia ≠ ib) (hl : l.length ≤ 1000000)
    (hf : ∀ p ∈ l, ∀ nid', ia < nid' → ib < nid' → ACall Tryd.prog f [.agg [.int .i64 p.1, .int .i64 p.2], .ptr ia 0, .ptr ib 0] [(ia, boxW nla A), (ib, boxW nlb B)] nid' (.bool (F p)) []) :
    ACall Tryd.prog 95 [.sl id 0 l.length, .fn f [.ptr ia 0, .ptr ib 0]] [(id, arrPl l), (ia, boxW nla A), (ib, boxW nlb B)] nid (.int .i64 (idxP F l)) [] := by
  obtain ⟨a1, a2, a3, a4, a5, a6, a7, a8, a9⟩ := id_all hid
  obtain ⟨b1, b2, b3, b4, b5, b6, b7, b8, b9⟩ := id_all hia
  obtain ⟨d1, d2, d3, d4, d5, d6, d7, d8, d9⟩ := id_all hib
  have g1 : (id == ia) = false := by simpa using n1
  have g2 : (ia == id) = false := by simpa using fun h => n1 h.symm
  have g3 : (id == ib) = false := by simpa using n2
  have g4 : (ib == id) = false := by simpa using fun h => n2 h.symm
  have g5 : (ia == ib) = false := by simpa using n3
  have g6 : (ib == ia) = false := by simpa using fun h => n3 h.symm
  have m1 : ¬ ia = id := fun h => n1 h.symm
  have m2 : ¬ ib = id := fun h => n2 h.symm
  have m3 : ¬ ib = ia := fun h => n3 h.symm
  refine acall_run c95 (by simp [a95]) ?_
  unfold arrPl boxW
  simp -dsimp only [a95, aqT, ROp, OX, ↓seqK, ↓blkK, ↓loopK, step, stepBin, res, stepIdx, mix, PV.cells, argSlots, Nat.reduceBEq, Nat.reduceBeqDiff, Nat.add_assoc nid, Nat.reduceAdd, reduceCtorEq, ↓reduceIte, Nat.reduceLeDiff, colPV, freeOf, indep, offO, neqO, disj, namesX, axSlot, opXs, rdXs, idsOf, idsOfs, lowH, lowAll, keys, Nat.reduceBneDiff, Option.toList, ← Int.ofNat_tmod, ← Int.ofNat_tdiv, optInt, fillP, repl, chunk, mkCols, mkCol, colInts, colBools, colStrs, colLits, colsApp, Col.app, tailOf, splice, colsPut, Col.put, mmFold, eqK, Nat.reduceLT, colsPaste, Col.paste, mNew, mkKey, keyIn, mGet, mPut, Int.cast_ofNat_Int, Int.reduceBEq, Int.reduceBNe, Int.reduceLT, Int.reduceLE, Int.reduceAdd, Int.reduceSub, Int.reduceMul, Int.reduceToNat, Int.reduceNeg, Int.reduceTMod, Int.reduceEq, not_false_eq_true, Int.reducePow, Int.reduceFDiv, Nat.reducePow, Nat.reduceSub, Nat.reduceMul, Nat.min_eq_left, Nat.reduceEqDiff, BEq.rfl, Int.tdiv_one, LN_succ, a1, a2, a3, a4, a5, a6, a7, a8, a9, b1, b2, b3, b4, b5, b6, b7, b8, b9, d1, d2, d3, d4, d5, d6, d7, d8, d9, g1, g2, g3, g4, g5, g6, n1, n2, n3, m1, m2, m3]
  refine LP.mkP (fun k : Nat => k ≤ l.length ∧ ∀ j, j < k → F (l.getD j p0) = false) (fun k : Nat => ⟨[(8, .int .i64 k), (7, .int .i64 l.length), (0, .sl id 0 l.length), (1, .fn f [.ptr ia 0, .ptr ib 0])], [(id, arrPl l), (ia, boxW nla A), (ib, boxW nlb B)], nid + 100, nid⟩) (fun k => l.length + 1 - k) 0 ⟨by omega, fun j hj => by omega⟩ (Cov.go [] [] ?_) (fun k hk => ?_)
  · simp [retPV, over, keys, List.map_nil, List.map_cons, List.contains_cons, List.contains_nil, Bool.or_false, Bool.or_true, Bool.true_or, Bool.false_or, beq_self_eq_true, cond_true, cond_false, HeapCov, orNil, nilSz, onBlk, srcOf, getH_hit, getH_miss, getH.eq_1, getS_hit, getS_miss, getS.eq_1, BlkCov, PVCovs, PVCov, ColsEq, ColEq.refl, liveIds, SlotsCov, List.all_nil, List.all_cons, List.any_nil, List.any_cons, List.nil_append, List.cons_append, inRange, apart, nilBlk, idS1, idS2, readAll, readRes, onAll, step, res, AX.val, List.drop_zero, List.drop_succ_cons, List.take_succ_cons, List.take_zero, a1, a2, a3, a4, a5, a6, a7, a8, a9, b1, b2, b3, b4, b5, b6, b7, b8, b9, d1, d2, d3, d4, d5, d6, d7, d8, d9, g1, g2, g3, g4, g5, g6, n1, n2, n3, m1, m2, m3, arrPl, boxW]
  obtain ⟨hk, hall⟩ := hk
  unfold arrPl boxW
  simp -dsimp only [aqT, ROp, OX, ↓seqK, ↓blkK, ↓loopK, step, stepBin, res, stepIdx, mix, PV.cells, argSlots, Nat.reduceBEq, Nat.reduceBeqDiff, Nat.add_assoc nid, Nat.reduceAdd, reduceCtorEq, ↓reduceIte, Nat.reduceLeDiff, colPV, freeOf, indep, offO, neqO, disj, namesX, axSlot, opXs, rdXs, idsOf, idsOfs, lowH, lowAll, keys, Nat.reduceBneDiff, Option.toList, ← Int.ofNat_tmod, ← Int.ofNat_tdiv, optInt, fillP, repl, chunk, mkCols, mkCol, colInts, colBools, colStrs, colLits, colsApp, Col.app, tailOf, splice, colsPut, Col.put, mmFold, eqK, Nat.reduceLT, colsPaste, Col.paste, mNew, mkKey, keyIn, mGet, mPut, Int.cast_ofNat_Int, Int.reduceBEq, Int.reduceBNe, Int.reduceLT, Int.reduceLE, Int.reduceAdd, Int.reduceSub, Int.reduceMul, Int.reduceToNat, Int.reduceNeg, Int.reduceTMod, Int.reduceEq, not_false_eq_true, Int.reducePow, Int.reduceFDiv, Nat.reducePow, Nat.reduceSub, Nat.reduceMul, Nat.min_eq_left, Nat.reduceEqDiff, BEq.rfl, Int.tdiv_one, LN_succ, a1, a2, a3, a4, a5, a6, a7, a8, a9, b1, b2, b3, b4, b5, b6, b7, b8, b9, d1, d2, d3, d4, d5, d6, d7, d8, d9, g1, g2, g3, g4, g5, g6, n1, n2, n3, m1, m2, m3]
  refine S2.dec (fun h1 => ?_) (fun h1 => ?_) <;> simp -dsimp only [aqT, ROp, OX, ↓seqK, ↓blkK, ↓loopK, step, stepBin, res, stepIdx, mix, PV.cells, argSlots, Nat.reduceBEq, Nat.reduceBeqDiff, Nat.add_assoc nid, Nat.reduceAdd, reduceCtorEq, ↓reduceIte, Nat.reduceLeDiff, colPV, freeOf, indep, offO, neqO, disj, namesX, axSlot, opXs, rdXs, idsOf, idsOfs, lowH, lowAll, keys, Nat.reduceBneDiff, Option.toList, ← Int.ofNat_tmod, ← Int.ofNat_tdiv, optInt, fillP, repl, chunk, mkCols, mkCol, colInts, colBools, colStrs, colLits, colsApp, Col.app, tailOf, splice, colsPut, Col.put, mmFold, eqK, Nat.reduceLT, colsPaste, Col.paste, mNew, mkKey, keyIn, mGet, mPut, Int.cast_ofNat_Int, Int.reduceBEq, Int.reduceBNe, Int.reduceLT, Int.reduceLE, Int.reduceAdd, Int.reduceSub, Int.reduceMul, Int.reduceToNat, Int.reduceNeg, Int.reduceTMod, Int.reduceEq, not_false_eq_true, Int.reducePow, Int.reduceFDiv, Nat.reducePow, Nat.reduceSub, Nat.reduceMul, Nat.min_eq_left, Nat.reduceEqDiff, BEq.rfl, Int.tdiv_one, LN_succ, a1, a2, a3, a4, a5, a6, a7, a8, a9, b1, b2, b3, b4, b5, b6, b7, b8, b9, d1, d2, d3, d4, d5, d6, d7, d8, d9, g1, g2, g3, g4, g5, g6, n1, n2, n3, m1, m2, m3]
  · have hkl : k < l.length := by omega
    refine ⟨by omega, CallO.on (hf (l.getD k p0) (ptMem hkl) _ (by omega) (by omega)) (subH_cons (by simp only [aqT, ROp, OX, ↓seqK, ↓blkK, ↓loopK, step, stepBin, res, stepIdx, mix, PV.cells, argSlots, Nat.reduceBEq, Nat.reduceBeqDiff, Nat.add_assoc nid, Nat.reduceAdd, reduceCtorEq, ↓reduceIte, Nat.reduceLeDiff, colPV, freeOf, indep, offO, neqO, disj, namesX, axSlot, opXs, rdXs, idsOf, idsOfs, lowH, lowAll, keys, Nat.reduceBneDiff, Option.toList, ← Int.ofNat_tmod, ← Int.ofNat_tdiv, optInt, fillP, repl, chunk, mkCols, mkCol, colInts, colBools, colStrs, colLits, colsApp, Col.app, tailOf, splice, colsPut, Col.put, mmFold, eqK, Nat.reduceLT, colsPaste, Col.paste, mNew, mkKey, keyIn, mGet, mPut, Int.cast_ofNat_Int, Int.reduceBEq, Int.reduceBNe, Int.reduceLT, Int.reduceLE, Int.reduceAdd, Int.reduceSub, Int.reduceMul, Int.reduceToNat, Int.reduceNeg, Int.reduceTMod, Int.reduceEq, not_false_eq_true, Int.reducePow, Int.reduceFDiv, Nat.reducePow, Nat.reduceSub, Nat.reduceMul, Nat.min_eq_left, Nat.reduceEqDiff, BEq.rfl, Int.tdiv_one, LN_succ, a1, a2, a3, a4, a5, a6, a7, a8, a9, b1, b2, b3, b4, b5, b6, b7, b8, b9, d1, d2, d3, d4, d5, d6, d7, d8, d9, g1, g2, g3, g4, g5, g6, n1, n2, n3, m1, m2, m3, boxW]) (subH_get (by simp only [aqT, ROp, OX, ↓seqK, ↓blkK, ↓loopK, step, stepBin, res, stepIdx, mix, PV.cells, argSlots, Nat.reduceBEq, Nat.reduceBeqDiff, Nat.add_assoc nid, Nat.reduceAdd, reduceCtorEq, ↓reduceIte, Nat.reduceLeDiff, colPV, freeOf, indep, offO, neqO, disj, namesX, axSlot, opXs, rdXs, idsOf, idsOfs, lowH, lowAll, keys, Nat.reduceBneDiff, Option.toList, ← Int.ofNat_tmod, ← Int.ofNat_tdiv, optInt, fillP, repl, chunk, mkCols, mkCol, colInts, colBools, colStrs, colLits, colsApp, Col.app, tailOf, splice, colsPut, Col.put, mmFold, eqK, Nat.reduceLT, colsPaste, Col.paste, mNew, mkKey, keyIn, mGet, mPut, Int.cast_ofNat_Int, Int.reduceBEq, Int.reduceBNe, Int.reduceLT, Int.reduceLE, Int.reduceAdd, Int.reduceSub, Int.reduceMul, Int.reduceToNat, Int.reduceNeg, Int.reduceTMod, Int.reduceEq, not_false_eq_true, Int.reducePow, Int.reduceFDiv, Nat.reducePow, Nat.reduceSub, Nat.reduceMul, Nat.min_eq_left, Nat.reduceEqDiff, BEq.rfl, Int.tdiv_one, LN_succ, a1, a2, a3, a4, a5, a6, a7, a8, a9, b1, b2, b3, b4, b5, b6, b7, b8, b9, d1, d2, d3, d4, d5, d6, d7, d8, d9, g1, g2, g3, g4, g5, g6, n1, n2, n3, m1, m2, m3, boxW]))) ?_⟩
    simp -dsimp only [aqT, ROp, OX, ↓seqK, ↓blkK, ↓loopK, step, stepBin, res, stepIdx, mix, PV.cells, argSlots, Nat.reduceBEq, Nat.reduceBeqDiff, Nat.add_assoc nid, Nat.reduceAdd, reduceCtorEq, ↓reduceIte, Nat.reduceLeDiff, colPV, freeOf, indep, offO, neqO, disj, namesX, axSlot, opXs, rdXs, idsOf, idsOfs, lowH, lowAll, keys, Nat.reduceBneDiff, Option.toList, ← Int.ofNat_tmod, ← Int.ofNat_tdiv, optInt, fillP, repl, chunk, mkCols, mkCol, colInts, colBools, colStrs, colLits, colsApp, Col.app, tailOf, splice, colsPut, Col.put, mmFold, eqK, Nat.reduceLT, colsPaste, Col.paste, mNew, mkKey, keyIn, mGet, mPut, Int.cast_ofNat_Int, Int.reduceBEq, Int.reduceBNe, Int.reduceLT, Int.reduceLE, Int.reduceAdd, Int.reduceSub, Int.reduceMul, Int.reduceToNat, Int.reduceNeg, Int.reduceTMod, Int.reduceEq, not_false_eq_true, Int.reducePow, Int.reduceFDiv, Nat.reducePow, Nat.reduceSub, Nat.reduceMul, Nat.min_eq_left, Nat.reduceEqDiff, BEq.rfl, Int.tdiv_one, LN_succ, a1, a2, a3, a4, a5, a6, a7, a8, a9, b1, b2, b3, b4, b5, b6, b7, b8, b9, d1, d2, d3, d4, d5, d6, d7, d8, d9, g1, g2, g3, g4, g5, g6, n1, n2, n3, m1, m2, m3]
    refine S2.intro (fun h2 => ?_) (fun h2 => ?_) <;> simp -dsimp only [aqT, ROp, OX, ↓seqK, ↓blkK, ↓loopK, step, stepBin, res, stepIdx, mix, PV.cells, argSlots, Nat.reduceBEq, Nat.reduceBeqDiff, Nat.add_assoc nid, Nat.reduceAdd, reduceCtorEq, ↓reduceIte, Nat.reduceLeDiff, colPV, freeOf, indep, offO, neqO, disj, namesX, axSlot, opXs, rdXs, idsOf, idsOfs, lowH, lowAll, keys, Nat.reduceBneDiff, Option.toList, ← Int.ofNat_tmod, ← Int.ofNat_tdiv, optInt, fillP, repl, chunk, mkCols, mkCol, colInts, colBools, colStrs, colLits, colsApp, Col.app, tailOf, splice, colsPut, Col.put, mmFold, eqK, Nat.reduceLT, colsPaste, Col.paste, mNew, mkKey, keyIn, mGet, mPut, Int.cast_ofNat_Int, Int.reduceBEq, Int.reduceBNe, Int.reduceLT, Int.reduceLE, Int.reduceAdd, Int.reduceSub, Int.reduceMul, Int.reduceToNat, Int.reduceNeg, Int.reduceTMod, Int.reduceEq, not_false_eq_true, Int.reducePow, Int.reduceFDiv, Nat.reducePow, Nat.reduceSub, Nat.reduceMul, Nat.min_eq_left, Nat.reduceEqDiff, BEq.rfl, Int.tdiv_one, LN_succ, a1, a2, a3, a4, a5, a6, a7, a8, a9, b1, b2, b3, b4, b5, b6, b7, b8, b9, d1, d2, d3, d4, d5, d6, d7, d8, d9, g1, g2, g3, g4, g5, g6, n1, n2, n3, m1, m2, m3]
    · have e : idxP F l = (k : Int) := by unfold idxP; rw [idxP_hit hkl hall h2]
      rw [e]
      refine RetOK.go [] [] (.inl rfl) ?_
      simp [a95, retPV, over, keys, List.map_nil, List.map_cons, List.contains_cons, List.contains_nil, Bool.or_false, Bool.or_true, Bool.true_or, Bool.false_or, beq_self_eq_true, cond_true, cond_false, HeapCov, orNil, nilSz, onBlk, srcOf, getH_hit, getH_miss, getH.eq_1, getS_hit, getS_miss, getS.eq_1, BlkCov, PVCovs, PVCov, ColsEq, ColEq.refl, liveIds, SlotsCov, List.all_nil, List.all_cons, List.any_nil, List.any_cons, List.nil_append, List.cons_append, inRange, apart, nilBlk, idS1, idS2, readAll, readRes, onAll, step, res, AX.val, List.drop_zero, List.drop_succ_cons, List.take_succ_cons, List.take_zero, a1, a2, a3, a4, a5, a6, a7, a8, a9, b1, b2, b3, b4, b5, b6, b7, b8, b9, d1, d2, d3, d4, d5, d6, d7, d8, d9, g1, g2, g3, g4, g5, g6, n1, n2, n3, m1, m2, m3, arrPl, boxW]
    · refine ⟨by unfold inI64; omega, k + 1, ⟨⟨by omega, fun j hj => ?_⟩, by omega⟩, Cov.go [] [] ?_⟩
      · rcases (by omega : j < k ∨ j = k) with hj | hj
        · exact hall j hj
        · rw [hj]; exact h2
      · simp [retPV, over, keys, List.map_nil, List.map_cons, List.contains_cons, List.contains_nil, Bool.or_false, Bool.or_true, Bool.true_or, Bool.false_or, beq_self_eq_true, cond_true, cond_false, HeapCov, orNil, nilSz, onBlk, srcOf, getH_hit, getH_miss, getH.eq_1, getS_hit, getS_miss, getS.eq_1, BlkCov, PVCovs, PVCov, ColsEq, ColEq.refl, liveIds, SlotsCov, List.all_nil, List.all_cons, List.any_nil, List.any_cons, List.nil_append, List.cons_append, inRange, apart, nilBlk, idS1, idS2, readAll, readRes, onAll, step, res, AX.val, List.drop_zero, List.drop_succ_cons, List.take_succ_cons, List.take_zero, a1, a2, a3, a4, a5, a6, a7, a8, a9, b1, b2, b3, b4, b5, b6, b7, b8, b9, d1, d2, d3, d4, d5, d6, d7, d8, d9, g1, g2, g3, g4, g5, g6, n1, n2, n3, m1, m2, m3, arrPl, boxW]
  · have hkn : k = l.length := by omega
    subst hkn
    have e : idxP F l = -1 := by unfold idxP; rw [idxP_none hall]
    rw [e]
    refine RetOK.go [] [] (.inl rfl) ?_
    simp [a95, retPV, over, keys, List.map_nil, List.map_cons, List.contains_cons, List.contains_nil, Bool.or_false, Bool.or_true, Bool.true_or, Bool.false_or, beq_self_eq_true, cond_true, cond_false, HeapCov, orNil, nilSz, onBlk, srcOf, getH_hit, getH_miss, getH.eq_1, getS_hit, getS_miss, getS.eq_1, BlkCov, PVCovs, PVCov, ColsEq, ColEq.refl, liveIds, SlotsCov, List.all_nil, List.all_cons, List.any_nil, List.any_cons, List.nil_append, List.cons_append, inRange, apart, nilBlk, idS1, idS2, readAll, readRes, onAll, step, res, AX.val, List.drop_zero, List.drop_succ_cons, List.take_succ_cons, List.take_zero, a1, a2, a3, a4, a5, a6, a7, a8, a9, b1, b2, b3, b4, b5, b6, b7, b8, b9, d1, d2, d3, d4, d5, d6, d7, d8, d9, g1, g2, g3, g4, g5, g6, n1, n2, n3, m1, m2, m3, arrPl, boxW]
/-- the points that stay -/
def keepP (F : Pt → Bool) (l : List Pt) : List Pt := l.filter fun p => !F p
theorem keepP_len (F : Pt → Bool) (l : List Pt) : (keepP F l).length ≤ l.length := List.length_filter_le _ _
theorem keepP_succ {F : Pt → Bool} {l : List Pt} {k : Nat} (h : k < l.length) : keepP F (l.take (k + 1)) = keepP F (l.take k) ++ (if F (l.getD k p0) = true then [] else [l.getD k p0]) := by
  unfold keepP
  rw [List.take_add_one, List.getElem?_eq_getElem h, List.filter_append]
  congr 1
  have e : l.getD k p0 = l[k] := by rw [List.getD_eq_getElem?_getD, List.getElem?_eq_getElem h]; rfl
  rw [e]
  cases hf : F l[k] <;> simp [hf]
theorem keepP_all {F : Pt → Bool} {l : List Pt} {k : Nat} (hk : k ≤ l.length) (h : ∀ j, j < k → F (l.getD j p0) = false) : keepP F (l.take k) = l.take k := by
  unfold keepP
  rw [List.filter_eq_self]
  intro a ha
  obtain ⟨j, hj, rfl⟩ := List.getElem_of_mem ha
  have hj' : j < k := by rw [List.length_take] at hj; omega
  have := h j hj'
  rw [List.getD_eq_getElem?_getD, List.getElem?_eq_getElem (by omega)] at this
  simp only [List.getElem_take]
  simpa using this
/-- the array while points are deleted: those that stay, and what stood there -/
def partP (F : Pt → Bool) (l : List Pt) (k : Nat) : List Pt := keepP F (l.take k) ++ l.drop (keepP F (l.take k)).length
theorem partP_len {F : Pt → Bool} {l : List Pt} {k : Nat} (hk : k ≤ l.length) : (partP F l k).length = l.length := by
  have := keepP_len F (l.take k)
  rw [List.length_take] at this
  unfold partP; rw [List.length_append, List.length_drop]; omega
theorem partP_at {F : Pt → Bool} {l : List Pt} {k : Nat} (hk : k < l.length) : (partP F l k).getD k p0 = l.getD k p0 := by
  have := keepP_len F (l.take k)
  rw [List.length_take] at this
  unfold partP
  rw [List.getD_eq_getElem?_getD, List.getElem?_append_right (by omega), List.getElem?_drop, List.getD_eq_getElem?_getD]
  congr 2
  omega
theorem partP_set {F : Pt → Bool} {l : List Pt} {k : Nat} (hk : k < l.length) (h : F (l.getD k p0) = false) : (partP F l k).set (keepP F (l.take k)).length (l.getD k p0) = partP F l (k + 1) ∧ (keepP F (l.take (k + 1))).length = (keepP F (l.take k)).length + 1 := by
  have := keepP_len F (l.take k)
  rw [List.length_take] at this
  have e := keepP_succ (F := F) hk
  rw [if_neg (by rw [h]; simp)] at e
  refine ⟨?_, by rw [e]; simp⟩
  unfold partP
  rw [e, List.set_append_right _ _ (Nat.le_refl _), Nat.sub_self, List.length_append, List.append_assoc]
  congr 1
  rw [List.drop_eq_getElem_cons (by omega : (keepP F (l.take k)).length < l.length)]
  rfl
theorem partP_skip {F : Pt → Bool} {l : List Pt} {k : Nat} (hk : k < l.length) (h : F (l.getD k p0) = true) : partP F l (k + 1) = partP F l k ∧ keepP F (l.take (k + 1)) = keepP F (l.take k) := by
  have e := keepP_succ (F := F) hk
  rw [if_pos h, List.append_nil] at e
  exact ⟨by unfold partP; rw [e], e⟩
/-- .. and at the end -/
def doneP (F : Pt → Bool) (l : List Pt) : List Pt := keepP F l ++ List.replicate (l.length - (keepP F l).length) p0
theorem doneP_len (F : Pt → Bool) (l : List Pt) : (doneP F l).length = l.length := by
  have := keepP_len F l
  unfold doneP; rw [List.length_append, List.length_replicate]; omega
theorem getD_setP (q : List Pt) (x : Pt) {i : Nat} (hi : i < q.length) (f : Pt → Int) {v : Int} (hv : v = f x) : (fun j => if j = i then v else f (q.getD j p0)) = fun j => f ((q.set i x).getD j p0) := by
  subst hv
  funext j
  simp only [List.getD_eq_getElem?_getD, List.getElem?_set]
  by_cases h : j = i
  · subst h; simp [hi]
  · rw [if_neg h, if_neg (fun e => h e.symm)]
theorem doneP_at {F : Pt → Bool} {l : List Pt} (g : Pt → Int) (h0 : g p0 = 0) : ∀ j, j < l.length → (if (keepP F l).length ≤ j ∧ j < (keepP F l).length + (l.length - (keepP F l).length) then (0 : Int) else g ((partP F l l.length).getD j p0)) = g ((doneP F l).getD j p0) := fun j hj => by
  have hk := keepP_len F l
  unfold partP doneP
  rw [List.take_length]
  simp only [List.getD_eq_getElem?_getD, List.getElem?_append]
  by_cases h : j < (keepP F l).length
  · rw [if_neg (by omega), if_pos h, if_pos h]
  · rw [if_pos ⟨by omega, by omega⟩, if_neg h, List.getElem?_replicate, if_pos (by omega)]
    simp [h0]
set_option maxHeartbeats 8000000 in
theorem deleteP_c (f id ia ib : Nat) (nla nlb : Bool) (A B : Waf) (F : Pt → Bool) (l : List Pt) (nid : Nat) (hid : id < nid) (hia : ia < nid) (hib : ib < nid) (n1 : id ≠ ia) (n2 : id ≠ ib) (n3 : ia ≠ ib) (hl : l.length ≤ 1000000)
    (hf : ∀ p ∈ l, ∀ nid', ia < nid' → ib < nid' → ACall Tryd.prog f [.agg [.int .i64 p.1, .int .i64 p.2], .ptr ia 0, .ptr ib 0] [(ia, boxW nla A), (ib, boxW nlb B)] nid' (.bool (F p)) []) :
    ACall Tryd.prog 51 [.sl id 0 l.length, .fn f [.ptr ia 0, .ptr ib 0]] [(id, arrPl l), (ia, boxW nla A), (ib, boxW nlb B)] nid (.sl id 0 (keepP F l).length) [(id, arrPl (doneP F l))] := by
  obtain ⟨a1, a2, a3, a4, a5, a6, a7, a8, a9⟩ := id_all hid
  obtain ⟨b1, b2, b3, b4, b5, b6, b7, b8, b9⟩ := id_all hia
  obtain ⟨d1, d2, d3, d4, d5, d6, d7, d8, d9⟩ := id_all hib
  have g1 : (id == ia) = false := by simpa using n1
  have g2 : (ia == id) = false := by simpa using fun h => n1 h.symm
  have g3 : (id == ib) = false := by simpa using n2
  have g4 : (ib == id) = false := by simpa using fun h => n2 h.symm
  have g5 : (ia == ib) = false := by simpa using n3
  have g6 : (ib == ia) = false := by simpa using fun h => n3 h.symm
  have m1 : ¬ ia = id := fun h => n1 h.symm
  have m2 : ¬ ib = id := fun h => n2 h.symm
  have m3 : ¬ ib = ia := fun h => n3 h.symm
  refine acall_sr c51 (by simp [a51]) ?_
  unfold a51
  refine SR.seq ?_
  simp -dsimp only [aqT, ROp, OX, ↓seqK, ↓blkK, ↓loopK, step, stepBin, res, stepIdx, mix, PV.cells, argSlots, Nat.reduceBEq, Nat.reduceBeqDiff, Nat.add_assoc nid, Nat.reduceAdd, reduceCtorEq, ↓reduceIte, Nat.reduceLeDiff, colPV, freeOf, indep, offO, neqO, disj, namesX, axSlot, opXs, rdXs, idsOf, idsOfs, lowH, lowAll, keys, Nat.reduceBneDiff, Option.toList, ← Int.ofNat_tmod, ← Int.ofNat_tdiv, optInt, fillP, repl, chunk, mkCols, mkCol, colInts, colBools, colStrs, colLits, colsApp, Col.app, tailOf, splice, colsPut, Col.put, mmFold, eqK, Nat.reduceLT, colsPaste, Col.paste, mNew, mkKey, keyIn, mGet, mPut, Int.cast_ofNat_Int, Int.reduceBEq, Int.reduceBNe, Int.reduceLT, Int.reduceLE, Int.reduceAdd, Int.reduceSub, Int.reduceMul, Int.reduceToNat, Int.reduceNeg, Int.reduceTMod, Int.reduceEq, not_false_eq_true, Int.reducePow, Int.reduceFDiv, Nat.reducePow, Nat.reduceSub, Nat.reduceMul, Nat.min_eq_left, Nat.reduceEqDiff, BEq.rfl, Int.tdiv_one, LN_succ, a1, a2, a3, a4, a5, a6, a7, a8, a9, b1, b2, b3, b4, b5, b6, b7, b8, b9, d1, d2, d3, d4, d5, d6, d7, d8, d9, g1, g2, g3, g4, g5, g6, n1, n2, n3, m1, m2, m3]
  refine SR.seqTo ⟨[(5, .int .i64 (idxP F l)), (0, .sl id 0 l.length), (1, .fn f [.ptr ia 0, .ptr ib 0])], [(id, arrPl l), (ia, boxW nla A), (ib, boxW nlb B)], nid + 100, nid⟩ ?_ ?_
  · simp -dsimp only [aqT, ROp, OX, ↓seqK, ↓blkK, ↓loopK, step, stepBin, res, stepIdx, mix, PV.cells, argSlots, Nat.reduceBEq, Nat.reduceBeqDiff, Nat.add_assoc nid, Nat.reduceAdd, reduceCtorEq, ↓reduceIte, Nat.reduceLeDiff, colPV, freeOf, indep, offO, neqO, disj, namesX, axSlot, opXs, rdXs, idsOf, idsOfs, lowH, lowAll, keys, Nat.reduceBneDiff, Option.toList, ← Int.ofNat_tmod, ← Int.ofNat_tdiv, optInt, fillP, repl, chunk, mkCols, mkCol, colInts, colBools, colStrs, colLits, colsApp, Col.app, tailOf, splice, colsPut, Col.put, mmFold, eqK, Nat.reduceLT, colsPaste, Col.paste, mNew, mkKey, keyIn, mGet, mPut, Int.cast_ofNat_Int, Int.reduceBEq, Int.reduceBNe, Int.reduceLT, Int.reduceLE, Int.reduceAdd, Int.reduceSub, Int.reduceMul, Int.reduceToNat, Int.reduceNeg, Int.reduceTMod, Int.reduceEq, not_false_eq_true, Int.reducePow, Int.reduceFDiv, Nat.reducePow, Nat.reduceSub, Nat.reduceMul, Nat.min_eq_left, Nat.reduceEqDiff, BEq.rfl, Int.tdiv_one, LN_succ, a1, a2, a3, a4, a5, a6, a7, a8, a9, b1, b2, b3, b4, b5, b6, b7, b8, b9, d1, d2, d3, d4, d5, d6, d7, d8, d9, g1, g2, g3, g4, g5, g6, n1, n2, n3, m1, m2, m3]
    refine CallO.on (indexP_c f id ia ib nla nlb A B F l _ (by omega) (by omega) (by omega) n1 n2 n3 hl hf) (fun _ _ h => h) ?_
    simp -dsimp only [aqT, ROp, OX, ↓seqK, ↓blkK, ↓loopK, step, stepBin, res, stepIdx, mix, PV.cells, argSlots, Nat.reduceBEq, Nat.reduceBeqDiff, Nat.add_assoc nid, Nat.reduceAdd, reduceCtorEq, ↓reduceIte, Nat.reduceLeDiff, colPV, freeOf, indep, offO, neqO, disj, namesX, axSlot, opXs, rdXs, idsOf, idsOfs, lowH, lowAll, keys, Nat.reduceBneDiff, Option.toList, ← Int.ofNat_tmod, ← Int.ofNat_tdiv, optInt, fillP, repl, chunk, mkCols, mkCol, colInts, colBools, colStrs, colLits, colsApp, Col.app, tailOf, splice, colsPut, Col.put, mmFold, eqK, Nat.reduceLT, colsPaste, Col.paste, mNew, mkKey, keyIn, mGet, mPut, Int.cast_ofNat_Int, Int.reduceBEq, Int.reduceBNe, Int.reduceLT, Int.reduceLE, Int.reduceAdd, Int.reduceSub, Int.reduceMul, Int.reduceToNat, Int.reduceNeg, Int.reduceTMod, Int.reduceEq, not_false_eq_true, Int.reducePow, Int.reduceFDiv, Nat.reducePow, Nat.reduceSub, Nat.reduceMul, Nat.min_eq_left, Nat.reduceEqDiff, BEq.rfl, Int.tdiv_one, LN_succ, a1, a2, a3, a4, a5, a6, a7, a8, a9, b1, b2, b3, b4, b5, b6, b7, b8, b9, d1, d2, d3, d4, d5, d6, d7, d8, d9, g1, g2, g3, g4, g5, g6, n1, n2, n3, m1, m2, m3]
    refine Cov.go [] [] ?_
    simp [retPV, over, keys, List.map_nil, List.map_cons, List.contains_cons, List.contains_nil, Bool.or_false, Bool.or_true, Bool.true_or, Bool.false_or, beq_self_eq_true, cond_true, cond_false, HeapCov, orNil, nilSz, onBlk, srcOf, getH_hit, getH_miss, getH.eq_1, getS_hit, getS_miss, getS.eq_1, BlkCov, PVCovs, PVCov, ColsEq, ColEq.refl, liveIds, SlotsCov, List.all_nil, List.all_cons, List.any_nil, List.any_cons, List.nil_append, List.cons_append, inRange, apart, nilBlk, idS1, idS2, readAll, readRes, onAll, step, res, AX.val, List.drop_zero, List.drop_succ_cons, List.take_succ_cons, List.take_zero, a1, a2, a3, a4, a5, a6, a7, a8, a9, b1, b2, b3, b4, b5, b6, b7, b8, b9, d1, d2, d3, d4, d5, d6, d7, d8, d9, g1, g2, g3, g4, g5, g6, n1, n2, n3, m1, m2, m3, arrPl, boxW]
  by_cases hnone : ∀ j, j < l.length → F (l.getD j p0) = false
  · have e : idxP F l = -1 := by unfold idxP; rw [idxP_none hnone]
    have hk : keepP F l = l := by
      have := keepP_all (F := F) (l := l) (Nat.le_refl _) hnone
      rwa [List.take_length] at this
    have hd : doneP F l = l := by unfold doneP; rw [hk]; simp
    rw [e, hk, hd]
    refine SR.run (t := .mk) ?_
    unfold arrPl boxW
    simp -dsimp only [aqT, ROp, OX, ↓seqK, ↓blkK, ↓loopK, step, stepBin, res, stepIdx, mix, PV.cells, argSlots, Nat.reduceBEq, Nat.reduceBeqDiff, Nat.add_assoc nid, Nat.reduceAdd, reduceCtorEq, ↓reduceIte, Nat.reduceLeDiff, colPV, freeOf, indep, offO, neqO, disj, namesX, axSlot, opXs, rdXs, idsOf, idsOfs, lowH, lowAll, keys, Nat.reduceBneDiff, Option.toList, ← Int.ofNat_tmod, ← Int.ofNat_tdiv, optInt, fillP, repl, chunk, mkCols, mkCol, colInts, colBools, colStrs, colLits, colsApp, Col.app, tailOf, splice, colsPut, Col.put, mmFold, eqK, Nat.reduceLT, colsPaste, Col.paste, mNew, mkKey, keyIn, mGet, mPut, Int.cast_ofNat_Int, Int.reduceBEq, Int.reduceBNe, Int.reduceLT, Int.reduceLE, Int.reduceAdd, Int.reduceSub, Int.reduceMul, Int.reduceToNat, Int.reduceNeg, Int.reduceTMod, Int.reduceEq, not_false_eq_true, Int.reducePow, Int.reduceFDiv, Nat.reducePow, Nat.reduceSub, Nat.reduceMul, Nat.min_eq_left, Nat.reduceEqDiff, BEq.rfl, Int.tdiv_one, LN_succ, a1, a2, a3, a4, a5, a6, a7, a8, a9, b1, b2, b3, b4, b5, b6, b7, b8, b9, d1, d2, d3, d4, d5, d6, d7, d8, d9, g1, g2, g3, g4, g5, g6, n1, n2, n3, m1, m2, m3]
    refine RetOK.go [] [] (.inl rfl) ?_
    simp [a51, retPV, over, keys, List.map_nil, List.map_cons, List.contains_cons, List.contains_nil, Bool.or_false, Bool.or_true, Bool.true_or, Bool.false_or, beq_self_eq_true, cond_true, cond_false, HeapCov, orNil, nilSz, onBlk, srcOf, getH_hit, getH_miss, getH.eq_1, getS_hit, getS_miss, getS.eq_1, BlkCov, PVCovs, PVCov, ColsEq, ColEq.refl, liveIds, SlotsCov, List.all_nil, List.all_cons, List.any_nil, List.any_cons, List.nil_append, List.cons_append, inRange, apart, nilBlk, idS1, idS2, readAll, readRes, onAll, step, res, AX.val, List.drop_zero, List.drop_succ_cons, List.take_succ_cons, List.take_zero, a1, a2, a3, a4, a5, a6, a7, a8, a9, b1, b2, b3, b4, b5, b6, b7, b8, b9, d1, d2, d3, d4, d5, d6, d7, d8, d9, g1, g2, g3, g4, g5, g6, n1, n2, n3, m1, m2, m3, arrPl, boxW]
  obtain ⟨i0, hi0, hi1, hi2⟩ : ∃ i, i < l.length ∧ F (l.getD i p0) = true ∧ ∀ j, j < i → F (l.getD j p0) = false := by
    cases hfi : l.findIdx? F with
    | none =>
      exfalso
      refine hnone fun j hj => ?_
      have := List.findIdx?_eq_none_iff.1 hfi (l.getD j p0) (ptMem hj)
      simpa using this
    | some i =>
      obtain ⟨h1, h2, h3⟩ := List.findIdx?_eq_some_iff_getElem.1 hfi
      refine ⟨i, h1, ?_, fun j hj => ?_⟩
      · rw [List.getD_eq_getElem?_getD, List.getElem?_eq_getElem h1]; exact h2
      · rw [List.getD_eq_getElem?_getD, List.getElem?_eq_getElem (by omega)]; simpa using h3 j hj
  have e : idxP F l = (i0 : Int) := by unfold idxP; rw [idxP_hit hi0 hi2 hi1]
  rw [e]
  have hne1 : ((i0 : Int) == -1) = false := by rw [beq_eq_false_iff_ne]; omega
  have hk0 : keepP F (l.take (i0 + 1)) = l.take i0 := by rw [(partP_skip hi0 hi1).2, keepP_all (by omega) hi2]
  have hkl0 : (keepP F (l.take (i0 + 1))).length = i0 := by rw [hk0, List.length_take]; omega
  have hp0 : partP F l (i0 + 1) = l := by unfold partP; rw [hkl0, hk0, List.take_append_drop]
  refine SR.seq ?_
  unfold arrPl boxW
  simp -dsimp only [aqT, ROp, OX, ↓seqK, ↓blkK, ↓loopK, step, stepBin, res, stepIdx, mix, PV.cells, argSlots, Nat.reduceBEq, Nat.reduceBeqDiff, Nat.add_assoc nid, Nat.reduceAdd, reduceCtorEq, ↓reduceIte, Nat.reduceLeDiff, colPV, freeOf, indep, offO, neqO, disj, namesX, axSlot, opXs, rdXs, idsOf, idsOfs, lowH, lowAll, keys, Nat.reduceBneDiff, Option.toList, ← Int.ofNat_tmod, ← Int.ofNat_tdiv, optInt, fillP, repl, chunk, mkCols, mkCol, colInts, colBools, colStrs, colLits, colsApp, Col.app, tailOf, splice, colsPut, Col.put, mmFold, eqK, Nat.reduceLT, colsPaste, Col.paste, mNew, mkKey, keyIn, mGet, mPut, Int.cast_ofNat_Int, Int.reduceBEq, Int.reduceBNe, Int.reduceLT, Int.reduceLE, Int.reduceAdd, Int.reduceSub, Int.reduceMul, Int.reduceToNat, Int.reduceNeg, Int.reduceTMod, Int.reduceEq, not_false_eq_true, Int.reducePow, Int.reduceFDiv, Nat.reducePow, Nat.reduceSub, Nat.reduceMul, Nat.min_eq_left, Nat.reduceEqDiff, BEq.rfl, Int.tdiv_one, LN_succ, a1, a2, a3, a4, a5, a6, a7, a8, a9, b1, b2, b3, b4, b5, b6, b7, b8, b9, d1, d2, d3, d4, d5, d6, d7, d8, d9, g1, g2, g3, g4, g5, g6, n1, n2, n3, m1, m2, m3, hne1]
  refine SR.seqTo ⟨[(5, .int .i64 ((keepP F l).length : Nat)), (0, .sl id 0 l.length)], [(id, arrPl (partP F l l.length)), (ia, boxW nla A), (ib, boxW nlb B)], nid + 1000, nid⟩ ?_ ?_
  · simp -dsimp only [aqT, ROp, OX, ↓seqK, ↓blkK, ↓loopK, step, stepBin, res, stepIdx, mix, PV.cells, argSlots, Nat.reduceBEq, Nat.reduceBeqDiff, Nat.add_assoc nid, Nat.reduceAdd, reduceCtorEq, ↓reduceIte, Nat.reduceLeDiff, colPV, freeOf, indep, offO, neqO, disj, namesX, axSlot, opXs, rdXs, idsOf, idsOfs, lowH, lowAll, keys, Nat.reduceBneDiff, Option.toList, ← Int.ofNat_tmod, ← Int.ofNat_tdiv, optInt, fillP, repl, chunk, mkCols, mkCol, colInts, colBools, colStrs, colLits, colsApp, Col.app, tailOf, splice, colsPut, Col.put, mmFold, eqK, Nat.reduceLT, colsPaste, Col.paste, mNew, mkKey, keyIn, mGet, mPut, Int.cast_ofNat_Int, Int.reduceBEq, Int.reduceBNe, Int.reduceLT, Int.reduceLE, Int.reduceAdd, Int.reduceSub, Int.reduceMul, Int.reduceToNat, Int.reduceNeg, Int.reduceTMod, Int.reduceEq, not_false_eq_true, Int.reducePow, Int.reduceFDiv, Nat.reducePow, Nat.reduceSub, Nat.reduceMul, Nat.min_eq_left, Nat.reduceEqDiff, BEq.rfl, Int.tdiv_one, LN_succ, a1, a2, a3, a4, a5, a6, a7, a8, a9, b1, b2, b3, b4, b5, b6, b7, b8, b9, d1, d2, d3, d4, d5, d6, d7, d8, d9, g1, g2, g3, g4, g5, g6, n1, n2, n3, m1, m2, m3]
    refine ⟨by unfold inI64; omega, ?_⟩
    refine LP.mkP (fun k : Nat => i0 + 1 ≤ k ∧ k ≤ l.length) (fun k : Nat => ⟨[(6, .int .i64 k), (5, .int .i64 ((keepP F (l.take k)).length : Nat)), (0, .sl id 0 l.length), (1, .fn f [.ptr ia 0, .ptr ib 0])], [(id, arrPl (partP F l k)), (ia, boxW nla A), (ib, boxW nlb B)], nid + 300, nid⟩) (fun k => l.length + 1 - k) (i0 + 1) ⟨Nat.le_refl _, by omega⟩ (Cov.go [] [] ?_) (fun k hk => ?_)
    · rw [hkl0, hp0]
      simp [retPV, over, keys, List.map_nil, List.map_cons, List.contains_cons, List.contains_nil, Bool.or_false, Bool.or_true, Bool.true_or, Bool.false_or, beq_self_eq_true, cond_true, cond_false, HeapCov, orNil, nilSz, onBlk, srcOf, getH_hit, getH_miss, getH.eq_1, getS_hit, getS_miss, getS.eq_1, BlkCov, PVCovs, PVCov, ColsEq, ColEq.refl, liveIds, SlotsCov, List.all_nil, List.all_cons, List.any_nil, List.any_cons, List.nil_append, List.cons_append, inRange, apart, nilBlk, idS1, idS2, readAll, readRes, onAll, step, res, AX.val, List.drop_zero, List.drop_succ_cons, List.take_succ_cons, List.take_zero, a1, a2, a3, a4, a5, a6, a7, a8, a9, b1, b2, b3, b4, b5, b6, b7, b8, b9, d1, d2, d3, d4, d5, d6, d7, d8, d9, g1, g2, g3, g4, g5, g6, n1, n2, n3, m1, m2, m3, arrPl, boxW]
    obtain ⟨hk1, hk2⟩ := hk
    have hpl := partP_len (F := F) hk2
    have hkl := keepP_len F (l.take k)
    rw [List.length_take] at hkl
    unfold arrPl boxW
    rw [hpl]
    simp -dsimp only [aqT, ROp, OX, ↓seqK, ↓blkK, ↓loopK, step, stepBin, res, stepIdx, mix, PV.cells, argSlots, Nat.reduceBEq, Nat.reduceBeqDiff, Nat.add_assoc nid, Nat.reduceAdd, reduceCtorEq, ↓reduceIte, Nat.reduceLeDiff, colPV, freeOf, indep, offO, neqO, disj, namesX, axSlot, opXs, rdXs, idsOf, idsOfs, lowH, lowAll, keys, Nat.reduceBneDiff, Option.toList, ← Int.ofNat_tmod, ← Int.ofNat_tdiv, optInt, fillP, repl, chunk, mkCols, mkCol, colInts, colBools, colStrs, colLits, colsApp, Col.app, tailOf, splice, colsPut, Col.put, mmFold, eqK, Nat.reduceLT, colsPaste, Col.paste, mNew, mkKey, keyIn, mGet, mPut, Int.cast_ofNat_Int, Int.reduceBEq, Int.reduceBNe, Int.reduceLT, Int.reduceLE, Int.reduceAdd, Int.reduceSub, Int.reduceMul, Int.reduceToNat, Int.reduceNeg, Int.reduceTMod, Int.reduceEq, not_false_eq_true, Int.reducePow, Int.reduceFDiv, Nat.reducePow, Nat.reduceSub, Nat.reduceMul, Nat.min_eq_left, Nat.reduceEqDiff, BEq.rfl, Int.tdiv_one, LN_succ, a1, a2, a3, a4, a5, a6, a7, a8, a9, b1, b2, b3, b4, b5, b6, b7, b8, b9, d1, d2, d3, d4, d5, d6, d7, d8, d9, g1, g2, g3, g4, g5, g6, n1, n2, n3, m1, m2, m3]
    refine S2.dec (fun h1 => ?_) (fun h1 => ?_) <;> simp -dsimp only [aqT, ROp, OX, ↓seqK, ↓blkK, ↓loopK, step, stepBin, res, stepIdx, mix, PV.cells, argSlots, Nat.reduceBEq, Nat.reduceBeqDiff, Nat.add_assoc nid, Nat.reduceAdd, reduceCtorEq, ↓reduceIte, Nat.reduceLeDiff, colPV, freeOf, indep, offO, neqO, disj, namesX, axSlot, opXs, rdXs, idsOf, idsOfs, lowH, lowAll, keys, Nat.reduceBneDiff, Option.toList, ← Int.ofNat_tmod, ← Int.ofNat_tdiv, optInt, fillP, repl, chunk, mkCols, mkCol, colInts, colBools, colStrs, colLits, colsApp, Col.app, tailOf, splice, colsPut, Col.put, mmFold, eqK, Nat.reduceLT, colsPaste, Col.paste, mNew, mkKey, keyIn, mGet, mPut, Int.cast_ofNat_Int, Int.reduceBEq, Int.reduceBNe, Int.reduceLT, Int.reduceLE, Int.reduceAdd, Int.reduceSub, Int.reduceMul, Int.reduceToNat, Int.reduceNeg, Int.reduceTMod, Int.reduceEq, not_false_eq_true, Int.reducePow, Int.reduceFDiv, Nat.reducePow, Nat.reduceSub, Nat.reduceMul, Nat.min_eq_left, Nat.reduceEqDiff, BEq.rfl, Int.tdiv_one, LN_succ, a1, a2, a3, a4, a5, a6, a7, a8, a9, b1, b2, b3, b4, b5, b6, b7, b8, b9, d1, d2, d3, d4, d5, d6, d7, d8, d9, g1, g2, g3, g4, g5, g6, n1, n2, n3, m1, m2, m3]
    · have hkn : k < l.length := by omega
      rw [partP_at hkn]
      refine ⟨by omega, CallO.on (hf (l.getD k p0) (ptMem hkn) _ (by omega) (by omega)) (subH_cons (by simp only [aqT, ROp, OX, ↓seqK, ↓blkK, ↓loopK, step, stepBin, res, stepIdx, mix, PV.cells, argSlots, Nat.reduceBEq, Nat.reduceBeqDiff, Nat.add_assoc nid, Nat.reduceAdd, reduceCtorEq, ↓reduceIte, Nat.reduceLeDiff, colPV, freeOf, indep, offO, neqO, disj, namesX, axSlot, opXs, rdXs, idsOf, idsOfs, lowH, lowAll, keys, Nat.reduceBneDiff, Option.toList, ← Int.ofNat_tmod, ← Int.ofNat_tdiv, optInt, fillP, repl, chunk, mkCols, mkCol, colInts, colBools, colStrs, colLits, colsApp, Col.app, tailOf, splice, colsPut, Col.put, mmFold, eqK, Nat.reduceLT, colsPaste, Col.paste, mNew, mkKey, keyIn, mGet, mPut, Int.cast_ofNat_Int, Int.reduceBEq, Int.reduceBNe, Int.reduceLT, Int.reduceLE, Int.reduceAdd, Int.reduceSub, Int.reduceMul, Int.reduceToNat, Int.reduceNeg, Int.reduceTMod, Int.reduceEq, not_false_eq_true, Int.reducePow, Int.reduceFDiv, Nat.reducePow, Nat.reduceSub, Nat.reduceMul, Nat.min_eq_left, Nat.reduceEqDiff, BEq.rfl, Int.tdiv_one, LN_succ, a1, a2, a3, a4, a5, a6, a7, a8, a9, b1, b2, b3, b4, b5, b6, b7, b8, b9, d1, d2, d3, d4, d5, d6, d7, d8, d9, g1, g2, g3, g4, g5, g6, n1, n2, n3, m1, m2, m3, boxW]) (subH_get (by simp only [aqT, ROp, OX, ↓seqK, ↓blkK, ↓loopK, step, stepBin, res, stepIdx, mix, PV.cells, argSlots, Nat.reduceBEq, Nat.reduceBeqDiff, Nat.add_assoc nid, Nat.reduceAdd, reduceCtorEq, ↓reduceIte, Nat.reduceLeDiff, colPV, freeOf, indep, offO, neqO, disj, namesX, axSlot, opXs, rdXs, idsOf, idsOfs, lowH, lowAll, keys, Nat.reduceBneDiff, Option.toList, ← Int.ofNat_tmod, ← Int.ofNat_tdiv, optInt, fillP, repl, chunk, mkCols, mkCol, colInts, colBools, colStrs, colLits, colsApp, Col.app, tailOf, splice, colsPut, Col.put, mmFold, eqK, Nat.reduceLT, colsPaste, Col.paste, mNew, mkKey, keyIn, mGet, mPut, Int.cast_ofNat_Int, Int.reduceBEq, Int.reduceBNe, Int.reduceLT, Int.reduceLE, Int.reduceAdd, Int.reduceSub, Int.reduceMul, Int.reduceToNat, Int.reduceNeg, Int.reduceTMod, Int.reduceEq, not_false_eq_true, Int.reducePow, Int.reduceFDiv, Nat.reducePow, Nat.reduceSub, Nat.reduceMul, Nat.min_eq_left, Nat.reduceEqDiff, BEq.rfl, Int.tdiv_one, LN_succ, a1, a2, a3, a4, a5, a6, a7, a8, a9, b1, b2, b3, b4, b5, b6, b7, b8, b9, d1, d2, d3, d4, d5, d6, d7, d8, d9, g1, g2, g3, g4, g5, g6, n1, n2, n3, m1, m2, m3, boxW]))) ?_⟩
      simp -dsimp only [aqT, ROp, OX, ↓seqK, ↓blkK, ↓loopK, step, stepBin, res, stepIdx, mix, PV.cells, argSlots, Nat.reduceBEq, Nat.reduceBeqDiff, Nat.add_assoc nid, Nat.reduceAdd, reduceCtorEq, ↓reduceIte, Nat.reduceLeDiff, colPV, freeOf, indep, offO, neqO, disj, namesX, axSlot, opXs, rdXs, idsOf, idsOfs, lowH, lowAll, keys, Nat.reduceBneDiff, Option.toList, ← Int.ofNat_tmod, ← Int.ofNat_tdiv, optInt, fillP, repl, chunk, mkCols, mkCol, colInts, colBools, colStrs, colLits, colsApp, Col.app, tailOf, splice, colsPut, Col.put, mmFold, eqK, Nat.reduceLT, colsPaste, Col.paste, mNew, mkKey, keyIn, mGet, mPut, Int.cast_ofNat_Int, Int.reduceBEq, Int.reduceBNe, Int.reduceLT, Int.reduceLE, Int.reduceAdd, Int.reduceSub, Int.reduceMul, Int.reduceToNat, Int.reduceNeg, Int.reduceTMod, Int.reduceEq, not_false_eq_true, Int.reducePow, Int.reduceFDiv, Nat.reducePow, Nat.reduceSub, Nat.reduceMul, Nat.min_eq_left, Nat.reduceEqDiff, BEq.rfl, Int.tdiv_one, LN_succ, a1, a2, a3, a4, a5, a6, a7, a8, a9, b1, b2, b3, b4, b5, b6, b7, b8, b9, d1, d2, d3, d4, d5, d6, d7, d8, d9, g1, g2, g3, g4, g5, g6, n1, n2, n3, m1, m2, m3]
      cases hF : F (l.getD k p0) <;> simp -dsimp only [aqT, ROp, OX, ↓seqK, ↓blkK, ↓loopK, step, stepBin, res, stepIdx, mix, PV.cells, argSlots, Nat.reduceBEq, Nat.reduceBeqDiff, Nat.add_assoc nid, Nat.reduceAdd, reduceCtorEq, ↓reduceIte, Nat.reduceLeDiff, colPV, freeOf, indep, offO, neqO, disj, namesX, axSlot, opXs, rdXs, idsOf, idsOfs, lowH, lowAll, keys, Nat.reduceBneDiff, Option.toList, ← Int.ofNat_tmod, ← Int.ofNat_tdiv, optInt, fillP, repl, chunk, mkCols, mkCol, colInts, colBools, colStrs, colLits, colsApp, Col.app, tailOf, splice, colsPut, Col.put, mmFold, eqK, Nat.reduceLT, colsPaste, Col.paste, mNew, mkKey, keyIn, mGet, mPut, Int.cast_ofNat_Int, Int.reduceBEq, Int.reduceBNe, Int.reduceLT, Int.reduceLE, Int.reduceAdd, Int.reduceSub, Int.reduceMul, Int.reduceToNat, Int.reduceNeg, Int.reduceTMod, Int.reduceEq, not_false_eq_true, Int.reducePow, Int.reduceFDiv, Nat.reducePow, Nat.reduceSub, Nat.reduceMul, Nat.min_eq_left, Nat.reduceEqDiff, BEq.rfl, Int.tdiv_one, LN_succ, a1, a2, a3, a4, a5, a6, a7, a8, a9, b1, b2, b3, b4, b5, b6, b7, b8, b9, d1, d2, d3, d4, d5, d6, d7, d8, d9, g1, g2, g3, g4, g5, g6, n1, n2, n3, m1, m2, m3]
      · obtain ⟨q1, q2⟩ := partP_set hkn hF
        rw [getD_setP (partP F l k) (l.getD k p0) (by omega) (fun p => p.1) rfl, getD_setP (partP F l k) (l.getD k p0) (by omega) (fun p => p.2) rfl, q1]
        refine ⟨by omega, by unfold inI64; omega, by unfold inI64; omega, k + 1, ⟨⟨by omega, by omega⟩, by omega⟩, Cov.go [] [] ?_⟩
        rw [q2]
        simp [retPV, over, keys, List.map_nil, List.map_cons, List.contains_cons, List.contains_nil, Bool.or_false, Bool.or_true, Bool.true_or, Bool.false_or, beq_self_eq_true, cond_true, cond_false, HeapCov, orNil, nilSz, onBlk, srcOf, getH_hit, getH_miss, getH.eq_1, getS_hit, getS_miss, getS.eq_1, BlkCov, PVCovs, PVCov, ColsEq, ColEq.refl, liveIds, SlotsCov, List.all_nil, List.all_cons, List.any_nil, List.any_cons, List.nil_append, List.cons_append, inRange, apart, nilBlk, idS1, idS2, readAll, readRes, onAll, step, res, AX.val, List.drop_zero, List.drop_succ_cons, List.take_succ_cons, List.take_zero, a1, a2, a3, a4, a5, a6, a7, a8, a9, b1, b2, b3, b4, b5, b6, b7, b8, b9, d1, d2, d3, d4, d5, d6, d7, d8, d9, g1, g2, g3, g4, g5, g6, n1, n2, n3, m1, m2, m3, arrPl, boxW, partP_len (F := F) (l := l) (k := k + 1) (by omega), -List.getD_eq_getElem?_getD]
      · obtain ⟨q1, q2⟩ := partP_skip hkn hF
        refine ⟨by unfold inI64; omega, k + 1, ⟨⟨by omega, by omega⟩, by omega⟩, Cov.go [] [] ?_⟩
        rw [q1, q2]
        simp [retPV, over, keys, List.map_nil, List.map_cons, List.contains_cons, List.contains_nil, Bool.or_false, Bool.or_true, Bool.true_or, Bool.false_or, beq_self_eq_true, cond_true, cond_false, HeapCov, orNil, nilSz, onBlk, srcOf, getH_hit, getH_miss, getH.eq_1, getS_hit, getS_miss, getS.eq_1, BlkCov, PVCovs, PVCov, ColsEq, ColEq.refl, liveIds, SlotsCov, List.all_nil, List.all_cons, List.any_nil, List.any_cons, List.nil_append, List.cons_append, inRange, apart, nilBlk, idS1, idS2, readAll, readRes, onAll, step, res, AX.val, List.drop_zero, List.drop_succ_cons, List.take_succ_cons, List.take_zero, a1, a2, a3, a4, a5, a6, a7, a8, a9, b1, b2, b3, b4, b5, b6, b7, b8, b9, d1, d2, d3, d4, d5, d6, d7, d8, d9, g1, g2, g3, g4, g5, g6, n1, n2, n3, m1, m2, m3, arrPl, boxW, hpl, -List.getD_eq_getElem?_getD]
    · have hkn : k = l.length := by omega
      subst hkn
      rw [List.take_length]
      refine Cov.go [] [] ?_
      simp [retPV, over, keys, List.map_nil, List.map_cons, List.contains_cons, List.contains_nil, Bool.or_false, Bool.or_true, Bool.true_or, Bool.false_or, beq_self_eq_true, cond_true, cond_false, HeapCov, orNil, nilSz, onBlk, srcOf, getH_hit, getH_miss, getH.eq_1, getS_hit, getS_miss, getS.eq_1, BlkCov, PVCovs, PVCov, ColsEq, ColEq.refl, liveIds, SlotsCov, List.all_nil, List.all_cons, List.any_nil, List.any_cons, List.nil_append, List.cons_append, inRange, apart, nilBlk, idS1, idS2, readAll, readRes, onAll, step, res, AX.val, List.drop_zero, List.drop_succ_cons, List.take_succ_cons, List.take_zero, a1, a2, a3, a4, a5, a6, a7, a8, a9, b1, b2, b3, b4, b5, b6, b7, b8, b9, d1, d2, d3, d4, d5, d6, d7, d8, d9, g1, g2, g3, g4, g5, g6, n1, n2, n3, m1, m2, m3, arrPl, boxW, hpl, -List.getD_eq_getElem?_getD]
  have hpl := partP_len (F := F) (l := l) (Nat.le_refl _)
  have hkl := keepP_len F l
  unfold arrPl boxW
  rw [hpl]
  refine SR.run (t := .mk) ?_
  simp -dsimp only [aqT, ROp, OX, ↓seqK, ↓blkK, ↓loopK, step, stepBin, res, stepIdx, mix, PV.cells, argSlots, Nat.reduceBEq, Nat.reduceBeqDiff, Nat.add_assoc nid, Nat.reduceAdd, reduceCtorEq, ↓reduceIte, Nat.reduceLeDiff, colPV, freeOf, indep, offO, neqO, disj, namesX, axSlot, opXs, rdXs, idsOf, idsOfs, lowH, lowAll, keys, Nat.reduceBneDiff, Option.toList, ← Int.ofNat_tmod, ← Int.ofNat_tdiv, optInt, fillP, repl, chunk, mkCols, mkCol, colInts, colBools, colStrs, colLits, colsApp, Col.app, tailOf, splice, colsPut, Col.put, mmFold, eqK, Nat.reduceLT, colsPaste, Col.paste, mNew, mkKey, keyIn, mGet, mPut, Int.cast_ofNat_Int, Int.reduceBEq, Int.reduceBNe, Int.reduceLT, Int.reduceLE, Int.reduceAdd, Int.reduceSub, Int.reduceMul, Int.reduceToNat, Int.reduceNeg, Int.reduceTMod, Int.reduceEq, not_false_eq_true, Int.reducePow, Int.reduceFDiv, Nat.reducePow, Nat.reduceSub, Nat.reduceMul, Nat.min_eq_left, Nat.reduceEqDiff, BEq.rfl, Int.tdiv_one, LN_succ, a1, a2, a3, a4, a5, a6, a7, a8, a9, b1, b2, b3, b4, b5, b6, b7, b8, b9, d1, d2, d3, d4, d5, d6, d7, d8, d9, g1, g2, g3, g4, g5, g6, n1, n2, n3, m1, m2, m3, Col.const]
  have hlt : (keepP F l).length < l.length := by
    have e1 : keepP F l = keepP F (l.take (i0 + 1)) ++ keepP F (l.drop (i0 + 1)) := by
      unfold keepP
      rw [← List.filter_append, List.take_append_drop]
    have e2 := keepP_len F (l.drop (i0 + 1))
    rw [List.length_drop] at e2
    rw [e1, List.length_append, hkl0]
    omega
  refine ⟨⟨by omega, by omega⟩, by omega, ⟨by omega, by omega⟩, ?_⟩
  refine RetOK.go [] [] (.inl rfl) ?_
  simp [a51, retPV, over, keys, List.map_nil, List.map_cons, List.contains_cons, List.contains_nil, Bool.or_false, Bool.or_true, Bool.true_or, Bool.false_or, beq_self_eq_true, cond_true, cond_false, HeapCov, orNil, nilSz, onBlk, srcOf, getH_hit, getH_miss, getH.eq_1, getS_hit, getS_miss, getS.eq_1, BlkCov, PVCovs, PVCov, ColsEq, ColEq.refl, liveIds, SlotsCov, List.all_nil, List.all_cons, List.any_nil, List.any_cons, List.nil_append, List.cons_append, inRange, apart, nilBlk, idS1, idS2, readAll, readRes, onAll, step, res, AX.val, List.drop_zero, List.drop_succ_cons, List.take_succ_cons, List.take_zero, a1, a2, a3, a4, a5, a6, a7, a8, a9, b1, b2, b3, b4, b5, b6, b7, b8, b9, d1, d2, d3, d4, d5, d6, d7, d8, d9, g1, g2, g3, g4, g5, g6, n1, n2, n3, m1, m2, m3, arrPl, boxW, doneP_len, -List.getD_eq_getElem?_getD]
  exact ⟨ColEq.i (doneP_at (fun p => p.1) rfl), ColEq.i (doneP_at (fun p => p.2) rfl)⟩
end Go.Proofs.YtmgfcjblclanmaaDoor
/-
  A wafer with each place made anew out of another one's, by the abstract machine.
-/
namespace Go.Proofs.YtmgfcjblclanmaaDoor
open Go.RowKit
set_option linter.unusedVariables false
set_option linter.unusedSimpArgs false
set_option maxRecDepth 100000
def okTo (R T : List (List UInt8)) (y : Nat) : Bool := ((List.zipWith okR R T).take y).all id
def okAt (r t : List UInt8) (x : Nat) : Bool := ((List.zipWith mergeO r t).take x).all id
theorem okTo_succ {R T : List (List UInt8)} {y : Nat} (h1 : y < R.length) (h2 : y < T.length) : okTo R T (y + 1) = (okTo R T y && okR (R.getD y []) (T.getD y [])) := by
  unfold okTo
  rw [zip_take okR [] [] h1 h2, List.all_append]
  simp
theorem okAt_succ {r t : List UInt8} {x : Nat} (h1 : x < r.length) (h2 : x < t.length) : okAt r t (x + 1) = (okAt r t x && mergeO (r.getD x 0) (t.getD x 0)) := by
  unfold okAt
  rw [zip_take mergeO 0 0 h1 h2, List.all_append]
  simp
theorem okAt_all {r t : List UInt8} (h : r.length = t.length) : okAt r t r.length = okR r t := by
  unfold okAt okR
  rw [List.take_of_length_le (by rw [zip_len _ h]; omega)]
theorem okTo_all {R T : List (List UInt8)} (h : R.length = T.length) : okTo R T R.length = okRs R T := by
  unfold okTo okRs
  rw [List.take_of_length_le (by rw [zip_len _ h]; omega)]
theorem mergeRs_take {R T : List (List UInt8)} {y : Nat} (h1 : y < R.length) (h2 : y < T.length) : (mergeRs R T).take (y + 1) = (mergeRs R T).take y ++ [mergeR (R.getD y []) (T.getD y [])] := zip_take mergeR [] [] h1 h2
theorem setD_byte {l : List UInt8} {k : Nat} (hk : k < l.length) (b : UInt8) : (fun j => if j = k then ((b.toNat : Nat) : Int) else (((l.getD j 0).toNat : Nat) : Int)) = fun j => ((((l.set k b).getD j 0).toNat : Nat) : Int) := by
  funext j
  simp only [List.getD_eq_getElem?_getD, List.getElem?_set]
  by_cases h : j = k
  · subst h; simp [hk]
  · rw [if_neg h, if_neg (fun e => h e.symm)]
theorem bytes_back2 {l : List UInt8} {n : Nat} (h : l.length = n) : (List.range n).map (fun i => UInt8.ofNat (l.getD i 0).toNat) = l := by
  subst h
  apply List.ext_getElem
  · simp
  · intro i h1 h2
    simp [List.getElem?_eq_getElem h2]
set_option maxHeartbeats 8000000 in
theorem changedMerge_c (ib io : Nat) (nl nlb : Bool) (A B : Waf) (nid : Nat) (hib : ib < nid) (hio : io < nid) (hne : ib ≠ io) (hA : WafOk A) (hB : WafOk B) (hr : A.rows.length = B.rows.length) (hw : wideOf A = wideOf B) :
    ACall Tryd.prog 37 [wafP nl A, .fn 49 [.ptr ib 0, .ptr io 0]] [(ib, boxW nlb B), (io, boxB true)] nid (.agg [.sl nid 0 A.rows.length, .str A.pass]) [(ib, boxW nlb B), (io, boxB (okRs A.rows B.rows)), (nid, arrS (mergeRs A.rows B.rows))] := by
  have hl := hA.len
  have hww := hA.wide.2
  obtain ⟨a1, a2, a3, a4, a5, a6, a7, a8, a9⟩ := id_all hib
  obtain ⟨b1, b2, b3, b4, b5, b6, b7, b8, b9⟩ := id_all hio
  have c1 : (ib == io) = false := by simpa using hne
  have c2 : (io == ib) = false := by simpa using fun h => hne h.symm
  have c3 : ¬ io = ib := fun h => hne h.symm
  have hml : (mergeRs A.rows B.rows).length = A.rows.length := zip_len _ hr
  refine acall_run c37 (by simp [a37]) ?_
  unfold wafP boxW boxB
  simp -dsimp only [a37, aqT, ROp, OX, ↓seqK, ↓blkK, ↓loopK, step, stepBin, res, stepIdx, mix, PV.cells, argSlots, Nat.reduceBEq, Nat.reduceBeqDiff, Nat.add_assoc nid, Nat.reduceAdd, reduceCtorEq, ↓reduceIte, Nat.reduceLeDiff, colPV, freeOf, indep, offO, neqO, disj, namesX, axSlot, opXs, rdXs, idsOf, idsOfs, lowH, lowAll, keys, Nat.reduceBneDiff, Option.toList, ← Int.ofNat_tmod, ← Int.ofNat_tdiv, optInt, fillP, repl, chunk, mkCols, mkCol, colInts, colBools, colStrs, colLits, colsApp, Col.app, tailOf, splice, colsPut, Col.put, mmFold, eqK, Nat.reduceLT, colsPaste, Col.paste, mNew, mkKey, keyIn, mGet, mPut, Int.cast_ofNat_Int, Int.reduceBEq, Int.reduceBNe, Int.reduceLT, Int.reduceLE, Int.reduceAdd, Int.reduceSub, Int.reduceMul, Int.reduceToNat, Int.reduceNeg, Int.reduceTMod, Int.reduceEq, not_false_eq_true, Int.reducePow, Int.reduceFDiv, Nat.reducePow, Nat.reduceSub, Nat.reduceMul, Nat.min_eq_left, Nat.reduceEqDiff, BEq.rfl, Int.tdiv_one, LN_succ, a1, a2, a3, a4, a5, a6, a7, a8, a9, b1, b2, b3, b4, b5, b6, b7, b8, b9, c1, c2, c3, hne]
  refine LP.mkP (fun y : Nat => y ≤ A.rows.length) (fun y : Nat => ⟨[(16, .int .i64 y), (15, .int .i64 A.rows.length), (14, .lit nl A.rows.length [.s fun i => A.rows.getD i []]), (1, .fn 49 [.ptr ib 0, .ptr io 0]), (5, .ptr (nid + 20) 0), (4, .ptr (nid + 4) 0)],
    [(ib, boxW nlb B), (io, boxB (okTo A.rows B.rows y)), (nid + 4, some (.box 28 [.lit true 0 [], .str []])), (nid + 20, some (.box 28 [.sl (nid + 8) 0 y, .str A.pass])), (nid + 8, some (.arr 9 y [.s fun i => ((mergeRs A.rows B.rows).take y).getD i []]))], nid + 200, nid⟩) (fun y => A.rows.length + 1 - y) 0 (by omega) (Cov.go [] [(nid + 8, 1)] ?_) (fun y hy => ?_)
  · simp [retPV, over, keys, List.map_nil, List.map_cons, List.contains_cons, List.contains_nil, Bool.or_false, Bool.or_true, Bool.true_or, Bool.false_or, beq_self_eq_true, cond_true, cond_false, HeapCov, orNil, nilSz, onBlk, srcOf, getH_hit, getH_miss, getH.eq_1, getS_hit, getS_miss, getS.eq_1, BlkCov, PVCovs, PVCov, ColsEq, ColEq.refl, liveIds, SlotsCov, List.all_nil, List.all_cons, List.any_nil, List.any_cons, List.nil_append, List.cons_append, inRange, apart, nilBlk, idS1, idS2, readAll, readRes, onAll, step, res, AX.val, List.drop_zero, List.drop_succ_cons, List.take_succ_cons, List.take_zero, a1, a2, a3, a4, a5, a6, a7, a8, a9, b1, b2, b3, b4, b5, b6, b7, b8, b9, c1, c2, c3, hne, boxW, boxB, okTo]
  unfold boxW boxB
  simp -dsimp only [aqT, ROp, OX, ↓seqK, ↓blkK, ↓loopK, step, stepBin, res, stepIdx, mix, PV.cells, argSlots, Nat.reduceBEq, Nat.reduceBeqDiff, Nat.add_assoc nid, Nat.reduceAdd, reduceCtorEq, ↓reduceIte, Nat.reduceLeDiff, colPV, freeOf, indep, offO, neqO, disj, namesX, axSlot, opXs, rdXs, idsOf, idsOfs, lowH, lowAll, keys, Nat.reduceBneDiff, Option.toList, ← Int.ofNat_tmod, ← Int.ofNat_tdiv, optInt, fillP, repl, chunk, mkCols, mkCol, colInts, colBools, colStrs, colLits, colsApp, Col.app, tailOf, splice, colsPut, Col.put, mmFold, eqK, Nat.reduceLT, colsPaste, Col.paste, mNew, mkKey, keyIn, mGet, mPut, Int.cast_ofNat_Int, Int.reduceBEq, Int.reduceBNe, Int.reduceLT, Int.reduceLE, Int.reduceAdd, Int.reduceSub, Int.reduceMul, Int.reduceToNat, Int.reduceNeg, Int.reduceTMod, Int.reduceEq, not_false_eq_true, Int.reducePow, Int.reduceFDiv, Nat.reducePow, Nat.reduceSub, Nat.reduceMul, Nat.min_eq_left, Nat.reduceEqDiff, BEq.rfl, Int.tdiv_one, LN_succ, a1, a2, a3, a4, a5, a6, a7, a8, a9, b1, b2, b3, b4, b5, b6, b7, b8, b9, c1, c2, c3, hne]
  refine S2.dec (fun h1 => ?_) (fun h1 => ?_) <;> simp -dsimp only [aqT, ROp, OX, ↓seqK, ↓blkK, ↓loopK, step, stepBin, res, stepIdx, mix, PV.cells, argSlots, Nat.reduceBEq, Nat.reduceBeqDiff, Nat.add_assoc nid, Nat.reduceAdd, reduceCtorEq, ↓reduceIte, Nat.reduceLeDiff, colPV, freeOf, indep, offO, neqO, disj, namesX, axSlot, opXs, rdXs, idsOf, idsOfs, lowH, lowAll, keys, Nat.reduceBneDiff, Option.toList, ← Int.ofNat_tmod, ← Int.ofNat_tdiv, optInt, fillP, repl, chunk, mkCols, mkCol, colInts, colBools, colStrs, colLits, colsApp, Col.app, tailOf, splice, colsPut, Col.put, mmFold, eqK, Nat.reduceLT, colsPaste, Col.paste, mNew, mkKey, keyIn, mGet, mPut, Int.cast_ofNat_Int, Int.reduceBEq, Int.reduceBNe, Int.reduceLT, Int.reduceLE, Int.reduceAdd, Int.reduceSub, Int.reduceMul, Int.reduceToNat, Int.reduceNeg, Int.reduceTMod, Int.reduceEq, not_false_eq_true, Int.reducePow, Int.reduceFDiv, Nat.reducePow, Nat.reduceSub, Nat.reduceMul, Nat.min_eq_left, Nat.reduceEqDiff, BEq.rfl, Int.tdiv_one, LN_succ, a1, a2, a3, a4, a5, a6, a7, a8, a9, b1, b2, b3, b4, b5, b6, b7, b8, b9, c1, c2, c3, hne]
  · have hyl : y < A.rows.length := by omega
    have hra := (hA.at hyl).1
    have hrb := (hB.at (y := y) (by omega)).1
    have hok := okTo_succ hyl (T := B.rows) (by omega)
    have hmt := mergeRs_take (R := A.rows) (T := B.rows) hyl (by omega)
    have hmtl : ((mergeRs A.rows B.rows).take y).length = y := by rw [List.length_take]; omega
    have hdie : ∀ x : Nat, dieB B x y = (B.rows.getD y []).getD x 0 := fun x => rfl
    have hyB : y < B.rows.length := by omega
    generalize hAr : A.rows.getD y [] = r at *
    generalize hBt : B.rows.getD y [] = t at *
    have hrt : r.length = t.length := by rw [hra, hrb, hw]
    refine ⟨by omega, by omega, ?_⟩
    refine LP.mkP (fun x : Nat => x ≤ r.length) (fun x : Nat => ⟨[(25, .int .i64 x), (24, .int .i64 r.length), (8, .sl (nid + 228) 0 r.length), (6, .int .i64 y), (16, .int .i64 y), (15, .int .i64 A.rows.length), (14, .lit nl A.rows.length [.s fun i => A.rows.getD i []]), (1, .fn 49 [.ptr ib 0, .ptr io 0]), (5, .ptr (nid + 20) 0), (4, .ptr (nid + 4) 0)],
      [(ib, boxW nlb B), (io, boxB (okTo A.rows B.rows y && okAt r t x)), (nid + 4, some (.box 28 [.lit true 0 [], .str []])), (nid + 20, some (.box 28 [.sl (nid + 8) 0 y, .str A.pass])), (nid + 8, some (.arr 9 y [.s fun i => ((mergeRs A.rows B.rows).take y).getD i []])),
       (nid + 228, some (.arr 4294967295 r.length [.i .u8 fun i => (((rowTo r t x).getD i 0).toNat : Nat)]))], nid + 400, nid⟩) (fun x => r.length + 1 - x) 0 (by omega) (Cov.go [] [] ?_) (fun x hx => ?_)
    · simp [retPV, over, keys, List.map_nil, List.map_cons, List.contains_cons, List.contains_nil, Bool.or_false, Bool.or_true, Bool.true_or, Bool.false_or, beq_self_eq_true, cond_true, cond_false, HeapCov, orNil, nilSz, onBlk, srcOf, getH_hit, getH_miss, getH.eq_1, getS_hit, getS_miss, getS.eq_1, BlkCov, PVCovs, PVCov, ColsEq, ColEq.refl, liveIds, SlotsCov, List.all_nil, List.all_cons, List.any_nil, List.any_cons, List.nil_append, List.cons_append, inRange, apart, nilBlk, idS1, idS2, readAll, readRes, onAll, step, res, AX.val, List.drop_zero, List.drop_succ_cons, List.take_succ_cons, List.take_zero, a1, a2, a3, a4, a5, a6, a7, a8, a9, b1, b2, b3, b4, b5, b6, b7, b8, b9, c1, c2, c3, hne, boxW, boxB, okAt, rowTo, -List.getD_eq_getElem?_getD]
    unfold boxW boxB
    have hrl := rowTo_len hrt x
    have hra2 := rowTo_at hrt (k := x)
    have hrs := rowTo_set hrt (k := x)
    have hoa := okAt_succ (r := r) (t := t) (x := x)
    generalize hq : rowTo r t x = q at *
    simp -dsimp only [aqT, ROp, OX, ↓seqK, ↓blkK, ↓loopK, step, stepBin, res, stepIdx, mix, PV.cells, argSlots, Nat.reduceBEq, Nat.reduceBeqDiff, Nat.add_assoc nid, Nat.reduceAdd, reduceCtorEq, ↓reduceIte, Nat.reduceLeDiff, colPV, freeOf, indep, offO, neqO, disj, namesX, axSlot, opXs, rdXs, idsOf, idsOfs, lowH, lowAll, keys, Nat.reduceBneDiff, Option.toList, ← Int.ofNat_tmod, ← Int.ofNat_tdiv, optInt, fillP, repl, chunk, mkCols, mkCol, colInts, colBools, colStrs, colLits, colsApp, Col.app, tailOf, splice, colsPut, Col.put, mmFold, eqK, Nat.reduceLT, colsPaste, Col.paste, mNew, mkKey, keyIn, mGet, mPut, Int.cast_ofNat_Int, Int.reduceBEq, Int.reduceBNe, Int.reduceLT, Int.reduceLE, Int.reduceAdd, Int.reduceSub, Int.reduceMul, Int.reduceToNat, Int.reduceNeg, Int.reduceTMod, Int.reduceEq, not_false_eq_true, Int.reducePow, Int.reduceFDiv, Nat.reducePow, Nat.reduceSub, Nat.reduceMul, Nat.min_eq_left, Nat.reduceEqDiff, BEq.rfl, Int.tdiv_one, LN_succ, a1, a2, a3, a4, a5, a6, a7, a8, a9, b1, b2, b3, b4, b5, b6, b7, b8, b9, c1, c2, c3, hne]
    refine S2.dec (fun h2 => ?_) (fun h2 => ?_) <;> simp -dsimp only [aqT, ROp, OX, ↓seqK, ↓blkK, ↓loopK, step, stepBin, res, stepIdx, mix, PV.cells, argSlots, Nat.reduceBEq, Nat.reduceBeqDiff, Nat.add_assoc nid, Nat.reduceAdd, reduceCtorEq, ↓reduceIte, Nat.reduceLeDiff, colPV, freeOf, indep, offO, neqO, disj, namesX, axSlot, opXs, rdXs, idsOf, idsOfs, lowH, lowAll, keys, Nat.reduceBneDiff, Option.toList, ← Int.ofNat_tmod, ← Int.ofNat_tdiv, optInt, fillP, repl, chunk, mkCols, mkCol, colInts, colBools, colStrs, colLits, colsApp, Col.app, tailOf, splice, colsPut, Col.put, mmFold, eqK, Nat.reduceLT, colsPaste, Col.paste, mNew, mkKey, keyIn, mGet, mPut, Int.cast_ofNat_Int, Int.reduceBEq, Int.reduceBNe, Int.reduceLT, Int.reduceLE, Int.reduceAdd, Int.reduceSub, Int.reduceMul, Int.reduceToNat, Int.reduceNeg, Int.reduceTMod, Int.reduceEq, not_false_eq_true, Int.reducePow, Int.reduceFDiv, Nat.reducePow, Nat.reduceSub, Nat.reduceMul, Nat.min_eq_left, Nat.reduceEqDiff, BEq.rfl, Int.tdiv_one, LN_succ, a1, a2, a3, a4, a5, a6, a7, a8, a9, b1, b2, b3, b4, b5, b6, b7, b8, b9, c1, c2, c3, hne]
    · have hxl : x < r.length := by omega
      rw [hra2 hxl]
      refine ⟨by omega, CallO.on (mergeF_c ib io nlb B x y (r.getD x 0) (okTo A.rows B.rows y && okAt r t x) _ (by omega) (by omega) hne hB hyB (by omega)) (subH_cons (by simp only [aqT, ROp, OX, ↓seqK, ↓blkK, ↓loopK, step, stepBin, res, stepIdx, mix, PV.cells, argSlots, Nat.reduceBEq, Nat.reduceBeqDiff, Nat.add_assoc nid, Nat.reduceAdd, reduceCtorEq, ↓reduceIte, Nat.reduceLeDiff, colPV, freeOf, indep, offO, neqO, disj, namesX, axSlot, opXs, rdXs, idsOf, idsOfs, lowH, lowAll, keys, Nat.reduceBneDiff, Option.toList, ← Int.ofNat_tmod, ← Int.ofNat_tdiv, optInt, fillP, repl, chunk, mkCols, mkCol, colInts, colBools, colStrs, colLits, colsApp, Col.app, tailOf, splice, colsPut, Col.put, mmFold, eqK, Nat.reduceLT, colsPaste, Col.paste, mNew, mkKey, keyIn, mGet, mPut, Int.cast_ofNat_Int, Int.reduceBEq, Int.reduceBNe, Int.reduceLT, Int.reduceLE, Int.reduceAdd, Int.reduceSub, Int.reduceMul, Int.reduceToNat, Int.reduceNeg, Int.reduceTMod, Int.reduceEq, not_false_eq_true, Int.reducePow, Int.reduceFDiv, Nat.reducePow, Nat.reduceSub, Nat.reduceMul, Nat.min_eq_left, Nat.reduceEqDiff, BEq.rfl, Int.tdiv_one, LN_succ, a1, a2, a3, a4, a5, a6, a7, a8, a9, b1, b2, b3, b4, b5, b6, b7, b8, b9, c1, c2, c3, hne, boxW]) (subH_get (by simp only [aqT, ROp, OX, ↓seqK, ↓blkK, ↓loopK, step, stepBin, res, stepIdx, mix, PV.cells, argSlots, Nat.reduceBEq, Nat.reduceBeqDiff, Nat.add_assoc nid, Nat.reduceAdd, reduceCtorEq, ↓reduceIte, Nat.reduceLeDiff, colPV, freeOf, indep, offO, neqO, disj, namesX, axSlot, opXs, rdXs, idsOf, idsOfs, lowH, lowAll, keys, Nat.reduceBneDiff, Option.toList, ← Int.ofNat_tmod, ← Int.ofNat_tdiv, optInt, fillP, repl, chunk, mkCols, mkCol, colInts, colBools, colStrs, colLits, colsApp, Col.app, tailOf, splice, colsPut, Col.put, mmFold, eqK, Nat.reduceLT, colsPaste, Col.paste, mNew, mkKey, keyIn, mGet, mPut, Int.cast_ofNat_Int, Int.reduceBEq, Int.reduceBNe, Int.reduceLT, Int.reduceLE, Int.reduceAdd, Int.reduceSub, Int.reduceMul, Int.reduceToNat, Int.reduceNeg, Int.reduceTMod, Int.reduceEq, not_false_eq_true, Int.reducePow, Int.reduceFDiv, Nat.reducePow, Nat.reduceSub, Nat.reduceMul, Nat.min_eq_left, Nat.reduceEqDiff, BEq.rfl, Int.tdiv_one, LN_succ, a1, a2, a3, a4, a5, a6, a7, a8, a9, b1, b2, b3, b4, b5, b6, b7, b8, b9, c1, c2, c3, hne, boxB]))) ?_⟩
      rw [hdie x]
      unfold boxW boxB
      simp -dsimp only [aqT, ROp, OX, ↓seqK, ↓blkK, ↓loopK, step, stepBin, res, stepIdx, mix, PV.cells, argSlots, Nat.reduceBEq, Nat.reduceBeqDiff, Nat.add_assoc nid, Nat.reduceAdd, reduceCtorEq, ↓reduceIte, Nat.reduceLeDiff, colPV, freeOf, indep, offO, neqO, disj, namesX, axSlot, opXs, rdXs, idsOf, idsOfs, lowH, lowAll, keys, Nat.reduceBneDiff, Option.toList, ← Int.ofNat_tmod, ← Int.ofNat_tdiv, optInt, fillP, repl, chunk, mkCols, mkCol, colInts, colBools, colStrs, colLits, colsApp, Col.app, tailOf, splice, colsPut, Col.put, mmFold, eqK, Nat.reduceLT, colsPaste, Col.paste, mNew, mkKey, keyIn, mGet, mPut, Int.cast_ofNat_Int, Int.reduceBEq, Int.reduceBNe, Int.reduceLT, Int.reduceLE, Int.reduceAdd, Int.reduceSub, Int.reduceMul, Int.reduceToNat, Int.reduceNeg, Int.reduceTMod, Int.reduceEq, not_false_eq_true, Int.reducePow, Int.reduceFDiv, Nat.reducePow, Nat.reduceSub, Nat.reduceMul, Nat.min_eq_left, Nat.reduceEqDiff, BEq.rfl, Int.tdiv_one, LN_succ, a1, a2, a3, a4, a5, a6, a7, a8, a9, b1, b2, b3, b4, b5, b6, b7, b8, b9, c1, c2, c3, hne]
      rw [setD_byte (by omega : x < q.length), hrs hxl, Bool.and_assoc, ← hoa hxl (by omega)]
      refine ⟨by omega, by unfold inI64; omega, x + 1, ⟨by omega, by omega⟩, Cov.go [] [] ?_⟩
      simp [retPV, over, keys, List.map_nil, List.map_cons, List.contains_cons, List.contains_nil, Bool.or_false, Bool.or_true, Bool.true_or, Bool.false_or, beq_self_eq_true, cond_true, cond_false, HeapCov, orNil, nilSz, onBlk, srcOf, getH_hit, getH_miss, getH.eq_1, getS_hit, getS_miss, getS.eq_1, BlkCov, PVCovs, PVCov, ColsEq, ColEq.refl, liveIds, SlotsCov, List.all_nil, List.all_cons, List.any_nil, List.any_cons, List.nil_append, List.cons_append, inRange, apart, nilBlk, idS1, idS2, readAll, readRes, onAll, step, res, AX.val, List.drop_zero, List.drop_succ_cons, List.take_succ_cons, List.take_zero, a1, a2, a3, a4, a5, a6, a7, a8, a9, b1, b2, b3, b4, b5, b6, b7, b8, b9, c1, c2, c3, hne, boxW, boxB, -List.getD_eq_getElem?_getD]
    · have hxr : x = r.length := by omega
      subst hxr
      rw [rowTo_all hrt] at hq
      subst hq
      rw [okAt_all hrt, ← hok]
      rw [bytes_back2 hrl, getD_app1 _ _ hmtl, ← hmt]
      refine ⟨⟨by omega, by omega⟩, by unfold inI64; omega, y + 1, ⟨by omega, by omega⟩, Cov.go [(nid + 8, nid + 424)] [] ?_⟩
      simp [retPV, over, keys, List.map_nil, List.map_cons, List.contains_cons, List.contains_nil, Bool.or_false, Bool.or_true, Bool.true_or, Bool.false_or, beq_self_eq_true, cond_true, cond_false, HeapCov, orNil, nilSz, onBlk, srcOf, getH_hit, getH_miss, getH.eq_1, getS_hit, getS_miss, getS.eq_1, BlkCov, PVCovs, PVCov, ColsEq, ColEq.refl, liveIds, SlotsCov, List.all_nil, List.all_cons, List.any_nil, List.any_cons, List.nil_append, List.cons_append, inRange, apart, nilBlk, idS1, idS2, readAll, readRes, onAll, step, res, AX.val, List.drop_zero, List.drop_succ_cons, List.take_succ_cons, List.take_zero, a1, a2, a3, a4, a5, a6, a7, a8, a9, b1, b2, b3, b4, b5, b6, b7, b8, b9, c1, c2, c3, hne, boxW, boxB, -List.getD_eq_getElem?_getD]
  · have hyn : y = A.rows.length := by omega
    subst hyn
    rw [okTo_all hr, List.take_of_length_le (by omega)]
    refine RetOK.go [(nid, nid + 8)] [] (.inl rfl) ?_
    simp [retPV, over, keys, List.map_nil, List.map_cons, List.contains_cons, List.contains_nil, Bool.or_false, Bool.or_true, Bool.true_or, Bool.false_or, beq_self_eq_true, cond_true, cond_false, HeapCov, orNil, nilSz, onBlk, srcOf, getH_hit, getH_miss, getH.eq_1, getS_hit, getS_miss, getS.eq_1, BlkCov, PVCovs, PVCov, ColsEq, ColEq.refl, liveIds, SlotsCov, List.all_nil, List.all_cons, List.any_nil, List.any_cons, List.nil_append, List.cons_append, inRange, apart, nilBlk, idS1, idS2, readAll, readRes, onAll, step, res, AX.val, List.drop_zero, List.drop_succ_cons, List.take_succ_cons, List.take_zero, a1, a2, a3, a4, a5, a6, a7, a8, a9, b1, b2, b3, b4, b5, b6, b7, b8, b9, c1, c2, c3, hne, a37, boxW, boxB, arrS, hml, -List.getD_eq_getElem?_getD]
end Go.Proofs.YtmgfcjblclanmaaDoor
/-
  Two wafers merged, by the abstract machine.
-/
namespace Go.Proofs.YtmgfcjblclanmaaDoor
open Go.RowKit
set_option linter.unusedVariables false
set_option linter.unusedSimpArgs false
set_option maxRecDepth 100000
/-- two wafers that are right, and fit -/
structure Pair2 (A B : Waf) : Prop where
  a : waferV A = 0
  b : waferV B = 0
  rows : A.rows.length = B.rows.length
  wide : wideOf A = wideOf B
  pass : A.pass = B.pass
  bdA : WafBd A
  bdB : WafBd B
theorem bothFault_ok (nla nlb : Bool) (A B : Waf) (nid : Nat) (h : Pair2 A B) : ACall Tryd.prog 48 [wafP nla A, wafP nlb B] [] nid (.int .i64 0) [] := by
  have hpa := (waferV_ok h.a).pos
  have hpb := (waferV_ok h.b).pos
  have hw := h.wide
  have hwa : wideOf A = (A.rows.getD 0 []).length := rfl
  have hwb : wideOf B = (B.rows.getD 0 []).length := rfl
  rw [hwa, hwb] at hw
  have e1 : (((A.rows.length : Nat) : Int) != ((B.rows.length : Nat) : Int)) = false := by rw [h.rows]; simp
  have e2 : ((((A.rows.getD 0 []).length : Nat) : Int) != (((B.rows.getD 0 []).length : Nat) : Int)) = false := by rw [hw]; simp
  have e3 : (!(A.pass == B.pass)) = false := by rw [h.pass]; simp
  refine acall_sr c48 (by simp [a48]) ?_
  unfold a48 wafP
  refine SR.seq ?_
  simp -dsimp only [aqT, ROp, OX, ↓seqK, ↓blkK, ↓loopK, step, stepBin, res, stepIdx, mix, PV.cells, argSlots, Nat.reduceBEq, Nat.reduceBeqDiff, Nat.add_assoc nid, Nat.reduceAdd, reduceCtorEq, ↓reduceIte, Nat.reduceLeDiff, colPV, freeOf, indep, offO, neqO, disj, namesX, axSlot, opXs, rdXs, idsOf, idsOfs, lowH, lowAll, keys, Nat.reduceBneDiff, Option.toList, ← Int.ofNat_tmod, ← Int.ofNat_tdiv, optInt, fillP, repl, chunk, mkCols, mkCol, colInts, colBools, colStrs, colLits, colsApp, Col.app, tailOf, splice, colsPut, Col.put, mmFold, eqK, Nat.reduceLT, colsPaste, Col.paste, mNew, mkKey, keyIn, mGet, mPut, Int.cast_ofNat_Int, Int.reduceBEq, Int.reduceBNe, Int.reduceLT, Int.reduceLE, Int.reduceAdd, Int.reduceSub, Int.reduceMul, Int.reduceToNat, Int.reduceNeg, Int.reduceTMod, Int.reduceEq, not_false_eq_true, Int.reducePow, Int.reduceFDiv, Nat.reducePow, Nat.reduceSub, Nat.reduceMul, Nat.min_eq_left, Nat.reduceEqDiff, BEq.rfl, Int.tdiv_one, LN_succ]
  refine SR.seqTo ⟨[(5, .int .i64 0), (2, .ptr nid 0), (3, .ptr (nid + 4) 0)], [(nid, boxW nla A), (nid + 4, boxW nlb B)], nid + 100, nid⟩ ?_ ?_
  · simp -dsimp only [aqT, ROp, OX, ↓seqK, ↓blkK, ↓loopK, step, stepBin, res, stepIdx, mix, PV.cells, argSlots, Nat.reduceBEq, Nat.reduceBeqDiff, Nat.add_assoc nid, Nat.reduceAdd, reduceCtorEq, ↓reduceIte, Nat.reduceLeDiff, colPV, freeOf, indep, offO, neqO, disj, namesX, axSlot, opXs, rdXs, idsOf, idsOfs, lowH, lowAll, keys, Nat.reduceBneDiff, Option.toList, ← Int.ofNat_tmod, ← Int.ofNat_tdiv, optInt, fillP, repl, chunk, mkCols, mkCol, colInts, colBools, colStrs, colLits, colsApp, Col.app, tailOf, splice, colsPut, Col.put, mmFold, eqK, Nat.reduceLT, colsPaste, Col.paste, mNew, mkKey, keyIn, mGet, mPut, Int.cast_ofNat_Int, Int.reduceBEq, Int.reduceBNe, Int.reduceLT, Int.reduceLE, Int.reduceAdd, Int.reduceSub, Int.reduceMul, Int.reduceToNat, Int.reduceNeg, Int.reduceTMod, Int.reduceEq, not_false_eq_true, Int.reducePow, Int.reduceFDiv, Nat.reducePow, Nat.reduceSub, Nat.reduceMul, Nat.min_eq_left, Nat.reduceEqDiff, BEq.rfl, Int.tdiv_one, LN_succ]
    refine CallX.pure (checkWafer_all nla A _ h.bdA) ?_
    simp -dsimp only [aqT, ROp, OX, ↓seqK, ↓blkK, ↓loopK, step, stepBin, res, stepIdx, mix, PV.cells, argSlots, Nat.reduceBEq, Nat.reduceBeqDiff, Nat.add_assoc nid, Nat.reduceAdd, reduceCtorEq, ↓reduceIte, Nat.reduceLeDiff, colPV, freeOf, indep, offO, neqO, disj, namesX, axSlot, opXs, rdXs, idsOf, idsOfs, lowH, lowAll, keys, Nat.reduceBneDiff, Option.toList, ← Int.ofNat_tmod, ← Int.ofNat_tdiv, optInt, fillP, repl, chunk, mkCols, mkCol, colInts, colBools, colStrs, colLits, colsApp, Col.app, tailOf, splice, colsPut, Col.put, mmFold, eqK, Nat.reduceLT, colsPaste, Col.paste, mNew, mkKey, keyIn, mGet, mPut, Int.cast_ofNat_Int, Int.reduceBEq, Int.reduceBNe, Int.reduceLT, Int.reduceLE, Int.reduceAdd, Int.reduceSub, Int.reduceMul, Int.reduceToNat, Int.reduceNeg, Int.reduceTMod, Int.reduceEq, not_false_eq_true, Int.reducePow, Int.reduceFDiv, Nat.reducePow, Nat.reduceSub, Nat.reduceMul, Nat.min_eq_left, Nat.reduceEqDiff, BEq.rfl, Int.tdiv_one, LN_succ]
    refine CallX.pure (checkWafer_all nlb B _ h.bdB) ?_
    simp -dsimp only [aqT, ROp, OX, ↓seqK, ↓blkK, ↓loopK, step, stepBin, res, stepIdx, mix, PV.cells, argSlots, Nat.reduceBEq, Nat.reduceBeqDiff, Nat.add_assoc nid, Nat.reduceAdd, reduceCtorEq, ↓reduceIte, Nat.reduceLeDiff, colPV, freeOf, indep, offO, neqO, disj, namesX, axSlot, opXs, rdXs, idsOf, idsOfs, lowH, lowAll, keys, Nat.reduceBneDiff, Option.toList, ← Int.ofNat_tmod, ← Int.ofNat_tdiv, optInt, fillP, repl, chunk, mkCols, mkCol, colInts, colBools, colStrs, colLits, colsApp, Col.app, tailOf, splice, colsPut, Col.put, mmFold, eqK, Nat.reduceLT, colsPaste, Col.paste, mNew, mkKey, keyIn, mGet, mPut, Int.cast_ofNat_Int, Int.reduceBEq, Int.reduceBNe, Int.reduceLT, Int.reduceLE, Int.reduceAdd, Int.reduceSub, Int.reduceMul, Int.reduceToNat, Int.reduceNeg, Int.reduceTMod, Int.reduceEq, not_false_eq_true, Int.reducePow, Int.reduceFDiv, Nat.reducePow, Nat.reduceSub, Nat.reduceMul, Nat.min_eq_left, Nat.reduceEqDiff, BEq.rfl, Int.tdiv_one, LN_succ]
    rw [h.a, h.b]
    refine CallX.gave1 (by simp only [aqT, ROp, OX, ↓seqK, ↓blkK, ↓loopK, step, stepBin, res, stepIdx, mix, PV.cells, argSlots, Nat.reduceBEq, Nat.reduceBeqDiff, Nat.add_assoc nid, Nat.reduceAdd, reduceCtorEq, ↓reduceIte, Nat.reduceLeDiff, colPV, freeOf, indep, offO, neqO, disj, namesX, axSlot, opXs, rdXs, idsOf, idsOfs, lowH, lowAll, keys, Nat.reduceBneDiff, Option.toList, ← Int.ofNat_tmod, ← Int.ofNat_tdiv, optInt, fillP, repl, chunk, mkCols, mkCol, colInts, colBools, colStrs, colLits, colsApp, Col.app, tailOf, splice, colsPut, Col.put, mmFold, eqK, Nat.reduceLT, colsPaste, Col.paste, mNew, mkKey, keyIn, mGet, mPut, Int.cast_ofNat_Int, Int.reduceBEq, Int.reduceBNe, Int.reduceLT, Int.reduceLE, Int.reduceAdd, Int.reduceSub, Int.reduceMul, Int.reduceToNat, Int.reduceNeg, Int.reduceTMod, Int.reduceEq, not_false_eq_true, Int.reducePow, Int.reduceFDiv, Nat.reducePow, Nat.reduceSub, Nat.reduceMul, Nat.min_eq_left, Nat.reduceEqDiff, BEq.rfl, Int.tdiv_one, LN_succ]; rfl) (fun nl' => first_c nl' [0, 0] _ (by simp)) rfl ?_
    simp -dsimp only [aqT, ROp, OX, ↓seqK, ↓blkK, ↓loopK, step, stepBin, res, stepIdx, mix, PV.cells, argSlots, Nat.reduceBEq, Nat.reduceBeqDiff, Nat.add_assoc nid, Nat.reduceAdd, reduceCtorEq, ↓reduceIte, Nat.reduceLeDiff, colPV, freeOf, indep, offO, neqO, disj, namesX, axSlot, opXs, rdXs, idsOf, idsOfs, lowH, lowAll, keys, Nat.reduceBneDiff, Option.toList, ← Int.ofNat_tmod, ← Int.ofNat_tdiv, optInt, fillP, repl, chunk, mkCols, mkCol, colInts, colBools, colStrs, colLits, colsApp, Col.app, tailOf, splice, colsPut, Col.put, mmFold, eqK, Nat.reduceLT, colsPaste, Col.paste, mNew, mkKey, keyIn, mGet, mPut, Int.cast_ofNat_Int, Int.reduceBEq, Int.reduceBNe, Int.reduceLT, Int.reduceLE, Int.reduceAdd, Int.reduceSub, Int.reduceMul, Int.reduceToNat, Int.reduceNeg, Int.reduceTMod, Int.reduceEq, not_false_eq_true, Int.reducePow, Int.reduceFDiv, Nat.reducePow, Nat.reduceSub, Nat.reduceMul, Nat.min_eq_left, Nat.reduceEqDiff, BEq.rfl, Int.tdiv_one, LN_succ, firstBad2]
    refine Cov.go [] [] ?_
    simp [retPV, over, keys, List.map_nil, List.map_cons, List.contains_cons, List.contains_nil, Bool.or_false, Bool.or_true, Bool.true_or, Bool.false_or, beq_self_eq_true, cond_true, cond_false, HeapCov, orNil, nilSz, onBlk, srcOf, getH_hit, getH_miss, getH.eq_1, getS_hit, getS_miss, getS.eq_1, BlkCov, PVCovs, PVCov, ColsEq, ColEq.refl, liveIds, SlotsCov, List.all_nil, List.all_cons, List.any_nil, List.any_cons, List.nil_append, List.cons_append, inRange, apart, nilBlk, idS1, idS2, readAll, readRes, onAll, step, res, AX.val, List.drop_zero, List.drop_succ_cons, List.take_succ_cons, List.take_zero, boxW]
  refine SR.seqTo ⟨[(5, .int .i64 0)], [], nid + 400, nid⟩ ?_ ?_
  · unfold boxW
    simp -dsimp only [aqT, ROp, OX, ↓seqK, ↓blkK, ↓loopK, step, stepBin, res, stepIdx, mix, PV.cells, argSlots, Nat.reduceBEq, Nat.reduceBeqDiff, Nat.add_assoc nid, Nat.reduceAdd, reduceCtorEq, ↓reduceIte, Nat.reduceLeDiff, colPV, freeOf, indep, offO, neqO, disj, namesX, axSlot, opXs, rdXs, idsOf, idsOfs, lowH, lowAll, keys, Nat.reduceBneDiff, Option.toList, ← Int.ofNat_tmod, ← Int.ofNat_tdiv, optInt, fillP, repl, chunk, mkCols, mkCol, colInts, colBools, colStrs, colLits, colsApp, Col.app, tailOf, splice, colsPut, Col.put, mmFold, eqK, Nat.reduceLT, colsPaste, Col.paste, mNew, mkKey, keyIn, mGet, mPut, Int.cast_ofNat_Int, Int.reduceBEq, Int.reduceBNe, Int.reduceLT, Int.reduceLE, Int.reduceAdd, Int.reduceSub, Int.reduceMul, Int.reduceToNat, Int.reduceNeg, Int.reduceTMod, Int.reduceEq, not_false_eq_true, Int.reducePow, Int.reduceFDiv, Nat.reducePow, Nat.reduceSub, Nat.reduceMul, Nat.min_eq_left, Nat.reduceEqDiff, BEq.rfl, Int.tdiv_one, LN_succ, e1, e2, e3]
    refine ⟨by omega, by omega, Cov.go [] [] ?_⟩
    simp [retPV, over, keys, List.map_nil, List.map_cons, List.contains_cons, List.contains_nil, Bool.or_false, Bool.or_true, Bool.true_or, Bool.false_or, beq_self_eq_true, cond_true, cond_false, HeapCov, orNil, nilSz, onBlk, srcOf, getH_hit, getH_miss, getH.eq_1, getS_hit, getS_miss, getS.eq_1, BlkCov, PVCovs, PVCov, ColsEq, ColEq.refl, liveIds, SlotsCov, List.all_nil, List.all_cons, List.any_nil, List.any_cons, List.nil_append, List.cons_append, inRange, apart, nilBlk, idS1, idS2, readAll, readRes, onAll, step, res, AX.val, List.drop_zero, List.drop_succ_cons, List.take_succ_cons, List.take_zero]
  refine SR.run (t := .mk) ?_
  simp -dsimp only [aqT, ROp, OX, ↓seqK, ↓blkK, ↓loopK, step, stepBin, res, stepIdx, mix, PV.cells, argSlots, Nat.reduceBEq, Nat.reduceBeqDiff, Nat.add_assoc nid, Nat.reduceAdd, reduceCtorEq, ↓reduceIte, Nat.reduceLeDiff, colPV, freeOf, indep, offO, neqO, disj, namesX, axSlot, opXs, rdXs, idsOf, idsOfs, lowH, lowAll, keys, Nat.reduceBneDiff, Option.toList, ← Int.ofNat_tmod, ← Int.ofNat_tdiv, optInt, fillP, repl, chunk, mkCols, mkCol, colInts, colBools, colStrs, colLits, colsApp, Col.app, tailOf, splice, colsPut, Col.put, mmFold, eqK, Nat.reduceLT, colsPaste, Col.paste, mNew, mkKey, keyIn, mGet, mPut, Int.cast_ofNat_Int, Int.reduceBEq, Int.reduceBNe, Int.reduceLT, Int.reduceLE, Int.reduceAdd, Int.reduceSub, Int.reduceMul, Int.reduceToNat, Int.reduceNeg, Int.reduceTMod, Int.reduceEq, not_false_eq_true, Int.reducePow, Int.reduceFDiv, Nat.reducePow, Nat.reduceSub, Nat.reduceMul, Nat.min_eq_left, Nat.reduceEqDiff, BEq.rfl, Int.tdiv_one, LN_succ]
  refine RetOK.pure (.inl rfl) rfl ?_
  simp [retPV, over, keys, List.map_nil, List.map_cons, List.contains_cons, List.contains_nil, Bool.or_false, Bool.or_true, Bool.true_or, Bool.false_or, beq_self_eq_true, cond_true, cond_false, HeapCov, orNil, nilSz, onBlk, srcOf, getH_hit, getH_miss, getH.eq_1, getS_hit, getS_miss, getS.eq_1, BlkCov, PVCovs, PVCov, ColsEq, ColEq.refl, liveIds, SlotsCov, List.all_nil, List.all_cons, List.any_nil, List.any_cons, List.nil_append, List.cons_append, inRange, apart, nilBlk, idS1, idS2, readAll, readRes, onAll, step, res, AX.val, List.drop_zero, List.drop_succ_cons, List.take_succ_cons, List.take_zero]
set_option maxHeartbeats 4000000 in
theorem merge_ok (nla nlb : Bool) (A B : Waf) (nid : Nat) (h : Pair2 A B) (ho : okRs A.rows B.rows = true) : ACall Tryd.prog 18 [wafP nla A, wafP nlb B] [] nid (.tup [.agg [.sl nid 0 A.rows.length, .str A.pass], .int .i64 0]) [(nid, arrS (mergeRs A.rows B.rows))] := by
  have hA := waferV_ok h.a
  have hB := waferV_ok h.b
  have hml : (mergeRs A.rows B.rows).length = A.rows.length := zip_len _ h.rows
  refine acall_sr c18 (by simp [a18]) ?_
  unfold a18 wafP
  refine SR.seq ?_
  simp -dsimp only [aqT, ROp, OX, ↓seqK, ↓blkK, ↓loopK, step, stepBin, res, stepIdx, mix, PV.cells, argSlots, Nat.reduceBEq, Nat.reduceBeqDiff, Nat.add_assoc nid, Nat.reduceAdd, reduceCtorEq, ↓reduceIte, Nat.reduceLeDiff, colPV, freeOf, indep, offO, neqO, disj, namesX, axSlot, opXs, rdXs, idsOf, idsOfs, lowH, lowAll, keys, Nat.reduceBneDiff, Option.toList, ← Int.ofNat_tmod, ← Int.ofNat_tdiv, optInt, fillP, repl, chunk, mkCols, mkCol, colInts, colBools, colStrs, colLits, colsApp, Col.app, tailOf, splice, colsPut, Col.put, mmFold, eqK, Nat.reduceLT, colsPaste, Col.paste, mNew, mkKey, keyIn, mGet, mPut, Int.cast_ofNat_Int, Int.reduceBEq, Int.reduceBNe, Int.reduceLT, Int.reduceLE, Int.reduceAdd, Int.reduceSub, Int.reduceMul, Int.reduceToNat, Int.reduceNeg, Int.reduceTMod, Int.reduceEq, not_false_eq_true, Int.reducePow, Int.reduceFDiv, Nat.reducePow, Nat.reduceSub, Nat.reduceMul, Nat.min_eq_left, Nat.reduceEqDiff, BEq.rfl, Int.tdiv_one, LN_succ]
  refine SR.seqTo ⟨[(2, .ptr nid 0), (3, .ptr (nid + 4) 0), (4, .ptr (nid + 8) 0)], [(nid, boxW nla A), (nid + 4, boxW nlb B), (nid + 8, some (.box 28 [.lit true 0 [], .str []]))], nid + 100, nid⟩ ?_ ?_
  · simp -dsimp only [aqT, ROp, OX, ↓seqK, ↓blkK, ↓loopK, step, stepBin, res, stepIdx, mix, PV.cells, argSlots, Nat.reduceBEq, Nat.reduceBeqDiff, Nat.add_assoc nid, Nat.reduceAdd, reduceCtorEq, ↓reduceIte, Nat.reduceLeDiff, colPV, freeOf, indep, offO, neqO, disj, namesX, axSlot, opXs, rdXs, idsOf, idsOfs, lowH, lowAll, keys, Nat.reduceBneDiff, Option.toList, ← Int.ofNat_tmod, ← Int.ofNat_tdiv, optInt, fillP, repl, chunk, mkCols, mkCol, colInts, colBools, colStrs, colLits, colsApp, Col.app, tailOf, splice, colsPut, Col.put, mmFold, eqK, Nat.reduceLT, colsPaste, Col.paste, mNew, mkKey, keyIn, mGet, mPut, Int.cast_ofNat_Int, Int.reduceBEq, Int.reduceBNe, Int.reduceLT, Int.reduceLE, Int.reduceAdd, Int.reduceSub, Int.reduceMul, Int.reduceToNat, Int.reduceNeg, Int.reduceTMod, Int.reduceEq, not_false_eq_true, Int.reducePow, Int.reduceFDiv, Nat.reducePow, Nat.reduceSub, Nat.reduceMul, Nat.min_eq_left, Nat.reduceEqDiff, BEq.rfl, Int.tdiv_one, LN_succ]
    refine CallO.pure (bothFault_ok nla nlb A B _ h) ?_
    simp -dsimp only [aqT, ROp, OX, ↓seqK, ↓blkK, ↓loopK, step, stepBin, res, stepIdx, mix, PV.cells, argSlots, Nat.reduceBEq, Nat.reduceBeqDiff, Nat.add_assoc nid, Nat.reduceAdd, reduceCtorEq, ↓reduceIte, Nat.reduceLeDiff, colPV, freeOf, indep, offO, neqO, disj, namesX, axSlot, opXs, rdXs, idsOf, idsOfs, lowH, lowAll, keys, Nat.reduceBneDiff, Option.toList, ← Int.ofNat_tmod, ← Int.ofNat_tdiv, optInt, fillP, repl, chunk, mkCols, mkCol, colInts, colBools, colStrs, colLits, colsApp, Col.app, tailOf, splice, colsPut, Col.put, mmFold, eqK, Nat.reduceLT, colsPaste, Col.paste, mNew, mkKey, keyIn, mGet, mPut, Int.cast_ofNat_Int, Int.reduceBEq, Int.reduceBNe, Int.reduceLT, Int.reduceLE, Int.reduceAdd, Int.reduceSub, Int.reduceMul, Int.reduceToNat, Int.reduceNeg, Int.reduceTMod, Int.reduceEq, not_false_eq_true, Int.reducePow, Int.reduceFDiv, Nat.reducePow, Nat.reduceSub, Nat.reduceMul, Nat.min_eq_left, Nat.reduceEqDiff, BEq.rfl, Int.tdiv_one, LN_succ]
    refine Cov.go [] [] ?_
    simp [retPV, over, keys, List.map_nil, List.map_cons, List.contains_cons, List.contains_nil, Bool.or_false, Bool.or_true, Bool.true_or, Bool.false_or, beq_self_eq_true, cond_true, cond_false, HeapCov, orNil, nilSz, onBlk, srcOf, getH_hit, getH_miss, getH.eq_1, getS_hit, getS_miss, getS.eq_1, BlkCov, PVCovs, PVCov, ColsEq, ColEq.refl, liveIds, SlotsCov, List.all_nil, List.all_cons, List.any_nil, List.any_cons, List.nil_append, List.cons_append, inRange, apart, nilBlk, idS1, idS2, readAll, readRes, onAll, step, res, AX.val, List.drop_zero, List.drop_succ_cons, List.take_succ_cons, List.take_zero, boxW]
  refine SR.seq ?_
  unfold boxW
  simp -dsimp only [aqT, ROp, OX, ↓seqK, ↓blkK, ↓loopK, step, stepBin, res, stepIdx, mix, PV.cells, argSlots, Nat.reduceBEq, Nat.reduceBeqDiff, Nat.add_assoc nid, Nat.reduceAdd, reduceCtorEq, ↓reduceIte, Nat.reduceLeDiff, colPV, freeOf, indep, offO, neqO, disj, namesX, axSlot, opXs, rdXs, idsOf, idsOfs, lowH, lowAll, keys, Nat.reduceBneDiff, Option.toList, ← Int.ofNat_tmod, ← Int.ofNat_tdiv, optInt, fillP, repl, chunk, mkCols, mkCol, colInts, colBools, colStrs, colLits, colsApp, Col.app, tailOf, splice, colsPut, Col.put, mmFold, eqK, Nat.reduceLT, colsPaste, Col.paste, mNew, mkKey, keyIn, mGet, mPut, Int.cast_ofNat_Int, Int.reduceBEq, Int.reduceBNe, Int.reduceLT, Int.reduceLE, Int.reduceAdd, Int.reduceSub, Int.reduceMul, Int.reduceToNat, Int.reduceNeg, Int.reduceTMod, Int.reduceEq, not_false_eq_true, Int.reducePow, Int.reduceFDiv, Nat.reducePow, Nat.reduceSub, Nat.reduceMul, Nat.min_eq_left, Nat.reduceEqDiff, BEq.rfl, Int.tdiv_one, LN_succ]
  refine SR.seq ?_
  simp -dsimp only [aqT, ROp, OX, ↓seqK, ↓blkK, ↓loopK, step, stepBin, res, stepIdx, mix, PV.cells, argSlots, Nat.reduceBEq, Nat.reduceBeqDiff, Nat.add_assoc nid, Nat.reduceAdd, reduceCtorEq, ↓reduceIte, Nat.reduceLeDiff, colPV, freeOf, indep, offO, neqO, disj, namesX, axSlot, opXs, rdXs, idsOf, idsOfs, lowH, lowAll, keys, Nat.reduceBneDiff, Option.toList, ← Int.ofNat_tmod, ← Int.ofNat_tdiv, optInt, fillP, repl, chunk, mkCols, mkCol, colInts, colBools, colStrs, colLits, colsApp, Col.app, tailOf, splice, colsPut, Col.put, mmFold, eqK, Nat.reduceLT, colsPaste, Col.paste, mNew, mkKey, keyIn, mGet, mPut, Int.cast_ofNat_Int, Int.reduceBEq, Int.reduceBNe, Int.reduceLT, Int.reduceLE, Int.reduceAdd, Int.reduceSub, Int.reduceMul, Int.reduceToNat, Int.reduceNeg, Int.reduceTMod, Int.reduceEq, not_false_eq_true, Int.reducePow, Int.reduceFDiv, Nat.reducePow, Nat.reduceSub, Nat.reduceMul, Nat.min_eq_left, Nat.reduceEqDiff, BEq.rfl, Int.tdiv_one, LN_succ]
  refine CallO.on (changedMerge_c (nid + 4) (nid + 100) nla nlb A B _ (by omega) (by omega) (by omega) hA hB h.rows h.wide) (subH_cons (by simp only [aqT, ROp, OX, ↓seqK, ↓blkK, ↓loopK, step, stepBin, res, stepIdx, mix, PV.cells, argSlots, Nat.reduceBEq, Nat.reduceBeqDiff, Nat.add_assoc nid, Nat.reduceAdd, reduceCtorEq, ↓reduceIte, Nat.reduceLeDiff, colPV, freeOf, indep, offO, neqO, disj, namesX, axSlot, opXs, rdXs, idsOf, idsOfs, lowH, lowAll, keys, Nat.reduceBneDiff, Option.toList, ← Int.ofNat_tmod, ← Int.ofNat_tdiv, optInt, fillP, repl, chunk, mkCols, mkCol, colInts, colBools, colStrs, colLits, colsApp, Col.app, tailOf, splice, colsPut, Col.put, mmFold, eqK, Nat.reduceLT, colsPaste, Col.paste, mNew, mkKey, keyIn, mGet, mPut, Int.cast_ofNat_Int, Int.reduceBEq, Int.reduceBNe, Int.reduceLT, Int.reduceLE, Int.reduceAdd, Int.reduceSub, Int.reduceMul, Int.reduceToNat, Int.reduceNeg, Int.reduceTMod, Int.reduceEq, not_false_eq_true, Int.reducePow, Int.reduceFDiv, Nat.reducePow, Nat.reduceSub, Nat.reduceMul, Nat.min_eq_left, Nat.reduceEqDiff, BEq.rfl, Int.tdiv_one, LN_succ, boxW]) (subH_get (by simp only [aqT, ROp, OX, ↓seqK, ↓blkK, ↓loopK, step, stepBin, res, stepIdx, mix, PV.cells, argSlots, Nat.reduceBEq, Nat.reduceBeqDiff, Nat.add_assoc nid, Nat.reduceAdd, reduceCtorEq, ↓reduceIte, Nat.reduceLeDiff, colPV, freeOf, indep, offO, neqO, disj, namesX, axSlot, opXs, rdXs, idsOf, idsOfs, lowH, lowAll, keys, Nat.reduceBneDiff, Option.toList, ← Int.ofNat_tmod, ← Int.ofNat_tdiv, optInt, fillP, repl, chunk, mkCols, mkCol, colInts, colBools, colStrs, colLits, colsApp, Col.app, tailOf, splice, colsPut, Col.put, mmFold, eqK, Nat.reduceLT, colsPaste, Col.paste, mNew, mkKey, keyIn, mGet, mPut, Int.cast_ofNat_Int, Int.reduceBEq, Int.reduceBNe, Int.reduceLT, Int.reduceLE, Int.reduceAdd, Int.reduceSub, Int.reduceMul, Int.reduceToNat, Int.reduceNeg, Int.reduceTMod, Int.reduceEq, not_false_eq_true, Int.reducePow, Int.reduceFDiv, Nat.reducePow, Nat.reduceSub, Nat.reduceMul, Nat.min_eq_left, Nat.reduceEqDiff, BEq.rfl, Int.tdiv_one, LN_succ, boxB]))) ?_
  rw [ho]
  unfold boxW boxB arrS
  simp -dsimp only [aqT, ROp, OX, ↓seqK, ↓blkK, ↓loopK, step, stepBin, res, stepIdx, mix, PV.cells, argSlots, Nat.reduceBEq, Nat.reduceBeqDiff, Nat.add_assoc nid, Nat.reduceAdd, reduceCtorEq, ↓reduceIte, Nat.reduceLeDiff, colPV, freeOf, indep, offO, neqO, disj, namesX, axSlot, opXs, rdXs, idsOf, idsOfs, lowH, lowAll, keys, Nat.reduceBneDiff, Option.toList, ← Int.ofNat_tmod, ← Int.ofNat_tdiv, optInt, fillP, repl, chunk, mkCols, mkCol, colInts, colBools, colStrs, colLits, colsApp, Col.app, tailOf, splice, colsPut, Col.put, mmFold, eqK, Nat.reduceLT, colsPaste, Col.paste, mNew, mkKey, keyIn, mGet, mPut, Int.cast_ofNat_Int, Int.reduceBEq, Int.reduceBNe, Int.reduceLT, Int.reduceLE, Int.reduceAdd, Int.reduceSub, Int.reduceMul, Int.reduceToNat, Int.reduceNeg, Int.reduceTMod, Int.reduceEq, not_false_eq_true, Int.reducePow, Int.reduceFDiv, Nat.reducePow, Nat.reduceSub, Nat.reduceMul, Nat.min_eq_left, Nat.reduceEqDiff, BEq.rfl, Int.tdiv_one, LN_succ]
  refine SR.run (t := .mk) ?_
  simp -dsimp only [aqT, ROp, OX, ↓seqK, ↓blkK, ↓loopK, step, stepBin, res, stepIdx, mix, PV.cells, argSlots, Nat.reduceBEq, Nat.reduceBeqDiff, Nat.add_assoc nid, Nat.reduceAdd, reduceCtorEq, ↓reduceIte, Nat.reduceLeDiff, colPV, freeOf, indep, offO, neqO, disj, namesX, axSlot, opXs, rdXs, idsOf, idsOfs, lowH, lowAll, keys, Nat.reduceBneDiff, Option.toList, ← Int.ofNat_tmod, ← Int.ofNat_tdiv, optInt, fillP, repl, chunk, mkCols, mkCol, colInts, colBools, colStrs, colLits, colsApp, Col.app, tailOf, splice, colsPut, Col.put, mmFold, eqK, Nat.reduceLT, colsPaste, Col.paste, mNew, mkKey, keyIn, mGet, mPut, Int.cast_ofNat_Int, Int.reduceBEq, Int.reduceBNe, Int.reduceLT, Int.reduceLE, Int.reduceAdd, Int.reduceSub, Int.reduceMul, Int.reduceToNat, Int.reduceNeg, Int.reduceTMod, Int.reduceEq, not_false_eq_true, Int.reducePow, Int.reduceFDiv, Nat.reducePow, Nat.reduceSub, Nat.reduceMul, Nat.min_eq_left, Nat.reduceEqDiff, BEq.rfl, Int.tdiv_one, LN_succ]
  refine RetOK.go [(nid, nid + 116)] [] (.inl rfl) ?_
  simp [a18, retPV, over, keys, List.map_nil, List.map_cons, List.contains_cons, List.contains_nil, Bool.or_false, Bool.or_true, Bool.true_or, Bool.false_or, beq_self_eq_true, cond_true, cond_false, HeapCov, orNil, nilSz, onBlk, srcOf, getH_hit, getH_miss, getH.eq_1, getS_hit, getS_miss, getS.eq_1, BlkCov, PVCovs, PVCov, ColsEq, ColEq.refl, liveIds, SlotsCov, List.all_nil, List.all_cons, List.any_nil, List.any_cons, List.nil_append, List.cons_append, inRange, apart, nilBlk, idS1, idS2, readAll, readRes, onAll, step, res, AX.val, List.drop_zero, List.drop_succ_cons, List.take_succ_cons, List.take_zero, arrS, hml, -List.getD_eq_getElem?_getD]
end Go.Proofs.YtmgfcjblclanmaaDoor
/-
  The places at which two wafers differ, by the abstract machine.
-/
namespace Go.Proofs.YtmgfcjblclanmaaDoor
open Go.RowKit
set_option linter.unusedVariables false
set_option linter.unusedSimpArgs false
set_option maxRecDepth 100000
def sameDie (A B : Waf) (p : Pt) : Bool := dieV A p.1 p.2 == dieV B p.1 p.2
theorem changesF_c (ia ib : Nat) (nla nlb : Bool) (A B : Waf) (p : Pt) (nid : Nat) (hia : ia < nid) (hib : ib < nid) (hne : ia ≠ ib) (hA : WafOk A) (hB : WafOk B) (hx : inI64 p.1) (hy : inI64 p.2) :
    ACall Tryd.prog 52 [.agg [.int .i64 p.1, .int .i64 p.2], .ptr ia 0, .ptr ib 0] [(ia, boxW nla A), (ib, boxW nlb B)] nid (.bool (sameDie A B p)) [] := by
  obtain ⟨a1, a2, a3, a4, a5, a6, a7, a8, a9⟩ := id_all hia
  obtain ⟨b1, b2, b3, b4, b5, b6, b7, b8, b9⟩ := id_all hib
  have c1 : (ia == ib) = false := by simpa using hne
  have c2 : (ib == ia) = false := by simpa using fun h => hne h.symm
  have c3 : ¬ ib = ia := fun h => hne h.symm
  refine acall_run c52 (by simp [a52]) ?_
  unfold boxW
  simp -dsimp only [a52, aqT, ROp, OX, ↓seqK, ↓blkK, ↓loopK, step, stepBin, res, stepIdx, mix, PV.cells, argSlots, Nat.reduceBEq, Nat.reduceBeqDiff, Nat.add_assoc nid, Nat.reduceAdd, reduceCtorEq, ↓reduceIte, Nat.reduceLeDiff, colPV, freeOf, indep, offO, neqO, disj, namesX, axSlot, opXs, rdXs, idsOf, idsOfs, lowH, lowAll, keys, Nat.reduceBneDiff, Option.toList, ← Int.ofNat_tmod, ← Int.ofNat_tdiv, optInt, fillP, repl, chunk, mkCols, mkCol, colInts, colBools, colStrs, colLits, colsApp, Col.app, tailOf, splice, colsPut, Col.put, mmFold, eqK, Nat.reduceLT, colsPaste, Col.paste, mNew, mkKey, keyIn, mGet, mPut, Int.cast_ofNat_Int, Int.reduceBEq, Int.reduceBNe, Int.reduceLT, Int.reduceLE, Int.reduceAdd, Int.reduceSub, Int.reduceMul, Int.reduceToNat, Int.reduceNeg, Int.reduceTMod, Int.reduceEq, not_false_eq_true, Int.reducePow, Int.reduceFDiv, Nat.reducePow, Nat.reduceSub, Nat.reduceMul, Nat.min_eq_left, Nat.reduceEqDiff, BEq.rfl, Int.tdiv_one, LN_succ, a1, a2, a3, a4, a5, a6, a7, a8, a9, b1, b2, b3, b4, b5, b6, b7, b8, b9, c1, c2, c3, hne]
  refine CallX.pure (at_all nla A _ _ _ hA hx hy) ?_
  simp -dsimp only [aqT, ROp, OX, ↓seqK, ↓blkK, ↓loopK, step, stepBin, res, stepIdx, mix, PV.cells, argSlots, Nat.reduceBEq, Nat.reduceBeqDiff, Nat.add_assoc nid, Nat.reduceAdd, reduceCtorEq, ↓reduceIte, Nat.reduceLeDiff, colPV, freeOf, indep, offO, neqO, disj, namesX, axSlot, opXs, rdXs, idsOf, idsOfs, lowH, lowAll, keys, Nat.reduceBneDiff, Option.toList, ← Int.ofNat_tmod, ← Int.ofNat_tdiv, optInt, fillP, repl, chunk, mkCols, mkCol, colInts, colBools, colStrs, colLits, colsApp, Col.app, tailOf, splice, colsPut, Col.put, mmFold, eqK, Nat.reduceLT, colsPaste, Col.paste, mNew, mkKey, keyIn, mGet, mPut, Int.cast_ofNat_Int, Int.reduceBEq, Int.reduceBNe, Int.reduceLT, Int.reduceLE, Int.reduceAdd, Int.reduceSub, Int.reduceMul, Int.reduceToNat, Int.reduceNeg, Int.reduceTMod, Int.reduceEq, not_false_eq_true, Int.reducePow, Int.reduceFDiv, Nat.reducePow, Nat.reduceSub, Nat.reduceMul, Nat.min_eq_left, Nat.reduceEqDiff, BEq.rfl, Int.tdiv_one, LN_succ, a1, a2, a3, a4, a5, a6, a7, a8, a9, b1, b2, b3, b4, b5, b6, b7, b8, b9, c1, c2, c3, hne]
  refine CallX.pure (at_all nlb B _ _ _ hB hx hy) ?_
  simp -dsimp only [aqT, ROp, OX, ↓seqK, ↓blkK, ↓loopK, step, stepBin, res, stepIdx, mix, PV.cells, argSlots, Nat.reduceBEq, Nat.reduceBeqDiff, Nat.add_assoc nid, Nat.reduceAdd, reduceCtorEq, ↓reduceIte, Nat.reduceLeDiff, colPV, freeOf, indep, offO, neqO, disj, namesX, axSlot, opXs, rdXs, idsOf, idsOfs, lowH, lowAll, keys, Nat.reduceBneDiff, Option.toList, ← Int.ofNat_tmod, ← Int.ofNat_tdiv, optInt, fillP, repl, chunk, mkCols, mkCol, colInts, colBools, colStrs, colLits, colsApp, Col.app, tailOf, splice, colsPut, Col.put, mmFold, eqK, Nat.reduceLT, colsPaste, Col.paste, mNew, mkKey, keyIn, mGet, mPut, Int.cast_ofNat_Int, Int.reduceBEq, Int.reduceBNe, Int.reduceLT, Int.reduceLE, Int.reduceAdd, Int.reduceSub, Int.reduceMul, Int.reduceToNat, Int.reduceNeg, Int.reduceTMod, Int.reduceEq, not_false_eq_true, Int.reducePow, Int.reduceFDiv, Nat.reducePow, Nat.reduceSub, Nat.reduceMul, Nat.min_eq_left, Nat.reduceEqDiff, BEq.rfl, Int.tdiv_one, LN_succ, a1, a2, a3, a4, a5, a6, a7, a8, a9, b1, b2, b3, b4, b5, b6, b7, b8, b9, c1, c2, c3, hne]
  refine RetOK.go [] [] (.inl rfl) ?_
  simp [a52, retPV, over, keys, List.map_nil, List.map_cons, List.contains_cons, List.contains_nil, Bool.or_false, Bool.or_true, Bool.true_or, Bool.false_or, beq_self_eq_true, cond_true, cond_false, HeapCov, orNil, nilSz, onBlk, srcOf, getH_hit, getH_miss, getH.eq_1, getS_hit, getS_miss, getS.eq_1, BlkCov, PVCovs, PVCov, ColsEq, ColEq.refl, liveIds, SlotsCov, List.all_nil, List.all_cons, List.any_nil, List.any_cons, List.nil_append, List.cons_append, inRange, apart, nilBlk, idS1, idS2, readAll, readRes, onAll, step, res, AX.val, List.drop_zero, List.drop_succ_cons, List.take_succ_cons, List.take_zero, a1, a2, a3, a4, a5, a6, a7, a8, a9, b1, b2, b3, b4, b5, b6, b7, b8, b9, c1, c2, c3, hne, sameDie]
theorem plV_in {W : Waf} (hW : WafOk W) {p : Pt} (h : p ∈ plV W) : inI64 p.1 ∧ inI64 p.2 := by
  obtain ⟨x, y, rfl, h1, h2⟩ := plV_mem h
  have := (hW.at h1).1
  have := hW.wide.2
  have := hW.len
  unfold inI64
  simp only
  omega
def chV (A B : Waf) : List Pt := keepP (sameDie A B) (plV A)
set_option maxHeartbeats 4000000 in
theorem changes_ok (nla nlb : Bool) (A B : Waf) (nid : Nat) (h : Pair2 A B) : ACall Tryd.prog 20 [wafP nla A, wafP nlb B] [] nid (.tup [.sl nid 0 (chV A B).length, .int .i64 0]) [(nid, arrPl (doneP (sameDie A B) (plV A)))] := by
  have hA := waferV_ok h.a
  have hB := waferV_ok h.b
  have hlb := plTo_bd hA (Nat.le_refl _)
  refine acall_sr c20 (by simp [a20]) ?_
  unfold a20 wafP
  refine SR.seq ?_
  simp -dsimp only [aqT, ROp, OX, ↓seqK, ↓blkK, ↓loopK, step, stepBin, res, stepIdx, mix, PV.cells, argSlots, Nat.reduceBEq, Nat.reduceBeqDiff, Nat.add_assoc nid, Nat.reduceAdd, reduceCtorEq, ↓reduceIte, Nat.reduceLeDiff, colPV, freeOf, indep, offO, neqO, disj, namesX, axSlot, opXs, rdXs, idsOf, idsOfs, lowH, lowAll, keys, Nat.reduceBneDiff, Option.toList, ← Int.ofNat_tmod, ← Int.ofNat_tdiv, optInt, fillP, repl, chunk, mkCols, mkCol, colInts, colBools, colStrs, colLits, colsApp, Col.app, tailOf, splice, colsPut, Col.put, mmFold, eqK, Nat.reduceLT, colsPaste, Col.paste, mNew, mkKey, keyIn, mGet, mPut, Int.cast_ofNat_Int, Int.reduceBEq, Int.reduceBNe, Int.reduceLT, Int.reduceLE, Int.reduceAdd, Int.reduceSub, Int.reduceMul, Int.reduceToNat, Int.reduceNeg, Int.reduceTMod, Int.reduceEq, not_false_eq_true, Int.reducePow, Int.reduceFDiv, Nat.reducePow, Nat.reduceSub, Nat.reduceMul, Nat.min_eq_left, Nat.reduceEqDiff, BEq.rfl, Int.tdiv_one, LN_succ]
  refine SR.seqTo ⟨[(2, .ptr nid 0), (3, .ptr (nid + 4) 0)], [(nid, boxW nla A), (nid + 4, boxW nlb B)], nid + 100, nid⟩ ?_ ?_
  · simp -dsimp only [aqT, ROp, OX, ↓seqK, ↓blkK, ↓loopK, step, stepBin, res, stepIdx, mix, PV.cells, argSlots, Nat.reduceBEq, Nat.reduceBeqDiff, Nat.add_assoc nid, Nat.reduceAdd, reduceCtorEq, ↓reduceIte, Nat.reduceLeDiff, colPV, freeOf, indep, offO, neqO, disj, namesX, axSlot, opXs, rdXs, idsOf, idsOfs, lowH, lowAll, keys, Nat.reduceBneDiff, Option.toList, ← Int.ofNat_tmod, ← Int.ofNat_tdiv, optInt, fillP, repl, chunk, mkCols, mkCol, colInts, colBools, colStrs, colLits, colsApp, Col.app, tailOf, splice, colsPut, Col.put, mmFold, eqK, Nat.reduceLT, colsPaste, Col.paste, mNew, mkKey, keyIn, mGet, mPut, Int.cast_ofNat_Int, Int.reduceBEq, Int.reduceBNe, Int.reduceLT, Int.reduceLE, Int.reduceAdd, Int.reduceSub, Int.reduceMul, Int.reduceToNat, Int.reduceNeg, Int.reduceTMod, Int.reduceEq, not_false_eq_true, Int.reducePow, Int.reduceFDiv, Nat.reducePow, Nat.reduceSub, Nat.reduceMul, Nat.min_eq_left, Nat.reduceEqDiff, BEq.rfl, Int.tdiv_one, LN_succ]
    refine CallO.pure (bothFault_ok nla nlb A B _ h) ?_
    simp -dsimp only [aqT, ROp, OX, ↓seqK, ↓blkK, ↓loopK, step, stepBin, res, stepIdx, mix, PV.cells, argSlots, Nat.reduceBEq, Nat.reduceBeqDiff, Nat.add_assoc nid, Nat.reduceAdd, reduceCtorEq, ↓reduceIte, Nat.reduceLeDiff, colPV, freeOf, indep, offO, neqO, disj, namesX, axSlot, opXs, rdXs, idsOf, idsOfs, lowH, lowAll, keys, Nat.reduceBneDiff, Option.toList, ← Int.ofNat_tmod, ← Int.ofNat_tdiv, optInt, fillP, repl, chunk, mkCols, mkCol, colInts, colBools, colStrs, colLits, colsApp, Col.app, tailOf, splice, colsPut, Col.put, mmFold, eqK, Nat.reduceLT, colsPaste, Col.paste, mNew, mkKey, keyIn, mGet, mPut, Int.cast_ofNat_Int, Int.reduceBEq, Int.reduceBNe, Int.reduceLT, Int.reduceLE, Int.reduceAdd, Int.reduceSub, Int.reduceMul, Int.reduceToNat, Int.reduceNeg, Int.reduceTMod, Int.reduceEq, not_false_eq_true, Int.reducePow, Int.reduceFDiv, Nat.reducePow, Nat.reduceSub, Nat.reduceMul, Nat.min_eq_left, Nat.reduceEqDiff, BEq.rfl, Int.tdiv_one, LN_succ]
    refine Cov.go [] [] ?_
    simp [retPV, over, keys, List.map_nil, List.map_cons, List.contains_cons, List.contains_nil, Bool.or_false, Bool.or_true, Bool.true_or, Bool.false_or, beq_self_eq_true, cond_true, cond_false, HeapCov, orNil, nilSz, onBlk, srcOf, getH_hit, getH_miss, getH.eq_1, getS_hit, getS_miss, getS.eq_1, BlkCov, PVCovs, PVCov, ColsEq, ColEq.refl, liveIds, SlotsCov, List.all_nil, List.all_cons, List.any_nil, List.any_cons, List.nil_append, List.cons_append, inRange, apart, nilBlk, idS1, idS2, readAll, readRes, onAll, step, res, AX.val, List.drop_zero, List.drop_succ_cons, List.take_succ_cons, List.take_zero, boxW]
  refine SR.seq ?_
  unfold boxW
  simp -dsimp only [aqT, ROp, OX, ↓seqK, ↓blkK, ↓loopK, step, stepBin, res, stepIdx, mix, PV.cells, argSlots, Nat.reduceBEq, Nat.reduceBeqDiff, Nat.add_assoc nid, Nat.reduceAdd, reduceCtorEq, ↓reduceIte, Nat.reduceLeDiff, colPV, freeOf, indep, offO, neqO, disj, namesX, axSlot, opXs, rdXs, idsOf, idsOfs, lowH, lowAll, keys, Nat.reduceBneDiff, Option.toList, ← Int.ofNat_tmod, ← Int.ofNat_tdiv, optInt, fillP, repl, chunk, mkCols, mkCol, colInts, colBools, colStrs, colLits, colsApp, Col.app, tailOf, splice, colsPut, Col.put, mmFold, eqK, Nat.reduceLT, colsPaste, Col.paste, mNew, mkKey, keyIn, mGet, mPut, Int.cast_ofNat_Int, Int.reduceBEq, Int.reduceBNe, Int.reduceLT, Int.reduceLE, Int.reduceAdd, Int.reduceSub, Int.reduceMul, Int.reduceToNat, Int.reduceNeg, Int.reduceTMod, Int.reduceEq, not_false_eq_true, Int.reducePow, Int.reduceFDiv, Nat.reducePow, Nat.reduceSub, Nat.reduceMul, Nat.min_eq_left, Nat.reduceEqDiff, BEq.rfl, Int.tdiv_one, LN_succ]
  refine CallO.pure (places_all nla A _ hA) ?_
  unfold arrPl
  simp -dsimp only [aqT, ROp, OX, ↓seqK, ↓blkK, ↓loopK, step, stepBin, res, stepIdx, mix, PV.cells, argSlots, Nat.reduceBEq, Nat.reduceBeqDiff, Nat.add_assoc nid, Nat.reduceAdd, reduceCtorEq, ↓reduceIte, Nat.reduceLeDiff, colPV, freeOf, indep, offO, neqO, disj, namesX, axSlot, opXs, rdXs, idsOf, idsOfs, lowH, lowAll, keys, Nat.reduceBneDiff, Option.toList, ← Int.ofNat_tmod, ← Int.ofNat_tdiv, optInt, fillP, repl, chunk, mkCols, mkCol, colInts, colBools, colStrs, colLits, colsApp, Col.app, tailOf, splice, colsPut, Col.put, mmFold, eqK, Nat.reduceLT, colsPaste, Col.paste, mNew, mkKey, keyIn, mGet, mPut, Int.cast_ofNat_Int, Int.reduceBEq, Int.reduceBNe, Int.reduceLT, Int.reduceLE, Int.reduceAdd, Int.reduceSub, Int.reduceMul, Int.reduceToNat, Int.reduceNeg, Int.reduceTMod, Int.reduceEq, not_false_eq_true, Int.reducePow, Int.reduceFDiv, Nat.reducePow, Nat.reduceSub, Nat.reduceMul, Nat.min_eq_left, Nat.reduceEqDiff, BEq.rfl, Int.tdiv_one, LN_succ]
  refine CallO.on (deleteP_c 52 (nid + 104) nid (nid + 4) nla nlb A B (sameDie A B) (plV A) _ (by omega) (by omega) (by omega) (by omega) (by omega) (by omega) (by unfold plV; omega)
    (fun p hp nid' h1 h2 => changesF_c nid (nid + 4) nla nlb A B p nid' h1 h2 (by omega) hA hB (plV_in hA hp).1 (plV_in hA hp).2)) (subH_cons (by simp only [aqT, ROp, OX, ↓seqK, ↓blkK, ↓loopK, step, stepBin, res, stepIdx, mix, PV.cells, argSlots, Nat.reduceBEq, Nat.reduceBeqDiff, Nat.add_assoc nid, Nat.reduceAdd, reduceCtorEq, ↓reduceIte, Nat.reduceLeDiff, colPV, freeOf, indep, offO, neqO, disj, namesX, axSlot, opXs, rdXs, idsOf, idsOfs, lowH, lowAll, keys, Nat.reduceBneDiff, Option.toList, ← Int.ofNat_tmod, ← Int.ofNat_tdiv, optInt, fillP, repl, chunk, mkCols, mkCol, colInts, colBools, colStrs, colLits, colsApp, Col.app, tailOf, splice, colsPut, Col.put, mmFold, eqK, Nat.reduceLT, colsPaste, Col.paste, mNew, mkKey, keyIn, mGet, mPut, Int.cast_ofNat_Int, Int.reduceBEq, Int.reduceBNe, Int.reduceLT, Int.reduceLE, Int.reduceAdd, Int.reduceSub, Int.reduceMul, Int.reduceToNat, Int.reduceNeg, Int.reduceTMod, Int.reduceEq, not_false_eq_true, Int.reducePow, Int.reduceFDiv, Nat.reducePow, Nat.reduceSub, Nat.reduceMul, Nat.min_eq_left, Nat.reduceEqDiff, BEq.rfl, Int.tdiv_one, LN_succ, arrPl]) (subH_cons (by simp only [aqT, ROp, OX, ↓seqK, ↓blkK, ↓loopK, step, stepBin, res, stepIdx, mix, PV.cells, argSlots, Nat.reduceBEq, Nat.reduceBeqDiff, Nat.add_assoc nid, Nat.reduceAdd, reduceCtorEq, ↓reduceIte, Nat.reduceLeDiff, colPV, freeOf, indep, offO, neqO, disj, namesX, axSlot, opXs, rdXs, idsOf, idsOfs, lowH, lowAll, keys, Nat.reduceBneDiff, Option.toList, ← Int.ofNat_tmod, ← Int.ofNat_tdiv, optInt, fillP, repl, chunk, mkCols, mkCol, colInts, colBools, colStrs, colLits, colsApp, Col.app, tailOf, splice, colsPut, Col.put, mmFold, eqK, Nat.reduceLT, colsPaste, Col.paste, mNew, mkKey, keyIn, mGet, mPut, Int.cast_ofNat_Int, Int.reduceBEq, Int.reduceBNe, Int.reduceLT, Int.reduceLE, Int.reduceAdd, Int.reduceSub, Int.reduceMul, Int.reduceToNat, Int.reduceNeg, Int.reduceTMod, Int.reduceEq, not_false_eq_true, Int.reducePow, Int.reduceFDiv, Nat.reducePow, Nat.reduceSub, Nat.reduceMul, Nat.min_eq_left, Nat.reduceEqDiff, BEq.rfl, Int.tdiv_one, LN_succ, boxW]) (subH_get (by simp only [aqT, ROp, OX, ↓seqK, ↓blkK, ↓loopK, step, stepBin, res, stepIdx, mix, PV.cells, argSlots, Nat.reduceBEq, Nat.reduceBeqDiff, Nat.add_assoc nid, Nat.reduceAdd, reduceCtorEq, ↓reduceIte, Nat.reduceLeDiff, colPV, freeOf, indep, offO, neqO, disj, namesX, axSlot, opXs, rdXs, idsOf, idsOfs, lowH, lowAll, keys, Nat.reduceBneDiff, Option.toList, ← Int.ofNat_tmod, ← Int.ofNat_tdiv, optInt, fillP, repl, chunk, mkCols, mkCol, colInts, colBools, colStrs, colLits, colsApp, Col.app, tailOf, splice, colsPut, Col.put, mmFold, eqK, Nat.reduceLT, colsPaste, Col.paste, mNew, mkKey, keyIn, mGet, mPut, Int.cast_ofNat_Int, Int.reduceBEq, Int.reduceBNe, Int.reduceLT, Int.reduceLE, Int.reduceAdd, Int.reduceSub, Int.reduceMul, Int.reduceToNat, Int.reduceNeg, Int.reduceTMod, Int.reduceEq, not_false_eq_true, Int.reducePow, Int.reduceFDiv, Nat.reducePow, Nat.reduceSub, Nat.reduceMul, Nat.min_eq_left, Nat.reduceEqDiff, BEq.rfl, Int.tdiv_one, LN_succ, boxW])))) ?_
  unfold arrPl
  simp -dsimp only [aqT, ROp, OX, ↓seqK, ↓blkK, ↓loopK, step, stepBin, res, stepIdx, mix, PV.cells, argSlots, Nat.reduceBEq, Nat.reduceBeqDiff, Nat.add_assoc nid, Nat.reduceAdd, reduceCtorEq, ↓reduceIte, Nat.reduceLeDiff, colPV, freeOf, indep, offO, neqO, disj, namesX, axSlot, opXs, rdXs, idsOf, idsOfs, lowH, lowAll, keys, Nat.reduceBneDiff, Option.toList, ← Int.ofNat_tmod, ← Int.ofNat_tdiv, optInt, fillP, repl, chunk, mkCols, mkCol, colInts, colBools, colStrs, colLits, colsApp, Col.app, tailOf, splice, colsPut, Col.put, mmFold, eqK, Nat.reduceLT, colsPaste, Col.paste, mNew, mkKey, keyIn, mGet, mPut, Int.cast_ofNat_Int, Int.reduceBEq, Int.reduceBNe, Int.reduceLT, Int.reduceLE, Int.reduceAdd, Int.reduceSub, Int.reduceMul, Int.reduceToNat, Int.reduceNeg, Int.reduceTMod, Int.reduceEq, not_false_eq_true, Int.reducePow, Int.reduceFDiv, Nat.reducePow, Nat.reduceSub, Nat.reduceMul, Nat.min_eq_left, Nat.reduceEqDiff, BEq.rfl, Int.tdiv_one, LN_succ]
  refine SR.run (t := .mk) ?_
  simp -dsimp only [aqT, ROp, OX, ↓seqK, ↓blkK, ↓loopK, step, stepBin, res, stepIdx, mix, PV.cells, argSlots, Nat.reduceBEq, Nat.reduceBeqDiff, Nat.add_assoc nid, Nat.reduceAdd, reduceCtorEq, ↓reduceIte, Nat.reduceLeDiff, colPV, freeOf, indep, offO, neqO, disj, namesX, axSlot, opXs, rdXs, idsOf, idsOfs, lowH, lowAll, keys, Nat.reduceBneDiff, Option.toList, ← Int.ofNat_tmod, ← Int.ofNat_tdiv, optInt, fillP, repl, chunk, mkCols, mkCol, colInts, colBools, colStrs, colLits, colsApp, Col.app, tailOf, splice, colsPut, Col.put, mmFold, eqK, Nat.reduceLT, colsPaste, Col.paste, mNew, mkKey, keyIn, mGet, mPut, Int.cast_ofNat_Int, Int.reduceBEq, Int.reduceBNe, Int.reduceLT, Int.reduceLE, Int.reduceAdd, Int.reduceSub, Int.reduceMul, Int.reduceToNat, Int.reduceNeg, Int.reduceTMod, Int.reduceEq, not_false_eq_true, Int.reducePow, Int.reduceFDiv, Nat.reducePow, Nat.reduceSub, Nat.reduceMul, Nat.min_eq_left, Nat.reduceEqDiff, BEq.rfl, Int.tdiv_one, LN_succ]
  refine RetOK.go [(nid, nid + 104)] [] (.inl rfl) ?_
  simp [a20, retPV, over, keys, List.map_nil, List.map_cons, List.contains_cons, List.contains_nil, Bool.or_false, Bool.or_true, Bool.true_or, Bool.false_or, beq_self_eq_true, cond_true, cond_false, HeapCov, orNil, nilSz, onBlk, srcOf, getH_hit, getH_miss, getH.eq_1, getS_hit, getS_miss, getS.eq_1, BlkCov, PVCovs, PVCov, ColsEq, ColEq.refl, liveIds, SlotsCov, List.all_nil, List.all_cons, List.any_nil, List.any_cons, List.nil_append, List.cons_append, inRange, apart, nilBlk, idS1, idS2, readAll, readRes, onAll, step, res, AX.val, List.drop_zero, List.drop_succ_cons, List.take_succ_cons, List.take_zero, arrPl, chV, -List.getD_eq_getElem?_getD]
end Go.Proofs.YtmgfcjblclanmaaDoor
/-
  DERIVED: THE SHELF's CONTRACTS AT THIS DUMP, IN PLAIN WORDS (tools/lay-plain.mjs out of 'ZzShelf.lean', which tools/lay-shelf.mjs wrote): THE SAME DECLARATIONS UNDER THE SAME NAMES: 'import', 'namespace', 'open', 'def', 'theorem' AND NOTHING ELSE: no command of the shelf's: FOR A HAND-IN. Each laying: the table of numbers ('.._ren') and one theorem, a field a fact of the dump's own or the kernel's comparison; each contract: ONE APPLICATION.
-/
namespace Go.Proofs
open Go.Shelf
def Tryd.lays155_ren : Go.Shelf.Ren := ⟨fun | 155 => 16 | 154 => 47 | 138 => 88 | 165 => 89 | 143 => 90 | 166 => 91 | 197 => 92 | 169 => 93 | 195 => 108 | 218 => 109 | 240 => 110 | 241 => 111 | 219 => 112 | 260 => 113 | 276 => 122 | 277 => 123 | 217 => 105 | 225 => 124 | 224 => 125 | 267 => 126 | 266 => 117 | 314 => 141 | n => n, fun | 9 => 9 | 3 => 3 | 4 => 4 | 72 => 127 | 0 => 0 | 76 => 131 | 105 => 133 | 21 => 21 | 5 => 5 | 70 => 125 | 20 => 20 | 37 => 115 | 75 => 130 | 127 => 146 | 164 => 158 | 46 => 107 | 119 => 161 | 139 => 164 | 138 => 163 | 146 => 177 | 51 => 173 | 80 => 135 | n => n, fun | 1 => 0 | 3 => 1 | 4 => 2 | n => n⟩
theorem Tryd.lays155 : Go.Proofs.Lays.n155 Tryd.prog Tryd.lays155_ren := {
  mixed := by kernel_rfl
  f138 := Tryd.func88.trans (congrArg some (by kernel_rfl))
  f143 := Tryd.func90.trans (congrArg some (by kernel_rfl))
  f154 := Tryd.func47.trans (congrArg some (by kernel_rfl))
  f155 := Tryd.func16.trans (congrArg some (by kernel_rfl))
  f165 := Tryd.func89.trans (congrArg some (by kernel_rfl))
  f166 := Tryd.func91.trans (congrArg some (by kernel_rfl))
  f169 := Tryd.func93.trans (congrArg some (by kernel_rfl))
  f195 := Tryd.func108.trans (congrArg some (by kernel_rfl))
  f197 := Tryd.func92.trans (congrArg some (by kernel_rfl))
  f217 := Tryd.func105.trans (congrArg some (by kernel_rfl))
  f218 := Tryd.func109.trans (congrArg some (by kernel_rfl))
  f219 := Tryd.func112.trans (congrArg some (by kernel_rfl))
  f224 := Tryd.func125.trans (congrArg some (by kernel_rfl))
  f225 := Tryd.func124.trans (congrArg some (by kernel_rfl))
  f240 := Tryd.func110.trans (congrArg some (by kernel_rfl))
  f241 := Tryd.func111.trans (congrArg some (by kernel_rfl))
  f260 := Tryd.func113.trans (congrArg some (by kernel_rfl))
  f266 := Tryd.func117.trans (congrArg some (by kernel_rfl))
  f267 := Tryd.func126.trans (congrArg some (by kernel_rfl))
  f276 := Tryd.func122.trans (congrArg some (by kernel_rfl))
  f277 := Tryd.func123.trans (congrArg some (by kernel_rfl))
  f314 := Tryd.func141.trans (congrArg some (by kernel_rfl))
  t0 := Tryd.underlying0
  a0 := Tryd.isAgg0
  z0 := Tryd.sizeOf0
  v0 := Tryd.zeroValue0
  t3 := Tryd.underlying3
  a3 := Tryd.isAgg3
  z3 := Tryd.sizeOf3
  v3 := Tryd.zeroValue3
  t4 := Tryd.underlying4
  a4 := Tryd.isAgg4
  z4 := Tryd.sizeOf4
  v4 := Tryd.zeroValue4
  t5 := Tryd.underlying5
  a5 := Tryd.isAgg5
  z5 := Tryd.sizeOf5
  v5 := Tryd.zeroValue5
  t9 := Tryd.underlying9
  a9 := Tryd.isAgg9
  z9 := Tryd.sizeOf9
  v9 := Tryd.zeroValue9
  t20 := Tryd.underlying20
  a20 := Tryd.isAgg20
  z20 := Tryd.sizeOf20
  v20 := Tryd.zeroValue20
  t21 := Tryd.underlying21
  a21 := Tryd.isAgg21
  z21 := Tryd.sizeOf21
  v21 := Tryd.zeroValue21
  t37 := Tryd.underlying115
  a37 := Tryd.isAgg115
  z37 := Tryd.sizeOf115
  v37 := Tryd.zeroValue115
  t46 := Tryd.underlying107
  a46 := Tryd.isAgg107
  z46 := Tryd.sizeOf107
  v46 := Tryd.zeroValue107
  t51 := Tryd.underlying173
  a51 := Tryd.isAgg173
  z51 := Tryd.sizeOf173
  v51 := Tryd.zeroValue173
  t70 := Tryd.underlying125
  a70 := Tryd.isAgg125
  z70 := Tryd.sizeOf125
  v70 := Tryd.zeroValue125
  t72 := Tryd.underlying127
  a72 := Tryd.isAgg127
  z72 := Tryd.sizeOf127
  v72 := Tryd.zeroValue127
  t75 := Tryd.underlying130
  a75 := Tryd.isAgg130
  z75 := Tryd.sizeOf130
  v75 := Tryd.zeroValue130
  t76 := Tryd.underlying131
  a76 := Tryd.isAgg131
  z76 := Tryd.sizeOf131
  v76 := Tryd.zeroValue131
  t105 := Tryd.underlying133
  a105 := Tryd.isAgg133
  z105 := Tryd.sizeOf133
  v105 := Tryd.zeroValue133
  t119 := Tryd.underlying161
  a119 := Tryd.isAgg161
  z119 := Tryd.sizeOf161
  t127 := Tryd.underlying146
  a127 := Tryd.isAgg146
  z127 := Tryd.sizeOf146
  v127 := Tryd.zeroValue146
  t138 := Tryd.underlying163
  a138 := Tryd.isAgg163
  z138 := Tryd.sizeOf163
  v138 := Tryd.zeroValue163
  t139 := Tryd.underlying164
  a139 := Tryd.isAgg164
  z139 := Tryd.sizeOf164
  v139 := Tryd.zeroValue164
  t146 := Tryd.underlying177
  a146 := Tryd.isAgg177
  z146 := Tryd.sizeOf177
  v146 := Tryd.zeroValue177
  t164 := Tryd.underlying158
  a164 := Tryd.isAgg158
  z164 := Tryd.sizeOf158
  v164 := Tryd.zeroValue158
  g1 := by kernel_rfl
  g3 := by kernel_rfl
  g4 := by kernel_rfl }
end Go.Proofs
/-
  The library's strings.ReplaceAll at one byte, by the shelf's contract, as a call of the abstract machine.
-/
namespace Go.Proofs.YtmgfcjblclanmaaDoor
open Go.RowKit Go.Shelf Go.Lib
def swapB (a b : UInt8) (s : List UInt8) : List UInt8 := s.map fun c => if c = a then b else c
theorem replaceK_one (a b : UInt8) : ∀ (s : List UInt8) (k : Nat), s.count a ≤ k → Lib.replaceK [a] [b] k s = swapB a b s
  | [], 0, _ => rfl
  | [], k + 1, _ => by simp [Lib.replaceK, Lib.index, swapB]
  | c :: l, 0, h => by
    have h0 : (c :: l).count a = 0 := by omega
    rw [List.count_eq_zero] at h0
    have : swapB a b (c :: l) = c :: l := by
      unfold swapB
      conv => rhs; rw [← List.map_id (c :: l)]
      refine List.map_congr_left fun x hx => ?_
      rw [if_neg (fun e : x = a => h0 (by rw [← e]; exact hx))]
      rfl
    rw [this]
    rfl
  | c :: l, k + 1, h => by
    have hg := Lib.index_ge l [a]
    by_cases hc : c = a
    · subst hc
      have ih := replaceK_one c b l k (by rw [List.count_cons_self] at h; omega)
      have hi : Lib.index (c :: l) [c] = 0 := by simp [Lib.index]
      simp only [Lib.replaceK, hi]
      simp [ih, swapB]
    · have hp : ([a] : List UInt8).isPrefixOf (c :: l) = false := by
        simp [List.isPrefixOf]
        exact fun e => hc e.symm
      have ih := replaceK_one a b l (k + 1) (by rw [List.count_cons_of_ne (by simpa using hc)] at h; exact h)
      have hs : swapB a b (c :: l) = c :: swapB a b l := by simp [swapB, hc]
      rw [hs, ← ih]
      by_cases hm : Lib.index l [a] = -1
      · simp [Lib.replaceK, Lib.index, hp, hm]
      · have hm2 : (Lib.index l [a] == -1) = false := by simpa using hm
        have hi : Lib.index (c :: l) [a] = Lib.index l [a] + 1 := by simp only [Lib.index, hp, hm2]; simp
        have hm3 : (Lib.index l [a] + 1 == -1) = false := by rw [beq_eq_false_iff_ne]; omega
        obtain ⟨i, hi2⟩ : ∃ i : Nat, Lib.index l [a] = i := ⟨(Lib.index l [a]).toNat, by omega⟩
        have e1 : (Lib.index l [a] + 1).toNat = i + 1 := by omega
        have e2 : (Lib.index l [a]).toNat = i := by omega
        simp only [Lib.replaceK, hi, hm2, hm3, e1, e2, Bool.false_eq_true, if_false, List.length_cons, List.length_nil]
        simp
theorem replaceAll_one (a b : UInt8) (s : List UInt8) : Lib.replaceAll s [a] [b] = swapB a b s := by
  unfold Lib.replaceAll Lib.replace
  by_cases h : a = b
  · subst h
    have : swapB a a s = s := by
      unfold swapB
      conv => rhs; rw [← List.map_id s]
      refine List.map_congr_left fun x _ => ?_
      by_cases hx : x = a <;> simp [hx]
    simp [this]
  · have hab : (([a] : List UInt8) == [b]) = false := by simp [h]
    rw [hab]
    simp only [Bool.false_eq_true, if_false]
    refine replaceK_one a b s _ ?_
    unfold Lib.replaceNum
    rw [if_pos (.inl (by omega)), Lib.count_one]
    exact Nat.le_refl _
theorem extra155 : Builder.Extra Tryd.prog Tryd.lays155_ren where
  sizeBuilder := by kernel_rfl
  liesBuilder := by kernel_rfl
  t5 := Tryd.lays155.t5
  a5 := Tryd.lays155.a5
  z5 := Tryd.lays155.z5
  v5 := Tryd.lays155.v5
  infoByte := by kernel_rfl
  cellsByte := by kernel_rfl
  sizeByte := by kernel_rfl
  neB5 := by decide
theorem replace_cc (s : List UInt8) (a b : UInt8) (nid : Nat) (hs : s.length ≤ 1000000) : ACall Tryd.prog 16 [.str s, .str [a], .str [b]] [] nid (.str (swapB a b s)) [] :=
  acall_belowG (us := [.string ⟨s.toArray⟩, .string ⟨[a].toArray⟩, .string ⟨[b].toArray⟩]) nid Tryd.func16 (by kernel_rfl) (by kernel_rfl) rfl rfl (fun w hw => by
    obtain ⟨m, hm⟩ := hw.cell
    have hg : Tryd.lays155_ren.g 1 = 0 := by kernel_rfl
    have hc : Lib.countB ⟨s.toArray⟩ ⟨[a].toArray⟩ ≤ s.length := Lib.countB_le ⟨[a].toArray⟩ (Nat.le_refl 1) s.length ⟨s.toArray⟩ (Nat.le_refl _)
    have h := Any.strings_ReplaceAll Tryd.lays155 extra155 ⟨s.toArray⟩ ⟨[a].toArray⟩ ⟨[b].toArray⟩ m w (by show s.length < _; omega) (by rw [hg]; exact hm) (Nat.le_refl 1) (by show s.length + _ * 1 ≤ _; omega)
    have hf : Tryd.lays155_ren.f 155 = 16 := by kernel_rfl
    rw [hf] at h
    have e : Lib.replaceAll (ByteArray.mk s.toArray).data.toList (ByteArray.mk [a].toArray).data.toList (ByteArray.mk [b].toArray).data.toList = swapB a b s := by
      simpa using replaceAll_one a b s
    rw [e] at h
    exact h)
end Go.Proofs.YtmgfcjblclanmaaDoor
/-
  Wafers that are merged, plainly: rows of which one is the other with a byte turned into the sign of an untested die.
-/
namespace Go.Proofs.YtmgfcjblclanmaaDoor
set_option linter.unusedVariables false
theorem waferV_parts {W : Waf} (h : waferV W = 0) : W.rows.length ≠ 0 ∧ W.rows.length ≤ 60 ∧ passV W.pass = 0 := by
  unfold waferV at h
  split at h; · cases h
  split at h; · cases h
  split at h; · contradiction
  exact ⟨by assumption, by omega, h⟩
def goodRow (wide : Nat) (r : List UInt8) : Prop := r.length = wide ∧ oddB r = false
theorem rowBad_zero {wide : Nat} {r : List UInt8} (h0 : 0 < wide) (h1 : wide ≤ 60) (h : goodRow wide r) : rowBad wide r = 0 := by
  unfold rowBad
  rw [if_neg (by intro e; rw [e] at h; have := h.1; simp at this; omega), if_neg (by rw [h.1]; omega), if_neg (by rw [h.1]; simp), if_neg (by rw [h.2]; simp)]
theorem firstBad_zero {α : Type} {f : α → Int} : ∀ {l : List α}, (∀ x ∈ l, f x = 0) → firstBad f l = 0
  | [], _ => rfl
  | a :: l, h => by
    simp only [firstBad]
    rw [if_pos (h a (by simp))]
    exact firstBad_zero fun x hx => h x (by simp [hx])
theorem waferV_mk {R : List (List UInt8)} {P : List UInt8} {wide : Nat} (h0 : R.length ≠ 0) (h1 : R.length ≤ 60) (hw0 : 0 < wide) (hw1 : wide ≤ 60) (hr : ∀ i, i < R.length → goodRow wide (R.getD i [])) (hp : passV P = 0) : waferV ⟨R, P⟩ = 0 ∧ wideOf ⟨R, P⟩ = wide := by
  have hw : wideOf ⟨R, P⟩ = wide := (hr 0 (by omega)).1
  refine ⟨?_, hw⟩
  have hf : firstBad (rowBad (wideOf ⟨R, P⟩)) R = 0 := by
    rw [hw]
    refine firstBad_zero fun r hrm => ?_
    obtain ⟨i, hi, rfl⟩ := List.getElem_of_mem hrm
    have := hr i hi
    rw [List.getD_eq_getElem?_getD, List.getElem?_eq_getElem hi] at this
    exact rowBad_zero hw0 hw1 this
  unfold waferV
  simp only
  rw [if_neg h0, if_neg (by omega), hf, if_neg (by simp)]
  exact hp
/-- rows that agree, or of which one is not tested -/
def RelR (s t : List UInt8) : Prop := s.length = t.length ∧ ∀ i, i < s.length → (s.getD i 0 = t.getD i 0 ∨ t.getD i 0 = 63 ∨ s.getD i 0 = 63)
theorem swapB_len (a b : UInt8) (s : List UInt8) : (swapB a b s).length = s.length := by simp [swapB]
theorem swapB_at (a b : UInt8) {s : List UInt8} {i : Nat} (h : i < s.length) : (swapB a b s).getD i 0 = if s.getD i 0 = a then b else s.getD i 0 := by
  unfold swapB
  rw [List.getD_eq_getElem?_getD, List.getElem?_map, List.getElem?_eq_getElem h, List.getD_eq_getElem?_getD, List.getElem?_eq_getElem h]
  rfl
theorem relR_refl (s : List UInt8) : RelR s s := ⟨rfl, fun _ _ => .inl rfl⟩
theorem relR_swap (a : UInt8) (s : List UInt8) : RelR s (swapB a 63 s) := ⟨(swapB_len _ _ _).symm, fun i hi => by
  rw [swapB_at a 63 hi]
  by_cases h : s.getD i 0 = a
  · rw [if_pos h]; exact .inr (.inl rfl)
  · rw [if_neg h]; exact .inl rfl⟩
theorem RelR.symm {s t : List UInt8} (h : RelR s t) : RelR t s := ⟨h.1.symm, fun i hi => by
  rcases h.2 i (by rw [h.1]; exact hi) with e | e | e
  · exact .inl e.symm
  · exact .inr (.inr e)
  · exact .inr (.inl e)⟩
theorem odd_getD {s : List UInt8} : oddB s = false ↔ ∀ i, i < s.length → placeB (byteI (s.getD i 0)) = true := by
  unfold oddB
  rw [List.any_eq_false]
  constructor
  · intro h i hi
    have := h (s.getD i 0) (by rw [List.getD_eq_getElem?_getD, List.getElem?_eq_getElem hi]; exact List.getElem_mem _)
    simpa using this
  · intro h x hx
    obtain ⟨i, hi, rfl⟩ := List.getElem_of_mem hx
    have := h i hi
    rw [List.getD_eq_getElem?_getD, List.getElem?_eq_getElem hi] at this
    simpa using this
theorem goodRow_swap {wide : Nat} {s : List UInt8} (a : UInt8) (h : goodRow wide s) : goodRow wide (swapB a 63 s) := by
  refine ⟨(swapB_len _ _ _).trans h.1, odd_getD.2 fun i hi => ?_⟩
  rw [swapB_len] at hi
  rw [swapB_at a 63 hi]
  split
  · rfl
  · exact odd_getD.1 h.2 i hi
theorem zip_getD {α β γ : Type} (f : α → β → γ) (da : α) (db : β) (dc : γ) {l : List α} {m : List β} {k : Nat} (hl : k < l.length) (hm : k < m.length) : (List.zipWith f l m).getD k dc = f (l.getD k da) (m.getD k db) := by
  rw [List.getD_eq_getElem?_getD, List.getElem?_zipWith, List.getElem?_eq_getElem hl, List.getElem?_eq_getElem hm, List.getD_eq_getElem?_getD, List.getD_eq_getElem?_getD, List.getElem?_eq_getElem hl, List.getElem?_eq_getElem hm]
  rfl
theorem all_zip {α β : Type} (f : α → β → Bool) (da : α) (db : β) {l : List α} {m : List β} (hlm : l.length = m.length) (h : ∀ i, i < l.length → f (l.getD i da) (m.getD i db) = true) : (List.zipWith f l m).all id = true := by
  rw [List.all_eq_true]
  intro b hb
  obtain ⟨i, hi, rfl⟩ := List.getElem_of_mem hb
  rw [List.length_zipWith] at hi
  have := h i (by omega)
  rw [← zip_getD f da db false (by omega) (by omega)] at this
  rw [List.getD_eq_getElem?_getD, List.getElem?_eq_getElem (by rw [List.length_zipWith]; exact hi)] at this
  simpa using this
theorem RelR.ok {s t : List UInt8} (h : RelR s t) : okR s t = true := all_zip mergeO 0 0 h.1 fun i hi => by
  unfold mergeO
  simpa using h.2 i hi
theorem mergeB_comm {a d : UInt8} (h : a = d ∨ d = 63 ∨ a = 63) : mergeB a d = mergeB d a := by
  unfold mergeB
  by_cases e : a = d
  · subst e; rfl
  · by_cases h1 : d = 63
    · subst h1
      rw [if_pos (.inr rfl)]
      by_cases h2 : a = 63
      · exact absurd h2 e
      · rw [if_neg (by rintro (e' | e'); exact h2 e'.symm; exact h2 e')]
    · have h2 : a = 63 := by rcases h with h | h | h; exact absurd h e; exact absurd h h1; exact h
      subst h2
      rw [if_neg (by simp [e, h1]), if_pos (.inr rfl)]
theorem RelR.comm {s t : List UInt8} (h : RelR s t) : mergeR s t = mergeR t s := by
  apply List.ext_getElem
  · unfold mergeR; rw [zip_len _ h.1, zip_len _ h.1.symm]; exact h.1
  · intro i h1 h2
    unfold mergeR at h1 h2 ⊢
    rw [List.length_zipWith] at h1 h2
    rw [List.getElem_zipWith, List.getElem_zipWith]
    have := h.2 i (by omega)
    rw [List.getD_eq_getElem?_getD, List.getD_eq_getElem?_getD, List.getElem?_eq_getElem (by omega), List.getElem?_eq_getElem (by omega)] at this
    exact mergeB_comm this
/-- what a merged row has where it is not the one that was merged -/
theorem mergeR_left {s t : List UInt8} (h : RelR s t) {i : Nat} (hi : i < s.length) (hne : (mergeR s t).getD i 0 ≠ s.getD i 0) : s.getD i 0 = 63 := by
  unfold mergeR at hne
  rw [zip_getD mergeB 0 0 0 hi (by rw [← h.1]; exact hi)] at hne
  unfold mergeB at hne
  split at hne
  · exact absurd rfl hne
  · rename_i h2
    rcases h.2 i hi with e | e | e
    · exact absurd (.inl e) h2
    · exact absurd (.inr e) h2
    · exact e
theorem goodRow_merge {wide : Nat} {s t : List UInt8} (hs : goodRow wide s) (ht : goodRow wide t) : goodRow wide (mergeR s t) := by
  have hl : s.length = t.length := by rw [hs.1, ht.1]
  refine ⟨by unfold mergeR; rw [zip_len _ hl]; exact hs.1, odd_getD.2 fun i hi => ?_⟩
  unfold mergeR at hi ⊢
  rw [zip_len _ hl] at hi
  rw [zip_getD mergeB 0 0 0 hi (by omega)]
  unfold mergeB
  split
  · exact odd_getD.1 hs.2 i hi
  · exact odd_getD.1 ht.2 i (by omega)
/-- two lists of rows, so far changed -/
structure TwoRows (wide n i : Nat) (R T : List (List UInt8)) : Prop where
  r : R.length = n
  t : T.length = n
  gr : ∀ j, j < n → goodRow wide (R.getD j [])
  gt : ∀ j, j < n → goodRow wide (T.getD j [])
  rel : ∀ j, j < n → RelR (R.getD j []) (T.getD j [])
  same : ∀ j, i ≤ j → j < n → R.getD j [] = T.getD j []
theorem set_getD (l : List (List UInt8)) (i j : Nat) (x : List UInt8) (hi : i < l.length) : (l.set i x).getD j [] = if j = i then x else l.getD j [] := by
  have := congrFun (getD_setS l x hi) j
  exact this.symm
theorem TwoRows.left {wide n i : Nat} {R T : List (List UInt8)} (h : TwoRows wide n i R T) (hi : i < n) (a : UInt8) : TwoRows wide n (i + 1) (R.set i (swapB a 63 (T.getD i []))) T where
  r := by simp [h.r]
  t := h.t
  gr := fun j hj => by
    rw [set_getD _ _ _ _ (by rw [h.r]; exact hi)]
    split
    · exact goodRow_swap a (h.gt i hi)
    · exact h.gr j hj
  gt := h.gt
  rel := fun j hj => by
    rw [set_getD _ _ _ _ (by rw [h.r]; exact hi)]
    split
    · rename_i e; subst e; exact (relR_swap a _).symm
    · exact h.rel j hj
  same := fun j h1 h2 => by
    rw [set_getD _ _ _ _ (by rw [h.r]; exact hi), if_neg (by omega)]
    exact h.same j (by omega) h2
theorem TwoRows.right {wide n i : Nat} {R T : List (List UInt8)} (h : TwoRows wide n i R T) (hi : i < n) (a : UInt8) : TwoRows wide n (i + 1) R (T.set i (swapB a 63 (T.getD i []))) where
  r := h.r
  t := by simp [h.t]
  gr := h.gr
  gt := fun j hj => by
    rw [set_getD _ _ _ _ (by rw [h.t]; exact hi)]
    split
    · exact goodRow_swap a (h.gt i hi)
    · exact h.gt j hj
  rel := fun j hj => by
    rw [set_getD _ _ _ _ (by rw [h.t]; exact hi)]
    split
    · rename_i e; subst e; rw [h.same j (Nat.le_refl _) hj]; exact relR_swap a _
    · exact h.rel j hj
  same := fun j h1 h2 => by
    rw [set_getD _ _ _ _ (by rw [h.t]; exact hi), if_neg (by omega)]
    exact h.same j (by omega) h2
theorem TwoRows.swap {wide n i : Nat} {R T : List (List UInt8)} (h : TwoRows wide n i R T) : TwoRows wide n i T R where
  r := h.t
  t := h.r
  gr := h.gt
  gt := h.gr
  rel := fun j hj => (h.rel j hj).symm
  same := fun j h1 h2 => (h.same j h1 h2).symm
theorem TwoRows.merged_at {wide n i : Nat} {R T : List (List UInt8)} (h : TwoRows wide n i R T) {j : Nat} (hj : j < n) : (mergeRs R T).getD j [] = mergeR (R.getD j []) (T.getD j []) :=
  zip_getD mergeR [] [] [] (by rw [h.r]; exact hj) (by rw [h.t]; exact hj)
theorem TwoRows.mlen {wide n i : Nat} {R T : List (List UInt8)} (h : TwoRows wide n i R T) : (mergeRs R T).length = n := by
  unfold mergeRs; rw [zip_len _ (by rw [h.r, h.t]), h.r]
theorem TwoRows.okRs {wide n i : Nat} {R T : List (List UInt8)} (h : TwoRows wide n i R T) : Go.Proofs.YtmgfcjblclanmaaDoor.okRs R T = true :=
  all_zip okR [] [] (by rw [h.r, h.t]) fun j hj => (h.rel j (by rw [h.r] at hj; exact hj)).ok
theorem TwoRows.comm {wide n i : Nat} {R T : List (List UInt8)} (h : TwoRows wide n i R T) : mergeRs R T = mergeRs T R := by
  apply List.ext_getElem
  · rw [h.mlen, h.swap.mlen]
  · intro j h1 h2
    have hj : j < n := by rw [h.mlen] at h1; exact h1
    have e1 := h.merged_at hj
    have e2 := h.swap.merged_at hj
    rw [(h.rel j hj).comm, ← e2] at e1
    rw [List.getD_eq_getElem?_getD, List.getD_eq_getElem?_getD, List.getElem?_eq_getElem h1, List.getElem?_eq_getElem h2] at e1
    exact e1
structure Mg (wide n : Nat) (P : List UInt8) : Prop where
  n0 : n ≠ 0
  n1 : n ≤ 60
  w0 : 0 < wide
  w1 : wide ≤ 60
  p : passV P = 0
  pl : P.length ≤ 1000000
theorem goodBd {wide n : Nat} {P : List UInt8} (m : Mg wide n P) {R : List (List UInt8)} (hl : R.length = n) (hg : ∀ j, j < n → goodRow wide (R.getD j [])) : WafBd ⟨R, P⟩ :=
  ⟨by show R.length ≤ _; rw [hl]; have := m.n1; omega, fun r hr => by
    obtain ⟨j, hj, rfl⟩ := List.getElem_of_mem hr
    have h1 := (hg j (by rw [hl] at hj; exact hj)).1
    rw [List.getD_eq_getElem?_getD, List.getElem?_eq_getElem hj] at h1
    have h2 : (R[j]).length = wide := h1
    have := m.w1
    show (R[j]).length ≤ _
    omega, m.pl⟩
theorem pairOf {wide n : Nat} {P : List UInt8} (m : Mg wide n P) {R T : List (List UInt8)} (h1 : R.length = n) (h2 : T.length = n) (g1 : ∀ j, j < n → goodRow wide (R.getD j [])) (g2 : ∀ j, j < n → goodRow wide (T.getD j [])) : Pair2 ⟨R, P⟩ ⟨T, P⟩ := by
  have a := waferV_mk (P := P) (by rw [h1]; exact m.n0) (by rw [h1]; exact m.n1) m.w0 m.w1 (fun i hi => g1 i (by rw [h1] at hi; exact hi)) m.p
  have b := waferV_mk (P := P) (by rw [h2]; exact m.n0) (by rw [h2]; exact m.n1) m.w0 m.w1 (fun i hi => g2 i (by rw [h2] at hi; exact hi)) m.p
  exact ⟨a.1, b.1, by rw [h1, h2], by rw [a.2, b.2], rfl, goodBd m h1 g1, goodBd m h2 g2⟩
theorem TwoRows.pair {wide n i : Nat} {P : List UInt8} (m : Mg wide n P) {R T : List (List UInt8)} (h : TwoRows wide n i R T) : Pair2 ⟨R, P⟩ ⟨T, P⟩ := pairOf m h.r h.t h.gr h.gt
theorem TwoRows.gm {wide n i : Nat} {R T : List (List UInt8)} (h : TwoRows wide n i R T) : ∀ j, j < n → goodRow wide ((mergeRs R T).getD j []) := fun j hj => by
  rw [h.merged_at hj]; exact goodRow_merge (h.gr j hj) (h.gt j hj)
theorem TwoRows.pairM {wide n i : Nat} {P : List UInt8} (m : Mg wide n P) {R T : List (List UInt8)} (h : TwoRows wide n i R T) : Pair2 ⟨mergeRs R T, P⟩ ⟨R, P⟩ := pairOf m h.mlen h.r h.gm h.gr
/-- where a merged wafer is another one than the first, the first was not tested -/
theorem TwoRows.untested {wide n i : Nat} {P : List UInt8} (m : Mg wide n P) {R T : List (List UInt8)} (h : TwoRows wide n i R T) {p : Pt} (hp : p ∈ chV ⟨mergeRs R T, P⟩ ⟨R, P⟩) :
    ∃ x y : Nat, p = ((x : Int), (y : Int)) ∧ y < n ∧ x < (R.getD y []).length ∧ (R.getD y []).getD x 0 = 63 := by
  have hM := waferV_ok (h.pairM m).a
  have hR := waferV_ok (h.pairM m).b
  unfold chV keepP at hp
  rw [List.mem_filter] at hp
  obtain ⟨h1, h2⟩ := hp
  obtain ⟨x, y, rfl, hy, hx⟩ := plV_mem h1
  have hy' : y < n := by have : y < (mergeRs R T).length := hy; rw [h.mlen] at this; exact this
  have hwm : wideOf ⟨mergeRs R T, P⟩ = wide := (h.gm 0 (by have := m.n0; omega)).1
  have hwr : wideOf ⟨R, P⟩ = wide := (h.gr 0 (by have := m.n0; omega)).1
  have hxl : x < wide := by have := hx; rw [(h.gm y hy').1] at this; exact this
  have hxr : x < (R.getD y []).length := by rw [(h.gr y hy').1]; exact hxl
  refine ⟨x, y, rfl, hy', hxr, ?_⟩
  unfold sameDie at h2
  simp only [Bool.not_eq_true', beq_eq_false_iff_ne, ne_eq] at h2
  rw [dieV_in hy (by rw [hwm]; exact hxl), dieV_in (W := ⟨R, P⟩) (by show y < R.length; rw [h.r]; exact hy') (by rw [hwr]; exact hxl)] at h2
  rw [byteI_inj] at h2
  refine mergeR_left (h.rel y hy') hxr ?_
  rw [← h.merged_at hy']
  exact h2
end Go.Proofs.YtmgfcjblclanmaaDoor
/-
  The states of a test access port and the shortest path between two of them, by the abstract machine.
-/
namespace Go.Proofs.YtmgfcjblclanmaaDoor
open Go.RowKit
set_option linter.unusedVariables false
set_option linter.unusedSimpArgs false
set_option maxRecDepth 100000
/-- the next state, plainly -/
def stT : List (Nat × Nat) := [(1, 0), (1, 2), (3, 9), (4, 5), (4, 5), (6, 8), (6, 7), (4, 8), (1, 2), (10, 0), (11, 12), (11, 12), (13, 15), (13, 14), (11, 15), (1, 2)]
def nextN (s t : Nat) : Nat := if t = 0 then (stT.getD s (0, 0)).1 else (stT.getD s (0, 0)).2
def stCells : List PV := stT.flatMap fun x => [.int .i64 (x.1 : Nat), .int .i64 (x.2 : Nat)]
theorem stCells_get : ∀ s, s < 16 → ∀ t, t < 2 → ∃ r, stCells.drop (s * 2 + t) = .int .i64 (nextN s t : Nat) :: r := by
  intro s hs t ht
  rcases t with _ | _ | t
  · rcases s with _ | _ | _ | _ | _ | _ | _ | _ | _ | _ | _ | _ | _ | _ | _ | _ | s <;> first | exact ⟨_, rfl⟩ | omega
  · rcases s with _ | _ | _ | _ | _ | _ | _ | _ | _ | _ | _ | _ | _ | _ | _ | _ | s <;> first | exact ⟨_, rfl⟩ | omega
  · omega
theorem next_st (s t nid : Nat) (hs : s < 16) (ht : t < 2) : ACall Tryd.prog 107 [.int .i64 (s : Nat), .int .i64 (t : Nat)] [] nid (.int .i64 (nextN s t : Nat)) [] := by
  refine acall_run c107 (by simp [a107]) ?_
  obtain ⟨r, hr⟩ := stCells_get s hs t ht
  have e : stCells = [.int .i64 1, .int .i64 0, .int .i64 1, .int .i64 2, .int .i64 3, .int .i64 9, .int .i64 4, .int .i64 5, .int .i64 4, .int .i64 5, .int .i64 6, .int .i64 8, .int .i64 6, .int .i64 7, .int .i64 4, .int .i64 8,
    .int .i64 1, .int .i64 2, .int .i64 10, .int .i64 0, .int .i64 11, .int .i64 12, .int .i64 11, .int .i64 12, .int .i64 13, .int .i64 15, .int .i64 13, .int .i64 14, .int .i64 11, .int .i64 15, .int .i64 1, .int .i64 2] := rfl
  rw [e] at hr
  simp -dsimp only [a107, aqT, ROp, OX, ↓seqK, ↓blkK, ↓loopK, step, stepBin, res, stepIdx, mix, PV.cells, argSlots, Nat.reduceBEq, Nat.reduceBeqDiff, Nat.add_assoc nid, Nat.reduceAdd, reduceCtorEq, ↓reduceIte, Nat.reduceLeDiff, colPV, freeOf, indep, offO, neqO, disj, namesX, axSlot, opXs, rdXs, idsOf, idsOfs, lowH, lowAll, keys, Nat.reduceBneDiff, Option.toList, ← Int.ofNat_tmod, ← Int.ofNat_tdiv, optInt, fillP, repl, chunk, mkCols, mkCol, colInts, colBools, colStrs, colLits, colsApp, Col.app, tailOf, splice, colsPut, Col.put, mmFold, eqK, Nat.reduceLT, colsPaste, Col.paste, mNew, mkKey, keyIn, mGet, mPut]
  refine ⟨by omega, by omega, ?_⟩
  rw [Nat.mul_one, hr]
  simp -dsimp only [aqT, ROp, OX, ↓seqK, ↓blkK, ↓loopK, step, stepBin, res, stepIdx, mix, PV.cells, argSlots, Nat.reduceBEq, Nat.reduceBeqDiff, Nat.add_assoc nid, Nat.reduceAdd, reduceCtorEq, ↓reduceIte, Nat.reduceLeDiff, colPV, freeOf, indep, offO, neqO, disj, namesX, axSlot, opXs, rdXs, idsOf, idsOfs, lowH, lowAll, keys, Nat.reduceBneDiff, Option.toList, ← Int.ofNat_tmod, ← Int.ofNat_tdiv, optInt, fillP, repl, chunk, mkCols, mkCol, colInts, colBools, colStrs, colLits, colsApp, Col.app, tailOf, splice, colsPut, Col.put, mmFold, eqK, Nat.reduceLT, colsPaste, Col.paste, mNew, mkKey, keyIn, mGet, mPut]
  refine RetOK.pure (.inl rfl) rfl ?_
  simp [retPV, over, keys, List.map_nil, List.map_cons, List.contains_cons, List.contains_nil, Bool.or_false, Bool.or_true, Bool.true_or, Bool.false_or, beq_self_eq_true, cond_true, cond_false, HeapCov, orNil, nilSz, onBlk, srcOf, getH_hit, getH_miss, getH.eq_1, getS_hit, getS_miss, getS.eq_1, BlkCov, PVCovs, PVCov, ColsEq, ColEq.refl, liveIds, SlotsCov, List.all_nil, List.all_cons, List.any_nil, List.any_cons, List.nil_append, List.cons_append, inRange, apart, nilBlk, idS1, idS2, readAll, readRes, onAll, step, res, AX.val, List.drop_zero, List.drop_succ_cons, List.take_succ_cons, List.take_zero]
/-- the search for paths, plainly: the states to look at, and the ways found -/
def tlook : List (Nat × List UInt8) → MK → Option (List UInt8)
  | [], _ => none
  | (k, v) :: r, q => if q = .i (k : Nat) then some v else tlook r q
def pIn (a t : Nat) (x : List Nat × List (Nat × List UInt8)) : List Nat × List (Nat × List UInt8) :=
  if (tlook x.2 (.i (nextN a t : Nat))).isSome then x else (x.1 ++ [nextN a t], (nextN a t, (tlook x.2 (.i (a : Nat))).getD [] ++ [UInt8.ofNat (48 + t)]) :: x.2)
def pOut (x : List Nat × List (Nat × List UInt8)) : List Nat × List (Nat × List UInt8) := match x.1 with
  | [] => x
  | a :: r => pIn a 1 (pIn a 0 (r, x.2))
def pAt (s : Nat) : Nat → List Nat × List (Nat × List UInt8)
  | 0 => ([s], [(s, [])])
  | n + 1 => pOut (pAt s n)
def pathV (s t : Nat) : List UInt8 := (tlook (pAt s 16).2 (.i (t : Nat))).getD []
theorem pAt_ok : ∀ s, s < 16 → ((pAt s 16).1 = [] ∧ ∀ n, n < 17 → ((pAt s n).1.all (· < 16) = true ∧ (pAt s n).1.length ≤ 16 ∧ (pAt s n).2.all (fun x => decide (x.2.length ≤ 16)) = true)) := by decide
def pInTo (a : Nat) (x : List Nat × List (Nat × List UInt8)) : Nat → List Nat × List (Nat × List UInt8)
  | 0 => x
  | k + 1 => pIn a k (pInTo a x k)
theorem pInTo_len (a : Nat) (x : List Nat × List (Nat × List UInt8)) (k : Nat) : (pInTo a x k).1.length ≤ x.1.length + k := by
  induction k with
  | zero => exact Nat.le_refl _
  | succ k ih =>
    unfold pInTo pIn
    split
    · omega
    · simp; omega
theorem tlook_len {L : Nat} : ∀ {T : List (Nat × List UInt8)}, T.all (fun x => decide (x.2.length ≤ L)) = true → ∀ q, ((tlook T q).getD []).length ≤ L
  | [], _, q => by simp [tlook]
  | (k, v) :: r, h, q => by
    simp only [List.all_cons, Bool.and_eq_true, decide_eq_true_eq] at h
    unfold tlook
    split
    · exact h.1
    · exact tlook_len h.2 q
theorem pInTo_vals {L : Nat} (a : Nat) {x : List Nat × List (Nat × List UInt8)} (h : x.2.all (fun x => decide (x.2.length ≤ L)) = true) : ∀ k, (pInTo a x k).2.all (fun x => decide (x.2.length ≤ L + k)) = true
  | 0 => h
  | k + 1 => by
    have ih := pInTo_vals a h k
    have ih' : (pInTo a x k).2.all (fun x => decide (x.2.length ≤ L + (k + 1))) = true := by
      rw [List.all_eq_true] at ih ⊢
      intro y hy
      have := ih y hy
      simp only [decide_eq_true_eq] at this ⊢
      omega
    unfold pInTo pIn
    split
    · exact ih'
    · simp only [List.all_cons, Bool.and_eq_true, decide_eq_true_eq, ih', and_true, List.length_append, List.length_singleton]
      have := tlook_len ih (.i (a : Nat))
      omega
theorem optD (o : Option (List UInt8)) : (bif o.isSome then o.getD [] else []) = o.getD [] := by cases o <;> rfl
theorem utf8_bit {k : Nat} (hk : k < 2) : (Utf8.encode (IntKind.i32.wrap (48 + (k : Int)))).data.toList = [UInt8.ofNat (48 + k)] := by
  have : k = 0 ∨ k = 1 := by omega
  rcases this with rfl | rfl <;> rfl
theorem getD_snocN (l : List Nat) (x i : Nat) : (l ++ [x]).getD i 0 = if i < l.length then l.getD i 0 else if i = l.length then x else 0 := by
  simp only [List.getD_eq_getElem?_getD, List.getElem?_append]
  split
  · rfl
  · split
    · simp [*]
    · rw [List.getElem?_eq_none (by simp; omega)]; rfl
def mapT (T : List (Nat × List UInt8)) : Option ABlk := some (.map (.i .i64) (fun q => (tlook T q).isSome) (.s fun q => (tlook T q).getD []))
set_option maxHeartbeats 1000000 in
theorem path_st (s t nid : Nat) (hs : s < 16) : ACall Tryd.prog 82 [.int .i64 (s : Nat), .int .i64 (t : Nat)] [] nid (.str (pathV s t)) [] := by
  refine acall_run c82 (by simp [a82]) ?_
  simp -dsimp only [a82, aqT, ROp, OX, ↓seqK, ↓blkK, ↓loopK, step, stepBin, res, stepIdx, mix, PV.cells, argSlots, Nat.reduceBEq, Nat.reduceBeqDiff, Nat.add_assoc nid, Nat.reduceAdd, reduceCtorEq, ↓reduceIte, Nat.reduceLeDiff, colPV, freeOf, indep, offO, neqO, disj, namesX, axSlot, opXs, rdXs, idsOf, idsOfs, lowH, lowAll, keys, Nat.reduceBneDiff, Option.toList, ← Int.ofNat_tmod, ← Int.ofNat_tdiv, optInt, fillP, repl, chunk, mkCols, mkCol, colInts, colBools, colStrs, colLits, colsApp, Col.app, tailOf, splice, colsPut, Col.put, mmFold, eqK, Nat.reduceLT, colsPaste, Col.paste, mNew, mkKey, keyIn, mGet, mPut, mNew, mkKey, keyIn, mPut]
  refine LP.mkP (fun x : Nat × Nat × (Nat → Int) => x.1 ≤ 16) (fun x => ⟨[(6, .sl (nid + 4) x.2.1 (pAt s x.1).1.length), (5, .mp (nid + 8)), (1, .int .i64 (t : Nat))],
    [(nid + 4, some (.arr 3 (x.2.1 + (pAt s x.1).1.length) [.i .i64 fun i => if i < x.2.1 then x.2.2 i else (((pAt s x.1).1.getD (i - x.2.1) 0 : Nat) : Int)])), (nid + 8, mapT (pAt s x.1).2)], nid + 100, nid⟩)
    (fun x => 17 - x.1) (0, 0, fun _ => 0) (by simp) (Cov.go [(nid + 4, nid + 28), (nid + 8, nid + 4)] [] ?_) (fun x hx => ?_)
  · simp [retPV, over, keys, List.map_nil, List.map_cons, List.contains_cons, List.contains_nil, Bool.or_false, Bool.or_true, Bool.true_or, Bool.false_or, beq_self_eq_true, cond_true, cond_false, HeapCov, orNil, nilSz, onBlk, srcOf, getH_hit, getH_miss, getH.eq_1, getS_hit, getS_miss, getS.eq_1, BlkCov, PVCovs, PVCov, ColsEq, ColEq.refl, liveIds, SlotsCov, List.all_nil, List.all_cons, List.any_nil, List.any_cons, List.nil_append, List.cons_append, inRange, apart, nilBlk, idS1, idS2, readAll, readRes, onAll, step, res, AX.val, List.drop_zero, List.drop_succ_cons, List.take_succ_cons, List.take_zero, pAt, mapT]
    refine ⟨ColEq.i fun i hi => ?_, fun q hq => ?_⟩
    · have : i = 0 := by omega
      subst this; rfl
    · unfold tlook tlook
      split <;> simp [*, mVal]
  obtain ⟨n, d, g⟩ := x
  simp only at hx
  obtain ⟨ok1, ok2⟩ := pAt_ok s hs
  have ok := ok2 n (by omega)
  have hst : pAt s (n + 1) = pOut (pAt s n) := rfl
  unfold mapT
  simp -dsimp only [aqT, ROp, OX, ↓seqK, ↓blkK, ↓loopK, step, stepBin, res, stepIdx, mix, PV.cells, argSlots, Nat.reduceBEq, Nat.reduceBeqDiff, Nat.add_assoc nid, Nat.reduceAdd, reduceCtorEq, ↓reduceIte, Nat.reduceLeDiff, colPV, freeOf, indep, offO, neqO, disj, namesX, axSlot, opXs, rdXs, idsOf, idsOfs, lowH, lowAll, keys, Nat.reduceBneDiff, Option.toList, ← Int.ofNat_tmod, ← Int.ofNat_tdiv, optInt, fillP, repl, chunk, mkCols, mkCol, colInts, colBools, colStrs, colLits, colsApp, Col.app, tailOf, splice, colsPut, Col.put, mmFold, eqK, Nat.reduceLT, colsPaste, Col.paste, mNew, mkKey, keyIn, mGet, mPut]
  refine S2.dec (fun h1 => ?_) (fun h1 => ?_)
  · have hn : n < 16 := by
      rcases Nat.lt_or_ge n 16 with h | h
      · exact h
      · have : n = 16 := by omega
        subst this; rw [ok1] at h1; simp at h1
    rcases hQ : pAt s n with ⟨Q, T⟩
    rw [hQ] at ok hst h1
    rcases Q with _ | ⟨a, r⟩
    · simp at h1
    simp only [List.all_cons, Bool.and_eq_true, decide_eq_true_eq, List.length_cons] at ok
    obtain ⟨⟨ha, hr⟩, hlen, hvl⟩ := ok
    have hst : pAt s (n + 1) = pInTo a (r, T) 2 := hst
    simp -dsimp only [aqT, ROp, OX, ↓seqK, ↓blkK, ↓loopK, step, stepBin, res, stepIdx, mix, PV.cells, argSlots, Nat.reduceBEq, Nat.reduceBeqDiff, Nat.add_assoc nid, Nat.reduceAdd, reduceCtorEq, ↓reduceIte, Nat.reduceLeDiff, colPV, freeOf, indep, offO, neqO, disj, namesX, axSlot, opXs, rdXs, idsOf, idsOfs, lowH, lowAll, keys, Nat.reduceBneDiff, Option.toList, ← Int.ofNat_tmod, ← Int.ofNat_tdiv, optInt, fillP, repl, chunk, mkCols, mkCol, colInts, colBools, colStrs, colLits, colsApp, Col.app, tailOf, splice, colsPut, Col.put, mmFold, eqK, Nat.reduceLT, colsPaste, Col.paste, mNew, mkKey, keyIn, mGet, mPut]
    refine ⟨by omega, by omega, LP.mkP (fun x : Nat × Nat × (Nat → Int) => x.1 ≤ 2) (fun x => ⟨[(25, .int .i64 (x.1 : Nat)), (7, .int .i64 (a : Nat)), (6, .sl (nid + 4) x.2.1 (pInTo a (r, T) x.1).1.length), (5, .mp (nid + 8)), (1, .int .i64 (t : Nat))],
      [(nid + 4, some (.arr 3 (x.2.1 + (pInTo a (r, T) x.1).1.length) [.i .i64 fun i => if i < x.2.1 then x.2.2 i else (((pInTo a (r, T) x.1).1.getD (i - x.2.1) 0 : Nat) : Int)])), (nid + 8, mapT (pInTo a (r, T) x.1).2)], nid + 200, nid⟩)
      (fun x => 3 - x.1) (0, d + 1, fun i => if i < d then g i else (((a :: r).getD (i - d) 0 : Nat) : Int)) (by simp) (Cov.go [] [] ?_) (fun y hy => ?_)⟩
    · simp [retPV, over, keys, List.map_nil, List.map_cons, List.contains_cons, List.contains_nil, Bool.or_false, Bool.or_true, Bool.true_or, Bool.false_or, beq_self_eq_true, cond_true, cond_false, HeapCov, orNil, nilSz, onBlk, srcOf, getH_hit, getH_miss, getH.eq_1, getS_hit, getS_miss, getS.eq_1, BlkCov, PVCovs, PVCov, ColsEq, ColEq.refl, liveIds, SlotsCov, List.all_nil, List.all_cons, List.any_nil, List.any_cons, List.nil_append, List.cons_append, inRange, apart, nilBlk, idS1, idS2, readAll, readRes, onAll, step, res, AX.val, List.drop_zero, List.drop_succ_cons, List.take_succ_cons, List.take_zero, pInTo, mapT, -List.getD_eq_getElem?_getD]
      refine ⟨⟨by omega, ColEq.i fun i hi => ?_⟩, by simp⟩
      by_cases hid : i < d + 1
      · rw [if_pos hid]
      · rw [if_neg hid, if_neg (by omega), show i - d = i - (d + 1) + 1 from by omega]
        rfl
    obtain ⟨k, d2, g2⟩ := y
    simp only at hy
    unfold mapT
    have hql := pInTo_len a (r, T) k
    have hqv := pInTo_vals a (x := (r, T)) hvl k
    rcases hX : pInTo a (r, T) k with ⟨Q2, T2⟩
    have hk1 : pInTo a (r, T) (k + 1) = pIn a k (Q2, T2) := by rw [← hX]; rfl
    rw [hX] at hql hqv
    simp only at hql hqv
    have hsl := tlook_len hqv (.i (a : Nat))
    simp -dsimp only [aqT, ROp, OX, ↓seqK, ↓blkK, ↓loopK, step, stepBin, res, stepIdx, mix, PV.cells, argSlots, Nat.reduceBEq, Nat.reduceBeqDiff, Nat.add_assoc nid, Nat.reduceAdd, reduceCtorEq, ↓reduceIte, Nat.reduceLeDiff, colPV, freeOf, indep, offO, neqO, disj, namesX, axSlot, opXs, rdXs, idsOf, idsOfs, lowH, lowAll, keys, Nat.reduceBneDiff, Option.toList, ← Int.ofNat_tmod, ← Int.ofNat_tdiv, optInt, fillP, repl, chunk, mkCols, mkCol, colInts, colBools, colStrs, colLits, colsApp, Col.app, tailOf, splice, colsPut, Col.put, mmFold, eqK, Nat.reduceLT, colsPaste, Col.paste, mNew, mkKey, keyIn, mGet, mPut, hX]
    refine S2.dec (fun h2 => ?_) (fun h2 => ?_)
    · simp -dsimp only [aqT, ROp, OX, ↓seqK, ↓blkK, ↓loopK, step, stepBin, res, stepIdx, mix, PV.cells, argSlots, Nat.reduceBEq, Nat.reduceBeqDiff, Nat.add_assoc nid, Nat.reduceAdd, reduceCtorEq, ↓reduceIte, Nat.reduceLeDiff, colPV, freeOf, indep, offO, neqO, disj, namesX, axSlot, opXs, rdXs, idsOf, idsOfs, lowH, lowAll, keys, Nat.reduceBneDiff, Option.toList, ← Int.ofNat_tmod, ← Int.ofNat_tdiv, optInt, fillP, repl, chunk, mkCols, mkCol, colInts, colBools, colStrs, colLits, colsApp, Col.app, tailOf, splice, colsPut, Col.put, mmFold, eqK, Nat.reduceLT, colsPaste, Col.paste, mNew, mkKey, keyIn, mGet, mPut]
      refine CallO.pure (next_st a k _ ha (by omega)) ?_
      simp -dsimp only [aqT, ROp, OX, ↓seqK, ↓blkK, ↓loopK, step, stepBin, res, stepIdx, mix, PV.cells, argSlots, Nat.reduceBEq, Nat.reduceBeqDiff, Nat.add_assoc nid, Nat.reduceAdd, reduceCtorEq, ↓reduceIte, Nat.reduceLeDiff, colPV, freeOf, indep, offO, neqO, disj, namesX, axSlot, opXs, rdXs, idsOf, idsOfs, lowH, lowAll, keys, Nat.reduceBneDiff, Option.toList, ← Int.ofNat_tmod, ← Int.ofNat_tdiv, optInt, fillP, repl, chunk, mkCols, mkCol, colInts, colBools, colStrs, colLits, colsApp, Col.app, tailOf, splice, colsPut, Col.put, mmFold, eqK, Nat.reduceLT, colsPaste, Col.paste, mNew, mkKey, keyIn, mGet, mPut, mkKey, keyIn, mGet, optD]
      refine S2.intro (fun h3 => ?_) (fun h3 => ?_)
      · have h3' : (tlook T2 (.i (nextN a k : Nat))).isSome = false := by simpa using h3
        rw [show pIn a k (Q2, T2) = (Q2 ++ [nextN a k], (nextN a k, (tlook T2 (.i (a : Nat))).getD [] ++ [UInt8.ofNat (48 + k)]) :: T2) from by unfold pIn; rw [if_neg (by rw [h3']; simp)]] at hk1
        simp -dsimp only [aqT, ROp, OX, ↓seqK, ↓blkK, ↓loopK, step, stepBin, res, stepIdx, mix, PV.cells, argSlots, Nat.reduceBEq, Nat.reduceBeqDiff, Nat.add_assoc nid, Nat.reduceAdd, reduceCtorEq, ↓reduceIte, Nat.reduceLeDiff, colPV, freeOf, indep, offO, neqO, disj, namesX, axSlot, opXs, rdXs, idsOf, idsOfs, lowH, lowAll, keys, Nat.reduceBneDiff, Option.toList, ← Int.ofNat_tmod, ← Int.ofNat_tdiv, optInt, fillP, repl, chunk, mkCols, mkCol, colInts, colBools, colStrs, colLits, colsApp, Col.app, tailOf, splice, colsPut, Col.put, mmFold, eqK, Nat.reduceLT, colsPaste, Col.paste, mNew, mkKey, keyIn, mGet, mPut, mkKey, keyIn, mGet, mPut, optD, utf8_bit (show k < 2 by omega)]
        refine ⟨by unfold inI64; omega, by simp; omega, ?_⟩
        cases hd2 : d2 == 0
        · simp -dsimp only [aqT, ROp, OX, ↓seqK, ↓blkK, ↓loopK, step, stepBin, res, stepIdx, mix, PV.cells, argSlots, Nat.reduceBEq, Nat.reduceBeqDiff, Nat.add_assoc nid, Nat.reduceAdd, reduceCtorEq, ↓reduceIte, Nat.reduceLeDiff, colPV, freeOf, indep, offO, neqO, disj, namesX, axSlot, opXs, rdXs, idsOf, idsOfs, lowH, lowAll, keys, Nat.reduceBneDiff, Option.toList, ← Int.ofNat_tmod, ← Int.ofNat_tdiv, optInt, fillP, repl, chunk, mkCols, mkCol, colInts, colBools, colStrs, colLits, colsApp, Col.app, tailOf, splice, colsPut, Col.put, mmFold, eqK, Nat.reduceLT, colsPaste, Col.paste, mNew, mkKey, keyIn, mGet, mPut, Col.shift]
          refine ⟨⟨by omega, by omega⟩, by unfold inI64; omega, (k + 1, 0, fun _ => 0), ⟨by omega, by omega⟩, Cov.go [(nid + 4, nid + 324)] [] ?_⟩
          rw [hk1]
          simp [retPV, over, keys, List.map_nil, List.map_cons, List.contains_cons, List.contains_nil, Bool.or_false, Bool.or_true, Bool.true_or, Bool.false_or, beq_self_eq_true, cond_true, cond_false, HeapCov, orNil, nilSz, onBlk, srcOf, getH_hit, getH_miss, getH.eq_1, getS_hit, getS_miss, getS.eq_1, BlkCov, PVCovs, PVCov, ColsEq, ColEq.refl, liveIds, SlotsCov, List.all_nil, List.all_cons, List.any_nil, List.any_cons, List.nil_append, List.cons_append, inRange, apart, nilBlk, idS1, idS2, readAll, readRes, onAll, step, res, AX.val, List.drop_zero, List.drop_succ_cons, List.take_succ_cons, List.take_zero, mapT, -List.getD_eq_getElem?_getD]
          refine ⟨ColEq.i fun i hi => ?_, fun q hq => ?_⟩
          · rw [getD_snocN]
            by_cases h : i < Q2.length
            · simp only [if_pos h, if_neg (show ¬ d2 + i < d2 by omega)]
            · have : i = Q2.length := by omega
              subst this
              simp
          · simp only [tlook, mVal]
            by_cases h : q = .i (nextN a k : Nat)
            · simp [h]
            · simp [h]
        · have hd0 : d2 = 0 := by simpa using hd2
          subst hd0
          simp -dsimp only [aqT, ROp, OX, ↓seqK, ↓blkK, ↓loopK, step, stepBin, res, stepIdx, mix, PV.cells, argSlots, Nat.reduceBEq, Nat.reduceBeqDiff, Nat.add_assoc nid, Nat.reduceAdd, reduceCtorEq, ↓reduceIte, Nat.reduceLeDiff, colPV, freeOf, indep, offO, neqO, disj, namesX, axSlot, opXs, rdXs, idsOf, idsOfs, lowH, lowAll, keys, Nat.reduceBneDiff, Option.toList, ← Int.ofNat_tmod, ← Int.ofNat_tdiv, optInt, fillP, repl, chunk, mkCols, mkCol, colInts, colBools, colStrs, colLits, colsApp, Col.app, tailOf, splice, colsPut, Col.put, mmFold, eqK, Nat.reduceLT, colsPaste, Col.paste, mNew, mkKey, keyIn, mGet, mPut]
          refine ⟨⟨by omega, by omega⟩, by unfold inI64; omega, (k + 1, 0, fun _ => 0), ⟨by omega, by omega⟩, Cov.go [(nid + 4, nid + 324)] [] ?_⟩
          rw [hk1]
          simp [retPV, over, keys, List.map_nil, List.map_cons, List.contains_cons, List.contains_nil, Bool.or_false, Bool.or_true, Bool.true_or, Bool.false_or, beq_self_eq_true, cond_true, cond_false, HeapCov, orNil, nilSz, onBlk, srcOf, getH_hit, getH_miss, getH.eq_1, getS_hit, getS_miss, getS.eq_1, BlkCov, PVCovs, PVCov, ColsEq, ColEq.refl, liveIds, SlotsCov, List.all_nil, List.all_cons, List.any_nil, List.any_cons, List.nil_append, List.cons_append, inRange, apart, nilBlk, idS1, idS2, readAll, readRes, onAll, step, res, AX.val, List.drop_zero, List.drop_succ_cons, List.take_succ_cons, List.take_zero, mapT, -List.getD_eq_getElem?_getD]
          refine ⟨ColEq.i fun i hi => ?_, fun q hq => ?_⟩
          · rw [getD_snocN]
            by_cases h : i < Q2.length
            · simp only [if_pos h]
            · have : i = Q2.length := by omega
              subst this
              simp
          · simp only [tlook, mVal]
            by_cases h : q = .i (nextN a k : Nat)
            · simp [h]
            · simp [h]
      · have h3' : (tlook T2 (.i (nextN a k : Nat))).isSome = true := by simpa using h3
        rw [show pIn a k (Q2, T2) = (Q2, T2) from by unfold pIn; rw [if_pos h3']] at hk1
        simp -dsimp only [aqT, ROp, OX, ↓seqK, ↓blkK, ↓loopK, step, stepBin, res, stepIdx, mix, PV.cells, argSlots, Nat.reduceBEq, Nat.reduceBeqDiff, Nat.add_assoc nid, Nat.reduceAdd, reduceCtorEq, ↓reduceIte, Nat.reduceLeDiff, colPV, freeOf, indep, offO, neqO, disj, namesX, axSlot, opXs, rdXs, idsOf, idsOfs, lowH, lowAll, keys, Nat.reduceBneDiff, Option.toList, ← Int.ofNat_tmod, ← Int.ofNat_tdiv, optInt, fillP, repl, chunk, mkCols, mkCol, colInts, colBools, colStrs, colLits, colsApp, Col.app, tailOf, splice, colsPut, Col.put, mmFold, eqK, Nat.reduceLT, colsPaste, Col.paste, mNew, mkKey, keyIn, mGet, mPut]
        refine ⟨by unfold inI64; omega, (k + 1, d2, g2), ⟨by omega, by omega⟩, Cov.go [] [] ?_⟩
        rw [hk1]
        simp [retPV, over, keys, List.map_nil, List.map_cons, List.contains_cons, List.contains_nil, Bool.or_false, Bool.or_true, Bool.true_or, Bool.false_or, beq_self_eq_true, cond_true, cond_false, HeapCov, orNil, nilSz, onBlk, srcOf, getH_hit, getH_miss, getH.eq_1, getS_hit, getS_miss, getS.eq_1, BlkCov, PVCovs, PVCov, ColsEq, ColEq.refl, liveIds, SlotsCov, List.all_nil, List.all_cons, List.any_nil, List.any_cons, List.nil_append, List.cons_append, inRange, apart, nilBlk, idS1, idS2, readAll, readRes, onAll, step, res, AX.val, List.drop_zero, List.drop_succ_cons, List.take_succ_cons, List.take_zero, mapT]
    · have hk2 : k = 2 := by omega
      subst hk2
      simp -dsimp only [aqT, ROp, OX, ↓seqK, ↓blkK, ↓loopK, step, stepBin, res, stepIdx, mix, PV.cells, argSlots, Nat.reduceBEq, Nat.reduceBeqDiff, Nat.add_assoc nid, Nat.reduceAdd, reduceCtorEq, ↓reduceIte, Nat.reduceLeDiff, colPV, freeOf, indep, offO, neqO, disj, namesX, axSlot, opXs, rdXs, idsOf, idsOfs, lowH, lowAll, keys, Nat.reduceBneDiff, Option.toList, ← Int.ofNat_tmod, ← Int.ofNat_tdiv, optInt, fillP, repl, chunk, mkCols, mkCol, colInts, colBools, colStrs, colLits, colsApp, Col.app, tailOf, splice, colsPut, Col.put, mmFold, eqK, Nat.reduceLT, colsPaste, Col.paste, mNew, mkKey, keyIn, mGet, mPut]
      refine ⟨(n + 1, d2, g2), ⟨by omega, by omega⟩, Cov.go [] [] ?_⟩
      rw [hst, hX]
      simp [retPV, over, keys, List.map_nil, List.map_cons, List.contains_cons, List.contains_nil, Bool.or_false, Bool.or_true, Bool.true_or, Bool.false_or, beq_self_eq_true, cond_true, cond_false, HeapCov, orNil, nilSz, onBlk, srcOf, getH_hit, getH_miss, getH.eq_1, getS_hit, getS_miss, getS.eq_1, BlkCov, PVCovs, PVCov, ColsEq, ColEq.refl, liveIds, SlotsCov, List.all_nil, List.all_cons, List.any_nil, List.any_cons, List.nil_append, List.cons_append, inRange, apart, nilBlk, idS1, idS2, readAll, readRes, onAll, step, res, AX.val, List.drop_zero, List.drop_succ_cons, List.take_succ_cons, List.take_zero, mapT]
  · simp -dsimp only [aqT, ROp, OX, ↓seqK, ↓blkK, ↓loopK, step, stepBin, res, stepIdx, mix, PV.cells, argSlots, Nat.reduceBEq, Nat.reduceBeqDiff, Nat.add_assoc nid, Nat.reduceAdd, reduceCtorEq, ↓reduceIte, Nat.reduceLeDiff, colPV, freeOf, indep, offO, neqO, disj, namesX, axSlot, opXs, rdXs, idsOf, idsOfs, lowH, lowAll, keys, Nat.reduceBneDiff, Option.toList, ← Int.ofNat_tmod, ← Int.ofNat_tdiv, optInt, fillP, repl, chunk, mkCols, mkCol, colInts, colBools, colStrs, colLits, colsApp, Col.app, tailOf, splice, colsPut, Col.put, mmFold, eqK, Nat.reduceLT, colsPaste, Col.paste, mNew, mkKey, keyIn, mGet, mPut, mkKey, keyIn, mGet, optD]
    have h0 : (pAt s n).1 = [] := List.eq_nil_of_length_eq_zero (by omega)
    have h16 : ∀ j, (pAt s (n + j)) = pAt s n := by
      intro j
      induction j with
      | zero => rfl
      | succ j ih =>
        show pOut (pAt s (n + j)) = _
        rw [ih]
        unfold pOut
        rw [h0]
    have := h16 (16 - n)
    rw [show n + (16 - n) = 16 from by omega] at this
    refine RetOK.pure (.inl rfl) rfl ?_
    simp [retPV, over, keys, List.map_nil, List.map_cons, List.contains_cons, List.contains_nil, Bool.or_false, Bool.or_true, Bool.true_or, Bool.false_or, beq_self_eq_true, cond_true, cond_false, HeapCov, orNil, nilSz, onBlk, srcOf, getH_hit, getH_miss, getH.eq_1, getS_hit, getS_miss, getS.eq_1, BlkCov, PVCovs, PVCov, ColsEq, ColEq.refl, liveIds, SlotsCov, List.all_nil, List.all_cons, List.any_nil, List.any_cons, List.nil_append, List.cons_append, inRange, apart, nilBlk, idS1, idS2, readAll, readRes, onAll, step, res, AX.val, List.drop_zero, List.drop_succ_cons, List.take_succ_cons, List.take_zero, pathV, this]
end Go.Proofs.YtmgfcjblclanmaaDoor
/-
  The yield of the wafer with one row of two dies, by the abstract machine.
-/
namespace Go.Proofs.YtmgfcjblclanmaaDoor
open Go.RowKit
set_option linter.unusedVariables false
set_option linter.unusedSimpArgs false
set_option maxRecDepth 100000
def w1x (nl : Bool) : PV := .lit nl 1 [.s fun i => [[49, 120]].getD i []]
theorem out_00 : outB 0 0 0 = false := by decide
theorem out_01 : outB 0 0 1 = false := by decide
theorem out_11 : outB 1 0 1 = false := by decide
theorem t49 : (isBinV 49 || (49 : Int) == 42) = true := by decide
theorem t120 : (isBinV 120 || (120 : Int) == 42) = true := by decide
theorem p49 : passedV [49] 49 = true := by decide
theorem p120 : passedV [49] 120 = false := by decide
theorem s1x : (([49, 120] : List UInt8) == []) = false := by decide
theorem at_1x (nl : Bool) (x : Int) (c : Int) (hx : (x = 0 ∧ c = 49) ∨ (x = 1 ∧ c = 120)) (nid : Nat) : ACall Tryd.prog 35 [.agg [w1x nl, .str [49]], .agg [.int .i64 x, .int .i64 0]] [] nid (.int .u8 c) [] := by
  refine acall_run c35 (by simp [a35]) ?_
  unfold w1x
  rcases hx with ⟨rfl, rfl⟩ | ⟨rfl, rfl⟩
  · simp -dsimp only [a35, aqT, ROp, OX, ↓seqK, ↓blkK, ↓loopK, step, stepBin, res, stepIdx, mix, PV.cells, argSlots, Nat.reduceBEq, Nat.reduceBeqDiff, Nat.add_assoc nid, Nat.reduceAdd, reduceCtorEq, ↓reduceIte, Nat.reduceLeDiff, colPV, freeOf, indep, offO, neqO, disj, namesX, axSlot, opXs, rdXs, idsOf, idsOfs, lowH, lowAll, keys, Nat.reduceBneDiff, Option.toList, ← Int.ofNat_tmod, ← Int.ofNat_tdiv, optInt, fillP, repl, chunk, mkCols, mkCol, colInts, colBools, colStrs, colLits, colsApp, Col.app, tailOf, splice, colsPut, Col.put, mmFold, eqK, Nat.reduceLT, colsPaste, Col.paste, mNew, mkKey, keyIn, mGet, mPut, Int.cast_ofNat_Int, Int.reduceBEq, Int.reduceBNe, Int.reduceLT, Int.reduceLE, Int.reduceAdd, Int.reduceSub, Int.reduceMul, Int.reduceToNat, Int.reduceNeg, Int.reduceTMod, Int.reduceEq, not_false_eq_true, Int.reducePow, Int.reduceFDiv, Nat.reducePow, Nat.reduceSub, Nat.reduceMul, Nat.min_eq_left, Nat.reduceEqDiff, BEq.rfl, Int.tdiv_one, LN_succ]
    refine ⟨by unfold inI64; omega, CallX.pure (out_c _ _ _ _) ?_⟩
    simp -dsimp only [aqT, ROp, OX, ↓seqK, ↓blkK, ↓loopK, step, stepBin, res, stepIdx, mix, PV.cells, argSlots, Nat.reduceBEq, Nat.reduceBeqDiff, Nat.add_assoc nid, Nat.reduceAdd, reduceCtorEq, ↓reduceIte, Nat.reduceLeDiff, colPV, freeOf, indep, offO, neqO, disj, namesX, axSlot, opXs, rdXs, idsOf, idsOfs, lowH, lowAll, keys, Nat.reduceBneDiff, Option.toList, ← Int.ofNat_tmod, ← Int.ofNat_tdiv, optInt, fillP, repl, chunk, mkCols, mkCol, colInts, colBools, colStrs, colLits, colsApp, Col.app, tailOf, splice, colsPut, Col.put, mmFold, eqK, Nat.reduceLT, colsPaste, Col.paste, mNew, mkKey, keyIn, mGet, mPut, Int.cast_ofNat_Int, Int.reduceBEq, Int.reduceBNe, Int.reduceLT, Int.reduceLE, Int.reduceAdd, Int.reduceSub, Int.reduceMul, Int.reduceToNat, Int.reduceNeg, Int.reduceTMod, Int.reduceEq, not_false_eq_true, Int.reducePow, Int.reduceFDiv, Nat.reducePow, Nat.reduceSub, Nat.reduceMul, Nat.min_eq_left, Nat.reduceEqDiff, BEq.rfl, Int.tdiv_one, LN_succ, out_00, List.getD_cons_zero]
    refine ⟨by unfold inI64; omega, CallX.pure (out_c _ _ _ _) ?_⟩
    simp -dsimp only [aqT, ROp, OX, ↓seqK, ↓blkK, ↓loopK, step, stepBin, res, stepIdx, mix, PV.cells, argSlots, Nat.reduceBEq, Nat.reduceBeqDiff, Nat.add_assoc nid, Nat.reduceAdd, reduceCtorEq, ↓reduceIte, Nat.reduceLeDiff, colPV, freeOf, indep, offO, neqO, disj, namesX, axSlot, opXs, rdXs, idsOf, idsOfs, lowH, lowAll, keys, Nat.reduceBneDiff, Option.toList, ← Int.ofNat_tmod, ← Int.ofNat_tdiv, optInt, fillP, repl, chunk, mkCols, mkCol, colInts, colBools, colStrs, colLits, colsApp, Col.app, tailOf, splice, colsPut, Col.put, mmFold, eqK, Nat.reduceLT, colsPaste, Col.paste, mNew, mkKey, keyIn, mGet, mPut, Int.cast_ofNat_Int, Int.reduceBEq, Int.reduceBNe, Int.reduceLT, Int.reduceLE, Int.reduceAdd, Int.reduceSub, Int.reduceMul, Int.reduceToNat, Int.reduceNeg, Int.reduceTMod, Int.reduceEq, not_false_eq_true, Int.reducePow, Int.reduceFDiv, Nat.reducePow, Nat.reduceSub, Nat.reduceMul, Nat.min_eq_left, Nat.reduceEqDiff, BEq.rfl, Int.tdiv_one, LN_succ, out_01, List.getD_cons_zero]
    refine RetOK.pure (.inl rfl) rfl ?_
    simp [retPV, over, keys, List.map_nil, List.map_cons, List.contains_cons, List.contains_nil, Bool.or_false, Bool.or_true, Bool.true_or, Bool.false_or, beq_self_eq_true, cond_true, cond_false, HeapCov, orNil, nilSz, onBlk, srcOf, getH_hit, getH_miss, getH.eq_1, getS_hit, getS_miss, getS.eq_1, BlkCov, PVCovs, PVCov, ColsEq, ColEq.refl, liveIds, SlotsCov, List.all_nil, List.all_cons, List.any_nil, List.any_cons, List.nil_append, List.cons_append, inRange, apart, nilBlk, idS1, idS2, readAll, readRes, onAll, step, res, AX.val, List.drop_zero, List.drop_succ_cons, List.take_succ_cons, List.take_zero]
  · simp -dsimp only [a35, aqT, ROp, OX, ↓seqK, ↓blkK, ↓loopK, step, stepBin, res, stepIdx, mix, PV.cells, argSlots, Nat.reduceBEq, Nat.reduceBeqDiff, Nat.add_assoc nid, Nat.reduceAdd, reduceCtorEq, ↓reduceIte, Nat.reduceLeDiff, colPV, freeOf, indep, offO, neqO, disj, namesX, axSlot, opXs, rdXs, idsOf, idsOfs, lowH, lowAll, keys, Nat.reduceBneDiff, Option.toList, ← Int.ofNat_tmod, ← Int.ofNat_tdiv, optInt, fillP, repl, chunk, mkCols, mkCol, colInts, colBools, colStrs, colLits, colsApp, Col.app, tailOf, splice, colsPut, Col.put, mmFold, eqK, Nat.reduceLT, colsPaste, Col.paste, mNew, mkKey, keyIn, mGet, mPut, Int.cast_ofNat_Int, Int.reduceBEq, Int.reduceBNe, Int.reduceLT, Int.reduceLE, Int.reduceAdd, Int.reduceSub, Int.reduceMul, Int.reduceToNat, Int.reduceNeg, Int.reduceTMod, Int.reduceEq, not_false_eq_true, Int.reducePow, Int.reduceFDiv, Nat.reducePow, Nat.reduceSub, Nat.reduceMul, Nat.min_eq_left, Nat.reduceEqDiff, BEq.rfl, Int.tdiv_one, LN_succ]
    refine ⟨by unfold inI64; omega, CallX.pure (out_c _ _ _ _) ?_⟩
    simp -dsimp only [aqT, ROp, OX, ↓seqK, ↓blkK, ↓loopK, step, stepBin, res, stepIdx, mix, PV.cells, argSlots, Nat.reduceBEq, Nat.reduceBeqDiff, Nat.add_assoc nid, Nat.reduceAdd, reduceCtorEq, ↓reduceIte, Nat.reduceLeDiff, colPV, freeOf, indep, offO, neqO, disj, namesX, axSlot, opXs, rdXs, idsOf, idsOfs, lowH, lowAll, keys, Nat.reduceBneDiff, Option.toList, ← Int.ofNat_tmod, ← Int.ofNat_tdiv, optInt, fillP, repl, chunk, mkCols, mkCol, colInts, colBools, colStrs, colLits, colsApp, Col.app, tailOf, splice, colsPut, Col.put, mmFold, eqK, Nat.reduceLT, colsPaste, Col.paste, mNew, mkKey, keyIn, mGet, mPut, Int.cast_ofNat_Int, Int.reduceBEq, Int.reduceBNe, Int.reduceLT, Int.reduceLE, Int.reduceAdd, Int.reduceSub, Int.reduceMul, Int.reduceToNat, Int.reduceNeg, Int.reduceTMod, Int.reduceEq, not_false_eq_true, Int.reducePow, Int.reduceFDiv, Nat.reducePow, Nat.reduceSub, Nat.reduceMul, Nat.min_eq_left, Nat.reduceEqDiff, BEq.rfl, Int.tdiv_one, LN_succ, out_00, List.getD_cons_zero]
    refine ⟨by unfold inI64; omega, CallX.pure (out_c _ _ _ _) ?_⟩
    simp -dsimp only [aqT, ROp, OX, ↓seqK, ↓blkK, ↓loopK, step, stepBin, res, stepIdx, mix, PV.cells, argSlots, Nat.reduceBEq, Nat.reduceBeqDiff, Nat.add_assoc nid, Nat.reduceAdd, reduceCtorEq, ↓reduceIte, Nat.reduceLeDiff, colPV, freeOf, indep, offO, neqO, disj, namesX, axSlot, opXs, rdXs, idsOf, idsOfs, lowH, lowAll, keys, Nat.reduceBneDiff, Option.toList, ← Int.ofNat_tmod, ← Int.ofNat_tdiv, optInt, fillP, repl, chunk, mkCols, mkCol, colInts, colBools, colStrs, colLits, colsApp, Col.app, tailOf, splice, colsPut, Col.put, mmFold, eqK, Nat.reduceLT, colsPaste, Col.paste, mNew, mkKey, keyIn, mGet, mPut, Int.cast_ofNat_Int, Int.reduceBEq, Int.reduceBNe, Int.reduceLT, Int.reduceLE, Int.reduceAdd, Int.reduceSub, Int.reduceMul, Int.reduceToNat, Int.reduceNeg, Int.reduceTMod, Int.reduceEq, not_false_eq_true, Int.reducePow, Int.reduceFDiv, Nat.reducePow, Nat.reduceSub, Nat.reduceMul, Nat.min_eq_left, Nat.reduceEqDiff, BEq.rfl, Int.tdiv_one, LN_succ, out_11, List.getD_cons_zero]
    refine RetOK.pure (.inl rfl) rfl ?_
    simp [retPV, over, keys, List.map_nil, List.map_cons, List.contains_cons, List.contains_nil, Bool.or_false, Bool.or_true, Bool.true_or, Bool.false_or, beq_self_eq_true, cond_true, cond_false, HeapCov, orNil, nilSz, onBlk, srcOf, getH_hit, getH_miss, getH.eq_1, getS_hit, getS_miss, getS.eq_1, BlkCov, PVCovs, PVCov, ColsEq, ColEq.refl, liveIds, SlotsCov, List.all_nil, List.all_cons, List.any_nil, List.any_cons, List.nil_append, List.cons_append, inRange, apart, nilBlk, idS1, idS2, readAll, readRes, onAll, step, res, AX.val, List.drop_zero, List.drop_succ_cons, List.take_succ_cons, List.take_zero]
theorem places_c (nl : Bool) (nid : Nat) : ACall Tryd.prog 42 [.agg [w1x nl, .str [49]]] [] nid (.sl nid 0 2) [(nid, some (.arr 60 2 [.i .i64 fun i => [0, 1].getD i 0, .i .i64 fun i => [0, 0].getD i 0]))] := by
  refine acall_run c42 (by simp [a42]) ?_
  unfold w1x
  simp -dsimp only [a42, aqT, ROp, OX, ↓seqK, ↓blkK, ↓loopK, step, stepBin, res, stepIdx, mix, PV.cells, argSlots, Nat.reduceBEq, Nat.reduceBeqDiff, Nat.add_assoc nid, Nat.reduceAdd, reduceCtorEq, ↓reduceIte, Nat.reduceLeDiff, colPV, freeOf, indep, offO, neqO, disj, namesX, axSlot, opXs, rdXs, idsOf, idsOfs, lowH, lowAll, keys, Nat.reduceBneDiff, Option.toList, ← Int.ofNat_tmod, ← Int.ofNat_tdiv, optInt, fillP, repl, chunk, mkCols, mkCol, colInts, colBools, colStrs, colLits, colsApp, Col.app, tailOf, splice, colsPut, Col.put, mmFold, eqK, Nat.reduceLT, colsPaste, Col.paste, mNew, mkKey, keyIn, mGet, mPut, Int.cast_ofNat_Int, Int.reduceBEq, Int.reduceBNe, Int.reduceLT, Int.reduceLE, Int.reduceAdd, Int.reduceSub, Int.reduceMul, Int.reduceToNat, Int.reduceNeg, Int.reduceTMod, Int.reduceEq, not_false_eq_true, Int.reducePow, Int.reduceFDiv, Nat.reducePow, Nat.reduceSub, Nat.reduceMul, Nat.min_eq_left, Nat.reduceEqDiff, BEq.rfl, Int.tdiv_one, LN_succ]
  refine LP.rounds 3 ?_
  simp -dsimp only [aqT, ROp, OX, ↓seqK, ↓blkK, ↓loopK, step, stepBin, res, stepIdx, mix, PV.cells, argSlots, Nat.reduceBEq, Nat.reduceBeqDiff, Nat.add_assoc nid, Nat.reduceAdd, reduceCtorEq, ↓reduceIte, Nat.reduceLeDiff, colPV, freeOf, indep, offO, neqO, disj, namesX, axSlot, opXs, rdXs, idsOf, idsOfs, lowH, lowAll, keys, Nat.reduceBneDiff, Option.toList, ← Int.ofNat_tmod, ← Int.ofNat_tdiv, optInt, fillP, repl, chunk, mkCols, mkCol, colInts, colBools, colStrs, colLits, colsApp, Col.app, tailOf, splice, colsPut, Col.put, mmFold, eqK, Nat.reduceLT, colsPaste, Col.paste, mNew, mkKey, keyIn, mGet, mPut, Int.cast_ofNat_Int, Int.reduceBEq, Int.reduceBNe, Int.reduceLT, Int.reduceLE, Int.reduceAdd, Int.reduceSub, Int.reduceMul, Int.reduceToNat, Int.reduceNeg, Int.reduceTMod, Int.reduceEq, not_false_eq_true, Int.reducePow, Int.reduceFDiv, Nat.reducePow, Nat.reduceSub, Nat.reduceMul, Nat.min_eq_left, Nat.reduceEqDiff, BEq.rfl, Int.tdiv_one, LN_succ, List.getD_cons_zero]
  refine LP.rounds 4 ?_
  simp -dsimp only [aqT, ROp, OX, ↓seqK, ↓blkK, ↓loopK, step, stepBin, res, stepIdx, mix, PV.cells, argSlots, Nat.reduceBEq, Nat.reduceBeqDiff, Nat.add_assoc nid, Nat.reduceAdd, reduceCtorEq, ↓reduceIte, Nat.reduceLeDiff, colPV, freeOf, indep, offO, neqO, disj, namesX, axSlot, opXs, rdXs, idsOf, idsOfs, lowH, lowAll, keys, Nat.reduceBneDiff, Option.toList, ← Int.ofNat_tmod, ← Int.ofNat_tdiv, optInt, fillP, repl, chunk, mkCols, mkCol, colInts, colBools, colStrs, colLits, colsApp, Col.app, tailOf, splice, colsPut, Col.put, mmFold, eqK, Nat.reduceLT, colsPaste, Col.paste, mNew, mkKey, keyIn, mGet, mPut, Int.cast_ofNat_Int, Int.reduceBEq, Int.reduceBNe, Int.reduceLT, Int.reduceLE, Int.reduceAdd, Int.reduceSub, Int.reduceMul, Int.reduceToNat, Int.reduceNeg, Int.reduceTMod, Int.reduceEq, not_false_eq_true, Int.reducePow, Int.reduceFDiv, Nat.reducePow, Nat.reduceSub, Nat.reduceMul, Nat.min_eq_left, Nat.reduceEqDiff, BEq.rfl, Int.tdiv_one, LN_succ, List.getD_cons_zero]
  refine ⟨by unfold inI64; omega, by unfold inI64; omega, by unfold inI64; omega, RetOK.go [(nid, nid + 144)] [] (.inl rfl) ?_⟩
  simp [a42, retPV, over, keys, List.map_nil, List.map_cons, List.contains_cons, List.contains_nil, Bool.or_false, Bool.or_true, Bool.true_or, Bool.false_or, beq_self_eq_true, cond_true, cond_false, HeapCov, orNil, nilSz, onBlk, srcOf, getH_hit, getH_miss, getH.eq_1, getS_hit, getS_miss, getS.eq_1, BlkCov, PVCovs, PVCov, ColsEq, ColEq.refl, liveIds, SlotsCov, List.all_nil, List.all_cons, List.any_nil, List.any_cons, List.nil_append, List.cons_append, inRange, apart, nilBlk, idS1, idS2, readAll, readRes, onAll, step, res, AX.val, List.drop_zero, List.drop_succ_cons, List.take_succ_cons, List.take_zero]
  constructor <;> refine ColEq.i fun i hi => ?_ <;> (have : i = 0 ∨ i = 1 := by omega) <;> rcases this with rfl | rfl <;> simp
theorem share_c (nl nlp : Bool) (nid : Nat) : ACall Tryd.prog 32 [.agg [w1x nl, .str [49]], .lit nlp 2 [.i .i64 fun i => [0, 1].getD i 0, .i .i64 fun i => [0, 0].getD i 0]] [] nid (.tup [.int .i64 1, .int .i64 2]) [] := by
  refine acall_run c32 (by simp [a32]) ?_
  unfold w1x
  simp -dsimp only [a32, aqT, ROp, OX, ↓seqK, ↓blkK, ↓loopK, step, stepBin, res, stepIdx, mix, PV.cells, argSlots, Nat.reduceBEq, Nat.reduceBeqDiff, Nat.add_assoc nid, Nat.reduceAdd, reduceCtorEq, ↓reduceIte, Nat.reduceLeDiff, colPV, freeOf, indep, offO, neqO, disj, namesX, axSlot, opXs, rdXs, idsOf, idsOfs, lowH, lowAll, keys, Nat.reduceBneDiff, Option.toList, ← Int.ofNat_tmod, ← Int.ofNat_tdiv, optInt, fillP, repl, chunk, mkCols, mkCol, colInts, colBools, colStrs, colLits, colsApp, Col.app, tailOf, splice, colsPut, Col.put, mmFold, eqK, Nat.reduceLT, colsPaste, Col.paste, mNew, mkKey, keyIn, mGet, mPut, Int.cast_ofNat_Int, Int.reduceBEq, Int.reduceBNe, Int.reduceLT, Int.reduceLE, Int.reduceAdd, Int.reduceSub, Int.reduceMul, Int.reduceToNat, Int.reduceNeg, Int.reduceTMod, Int.reduceEq, not_false_eq_true, Int.reducePow, Int.reduceFDiv, Nat.reducePow, Nat.reduceSub, Nat.reduceMul, Nat.min_eq_left, Nat.reduceEqDiff, BEq.rfl, Int.tdiv_one, LN_succ]
  refine LP.rounds 4 ?_
  simp -dsimp only [aqT, ROp, OX, ↓seqK, ↓blkK, ↓loopK, step, stepBin, res, stepIdx, mix, PV.cells, argSlots, Nat.reduceBEq, Nat.reduceBeqDiff, Nat.add_assoc nid, Nat.reduceAdd, reduceCtorEq, ↓reduceIte, Nat.reduceLeDiff, colPV, freeOf, indep, offO, neqO, disj, namesX, axSlot, opXs, rdXs, idsOf, idsOfs, lowH, lowAll, keys, Nat.reduceBneDiff, Option.toList, ← Int.ofNat_tmod, ← Int.ofNat_tdiv, optInt, fillP, repl, chunk, mkCols, mkCol, colInts, colBools, colStrs, colLits, colsApp, Col.app, tailOf, splice, colsPut, Col.put, mmFold, eqK, Nat.reduceLT, colsPaste, Col.paste, mNew, mkKey, keyIn, mGet, mPut, Int.cast_ofNat_Int, Int.reduceBEq, Int.reduceBNe, Int.reduceLT, Int.reduceLE, Int.reduceAdd, Int.reduceSub, Int.reduceMul, Int.reduceToNat, Int.reduceNeg, Int.reduceTMod, Int.reduceEq, not_false_eq_true, Int.reducePow, Int.reduceFDiv, Nat.reducePow, Nat.reduceSub, Nat.reduceMul, Nat.min_eq_left, Nat.reduceEqDiff, BEq.rfl, Int.tdiv_one, LN_succ, List.getD_cons_zero, List.getD_cons_succ]
  refine CallO.pure (at_1x nl 0 49 (.inl ⟨rfl, rfl⟩) _) ?_
  simp -dsimp only [aqT, ROp, OX, ↓seqK, ↓blkK, ↓loopK, step, stepBin, res, stepIdx, mix, PV.cells, argSlots, Nat.reduceBEq, Nat.reduceBeqDiff, Nat.add_assoc nid, Nat.reduceAdd, reduceCtorEq, ↓reduceIte, Nat.reduceLeDiff, colPV, freeOf, indep, offO, neqO, disj, namesX, axSlot, opXs, rdXs, idsOf, idsOfs, lowH, lowAll, keys, Nat.reduceBneDiff, Option.toList, ← Int.ofNat_tmod, ← Int.ofNat_tdiv, optInt, fillP, repl, chunk, mkCols, mkCol, colInts, colBools, colStrs, colLits, colsApp, Col.app, tailOf, splice, colsPut, Col.put, mmFold, eqK, Nat.reduceLT, colsPaste, Col.paste, mNew, mkKey, keyIn, mGet, mPut, Int.cast_ofNat_Int, Int.reduceBEq, Int.reduceBNe, Int.reduceLT, Int.reduceLE, Int.reduceAdd, Int.reduceSub, Int.reduceMul, Int.reduceToNat, Int.reduceNeg, Int.reduceTMod, Int.reduceEq, not_false_eq_true, Int.reducePow, Int.reduceFDiv, Nat.reducePow, Nat.reduceSub, Nat.reduceMul, Nat.min_eq_left, Nat.reduceEqDiff, BEq.rfl, Int.tdiv_one, LN_succ]
  refine CallO.pure (tested_c _ _) ?_
  rw [t49]
  simp -dsimp only [aqT, ROp, OX, ↓seqK, ↓blkK, ↓loopK, step, stepBin, res, stepIdx, mix, PV.cells, argSlots, Nat.reduceBEq, Nat.reduceBeqDiff, Nat.add_assoc nid, Nat.reduceAdd, reduceCtorEq, ↓reduceIte, Nat.reduceLeDiff, colPV, freeOf, indep, offO, neqO, disj, namesX, axSlot, opXs, rdXs, idsOf, idsOfs, lowH, lowAll, keys, Nat.reduceBneDiff, Option.toList, ← Int.ofNat_tmod, ← Int.ofNat_tdiv, optInt, fillP, repl, chunk, mkCols, mkCol, colInts, colBools, colStrs, colLits, colsApp, Col.app, tailOf, splice, colsPut, Col.put, mmFold, eqK, Nat.reduceLT, colsPaste, Col.paste, mNew, mkKey, keyIn, mGet, mPut, Int.cast_ofNat_Int, Int.reduceBEq, Int.reduceBNe, Int.reduceLT, Int.reduceLE, Int.reduceAdd, Int.reduceSub, Int.reduceMul, Int.reduceToNat, Int.reduceNeg, Int.reduceTMod, Int.reduceEq, not_false_eq_true, Int.reducePow, Int.reduceFDiv, Nat.reducePow, Nat.reduceSub, Nat.reduceMul, Nat.min_eq_left, Nat.reduceEqDiff, BEq.rfl, Int.tdiv_one, LN_succ]
  refine ⟨by unfold inI64; omega, CallO.pure (passed_c _ _ _ _ _ _ _ rfl) ?_⟩
  rw [p49]
  simp -dsimp only [aqT, ROp, OX, ↓seqK, ↓blkK, ↓loopK, step, stepBin, res, stepIdx, mix, PV.cells, argSlots, Nat.reduceBEq, Nat.reduceBeqDiff, Nat.add_assoc nid, Nat.reduceAdd, reduceCtorEq, ↓reduceIte, Nat.reduceLeDiff, colPV, freeOf, indep, offO, neqO, disj, namesX, axSlot, opXs, rdXs, idsOf, idsOfs, lowH, lowAll, keys, Nat.reduceBneDiff, Option.toList, ← Int.ofNat_tmod, ← Int.ofNat_tdiv, optInt, fillP, repl, chunk, mkCols, mkCol, colInts, colBools, colStrs, colLits, colsApp, Col.app, tailOf, splice, colsPut, Col.put, mmFold, eqK, Nat.reduceLT, colsPaste, Col.paste, mNew, mkKey, keyIn, mGet, mPut, Int.cast_ofNat_Int, Int.reduceBEq, Int.reduceBNe, Int.reduceLT, Int.reduceLE, Int.reduceAdd, Int.reduceSub, Int.reduceMul, Int.reduceToNat, Int.reduceNeg, Int.reduceTMod, Int.reduceEq, not_false_eq_true, Int.reducePow, Int.reduceFDiv, Nat.reducePow, Nat.reduceSub, Nat.reduceMul, Nat.min_eq_left, Nat.reduceEqDiff, BEq.rfl, Int.tdiv_one, LN_succ, List.getD_cons_zero, List.getD_cons_succ]
  refine ⟨by unfold inI64; omega, by unfold inI64; omega, CallO.pure (at_1x nl 1 120 (.inr ⟨rfl, rfl⟩) _) ?_⟩
  simp -dsimp only [aqT, ROp, OX, ↓seqK, ↓blkK, ↓loopK, step, stepBin, res, stepIdx, mix, PV.cells, argSlots, Nat.reduceBEq, Nat.reduceBeqDiff, Nat.add_assoc nid, Nat.reduceAdd, reduceCtorEq, ↓reduceIte, Nat.reduceLeDiff, colPV, freeOf, indep, offO, neqO, disj, namesX, axSlot, opXs, rdXs, idsOf, idsOfs, lowH, lowAll, keys, Nat.reduceBneDiff, Option.toList, ← Int.ofNat_tmod, ← Int.ofNat_tdiv, optInt, fillP, repl, chunk, mkCols, mkCol, colInts, colBools, colStrs, colLits, colsApp, Col.app, tailOf, splice, colsPut, Col.put, mmFold, eqK, Nat.reduceLT, colsPaste, Col.paste, mNew, mkKey, keyIn, mGet, mPut, Int.cast_ofNat_Int, Int.reduceBEq, Int.reduceBNe, Int.reduceLT, Int.reduceLE, Int.reduceAdd, Int.reduceSub, Int.reduceMul, Int.reduceToNat, Int.reduceNeg, Int.reduceTMod, Int.reduceEq, not_false_eq_true, Int.reducePow, Int.reduceFDiv, Nat.reducePow, Nat.reduceSub, Nat.reduceMul, Nat.min_eq_left, Nat.reduceEqDiff, BEq.rfl, Int.tdiv_one, LN_succ]
  refine CallO.pure (tested_c _ _) ?_
  rw [t120]
  simp -dsimp only [aqT, ROp, OX, ↓seqK, ↓blkK, ↓loopK, step, stepBin, res, stepIdx, mix, PV.cells, argSlots, Nat.reduceBEq, Nat.reduceBeqDiff, Nat.add_assoc nid, Nat.reduceAdd, reduceCtorEq, ↓reduceIte, Nat.reduceLeDiff, colPV, freeOf, indep, offO, neqO, disj, namesX, axSlot, opXs, rdXs, idsOf, idsOfs, lowH, lowAll, keys, Nat.reduceBneDiff, Option.toList, ← Int.ofNat_tmod, ← Int.ofNat_tdiv, optInt, fillP, repl, chunk, mkCols, mkCol, colInts, colBools, colStrs, colLits, colsApp, Col.app, tailOf, splice, colsPut, Col.put, mmFold, eqK, Nat.reduceLT, colsPaste, Col.paste, mNew, mkKey, keyIn, mGet, mPut, Int.cast_ofNat_Int, Int.reduceBEq, Int.reduceBNe, Int.reduceLT, Int.reduceLE, Int.reduceAdd, Int.reduceSub, Int.reduceMul, Int.reduceToNat, Int.reduceNeg, Int.reduceTMod, Int.reduceEq, not_false_eq_true, Int.reducePow, Int.reduceFDiv, Nat.reducePow, Nat.reduceSub, Nat.reduceMul, Nat.min_eq_left, Nat.reduceEqDiff, BEq.rfl, Int.tdiv_one, LN_succ]
  refine ⟨by unfold inI64; omega, CallO.pure (passed_c _ _ _ _ _ _ _ rfl) ?_⟩
  rw [p120]
  simp -dsimp only [aqT, ROp, OX, ↓seqK, ↓blkK, ↓loopK, step, stepBin, res, stepIdx, mix, PV.cells, argSlots, Nat.reduceBEq, Nat.reduceBeqDiff, Nat.add_assoc nid, Nat.reduceAdd, reduceCtorEq, ↓reduceIte, Nat.reduceLeDiff, colPV, freeOf, indep, offO, neqO, disj, namesX, axSlot, opXs, rdXs, idsOf, idsOfs, lowH, lowAll, keys, Nat.reduceBneDiff, Option.toList, ← Int.ofNat_tmod, ← Int.ofNat_tdiv, optInt, fillP, repl, chunk, mkCols, mkCol, colInts, colBools, colStrs, colLits, colsApp, Col.app, tailOf, splice, colsPut, Col.put, mmFold, eqK, Nat.reduceLT, colsPaste, Col.paste, mNew, mkKey, keyIn, mGet, mPut, Int.cast_ofNat_Int, Int.reduceBEq, Int.reduceBNe, Int.reduceLT, Int.reduceLE, Int.reduceAdd, Int.reduceSub, Int.reduceMul, Int.reduceToNat, Int.reduceNeg, Int.reduceTMod, Int.reduceEq, not_false_eq_true, Int.reducePow, Int.reduceFDiv, Nat.reducePow, Nat.reduceSub, Nat.reduceMul, Nat.min_eq_left, Nat.reduceEqDiff, BEq.rfl, Int.tdiv_one, LN_succ, List.getD_cons_zero, List.getD_cons_succ]
  refine ⟨by unfold inI64; omega, RetOK.pure (.inl rfl) rfl ?_⟩
  simp [retPV, over, keys, List.map_nil, List.map_cons, List.contains_cons, List.contains_nil, Bool.or_false, Bool.or_true, Bool.true_or, Bool.false_or, beq_self_eq_true, cond_true, cond_false, HeapCov, orNil, nilSz, onBlk, srcOf, getH_hit, getH_miss, getH.eq_1, getS_hit, getS_miss, getS.eq_1, BlkCov, PVCovs, PVCov, ColsEq, ColEq.refl, liveIds, SlotsCov, List.all_nil, List.all_cons, List.any_nil, List.any_cons, List.nil_append, List.cons_append, inRange, apart, nilBlk, idS1, idS2, readAll, readRes, onAll, step, res, AX.val, List.drop_zero, List.drop_succ_cons, List.take_succ_cons, List.take_zero]
theorem checkWafer_c (nl : Bool) (nid : Nat) : ACall Tryd.prog 30 [.agg [w1x nl, .str [49]]] [] nid (.int .i64 0) [] := by
  refine acall_run c30 (by simp [a30]) ?_
  unfold w1x
  simp -dsimp only [a30, aqT, ROp, OX, ↓seqK, ↓blkK, ↓loopK, step, stepBin, res, stepIdx, mix, PV.cells, argSlots, Nat.reduceBEq, Nat.reduceBeqDiff, Nat.add_assoc nid, Nat.reduceAdd, reduceCtorEq, ↓reduceIte, Nat.reduceLeDiff, colPV, freeOf, indep, offO, neqO, disj, namesX, axSlot, opXs, rdXs, idsOf, idsOfs, lowH, lowAll, keys, Nat.reduceBneDiff, Option.toList, ← Int.ofNat_tmod, ← Int.ofNat_tdiv, optInt, fillP, repl, chunk, mkCols, mkCol, colInts, colBools, colStrs, colLits, colsApp, Col.app, tailOf, splice, colsPut, Col.put, mmFold, eqK, Nat.reduceLT, colsPaste, Col.paste, mNew, mkKey, keyIn, mGet, mPut, Int.cast_ofNat_Int, Int.reduceBEq, Int.reduceBNe, Int.reduceLT, Int.reduceLE, Int.reduceAdd, Int.reduceSub, Int.reduceMul, Int.reduceToNat, Int.reduceNeg, Int.reduceTMod, Int.reduceEq, not_false_eq_true, Int.reducePow, Int.reduceFDiv, Nat.reducePow, Nat.reduceSub, Nat.reduceMul, Nat.min_eq_left, Nat.reduceEqDiff, BEq.rfl, Int.tdiv_one, LN_succ]
  refine LP.rounds 3 ?_
  simp -dsimp only [aqT, ROp, OX, ↓seqK, ↓blkK, ↓loopK, step, stepBin, res, stepIdx, mix, PV.cells, argSlots, Nat.reduceBEq, Nat.reduceBeqDiff, Nat.add_assoc nid, Nat.reduceAdd, reduceCtorEq, ↓reduceIte, Nat.reduceLeDiff, colPV, freeOf, indep, offO, neqO, disj, namesX, axSlot, opXs, rdXs, idsOf, idsOfs, lowH, lowAll, keys, Nat.reduceBneDiff, Option.toList, ← Int.ofNat_tmod, ← Int.ofNat_tdiv, optInt, fillP, repl, chunk, mkCols, mkCol, colInts, colBools, colStrs, colLits, colsApp, Col.app, tailOf, splice, colsPut, Col.put, mmFold, eqK, Nat.reduceLT, colsPaste, Col.paste, mNew, mkKey, keyIn, mGet, mPut, Int.cast_ofNat_Int, Int.reduceBEq, Int.reduceBNe, Int.reduceLT, Int.reduceLE, Int.reduceAdd, Int.reduceSub, Int.reduceMul, Int.reduceToNat, Int.reduceNeg, Int.reduceTMod, Int.reduceEq, not_false_eq_true, Int.reducePow, Int.reduceFDiv, Nat.reducePow, Nat.reduceSub, Nat.reduceMul, Nat.min_eq_left, Nat.reduceEqDiff, BEq.rfl, Int.tdiv_one, LN_succ, List.getD_cons_zero, List.getD_cons_succ, s1x]
  refine CallO.pure (odd_c' [49, 120] _ (by simp) (fun i hi => by
    have : i = 0 ∨ i = 1 := by simp at hi; omega
    rcases this with rfl | rfl <;> decide)) ?_
  simp -dsimp only [aqT, ROp, OX, ↓seqK, ↓blkK, ↓loopK, step, stepBin, res, stepIdx, mix, PV.cells, argSlots, Nat.reduceBEq, Nat.reduceBeqDiff, Nat.add_assoc nid, Nat.reduceAdd, reduceCtorEq, ↓reduceIte, Nat.reduceLeDiff, colPV, freeOf, indep, offO, neqO, disj, namesX, axSlot, opXs, rdXs, idsOf, idsOfs, lowH, lowAll, keys, Nat.reduceBneDiff, Option.toList, ← Int.ofNat_tmod, ← Int.ofNat_tdiv, optInt, fillP, repl, chunk, mkCols, mkCol, colInts, colBools, colStrs, colLits, colsApp, Col.app, tailOf, splice, colsPut, Col.put, mmFold, eqK, Nat.reduceLT, colsPaste, Col.paste, mNew, mkKey, keyIn, mGet, mPut, Int.cast_ofNat_Int, Int.reduceBEq, Int.reduceBNe, Int.reduceLT, Int.reduceLE, Int.reduceAdd, Int.reduceSub, Int.reduceMul, Int.reduceToNat, Int.reduceNeg, Int.reduceTMod, Int.reduceEq, not_false_eq_true, Int.reducePow, Int.reduceFDiv, Nat.reducePow, Nat.reduceSub, Nat.reduceMul, Nat.min_eq_left, Nat.reduceEqDiff, BEq.rfl, Int.tdiv_one, LN_succ, List.getD_cons_zero, List.getD_cons_succ, s1x]
  refine ⟨by unfold inI64; omega, LP.rounds 3 ?_⟩
  simp -dsimp only [aqT, ROp, OX, ↓seqK, ↓blkK, ↓loopK, step, stepBin, res, stepIdx, mix, PV.cells, argSlots, Nat.reduceBEq, Nat.reduceBeqDiff, Nat.add_assoc nid, Nat.reduceAdd, reduceCtorEq, ↓reduceIte, Nat.reduceLeDiff, colPV, freeOf, indep, offO, neqO, disj, namesX, axSlot, opXs, rdXs, idsOf, idsOfs, lowH, lowAll, keys, Nat.reduceBneDiff, Option.toList, ← Int.ofNat_tmod, ← Int.ofNat_tdiv, optInt, fillP, repl, chunk, mkCols, mkCol, colInts, colBools, colStrs, colLits, colsApp, Col.app, tailOf, splice, colsPut, Col.put, mmFold, eqK, Nat.reduceLT, colsPaste, Col.paste, mNew, mkKey, keyIn, mGet, mPut, Int.cast_ofNat_Int, Int.reduceBEq, Int.reduceBNe, Int.reduceLT, Int.reduceLE, Int.reduceAdd, Int.reduceSub, Int.reduceMul, Int.reduceToNat, Int.reduceNeg, Int.reduceTMod, Int.reduceEq, not_false_eq_true, Int.reducePow, Int.reduceFDiv, Nat.reducePow, Nat.reduceSub, Nat.reduceMul, Nat.min_eq_left, Nat.reduceEqDiff, BEq.rfl, Int.tdiv_one, LN_succ, List.getD_cons_zero, List.getD_cons_succ, s1x]
  refine CallO.pure (isBin_c _ _) ?_
  have b49 : isBinV ((UInt8.toNat 49 : Nat) : Int) = true := by decide
  rw [b49]
  simp -dsimp only [aqT, ROp, OX, ↓seqK, ↓blkK, ↓loopK, step, stepBin, res, stepIdx, mix, PV.cells, argSlots, Nat.reduceBEq, Nat.reduceBeqDiff, Nat.add_assoc nid, Nat.reduceAdd, reduceCtorEq, ↓reduceIte, Nat.reduceLeDiff, colPV, freeOf, indep, offO, neqO, disj, namesX, axSlot, opXs, rdXs, idsOf, idsOfs, lowH, lowAll, keys, Nat.reduceBneDiff, Option.toList, ← Int.ofNat_tmod, ← Int.ofNat_tdiv, optInt, fillP, repl, chunk, mkCols, mkCol, colInts, colBools, colStrs, colLits, colsApp, Col.app, tailOf, splice, colsPut, Col.put, mmFold, eqK, Nat.reduceLT, colsPaste, Col.paste, mNew, mkKey, keyIn, mGet, mPut, Int.cast_ofNat_Int, Int.reduceBEq, Int.reduceBNe, Int.reduceLT, Int.reduceLE, Int.reduceAdd, Int.reduceSub, Int.reduceMul, Int.reduceToNat, Int.reduceNeg, Int.reduceTMod, Int.reduceEq, not_false_eq_true, Int.reducePow, Int.reduceFDiv, Nat.reducePow, Nat.reduceSub, Nat.reduceMul, Nat.min_eq_left, Nat.reduceEqDiff, BEq.rfl, Int.tdiv_one, LN_succ, List.getD_cons_zero, List.getD_cons_succ, s1x]
  refine ⟨by unfold inI64; omega, RetOK.pure (.inl rfl) rfl ?_⟩
  simp [retPV, over, keys, List.map_nil, List.map_cons, List.contains_cons, List.contains_nil, Bool.or_false, Bool.or_true, Bool.true_or, Bool.false_or, beq_self_eq_true, cond_true, cond_false, HeapCov, orNil, nilSz, onBlk, srcOf, getH_hit, getH_miss, getH.eq_1, getS_hit, getS_miss, getS.eq_1, BlkCov, PVCovs, PVCov, ColsEq, ColEq.refl, liveIds, SlotsCov, List.all_nil, List.all_cons, List.any_nil, List.any_cons, List.nil_append, List.cons_append, inRange, apart, nilBlk, idS1, idS2, readAll, readRes, onAll, step, res, AX.val, List.drop_zero, List.drop_succ_cons, List.take_succ_cons, List.take_zero]
theorem yield_c (nl : Bool) (nid : Nat) : ACall Tryd.prog 11 [.agg [w1x nl, .str [49]]] [] nid (.tup [.agg [.int .i64 1, .int .i64 2], .bool true, .int .i64 0]) [] := by
  refine acall_run c11 (by simp [a11]) ?_
  unfold w1x
  simp -dsimp only [a11, aqT, ROp, OX, ↓seqK, ↓blkK, ↓loopK, step, stepBin, res, stepIdx, mix, PV.cells, argSlots, Nat.reduceBEq, Nat.reduceBeqDiff, Nat.add_assoc nid, Nat.reduceAdd, reduceCtorEq, ↓reduceIte, Nat.reduceLeDiff, colPV, freeOf, indep, offO, neqO, disj, namesX, axSlot, opXs, rdXs, idsOf, idsOfs, lowH, lowAll, keys, Nat.reduceBneDiff, Option.toList, ← Int.ofNat_tmod, ← Int.ofNat_tdiv, optInt, fillP, repl, chunk, mkCols, mkCol, colInts, colBools, colStrs, colLits, colsApp, Col.app, tailOf, splice, colsPut, Col.put, mmFold, eqK, Nat.reduceLT, colsPaste, Col.paste, mNew, mkKey, keyIn, mGet, mPut, Int.cast_ofNat_Int, Int.reduceBEq, Int.reduceBNe, Int.reduceLT, Int.reduceLE, Int.reduceAdd, Int.reduceSub, Int.reduceMul, Int.reduceToNat, Int.reduceNeg, Int.reduceTMod, Int.reduceEq, not_false_eq_true, Int.reducePow, Int.reduceFDiv, Nat.reducePow, Nat.reduceSub, Nat.reduceMul, Nat.min_eq_left, Nat.reduceEqDiff, BEq.rfl, Int.tdiv_one, LN_succ]
  refine CallO.pure (checkWafer_c nl _) ?_
  simp -dsimp only [aqT, ROp, OX, ↓seqK, ↓blkK, ↓loopK, step, stepBin, res, stepIdx, mix, PV.cells, argSlots, Nat.reduceBEq, Nat.reduceBeqDiff, Nat.add_assoc nid, Nat.reduceAdd, reduceCtorEq, ↓reduceIte, Nat.reduceLeDiff, colPV, freeOf, indep, offO, neqO, disj, namesX, axSlot, opXs, rdXs, idsOf, idsOfs, lowH, lowAll, keys, Nat.reduceBneDiff, Option.toList, ← Int.ofNat_tmod, ← Int.ofNat_tdiv, optInt, fillP, repl, chunk, mkCols, mkCol, colInts, colBools, colStrs, colLits, colsApp, Col.app, tailOf, splice, colsPut, Col.put, mmFold, eqK, Nat.reduceLT, colsPaste, Col.paste, mNew, mkKey, keyIn, mGet, mPut, Int.cast_ofNat_Int, Int.reduceBEq, Int.reduceBNe, Int.reduceLT, Int.reduceLE, Int.reduceAdd, Int.reduceSub, Int.reduceMul, Int.reduceToNat, Int.reduceNeg, Int.reduceTMod, Int.reduceEq, not_false_eq_true, Int.reducePow, Int.reduceFDiv, Nat.reducePow, Nat.reduceSub, Nat.reduceMul, Nat.min_eq_left, Nat.reduceEqDiff, BEq.rfl, Int.tdiv_one, LN_succ]
  refine CallX.pure (places_c nl _) ?_
  simp -dsimp only [aqT, ROp, OX, ↓seqK, ↓blkK, ↓loopK, step, stepBin, res, stepIdx, mix, PV.cells, argSlots, Nat.reduceBEq, Nat.reduceBeqDiff, Nat.add_assoc nid, Nat.reduceAdd, reduceCtorEq, ↓reduceIte, Nat.reduceLeDiff, colPV, freeOf, indep, offO, neqO, disj, namesX, axSlot, opXs, rdXs, idsOf, idsOfs, lowH, lowAll, keys, Nat.reduceBneDiff, Option.toList, ← Int.ofNat_tmod, ← Int.ofNat_tdiv, optInt, fillP, repl, chunk, mkCols, mkCol, colInts, colBools, colStrs, colLits, colsApp, Col.app, tailOf, splice, colsPut, Col.put, mmFold, eqK, Nat.reduceLT, colsPaste, Col.paste, mNew, mkKey, keyIn, mGet, mPut, Int.cast_ofNat_Int, Int.reduceBEq, Int.reduceBNe, Int.reduceLT, Int.reduceLE, Int.reduceAdd, Int.reduceSub, Int.reduceMul, Int.reduceToNat, Int.reduceNeg, Int.reduceTMod, Int.reduceEq, not_false_eq_true, Int.reducePow, Int.reduceFDiv, Nat.reducePow, Nat.reduceSub, Nat.reduceMul, Nat.min_eq_left, Nat.reduceEqDiff, BEq.rfl, Int.tdiv_one, LN_succ]
  refine CallX.gave [nid + 44] (fun nl' => by
    simp only [lends, lend, aqT, ROp, OX, ↓seqK, ↓blkK, ↓loopK, step, stepBin, res, stepIdx, mix, PV.cells, argSlots, Nat.reduceBEq, Nat.reduceBeqDiff, Nat.add_assoc nid, Nat.reduceAdd, reduceCtorEq, ↓reduceIte, Nat.reduceLeDiff, colPV, freeOf, indep, offO, neqO, disj, namesX, axSlot, opXs, rdXs, idsOf, idsOfs, lowH, lowAll, keys, Nat.reduceBneDiff, Option.toList, ← Int.ofNat_tmod, ← Int.ofNat_tdiv, optInt, fillP, repl, chunk, mkCols, mkCol, colInts, colBools, colStrs, colLits, colsApp, Col.app, tailOf, splice, colsPut, Col.put, mmFold, eqK, Nat.reduceLT, colsPaste, Col.paste, mNew, mkKey, keyIn, mGet, mPut]
    exact share_c nl (nl' _) _) (by simp [getH]) ?_
  simp -dsimp only [aqT, ROp, OX, ↓seqK, ↓blkK, ↓loopK, step, stepBin, res, stepIdx, mix, PV.cells, argSlots, Nat.reduceBEq, Nat.reduceBeqDiff, Nat.add_assoc nid, Nat.reduceAdd, reduceCtorEq, ↓reduceIte, Nat.reduceLeDiff, colPV, freeOf, indep, offO, neqO, disj, namesX, axSlot, opXs, rdXs, idsOf, idsOfs, lowH, lowAll, keys, Nat.reduceBneDiff, Option.toList, ← Int.ofNat_tmod, ← Int.ofNat_tdiv, optInt, fillP, repl, chunk, mkCols, mkCol, colInts, colBools, colStrs, colLits, colsApp, Col.app, tailOf, splice, colsPut, Col.put, mmFold, eqK, Nat.reduceLT, colsPaste, Col.paste, mNew, mkKey, keyIn, mGet, mPut, Int.cast_ofNat_Int, Int.reduceBEq, Int.reduceBNe, Int.reduceLT, Int.reduceLE, Int.reduceAdd, Int.reduceSub, Int.reduceMul, Int.reduceToNat, Int.reduceNeg, Int.reduceTMod, Int.reduceEq, not_false_eq_true, Int.reducePow, Int.reduceFDiv, Nat.reducePow, Nat.reduceSub, Nat.reduceMul, Nat.min_eq_left, Nat.reduceEqDiff, BEq.rfl, Int.tdiv_one, LN_succ, kill]
  refine CallO.pure (frac12_c _) ?_
  simp -dsimp only [aqT, ROp, OX, ↓seqK, ↓blkK, ↓loopK, step, stepBin, res, stepIdx, mix, PV.cells, argSlots, Nat.reduceBEq, Nat.reduceBeqDiff, Nat.add_assoc nid, Nat.reduceAdd, reduceCtorEq, ↓reduceIte, Nat.reduceLeDiff, colPV, freeOf, indep, offO, neqO, disj, namesX, axSlot, opXs, rdXs, idsOf, idsOfs, lowH, lowAll, keys, Nat.reduceBneDiff, Option.toList, ← Int.ofNat_tmod, ← Int.ofNat_tdiv, optInt, fillP, repl, chunk, mkCols, mkCol, colInts, colBools, colStrs, colLits, colsApp, Col.app, tailOf, splice, colsPut, Col.put, mmFold, eqK, Nat.reduceLT, colsPaste, Col.paste, mNew, mkKey, keyIn, mGet, mPut, Int.cast_ofNat_Int, Int.reduceBEq, Int.reduceBNe, Int.reduceLT, Int.reduceLE, Int.reduceAdd, Int.reduceSub, Int.reduceMul, Int.reduceToNat, Int.reduceNeg, Int.reduceTMod, Int.reduceEq, not_false_eq_true, Int.reducePow, Int.reduceFDiv, Nat.reducePow, Nat.reduceSub, Nat.reduceMul, Nat.min_eq_left, Nat.reduceEqDiff, BEq.rfl, Int.tdiv_one, LN_succ]
  refine RetOK.go [] [] (.inl rfl) ?_
  simp [a11, retPV, over, keys, List.map_nil, List.map_cons, List.contains_cons, List.contains_nil, Bool.or_false, Bool.or_true, Bool.true_or, Bool.false_or, beq_self_eq_true, cond_true, cond_false, HeapCov, orNil, nilSz, onBlk, srcOf, getH_hit, getH_miss, getH.eq_1, getS_hit, getS_miss, getS.eq_1, BlkCov, PVCovs, PVCov, ColsEq, ColEq.refl, liveIds, SlotsCov, List.all_nil, List.all_cons, List.any_nil, List.any_cons, List.nil_append, List.cons_append, inRange, apart, nilBlk, idS1, idS2, readAll, readRes, onAll, step, res, AX.val, List.drop_zero, List.drop_succ_cons, List.take_succ_cons, List.take_zero]
end Go.Proofs.YtmgfcjblclanmaaDoor
/-
  Counting vectors of three nets, by the abstract machine.
-/
namespace Go.Proofs.YtmgfcjblclanmaaDoor
open Go.RowKit
set_option linter.unusedVariables false
set_option linter.unusedSimpArgs false
set_option maxRecDepth 100000
theorem enough_c (id : Nat) (k v : Int) (b : Bool) (hk : (k = 0 ∧ v = 1 ∧ b = false) ∨ (k = 1 ∧ v = 2 ∧ b = false) ∨ (k = 2 ∧ v = 4 ∧ b = false) ∨ (k = 3 ∧ v = 8 ∧ b = true)) (nid : Nat) (h : id < nid) :
    ACall Tryd.prog 85 [.int .i64 k, .ptr id 0] [(id, some (.box 3 [.int .i64 3]))] nid (.bool b) [] := by
  obtain ⟨e1, e2, e3, e4, e5, e6, e7, e8, e9⟩ := id_all h
  have hv : IntKind.i64.wrap (1 * 2 ^ (min k.toNat IntKind.i64.bits)) = v ∧ 0 ≤ k ∧ inI64 (v - 2) ∧ decide (3 ≤ v - 2) = b := by
    rcases hk with ⟨rfl, rfl, rfl⟩ | ⟨rfl, rfl, rfl⟩ | ⟨rfl, rfl, rfl⟩ | ⟨rfl, rfl, rfl⟩ <;> exact ⟨by decide, by decide, by unfold inI64; omega, by decide⟩
  obtain ⟨h1, h2, h3, h4⟩ := hv
  refine acall_run c85 (by simp [a85]) ?_
  simp -dsimp only [a85, aqT, ROp, OX, ↓seqK, ↓blkK, ↓loopK, step, stepBin, res, stepIdx, mix, PV.cells, argSlots, Nat.reduceBEq, Nat.reduceBeqDiff, Nat.add_assoc nid, Nat.reduceAdd, reduceCtorEq, ↓reduceIte, Nat.reduceLeDiff, colPV, freeOf, indep, offO, neqO, disj, namesX, axSlot, opXs, rdXs, idsOf, idsOfs, lowH, lowAll, keys, Nat.reduceBneDiff, Option.toList, ← Int.ofNat_tmod, ← Int.ofNat_tdiv, optInt, fillP, repl, chunk, mkCols, mkCol, colInts, colBools, colStrs, colLits, colsApp, Col.app, tailOf, splice, colsPut, Col.put, mmFold, eqK, Nat.reduceLT, colsPaste, Col.paste, mNew, mkKey, keyIn, mGet, mPut, e1, e2, e3, e4, e5, e6, e7, e8, e9, h1, h4]
  refine ⟨h2, h3, RetOK.same (.inl rfl) rfl ?_ ?_ ?_⟩ <;> simp [retPV, over, keys, List.map_nil, List.map_cons, List.contains_cons, List.contains_nil, Bool.or_false, Bool.or_true, Bool.true_or, Bool.false_or, beq_self_eq_true, cond_true, cond_false, HeapCov, orNil, nilSz, onBlk, srcOf, getH_hit, getH_miss, getH.eq_1, getS_hit, getS_miss, getS.eq_1, BlkCov, PVCovs, PVCov, ColsEq, ColEq.refl, liveIds, SlotsCov, List.all_nil, List.all_cons, List.any_nil, List.any_cons, List.nil_append, List.cons_append, inRange, apart, nilBlk, idS1, idS2, readAll, readRes, onAll, step, res, AX.val, List.drop_zero, List.drop_succ_cons, List.take_succ_cons, List.take_zero, e1, e2, e3, e4, e5, e6, e7, e8, e9]
theorem least_c (id nid : Nat) (h : id < nid) : ACall Tryd.prog 84 [.int .i64 0, .fn 85 [.ptr id 0]] [(id, some (.box 3 [.int .i64 3]))] nid (.int .i64 3) [] := by
  obtain ⟨e1, e2, e3, e4, e5, e6, e7, e8, e9⟩ := id_all h
  refine acall_run c84 (by simp [a84]) ?_
  simp -dsimp only [a84, aqT, ROp, OX, ↓seqK, ↓blkK, ↓loopK, step, stepBin, res, stepIdx, mix, PV.cells, argSlots, Nat.reduceBEq, Nat.reduceBeqDiff, Nat.add_assoc nid, Nat.reduceAdd, reduceCtorEq, ↓reduceIte, Nat.reduceLeDiff, colPV, freeOf, indep, offO, neqO, disj, namesX, axSlot, opXs, rdXs, idsOf, idsOfs, lowH, lowAll, keys, Nat.reduceBneDiff, Option.toList, ← Int.ofNat_tmod, ← Int.ofNat_tdiv, optInt, fillP, repl, chunk, mkCols, mkCol, colInts, colBools, colStrs, colLits, colsApp, Col.app, tailOf, splice, colsPut, Col.put, mmFold, eqK, Nat.reduceLT, colsPaste, Col.paste, mNew, mkKey, keyIn, mGet, mPut, e1, e2, e3, e4, e5, e6, e7, e8, e9]
  refine LP.rounds 5 ?_
  simp -dsimp only [aqT, ROp, OX, ↓seqK, ↓blkK, ↓loopK, step, stepBin, res, stepIdx, mix, PV.cells, argSlots, Nat.reduceBEq, Nat.reduceBeqDiff, Nat.add_assoc nid, Nat.reduceAdd, reduceCtorEq, ↓reduceIte, Nat.reduceLeDiff, colPV, freeOf, indep, offO, neqO, disj, namesX, axSlot, opXs, rdXs, idsOf, idsOfs, lowH, lowAll, keys, Nat.reduceBneDiff, Option.toList, ← Int.ofNat_tmod, ← Int.ofNat_tdiv, optInt, fillP, repl, chunk, mkCols, mkCol, colInts, colBools, colStrs, colLits, colsApp, Col.app, tailOf, splice, colsPut, Col.put, mmFold, eqK, Nat.reduceLT, colsPaste, Col.paste, mNew, mkKey, keyIn, mGet, mPut, Int.cast_ofNat_Int, Int.reduceBEq, Int.reduceBNe, Int.reduceLT, Int.reduceLE, Int.reduceAdd, Int.reduceSub, Int.reduceMul, Int.reduceToNat, Int.reduceNeg, Int.reduceTMod, Int.reduceEq, not_false_eq_true, Int.reducePow, Int.reduceFDiv, Nat.reducePow, Nat.reduceSub, Nat.reduceMul, Nat.min_eq_left, Nat.reduceEqDiff, BEq.rfl, Int.tdiv_one, LN_succ, e1, e2, e3, e4, e5, e6, e7, e8, e9]
  refine CallO.on (enough_c id 0 1 false (by simp) _ (by omega)) (subH_get (by simp only [aqT, ROp, OX, ↓seqK, ↓blkK, ↓loopK, step, stepBin, res, stepIdx, mix, PV.cells, argSlots, Nat.reduceBEq, Nat.reduceBeqDiff, Nat.add_assoc nid, Nat.reduceAdd, reduceCtorEq, ↓reduceIte, Nat.reduceLeDiff, colPV, freeOf, indep, offO, neqO, disj, namesX, axSlot, opXs, rdXs, idsOf, idsOfs, lowH, lowAll, keys, Nat.reduceBneDiff, Option.toList, ← Int.ofNat_tmod, ← Int.ofNat_tdiv, optInt, fillP, repl, chunk, mkCols, mkCol, colInts, colBools, colStrs, colLits, colsApp, Col.app, tailOf, splice, colsPut, Col.put, mmFold, eqK, Nat.reduceLT, colsPaste, Col.paste, mNew, mkKey, keyIn, mGet, mPut, e1, e2, e3, e4, e5, e6, e7, e8, e9])) ?_
  simp -dsimp only [aqT, ROp, OX, ↓seqK, ↓blkK, ↓loopK, step, stepBin, res, stepIdx, mix, PV.cells, argSlots, Nat.reduceBEq, Nat.reduceBeqDiff, Nat.add_assoc nid, Nat.reduceAdd, reduceCtorEq, ↓reduceIte, Nat.reduceLeDiff, colPV, freeOf, indep, offO, neqO, disj, namesX, axSlot, opXs, rdXs, idsOf, idsOfs, lowH, lowAll, keys, Nat.reduceBneDiff, Option.toList, ← Int.ofNat_tmod, ← Int.ofNat_tdiv, optInt, fillP, repl, chunk, mkCols, mkCol, colInts, colBools, colStrs, colLits, colsApp, Col.app, tailOf, splice, colsPut, Col.put, mmFold, eqK, Nat.reduceLT, colsPaste, Col.paste, mNew, mkKey, keyIn, mGet, mPut, Int.cast_ofNat_Int, Int.reduceBEq, Int.reduceBNe, Int.reduceLT, Int.reduceLE, Int.reduceAdd, Int.reduceSub, Int.reduceMul, Int.reduceToNat, Int.reduceNeg, Int.reduceTMod, Int.reduceEq, not_false_eq_true, Int.reducePow, Int.reduceFDiv, Nat.reducePow, Nat.reduceSub, Nat.reduceMul, Nat.min_eq_left, Nat.reduceEqDiff, BEq.rfl, Int.tdiv_one, LN_succ, e1, e2, e3, e4, e5, e6, e7, e8, e9]
  refine ⟨by unfold inI64; omega, CallO.on (enough_c id 1 2 false (by simp) _ (by omega)) (subH_get (by simp only [aqT, ROp, OX, ↓seqK, ↓blkK, ↓loopK, step, stepBin, res, stepIdx, mix, PV.cells, argSlots, Nat.reduceBEq, Nat.reduceBeqDiff, Nat.add_assoc nid, Nat.reduceAdd, reduceCtorEq, ↓reduceIte, Nat.reduceLeDiff, colPV, freeOf, indep, offO, neqO, disj, namesX, axSlot, opXs, rdXs, idsOf, idsOfs, lowH, lowAll, keys, Nat.reduceBneDiff, Option.toList, ← Int.ofNat_tmod, ← Int.ofNat_tdiv, optInt, fillP, repl, chunk, mkCols, mkCol, colInts, colBools, colStrs, colLits, colsApp, Col.app, tailOf, splice, colsPut, Col.put, mmFold, eqK, Nat.reduceLT, colsPaste, Col.paste, mNew, mkKey, keyIn, mGet, mPut, e1, e2, e3, e4, e5, e6, e7, e8, e9])) ?_⟩
  simp -dsimp only [aqT, ROp, OX, ↓seqK, ↓blkK, ↓loopK, step, stepBin, res, stepIdx, mix, PV.cells, argSlots, Nat.reduceBEq, Nat.reduceBeqDiff, Nat.add_assoc nid, Nat.reduceAdd, reduceCtorEq, ↓reduceIte, Nat.reduceLeDiff, colPV, freeOf, indep, offO, neqO, disj, namesX, axSlot, opXs, rdXs, idsOf, idsOfs, lowH, lowAll, keys, Nat.reduceBneDiff, Option.toList, ← Int.ofNat_tmod, ← Int.ofNat_tdiv, optInt, fillP, repl, chunk, mkCols, mkCol, colInts, colBools, colStrs, colLits, colsApp, Col.app, tailOf, splice, colsPut, Col.put, mmFold, eqK, Nat.reduceLT, colsPaste, Col.paste, mNew, mkKey, keyIn, mGet, mPut, Int.cast_ofNat_Int, Int.reduceBEq, Int.reduceBNe, Int.reduceLT, Int.reduceLE, Int.reduceAdd, Int.reduceSub, Int.reduceMul, Int.reduceToNat, Int.reduceNeg, Int.reduceTMod, Int.reduceEq, not_false_eq_true, Int.reducePow, Int.reduceFDiv, Nat.reducePow, Nat.reduceSub, Nat.reduceMul, Nat.min_eq_left, Nat.reduceEqDiff, BEq.rfl, Int.tdiv_one, LN_succ, e1, e2, e3, e4, e5, e6, e7, e8, e9]
  refine ⟨by unfold inI64; omega, CallO.on (enough_c id 2 4 false (by simp) _ (by omega)) (subH_get (by simp only [aqT, ROp, OX, ↓seqK, ↓blkK, ↓loopK, step, stepBin, res, stepIdx, mix, PV.cells, argSlots, Nat.reduceBEq, Nat.reduceBeqDiff, Nat.add_assoc nid, Nat.reduceAdd, reduceCtorEq, ↓reduceIte, Nat.reduceLeDiff, colPV, freeOf, indep, offO, neqO, disj, namesX, axSlot, opXs, rdXs, idsOf, idsOfs, lowH, lowAll, keys, Nat.reduceBneDiff, Option.toList, ← Int.ofNat_tmod, ← Int.ofNat_tdiv, optInt, fillP, repl, chunk, mkCols, mkCol, colInts, colBools, colStrs, colLits, colsApp, Col.app, tailOf, splice, colsPut, Col.put, mmFold, eqK, Nat.reduceLT, colsPaste, Col.paste, mNew, mkKey, keyIn, mGet, mPut, e1, e2, e3, e4, e5, e6, e7, e8, e9])) ?_⟩
  simp -dsimp only [aqT, ROp, OX, ↓seqK, ↓blkK, ↓loopK, step, stepBin, res, stepIdx, mix, PV.cells, argSlots, Nat.reduceBEq, Nat.reduceBeqDiff, Nat.add_assoc nid, Nat.reduceAdd, reduceCtorEq, ↓reduceIte, Nat.reduceLeDiff, colPV, freeOf, indep, offO, neqO, disj, namesX, axSlot, opXs, rdXs, idsOf, idsOfs, lowH, lowAll, keys, Nat.reduceBneDiff, Option.toList, ← Int.ofNat_tmod, ← Int.ofNat_tdiv, optInt, fillP, repl, chunk, mkCols, mkCol, colInts, colBools, colStrs, colLits, colsApp, Col.app, tailOf, splice, colsPut, Col.put, mmFold, eqK, Nat.reduceLT, colsPaste, Col.paste, mNew, mkKey, keyIn, mGet, mPut, Int.cast_ofNat_Int, Int.reduceBEq, Int.reduceBNe, Int.reduceLT, Int.reduceLE, Int.reduceAdd, Int.reduceSub, Int.reduceMul, Int.reduceToNat, Int.reduceNeg, Int.reduceTMod, Int.reduceEq, not_false_eq_true, Int.reducePow, Int.reduceFDiv, Nat.reducePow, Nat.reduceSub, Nat.reduceMul, Nat.min_eq_left, Nat.reduceEqDiff, BEq.rfl, Int.tdiv_one, LN_succ, e1, e2, e3, e4, e5, e6, e7, e8, e9]
  refine ⟨by unfold inI64; omega, CallO.on (enough_c id 3 8 true (by simp) _ (by omega)) (subH_get (by simp only [aqT, ROp, OX, ↓seqK, ↓blkK, ↓loopK, step, stepBin, res, stepIdx, mix, PV.cells, argSlots, Nat.reduceBEq, Nat.reduceBeqDiff, Nat.add_assoc nid, Nat.reduceAdd, reduceCtorEq, ↓reduceIte, Nat.reduceLeDiff, colPV, freeOf, indep, offO, neqO, disj, namesX, axSlot, opXs, rdXs, idsOf, idsOfs, lowH, lowAll, keys, Nat.reduceBneDiff, Option.toList, ← Int.ofNat_tmod, ← Int.ofNat_tdiv, optInt, fillP, repl, chunk, mkCols, mkCol, colInts, colBools, colStrs, colLits, colsApp, Col.app, tailOf, splice, colsPut, Col.put, mmFold, eqK, Nat.reduceLT, colsPaste, Col.paste, mNew, mkKey, keyIn, mGet, mPut, e1, e2, e3, e4, e5, e6, e7, e8, e9])) ?_⟩
  simp -dsimp only [aqT, ROp, OX, ↓seqK, ↓blkK, ↓loopK, step, stepBin, res, stepIdx, mix, PV.cells, argSlots, Nat.reduceBEq, Nat.reduceBeqDiff, Nat.add_assoc nid, Nat.reduceAdd, reduceCtorEq, ↓reduceIte, Nat.reduceLeDiff, colPV, freeOf, indep, offO, neqO, disj, namesX, axSlot, opXs, rdXs, idsOf, idsOfs, lowH, lowAll, keys, Nat.reduceBneDiff, Option.toList, ← Int.ofNat_tmod, ← Int.ofNat_tdiv, optInt, fillP, repl, chunk, mkCols, mkCol, colInts, colBools, colStrs, colLits, colsApp, Col.app, tailOf, splice, colsPut, Col.put, mmFold, eqK, Nat.reduceLT, colsPaste, Col.paste, mNew, mkKey, keyIn, mGet, mPut, Int.cast_ofNat_Int, Int.reduceBEq, Int.reduceBNe, Int.reduceLT, Int.reduceLE, Int.reduceAdd, Int.reduceSub, Int.reduceMul, Int.reduceToNat, Int.reduceNeg, Int.reduceTMod, Int.reduceEq, not_false_eq_true, Int.reducePow, Int.reduceFDiv, Nat.reducePow, Nat.reduceSub, Nat.reduceMul, Nat.min_eq_left, Nat.reduceEqDiff, BEq.rfl, Int.tdiv_one, LN_succ, e1, e2, e3, e4, e5, e6, e7, e8, e9]
  refine RetOK.same (.inl rfl) rfl ?_ ?_ ?_ <;> simp [retPV, over, keys, List.map_nil, List.map_cons, List.contains_cons, List.contains_nil, Bool.or_false, Bool.or_true, Bool.true_or, Bool.false_or, beq_self_eq_true, cond_true, cond_false, HeapCov, orNil, nilSz, onBlk, srcOf, getH_hit, getH_miss, getH.eq_1, getS_hit, getS_miss, getS.eq_1, BlkCov, PVCovs, PVCov, ColsEq, ColEq.refl, liveIds, SlotsCov, List.all_nil, List.all_cons, List.any_nil, List.any_cons, List.nil_append, List.cons_append, inRange, apart, nilBlk, idS1, idS2, readAll, readRes, onAll, step, res, AX.val, List.drop_zero, List.drop_succ_cons, List.take_succ_cons, List.take_zero, e1, e2, e3, e4, e5, e6, e7, e8, e9]
def bitW (x : Int) (j : Nat) : Int := IntKind.i64.wrap ((BitVec.ofInt IntKind.i64.bits (x.fdiv (2 ^ min j IntKind.i64.bits)) &&& BitVec.ofInt IntKind.i64.bits 1).toNat : Int)
theorem number_c (x b2 b1 b0 : Int) (s : List UInt8) (h2 : bitW x 2 = b2) (h1 : bitW x 1 = b1) (h0 : bitW x 0 = b0) (hb : (0 ≤ b2 ∧ b2 ≤ 1) ∧ (0 ≤ b1 ∧ b1 ≤ 1) ∧ (0 ≤ b0 ∧ b0 ≤ 1))
    (hs : s = [UInt8.ofNat (IntKind.u8.wrap (48 + b2)).toNat, UInt8.ofNat (IntKind.u8.wrap (48 + b1)).toNat, UInt8.ofNat (IntKind.u8.wrap (48 + b0)).toNat]) (nid : Nat) :
    ACall Tryd.prog 86 [.int .i64 x, .int .i64 3] [] nid (.str s) [] := by
  unfold bitW at h2 h1 h0
  refine acall_run c86 (by simp [a86]) ?_
  simp -dsimp only [a86, aqT, ROp, OX, ↓seqK, ↓blkK, ↓loopK, step, stepBin, res, stepIdx, mix, PV.cells, argSlots, Nat.reduceBEq, Nat.reduceBeqDiff, Nat.add_assoc nid, Nat.reduceAdd, reduceCtorEq, ↓reduceIte, Nat.reduceLeDiff, colPV, freeOf, indep, offO, neqO, disj, namesX, axSlot, opXs, rdXs, idsOf, idsOfs, lowH, lowAll, keys, Nat.reduceBneDiff, Option.toList, ← Int.ofNat_tmod, ← Int.ofNat_tdiv, optInt, fillP, repl, chunk, mkCols, mkCol, colInts, colBools, colStrs, colLits, colsApp, Col.app, tailOf, splice, colsPut, Col.put, mmFold, eqK, Nat.reduceLT, colsPaste, Col.paste, mNew, mkKey, keyIn, mGet, mPut, Int.cast_ofNat_Int, Int.reduceBEq, Int.reduceBNe, Int.reduceLT, Int.reduceLE, Int.reduceAdd, Int.reduceSub, Int.reduceMul, Int.reduceToNat, Int.reduceNeg, Int.reduceTMod, Int.reduceEq, not_false_eq_true, Int.reducePow, Int.reduceFDiv, Nat.reducePow, Nat.reduceSub, Nat.reduceMul, Nat.min_eq_left, Nat.reduceEqDiff, BEq.rfl, Int.tdiv_one, LN_succ]
  refine ⟨by unfold inI64; omega, LP.rounds 5 ?_⟩
  simp -dsimp only [aqT, ROp, OX, ↓seqK, ↓blkK, ↓loopK, step, stepBin, res, stepIdx, mix, PV.cells, argSlots, Nat.reduceBEq, Nat.reduceBeqDiff, Nat.add_assoc nid, Nat.reduceAdd, reduceCtorEq, ↓reduceIte, Nat.reduceLeDiff, colPV, freeOf, indep, offO, neqO, disj, namesX, axSlot, opXs, rdXs, idsOf, idsOfs, lowH, lowAll, keys, Nat.reduceBneDiff, Option.toList, ← Int.ofNat_tmod, ← Int.ofNat_tdiv, optInt, fillP, repl, chunk, mkCols, mkCol, colInts, colBools, colStrs, colLits, colsApp, Col.app, tailOf, splice, colsPut, Col.put, mmFold, eqK, Nat.reduceLT, colsPaste, Col.paste, mNew, mkKey, keyIn, mGet, mPut, Int.cast_ofNat_Int, Int.reduceBEq, Int.reduceBNe, Int.reduceLT, Int.reduceLE, Int.reduceAdd, Int.reduceSub, Int.reduceMul, Int.reduceToNat, Int.reduceNeg, Int.reduceTMod, Int.reduceEq, not_false_eq_true, Int.reducePow, Int.reduceFDiv, Nat.reducePow, Nat.reduceSub, Nat.reduceMul, Nat.min_eq_left, Nat.reduceEqDiff, BEq.rfl, Int.tdiv_one, LN_succ]
  rw [h2, h1, h0]
  obtain ⟨⟨a1, a2⟩, ⟨a3, a4⟩, a5, a6⟩ := hb
  refine ⟨by unfold inI64; omega, by unfold inI64; omega, by unfold inI64; omega, by unfold inI64; omega, by unfold inI64; omega, by unfold inI64; omega, RetOK.pure (.inl rfl) rfl ?_⟩
  subst hs
  simp [retPV, over, keys, List.map_nil, List.map_cons, List.contains_cons, List.contains_nil, Bool.or_false, Bool.or_true, Bool.true_or, Bool.false_or, beq_self_eq_true, cond_true, cond_false, HeapCov, orNil, nilSz, onBlk, srcOf, getH_hit, getH_miss, getH.eq_1, getS_hit, getS_miss, getS.eq_1, BlkCov, PVCovs, PVCov, ColsEq, ColEq.refl, liveIds, SlotsCov, List.all_nil, List.all_cons, List.any_nil, List.any_cons, List.nil_append, List.cons_append, inRange, apart, nilBlk, idS1, idS2, readAll, readRes, onAll, step, res, AX.val, List.drop_zero, List.drop_succ_cons, List.take_succ_cons, List.take_zero, List.range_succ]
theorem netsFault_c (nid : Nat) : ACall Tryd.prog 83 [.int .i64 3] [] nid (.int .i64 0) [] := by
  have ho : outB 3 1 100 = false := by decide
  refine acall_run c83 (by simp [a83]) ?_
  simp -dsimp only [a83, aqT, ROp, OX, ↓seqK, ↓blkK, ↓loopK, step, stepBin, res, stepIdx, mix, PV.cells, argSlots, Nat.reduceBEq, Nat.reduceBeqDiff, Nat.add_assoc nid, Nat.reduceAdd, reduceCtorEq, ↓reduceIte, Nat.reduceLeDiff, colPV, freeOf, indep, offO, neqO, disj, namesX, axSlot, opXs, rdXs, idsOf, idsOfs, lowH, lowAll, keys, Nat.reduceBneDiff, Option.toList, ← Int.ofNat_tmod, ← Int.ofNat_tdiv, optInt, fillP, repl, chunk, mkCols, mkCol, colInts, colBools, colStrs, colLits, colsApp, Col.app, tailOf, splice, colsPut, Col.put, mmFold, eqK, Nat.reduceLT, colsPaste, Col.paste, mNew, mkKey, keyIn, mGet, mPut, Int.cast_ofNat_Int, Int.reduceBEq, Int.reduceBNe, Int.reduceLT, Int.reduceLE, Int.reduceAdd, Int.reduceSub, Int.reduceMul, Int.reduceToNat, Int.reduceNeg, Int.reduceTMod, Int.reduceEq, not_false_eq_true, Int.reducePow, Int.reduceFDiv, Nat.reducePow, Nat.reduceSub, Nat.reduceMul, Nat.min_eq_left, Nat.reduceEqDiff, BEq.rfl, Int.tdiv_one, LN_succ]
  refine CallO.pure (out_c _ _ _ _) ?_
  rw [ho]
  simp -dsimp only [aqT, ROp, OX, ↓seqK, ↓blkK, ↓loopK, step, stepBin, res, stepIdx, mix, PV.cells, argSlots, Nat.reduceBEq, Nat.reduceBeqDiff, Nat.add_assoc nid, Nat.reduceAdd, reduceCtorEq, ↓reduceIte, Nat.reduceLeDiff, colPV, freeOf, indep, offO, neqO, disj, namesX, axSlot, opXs, rdXs, idsOf, idsOfs, lowH, lowAll, keys, Nat.reduceBneDiff, Option.toList, ← Int.ofNat_tmod, ← Int.ofNat_tdiv, optInt, fillP, repl, chunk, mkCols, mkCol, colInts, colBools, colStrs, colLits, colsApp, Col.app, tailOf, splice, colsPut, Col.put, mmFold, eqK, Nat.reduceLT, colsPaste, Col.paste, mNew, mkKey, keyIn, mGet, mPut, Int.cast_ofNat_Int, Int.reduceBEq, Int.reduceBNe, Int.reduceLT, Int.reduceLE, Int.reduceAdd, Int.reduceSub, Int.reduceMul, Int.reduceToNat, Int.reduceNeg, Int.reduceTMod, Int.reduceEq, not_false_eq_true, Int.reducePow, Int.reduceFDiv, Nat.reducePow, Nat.reduceSub, Nat.reduceMul, Nat.min_eq_left, Nat.reduceEqDiff, BEq.rfl, Int.tdiv_one, LN_succ]
  refine RetOK.pure (.inl rfl) rfl ?_
  simp [retPV, over, keys, List.map_nil, List.map_cons, List.contains_cons, List.contains_nil, Bool.or_false, Bool.or_true, Bool.true_or, Bool.false_or, beq_self_eq_true, cond_true, cond_false, HeapCov, orNil, nilSz, onBlk, srcOf, getH_hit, getH_miss, getH.eq_1, getS_hit, getS_miss, getS.eq_1, BlkCov, PVCovs, PVCov, ColsEq, ColEq.refl, liveIds, SlotsCov, List.all_nil, List.all_cons, List.any_nil, List.any_cons, List.nil_append, List.cons_append, inRange, apart, nilBlk, idS1, idS2, readAll, readRes, onAll, step, res, AX.val, List.drop_zero, List.drop_succ_cons, List.take_succ_cons, List.take_zero]
def vecs : List (List UInt8) := [[48, 48, 48], [48, 49, 49], [49, 48, 49]]
theorem turned_c (nl : Bool) (nid : Nat) : ACall Tryd.prog 87 [.lit nl 3 [.s fun i => [[48, 48, 49], [48, 49, 48], [48, 49, 49]].getD i []], .int .i64 3] [] nid (.sl nid 0 3) [(nid, some (.arr 9 3 [.s fun i => vecs.getD i []]))] := by
  refine acall_run c87 (by simp [a87]) ?_
  simp -dsimp only [a87, aqT, ROp, OX, ↓seqK, ↓blkK, ↓loopK, step, stepBin, res, stepIdx, mix, PV.cells, argSlots, Nat.reduceBEq, Nat.reduceBeqDiff, Nat.add_assoc nid, Nat.reduceAdd, reduceCtorEq, ↓reduceIte, Nat.reduceLeDiff, colPV, freeOf, indep, offO, neqO, disj, namesX, axSlot, opXs, rdXs, idsOf, idsOfs, lowH, lowAll, keys, Nat.reduceBneDiff, Option.toList, ← Int.ofNat_tmod, ← Int.ofNat_tdiv, optInt, fillP, repl, chunk, mkCols, mkCol, colInts, colBools, colStrs, colLits, colsApp, Col.app, tailOf, splice, colsPut, Col.put, mmFold, eqK, Nat.reduceLT, colsPaste, Col.paste, mNew, mkKey, keyIn, mGet, mPut, Int.cast_ofNat_Int, Int.reduceBEq, Int.reduceBNe, Int.reduceLT, Int.reduceLE, Int.reduceAdd, Int.reduceSub, Int.reduceMul, Int.reduceToNat, Int.reduceNeg, Int.reduceTMod, Int.reduceEq, not_false_eq_true, Int.reducePow, Int.reduceFDiv, Nat.reducePow, Nat.reduceSub, Nat.reduceMul, Nat.min_eq_left, Nat.reduceEqDiff, BEq.rfl, Int.tdiv_one, LN_succ]
  refine LP.rounds 5 ?_
  simp -dsimp only [aqT, ROp, OX, ↓seqK, ↓blkK, ↓loopK, step, stepBin, res, stepIdx, mix, PV.cells, argSlots, Nat.reduceBEq, Nat.reduceBeqDiff, Nat.add_assoc nid, Nat.reduceAdd, reduceCtorEq, ↓reduceIte, Nat.reduceLeDiff, colPV, freeOf, indep, offO, neqO, disj, namesX, axSlot, opXs, rdXs, idsOf, idsOfs, lowH, lowAll, keys, Nat.reduceBneDiff, Option.toList, ← Int.ofNat_tmod, ← Int.ofNat_tdiv, optInt, fillP, repl, chunk, mkCols, mkCol, colInts, colBools, colStrs, colLits, colsApp, Col.app, tailOf, splice, colsPut, Col.put, mmFold, eqK, Nat.reduceLT, colsPaste, Col.paste, mNew, mkKey, keyIn, mGet, mPut, Int.cast_ofNat_Int, Int.reduceBEq, Int.reduceBNe, Int.reduceLT, Int.reduceLE, Int.reduceAdd, Int.reduceSub, Int.reduceMul, Int.reduceToNat, Int.reduceNeg, Int.reduceTMod, Int.reduceEq, not_false_eq_true, Int.reducePow, Int.reduceFDiv, Nat.reducePow, Nat.reduceSub, Nat.reduceMul, Nat.min_eq_left, Nat.reduceEqDiff, BEq.rfl, Int.tdiv_one, LN_succ]
  refine LP.rounds 5 ?_
  simp -dsimp only [aqT, ROp, OX, ↓seqK, ↓blkK, ↓loopK, step, stepBin, res, stepIdx, mix, PV.cells, argSlots, Nat.reduceBEq, Nat.reduceBeqDiff, Nat.add_assoc nid, Nat.reduceAdd, reduceCtorEq, ↓reduceIte, Nat.reduceLeDiff, colPV, freeOf, indep, offO, neqO, disj, namesX, axSlot, opXs, rdXs, idsOf, idsOfs, lowH, lowAll, keys, Nat.reduceBneDiff, Option.toList, ← Int.ofNat_tmod, ← Int.ofNat_tdiv, optInt, fillP, repl, chunk, mkCols, mkCol, colInts, colBools, colStrs, colLits, colsApp, Col.app, tailOf, splice, colsPut, Col.put, mmFold, eqK, Nat.reduceLT, colsPaste, Col.paste, mNew, mkKey, keyIn, mGet, mPut, Int.cast_ofNat_Int, Int.reduceBEq, Int.reduceBNe, Int.reduceLT, Int.reduceLE, Int.reduceAdd, Int.reduceSub, Int.reduceMul, Int.reduceToNat, Int.reduceNeg, Int.reduceTMod, Int.reduceEq, not_false_eq_true, Int.reducePow, Int.reduceFDiv, Nat.reducePow, Nat.reduceSub, Nat.reduceMul, Nat.min_eq_left, Nat.reduceEqDiff, BEq.rfl, Int.tdiv_one, LN_succ, Col.const, List.getD_cons_zero, List.getD_cons_succ]
  refine ⟨by unfold inI64; omega, by unfold inI64; omega, by unfold inI64; omega, by unfold inI64; omega, LP.rounds 5 ?_⟩
  simp -dsimp only [aqT, ROp, OX, ↓seqK, ↓blkK, ↓loopK, step, stepBin, res, stepIdx, mix, PV.cells, argSlots, Nat.reduceBEq, Nat.reduceBeqDiff, Nat.add_assoc nid, Nat.reduceAdd, reduceCtorEq, ↓reduceIte, Nat.reduceLeDiff, colPV, freeOf, indep, offO, neqO, disj, namesX, axSlot, opXs, rdXs, idsOf, idsOfs, lowH, lowAll, keys, Nat.reduceBneDiff, Option.toList, ← Int.ofNat_tmod, ← Int.ofNat_tdiv, optInt, fillP, repl, chunk, mkCols, mkCol, colInts, colBools, colStrs, colLits, colsApp, Col.app, tailOf, splice, colsPut, Col.put, mmFold, eqK, Nat.reduceLT, colsPaste, Col.paste, mNew, mkKey, keyIn, mGet, mPut, Int.cast_ofNat_Int, Int.reduceBEq, Int.reduceBNe, Int.reduceLT, Int.reduceLE, Int.reduceAdd, Int.reduceSub, Int.reduceMul, Int.reduceToNat, Int.reduceNeg, Int.reduceTMod, Int.reduceEq, not_false_eq_true, Int.reducePow, Int.reduceFDiv, Nat.reducePow, Nat.reduceSub, Nat.reduceMul, Nat.min_eq_left, Nat.reduceEqDiff, BEq.rfl, Int.tdiv_one, LN_succ, Col.const, List.getD_cons_zero, List.getD_cons_succ]
  refine ⟨by unfold inI64; omega, by unfold inI64; omega, by unfold inI64; omega, by unfold inI64; omega, LP.rounds 5 ?_⟩
  simp -dsimp only [aqT, ROp, OX, ↓seqK, ↓blkK, ↓loopK, step, stepBin, res, stepIdx, mix, PV.cells, argSlots, Nat.reduceBEq, Nat.reduceBeqDiff, Nat.add_assoc nid, Nat.reduceAdd, reduceCtorEq, ↓reduceIte, Nat.reduceLeDiff, colPV, freeOf, indep, offO, neqO, disj, namesX, axSlot, opXs, rdXs, idsOf, idsOfs, lowH, lowAll, keys, Nat.reduceBneDiff, Option.toList, ← Int.ofNat_tmod, ← Int.ofNat_tdiv, optInt, fillP, repl, chunk, mkCols, mkCol, colInts, colBools, colStrs, colLits, colsApp, Col.app, tailOf, splice, colsPut, Col.put, mmFold, eqK, Nat.reduceLT, colsPaste, Col.paste, mNew, mkKey, keyIn, mGet, mPut, Int.cast_ofNat_Int, Int.reduceBEq, Int.reduceBNe, Int.reduceLT, Int.reduceLE, Int.reduceAdd, Int.reduceSub, Int.reduceMul, Int.reduceToNat, Int.reduceNeg, Int.reduceTMod, Int.reduceEq, not_false_eq_true, Int.reducePow, Int.reduceFDiv, Nat.reducePow, Nat.reduceSub, Nat.reduceMul, Nat.min_eq_left, Nat.reduceEqDiff, BEq.rfl, Int.tdiv_one, LN_succ, Col.const, List.getD_cons_zero, List.getD_cons_succ]
  refine ⟨by unfold inI64; omega, by unfold inI64; omega, by unfold inI64; omega, by unfold inI64; omega, RetOK.go [(nid, nid + 768)] [] (.inl rfl) ?_⟩
  simp [a87, retPV, over, keys, List.map_nil, List.map_cons, List.contains_cons, List.contains_nil, Bool.or_false, Bool.or_true, Bool.true_or, Bool.false_or, beq_self_eq_true, cond_true, cond_false, HeapCov, orNil, nilSz, onBlk, srcOf, getH_hit, getH_miss, getH.eq_1, getS_hit, getS_miss, getS.eq_1, BlkCov, PVCovs, PVCov, ColsEq, ColEq.refl, liveIds, SlotsCov, List.all_nil, List.all_cons, List.any_nil, List.any_cons, List.nil_append, List.cons_append, inRange, apart, nilBlk, idS1, idS2, readAll, readRes, onAll, step, res, AX.val, List.drop_zero, List.drop_succ_cons, List.take_succ_cons, List.take_zero, -List.getD_eq_getElem?_getD]
  trace_state
  refine ColEq.s fun i hi => ?_
  have : i = 0 ∨ i = 1 ∨ i = 2 := by omega
  rcases this with rfl | rfl | rfl <;> decide
theorem counting_c (nid : Nat) : ACall Tryd.prog 46 [.int .i64 3] [] nid (.tup [.sl nid 0 3, .int .i64 0]) [(nid, some (.arr 9 3 [.s fun i => vecs.getD i []]))] := by
  refine acall_run c46 (by simp [a46]) ?_
  simp -dsimp only [a46, aqT, ROp, OX, ↓seqK, ↓blkK, ↓loopK, step, stepBin, res, stepIdx, mix, PV.cells, argSlots, Nat.reduceBEq, Nat.reduceBeqDiff, Nat.add_assoc nid, Nat.reduceAdd, reduceCtorEq, ↓reduceIte, Nat.reduceLeDiff, colPV, freeOf, indep, offO, neqO, disj, namesX, axSlot, opXs, rdXs, idsOf, idsOfs, lowH, lowAll, keys, Nat.reduceBneDiff, Option.toList, ← Int.ofNat_tmod, ← Int.ofNat_tdiv, optInt, fillP, repl, chunk, mkCols, mkCol, colInts, colBools, colStrs, colLits, colsApp, Col.app, tailOf, splice, colsPut, Col.put, mmFold, eqK, Nat.reduceLT, colsPaste, Col.paste, mNew, mkKey, keyIn, mGet, mPut, Int.cast_ofNat_Int, Int.reduceBEq, Int.reduceBNe, Int.reduceLT, Int.reduceLE, Int.reduceAdd, Int.reduceSub, Int.reduceMul, Int.reduceToNat, Int.reduceNeg, Int.reduceTMod, Int.reduceEq, not_false_eq_true, Int.reducePow, Int.reduceFDiv, Nat.reducePow, Nat.reduceSub, Nat.reduceMul, Nat.min_eq_left, Nat.reduceEqDiff, BEq.rfl, Int.tdiv_one, LN_succ]
  refine CallO.pure (netsFault_c _) ?_
  simp -dsimp only [aqT, ROp, OX, ↓seqK, ↓blkK, ↓loopK, step, stepBin, res, stepIdx, mix, PV.cells, argSlots, Nat.reduceBEq, Nat.reduceBeqDiff, Nat.add_assoc nid, Nat.reduceAdd, reduceCtorEq, ↓reduceIte, Nat.reduceLeDiff, colPV, freeOf, indep, offO, neqO, disj, namesX, axSlot, opXs, rdXs, idsOf, idsOfs, lowH, lowAll, keys, Nat.reduceBneDiff, Option.toList, ← Int.ofNat_tmod, ← Int.ofNat_tdiv, optInt, fillP, repl, chunk, mkCols, mkCol, colInts, colBools, colStrs, colLits, colsApp, Col.app, tailOf, splice, colsPut, Col.put, mmFold, eqK, Nat.reduceLT, colsPaste, Col.paste, mNew, mkKey, keyIn, mGet, mPut, Int.cast_ofNat_Int, Int.reduceBEq, Int.reduceBNe, Int.reduceLT, Int.reduceLE, Int.reduceAdd, Int.reduceSub, Int.reduceMul, Int.reduceToNat, Int.reduceNeg, Int.reduceTMod, Int.reduceEq, not_false_eq_true, Int.reducePow, Int.reduceFDiv, Nat.reducePow, Nat.reduceSub, Nat.reduceMul, Nat.min_eq_left, Nat.reduceEqDiff, BEq.rfl, Int.tdiv_one, LN_succ]
  refine CallO.on (least_c nid _ (by omega)) (subH_get (by simp only [aqT, ROp, OX, ↓seqK, ↓blkK, ↓loopK, step, stepBin, res, stepIdx, mix, PV.cells, argSlots, Nat.reduceBEq, Nat.reduceBeqDiff, Nat.add_assoc nid, Nat.reduceAdd, reduceCtorEq, ↓reduceIte, Nat.reduceLeDiff, colPV, freeOf, indep, offO, neqO, disj, namesX, axSlot, opXs, rdXs, idsOf, idsOfs, lowH, lowAll, keys, Nat.reduceBneDiff, Option.toList, ← Int.ofNat_tmod, ← Int.ofNat_tdiv, optInt, fillP, repl, chunk, mkCols, mkCol, colInts, colBools, colStrs, colLits, colsApp, Col.app, tailOf, splice, colsPut, Col.put, mmFold, eqK, Nat.reduceLT, colsPaste, Col.paste, mNew, mkKey, keyIn, mGet, mPut])) ?_
  simp -dsimp only [aqT, ROp, OX, ↓seqK, ↓blkK, ↓loopK, step, stepBin, res, stepIdx, mix, PV.cells, argSlots, Nat.reduceBEq, Nat.reduceBeqDiff, Nat.add_assoc nid, Nat.reduceAdd, reduceCtorEq, ↓reduceIte, Nat.reduceLeDiff, colPV, freeOf, indep, offO, neqO, disj, namesX, axSlot, opXs, rdXs, idsOf, idsOfs, lowH, lowAll, keys, Nat.reduceBneDiff, Option.toList, ← Int.ofNat_tmod, ← Int.ofNat_tdiv, optInt, fillP, repl, chunk, mkCols, mkCol, colInts, colBools, colStrs, colLits, colsApp, Col.app, tailOf, splice, colsPut, Col.put, mmFold, eqK, Nat.reduceLT, colsPaste, Col.paste, mNew, mkKey, keyIn, mGet, mPut, Int.cast_ofNat_Int, Int.reduceBEq, Int.reduceBNe, Int.reduceLT, Int.reduceLE, Int.reduceAdd, Int.reduceSub, Int.reduceMul, Int.reduceToNat, Int.reduceNeg, Int.reduceTMod, Int.reduceEq, not_false_eq_true, Int.reducePow, Int.reduceFDiv, Nat.reducePow, Nat.reduceSub, Nat.reduceMul, Nat.min_eq_left, Nat.reduceEqDiff, BEq.rfl, Int.tdiv_one, LN_succ]
  refine LP.rounds 5 ?_
  simp -dsimp only [aqT, ROp, OX, ↓seqK, ↓blkK, ↓loopK, step, stepBin, res, stepIdx, mix, PV.cells, argSlots, Nat.reduceBEq, Nat.reduceBeqDiff, Nat.add_assoc nid, Nat.reduceAdd, reduceCtorEq, ↓reduceIte, Nat.reduceLeDiff, colPV, freeOf, indep, offO, neqO, disj, namesX, axSlot, opXs, rdXs, idsOf, idsOfs, lowH, lowAll, keys, Nat.reduceBneDiff, Option.toList, ← Int.ofNat_tmod, ← Int.ofNat_tdiv, optInt, fillP, repl, chunk, mkCols, mkCol, colInts, colBools, colStrs, colLits, colsApp, Col.app, tailOf, splice, colsPut, Col.put, mmFold, eqK, Nat.reduceLT, colsPaste, Col.paste, mNew, mkKey, keyIn, mGet, mPut, Int.cast_ofNat_Int, Int.reduceBEq, Int.reduceBNe, Int.reduceLT, Int.reduceLE, Int.reduceAdd, Int.reduceSub, Int.reduceMul, Int.reduceToNat, Int.reduceNeg, Int.reduceTMod, Int.reduceEq, not_false_eq_true, Int.reducePow, Int.reduceFDiv, Nat.reducePow, Nat.reduceSub, Nat.reduceMul, Nat.min_eq_left, Nat.reduceEqDiff, BEq.rfl, Int.tdiv_one, LN_succ]
  refine ⟨by unfold inI64; omega, CallO.pure (number_c 1 0 0 1 [48, 48, 49] (by decide) (by decide) (by decide) (by omega) (by decide) _) ?_⟩
  simp -dsimp only [aqT, ROp, OX, ↓seqK, ↓blkK, ↓loopK, step, stepBin, res, stepIdx, mix, PV.cells, argSlots, Nat.reduceBEq, Nat.reduceBeqDiff, Nat.add_assoc nid, Nat.reduceAdd, reduceCtorEq, ↓reduceIte, Nat.reduceLeDiff, colPV, freeOf, indep, offO, neqO, disj, namesX, axSlot, opXs, rdXs, idsOf, idsOfs, lowH, lowAll, keys, Nat.reduceBneDiff, Option.toList, ← Int.ofNat_tmod, ← Int.ofNat_tdiv, optInt, fillP, repl, chunk, mkCols, mkCol, colInts, colBools, colStrs, colLits, colsApp, Col.app, tailOf, splice, colsPut, Col.put, mmFold, eqK, Nat.reduceLT, colsPaste, Col.paste, mNew, mkKey, keyIn, mGet, mPut, Int.cast_ofNat_Int, Int.reduceBEq, Int.reduceBNe, Int.reduceLT, Int.reduceLE, Int.reduceAdd, Int.reduceSub, Int.reduceMul, Int.reduceToNat, Int.reduceNeg, Int.reduceTMod, Int.reduceEq, not_false_eq_true, Int.reducePow, Int.reduceFDiv, Nat.reducePow, Nat.reduceSub, Nat.reduceMul, Nat.min_eq_left, Nat.reduceEqDiff, BEq.rfl, Int.tdiv_one, LN_succ]
  refine ⟨by unfold inI64; omega, by unfold inI64; omega, CallO.pure (number_c 2 0 1 0 [48, 49, 48] (by decide) (by decide) (by decide) (by omega) (by decide) _) ?_⟩
  simp -dsimp only [aqT, ROp, OX, ↓seqK, ↓blkK, ↓loopK, step, stepBin, res, stepIdx, mix, PV.cells, argSlots, Nat.reduceBEq, Nat.reduceBeqDiff, Nat.add_assoc nid, Nat.reduceAdd, reduceCtorEq, ↓reduceIte, Nat.reduceLeDiff, colPV, freeOf, indep, offO, neqO, disj, namesX, axSlot, opXs, rdXs, idsOf, idsOfs, lowH, lowAll, keys, Nat.reduceBneDiff, Option.toList, ← Int.ofNat_tmod, ← Int.ofNat_tdiv, optInt, fillP, repl, chunk, mkCols, mkCol, colInts, colBools, colStrs, colLits, colsApp, Col.app, tailOf, splice, colsPut, Col.put, mmFold, eqK, Nat.reduceLT, colsPaste, Col.paste, mNew, mkKey, keyIn, mGet, mPut, Int.cast_ofNat_Int, Int.reduceBEq, Int.reduceBNe, Int.reduceLT, Int.reduceLE, Int.reduceAdd, Int.reduceSub, Int.reduceMul, Int.reduceToNat, Int.reduceNeg, Int.reduceTMod, Int.reduceEq, not_false_eq_true, Int.reducePow, Int.reduceFDiv, Nat.reducePow, Nat.reduceSub, Nat.reduceMul, Nat.min_eq_left, Nat.reduceEqDiff, BEq.rfl, Int.tdiv_one, LN_succ]
  refine ⟨by unfold inI64; omega, by unfold inI64; omega, CallO.pure (number_c 3 0 1 1 [48, 49, 49] (by decide) (by decide) (by decide) (by omega) (by decide) _) ?_⟩
  simp -dsimp only [aqT, ROp, OX, ↓seqK, ↓blkK, ↓loopK, step, stepBin, res, stepIdx, mix, PV.cells, argSlots, Nat.reduceBEq, Nat.reduceBeqDiff, Nat.add_assoc nid, Nat.reduceAdd, reduceCtorEq, ↓reduceIte, Nat.reduceLeDiff, colPV, freeOf, indep, offO, neqO, disj, namesX, axSlot, opXs, rdXs, idsOf, idsOfs, lowH, lowAll, keys, Nat.reduceBneDiff, Option.toList, ← Int.ofNat_tmod, ← Int.ofNat_tdiv, optInt, fillP, repl, chunk, mkCols, mkCol, colInts, colBools, colStrs, colLits, colsApp, Col.app, tailOf, splice, colsPut, Col.put, mmFold, eqK, Nat.reduceLT, colsPaste, Col.paste, mNew, mkKey, keyIn, mGet, mPut, Int.cast_ofNat_Int, Int.reduceBEq, Int.reduceBNe, Int.reduceLT, Int.reduceLE, Int.reduceAdd, Int.reduceSub, Int.reduceMul, Int.reduceToNat, Int.reduceNeg, Int.reduceTMod, Int.reduceEq, not_false_eq_true, Int.reducePow, Int.reduceFDiv, Nat.reducePow, Nat.reduceSub, Nat.reduceMul, Nat.min_eq_left, Nat.reduceEqDiff, BEq.rfl, Int.tdiv_one, LN_succ]
  refine ⟨by unfold inI64; omega, CallO.gave [nid + 196] (fun nl' => by
    simp only [lends, lend, aqT, ROp, OX, ↓seqK, ↓blkK, ↓loopK, step, stepBin, res, stepIdx, mix, PV.cells, argSlots, Nat.reduceBEq, Nat.reduceBeqDiff, Nat.add_assoc nid, Nat.reduceAdd, reduceCtorEq, ↓reduceIte, Nat.reduceLeDiff, colPV, freeOf, indep, offO, neqO, disj, namesX, axSlot, opXs, rdXs, idsOf, idsOfs, lowH, lowAll, keys, Nat.reduceBneDiff, Option.toList, ← Int.ofNat_tmod, ← Int.ofNat_tdiv, optInt, fillP, repl, chunk, mkCols, mkCol, colInts, colBools, colStrs, colLits, colsApp, Col.app, tailOf, splice, colsPut, Col.put, mmFold, eqK, Nat.reduceLT, colsPaste, Col.paste, mNew, mkKey, keyIn, mGet, mPut]
    exact (turned_c (nl' _) _).args ⟨⟨rfl, rfl, ColEq.s fun i hi => by
      have : i = 0 ∨ i = 1 ∨ i = 2 := by omega
      rcases this with rfl | rfl | rfl <;> rfl, trivial⟩, rfl, trivial⟩) (fun id hid => by simp only [List.mem_singleton] at hid; subst hid; simp only [aqT, ROp, OX, ↓seqK, ↓blkK, ↓loopK, step, stepBin, res, stepIdx, mix, PV.cells, argSlots, Nat.reduceBEq, Nat.reduceBeqDiff, Nat.add_assoc nid, Nat.reduceAdd, reduceCtorEq, ↓reduceIte, Nat.reduceLeDiff, colPV, freeOf, indep, offO, neqO, disj, namesX, axSlot, opXs, rdXs, idsOf, idsOfs, lowH, lowAll, keys, Nat.reduceBneDiff, Option.toList, ← Int.ofNat_tmod, ← Int.ofNat_tdiv, optInt, fillP, repl, chunk, mkCols, mkCol, colInts, colBools, colStrs, colLits, colsApp, Col.app, tailOf, splice, colsPut, Col.put, mmFold, eqK, Nat.reduceLT, colsPaste, Col.paste, mNew, mkKey, keyIn, mGet, mPut]) ?_⟩
  simp -dsimp only [aqT, ROp, OX, ↓seqK, ↓blkK, ↓loopK, step, stepBin, res, stepIdx, mix, PV.cells, argSlots, Nat.reduceBEq, Nat.reduceBeqDiff, Nat.add_assoc nid, Nat.reduceAdd, reduceCtorEq, ↓reduceIte, Nat.reduceLeDiff, colPV, freeOf, indep, offO, neqO, disj, namesX, axSlot, opXs, rdXs, idsOf, idsOfs, lowH, lowAll, keys, Nat.reduceBneDiff, Option.toList, ← Int.ofNat_tmod, ← Int.ofNat_tdiv, optInt, fillP, repl, chunk, mkCols, mkCol, colInts, colBools, colStrs, colLits, colsApp, Col.app, tailOf, splice, colsPut, Col.put, mmFold, eqK, Nat.reduceLT, colsPaste, Col.paste, mNew, mkKey, keyIn, mGet, mPut, Int.cast_ofNat_Int, Int.reduceBEq, Int.reduceBNe, Int.reduceLT, Int.reduceLE, Int.reduceAdd, Int.reduceSub, Int.reduceMul, Int.reduceToNat, Int.reduceNeg, Int.reduceTMod, Int.reduceEq, not_false_eq_true, Int.reducePow, Int.reduceFDiv, Nat.reducePow, Nat.reduceSub, Nat.reduceMul, Nat.min_eq_left, Nat.reduceEqDiff, BEq.rfl, Int.tdiv_one, LN_succ, kill]
  refine RetOK.go [(nid, nid + 224)] [] (.inl rfl) ?_
  simp [a46, retPV, over, keys, List.map_nil, List.map_cons, List.contains_cons, List.contains_nil, Bool.or_false, Bool.or_true, Bool.true_or, Bool.false_or, beq_self_eq_true, cond_true, cond_false, HeapCov, orNil, nilSz, onBlk, srcOf, getH_hit, getH_miss, getH.eq_1, getS_hit, getS_miss, getS.eq_1, BlkCov, PVCovs, PVCov, ColsEq, ColEq.refl, liveIds, SlotsCov, List.all_nil, List.all_cons, List.any_nil, List.any_cons, List.nil_append, List.cons_append, inRange, apart, nilBlk, idS1, idS2, readAll, readRes, onAll, step, res, AX.val, List.drop_zero, List.drop_succ_cons, List.take_succ_cons, List.take_zero]
end Go.Proofs.YtmgfcjblclanmaaDoor
/-
  Path and ready, by the abstract machine.
-/
namespace Go.Proofs.YtmgfcjblclanmaaDoor
open Go.RowKit
set_option linter.unusedVariables false
set_option linter.unusedSimpArgs false
set_option maxRecDepth 100000
theorem isState_c (n : Int) (nid : Nat) : ACall Tryd.prog 81 [.int .i64 n] [] nid (.bool (!outB n 0 15)) [] := by
  refine acall_run c81 (by simp [a81]) ?_
  simp -dsimp only [a81, aqT, ROp, OX, ↓seqK, ↓blkK, ↓loopK, step, stepBin, res, stepIdx, mix, PV.cells, argSlots, Nat.reduceBEq, Nat.reduceBeqDiff, Nat.add_assoc nid, Nat.reduceAdd, reduceCtorEq, ↓reduceIte, Nat.reduceLeDiff, colPV, freeOf, indep, offO, neqO, disj, namesX, axSlot, opXs, rdXs, idsOf, idsOfs, lowH, lowAll, keys, Nat.reduceBneDiff, Option.toList, ← Int.ofNat_tmod, ← Int.ofNat_tdiv, optInt, fillP, repl, chunk, mkCols, mkCol, colInts, colBools, colStrs, colLits, colsApp, Col.app, tailOf, splice, colsPut, Col.put, mmFold, eqK, Nat.reduceLT, colsPaste, Col.paste, mNew, mkKey, keyIn, mGet, mPut]
  refine CallO.pure (out_c _ _ _ _) ?_
  simp -dsimp only [aqT, ROp, OX, ↓seqK, ↓blkK, ↓loopK, step, stepBin, res, stepIdx, mix, PV.cells, argSlots, Nat.reduceBEq, Nat.reduceBeqDiff, Nat.add_assoc nid, Nat.reduceAdd, reduceCtorEq, ↓reduceIte, Nat.reduceLeDiff, colPV, freeOf, indep, offO, neqO, disj, namesX, axSlot, opXs, rdXs, idsOf, idsOfs, lowH, lowAll, keys, Nat.reduceBneDiff, Option.toList, ← Int.ofNat_tmod, ← Int.ofNat_tdiv, optInt, fillP, repl, chunk, mkCols, mkCol, colInts, colBools, colStrs, colLits, colsApp, Col.app, tailOf, splice, colsPut, Col.put, mmFold, eqK, Nat.reduceLT, colsPaste, Col.paste, mNew, mkKey, keyIn, mGet, mPut]
  refine RetOK.pure (.inl rfl) rfl ?_
  simp [retPV, over, keys, List.map_nil, List.map_cons, List.contains_cons, List.contains_nil, Bool.or_false, Bool.or_true, Bool.true_or, Bool.false_or, beq_self_eq_true, cond_true, cond_false, HeapCov, orNil, nilSz, onBlk, srcOf, getH_hit, getH_miss, getH.eq_1, getS_hit, getS_miss, getS.eq_1, BlkCov, PVCovs, PVCov, ColsEq, ColEq.refl, liveIds, SlotsCov, List.all_nil, List.all_cons, List.any_nil, List.any_cons, List.nil_append, List.cons_append, inRange, apart, nilBlk, idS1, idS2, readAll, readRes, onAll, step, res, AX.val, List.drop_zero, List.drop_succ_cons, List.take_succ_cons, List.take_zero]
theorem pathP (s t nid : Nat) (hs : s < 16) (ht : t < 16) : ACall Tryd.prog 45 [.int .i64 (s : Nat), .int .i64 (t : Nat)] [] nid (.tup [.str (pathV s t), .int .i64 0]) [] := by
  have h1 : outB (s : Nat) 0 15 = false := by unfold outB; simp; omega
  have h2 : outB (t : Nat) 0 15 = false := by unfold outB; simp; omega
  refine acall_run c45 (by simp [a45]) ?_
  simp -dsimp only [a45, aqT, ROp, OX, ↓seqK, ↓blkK, ↓loopK, step, stepBin, res, stepIdx, mix, PV.cells, argSlots, Nat.reduceBEq, Nat.reduceBeqDiff, Nat.add_assoc nid, Nat.reduceAdd, reduceCtorEq, ↓reduceIte, Nat.reduceLeDiff, colPV, freeOf, indep, offO, neqO, disj, namesX, axSlot, opXs, rdXs, idsOf, idsOfs, lowH, lowAll, keys, Nat.reduceBneDiff, Option.toList, ← Int.ofNat_tmod, ← Int.ofNat_tdiv, optInt, fillP, repl, chunk, mkCols, mkCol, colInts, colBools, colStrs, colLits, colsApp, Col.app, tailOf, splice, colsPut, Col.put, mmFold, eqK, Nat.reduceLT, colsPaste, Col.paste, mNew, mkKey, keyIn, mGet, mPut]
  refine CallO.pure (isState_c _ _) ?_
  rw [h1]
  simp -dsimp only [aqT, ROp, OX, ↓seqK, ↓blkK, ↓loopK, step, stepBin, res, stepIdx, mix, PV.cells, argSlots, Nat.reduceBEq, Nat.reduceBeqDiff, Nat.add_assoc nid, Nat.reduceAdd, reduceCtorEq, ↓reduceIte, Nat.reduceLeDiff, colPV, freeOf, indep, offO, neqO, disj, namesX, axSlot, opXs, rdXs, idsOf, idsOfs, lowH, lowAll, keys, Nat.reduceBneDiff, Option.toList, ← Int.ofNat_tmod, ← Int.ofNat_tdiv, optInt, fillP, repl, chunk, mkCols, mkCol, colInts, colBools, colStrs, colLits, colsApp, Col.app, tailOf, splice, colsPut, Col.put, mmFold, eqK, Nat.reduceLT, colsPaste, Col.paste, mNew, mkKey, keyIn, mGet, mPut, Bool.not_false, Bool.not_true]
  refine CallO.pure (isState_c _ _) ?_
  rw [h2]
  simp -dsimp only [aqT, ROp, OX, ↓seqK, ↓blkK, ↓loopK, step, stepBin, res, stepIdx, mix, PV.cells, argSlots, Nat.reduceBEq, Nat.reduceBeqDiff, Nat.add_assoc nid, Nat.reduceAdd, reduceCtorEq, ↓reduceIte, Nat.reduceLeDiff, colPV, freeOf, indep, offO, neqO, disj, namesX, axSlot, opXs, rdXs, idsOf, idsOfs, lowH, lowAll, keys, Nat.reduceBneDiff, Option.toList, ← Int.ofNat_tmod, ← Int.ofNat_tdiv, optInt, fillP, repl, chunk, mkCols, mkCol, colInts, colBools, colStrs, colLits, colsApp, Col.app, tailOf, splice, colsPut, Col.put, mmFold, eqK, Nat.reduceLT, colsPaste, Col.paste, mNew, mkKey, keyIn, mGet, mPut, Bool.not_false, Bool.not_true]
  refine CallO.pure (path_st s t _ hs) ?_
  simp -dsimp only [aqT, ROp, OX, ↓seqK, ↓blkK, ↓loopK, step, stepBin, res, stepIdx, mix, PV.cells, argSlots, Nat.reduceBEq, Nat.reduceBeqDiff, Nat.add_assoc nid, Nat.reduceAdd, reduceCtorEq, ↓reduceIte, Nat.reduceLeDiff, colPV, freeOf, indep, offO, neqO, disj, namesX, axSlot, opXs, rdXs, idsOf, idsOfs, lowH, lowAll, keys, Nat.reduceBneDiff, Option.toList, ← Int.ofNat_tmod, ← Int.ofNat_tdiv, optInt, fillP, repl, chunk, mkCols, mkCol, colInts, colBools, colStrs, colLits, colsApp, Col.app, tailOf, splice, colsPut, Col.put, mmFold, eqK, Nat.reduceLT, colsPaste, Col.paste, mNew, mkKey, keyIn, mGet, mPut]
  refine RetOK.pure (.inl rfl) rfl ?_
  simp [retPV, over, keys, List.map_nil, List.map_cons, List.contains_cons, List.contains_nil, Bool.or_false, Bool.or_true, Bool.true_or, Bool.false_or, beq_self_eq_true, cond_true, cond_false, HeapCov, orNil, nilSz, onBlk, srcOf, getH_hit, getH_miss, getH.eq_1, getS_hit, getS_miss, getS.eq_1, BlkCov, PVCovs, PVCov, ColsEq, ColEq.refl, liveIds, SlotsCov, List.all_nil, List.all_cons, List.any_nil, List.any_cons, List.nil_append, List.cons_append, inRange, apart, nilBlk, idS1, idS2, readAll, readRes, onAll, step, res, AX.val, List.drop_zero, List.drop_succ_cons, List.take_succ_cons, List.take_zero]
theorem path41 : pathV 4 1 = [49, 49, 48] := by decide
theorem path41_c (nid : Nat) : ACall Tryd.prog 45 [.int .i64 4, .int .i64 1] [] nid (.tup [.str [49, 49, 48], .int .i64 0]) [] := by
  have h := pathP 4 1 nid (by omega) (by omega)
  rw [path41] at h
  exact h
theorem e110 : (([49, 49, 48] : List UInt8) == [49, 49, 48]) = true := by decide
theorem ready_c (nid : Nat) : ACall Tryd.prog 13 [] [] nid (.bool true) [] := by
  refine acall_run c13 (by simp [a13]) ?_
  simp -dsimp only [a13, aqT, ROp, OX, ↓seqK, ↓blkK, ↓loopK, step, stepBin, res, stepIdx, mix, PV.cells, argSlots, Nat.reduceBEq, Nat.reduceBeqDiff, Nat.add_assoc nid, Nat.reduceAdd, reduceCtorEq, ↓reduceIte, Nat.reduceLeDiff, colPV, freeOf, indep, offO, neqO, disj, namesX, axSlot, opXs, rdXs, idsOf, idsOfs, lowH, lowAll, keys, Nat.reduceBneDiff, Option.toList, ← Int.ofNat_tmod, ← Int.ofNat_tdiv, optInt, fillP, repl, chunk, mkCols, mkCol, colInts, colBools, colStrs, colLits, colsApp, Col.app, tailOf, splice, colsPut, Col.put, mmFold, eqK, Nat.reduceLT, colsPaste, Col.paste, mNew, mkKey, keyIn, mGet, mPut]
  refine CallO.pure (path41_c _) ?_
  simp -dsimp only [aqT, ROp, OX, ↓seqK, ↓blkK, ↓loopK, step, stepBin, res, stepIdx, mix, PV.cells, argSlots, Nat.reduceBEq, Nat.reduceBeqDiff, Nat.add_assoc nid, Nat.reduceAdd, reduceCtorEq, ↓reduceIte, Nat.reduceLeDiff, colPV, freeOf, indep, offO, neqO, disj, namesX, axSlot, opXs, rdXs, idsOf, idsOfs, lowH, lowAll, keys, Nat.reduceBneDiff, Option.toList, ← Int.ofNat_tmod, ← Int.ofNat_tdiv, optInt, fillP, repl, chunk, mkCols, mkCol, colInts, colBools, colStrs, colLits, colsApp, Col.app, tailOf, splice, colsPut, Col.put, mmFold, eqK, Nat.reduceLT, colsPaste, Col.paste, mNew, mkKey, keyIn, mGet, mPut]
  refine CallO.pure (counting_c _) ?_
  simp -dsimp only [aqT, ROp, OX, ↓seqK, ↓blkK, ↓loopK, step, stepBin, res, stepIdx, mix, PV.cells, argSlots, Nat.reduceBEq, Nat.reduceBeqDiff, Nat.add_assoc nid, Nat.reduceAdd, reduceCtorEq, ↓reduceIte, Nat.reduceLeDiff, colPV, freeOf, indep, offO, neqO, disj, namesX, axSlot, opXs, rdXs, idsOf, idsOfs, lowH, lowAll, keys, Nat.reduceBneDiff, Option.toList, ← Int.ofNat_tmod, ← Int.ofNat_tdiv, optInt, fillP, repl, chunk, mkCols, mkCol, colInts, colBools, colStrs, colLits, colsApp, Col.app, tailOf, splice, colsPut, Col.put, mmFold, eqK, Nat.reduceLT, colsPaste, Col.paste, mNew, mkKey, keyIn, mGet, mPut]
  refine CallO.gave [nid + 52] (fun nl' => by
    simp only [lends, lend, aqT, ROp, OX, ↓seqK, ↓blkK, ↓loopK, step, stepBin, res, stepIdx, mix, PV.cells, argSlots, Nat.reduceBEq, Nat.reduceBeqDiff, Nat.add_assoc nid, Nat.reduceAdd, reduceCtorEq, ↓reduceIte, Nat.reduceLeDiff, colPV, freeOf, indep, offO, neqO, disj, namesX, axSlot, opXs, rdXs, idsOf, idsOfs, lowH, lowAll, keys, Nat.reduceBneDiff, Option.toList, ← Int.ofNat_tmod, ← Int.ofNat_tdiv, optInt, fillP, repl, chunk, mkCols, mkCol, colInts, colBools, colStrs, colLits, colsApp, Col.app, tailOf, splice, colsPut, Col.put, mmFold, eqK, Nat.reduceLT, colsPaste, Col.paste, mNew, mkKey, keyIn, mGet, mPut]
    exact yield_c (nl' _) _) (by simp [getH]) ?_
  simp -dsimp only [aqT, ROp, OX, ↓seqK, ↓blkK, ↓loopK, step, stepBin, res, stepIdx, mix, PV.cells, argSlots, Nat.reduceBEq, Nat.reduceBeqDiff, Nat.add_assoc nid, Nat.reduceAdd, reduceCtorEq, ↓reduceIte, Nat.reduceLeDiff, colPV, freeOf, indep, offO, neqO, disj, namesX, axSlot, opXs, rdXs, idsOf, idsOfs, lowH, lowAll, keys, Nat.reduceBneDiff, Option.toList, ← Int.ofNat_tmod, ← Int.ofNat_tdiv, optInt, fillP, repl, chunk, mkCols, mkCol, colInts, colBools, colStrs, colLits, colsApp, Col.app, tailOf, splice, colsPut, Col.put, mmFold, eqK, Nat.reduceLT, colsPaste, Col.paste, mNew, mkKey, keyIn, mGet, mPut, kill, e110, -seqK]
  refine S2.yes (by decide) ?_
  simp -dsimp only [aqT, ROp, OX, ↓seqK, ↓blkK, ↓loopK, step, stepBin, res, stepIdx, mix, PV.cells, argSlots, Nat.reduceBEq, Nat.reduceBeqDiff, Nat.add_assoc nid, Nat.reduceAdd, reduceCtorEq, ↓reduceIte, Nat.reduceLeDiff, colPV, freeOf, indep, offO, neqO, disj, namesX, axSlot, opXs, rdXs, idsOf, idsOfs, lowH, lowAll, keys, Nat.reduceBneDiff, Option.toList, ← Int.ofNat_tmod, ← Int.ofNat_tdiv, optInt, fillP, repl, chunk, mkCols, mkCol, colInts, colBools, colStrs, colLits, colsApp, Col.app, tailOf, splice, colsPut, Col.put, mmFold, eqK, Nat.reduceLT, colsPaste, Col.paste, mNew, mkKey, keyIn, mGet, mPut, -seqK]
  refine RetOK.pure (.inl rfl) rfl ?_
  simp [retPV, over, keys, List.map_nil, List.map_cons, List.contains_cons, List.contains_nil, Bool.or_false, Bool.or_true, Bool.true_or, Bool.false_or, beq_self_eq_true, cond_true, cond_false, HeapCov, orNil, nilSz, onBlk, srcOf, getH_hit, getH_miss, getH.eq_1, getS_hit, getS_miss, getS.eq_1, BlkCov, PVCovs, PVCov, ColsEq, ColEq.refl, liveIds, SlotsCov, List.all_nil, List.all_cons, List.any_nil, List.any_cons, List.nil_append, List.cons_append, inRange, apart, nilBlk, idS1, idS2, readAll, readRes, onAll, step, res, AX.val, List.drop_zero, List.drop_succ_cons, List.take_succ_cons, List.take_zero]
end Go.Proofs.YtmgfcjblclanmaaDoor
