/-
  Good dies with bad ones around them, inked, by the abstract machine.
-/
import Derived.Test.YtmgfcjblclanmaaDoorRgs5
import Derived.Test.YtmgfcjblclanmaaDoorProg
import Derived.Ground.NamesProg
import Derived.Shelf.Strings.Replace
import Derived.Shelf.Strconv.Itoa3
import Derived.Test.YtmgfcjblclanmaaDoorRgs3
import Derived.WalkKit
import Derived.Lib.SplitLaws
import Derived.Lib.Agree
import Derived.Test.YtmgfcjblclanmaaDoorRgs4
namespace Go.Proofs.YtmgfcjblclanmaaDoor
open Go.RowKit
set_option linter.unusedVariables false
set_option linter.unusedSimpArgs false
set_option maxRecDepth 100000
def boxI (n : Int) : Option ABlk := some (.box 3 [.int .i64 n])
/-- whether a die is inked -/
def inkP (W : Waf) (m : Nat) (c : Int) (p : Pt) : Bool := passedV W.pass c && decide ((m : Int) ≤ (cntN (badP W) (arV p) : Nat))
def inkB (W : Waf) (m : Nat) (b : UInt8) (p : Pt) : UInt8 := if inkP W m (byteI b) p = true then 42 else b
set_option maxHeartbeats 4000000 in
theorem inkF_c (ib im io : Nat) (nl : Bool) (W : Waf) (m n : Nat) (x y : Nat) (a : UInt8) (nid : Nat) (hib : ib < nid) (him : im < nid) (hio : io < nid) (n1 : ib ≠ im) (n2 : ib ≠ io) (n3 : im ≠ io) (hW : WafOk W) (hx : x ≤ 1000) (hy : y ≤ 1000) (hn : n ≤ 1000000) :
    ACall Tryd.prog 38 [.agg [.int .i64 (x : Nat), .int .i64 (y : Nat)], .int .u8 ((a.toNat : Nat)), .ptr ib 0, .ptr im 0, .ptr io 0] [(ib, boxW nl W), (im, boxI (m : Nat)), (io, boxI (n : Nat))] nid (.int .u8 (((inkB W m a ((x : Int), (y : Int))).toNat : Nat))) [(ib, boxW nl W), (im, boxI (m : Nat)), (io, boxI ((n + (if inkP W m (byteI a) ((x : Int), (y : Int)) = true then 1 else 0) : Nat)))] := by
  obtain ⟨a1, a2, a3, a4, a5, a6, a7, a8, a9⟩ := id_all hib
  obtain ⟨b1, b2, b3, b4, b5, b6, b7, b8, b9⟩ := id_all him
  obtain ⟨d1, d2, d3, d4, d5, d6, d7, d8, d9⟩ := id_all hio
  have g1 : (ib == im) = false := by simpa using n1
  have g2 : (im == ib) = false := by simpa using fun h => n1 h.symm
  have g3 : (ib == io) = false := by simpa using n2
  have g4 : (io == ib) = false := by simpa using fun h => n2 h.symm
  have g5 : (im == io) = false := by simpa using n3
  have g6 : (io == im) = false := by simpa using fun h => n3 h.symm
  have m1 : ¬ im = ib := fun h => n1 h.symm
  have m2 : ¬ io = ib := fun h => n2 h.symm
  have m3 : ¬ io = im := fun h => n3 h.symm
  refine acall_run c38 (by simp [a38]) ?_
  unfold boxW boxI
  simp -dsimp only [a38, aqT, ROp, OX, ↓seqK, ↓blkK, ↓loopK, step, stepBin, res, stepIdx, mix, PV.cells, argSlots, Nat.reduceBEq, Nat.reduceBeqDiff, Nat.add_assoc nid, Nat.reduceAdd, reduceCtorEq, ↓reduceIte, Nat.reduceLeDiff, colPV, freeOf, indep, offO, neqO, disj, namesX, axSlot, opXs, rdXs, idsOf, idsOfs, lowH, lowAll, keys, Nat.reduceBneDiff, Option.toList, ← Int.ofNat_tmod, ← Int.ofNat_tdiv, optInt, fillP, repl, chunk, mkCols, mkCol, colInts, colBools, colStrs, colLits, colsApp, Col.app, tailOf, splice, colsPut, Col.put, mmFold, eqK, Nat.reduceLT, colsPaste, Col.paste, mNew, mkKey, keyIn, mGet, mPut, Int.cast_ofNat_Int, Int.reduceBEq, Int.reduceBNe, Int.reduceLT, Int.reduceLE, Int.reduceAdd, Int.reduceSub, Int.reduceMul, Int.reduceToNat, Int.reduceNeg, Int.reduceTMod, Int.reduceEq, not_false_eq_true, Int.reducePow, Int.reduceFDiv, Nat.reducePow, Nat.reduceSub, Nat.reduceMul, Nat.min_eq_left, Nat.reduceEqDiff, BEq.rfl, Int.tdiv_one, LN_succ, a1, a2, a3, a4, a5, a6, a7, a8, a9, b1, b2, b3, b4, b5, b6, b7, b8, b9, d1, d2, d3, d4, d5, d6, d7, d8, d9, g1, g2, g3, g4, g5, g6, n1, n2, n3, m1, m2, m3]
  refine CallX.pure (passed_c _ _ _ _ _ _ _ rfl) ?_
  have hp : PtBd ((x : Int), (y : Int)) := by unfold PtBd; simp only; omega
  unfold inkB inkP
  have hb : byteI a = ((a.toNat : Nat) : Int) := rfl
  rw [hb]
  cases h : passedV W.pass ((a.toNat : Nat) : Int) <;> simp -dsimp only [aqT, ROp, OX, ↓seqK, ↓blkK, ↓loopK, step, stepBin, res, stepIdx, mix, PV.cells, argSlots, Nat.reduceBEq, Nat.reduceBeqDiff, Nat.add_assoc nid, Nat.reduceAdd, reduceCtorEq, ↓reduceIte, Nat.reduceLeDiff, colPV, freeOf, indep, offO, neqO, disj, namesX, axSlot, opXs, rdXs, idsOf, idsOfs, lowH, lowAll, keys, Nat.reduceBneDiff, Option.toList, ← Int.ofNat_tmod, ← Int.ofNat_tdiv, optInt, fillP, repl, chunk, mkCols, mkCol, colInts, colBools, colStrs, colLits, colsApp, Col.app, tailOf, splice, colsPut, Col.put, mmFold, eqK, Nat.reduceLT, colsPaste, Col.paste, mNew, mkKey, keyIn, mGet, mPut, Int.cast_ofNat_Int, Int.reduceBEq, Int.reduceBNe, Int.reduceLT, Int.reduceLE, Int.reduceAdd, Int.reduceSub, Int.reduceMul, Int.reduceToNat, Int.reduceNeg, Int.reduceTMod, Int.reduceEq, not_false_eq_true, Int.reducePow, Int.reduceFDiv, Nat.reducePow, Nat.reduceSub, Nat.reduceMul, Nat.min_eq_left, Nat.reduceEqDiff, BEq.rfl, Int.tdiv_one, LN_succ, a1, a2, a3, a4, a5, a6, a7, a8, a9, b1, b2, b3, b4, b5, b6, b7, b8, b9, d1, d2, d3, d4, d5, d6, d7, d8, d9, g1, g2, g3, g4, g5, g6, n1, n2, n3, m1, m2, m3]
  · refine RetOK.go [] [] (.inl rfl) ?_
    simp [a38, retPV, over, keys, List.map_nil, List.map_cons, List.contains_cons, List.contains_nil, Bool.or_false, Bool.or_true, Bool.true_or, Bool.false_or, beq_self_eq_true, cond_true, cond_false, HeapCov, orNil, nilSz, onBlk, srcOf, getH_hit, getH_miss, getH.eq_1, getS_hit, getS_miss, getS.eq_1, BlkCov, PVCovs, PVCov, ColsEq, ColEq.refl, liveIds, SlotsCov, List.all_nil, List.all_cons, List.any_nil, List.any_cons, List.nil_append, List.cons_append, inRange, apart, nilBlk, idS1, idS2, readAll, readRes, onAll, step, res, AX.val, List.drop_zero, List.drop_succ_cons, List.take_succ_cons, List.take_zero, a1, a2, a3, a4, a5, a6, a7, a8, a9, b1, b2, b3, b4, b5, b6, b7, b8, b9, d1, d2, d3, d4, d5, d6, d7, d8, d9, g1, g2, g3, g4, g5, g6, n1, n2, n3, m1, m2, m3]
  · refine CallX.pure (badN_all nl W ((x : Int), (y : Int)) _ hW hp) ?_
    have hle := cntN_le (badP W) (arV ((x : Int), (y : Int)))
    have hl9 := arV_len ((x : Int), (y : Int))
    generalize cntN (badP W) (arV ((x : Int), (y : Int))) = c at *
    simp -dsimp only [aqT, ROp, OX, ↓seqK, ↓blkK, ↓loopK, step, stepBin, res, stepIdx, mix, PV.cells, argSlots, Nat.reduceBEq, Nat.reduceBeqDiff, Nat.add_assoc nid, Nat.reduceAdd, reduceCtorEq, ↓reduceIte, Nat.reduceLeDiff, colPV, freeOf, indep, offO, neqO, disj, namesX, axSlot, opXs, rdXs, idsOf, idsOfs, lowH, lowAll, keys, Nat.reduceBneDiff, Option.toList, ← Int.ofNat_tmod, ← Int.ofNat_tdiv, optInt, fillP, repl, chunk, mkCols, mkCol, colInts, colBools, colStrs, colLits, colsApp, Col.app, tailOf, splice, colsPut, Col.put, mmFold, eqK, Nat.reduceLT, colsPaste, Col.paste, mNew, mkKey, keyIn, mGet, mPut, Int.cast_ofNat_Int, Int.reduceBEq, Int.reduceBNe, Int.reduceLT, Int.reduceLE, Int.reduceAdd, Int.reduceSub, Int.reduceMul, Int.reduceToNat, Int.reduceNeg, Int.reduceTMod, Int.reduceEq, not_false_eq_true, Int.reducePow, Int.reduceFDiv, Nat.reducePow, Nat.reduceSub, Nat.reduceMul, Nat.min_eq_left, Nat.reduceEqDiff, BEq.rfl, Int.tdiv_one, LN_succ, a1, a2, a3, a4, a5, a6, a7, a8, a9, b1, b2, b3, b4, b5, b6, b7, b8, b9, d1, d2, d3, d4, d5, d6, d7, d8, d9, g1, g2, g3, g4, g5, g6, n1, n2, n3, m1, m2, m3]
    refine S2.dec (fun h2 => ?_) (fun h2 => ?_) <;> simp -dsimp only [aqT, ROp, OX, ↓seqK, ↓blkK, ↓loopK, step, stepBin, res, stepIdx, mix, PV.cells, argSlots, Nat.reduceBEq, Nat.reduceBeqDiff, Nat.add_assoc nid, Nat.reduceAdd, reduceCtorEq, ↓reduceIte, Nat.reduceLeDiff, colPV, freeOf, indep, offO, neqO, disj, namesX, axSlot, opXs, rdXs, idsOf, idsOfs, lowH, lowAll, keys, Nat.reduceBneDiff, Option.toList, ← Int.ofNat_tmod, ← Int.ofNat_tdiv, optInt, fillP, repl, chunk, mkCols, mkCol, colInts, colBools, colStrs, colLits, colsApp, Col.app, tailOf, splice, colsPut, Col.put, mmFold, eqK, Nat.reduceLT, colsPaste, Col.paste, mNew, mkKey, keyIn, mGet, mPut, Int.cast_ofNat_Int, Int.reduceBEq, Int.reduceBNe, Int.reduceLT, Int.reduceLE, Int.reduceAdd, Int.reduceSub, Int.reduceMul, Int.reduceToNat, Int.reduceNeg, Int.reduceTMod, Int.reduceEq, not_false_eq_true, Int.reducePow, Int.reduceFDiv, Nat.reducePow, Nat.reduceSub, Nat.reduceMul, Nat.min_eq_left, Nat.reduceEqDiff, BEq.rfl, Int.tdiv_one, LN_succ, a1, a2, a3, a4, a5, a6, a7, a8, a9, b1, b2, b3, b4, b5, b6, b7, b8, b9, d1, d2, d3, d4, d5, d6, d7, d8, d9, g1, g2, g3, g4, g5, g6, n1, n2, n3, m1, m2, m3]
    · refine ⟨by unfold inI64; omega, RetOK.go [] [] (.inl rfl) ?_⟩
      simp [a38, retPV, over, keys, List.map_nil, List.map_cons, List.contains_cons, List.contains_nil, Bool.or_false, Bool.or_true, Bool.true_or, Bool.false_or, beq_self_eq_true, cond_true, cond_false, HeapCov, orNil, nilSz, onBlk, srcOf, getH_hit, getH_miss, getH.eq_1, getS_hit, getS_miss, getS.eq_1, BlkCov, PVCovs, PVCov, ColsEq, ColEq.refl, liveIds, SlotsCov, List.all_nil, List.all_cons, List.any_nil, List.any_cons, List.nil_append, List.cons_append, inRange, apart, nilBlk, idS1, idS2, readAll, readRes, onAll, step, res, AX.val, List.drop_zero, List.drop_succ_cons, List.take_succ_cons, List.take_zero, a1, a2, a3, a4, a5, a6, a7, a8, a9, b1, b2, b3, b4, b5, b6, b7, b8, b9, d1, d2, d3, d4, d5, d6, d7, d8, d9, g1, g2, g3, g4, g5, g6, n1, n2, n3, m1, m2, m3, h2]
    · refine RetOK.go [] [] (.inl rfl) ?_
      simp [a38, retPV, over, keys, List.map_nil, List.map_cons, List.contains_cons, List.contains_nil, Bool.or_false, Bool.or_true, Bool.true_or, Bool.false_or, beq_self_eq_true, cond_true, cond_false, HeapCov, orNil, nilSz, onBlk, srcOf, getH_hit, getH_miss, getH.eq_1, getS_hit, getS_miss, getS.eq_1, BlkCov, PVCovs, PVCov, ColsEq, ColEq.refl, liveIds, SlotsCov, List.all_nil, List.all_cons, List.any_nil, List.any_cons, List.nil_append, List.cons_append, inRange, apart, nilBlk, idS1, idS2, readAll, readRes, onAll, step, res, AX.val, List.drop_zero, List.drop_succ_cons, List.take_succ_cons, List.take_zero, a1, a2, a3, a4, a5, a6, a7, a8, a9, b1, b2, b3, b4, b5, b6, b7, b8, b9, d1, d2, d3, d4, d5, d6, d7, d8, d9, g1, g2, g3, g4, g5, g6, n1, n2, n3, m1, m2, m3, h2]
end Go.Proofs.YtmgfcjblclanmaaDoor
/-
  A wafer whose good dies in bad neighbourhoods are inked, by the abstract machine.
-/
namespace Go.Proofs.YtmgfcjblclanmaaDoor
open Go.RowKit
set_option linter.unusedVariables false
set_option linter.unusedSimpArgs false
set_option maxRecDepth 100000
def inkAt (W : Waf) (m : Nat) (p : Pt) : Bool := inkP W m (dieV W p.1 p.2) p
def inkR (W : Waf) (m y : Nat) (r : List UInt8) : List UInt8 := List.zipWith (fun b x => inkB W m b (((x : Nat) : Int), (y : Int))) r (List.range r.length)
def inkRs (W : Waf) (m : Nat) : List (List UInt8) := List.zipWith (fun r y => inkR W m y r) W.rows (List.range W.rows.length)
def inkTo (W : Waf) (m y : Nat) (r : List UInt8) (k : Nat) : List UInt8 := (inkR W m y r).take k ++ r.drop k
theorem inkR_len (W : Waf) (m y : Nat) (r : List UInt8) : (inkR W m y r).length = r.length := by unfold inkR; rw [List.length_zipWith, List.length_range, Nat.min_self]
theorem inkRs_len (W : Waf) (m : Nat) : (inkRs W m).length = W.rows.length := by unfold inkRs; rw [List.length_zipWith, List.length_range, Nat.min_self]
theorem inkTo_len (W : Waf) (m y : Nat) (r : List UInt8) (k : Nat) : (inkTo W m y r k).length = r.length := by
  unfold inkTo; rw [List.length_append, List.length_take, List.length_drop, inkR_len]; omega
theorem inkTo_at (W : Waf) (m y : Nat) {r : List UInt8} {k : Nat} (hk : k < r.length) : (inkTo W m y r k).getD k 0 = r.getD k 0 := by
  unfold inkTo
  rw [List.getD_eq_getElem?_getD, List.getElem?_append_right (by rw [List.length_take]; omega), List.getElem?_drop, List.length_take, inkR_len, List.getD_eq_getElem?_getD]
  congr 2
  omega
theorem rangeD {n k : Nat} (h : k < n) : (List.range n).getD k 0 = k := by rw [List.getD_eq_getElem?_getD, List.getElem?_range h]; rfl
theorem inkTo_set (W : Waf) (m y : Nat) {r : List UInt8} {k : Nat} (hk : k < r.length) : (inkTo W m y r k).set k (inkB W m (r.getD k 0) ((k : Int), (y : Int))) = inkTo W m y r (k + 1) := by
  unfold inkTo inkR
  rw [zip_take _ 0 0 hk (by rw [List.length_range]; exact hk), rangeD hk, List.set_append_right _ _ (by rw [List.length_take]; omega), List.length_take, List.length_zipWith, List.length_range, Nat.min_self, Nat.min_eq_left (by omega), Nat.sub_self, List.append_assoc, List.drop_eq_getElem_cons hk]
  rfl
theorem inkTo_all (W : Waf) (m y : Nat) (r : List UInt8) : inkTo W m y r r.length = inkR W m y r := by
  unfold inkTo
  rw [List.drop_length, List.append_nil, List.take_of_length_le (by rw [inkR_len]; omega)]
theorem inkRs_take (W : Waf) (m : Nat) {y : Nat} (h : y < W.rows.length) : (inkRs W m).take (y + 1) = (inkRs W m).take y ++ [inkR W m y (W.rows.getD y [])] := by
  have := zip_take (fun r y => inkR W m y r) [] 0 h (m := List.range W.rows.length) (by rw [List.length_range]; exact h)
  rw [rangeD h] at this
  exact this
theorem cntN_app (F : Pt → Bool) (l : List Pt) (p : Pt) : cntN F (l ++ [p]) = cntN F l + (if F p = true then 1 else 0) := by
  unfold cntN
  rw [List.countP_append, List.countP_cons, List.countP_nil, Nat.zero_add]
set_option maxHeartbeats 8000000 in
theorem changedInk_c (ib im io : Nat) (nl nlb : Bool) (W : Waf) (m : Nat) (nid : Nat) (hib : ib < nid) (him : im < nid) (hio : io < nid) (n1 : ib ≠ im) (n2 : ib ≠ io) (n3 : im ≠ io) (hW : WafOk W) :
    ACall Tryd.prog 37 [wafP nl W, .fn 38 [.ptr ib 0, .ptr im 0, .ptr io 0]] [(ib, boxW nlb W), (im, boxI (m : Nat)), (io, boxI 0)] nid (.agg [.sl nid 0 W.rows.length, .str W.pass]) [(ib, boxW nlb W), (im, boxI (m : Nat)), (io, boxI (cntN (inkAt W m) (plV W) : Nat)), (nid, arrS (inkRs W m))] := by
  have hl := hW.len
  have hww := hW.wide.2
  obtain ⟨a1, a2, a3, a4, a5, a6, a7, a8, a9⟩ := id_all hib
  obtain ⟨b1, b2, b3, b4, b5, b6, b7, b8, b9⟩ := id_all him
  obtain ⟨d1, d2, d3, d4, d5, d6, d7, d8, d9⟩ := id_all hio
  have g1 : (ib == im) = false := by simpa using n1
  have g2 : (im == ib) = false := by simpa using fun h => n1 h.symm
  have g3 : (ib == io) = false := by simpa using n2
  have g4 : (io == ib) = false := by simpa using fun h => n2 h.symm
  have g5 : (im == io) = false := by simpa using n3
  have g6 : (io == im) = false := by simpa using fun h => n3 h.symm
  have m1 : ¬ im = ib := fun h => n1 h.symm
  have m2 : ¬ io = ib := fun h => n2 h.symm
  have m3 : ¬ io = im := fun h => n3 h.symm
  have hml := inkRs_len W m
  have hp0 : cntN (inkAt W m) (plTo W 0) = 0 := by simp [cntN, plTo]
  refine acall_run c37 (by simp [a37]) ?_
  unfold wafP boxW boxI
  simp -dsimp only [a37, aqT, ROp, OX, ↓seqK, ↓blkK, ↓loopK, step, stepBin, res, stepIdx, mix, PV.cells, argSlots, Nat.reduceBEq, Nat.reduceBeqDiff, Nat.add_assoc nid, Nat.reduceAdd, reduceCtorEq, ↓reduceIte, Nat.reduceLeDiff, colPV, freeOf, indep, offO, neqO, disj, namesX, axSlot, opXs, rdXs, idsOf, idsOfs, lowH, lowAll, keys, Nat.reduceBneDiff, Option.toList, ← Int.ofNat_tmod, ← Int.ofNat_tdiv, optInt, fillP, repl, chunk, mkCols, mkCol, colInts, colBools, colStrs, colLits, colsApp, Col.app, tailOf, splice, colsPut, Col.put, mmFold, eqK, Nat.reduceLT, colsPaste, Col.paste, mNew, mkKey, keyIn, mGet, mPut, Int.cast_ofNat_Int, Int.reduceBEq, Int.reduceBNe, Int.reduceLT, Int.reduceLE, Int.reduceAdd, Int.reduceSub, Int.reduceMul, Int.reduceToNat, Int.reduceNeg, Int.reduceTMod, Int.reduceEq, not_false_eq_true, Int.reducePow, Int.reduceFDiv, Nat.reducePow, Nat.reduceSub, Nat.reduceMul, Nat.min_eq_left, Nat.reduceEqDiff, BEq.rfl, Int.tdiv_one, LN_succ, a1, a2, a3, a4, a5, a6, a7, a8, a9, b1, b2, b3, b4, b5, b6, b7, b8, b9, d1, d2, d3, d4, d5, d6, d7, d8, d9, g1, g2, g3, g4, g5, g6, n1, n2, n3, m1, m2, m3]
  refine LP.mkP (fun y : Nat => y ≤ W.rows.length) (fun y : Nat => ⟨[(16, .int .i64 y), (15, .int .i64 W.rows.length), (14, .lit nl W.rows.length [.s fun i => W.rows.getD i []]), (1, .fn 38 [.ptr ib 0, .ptr im 0, .ptr io 0]), (5, .ptr (nid + 20) 0), (4, .ptr (nid + 4) 0)],
    [(ib, boxW nlb W), (im, boxI (m : Nat)), (io, boxI (cntN (inkAt W m) (plTo W y) : Nat)), (nid + 4, some (.box 28 [.lit true 0 [], .str []])), (nid + 20, some (.box 28 [.sl (nid + 8) 0 y, .str W.pass])), (nid + 8, some (.arr 9 y [.s fun i => ((inkRs W m).take y).getD i []]))], nid + 200, nid⟩) (fun y => W.rows.length + 1 - y) 0 (by omega) (Cov.go [] [(nid + 8, 1)] ?_) (fun y hy => ?_)
  · simp [retPV, over, keys, List.map_nil, List.map_cons, List.contains_cons, List.contains_nil, Bool.or_false, Bool.or_true, Bool.true_or, Bool.false_or, beq_self_eq_true, cond_true, cond_false, HeapCov, orNil, nilSz, onBlk, srcOf, getH_hit, getH_miss, getH.eq_1, getS_hit, getS_miss, getS.eq_1, BlkCov, PVCovs, PVCov, ColsEq, ColEq.refl, liveIds, SlotsCov, List.all_nil, List.all_cons, List.any_nil, List.any_cons, List.nil_append, List.cons_append, inRange, apart, nilBlk, idS1, idS2, readAll, readRes, onAll, step, res, AX.val, List.drop_zero, List.drop_succ_cons, List.take_succ_cons, List.take_zero, a1, a2, a3, a4, a5, a6, a7, a8, a9, b1, b2, b3, b4, b5, b6, b7, b8, b9, d1, d2, d3, d4, d5, d6, d7, d8, d9, g1, g2, g3, g4, g5, g6, n1, n2, n3, m1, m2, m3, boxW, boxI, hp0]
  unfold boxW boxI
  simp -dsimp only [aqT, ROp, OX, ↓seqK, ↓blkK, ↓loopK, step, stepBin, res, stepIdx, mix, PV.cells, argSlots, Nat.reduceBEq, Nat.reduceBeqDiff, Nat.add_assoc nid, Nat.reduceAdd, reduceCtorEq, ↓reduceIte, Nat.reduceLeDiff, colPV, freeOf, indep, offO, neqO, disj, namesX, axSlot, opXs, rdXs, idsOf, idsOfs, lowH, lowAll, keys, Nat.reduceBneDiff, Option.toList, ← Int.ofNat_tmod, ← Int.ofNat_tdiv, optInt, fillP, repl, chunk, mkCols, mkCol, colInts, colBools, colStrs, colLits, colsApp, Col.app, tailOf, splice, colsPut, Col.put, mmFold, eqK, Nat.reduceLT, colsPaste, Col.paste, mNew, mkKey, keyIn, mGet, mPut, Int.cast_ofNat_Int, Int.reduceBEq, Int.reduceBNe, Int.reduceLT, Int.reduceLE, Int.reduceAdd, Int.reduceSub, Int.reduceMul, Int.reduceToNat, Int.reduceNeg, Int.reduceTMod, Int.reduceEq, not_false_eq_true, Int.reducePow, Int.reduceFDiv, Nat.reducePow, Nat.reduceSub, Nat.reduceMul, Nat.min_eq_left, Nat.reduceEqDiff, BEq.rfl, Int.tdiv_one, LN_succ, a1, a2, a3, a4, a5, a6, a7, a8, a9, b1, b2, b3, b4, b5, b6, b7, b8, b9, d1, d2, d3, d4, d5, d6, d7, d8, d9, g1, g2, g3, g4, g5, g6, n1, n2, n3, m1, m2, m3]
  refine S2.dec (fun h1 => ?_) (fun h1 => ?_) <;> simp -dsimp only [aqT, ROp, OX, ↓seqK, ↓blkK, ↓loopK, step, stepBin, res, stepIdx, mix, PV.cells, argSlots, Nat.reduceBEq, Nat.reduceBeqDiff, Nat.add_assoc nid, Nat.reduceAdd, reduceCtorEq, ↓reduceIte, Nat.reduceLeDiff, colPV, freeOf, indep, offO, neqO, disj, namesX, axSlot, opXs, rdXs, idsOf, idsOfs, lowH, lowAll, keys, Nat.reduceBneDiff, Option.toList, ← Int.ofNat_tmod, ← Int.ofNat_tdiv, optInt, fillP, repl, chunk, mkCols, mkCol, colInts, colBools, colStrs, colLits, colsApp, Col.app, tailOf, splice, colsPut, Col.put, mmFold, eqK, Nat.reduceLT, colsPaste, Col.paste, mNew, mkKey, keyIn, mGet, mPut, Int.cast_ofNat_Int, Int.reduceBEq, Int.reduceBNe, Int.reduceLT, Int.reduceLE, Int.reduceAdd, Int.reduceSub, Int.reduceMul, Int.reduceToNat, Int.reduceNeg, Int.reduceTMod, Int.reduceEq, not_false_eq_true, Int.reducePow, Int.reduceFDiv, Nat.reducePow, Nat.reduceSub, Nat.reduceMul, Nat.min_eq_left, Nat.reduceEqDiff, BEq.rfl, Int.tdiv_one, LN_succ, a1, a2, a3, a4, a5, a6, a7, a8, a9, b1, b2, b3, b4, b5, b6, b7, b8, b9, d1, d2, d3, d4, d5, d6, d7, d8, d9, g1, g2, g3, g4, g5, g6, n1, n2, n3, m1, m2, m3]
  · have hyl : y < W.rows.length := by omega
    have hra := (hW.at hyl).1
    have hmt := inkRs_take W m hyl
    have hmtl : ((inkRs W m).take y).length = y := by rw [List.length_take]; omega
    have hdie : ∀ x : Nat, x < wideOf W → dieV W (x : Int) (y : Int) = byteI ((W.rows.getD y []).getD x 0) := fun x hx => dieV_in hyl hx
    have hts := plTo_succ W y
    have htb := plTo_bd hW (y := y) (by omega)
    generalize hAr : W.rows.getD y [] = r at *
    generalize hTd : plTo W y = T at *
    refine ⟨by omega, by omega, ?_⟩
    refine LP.mkP (fun x : Nat => x ≤ r.length) (fun x : Nat => ⟨[(25, .int .i64 x), (24, .int .i64 r.length), (8, .sl (nid + 228) 0 r.length), (6, .int .i64 y), (16, .int .i64 y), (15, .int .i64 W.rows.length), (14, .lit nl W.rows.length [.s fun i => W.rows.getD i []]), (1, .fn 38 [.ptr ib 0, .ptr im 0, .ptr io 0]), (5, .ptr (nid + 20) 0), (4, .ptr (nid + 4) 0)],
      [(ib, boxW nlb W), (im, boxI (m : Nat)), (io, boxI (cntN (inkAt W m) (T ++ rowPl y x) : Nat)), (nid + 4, some (.box 28 [.lit true 0 [], .str []])), (nid + 20, some (.box 28 [.sl (nid + 8) 0 y, .str W.pass])), (nid + 8, some (.arr 9 y [.s fun i => ((inkRs W m).take y).getD i []])),
       (nid + 228, some (.arr 4294967295 r.length [.i .u8 fun i => (((inkTo W m y r x).getD i 0).toNat : Nat)]))], nid + 400, nid⟩) (fun x => r.length + 1 - x) 0 (by omega) (Cov.go [] [] ?_) (fun x hx => ?_)
    · have e0 : T ++ rowPl y 0 = T := by simp [rowPl]
      rw [e0]
      simp [retPV, over, keys, List.map_nil, List.map_cons, List.contains_cons, List.contains_nil, Bool.or_false, Bool.or_true, Bool.true_or, Bool.false_or, beq_self_eq_true, cond_true, cond_false, HeapCov, orNil, nilSz, onBlk, srcOf, getH_hit, getH_miss, getH.eq_1, getS_hit, getS_miss, getS.eq_1, BlkCov, PVCovs, PVCov, ColsEq, ColEq.refl, liveIds, SlotsCov, List.all_nil, List.all_cons, List.any_nil, List.any_cons, List.nil_append, List.cons_append, inRange, apart, nilBlk, idS1, idS2, readAll, readRes, onAll, step, res, AX.val, List.drop_zero, List.drop_succ_cons, List.take_succ_cons, List.take_zero, a1, a2, a3, a4, a5, a6, a7, a8, a9, b1, b2, b3, b4, b5, b6, b7, b8, b9, d1, d2, d3, d4, d5, d6, d7, d8, d9, g1, g2, g3, g4, g5, g6, n1, n2, n3, m1, m2, m3, boxW, boxI, inkTo, -List.getD_eq_getElem?_getD]
    have hrl := inkTo_len W m y r x
    have hra2 := inkTo_at W m y (r := r) (k := x)
    have hrs := inkTo_set W m y (r := r) (k := x)
    have hTs : T ++ rowPl y (x + 1) = (T ++ rowPl y x) ++ [((x : Int), (y : Int))] := by rw [rowPl_succ, List.append_assoc]
    have hcs := cntN_app (inkAt W m) (T ++ rowPl y x) ((x : Int), (y : Int))
    have hcl := cntN_le (inkAt W m) (T ++ rowPl y x)
    rw [List.length_append, rowPl_len] at hcl
    rw [← hTs] at hcs
    unfold boxW boxI
    generalize hq : inkTo W m y r x = q at *
    generalize hcd : cntN (inkAt W m) (T ++ rowPl y x) = c at *
    simp -dsimp only [aqT, ROp, OX, ↓seqK, ↓blkK, ↓loopK, step, stepBin, res, stepIdx, mix, PV.cells, argSlots, Nat.reduceBEq, Nat.reduceBeqDiff, Nat.add_assoc nid, Nat.reduceAdd, reduceCtorEq, ↓reduceIte, Nat.reduceLeDiff, colPV, freeOf, indep, offO, neqO, disj, namesX, axSlot, opXs, rdXs, idsOf, idsOfs, lowH, lowAll, keys, Nat.reduceBneDiff, Option.toList, ← Int.ofNat_tmod, ← Int.ofNat_tdiv, optInt, fillP, repl, chunk, mkCols, mkCol, colInts, colBools, colStrs, colLits, colsApp, Col.app, tailOf, splice, colsPut, Col.put, mmFold, eqK, Nat.reduceLT, colsPaste, Col.paste, mNew, mkKey, keyIn, mGet, mPut, Int.cast_ofNat_Int, Int.reduceBEq, Int.reduceBNe, Int.reduceLT, Int.reduceLE, Int.reduceAdd, Int.reduceSub, Int.reduceMul, Int.reduceToNat, Int.reduceNeg, Int.reduceTMod, Int.reduceEq, not_false_eq_true, Int.reducePow, Int.reduceFDiv, Nat.reducePow, Nat.reduceSub, Nat.reduceMul, Nat.min_eq_left, Nat.reduceEqDiff, BEq.rfl, Int.tdiv_one, LN_succ, a1, a2, a3, a4, a5, a6, a7, a8, a9, b1, b2, b3, b4, b5, b6, b7, b8, b9, d1, d2, d3, d4, d5, d6, d7, d8, d9, g1, g2, g3, g4, g5, g6, n1, n2, n3, m1, m2, m3]
    refine S2.dec (fun h2 => ?_) (fun h2 => ?_) <;> simp -dsimp only [aqT, ROp, OX, ↓seqK, ↓blkK, ↓loopK, step, stepBin, res, stepIdx, mix, PV.cells, argSlots, Nat.reduceBEq, Nat.reduceBeqDiff, Nat.add_assoc nid, Nat.reduceAdd, reduceCtorEq, ↓reduceIte, Nat.reduceLeDiff, colPV, freeOf, indep, offO, neqO, disj, namesX, axSlot, opXs, rdXs, idsOf, idsOfs, lowH, lowAll, keys, Nat.reduceBneDiff, Option.toList, ← Int.ofNat_tmod, ← Int.ofNat_tdiv, optInt, fillP, repl, chunk, mkCols, mkCol, colInts, colBools, colStrs, colLits, colsApp, Col.app, tailOf, splice, colsPut, Col.put, mmFold, eqK, Nat.reduceLT, colsPaste, Col.paste, mNew, mkKey, keyIn, mGet, mPut, Int.cast_ofNat_Int, Int.reduceBEq, Int.reduceBNe, Int.reduceLT, Int.reduceLE, Int.reduceAdd, Int.reduceSub, Int.reduceMul, Int.reduceToNat, Int.reduceNeg, Int.reduceTMod, Int.reduceEq, not_false_eq_true, Int.reducePow, Int.reduceFDiv, Nat.reducePow, Nat.reduceSub, Nat.reduceMul, Nat.min_eq_left, Nat.reduceEqDiff, BEq.rfl, Int.tdiv_one, LN_succ, a1, a2, a3, a4, a5, a6, a7, a8, a9, b1, b2, b3, b4, b5, b6, b7, b8, b9, d1, d2, d3, d4, d5, d6, d7, d8, d9, g1, g2, g3, g4, g5, g6, n1, n2, n3, m1, m2, m3]
    · have hxl : x < r.length := by omega
      have hia : inkAt W m ((x : Int), (y : Int)) = inkP W m (byteI (r.getD x 0)) ((x : Int), (y : Int)) := by unfold inkAt; simp only; rw [hdie x (by omega)]
      rw [hra2 hxl]
      refine ⟨by omega, CallO.on (inkF_c ib im io nlb W m c x y (r.getD x 0) _ (by omega) (by omega) (by omega) n1 n2 n3 hW (by omega) (by omega) (by omega)) (subH_cons (by simp only [aqT, ROp, OX, ↓seqK, ↓blkK, ↓loopK, step, stepBin, res, stepIdx, mix, PV.cells, argSlots, Nat.reduceBEq, Nat.reduceBeqDiff, Nat.add_assoc nid, Nat.reduceAdd, reduceCtorEq, ↓reduceIte, Nat.reduceLeDiff, colPV, freeOf, indep, offO, neqO, disj, namesX, axSlot, opXs, rdXs, idsOf, idsOfs, lowH, lowAll, keys, Nat.reduceBneDiff, Option.toList, ← Int.ofNat_tmod, ← Int.ofNat_tdiv, optInt, fillP, repl, chunk, mkCols, mkCol, colInts, colBools, colStrs, colLits, colsApp, Col.app, tailOf, splice, colsPut, Col.put, mmFold, eqK, Nat.reduceLT, colsPaste, Col.paste, mNew, mkKey, keyIn, mGet, mPut, Int.cast_ofNat_Int, Int.reduceBEq, Int.reduceBNe, Int.reduceLT, Int.reduceLE, Int.reduceAdd, Int.reduceSub, Int.reduceMul, Int.reduceToNat, Int.reduceNeg, Int.reduceTMod, Int.reduceEq, not_false_eq_true, Int.reducePow, Int.reduceFDiv, Nat.reducePow, Nat.reduceSub, Nat.reduceMul, Nat.min_eq_left, Nat.reduceEqDiff, BEq.rfl, Int.tdiv_one, LN_succ, a1, a2, a3, a4, a5, a6, a7, a8, a9, b1, b2, b3, b4, b5, b6, b7, b8, b9, d1, d2, d3, d4, d5, d6, d7, d8, d9, g1, g2, g3, g4, g5, g6, n1, n2, n3, m1, m2, m3, boxW]) (subH_cons (by simp only [aqT, ROp, OX, ↓seqK, ↓blkK, ↓loopK, step, stepBin, res, stepIdx, mix, PV.cells, argSlots, Nat.reduceBEq, Nat.reduceBeqDiff, Nat.add_assoc nid, Nat.reduceAdd, reduceCtorEq, ↓reduceIte, Nat.reduceLeDiff, colPV, freeOf, indep, offO, neqO, disj, namesX, axSlot, opXs, rdXs, idsOf, idsOfs, lowH, lowAll, keys, Nat.reduceBneDiff, Option.toList, ← Int.ofNat_tmod, ← Int.ofNat_tdiv, optInt, fillP, repl, chunk, mkCols, mkCol, colInts, colBools, colStrs, colLits, colsApp, Col.app, tailOf, splice, colsPut, Col.put, mmFold, eqK, Nat.reduceLT, colsPaste, Col.paste, mNew, mkKey, keyIn, mGet, mPut, Int.cast_ofNat_Int, Int.reduceBEq, Int.reduceBNe, Int.reduceLT, Int.reduceLE, Int.reduceAdd, Int.reduceSub, Int.reduceMul, Int.reduceToNat, Int.reduceNeg, Int.reduceTMod, Int.reduceEq, not_false_eq_true, Int.reducePow, Int.reduceFDiv, Nat.reducePow, Nat.reduceSub, Nat.reduceMul, Nat.min_eq_left, Nat.reduceEqDiff, BEq.rfl, Int.tdiv_one, LN_succ, a1, a2, a3, a4, a5, a6, a7, a8, a9, b1, b2, b3, b4, b5, b6, b7, b8, b9, d1, d2, d3, d4, d5, d6, d7, d8, d9, g1, g2, g3, g4, g5, g6, n1, n2, n3, m1, m2, m3, boxI]) (subH_get (by simp only [aqT, ROp, OX, ↓seqK, ↓blkK, ↓loopK, step, stepBin, res, stepIdx, mix, PV.cells, argSlots, Nat.reduceBEq, Nat.reduceBeqDiff, Nat.add_assoc nid, Nat.reduceAdd, reduceCtorEq, ↓reduceIte, Nat.reduceLeDiff, colPV, freeOf, indep, offO, neqO, disj, namesX, axSlot, opXs, rdXs, idsOf, idsOfs, lowH, lowAll, keys, Nat.reduceBneDiff, Option.toList, ← Int.ofNat_tmod, ← Int.ofNat_tdiv, optInt, fillP, repl, chunk, mkCols, mkCol, colInts, colBools, colStrs, colLits, colsApp, Col.app, tailOf, splice, colsPut, Col.put, mmFold, eqK, Nat.reduceLT, colsPaste, Col.paste, mNew, mkKey, keyIn, mGet, mPut, Int.cast_ofNat_Int, Int.reduceBEq, Int.reduceBNe, Int.reduceLT, Int.reduceLE, Int.reduceAdd, Int.reduceSub, Int.reduceMul, Int.reduceToNat, Int.reduceNeg, Int.reduceTMod, Int.reduceEq, not_false_eq_true, Int.reducePow, Int.reduceFDiv, Nat.reducePow, Nat.reduceSub, Nat.reduceMul, Nat.min_eq_left, Nat.reduceEqDiff, BEq.rfl, Int.tdiv_one, LN_succ, a1, a2, a3, a4, a5, a6, a7, a8, a9, b1, b2, b3, b4, b5, b6, b7, b8, b9, d1, d2, d3, d4, d5, d6, d7, d8, d9, g1, g2, g3, g4, g5, g6, n1, n2, n3, m1, m2, m3, boxI])))) ?_⟩
      rw [← hia, ← hcs]
      unfold boxW boxI
      simp -dsimp only [aqT, ROp, OX, ↓seqK, ↓blkK, ↓loopK, step, stepBin, res, stepIdx, mix, PV.cells, argSlots, Nat.reduceBEq, Nat.reduceBeqDiff, Nat.add_assoc nid, Nat.reduceAdd, reduceCtorEq, ↓reduceIte, Nat.reduceLeDiff, colPV, freeOf, indep, offO, neqO, disj, namesX, axSlot, opXs, rdXs, idsOf, idsOfs, lowH, lowAll, keys, Nat.reduceBneDiff, Option.toList, ← Int.ofNat_tmod, ← Int.ofNat_tdiv, optInt, fillP, repl, chunk, mkCols, mkCol, colInts, colBools, colStrs, colLits, colsApp, Col.app, tailOf, splice, colsPut, Col.put, mmFold, eqK, Nat.reduceLT, colsPaste, Col.paste, mNew, mkKey, keyIn, mGet, mPut, Int.cast_ofNat_Int, Int.reduceBEq, Int.reduceBNe, Int.reduceLT, Int.reduceLE, Int.reduceAdd, Int.reduceSub, Int.reduceMul, Int.reduceToNat, Int.reduceNeg, Int.reduceTMod, Int.reduceEq, not_false_eq_true, Int.reducePow, Int.reduceFDiv, Nat.reducePow, Nat.reduceSub, Nat.reduceMul, Nat.min_eq_left, Nat.reduceEqDiff, BEq.rfl, Int.tdiv_one, LN_succ, a1, a2, a3, a4, a5, a6, a7, a8, a9, b1, b2, b3, b4, b5, b6, b7, b8, b9, d1, d2, d3, d4, d5, d6, d7, d8, d9, g1, g2, g3, g4, g5, g6, n1, n2, n3, m1, m2, m3]
      rw [setD_byte (by omega : x < q.length), hrs hxl]
      refine ⟨by omega, by unfold inI64; omega, x + 1, ⟨by omega, by omega⟩, Cov.go [] [] ?_⟩
      simp [retPV, over, keys, List.map_nil, List.map_cons, List.contains_cons, List.contains_nil, Bool.or_false, Bool.or_true, Bool.true_or, Bool.false_or, beq_self_eq_true, cond_true, cond_false, HeapCov, orNil, nilSz, onBlk, srcOf, getH_hit, getH_miss, getH.eq_1, getS_hit, getS_miss, getS.eq_1, BlkCov, PVCovs, PVCov, ColsEq, ColEq.refl, liveIds, SlotsCov, List.all_nil, List.all_cons, List.any_nil, List.any_cons, List.nil_append, List.cons_append, inRange, apart, nilBlk, idS1, idS2, readAll, readRes, onAll, step, res, AX.val, List.drop_zero, List.drop_succ_cons, List.take_succ_cons, List.take_zero, a1, a2, a3, a4, a5, a6, a7, a8, a9, b1, b2, b3, b4, b5, b6, b7, b8, b9, d1, d2, d3, d4, d5, d6, d7, d8, d9, g1, g2, g3, g4, g5, g6, n1, n2, n3, m1, m2, m3, boxW, boxI, -List.getD_eq_getElem?_getD]
    · have hxr : x = r.length := by omega
      subst hxr
      rw [inkTo_all] at hq
      subst hq
      rw [bytes_back2 hrl, getD_app1 _ _ hmtl, ← hmt]
      rw [← hts] at hcd
      refine ⟨⟨by omega, by omega⟩, by unfold inI64; omega, y + 1, ⟨by omega, by omega⟩, Cov.go [(nid + 8, nid + 424)] [] ?_⟩
      simp [retPV, over, keys, List.map_nil, List.map_cons, List.contains_cons, List.contains_nil, Bool.or_false, Bool.or_true, Bool.true_or, Bool.false_or, beq_self_eq_true, cond_true, cond_false, HeapCov, orNil, nilSz, onBlk, srcOf, getH_hit, getH_miss, getH.eq_1, getS_hit, getS_miss, getS.eq_1, BlkCov, PVCovs, PVCov, ColsEq, ColEq.refl, liveIds, SlotsCov, List.all_nil, List.all_cons, List.any_nil, List.any_cons, List.nil_append, List.cons_append, inRange, apart, nilBlk, idS1, idS2, readAll, readRes, onAll, step, res, AX.val, List.drop_zero, List.drop_succ_cons, List.take_succ_cons, List.take_zero, a1, a2, a3, a4, a5, a6, a7, a8, a9, b1, b2, b3, b4, b5, b6, b7, b8, b9, d1, d2, d3, d4, d5, d6, d7, d8, d9, g1, g2, g3, g4, g5, g6, n1, n2, n3, m1, m2, m3, boxW, boxI, hcd, -List.getD_eq_getElem?_getD]
  · have hyn : y = W.rows.length := by omega
    subst hyn
    rw [List.take_of_length_le (by omega)]
    refine RetOK.go [(nid, nid + 8)] [] (.inl rfl) ?_
    simp [retPV, over, keys, List.map_nil, List.map_cons, List.contains_cons, List.contains_nil, Bool.or_false, Bool.or_true, Bool.true_or, Bool.false_or, beq_self_eq_true, cond_true, cond_false, HeapCov, orNil, nilSz, onBlk, srcOf, getH_hit, getH_miss, getH.eq_1, getS_hit, getS_miss, getS.eq_1, BlkCov, PVCovs, PVCov, ColsEq, ColEq.refl, liveIds, SlotsCov, List.all_nil, List.all_cons, List.any_nil, List.any_cons, List.nil_append, List.cons_append, inRange, apart, nilBlk, idS1, idS2, readAll, readRes, onAll, step, res, AX.val, List.drop_zero, List.drop_succ_cons, List.take_succ_cons, List.take_zero, a1, a2, a3, a4, a5, a6, a7, a8, a9, b1, b2, b3, b4, b5, b6, b7, b8, b9, d1, d2, d3, d4, d5, d6, d7, d8, d9, g1, g2, g3, g4, g5, g6, n1, n2, n3, m1, m2, m3, a37, boxW, boxI, arrS, hml, plV, -List.getD_eq_getElem?_getD]
end Go.Proofs.YtmgfcjblclanmaaDoor
/-
  DERIVED: THE SHELF's CONTRACTS AT THIS DUMP, IN PLAIN WORDS (tools/lay-plain.mjs out of 'ZzShelf.lean', which tools/lay-shelf.mjs wrote): THE SAME DECLARATIONS UNDER THE SAME NAMES: 'import', 'namespace', 'open', 'def', 'theorem' AND NOTHING ELSE: no command of the shelf's: FOR A HAND-IN. Each laying: the table of numbers ('.._ren') and one theorem, a field a fact of the dump's own or the kernel's comparison; each contract: ONE APPLICATION.
-/
namespace Go.Proofs
open Go.Shelf
def Tryd.lays171_ren : Go.Shelf.Ren := ⟨fun | 171 => 44 | 243 => 80 | 246 => 106 | 283 => 118 | 284 => 119 | 285 => 120 | 286 => 121 | 129 => 136 | 317 => 137 | 318 => 138 | 319 => 139 | 320 => 140 | 337 => 147 | 338 => 148 | n => n, fun | 3 => 3 | 9 => 9 | 2 => 2 | 4 => 4 | 171 => 150 | 0 => 0 | 53 => 151 | 37 => 115 | 5 => 5 | 173 => 154 | 212 => 175 | 51 => 173 | 20 => 20 | 213 => 176 | 46 => 107 | 232 => 187 | 233 => 188 | n => n, fun | 17 => 3 | 18 => 4 | 19 => 5 | n => n⟩
theorem Tryd.lays171 : Go.Proofs.Lays.n171 Tryd.prog Tryd.lays171_ren := {
  mixed := by kernel_rfl
  f129 := Tryd.func136.trans (congrArg some (by kernel_rfl))
  f171 := Tryd.func44.trans (congrArg some (by kernel_rfl))
  f243 := Tryd.func80.trans (congrArg some (by kernel_rfl))
  f246 := Tryd.func106.trans (congrArg some (by kernel_rfl))
  f283 := Tryd.func118.trans (congrArg some (by kernel_rfl))
  f284 := Tryd.func119.trans (congrArg some (by kernel_rfl))
  f285 := Tryd.func120.trans (congrArg some (by kernel_rfl))
  f286 := Tryd.func121.trans (congrArg some (by kernel_rfl))
  f317 := Tryd.func137.trans (congrArg some (by kernel_rfl))
  f318 := Tryd.func138.trans (congrArg some (by kernel_rfl))
  f319 := Tryd.func139.trans (congrArg some (by kernel_rfl))
  f320 := Tryd.func140.trans (congrArg some (by kernel_rfl))
  f337 := Tryd.func147.trans (congrArg some (by kernel_rfl))
  f338 := Tryd.func148.trans (congrArg some (by kernel_rfl))
  t0 := Tryd.underlying0
  a0 := Tryd.isAgg0
  z0 := Tryd.sizeOf0
  v0 := Tryd.zeroValue0
  t2 := Tryd.underlying2
  a2 := Tryd.isAgg2
  z2 := Tryd.sizeOf2
  v2 := Tryd.zeroValue2
  t3 := Tryd.underlying3
  a3 := Tryd.isAgg3
  z3 := Tryd.sizeOf3
  v3 := Tryd.zeroValue3
  t4 := Tryd.underlying4
  a4 := Tryd.isAgg4
  z4 := Tryd.sizeOf4
  v4 := Tryd.zeroValue4
  t5 := Tryd.underlying5
  a5 := Tryd.isAgg5
  z5 := Tryd.sizeOf5
  v5 := Tryd.zeroValue5
  t9 := Tryd.underlying9
  a9 := Tryd.isAgg9
  z9 := Tryd.sizeOf9
  v9 := Tryd.zeroValue9
  t20 := Tryd.underlying20
  a20 := Tryd.isAgg20
  z20 := Tryd.sizeOf20
  v20 := Tryd.zeroValue20
  t37 := Tryd.underlying115
  a37 := Tryd.isAgg115
  z37 := Tryd.sizeOf115
  v37 := Tryd.zeroValue115
  t46 := Tryd.underlying107
  a46 := Tryd.isAgg107
  z46 := Tryd.sizeOf107
  v46 := Tryd.zeroValue107
  t51 := Tryd.underlying173
  a51 := Tryd.isAgg173
  z51 := Tryd.sizeOf173
  v51 := Tryd.zeroValue173
  t53 := Tryd.underlying151
  a53 := Tryd.isAgg151
  z53 := Tryd.sizeOf151
  v53 := Tryd.zeroValue151
  t171 := Tryd.underlying150
  a171 := Tryd.isAgg150
  z171 := Tryd.sizeOf150
  v171 := Tryd.zeroValue150
  t173 := Tryd.underlying154
  a173 := Tryd.isAgg154
  z173 := Tryd.sizeOf154
  v173 := Tryd.zeroValue154
  t212 := Tryd.underlying175
  a212 := Tryd.isAgg175
  z212 := Tryd.sizeOf175
  v212 := Tryd.zeroValue175
  t213 := Tryd.underlying176
  a213 := Tryd.isAgg176
  z213 := Tryd.sizeOf176
  t232 := Tryd.underlying187
  a232 := Tryd.isAgg187
  z232 := Tryd.sizeOf187
  v232 := Tryd.zeroValue187
  t233 := Tryd.underlying188
  a233 := Tryd.isAgg188
  z233 := Tryd.sizeOf188
  v233 := Tryd.zeroValue188
  g17 := by kernel_rfl
  g18 := by kernel_rfl
  g19 := by kernel_rfl }
end Go.Proofs
/-
  The library's strings.ReplaceAll at one byte, by the shelf's contract, as a call of the abstract machine.
-/
namespace Go.Proofs.YtmgfcjblclanmaaDoor
open Go.RowKit Go.Shelf Go.Lib
def swapB (a b : UInt8) (s : List UInt8) : List UInt8 := s.map fun c => if c = a then b else c
end Go.Proofs.YtmgfcjblclanmaaDoor
/-
  strconv.Itoa of small numbers off the shelf; an array of 256 numbers, by the abstract machine.
-/
namespace Go.Proofs.YtmgfcjblclanmaaDoor
open Go.RowKit Go.Shelf Go.Lib
set_option linter.unusedVariables false
set_option linter.unusedSimpArgs false
set_option maxRecDepth 100000
theorem itoa_cc (n : Nat) (nid : Nat) (hn : n < 100) : ACall Tryd.prog 44 [.int .i64 (n : Nat)] [] nid (.str (Lib.decDigits n)) [] :=
  acall_below (us := [.int .i64 (n : Nat)]) nid Tryd.func44 (by kernel_rfl) (by kernel_rfl) rfl rfl (fun w => by
    have h := Any.strconv_Itoa_small Tryd.lays171 n hn w
    have hf : Tryd.lays171_ren.f 171 = 44 := by kernel_rfl
    rw [hf] at h
    refine h.mono ?_
    rintro e w' ⟨rfl, rfl⟩
    exact ⟨rfl, Below.refl _ _⟩)
def cellsOf (f : Nat → Nat) : List PV := (List.range 256).map fun c => .int .i64 (f c : Nat)
theorem cellsOf_len (f : Nat → Nat) : (cellsOf f).length = 256 := by simp [cellsOf]
theorem cellsOf_drop (f : Nat → Nat) {k : Nat} (hk : k < 256) : (cellsOf f).drop k = .int .i64 (f k : Nat) :: (cellsOf f).drop (k + 1) := by
  rw [List.drop_eq_getElem_cons (by rw [cellsOf_len]; exact hk)]
  simp [cellsOf]
theorem cellsOf_zero : cellsOf (fun _ => 0) = List.replicate 256 (.int .i64 0) := by kernel_rfl
theorem cellsOf_set (f : Nat → Nat) {k : Nat} (hk : k < 256) (m : Nat) : (cellsOf f).set k (.int .i64 (m : Nat)) = cellsOf (fun c => if c = k then m else f c) := by
  apply List.ext_getElem
  · simp [cellsOf]
  · intro i h1 h2
    rw [List.getElem_set]
    by_cases h : k = i
    · subst h; simp [cellsOf]
    · rw [if_neg h]
      simp only [cellsOf, List.getElem_map, List.getElem_range]
      rw [if_neg (fun e => h e.symm)]
theorem PVCovs.ints (hi : Nat) (ren nils : List (Nat × Nat)) : ∀ (l : List Nat) (f : Nat → Nat), PVCovs hi ren nils (l.map fun c => .int .i64 (f c : Nat)) (l.map fun c => .int .i64 (f c : Nat))
  | [], _ => by simp [PVCovs]
  | a :: l, f => by
    have := PVCovs.ints hi ren nils l f
    simp [PVCovs, PVCov, this]
theorem PVCovs.cells (hi : Nat) (ren nils : List (Nat × Nat)) (f : Nat → Nat) : PVCovs hi ren nils (cellsOf f) (cellsOf f) := PVCovs.ints hi ren nils _ f
theorem cellsOf_take (f : Nat → Nat) : (cellsOf f).take 256 = cellsOf f := List.take_of_length_le (by rw [cellsOf_len]; omega)
def dieIs (W : Waf) (c : Nat) (p : Pt) : Bool := decide (dieV W p.1 p.2 = (c : Int))
def histV (W : Waf) (l : List Pt) (k : Nat) (c : Nat) : Nat := cntTo (dieIs W c) l k
theorem histV_zero (W : Waf) (l : List Pt) : histV W l 0 = fun _ => 0 := by funext c; exact cntTo_zero _ _
theorem histV_succ (W : Waf) {l : List Pt} {k d : Nat} (hk : k < l.length) (hd : dieV W (l.getD k p0).1 (l.getD k p0).2 = (d : Int)) : (fun c => if c = d then histV W l k d + 1 else histV W l k c) = histV W l (k + 1) := by
  funext c
  unfold histV
  rw [cntTo_succ _ hk]
  unfold dieIs
  rw [hd]
  by_cases h : c = d
  · subst h; simp
  · rw [if_neg h, if_neg (by simp; omega), Nat.add_zero]
set_option maxHeartbeats 8000000 in
theorem counts_all (nl : Bool) (W : Waf) (nid : Nat) (h : waferV W = 0) (hp : W.pass.length ≤ 1000000) (h99 : (plV W).length < 100) :
    ∃ x : Nat × (Nat → List UInt8) × (Nat → List UInt8), x.1 ≤ 256 ∧ ACall Tryd.prog 12 [wafP nl W] [] nid (.tup [.sl nid 0 x.1, .int .i64 (histV W (plV W) (plV W).length 42 : Nat), .int .i64 (histV W (plV W) (plV W).length 63 : Nat), .int .i64 0]) [(nid, some (.arr 87 x.1 [.s x.2.1, .s x.2.2]))] := by
  have hW := waferV_ok h
  have hpi : ∀ i, i < (plV W).length → inI64 ((plV W).getD i p0).1 ∧ inI64 ((plV W).getD i p0).2 := fun i hi => plV_in' hW (ptMem' hi)
  refine acall_ex c12 (by simp [a12]) ?_
  unfold wafP
  simp -dsimp only [aqT0, ROp0, aqT, ROp, OX, ↓seqK, ↓blkK, ↓loopK, step, stepBin, res, stepIdx, mix, PV.cells, argSlots, Nat.reduceBEq, Nat.reduceBeqDiff, Nat.add_assoc nid, Nat.reduceAdd, reduceCtorEq, ↓reduceIte, Nat.reduceLeDiff, colPV, freeOf, indep, offO, neqO, disj, namesX, axSlot, opXs, rdXs, idsOf, idsOfs, lowH, lowAll, keys, Nat.reduceBneDiff, Option.toList, ← Int.ofNat_tmod, ← Int.ofNat_tdiv, optInt, fillP, repl, chunk, mkCols, mkCol, colInts, colBools, colStrs, colLits, colsApp, Col.app, tailOf, splice, colsPut, Col.put, mmFold, eqK, Nat.reduceLT, colsPaste, Col.paste, mNew, mkKey, keyIn, mGet, mPut, Int.cast_ofNat_Int, Int.reduceBEq, Int.reduceBNe, Int.reduceLT, Int.reduceLE, Int.reduceAdd, Int.reduceSub, Int.reduceMul, Int.reduceToNat, Int.reduceNeg, Int.reduceTMod, Int.reduceEq, not_false_eq_true, Int.reducePow, Int.reduceFDiv, Nat.reducePow, Nat.reduceSub, Nat.reduceMul, Nat.min_eq_left, Nat.reduceEqDiff, BEq.rfl, Int.tdiv_one, LN_succ, a12]
  refine CallX.pure (checkWafer_all nl W _ (hW.bd hp)) ?_
  rw [h]
  simp -dsimp only [aqT0, ROp0, aqT, ROp, OX, ↓seqK, ↓blkK, ↓loopK, step, stepBin, res, stepIdx, mix, PV.cells, argSlots, Nat.reduceBEq, Nat.reduceBeqDiff, Nat.add_assoc nid, Nat.reduceAdd, reduceCtorEq, ↓reduceIte, Nat.reduceLeDiff, colPV, freeOf, indep, offO, neqO, disj, namesX, axSlot, opXs, rdXs, idsOf, idsOfs, lowH, lowAll, keys, Nat.reduceBneDiff, Option.toList, ← Int.ofNat_tmod, ← Int.ofNat_tdiv, optInt, fillP, repl, chunk, mkCols, mkCol, colInts, colBools, colStrs, colLits, colsApp, Col.app, tailOf, splice, colsPut, Col.put, mmFold, eqK, Nat.reduceLT, colsPaste, Col.paste, mNew, mkKey, keyIn, mGet, mPut, Int.cast_ofNat_Int, Int.reduceBEq, Int.reduceBNe, Int.reduceLT, Int.reduceLE, Int.reduceAdd, Int.reduceSub, Int.reduceMul, Int.reduceToNat, Int.reduceNeg, Int.reduceTMod, Int.reduceEq, not_false_eq_true, Int.reducePow, Int.reduceFDiv, Nat.reducePow, Nat.reduceSub, Nat.reduceMul, Nat.min_eq_left, Nat.reduceEqDiff, BEq.rfl, Int.tdiv_one, LN_succ]
  refine CallX.pure (places_all nl W _ hW) ?_
  generalize plV W = l at *
  unfold arrPl
  simp -dsimp only [aqT0, ROp0, aqT, ROp, OX, ↓seqK, ↓blkK, ↓loopK, step, stepBin, res, stepIdx, mix, PV.cells, argSlots, Nat.reduceBEq, Nat.reduceBeqDiff, Nat.add_assoc nid, Nat.reduceAdd, reduceCtorEq, ↓reduceIte, Nat.reduceLeDiff, colPV, freeOf, indep, offO, neqO, disj, namesX, axSlot, opXs, rdXs, idsOf, idsOfs, lowH, lowAll, keys, Nat.reduceBneDiff, Option.toList, ← Int.ofNat_tmod, ← Int.ofNat_tdiv, optInt, fillP, repl, chunk, mkCols, mkCol, colInts, colBools, colStrs, colLits, colsApp, Col.app, tailOf, splice, colsPut, Col.put, mmFold, eqK, Nat.reduceLT, colsPaste, Col.paste, mNew, mkKey, keyIn, mGet, mPut, Int.cast_ofNat_Int, Int.reduceBEq, Int.reduceBNe, Int.reduceLT, Int.reduceLE, Int.reduceAdd, Int.reduceSub, Int.reduceMul, Int.reduceToNat, Int.reduceNeg, Int.reduceTMod, Int.reduceEq, not_false_eq_true, Int.reducePow, Int.reduceFDiv, Nat.reducePow, Nat.reduceSub, Nat.reduceMul, Nat.min_eq_left, Nat.reduceEqDiff, BEq.rfl, Int.tdiv_one, LN_succ]
  refine LP0.mkP (fun k : Nat => k ≤ l.length) (fun k : Nat => ⟨[(21, .int .i64 k), (20, .int .i64 l.length), (19, .sl (nid + 48) 0 l.length), (7, .ptr (nid + 40) 0), (1, .ptr nid 0)], [(nid + 48, arrPl l), (nid + 40, some (.box 83 (cellsOf (histV W l k)))), (nid, boxW nl W)], nid + 100, nid⟩) (fun k => l.length + 1 - k) 0 (by omega) (Cov.go [] [] ?_) (fun k hk => ?_)
  · rw [histV_zero, cellsOf_zero]
    simp [retPV, over, keys, List.map_nil, List.map_cons, List.contains_cons, List.contains_nil, Bool.or_false, Bool.or_true, Bool.true_or, Bool.false_or, beq_self_eq_true, cond_true, cond_false, HeapCov, orNil, nilSz, onBlk, srcOf, getH_hit, getH_miss, getH.eq_1, getS_hit, getS_miss, getS.eq_1, BlkCov, PVCovs, PVCov, ColsEq, ColEq.refl, liveIds, SlotsCov, List.all_nil, List.all_cons, List.any_nil, List.any_cons, List.nil_append, List.cons_append, inRange, apart, nilBlk, idS1, idS2, readAll, readRes, onAll, step, res, AX.val, List.drop_zero, List.drop_succ_cons, List.take_succ_cons, List.take_zero, arrPl, boxW]
  unfold arrPl boxW
  simp -dsimp only [aqT0, ROp0, aqT, ROp, OX, ↓seqK, ↓blkK, ↓loopK, step, stepBin, res, stepIdx, mix, PV.cells, argSlots, Nat.reduceBEq, Nat.reduceBeqDiff, Nat.add_assoc nid, Nat.reduceAdd, reduceCtorEq, ↓reduceIte, Nat.reduceLeDiff, colPV, freeOf, indep, offO, neqO, disj, namesX, axSlot, opXs, rdXs, idsOf, idsOfs, lowH, lowAll, keys, Nat.reduceBneDiff, Option.toList, ← Int.ofNat_tmod, ← Int.ofNat_tdiv, optInt, fillP, repl, chunk, mkCols, mkCol, colInts, colBools, colStrs, colLits, colsApp, Col.app, tailOf, splice, colsPut, Col.put, mmFold, eqK, Nat.reduceLT, colsPaste, Col.paste, mNew, mkKey, keyIn, mGet, mPut, Int.cast_ofNat_Int, Int.reduceBEq, Int.reduceBNe, Int.reduceLT, Int.reduceLE, Int.reduceAdd, Int.reduceSub, Int.reduceMul, Int.reduceToNat, Int.reduceNeg, Int.reduceTMod, Int.reduceEq, not_false_eq_true, Int.reducePow, Int.reduceFDiv, Nat.reducePow, Nat.reduceSub, Nat.reduceMul, Nat.min_eq_left, Nat.reduceEqDiff, BEq.rfl, Int.tdiv_one, LN_succ]
  refine S2.dec (fun h1 => ?_) (fun h1 => ?_) <;> simp -dsimp only [aqT0, ROp0, aqT, ROp, OX, ↓seqK, ↓blkK, ↓loopK, step, stepBin, res, stepIdx, mix, PV.cells, argSlots, Nat.reduceBEq, Nat.reduceBeqDiff, Nat.add_assoc nid, Nat.reduceAdd, reduceCtorEq, ↓reduceIte, Nat.reduceLeDiff, colPV, freeOf, indep, offO, neqO, disj, namesX, axSlot, opXs, rdXs, idsOf, idsOfs, lowH, lowAll, keys, Nat.reduceBneDiff, Option.toList, ← Int.ofNat_tmod, ← Int.ofNat_tdiv, optInt, fillP, repl, chunk, mkCols, mkCol, colInts, colBools, colStrs, colLits, colsApp, Col.app, tailOf, splice, colsPut, Col.put, mmFold, eqK, Nat.reduceLT, colsPaste, Col.paste, mNew, mkKey, keyIn, mGet, mPut, Int.cast_ofNat_Int, Int.reduceBEq, Int.reduceBNe, Int.reduceLT, Int.reduceLE, Int.reduceAdd, Int.reduceSub, Int.reduceMul, Int.reduceToNat, Int.reduceNeg, Int.reduceTMod, Int.reduceEq, not_false_eq_true, Int.reducePow, Int.reduceFDiv, Nat.reducePow, Nat.reduceSub, Nat.reduceMul, Nat.min_eq_left, Nat.reduceEqDiff, BEq.rfl, Int.tdiv_one, LN_succ]
  · have hkl : k < l.length := by omega
    obtain ⟨i1, i2⟩ := hpi k hkl
    refine ⟨by omega, CallX.pure (at_all nl W _ _ _ hW i1 i2) ?_⟩
    obtain ⟨d, hd1, hd⟩ := dieV_bd W (l.getD k p0).1 (l.getD k p0).2
    have hs := histV_succ W hkl hd
    have hle : histV W l k d ≤ l.length := cntTo_le _ _ _
    rw [hd]
    simp -dsimp only [aqT0, ROp0, aqT, ROp, OX, ↓seqK, ↓blkK, ↓loopK, step, stepBin, res, stepIdx, mix, PV.cells, argSlots, Nat.reduceBEq, Nat.reduceBeqDiff, Nat.add_assoc nid, Nat.reduceAdd, reduceCtorEq, ↓reduceIte, Nat.reduceLeDiff, colPV, freeOf, indep, offO, neqO, disj, namesX, axSlot, opXs, rdXs, idsOf, idsOfs, lowH, lowAll, keys, Nat.reduceBneDiff, Option.toList, ← Int.ofNat_tmod, ← Int.ofNat_tdiv, optInt, fillP, repl, chunk, mkCols, mkCol, colInts, colBools, colStrs, colLits, colsApp, Col.app, tailOf, splice, colsPut, Col.put, mmFold, eqK, Nat.reduceLT, colsPaste, Col.paste, mNew, mkKey, keyIn, mGet, mPut, Int.cast_ofNat_Int, Int.reduceBEq, Int.reduceBNe, Int.reduceLT, Int.reduceLE, Int.reduceAdd, Int.reduceSub, Int.reduceMul, Int.reduceToNat, Int.reduceNeg, Int.reduceTMod, Int.reduceEq, not_false_eq_true, Int.reducePow, Int.reduceFDiv, Nat.reducePow, Nat.reduceSub, Nat.reduceMul, Nat.min_eq_left, Nat.reduceEqDiff, BEq.rfl, Int.tdiv_one, LN_succ, Int.toNat_natCast, Nat.mul_one, Nat.zero_add, cellsOf_drop (histV W l k) hd1, cellsOf_len, cellsOf_set (histV W l k) hd1]
    have hd2 : d ≤ 255 := by omega
    have e : ((histV W l k d : Nat) : Int) + 1 = ((histV W l k d + 1 : Nat) : Int) := rfl
    refine ⟨⟨by omega, by omega⟩, by unfold inI64; omega, ⟨by omega, by omega⟩, ?_⟩
    rw [e, cellsOf_set _ hd1, hs]
    simp -dsimp only [aqT0, ROp0, aqT, ROp, OX, ↓seqK, ↓blkK, ↓loopK, step, stepBin, res, stepIdx, mix, PV.cells, argSlots, Nat.reduceBEq, Nat.reduceBeqDiff, Nat.add_assoc nid, Nat.reduceAdd, reduceCtorEq, ↓reduceIte, Nat.reduceLeDiff, colPV, freeOf, indep, offO, neqO, disj, namesX, axSlot, opXs, rdXs, idsOf, idsOfs, lowH, lowAll, keys, Nat.reduceBneDiff, Option.toList, ← Int.ofNat_tmod, ← Int.ofNat_tdiv, optInt, fillP, repl, chunk, mkCols, mkCol, colInts, colBools, colStrs, colLits, colsApp, Col.app, tailOf, splice, colsPut, Col.put, mmFold, eqK, Nat.reduceLT, colsPaste, Col.paste, mNew, mkKey, keyIn, mGet, mPut, Int.cast_ofNat_Int, Int.reduceBEq, Int.reduceBNe, Int.reduceLT, Int.reduceLE, Int.reduceAdd, Int.reduceSub, Int.reduceMul, Int.reduceToNat, Int.reduceNeg, Int.reduceTMod, Int.reduceEq, not_false_eq_true, Int.reducePow, Int.reduceFDiv, Nat.reducePow, Nat.reduceSub, Nat.reduceMul, Nat.min_eq_left, Nat.reduceEqDiff, BEq.rfl, Int.tdiv_one, LN_succ, hd2, decide_true]
    refine ⟨by unfold inI64; omega, k + 1, ⟨by omega, by omega⟩, Cov.go [] [] ?_⟩
    simp [retPV, over, keys, List.map_nil, List.map_cons, List.contains_cons, List.contains_nil, Bool.or_false, Bool.or_true, Bool.true_or, Bool.false_or, beq_self_eq_true, cond_true, cond_false, HeapCov, orNil, nilSz, onBlk, srcOf, getH_hit, getH_miss, getH.eq_1, getS_hit, getS_miss, getS.eq_1, BlkCov, PVCovs, PVCov, ColsEq, ColEq.refl, liveIds, SlotsCov, List.all_nil, List.all_cons, List.any_nil, List.any_cons, List.nil_append, List.cons_append, inRange, apart, nilBlk, idS1, idS2, readAll, readRes, onAll, step, res, AX.val, List.drop_zero, List.drop_succ_cons, List.take_succ_cons, List.take_zero, arrPl, boxW, PVCovs.cells]
  have hkn : k = l.length := by omega
  subst hkn
  clear h1
  have hfb : ∀ c, histV W l l.length c < 100 := fun c => by have := cntTo_le (dieIs W c) l l.length; unfold histV; omega
  generalize histV W l l.length = f at *
  simp -dsimp only [aqT0, ROp0, aqT, ROp, OX, ↓seqK, ↓blkK, ↓loopK, step, stepBin, res, stepIdx, mix, PV.cells, argSlots, Nat.reduceBEq, Nat.reduceBeqDiff, Nat.add_assoc nid, Nat.reduceAdd, reduceCtorEq, ↓reduceIte, Nat.reduceLeDiff, colPV, freeOf, indep, offO, neqO, disj, namesX, axSlot, opXs, rdXs, idsOf, idsOfs, lowH, lowAll, keys, Nat.reduceBneDiff, Option.toList, ← Int.ofNat_tmod, ← Int.ofNat_tdiv, optInt, fillP, repl, chunk, mkCols, mkCol, colInts, colBools, colStrs, colLits, colsApp, Col.app, tailOf, splice, colsPut, Col.put, mmFold, eqK, Nat.reduceLT, colsPaste, Col.paste, mNew, mkKey, keyIn, mGet, mPut, Int.cast_ofNat_Int, Int.reduceBEq, Int.reduceBNe, Int.reduceLT, Int.reduceLE, Int.reduceAdd, Int.reduceSub, Int.reduceMul, Int.reduceToNat, Int.reduceNeg, Int.reduceTMod, Int.reduceEq, not_false_eq_true, Int.reducePow, Int.reduceFDiv, Nat.reducePow, Nat.reduceSub, Nat.reduceMul, Nat.min_eq_left, Nat.reduceEqDiff, BEq.rfl, Int.tdiv_one, LN_succ, cellsOf_len, cellsOf_take, List.drop_zero, decide_true, Nat.le_refl, Nat.zero_add]
  refine LP0.mkP (fun x : Nat × Nat × (Nat → List UInt8) × (Nat → List UInt8) => x.1 ≤ 256 ∧ x.2.1 ≤ x.1) (fun x => ⟨[(34, .int .i64 x.1), (33, .agg (cellsOf f)), (10, .sl (nid + 4) 0 x.2.1), (7, .ptr (nid + 40) 0)], [(nid + 40, some (.box 83 (cellsOf f))), (nid + 4, some (.arr 87 x.2.1 [.s x.2.2.1, .s x.2.2.2]))], nid + 300, nid⟩) (fun x => 257 - x.1) (0, 0, fun _ => [], fun _ => []) ⟨by simp, by simp⟩ (Cov.go [] [(nid + 4, 2)] ?_) (fun x hx => ?_)
  · simp [retPV, over, keys, List.map_nil, List.map_cons, List.contains_cons, List.contains_nil, Bool.or_false, Bool.or_true, Bool.true_or, Bool.false_or, beq_self_eq_true, cond_true, cond_false, HeapCov, orNil, nilSz, onBlk, srcOf, getH_hit, getH_miss, getH.eq_1, getS_hit, getS_miss, getS.eq_1, BlkCov, PVCovs, PVCov, ColsEq, ColEq.refl, liveIds, SlotsCov, List.all_nil, List.all_cons, List.any_nil, List.any_cons, List.nil_append, List.cons_append, inRange, apart, nilBlk, idS1, idS2, readAll, readRes, onAll, step, res, AX.val, List.drop_zero, List.drop_succ_cons, List.take_succ_cons, List.take_zero, PVCovs.cells]
  obtain ⟨c, n, g, h⟩ := x
  obtain ⟨hc, hn⟩ := hx
  simp only at hc hn
  simp -dsimp only [aqT0, ROp0, aqT, ROp, OX, ↓seqK, ↓blkK, ↓loopK, step, stepBin, res, stepIdx, mix, PV.cells, argSlots, Nat.reduceBEq, Nat.reduceBeqDiff, Nat.add_assoc nid, Nat.reduceAdd, reduceCtorEq, ↓reduceIte, Nat.reduceLeDiff, colPV, freeOf, indep, offO, neqO, disj, namesX, axSlot, opXs, rdXs, idsOf, idsOfs, lowH, lowAll, keys, Nat.reduceBneDiff, Option.toList, ← Int.ofNat_tmod, ← Int.ofNat_tdiv, optInt, fillP, repl, chunk, mkCols, mkCol, colInts, colBools, colStrs, colLits, colsApp, Col.app, tailOf, splice, colsPut, Col.put, mmFold, eqK, Nat.reduceLT, colsPaste, Col.paste, mNew, mkKey, keyIn, mGet, mPut, Int.cast_ofNat_Int, Int.reduceBEq, Int.reduceBNe, Int.reduceLT, Int.reduceLE, Int.reduceAdd, Int.reduceSub, Int.reduceMul, Int.reduceToNat, Int.reduceNeg, Int.reduceTMod, Int.reduceEq, not_false_eq_true, Int.reducePow, Int.reduceFDiv, Nat.reducePow, Nat.reduceSub, Nat.reduceMul, Nat.min_eq_left, Nat.reduceEqDiff, BEq.rfl, Int.tdiv_one, LN_succ]
  refine S2.dec (fun h1 => ?_) (fun h1 => ?_) <;> simp -dsimp only [aqT0, ROp0, aqT, ROp, OX, ↓seqK, ↓blkK, ↓loopK, step, stepBin, res, stepIdx, mix, PV.cells, argSlots, Nat.reduceBEq, Nat.reduceBeqDiff, Nat.add_assoc nid, Nat.reduceAdd, reduceCtorEq, ↓reduceIte, Nat.reduceLeDiff, colPV, freeOf, indep, offO, neqO, disj, namesX, axSlot, opXs, rdXs, idsOf, idsOfs, lowH, lowAll, keys, Nat.reduceBneDiff, Option.toList, ← Int.ofNat_tmod, ← Int.ofNat_tdiv, optInt, fillP, repl, chunk, mkCols, mkCol, colInts, colBools, colStrs, colLits, colsApp, Col.app, tailOf, splice, colsPut, Col.put, mmFold, eqK, Nat.reduceLT, colsPaste, Col.paste, mNew, mkKey, keyIn, mGet, mPut, Int.cast_ofNat_Int, Int.reduceBEq, Int.reduceBNe, Int.reduceLT, Int.reduceLE, Int.reduceAdd, Int.reduceSub, Int.reduceMul, Int.reduceToNat, Int.reduceNeg, Int.reduceTMod, Int.reduceEq, not_false_eq_true, Int.reducePow, Int.reduceFDiv, Nat.reducePow, Nat.reduceSub, Nat.reduceMul, Nat.min_eq_left, Nat.reduceEqDiff, BEq.rfl, Int.tdiv_one, LN_succ]
  · have hcl : c < 256 := by omega
    have hfc := hfb c
    simp -dsimp only [aqT0, ROp0, aqT, ROp, OX, ↓seqK, ↓blkK, ↓loopK, step, stepBin, res, stepIdx, mix, PV.cells, argSlots, Nat.reduceBEq, Nat.reduceBeqDiff, Nat.add_assoc nid, Nat.reduceAdd, reduceCtorEq, ↓reduceIte, Nat.reduceLeDiff, colPV, freeOf, indep, offO, neqO, disj, namesX, axSlot, opXs, rdXs, idsOf, idsOfs, lowH, lowAll, keys, Nat.reduceBneDiff, Option.toList, ← Int.ofNat_tmod, ← Int.ofNat_tdiv, optInt, fillP, repl, chunk, mkCols, mkCol, colInts, colBools, colStrs, colLits, colsApp, Col.app, tailOf, splice, colsPut, Col.put, mmFold, eqK, Nat.reduceLT, colsPaste, Col.paste, mNew, mkKey, keyIn, mGet, mPut, Int.cast_ofNat_Int, Int.reduceBEq, Int.reduceBNe, Int.reduceLT, Int.reduceLE, Int.reduceAdd, Int.reduceSub, Int.reduceMul, Int.reduceToNat, Int.reduceNeg, Int.reduceTMod, Int.reduceEq, not_false_eq_true, Int.reducePow, Int.reduceFDiv, Nat.reducePow, Nat.reduceSub, Nat.reduceMul, Nat.min_eq_left, Nat.reduceEqDiff, BEq.rfl, Int.tdiv_one, LN_succ, Int.toNat_natCast, Nat.mul_one, cellsOf_drop f hcl]
    refine ⟨⟨by omega, by omega⟩, S2.dec (fun h2 => ?_) (fun h2 => ?_)⟩ <;> simp -dsimp only [aqT0, ROp0, aqT, ROp, OX, ↓seqK, ↓blkK, ↓loopK, step, stepBin, res, stepIdx, mix, PV.cells, argSlots, Nat.reduceBEq, Nat.reduceBeqDiff, Nat.add_assoc nid, Nat.reduceAdd, reduceCtorEq, ↓reduceIte, Nat.reduceLeDiff, colPV, freeOf, indep, offO, neqO, disj, namesX, axSlot, opXs, rdXs, idsOf, idsOfs, lowH, lowAll, keys, Nat.reduceBneDiff, Option.toList, ← Int.ofNat_tmod, ← Int.ofNat_tdiv, optInt, fillP, repl, chunk, mkCols, mkCol, colInts, colBools, colStrs, colLits, colsApp, Col.app, tailOf, splice, colsPut, Col.put, mmFold, eqK, Nat.reduceLT, colsPaste, Col.paste, mNew, mkKey, keyIn, mGet, mPut, Int.cast_ofNat_Int, Int.reduceBEq, Int.reduceBNe, Int.reduceLT, Int.reduceLE, Int.reduceAdd, Int.reduceSub, Int.reduceMul, Int.reduceToNat, Int.reduceNeg, Int.reduceTMod, Int.reduceEq, not_false_eq_true, Int.reducePow, Int.reduceFDiv, Nat.reducePow, Nat.reduceSub, Nat.reduceMul, Nat.min_eq_left, Nat.reduceEqDiff, BEq.rfl, Int.tdiv_one, LN_succ]
    · refine CallX.pure (isBin_c _ _) ?_
      cases isBinV (IntKind.u8.wrap (c : Int)) <;> simp -dsimp only [aqT0, ROp0, aqT, ROp, OX, ↓seqK, ↓blkK, ↓loopK, step, stepBin, res, stepIdx, mix, PV.cells, argSlots, Nat.reduceBEq, Nat.reduceBeqDiff, Nat.add_assoc nid, Nat.reduceAdd, reduceCtorEq, ↓reduceIte, Nat.reduceLeDiff, colPV, freeOf, indep, offO, neqO, disj, namesX, axSlot, opXs, rdXs, idsOf, idsOfs, lowH, lowAll, keys, Nat.reduceBneDiff, Option.toList, ← Int.ofNat_tmod, ← Int.ofNat_tdiv, optInt, fillP, repl, chunk, mkCols, mkCol, colInts, colBools, colStrs, colLits, colsApp, Col.app, tailOf, splice, colsPut, Col.put, mmFold, eqK, Nat.reduceLT, colsPaste, Col.paste, mNew, mkKey, keyIn, mGet, mPut, Int.cast_ofNat_Int, Int.reduceBEq, Int.reduceBNe, Int.reduceLT, Int.reduceLE, Int.reduceAdd, Int.reduceSub, Int.reduceMul, Int.reduceToNat, Int.reduceNeg, Int.reduceTMod, Int.reduceEq, not_false_eq_true, Int.reducePow, Int.reduceFDiv, Nat.reducePow, Nat.reduceSub, Nat.reduceMul, Nat.min_eq_left, Nat.reduceEqDiff, BEq.rfl, Int.tdiv_one, LN_succ]
      · refine ⟨by unfold inI64; omega, (c + 1, n, g, h), ⟨⟨by simp only; omega, by simp only; omega⟩, by simp only; omega⟩, Cov.go [] [] ?_⟩
        simp [retPV, over, keys, List.map_nil, List.map_cons, List.contains_cons, List.contains_nil, Bool.or_false, Bool.or_true, Bool.true_or, Bool.false_or, beq_self_eq_true, cond_true, cond_false, HeapCov, orNil, nilSz, onBlk, srcOf, getH_hit, getH_miss, getH.eq_1, getS_hit, getS_miss, getS.eq_1, BlkCov, PVCovs, PVCov, ColsEq, ColEq.refl, liveIds, SlotsCov, List.all_nil, List.all_cons, List.any_nil, List.any_cons, List.nil_append, List.cons_append, inRange, apart, nilBlk, idS1, idS2, readAll, readRes, onAll, step, res, AX.val, List.drop_zero, List.drop_succ_cons, List.take_succ_cons, List.take_zero, PVCovs.cells]
      · refine CallX.pure (itoa_cc (f c) _ hfc) ?_
        simp -dsimp only [aqT0, ROp0, aqT, ROp, OX, ↓seqK, ↓blkK, ↓loopK, step, stepBin, res, stepIdx, mix, PV.cells, argSlots, Nat.reduceBEq, Nat.reduceBeqDiff, Nat.add_assoc nid, Nat.reduceAdd, reduceCtorEq, ↓reduceIte, Nat.reduceLeDiff, colPV, freeOf, indep, offO, neqO, disj, namesX, axSlot, opXs, rdXs, idsOf, idsOfs, lowH, lowAll, keys, Nat.reduceBneDiff, Option.toList, ← Int.ofNat_tmod, ← Int.ofNat_tdiv, optInt, fillP, repl, chunk, mkCols, mkCol, colInts, colBools, colStrs, colLits, colsApp, Col.app, tailOf, splice, colsPut, Col.put, mmFold, eqK, Nat.reduceLT, colsPaste, Col.paste, mNew, mkKey, keyIn, mGet, mPut, Int.cast_ofNat_Int, Int.reduceBEq, Int.reduceBNe, Int.reduceLT, Int.reduceLE, Int.reduceAdd, Int.reduceSub, Int.reduceMul, Int.reduceToNat, Int.reduceNeg, Int.reduceTMod, Int.reduceEq, not_false_eq_true, Int.reducePow, Int.reduceFDiv, Nat.reducePow, Nat.reduceSub, Nat.reduceMul, Nat.min_eq_left, Nat.reduceEqDiff, BEq.rfl, Int.tdiv_one, LN_succ]
        refine ⟨⟨by omega, by omega⟩, by unfold inI64; omega, (c + 1, n + 1, fun i => if i < n then g i else [(Utf8.encode (IntKind.i32.wrap (c : Int))).data.toList].getD (i - n) [], fun i => if i < n then h i else [Lib.decDigits (f c)].getD (i - n) []), ⟨⟨by simp only; omega, by simp only; omega⟩, by simp only; omega⟩, Cov.go [(nid + 4, nid + 380)] [] ?_⟩
        simp [retPV, over, keys, List.map_nil, List.map_cons, List.contains_cons, List.contains_nil, Bool.or_false, Bool.or_true, Bool.true_or, Bool.false_or, beq_self_eq_true, cond_true, cond_false, HeapCov, orNil, nilSz, onBlk, srcOf, getH_hit, getH_miss, getH.eq_1, getS_hit, getS_miss, getS.eq_1, BlkCov, PVCovs, PVCov, ColsEq, ColEq.refl, liveIds, SlotsCov, List.all_nil, List.all_cons, List.any_nil, List.any_cons, List.nil_append, List.cons_append, inRange, apart, nilBlk, idS1, idS2, readAll, readRes, onAll, step, res, AX.val, List.drop_zero, List.drop_succ_cons, List.take_succ_cons, List.take_zero, PVCovs.cells, -List.getD_eq_getElem?_getD]
    · refine ⟨by unfold inI64; omega, (c + 1, n, g, h), ⟨⟨by simp only; omega, by simp only; omega⟩, by simp only; omega⟩, Cov.go [] [] ?_⟩
      simp [retPV, over, keys, List.map_nil, List.map_cons, List.contains_cons, List.contains_nil, Bool.or_false, Bool.or_true, Bool.true_or, Bool.false_or, beq_self_eq_true, cond_true, cond_false, HeapCov, orNil, nilSz, onBlk, srcOf, getH_hit, getH_miss, getH.eq_1, getS_hit, getS_miss, getS.eq_1, BlkCov, PVCovs, PVCov, ColsEq, ColEq.refl, liveIds, SlotsCov, List.all_nil, List.all_cons, List.any_nil, List.any_cons, List.nil_append, List.cons_append, inRange, apart, nilBlk, idS1, idS2, readAll, readRes, onAll, step, res, AX.val, List.drop_zero, List.drop_succ_cons, List.take_succ_cons, List.take_zero, PVCovs.cells]
  · simp -dsimp only [aqT0, ROp0, aqT, ROp, OX, ↓seqK, ↓blkK, ↓loopK, step, stepBin, res, stepIdx, mix, PV.cells, argSlots, Nat.reduceBEq, Nat.reduceBeqDiff, Nat.add_assoc nid, Nat.reduceAdd, reduceCtorEq, ↓reduceIte, Nat.reduceLeDiff, colPV, freeOf, indep, offO, neqO, disj, namesX, axSlot, opXs, rdXs, idsOf, idsOfs, lowH, lowAll, keys, Nat.reduceBneDiff, Option.toList, ← Int.ofNat_tmod, ← Int.ofNat_tdiv, optInt, fillP, repl, chunk, mkCols, mkCol, colInts, colBools, colStrs, colLits, colsApp, Col.app, tailOf, splice, colsPut, Col.put, mmFold, eqK, Nat.reduceLT, colsPaste, Col.paste, mNew, mkKey, keyIn, mGet, mPut, Int.cast_ofNat_Int, Int.reduceBEq, Int.reduceBNe, Int.reduceLT, Int.reduceLE, Int.reduceAdd, Int.reduceSub, Int.reduceMul, Int.reduceToNat, Int.reduceNeg, Int.reduceTMod, Int.reduceEq, not_false_eq_true, Int.reducePow, Int.reduceFDiv, Nat.reducePow, Nat.reduceSub, Nat.reduceMul, Nat.min_eq_left, Nat.reduceEqDiff, BEq.rfl, Int.tdiv_one, LN_succ, cellsOf_drop f (show 42 < 256 by omega), cellsOf_drop f (show 63 < 256 by omega)]
    refine EndOK.mk (n, g, h) (by omega) ?_
    refine RetOK.go [(nid, nid + 4)] [] (.inl rfl) ?_
    simp [a12, retPV, over, keys, List.map_nil, List.map_cons, List.contains_cons, List.contains_nil, Bool.or_false, Bool.or_true, Bool.true_or, Bool.false_or, beq_self_eq_true, cond_true, cond_false, HeapCov, orNil, nilSz, onBlk, srcOf, getH_hit, getH_miss, getH.eq_1, getS_hit, getS_miss, getS.eq_1, BlkCov, PVCovs, PVCov, ColsEq, ColEq.refl, liveIds, SlotsCov, List.all_nil, List.all_cons, List.any_nil, List.any_cons, List.nil_append, List.cons_append, inRange, apart, nilBlk, idS1, idS2, readAll, readRes, onAll, step, res, AX.val, List.drop_zero, List.drop_succ_cons, List.take_succ_cons, List.take_zero]
end Go.Proofs.YtmgfcjblclanmaaDoor
/-
  A wafer and the same inked, plainly: right, the same places, what the counts and the yields are. No program stands in this text.
-/
namespace Go.Proofs.YtmgfcjblclanmaaDoor
def inkW (W : Waf) (m : Nat) : Waf := ⟨inkRs W m, W.pass⟩
theorem inkRs_at (W : Waf) (m : Nat) {y : Nat} (h : y < W.rows.length) : (inkRs W m).getD y [] = inkR W m y (W.rows.getD y []) := by
  unfold inkRs
  rw [List.getD_eq_getElem?_getD, List.getElem?_zipWith, List.getElem?_eq_getElem h, List.getElem?_range h, List.getD_eq_getElem?_getD, List.getElem?_eq_getElem h]
  rfl
theorem inkR_at (W : Waf) (m y : Nat) {r : List UInt8} {x : Nat} (h : x < r.length) : (inkR W m y r).getD x 0 = inkB W m (r.getD x 0) ((x : Int), (y : Int)) := by
  unfold inkR
  rw [List.getD_eq_getElem?_getD, List.getElem?_zipWith, List.getElem?_eq_getElem h, List.getElem?_range h, List.getD_eq_getElem?_getD, List.getElem?_eq_getElem h]
  rfl
theorem inkW_row (W : Waf) (m : Nat) {y : Nat} (h : y < W.rows.length) : ((inkW W m).rows.getD y []).length = (W.rows.getD y []).length := by
  show ((inkRs W m).getD y []).length = _
  rw [inkRs_at W m h, inkR_len]
theorem inkW_len (W : Waf) (m : Nat) : (inkW W m).rows.length = W.rows.length := inkRs_len W m
theorem inkW_wide {W : Waf} (hW : WafOk W) (m : Nat) : wideOf (inkW W m) = wideOf W := inkW_row W m hW.pos
theorem inkW_pl {W : Waf} (m : Nat) : ∀ y, y ≤ W.rows.length → plTo (inkW W m) y = plTo W y
  | 0, _ => rfl
  | y + 1, h => by rw [plTo_succ, plTo_succ, inkW_pl m y (by omega), inkW_row W m (by omega)]
theorem inkW_plV (W : Waf) (m : Nat) : plV (inkW W m) = plV W := by
  unfold plV
  rw [inkW_len]
  exact inkW_pl m _ (Nat.le_refl _)
theorem firstBad_nil0 {α : Type} {f : α → Int} : ∀ {l : List α}, (∀ a ∈ l, f a = 0) → firstBad f l = 0
  | [], _ => rfl
  | a :: l, h => by
    have h0 := h a (by simp)
    have ih := firstBad_nil0 (f := f) (l := l) fun b hb => h b (by simp [hb])
    simp [firstBad, h0, ih]
theorem rowBad_ok {wide : Nat} {r : List UInt8} (h1 : r ≠ []) (h2 : r.length ≤ 60) (h3 : r.length = wide) (h4 : oddB r = false) : rowBad wide r = 0 := by
  unfold rowBad
  rw [if_neg h1, if_neg (by omega), if_neg (by omega), if_neg (by rw [h4]; simp)]
theorem inkB_place {W : Waf} {m : Nat} {b : UInt8} {p : Pt} (h : placeB (byteI b) = true) : placeB (byteI (inkB W m b p)) = true := by
  unfold inkB
  split
  · decide
  · exact h
theorem inkR_odd {W : Waf} {m y : Nat} {r : List UInt8} (h : oddB r = false) : oddB (inkR W m y r) = false := by
  unfold oddB at *
  rw [List.any_eq_false] at *
  intro b hb
  obtain ⟨x, hx, rfl⟩ := List.getElem_of_mem hb
  have hx' : x < r.length := by rw [inkR_len] at hx; exact hx
  have e2 := inkR_at W m y hx'
  rw [List.getD_eq_getElem?_getD, List.getElem?_eq_getElem hx, List.getD_eq_getElem?_getD, List.getElem?_eq_getElem hx'] at e2
  simp only [Option.getD_some] at e2
  rw [e2]
  have hp2 : placeB (byteI r[x]) = true := by simpa using h _ (List.getElem_mem hx')
  have := inkB_place (W := W) (m := m) (p := ((x : Int), (y : Int))) hp2
  simp [this]
theorem inkW_ok {W : Waf} (h : waferV W = 0) (m : Nat) : waferV (inkW W m) = 0 := by
  have hW := waferV_ok h
  have hp := hW.pos
  have hl := hW.len
  have hpass : passV W.pass = 0 := by
    have hr : firstBad (rowBad (wideOf W)) W.rows = 0 := firstBad_nil0 fun r hr => by
      obtain ⟨a1, a2, a3, a4⟩ := hW.row r hr
      exact rowBad_ok a1 a2 a3 a4
    rw [← waferV_pass (by omega) hl hr]; exact h
  have hr : firstBad (rowBad (wideOf (inkW W m))) (inkW W m).rows = 0 := firstBad_nil0 fun r hr => by
    obtain ⟨y, hy, rfl⟩ := List.getElem_of_mem hr
    have hy' : y < W.rows.length := by rw [inkW_len] at hy; exact hy
    have e : (inkW W m).rows[y] = inkR W m y (W.rows.getD y []) := by
      rw [← inkRs_at W m hy', List.getD_eq_getElem?_getD, List.getElem?_eq_getElem (by rw [inkRs_len]; exact hy')]
      rfl
    rw [e]
    obtain ⟨hl1, hodd⟩ := hW.at hy'
    have hw := hW.wide
    have hlen : (inkR W m y (W.rows.getD y [])).length = wideOf W := by rw [inkR_len]; exact hl1
    refine rowBad_ok (fun hn => ?_) (by omega) (by rw [inkW_wide hW]; exact hlen) ?_
    · rw [hn] at hlen; simp at hlen; omega
    · exact inkR_odd hodd
  unfold waferV
  rw [inkW_len, if_neg (by omega), if_neg (by omega), if_neg (by rw [hr]; simp)]
  exact hpass
/-- what stands at a place of the inked wafer -/
theorem inkW_die {W : Waf} (hW : WafOk W) (m : Nat) {p : Pt} (h : p ∈ plV W) : dieV (inkW W m) p.1 p.2 = if inkAt W m p = true then 42 else dieV W p.1 p.2 := by
  obtain ⟨x, y, rfl, hy, hx⟩ := plV_mem h
  have hr := (hW.at hy).1
  have e1 : dieV W (x : Int) (y : Int) = byteI ((W.rows.getD y []).getD x 0) := dieV_in hy (by omega)
  have e2 : dieV (inkW W m) (x : Int) (y : Int) = byteI (((inkW W m).rows.getD y []).getD x 0) := dieV_in (by rw [inkW_len]; exact hy) (by rw [inkW_wide hW]; omega)
  have e3 : (inkW W m).rows.getD y [] = inkR W m y (W.rows.getD y []) := inkRs_at W m hy
  have e0 : inkAt W m ((x : Int), (y : Int)) = inkP W m (byteI ((W.rows.getD y []).getD x 0)) ((x : Int), (y : Int)) := by unfold inkAt; simp only; rw [e1]
  rw [e0]
  simp only
  rw [e2, e3, inkR_at W m y hx, e1]
  unfold inkB
  split
  · rfl
  · rfl
end Go.Proofs.YtmgfcjblclanmaaDoor
/-
  What is counted on a wafer and on the same inked; their yields. No program stands in this text.
-/
namespace Go.Proofs.YtmgfcjblclanmaaDoor
theorem countP_add {F G K : Pt → Bool} : ∀ {l : List Pt}, (∀ p ∈ l, (F p).toNat + (G p).toNat = (K p).toNat) → l.countP F + l.countP G = l.countP K
  | [], _ => rfl
  | a :: l, h => by
    have h0 := h a (by simp)
    have ih := countP_add (F := F) (G := G) (K := K) (l := l) fun p hp => h p (by simp [hp])
    rw [List.countP_cons, List.countP_cons, List.countP_cons]
    cases hF : F a <;> cases hG : G a <;> cases hK : K a <;> rw [hF, hG, hK] at h0 <;> simp at h0 ⊢ <;> omega
theorem inkAt_bin {W : Waf} {m : Nat} {p : Pt} (h : inkAt W m p = true) : goodP W p = true ∧ isBinV (dieV W p.1 p.2) = true := by
  unfold inkAt inkP at h
  simp only [Bool.and_eq_true] at h
  refine ⟨h.1, ?_⟩
  have h1 := h.1
  unfold passedV at h1
  simp only [Bool.and_eq_true] at h1
  exact h1.1
theorem bin42 : isBinV 42 = false := by decide
theorem ink_all_cnt {W : Waf} (hW : WafOk W) (m : Nat) : cntN (allP (inkW W m)) (plV W) = cntN (allP W) (plV W) := by
  unfold cntN
  refine List.countP_congr fun p hp => ?_
  unfold allP testedV
  rw [inkW_die hW m hp]
  cases h : inkAt W m p
  · simp
  · have := (inkAt_bin h).2
    simp [this]
theorem ink_good_cnt {W : Waf} (hW : WafOk W) (m : Nat) : cntN (goodP (inkW W m)) (plV W) + cntN (inkAt W m) (plV W) = cntN (goodP W) (plV W) := by
  unfold cntN
  refine countP_add fun p hp => ?_
  have hd : goodP (inkW W m) p = passedV W.pass (dieV (inkW W m) p.1 p.2) := rfl
  rw [hd, inkW_die hW m hp]
  cases h : inkAt W m p
  · rw [if_neg (by simp)]; simp; rfl
  · rw [if_pos rfl, (inkAt_bin h).1]
    unfold passedV
    rw [bin42]
    rfl
theorem ink_42_cnt {W : Waf} (hW : WafOk W) (m : Nat) : histV W (plV W) (plV W).length 42 + cntN (inkAt W m) (plV W) = histV (inkW W m) (plV (inkW W m)) (plV (inkW W m)).length 42 := by
  rw [inkW_plV]
  unfold histV
  rw [cntTo_all, cntTo_all]
  unfold cntN
  refine countP_add fun p hp => ?_
  unfold dieIs
  rw [inkW_die hW m hp]
  cases h : inkAt W m p
  · simp
  · have h2 := (inkAt_bin h).2
    have : dieV W p.1 p.2 ≠ 42 := fun e => by rw [e, bin42] at h2; cases h2
    simp [this]
theorem yield_le {g g' a : Nat} (h : g' ≤ g) (ha : 0 < a) : (g' / Nat.gcd g' a) * (a / Nat.gcd g a) ≤ (g / Nat.gcd g a) * (a / Nat.gcd g' a) := by
  have hd : 0 < Nat.gcd g a := Nat.gcd_pos_of_pos_right g ha
  have he : 0 < Nat.gcd g' a := Nat.gcd_pos_of_pos_right g' ha
  have e1 := Nat.div_mul_cancel (Nat.gcd_dvd_left g a)
  have e2 := Nat.div_mul_cancel (Nat.gcd_dvd_right g a)
  have e3 := Nat.div_mul_cancel (Nat.gcd_dvd_left g' a)
  have e4 := Nat.div_mul_cancel (Nat.gcd_dvd_right g' a)
  generalize Nat.gcd g a = d at *
  generalize Nat.gcd g' a = e at *
  generalize g / d = q at *
  generalize a / d = r at *
  generalize g' / e = t at *
  generalize a / e = s at *
  have hpos : 0 < e * d := Nat.mul_pos he hd
  refine Nat.le_of_mul_le_mul_right (c := e * d) ?_ hpos
  have l1 : t * r * (e * d) = (t * e) * (r * d) := by ac_rfl
  have l2 : q * s * (e * d) = (q * d) * (s * e) := by ac_rfl
  rw [l1, l2, e1, e2, e3, e4]
  exact Nat.mul_le_mul_right _ h
/-- the yield of the inked wafer: of as many dies, and no greater -/
theorem ink_yield {W : Waf} (hW : WafOk W) (m : Nat) : (yldV (inkW W m)).2.2 = (yldV W).2.2 ∧ ((yldV W).2.2 = true → (yldV (inkW W m)).1 * (yldV W).2.1 ≤ (yldV W).1 * (yldV (inkW W m)).2.1) := by
  have h1 := ink_all_cnt hW m
  have h2 := ink_good_cnt hW m
  unfold yldV
  rw [inkW_plV, h1]
  generalize cntN (goodP (inkW W m)) (plV W) = g' at *
  generalize cntN (goodP W) (plV W) = g at *
  generalize cntN (allP W) (plV W) = a at *
  by_cases ha : a = 0
  · rw [if_pos ha, if_pos ha]; simp
  · rw [if_neg ha, if_neg ha]
    refine ⟨rfl, fun _ => ?_⟩
    simp only
    have := yield_le (g := g) (g' := g') (a := a) (by omega) (by omega)
    exact_mod_cast this
end Go.Proofs.YtmgfcjblclanmaaDoor
/-
  Points deleted out of a list, the function given by its contract, by the abstract machine.
-/
namespace Go.Proofs.YtmgfcjblclanmaaDoor
open Go.RowKit
set_option linter.unusedVariables false
set_option linter.unusedSimpArgs false
set_option maxRecDepth 100000
theorem ptMem {l : List Pt} {k : Nat} (h : k < l.length) : l.getD k p0 ∈ l := by
  rw [List.getD_eq_getElem?_getD, List.getElem?_eq_getElem h]; exact List.getElem_mem _
/-- where the first point is for which something is so -/
def idxP (F : Pt → Bool) (l : List Pt) : Int := match l.findIdx? F with
  | some i => (i : Int)
  | none => -1
theorem idxP_hit {F : Pt → Bool} : ∀ {l : List Pt} {k : Nat}, k < l.length → (∀ j, j < k → F (l.getD j p0) = false) → F (l.getD k p0) = true → l.findIdx? F = some k
  | [], k, hk, _, _ => by simp at hk
  | a :: l, 0, _, _, h => by
    have h' : F a = true := by simpa using h
    simp [List.findIdx?_cons, h']
  | a :: l, k + 1, hk, hall, h => by
    have h0 : F a = false := by simpa using hall 0 (by omega)
    have := idxP_hit (F := F) (l := l) (k := k) (by simpa using hk) (fun j hj => by simpa using hall (j + 1) (by omega)) (by simpa using h)
    simp [List.findIdx?_cons, h0, this]
theorem idxP_none {F : Pt → Bool} : ∀ {l : List Pt}, (∀ j, j < l.length → F (l.getD j p0) = false) → l.findIdx? F = none
  | [], _ => rfl
  | a :: l, hall => by
    have h0 : F a = false := by simpa using hall 0 (by simp)
    have := idxP_none (F := F) (l := l) (fun j hj => by simpa using hall (j + 1) (by simpa using hj))
    simp [List.findIdx?_cons, h0, this]
/-- the points that stay -/
def keepP (F : Pt → Bool) (l : List Pt) : List Pt := l.filter fun p => !F p
theorem keepP_len (F : Pt → Bool) (l : List Pt) : (keepP F l).length ≤ l.length := List.length_filter_le _ _
theorem keepP_succ {F : Pt → Bool} {l : List Pt} {k : Nat} (h : k < l.length) : keepP F (l.take (k + 1)) = keepP F (l.take k) ++ (if F (l.getD k p0) = true then [] else [l.getD k p0]) := by
  unfold keepP
  rw [List.take_add_one, List.getElem?_eq_getElem h, List.filter_append]
  congr 1
  have e : l.getD k p0 = l[k] := by rw [List.getD_eq_getElem?_getD, List.getElem?_eq_getElem h]; rfl
  rw [e]
  cases hf : F l[k] <;> simp [hf]
theorem keepP_all {F : Pt → Bool} {l : List Pt} {k : Nat} (hk : k ≤ l.length) (h : ∀ j, j < k → F (l.getD j p0) = false) : keepP F (l.take k) = l.take k := by
  unfold keepP
  rw [List.filter_eq_self]
  intro a ha
  obtain ⟨j, hj, rfl⟩ := List.getElem_of_mem ha
  have hj' : j < k := by rw [List.length_take] at hj; omega
  have := h j hj'
  rw [List.getD_eq_getElem?_getD, List.getElem?_eq_getElem (by omega)] at this
  simp only [List.getElem_take]
  simpa using this
/-- the array while points are deleted: those that stay, and what stood there -/
def partP (F : Pt → Bool) (l : List Pt) (k : Nat) : List Pt := keepP F (l.take k) ++ l.drop (keepP F (l.take k)).length
theorem partP_len {F : Pt → Bool} {l : List Pt} {k : Nat} (hk : k ≤ l.length) : (partP F l k).length = l.length := by
  have := keepP_len F (l.take k)
  rw [List.length_take] at this
  unfold partP; rw [List.length_append, List.length_drop]; omega
theorem partP_at {F : Pt → Bool} {l : List Pt} {k : Nat} (hk : k < l.length) : (partP F l k).getD k p0 = l.getD k p0 := by
  have := keepP_len F (l.take k)
  rw [List.length_take] at this
  unfold partP
  rw [List.getD_eq_getElem?_getD, List.getElem?_append_right (by omega), List.getElem?_drop, List.getD_eq_getElem?_getD]
  congr 2
  omega
theorem partP_set {F : Pt → Bool} {l : List Pt} {k : Nat} (hk : k < l.length) (h : F (l.getD k p0) = false) : (partP F l k).set (keepP F (l.take k)).length (l.getD k p0) = partP F l (k + 1) ∧ (keepP F (l.take (k + 1))).length = (keepP F (l.take k)).length + 1 := by
  have := keepP_len F (l.take k)
  rw [List.length_take] at this
  have e := keepP_succ (F := F) hk
  rw [if_neg (by rw [h]; simp)] at e
  refine ⟨?_, by rw [e]; simp⟩
  unfold partP
  rw [e, List.set_append_right _ _ (Nat.le_refl _), Nat.sub_self, List.length_append, List.append_assoc]
  congr 1
  rw [List.drop_eq_getElem_cons (by omega : (keepP F (l.take k)).length < l.length)]
  rfl
theorem partP_skip {F : Pt → Bool} {l : List Pt} {k : Nat} (hk : k < l.length) (h : F (l.getD k p0) = true) : partP F l (k + 1) = partP F l k ∧ keepP F (l.take (k + 1)) = keepP F (l.take k) := by
  have e := keepP_succ (F := F) hk
  rw [if_pos h, List.append_nil] at e
  exact ⟨by unfold partP; rw [e], e⟩
/-- .. and at the end -/
def doneP (F : Pt → Bool) (l : List Pt) : List Pt := keepP F l ++ List.replicate (l.length - (keepP F l).length) p0
theorem doneP_len (F : Pt → Bool) (l : List Pt) : (doneP F l).length = l.length := by
  have := keepP_len F l
  unfold doneP; rw [List.length_append, List.length_replicate]; omega
theorem getD_setP (q : List Pt) (x : Pt) {i : Nat} (hi : i < q.length) (f : Pt → Int) {v : Int} (hv : v = f x) : (fun j => if j = i then v else f (q.getD j p0)) = fun j => f ((q.set i x).getD j p0) := by
  subst hv
  funext j
  simp only [List.getD_eq_getElem?_getD, List.getElem?_set]
  by_cases h : j = i
  · subst h; simp [hi]
  · rw [if_neg h, if_neg (fun e => h e.symm)]
theorem doneP_at {F : Pt → Bool} {l : List Pt} (g : Pt → Int) (h0 : g p0 = 0) : ∀ j, j < l.length → (if (keepP F l).length ≤ j ∧ j < (keepP F l).length + (l.length - (keepP F l).length) then (0 : Int) else g ((partP F l l.length).getD j p0)) = g ((doneP F l).getD j p0) := fun j hj => by
  have hk := keepP_len F l
  unfold partP doneP
  rw [List.take_length]
  simp only [List.getD_eq_getElem?_getD, List.getElem?_append]
  by_cases h : j < (keepP F l).length
  · rw [if_neg (by omega), if_pos h, if_pos h]
  · rw [if_pos ⟨by omega, by omega⟩, if_neg h, List.getElem?_replicate, if_pos (by omega)]
    simp [h0]
end Go.Proofs.YtmgfcjblclanmaaDoor
/-
  Points deleted out of a list, the function given by its contract over one block, by the abstract machine. Printed by gen8.py.
-/
namespace Go.Proofs.YtmgfcjblclanmaaDoor
open Go.RowKit
set_option linter.unusedVariables false
set_option linter.unusedSimpArgs false
set_option maxRecDepth 100000
set_option maxHeartbeats 4000000 in
theorem indexP1_c (f id ia : Nat) (nla : Bool) (A : Waf) (F : Pt → Bool) (l : List Pt) (nid : Nat) (hid : id < nid) (hia : ia < nid) (n1 : id ≠ ia) (hl : l.length ≤ 1000000)
    (hf : ∀ p ∈ l, ∀ nid', ia < nid' → ACall Tryd.prog f [.agg [.int .i64 p.1, .int .i64 p.2], .ptr ia 0] [(ia, boxW nla A)] nid' (.bool (F p)) []) :
    ACall Tryd.prog 95 [.sl id 0 l.length, .fn f [.ptr ia 0]] [(id, arrPl l), (ia, boxW nla A)] nid (.int .i64 (idxP F l)) [] := by
  obtain ⟨a1, a2, a3, a4, a5, a6, a7, a8, a9⟩ := id_all hid
  obtain ⟨b1, b2, b3, b4, b5, b6, b7, b8, b9⟩ := id_all hia
  have g1 : (id == ia) = false := by simpa using n1
  have g2 : (ia == id) = false := by simpa using fun h => n1 h.symm
  have m1 : ¬ ia = id := fun h => n1 h.symm
  refine acall_run c95 (by simp [a95]) ?_
  unfold arrPl boxW
  simp -dsimp only [a95, aqT, ROp, OX, ↓seqK, ↓blkK, ↓loopK, step, stepBin, res, stepIdx, mix, PV.cells, argSlots, Nat.reduceBEq, Nat.reduceBeqDiff, Nat.add_assoc nid, Nat.reduceAdd, reduceCtorEq, ↓reduceIte, Nat.reduceLeDiff, colPV, freeOf, indep, offO, neqO, disj, namesX, axSlot, opXs, rdXs, idsOf, idsOfs, lowH, lowAll, keys, Nat.reduceBneDiff, Option.toList, ← Int.ofNat_tmod, ← Int.ofNat_tdiv, optInt, fillP, repl, chunk, mkCols, mkCol, colInts, colBools, colStrs, colLits, colsApp, Col.app, tailOf, splice, colsPut, Col.put, mmFold, eqK, Nat.reduceLT, colsPaste, Col.paste, mNew, mkKey, keyIn, mGet, mPut, Int.cast_ofNat_Int, Int.reduceBEq, Int.reduceBNe, Int.reduceLT, Int.reduceLE, Int.reduceAdd, Int.reduceSub, Int.reduceMul, Int.reduceToNat, Int.reduceNeg, Int.reduceTMod, Int.reduceEq, not_false_eq_true, Int.reducePow, Int.reduceFDiv, Nat.reducePow, Nat.reduceSub, Nat.reduceMul, Nat.min_eq_left, Nat.reduceEqDiff, BEq.rfl, Int.tdiv_one, LN_succ, a1, a2, a3, a4, a5, a6, a7, a8, a9, b1, b2, b3, b4, b5, b6, b7, b8, b9, g1, g2, n1, m1]
  refine LP.mkP (fun k : Nat => k ≤ l.length ∧ ∀ j, j < k → F (l.getD j p0) = false) (fun k : Nat => ⟨[(8, .int .i64 k), (7, .int .i64 l.length), (0, .sl id 0 l.length), (1, .fn f [.ptr ia 0])], [(id, arrPl l), (ia, boxW nla A)], nid + 100, nid⟩) (fun k => l.length + 1 - k) 0 ⟨by omega, fun j hj => by omega⟩ (Cov.go [] [] ?_) (fun k hk => ?_)
  · simp [retPV, over, keys, List.map_nil, List.map_cons, List.contains_cons, List.contains_nil, Bool.or_false, Bool.or_true, Bool.true_or, Bool.false_or, beq_self_eq_true, cond_true, cond_false, HeapCov, orNil, nilSz, onBlk, srcOf, getH_hit, getH_miss, getH.eq_1, getS_hit, getS_miss, getS.eq_1, BlkCov, PVCovs, PVCov, ColsEq, ColEq.refl, liveIds, SlotsCov, List.all_nil, List.all_cons, List.any_nil, List.any_cons, List.nil_append, List.cons_append, inRange, apart, nilBlk, idS1, idS2, readAll, readRes, onAll, step, res, AX.val, List.drop_zero, List.drop_succ_cons, List.take_succ_cons, List.take_zero, a1, a2, a3, a4, a5, a6, a7, a8, a9, b1, b2, b3, b4, b5, b6, b7, b8, b9, g1, g2, n1, m1, arrPl, boxW]
  obtain ⟨hk, hall⟩ := hk
  unfold arrPl boxW
  simp -dsimp only [aqT, ROp, OX, ↓seqK, ↓blkK, ↓loopK, step, stepBin, res, stepIdx, mix, PV.cells, argSlots, Nat.reduceBEq, Nat.reduceBeqDiff, Nat.add_assoc nid, Nat.reduceAdd, reduceCtorEq, ↓reduceIte, Nat.reduceLeDiff, colPV, freeOf, indep, offO, neqO, disj, namesX, axSlot, opXs, rdXs, idsOf, idsOfs, lowH, lowAll, keys, Nat.reduceBneDiff, Option.toList, ← Int.ofNat_tmod, ← Int.ofNat_tdiv, optInt, fillP, repl, chunk, mkCols, mkCol, colInts, colBools, colStrs, colLits, colsApp, Col.app, tailOf, splice, colsPut, Col.put, mmFold, eqK, Nat.reduceLT, colsPaste, Col.paste, mNew, mkKey, keyIn, mGet, mPut, Int.cast_ofNat_Int, Int.reduceBEq, Int.reduceBNe, Int.reduceLT, Int.reduceLE, Int.reduceAdd, Int.reduceSub, Int.reduceMul, Int.reduceToNat, Int.reduceNeg, Int.reduceTMod, Int.reduceEq, not_false_eq_true, Int.reducePow, Int.reduceFDiv, Nat.reducePow, Nat.reduceSub, Nat.reduceMul, Nat.min_eq_left, Nat.reduceEqDiff, BEq.rfl, Int.tdiv_one, LN_succ, a1, a2, a3, a4, a5, a6, a7, a8, a9, b1, b2, b3, b4, b5, b6, b7, b8, b9, g1, g2, n1, m1]
  refine S2.dec (fun h1 => ?_) (fun h1 => ?_) <;> simp -dsimp only [aqT, ROp, OX, ↓seqK, ↓blkK, ↓loopK, step, stepBin, res, stepIdx, mix, PV.cells, argSlots, Nat.reduceBEq, Nat.reduceBeqDiff, Nat.add_assoc nid, Nat.reduceAdd, reduceCtorEq, ↓reduceIte, Nat.reduceLeDiff, colPV, freeOf, indep, offO, neqO, disj, namesX, axSlot, opXs, rdXs, idsOf, idsOfs, lowH, lowAll, keys, Nat.reduceBneDiff, Option.toList, ← Int.ofNat_tmod, ← Int.ofNat_tdiv, optInt, fillP, repl, chunk, mkCols, mkCol, colInts, colBools, colStrs, colLits, colsApp, Col.app, tailOf, splice, colsPut, Col.put, mmFold, eqK, Nat.reduceLT, colsPaste, Col.paste, mNew, mkKey, keyIn, mGet, mPut, Int.cast_ofNat_Int, Int.reduceBEq, Int.reduceBNe, Int.reduceLT, Int.reduceLE, Int.reduceAdd, Int.reduceSub, Int.reduceMul, Int.reduceToNat, Int.reduceNeg, Int.reduceTMod, Int.reduceEq, not_false_eq_true, Int.reducePow, Int.reduceFDiv, Nat.reducePow, Nat.reduceSub, Nat.reduceMul, Nat.min_eq_left, Nat.reduceEqDiff, BEq.rfl, Int.tdiv_one, LN_succ, a1, a2, a3, a4, a5, a6, a7, a8, a9, b1, b2, b3, b4, b5, b6, b7, b8, b9, g1, g2, n1, m1]
  · have hkl : k < l.length := by omega
    refine ⟨by omega, CallO.on (hf (l.getD k p0) (ptMem hkl) _ (by omega)) (subH_get (by simp only [aqT, ROp, OX, ↓seqK, ↓blkK, ↓loopK, step, stepBin, res, stepIdx, mix, PV.cells, argSlots, Nat.reduceBEq, Nat.reduceBeqDiff, Nat.add_assoc nid, Nat.reduceAdd, reduceCtorEq, ↓reduceIte, Nat.reduceLeDiff, colPV, freeOf, indep, offO, neqO, disj, namesX, axSlot, opXs, rdXs, idsOf, idsOfs, lowH, lowAll, keys, Nat.reduceBneDiff, Option.toList, ← Int.ofNat_tmod, ← Int.ofNat_tdiv, optInt, fillP, repl, chunk, mkCols, mkCol, colInts, colBools, colStrs, colLits, colsApp, Col.app, tailOf, splice, colsPut, Col.put, mmFold, eqK, Nat.reduceLT, colsPaste, Col.paste, mNew, mkKey, keyIn, mGet, mPut, Int.cast_ofNat_Int, Int.reduceBEq, Int.reduceBNe, Int.reduceLT, Int.reduceLE, Int.reduceAdd, Int.reduceSub, Int.reduceMul, Int.reduceToNat, Int.reduceNeg, Int.reduceTMod, Int.reduceEq, not_false_eq_true, Int.reducePow, Int.reduceFDiv, Nat.reducePow, Nat.reduceSub, Nat.reduceMul, Nat.min_eq_left, Nat.reduceEqDiff, BEq.rfl, Int.tdiv_one, LN_succ, a1, a2, a3, a4, a5, a6, a7, a8, a9, b1, b2, b3, b4, b5, b6, b7, b8, b9, g1, g2, n1, m1, boxW])) ?_⟩
    simp -dsimp only [aqT, ROp, OX, ↓seqK, ↓blkK, ↓loopK, step, stepBin, res, stepIdx, mix, PV.cells, argSlots, Nat.reduceBEq, Nat.reduceBeqDiff, Nat.add_assoc nid, Nat.reduceAdd, reduceCtorEq, ↓reduceIte, Nat.reduceLeDiff, colPV, freeOf, indep, offO, neqO, disj, namesX, axSlot, opXs, rdXs, idsOf, idsOfs, lowH, lowAll, keys, Nat.reduceBneDiff, Option.toList, ← Int.ofNat_tmod, ← Int.ofNat_tdiv, optInt, fillP, repl, chunk, mkCols, mkCol, colInts, colBools, colStrs, colLits, colsApp, Col.app, tailOf, splice, colsPut, Col.put, mmFold, eqK, Nat.reduceLT, colsPaste, Col.paste, mNew, mkKey, keyIn, mGet, mPut, Int.cast_ofNat_Int, Int.reduceBEq, Int.reduceBNe, Int.reduceLT, Int.reduceLE, Int.reduceAdd, Int.reduceSub, Int.reduceMul, Int.reduceToNat, Int.reduceNeg, Int.reduceTMod, Int.reduceEq, not_false_eq_true, Int.reducePow, Int.reduceFDiv, Nat.reducePow, Nat.reduceSub, Nat.reduceMul, Nat.min_eq_left, Nat.reduceEqDiff, BEq.rfl, Int.tdiv_one, LN_succ, a1, a2, a3, a4, a5, a6, a7, a8, a9, b1, b2, b3, b4, b5, b6, b7, b8, b9, g1, g2, n1, m1]
    refine S2.intro (fun h2 => ?_) (fun h2 => ?_) <;> simp -dsimp only [aqT, ROp, OX, ↓seqK, ↓blkK, ↓loopK, step, stepBin, res, stepIdx, mix, PV.cells, argSlots, Nat.reduceBEq, Nat.reduceBeqDiff, Nat.add_assoc nid, Nat.reduceAdd, reduceCtorEq, ↓reduceIte, Nat.reduceLeDiff, colPV, freeOf, indep, offO, neqO, disj, namesX, axSlot, opXs, rdXs, idsOf, idsOfs, lowH, lowAll, keys, Nat.reduceBneDiff, Option.toList, ← Int.ofNat_tmod, ← Int.ofNat_tdiv, optInt, fillP, repl, chunk, mkCols, mkCol, colInts, colBools, colStrs, colLits, colsApp, Col.app, tailOf, splice, colsPut, Col.put, mmFold, eqK, Nat.reduceLT, colsPaste, Col.paste, mNew, mkKey, keyIn, mGet, mPut, Int.cast_ofNat_Int, Int.reduceBEq, Int.reduceBNe, Int.reduceLT, Int.reduceLE, Int.reduceAdd, Int.reduceSub, Int.reduceMul, Int.reduceToNat, Int.reduceNeg, Int.reduceTMod, Int.reduceEq, not_false_eq_true, Int.reducePow, Int.reduceFDiv, Nat.reducePow, Nat.reduceSub, Nat.reduceMul, Nat.min_eq_left, Nat.reduceEqDiff, BEq.rfl, Int.tdiv_one, LN_succ, a1, a2, a3, a4, a5, a6, a7, a8, a9, b1, b2, b3, b4, b5, b6, b7, b8, b9, g1, g2, n1, m1]
    · have e : idxP F l = (k : Int) := by unfold idxP; rw [idxP_hit hkl hall h2]
      rw [e]
      refine RetOK.go [] [] (.inl rfl) ?_
      simp [a95, retPV, over, keys, List.map_nil, List.map_cons, List.contains_cons, List.contains_nil, Bool.or_false, Bool.or_true, Bool.true_or, Bool.false_or, beq_self_eq_true, cond_true, cond_false, HeapCov, orNil, nilSz, onBlk, srcOf, getH_hit, getH_miss, getH.eq_1, getS_hit, getS_miss, getS.eq_1, BlkCov, PVCovs, PVCov, ColsEq, ColEq.refl, liveIds, SlotsCov, List.all_nil, List.all_cons, List.any_nil, List.any_cons, List.nil_append, List.cons_append, inRange, apart, nilBlk, idS1, idS2, readAll, readRes, onAll, step, res, AX.val, List.drop_zero, List.drop_succ_cons, List.take_succ_cons, List.take_zero, a1, a2, a3, a4, a5, a6, a7, a8, a9, b1, b2, b3, b4, b5, b6, b7, b8, b9, g1, g2, n1, m1, arrPl, boxW]
    · refine ⟨by unfold inI64; omega, k + 1, ⟨⟨by omega, fun j hj => ?_⟩, by omega⟩, Cov.go [] [] ?_⟩
      · rcases (by omega : j < k ∨ j = k) with hj | hj
        · exact hall j hj
        · rw [hj]; exact h2
      · simp [retPV, over, keys, List.map_nil, List.map_cons, List.contains_cons, List.contains_nil, Bool.or_false, Bool.or_true, Bool.true_or, Bool.false_or, beq_self_eq_true, cond_true, cond_false, HeapCov, orNil, nilSz, onBlk, srcOf, getH_hit, getH_miss, getH.eq_1, getS_hit, getS_miss, getS.eq_1, BlkCov, PVCovs, PVCov, ColsEq, ColEq.refl, liveIds, SlotsCov, List.all_nil, List.all_cons, List.any_nil, List.any_cons, List.nil_append, List.cons_append, inRange, apart, nilBlk, idS1, idS2, readAll, readRes, onAll, step, res, AX.val, List.drop_zero, List.drop_succ_cons, List.take_succ_cons, List.take_zero, a1, a2, a3, a4, a5, a6, a7, a8, a9, b1, b2, b3, b4, b5, b6, b7, b8, b9, g1, g2, n1, m1, arrPl, boxW]
  · have hkn : k = l.length := by omega
    subst hkn
    have e : idxP F l = -1 := by unfold idxP; rw [idxP_none hall]
    rw [e]
    refine RetOK.go [] [] (.inl rfl) ?_
    simp [a95, retPV, over, keys, List.map_nil, List.map_cons, List.contains_cons, List.contains_nil, Bool.or_false, Bool.or_true, Bool.true_or, Bool.false_or, beq_self_eq_true, cond_true, cond_false, HeapCov, orNil, nilSz, onBlk, srcOf, getH_hit, getH_miss, getH.eq_1, getS_hit, getS_miss, getS.eq_1, BlkCov, PVCovs, PVCov, ColsEq, ColEq.refl, liveIds, SlotsCov, List.all_nil, List.all_cons, List.any_nil, List.any_cons, List.nil_append, List.cons_append, inRange, apart, nilBlk, idS1, idS2, readAll, readRes, onAll, step, res, AX.val, List.drop_zero, List.drop_succ_cons, List.take_succ_cons, List.take_zero, a1, a2, a3, a4, a5, a6, a7, a8, a9, b1, b2, b3, b4, b5, b6, b7, b8, b9, g1, g2, n1, m1, arrPl, boxW]
set_option maxHeartbeats 8000000 in
theorem deleteP1_c (f id ia : Nat) (nla : Bool) (A : Waf) (F : Pt → Bool) (l : List Pt) (nid : Nat) (hid : id < nid) (hia : ia < nid) (n1 : id ≠ ia) (hl : l.length ≤ 1000000)
    (hf : ∀ p ∈ l, ∀ nid', ia < nid' → ACall Tryd.prog f [.agg [.int .i64 p.1, .int .i64 p.2], .ptr ia 0] [(ia, boxW nla A)] nid' (.bool (F p)) []) :
    ACall Tryd.prog 51 [.sl id 0 l.length, .fn f [.ptr ia 0]] [(id, arrPl l), (ia, boxW nla A)] nid (.sl id 0 (keepP F l).length) [(id, arrPl (doneP F l))] := by
  obtain ⟨a1, a2, a3, a4, a5, a6, a7, a8, a9⟩ := id_all hid
  obtain ⟨b1, b2, b3, b4, b5, b6, b7, b8, b9⟩ := id_all hia
  have g1 : (id == ia) = false := by simpa using n1
  have g2 : (ia == id) = false := by simpa using fun h => n1 h.symm
  have m1 : ¬ ia = id := fun h => n1 h.symm
  refine acall_sr c51 (by simp [a51]) ?_
  unfold a51
  refine SR.seq ?_
  simp -dsimp only [aqT, ROp, OX, ↓seqK, ↓blkK, ↓loopK, step, stepBin, res, stepIdx, mix, PV.cells, argSlots, Nat.reduceBEq, Nat.reduceBeqDiff, Nat.add_assoc nid, Nat.reduceAdd, reduceCtorEq, ↓reduceIte, Nat.reduceLeDiff, colPV, freeOf, indep, offO, neqO, disj, namesX, axSlot, opXs, rdXs, idsOf, idsOfs, lowH, lowAll, keys, Nat.reduceBneDiff, Option.toList, ← Int.ofNat_tmod, ← Int.ofNat_tdiv, optInt, fillP, repl, chunk, mkCols, mkCol, colInts, colBools, colStrs, colLits, colsApp, Col.app, tailOf, splice, colsPut, Col.put, mmFold, eqK, Nat.reduceLT, colsPaste, Col.paste, mNew, mkKey, keyIn, mGet, mPut, Int.cast_ofNat_Int, Int.reduceBEq, Int.reduceBNe, Int.reduceLT, Int.reduceLE, Int.reduceAdd, Int.reduceSub, Int.reduceMul, Int.reduceToNat, Int.reduceNeg, Int.reduceTMod, Int.reduceEq, not_false_eq_true, Int.reducePow, Int.reduceFDiv, Nat.reducePow, Nat.reduceSub, Nat.reduceMul, Nat.min_eq_left, Nat.reduceEqDiff, BEq.rfl, Int.tdiv_one, LN_succ, a1, a2, a3, a4, a5, a6, a7, a8, a9, b1, b2, b3, b4, b5, b6, b7, b8, b9, g1, g2, n1, m1]
  refine SR.seqTo ⟨[(5, .int .i64 (idxP F l)), (0, .sl id 0 l.length), (1, .fn f [.ptr ia 0])], [(id, arrPl l), (ia, boxW nla A)], nid + 100, nid⟩ ?_ ?_
  · simp -dsimp only [aqT, ROp, OX, ↓seqK, ↓blkK, ↓loopK, step, stepBin, res, stepIdx, mix, PV.cells, argSlots, Nat.reduceBEq, Nat.reduceBeqDiff, Nat.add_assoc nid, Nat.reduceAdd, reduceCtorEq, ↓reduceIte, Nat.reduceLeDiff, colPV, freeOf, indep, offO, neqO, disj, namesX, axSlot, opXs, rdXs, idsOf, idsOfs, lowH, lowAll, keys, Nat.reduceBneDiff, Option.toList, ← Int.ofNat_tmod, ← Int.ofNat_tdiv, optInt, fillP, repl, chunk, mkCols, mkCol, colInts, colBools, colStrs, colLits, colsApp, Col.app, tailOf, splice, colsPut, Col.put, mmFold, eqK, Nat.reduceLT, colsPaste, Col.paste, mNew, mkKey, keyIn, mGet, mPut, Int.cast_ofNat_Int, Int.reduceBEq, Int.reduceBNe, Int.reduceLT, Int.reduceLE, Int.reduceAdd, Int.reduceSub, Int.reduceMul, Int.reduceToNat, Int.reduceNeg, Int.reduceTMod, Int.reduceEq, not_false_eq_true, Int.reducePow, Int.reduceFDiv, Nat.reducePow, Nat.reduceSub, Nat.reduceMul, Nat.min_eq_left, Nat.reduceEqDiff, BEq.rfl, Int.tdiv_one, LN_succ, a1, a2, a3, a4, a5, a6, a7, a8, a9, b1, b2, b3, b4, b5, b6, b7, b8, b9, g1, g2, n1, m1]
    refine CallO.on (indexP1_c f id ia nla A F l _ (by omega) (by omega) n1 hl hf) (fun _ _ h => h) ?_
    simp -dsimp only [aqT, ROp, OX, ↓seqK, ↓blkK, ↓loopK, step, stepBin, res, stepIdx, mix, PV.cells, argSlots, Nat.reduceBEq, Nat.reduceBeqDiff, Nat.add_assoc nid, Nat.reduceAdd, reduceCtorEq, ↓reduceIte, Nat.reduceLeDiff, colPV, freeOf, indep, offO, neqO, disj, namesX, axSlot, opXs, rdXs, idsOf, idsOfs, lowH, lowAll, keys, Nat.reduceBneDiff, Option.toList, ← Int.ofNat_tmod, ← Int.ofNat_tdiv, optInt, fillP, repl, chunk, mkCols, mkCol, colInts, colBools, colStrs, colLits, colsApp, Col.app, tailOf, splice, colsPut, Col.put, mmFold, eqK, Nat.reduceLT, colsPaste, Col.paste, mNew, mkKey, keyIn, mGet, mPut, Int.cast_ofNat_Int, Int.reduceBEq, Int.reduceBNe, Int.reduceLT, Int.reduceLE, Int.reduceAdd, Int.reduceSub, Int.reduceMul, Int.reduceToNat, Int.reduceNeg, Int.reduceTMod, Int.reduceEq, not_false_eq_true, Int.reducePow, Int.reduceFDiv, Nat.reducePow, Nat.reduceSub, Nat.reduceMul, Nat.min_eq_left, Nat.reduceEqDiff, BEq.rfl, Int.tdiv_one, LN_succ, a1, a2, a3, a4, a5, a6, a7, a8, a9, b1, b2, b3, b4, b5, b6, b7, b8, b9, g1, g2, n1, m1]
    refine Cov.go [] [] ?_
    simp [retPV, over, keys, List.map_nil, List.map_cons, List.contains_cons, List.contains_nil, Bool.or_false, Bool.or_true, Bool.true_or, Bool.false_or, beq_self_eq_true, cond_true, cond_false, HeapCov, orNil, nilSz, onBlk, srcOf, getH_hit, getH_miss, getH.eq_1, getS_hit, getS_miss, getS.eq_1, BlkCov, PVCovs, PVCov, ColsEq, ColEq.refl, liveIds, SlotsCov, List.all_nil, List.all_cons, List.any_nil, List.any_cons, List.nil_append, List.cons_append, inRange, apart, nilBlk, idS1, idS2, readAll, readRes, onAll, step, res, AX.val, List.drop_zero, List.drop_succ_cons, List.take_succ_cons, List.take_zero, a1, a2, a3, a4, a5, a6, a7, a8, a9, b1, b2, b3, b4, b5, b6, b7, b8, b9, g1, g2, n1, m1, arrPl, boxW]
  by_cases hnone : ∀ j, j < l.length → F (l.getD j p0) = false
  · have e : idxP F l = -1 := by unfold idxP; rw [idxP_none hnone]
    have hk : keepP F l = l := by
      have := keepP_all (F := F) (l := l) (Nat.le_refl _) hnone
      rwa [List.take_length] at this
    have hd : doneP F l = l := by unfold doneP; rw [hk]; simp
    rw [e, hk, hd]
    refine SR.run (t := .mk) ?_
    unfold arrPl boxW
    simp -dsimp only [aqT, ROp, OX, ↓seqK, ↓blkK, ↓loopK, step, stepBin, res, stepIdx, mix, PV.cells, argSlots, Nat.reduceBEq, Nat.reduceBeqDiff, Nat.add_assoc nid, Nat.reduceAdd, reduceCtorEq, ↓reduceIte, Nat.reduceLeDiff, colPV, freeOf, indep, offO, neqO, disj, namesX, axSlot, opXs, rdXs, idsOf, idsOfs, lowH, lowAll, keys, Nat.reduceBneDiff, Option.toList, ← Int.ofNat_tmod, ← Int.ofNat_tdiv, optInt, fillP, repl, chunk, mkCols, mkCol, colInts, colBools, colStrs, colLits, colsApp, Col.app, tailOf, splice, colsPut, Col.put, mmFold, eqK, Nat.reduceLT, colsPaste, Col.paste, mNew, mkKey, keyIn, mGet, mPut, Int.cast_ofNat_Int, Int.reduceBEq, Int.reduceBNe, Int.reduceLT, Int.reduceLE, Int.reduceAdd, Int.reduceSub, Int.reduceMul, Int.reduceToNat, Int.reduceNeg, Int.reduceTMod, Int.reduceEq, not_false_eq_true, Int.reducePow, Int.reduceFDiv, Nat.reducePow, Nat.reduceSub, Nat.reduceMul, Nat.min_eq_left, Nat.reduceEqDiff, BEq.rfl, Int.tdiv_one, LN_succ, a1, a2, a3, a4, a5, a6, a7, a8, a9, b1, b2, b3, b4, b5, b6, b7, b8, b9, g1, g2, n1, m1]
    refine RetOK.go [] [] (.inl rfl) ?_
    simp [a51, retPV, over, keys, List.map_nil, List.map_cons, List.contains_cons, List.contains_nil, Bool.or_false, Bool.or_true, Bool.true_or, Bool.false_or, beq_self_eq_true, cond_true, cond_false, HeapCov, orNil, nilSz, onBlk, srcOf, getH_hit, getH_miss, getH.eq_1, getS_hit, getS_miss, getS.eq_1, BlkCov, PVCovs, PVCov, ColsEq, ColEq.refl, liveIds, SlotsCov, List.all_nil, List.all_cons, List.any_nil, List.any_cons, List.nil_append, List.cons_append, inRange, apart, nilBlk, idS1, idS2, readAll, readRes, onAll, step, res, AX.val, List.drop_zero, List.drop_succ_cons, List.take_succ_cons, List.take_zero, a1, a2, a3, a4, a5, a6, a7, a8, a9, b1, b2, b3, b4, b5, b6, b7, b8, b9, g1, g2, n1, m1, arrPl, boxW]
  obtain ⟨i0, hi0, hi1, hi2⟩ : ∃ i, i < l.length ∧ F (l.getD i p0) = true ∧ ∀ j, j < i → F (l.getD j p0) = false := by
    cases hfi : l.findIdx? F with
    | none =>
      exfalso
      refine hnone fun j hj => ?_
      have := List.findIdx?_eq_none_iff.1 hfi (l.getD j p0) (ptMem hj)
      simpa using this
    | some i =>
      obtain ⟨h1, h2, h3⟩ := List.findIdx?_eq_some_iff_getElem.1 hfi
      refine ⟨i, h1, ?_, fun j hj => ?_⟩
      · rw [List.getD_eq_getElem?_getD, List.getElem?_eq_getElem h1]; exact h2
      · rw [List.getD_eq_getElem?_getD, List.getElem?_eq_getElem (by omega)]; simpa using h3 j hj
  have e : idxP F l = (i0 : Int) := by unfold idxP; rw [idxP_hit hi0 hi2 hi1]
  rw [e]
  have hne1 : ((i0 : Int) == -1) = false := by rw [beq_eq_false_iff_ne]; omega
  have hk0 : keepP F (l.take (i0 + 1)) = l.take i0 := by rw [(partP_skip hi0 hi1).2, keepP_all (by omega) hi2]
  have hkl0 : (keepP F (l.take (i0 + 1))).length = i0 := by rw [hk0, List.length_take]; omega
  have hp0 : partP F l (i0 + 1) = l := by unfold partP; rw [hkl0, hk0, List.take_append_drop]
  refine SR.seq ?_
  unfold arrPl boxW
  simp -dsimp only [aqT, ROp, OX, ↓seqK, ↓blkK, ↓loopK, step, stepBin, res, stepIdx, mix, PV.cells, argSlots, Nat.reduceBEq, Nat.reduceBeqDiff, Nat.add_assoc nid, Nat.reduceAdd, reduceCtorEq, ↓reduceIte, Nat.reduceLeDiff, colPV, freeOf, indep, offO, neqO, disj, namesX, axSlot, opXs, rdXs, idsOf, idsOfs, lowH, lowAll, keys, Nat.reduceBneDiff, Option.toList, ← Int.ofNat_tmod, ← Int.ofNat_tdiv, optInt, fillP, repl, chunk, mkCols, mkCol, colInts, colBools, colStrs, colLits, colsApp, Col.app, tailOf, splice, colsPut, Col.put, mmFold, eqK, Nat.reduceLT, colsPaste, Col.paste, mNew, mkKey, keyIn, mGet, mPut, Int.cast_ofNat_Int, Int.reduceBEq, Int.reduceBNe, Int.reduceLT, Int.reduceLE, Int.reduceAdd, Int.reduceSub, Int.reduceMul, Int.reduceToNat, Int.reduceNeg, Int.reduceTMod, Int.reduceEq, not_false_eq_true, Int.reducePow, Int.reduceFDiv, Nat.reducePow, Nat.reduceSub, Nat.reduceMul, Nat.min_eq_left, Nat.reduceEqDiff, BEq.rfl, Int.tdiv_one, LN_succ, a1, a2, a3, a4, a5, a6, a7, a8, a9, b1, b2, b3, b4, b5, b6, b7, b8, b9, g1, g2, n1, m1, hne1]
  refine SR.seqTo ⟨[(5, .int .i64 ((keepP F l).length : Nat)), (0, .sl id 0 l.length)], [(id, arrPl (partP F l l.length)), (ia, boxW nla A)], nid + 1000, nid⟩ ?_ ?_
  · simp -dsimp only [aqT, ROp, OX, ↓seqK, ↓blkK, ↓loopK, step, stepBin, res, stepIdx, mix, PV.cells, argSlots, Nat.reduceBEq, Nat.reduceBeqDiff, Nat.add_assoc nid, Nat.reduceAdd, reduceCtorEq, ↓reduceIte, Nat.reduceLeDiff, colPV, freeOf, indep, offO, neqO, disj, namesX, axSlot, opXs, rdXs, idsOf, idsOfs, lowH, lowAll, keys, Nat.reduceBneDiff, Option.toList, ← Int.ofNat_tmod, ← Int.ofNat_tdiv, optInt, fillP, repl, chunk, mkCols, mkCol, colInts, colBools, colStrs, colLits, colsApp, Col.app, tailOf, splice, colsPut, Col.put, mmFold, eqK, Nat.reduceLT, colsPaste, Col.paste, mNew, mkKey, keyIn, mGet, mPut, Int.cast_ofNat_Int, Int.reduceBEq, Int.reduceBNe, Int.reduceLT, Int.reduceLE, Int.reduceAdd, Int.reduceSub, Int.reduceMul, Int.reduceToNat, Int.reduceNeg, Int.reduceTMod, Int.reduceEq, not_false_eq_true, Int.reducePow, Int.reduceFDiv, Nat.reducePow, Nat.reduceSub, Nat.reduceMul, Nat.min_eq_left, Nat.reduceEqDiff, BEq.rfl, Int.tdiv_one, LN_succ, a1, a2, a3, a4, a5, a6, a7, a8, a9, b1, b2, b3, b4, b5, b6, b7, b8, b9, g1, g2, n1, m1]
    refine ⟨by unfold inI64; omega, ?_⟩
    refine LP.mkP (fun k : Nat => i0 + 1 ≤ k ∧ k ≤ l.length) (fun k : Nat => ⟨[(6, .int .i64 k), (5, .int .i64 ((keepP F (l.take k)).length : Nat)), (0, .sl id 0 l.length), (1, .fn f [.ptr ia 0])], [(id, arrPl (partP F l k)), (ia, boxW nla A)], nid + 300, nid⟩) (fun k => l.length + 1 - k) (i0 + 1) ⟨Nat.le_refl _, by omega⟩ (Cov.go [] [] ?_) (fun k hk => ?_)
    · rw [hkl0, hp0]
      simp [retPV, over, keys, List.map_nil, List.map_cons, List.contains_cons, List.contains_nil, Bool.or_false, Bool.or_true, Bool.true_or, Bool.false_or, beq_self_eq_true, cond_true, cond_false, HeapCov, orNil, nilSz, onBlk, srcOf, getH_hit, getH_miss, getH.eq_1, getS_hit, getS_miss, getS.eq_1, BlkCov, PVCovs, PVCov, ColsEq, ColEq.refl, liveIds, SlotsCov, List.all_nil, List.all_cons, List.any_nil, List.any_cons, List.nil_append, List.cons_append, inRange, apart, nilBlk, idS1, idS2, readAll, readRes, onAll, step, res, AX.val, List.drop_zero, List.drop_succ_cons, List.take_succ_cons, List.take_zero, a1, a2, a3, a4, a5, a6, a7, a8, a9, b1, b2, b3, b4, b5, b6, b7, b8, b9, g1, g2, n1, m1, arrPl, boxW]
    obtain ⟨hk1, hk2⟩ := hk
    have hpl := partP_len (F := F) hk2
    have hkl := keepP_len F (l.take k)
    rw [List.length_take] at hkl
    unfold arrPl boxW
    rw [hpl]
    simp -dsimp only [aqT, ROp, OX, ↓seqK, ↓blkK, ↓loopK, step, stepBin, res, stepIdx, mix, PV.cells, argSlots, Nat.reduceBEq, Nat.reduceBeqDiff, Nat.add_assoc nid, Nat.reduceAdd, reduceCtorEq, ↓reduceIte, Nat.reduceLeDiff, colPV, freeOf, indep, offO, neqO, disj, namesX, axSlot, opXs, rdXs, idsOf, idsOfs, lowH, lowAll, keys, Nat.reduceBneDiff, Option.toList, ← Int.ofNat_tmod, ← Int.ofNat_tdiv, optInt, fillP, repl, chunk, mkCols, mkCol, colInts, colBools, colStrs, colLits, colsApp, Col.app, tailOf, splice, colsPut, Col.put, mmFold, eqK, Nat.reduceLT, colsPaste, Col.paste, mNew, mkKey, keyIn, mGet, mPut, Int.cast_ofNat_Int, Int.reduceBEq, Int.reduceBNe, Int.reduceLT, Int.reduceLE, Int.reduceAdd, Int.reduceSub, Int.reduceMul, Int.reduceToNat, Int.reduceNeg, Int.reduceTMod, Int.reduceEq, not_false_eq_true, Int.reducePow, Int.reduceFDiv, Nat.reducePow, Nat.reduceSub, Nat.reduceMul, Nat.min_eq_left, Nat.reduceEqDiff, BEq.rfl, Int.tdiv_one, LN_succ, a1, a2, a3, a4, a5, a6, a7, a8, a9, b1, b2, b3, b4, b5, b6, b7, b8, b9, g1, g2, n1, m1]
    refine S2.dec (fun h1 => ?_) (fun h1 => ?_) <;> simp -dsimp only [aqT, ROp, OX, ↓seqK, ↓blkK, ↓loopK, step, stepBin, res, stepIdx, mix, PV.cells, argSlots, Nat.reduceBEq, Nat.reduceBeqDiff, Nat.add_assoc nid, Nat.reduceAdd, reduceCtorEq, ↓reduceIte, Nat.reduceLeDiff, colPV, freeOf, indep, offO, neqO, disj, namesX, axSlot, opXs, rdXs, idsOf, idsOfs, lowH, lowAll, keys, Nat.reduceBneDiff, Option.toList, ← Int.ofNat_tmod, ← Int.ofNat_tdiv, optInt, fillP, repl, chunk, mkCols, mkCol, colInts, colBools, colStrs, colLits, colsApp, Col.app, tailOf, splice, colsPut, Col.put, mmFold, eqK, Nat.reduceLT, colsPaste, Col.paste, mNew, mkKey, keyIn, mGet, mPut, Int.cast_ofNat_Int, Int.reduceBEq, Int.reduceBNe, Int.reduceLT, Int.reduceLE, Int.reduceAdd, Int.reduceSub, Int.reduceMul, Int.reduceToNat, Int.reduceNeg, Int.reduceTMod, Int.reduceEq, not_false_eq_true, Int.reducePow, Int.reduceFDiv, Nat.reducePow, Nat.reduceSub, Nat.reduceMul, Nat.min_eq_left, Nat.reduceEqDiff, BEq.rfl, Int.tdiv_one, LN_succ, a1, a2, a3, a4, a5, a6, a7, a8, a9, b1, b2, b3, b4, b5, b6, b7, b8, b9, g1, g2, n1, m1]
    · have hkn : k < l.length := by omega
      rw [partP_at hkn]
      refine ⟨by omega, CallO.on (hf (l.getD k p0) (ptMem hkn) _ (by omega)) (subH_get (by simp only [aqT, ROp, OX, ↓seqK, ↓blkK, ↓loopK, step, stepBin, res, stepIdx, mix, PV.cells, argSlots, Nat.reduceBEq, Nat.reduceBeqDiff, Nat.add_assoc nid, Nat.reduceAdd, reduceCtorEq, ↓reduceIte, Nat.reduceLeDiff, colPV, freeOf, indep, offO, neqO, disj, namesX, axSlot, opXs, rdXs, idsOf, idsOfs, lowH, lowAll, keys, Nat.reduceBneDiff, Option.toList, ← Int.ofNat_tmod, ← Int.ofNat_tdiv, optInt, fillP, repl, chunk, mkCols, mkCol, colInts, colBools, colStrs, colLits, colsApp, Col.app, tailOf, splice, colsPut, Col.put, mmFold, eqK, Nat.reduceLT, colsPaste, Col.paste, mNew, mkKey, keyIn, mGet, mPut, Int.cast_ofNat_Int, Int.reduceBEq, Int.reduceBNe, Int.reduceLT, Int.reduceLE, Int.reduceAdd, Int.reduceSub, Int.reduceMul, Int.reduceToNat, Int.reduceNeg, Int.reduceTMod, Int.reduceEq, not_false_eq_true, Int.reducePow, Int.reduceFDiv, Nat.reducePow, Nat.reduceSub, Nat.reduceMul, Nat.min_eq_left, Nat.reduceEqDiff, BEq.rfl, Int.tdiv_one, LN_succ, a1, a2, a3, a4, a5, a6, a7, a8, a9, b1, b2, b3, b4, b5, b6, b7, b8, b9, g1, g2, n1, m1, boxW])) ?_⟩
      simp -dsimp only [aqT, ROp, OX, ↓seqK, ↓blkK, ↓loopK, step, stepBin, res, stepIdx, mix, PV.cells, argSlots, Nat.reduceBEq, Nat.reduceBeqDiff, Nat.add_assoc nid, Nat.reduceAdd, reduceCtorEq, ↓reduceIte, Nat.reduceLeDiff, colPV, freeOf, indep, offO, neqO, disj, namesX, axSlot, opXs, rdXs, idsOf, idsOfs, lowH, lowAll, keys, Nat.reduceBneDiff, Option.toList, ← Int.ofNat_tmod, ← Int.ofNat_tdiv, optInt, fillP, repl, chunk, mkCols, mkCol, colInts, colBools, colStrs, colLits, colsApp, Col.app, tailOf, splice, colsPut, Col.put, mmFold, eqK, Nat.reduceLT, colsPaste, Col.paste, mNew, mkKey, keyIn, mGet, mPut, Int.cast_ofNat_Int, Int.reduceBEq, Int.reduceBNe, Int.reduceLT, Int.reduceLE, Int.reduceAdd, Int.reduceSub, Int.reduceMul, Int.reduceToNat, Int.reduceNeg, Int.reduceTMod, Int.reduceEq, not_false_eq_true, Int.reducePow, Int.reduceFDiv, Nat.reducePow, Nat.reduceSub, Nat.reduceMul, Nat.min_eq_left, Nat.reduceEqDiff, BEq.rfl, Int.tdiv_one, LN_succ, a1, a2, a3, a4, a5, a6, a7, a8, a9, b1, b2, b3, b4, b5, b6, b7, b8, b9, g1, g2, n1, m1]
      cases hF : F (l.getD k p0) <;> simp -dsimp only [aqT, ROp, OX, ↓seqK, ↓blkK, ↓loopK, step, stepBin, res, stepIdx, mix, PV.cells, argSlots, Nat.reduceBEq, Nat.reduceBeqDiff, Nat.add_assoc nid, Nat.reduceAdd, reduceCtorEq, ↓reduceIte, Nat.reduceLeDiff, colPV, freeOf, indep, offO, neqO, disj, namesX, axSlot, opXs, rdXs, idsOf, idsOfs, lowH, lowAll, keys, Nat.reduceBneDiff, Option.toList, ← Int.ofNat_tmod, ← Int.ofNat_tdiv, optInt, fillP, repl, chunk, mkCols, mkCol, colInts, colBools, colStrs, colLits, colsApp, Col.app, tailOf, splice, colsPut, Col.put, mmFold, eqK, Nat.reduceLT, colsPaste, Col.paste, mNew, mkKey, keyIn, mGet, mPut, Int.cast_ofNat_Int, Int.reduceBEq, Int.reduceBNe, Int.reduceLT, Int.reduceLE, Int.reduceAdd, Int.reduceSub, Int.reduceMul, Int.reduceToNat, Int.reduceNeg, Int.reduceTMod, Int.reduceEq, not_false_eq_true, Int.reducePow, Int.reduceFDiv, Nat.reducePow, Nat.reduceSub, Nat.reduceMul, Nat.min_eq_left, Nat.reduceEqDiff, BEq.rfl, Int.tdiv_one, LN_succ, a1, a2, a3, a4, a5, a6, a7, a8, a9, b1, b2, b3, b4, b5, b6, b7, b8, b9, g1, g2, n1, m1]
      · obtain ⟨q1, q2⟩ := partP_set hkn hF
        rw [getD_setP (partP F l k) (l.getD k p0) (by omega) (fun p => p.1) rfl, getD_setP (partP F l k) (l.getD k p0) (by omega) (fun p => p.2) rfl, q1]
        refine ⟨by omega, by unfold inI64; omega, by unfold inI64; omega, k + 1, ⟨⟨by omega, by omega⟩, by omega⟩, Cov.go [] [] ?_⟩
        rw [q2]
        simp [retPV, over, keys, List.map_nil, List.map_cons, List.contains_cons, List.contains_nil, Bool.or_false, Bool.or_true, Bool.true_or, Bool.false_or, beq_self_eq_true, cond_true, cond_false, HeapCov, orNil, nilSz, onBlk, srcOf, getH_hit, getH_miss, getH.eq_1, getS_hit, getS_miss, getS.eq_1, BlkCov, PVCovs, PVCov, ColsEq, ColEq.refl, liveIds, SlotsCov, List.all_nil, List.all_cons, List.any_nil, List.any_cons, List.nil_append, List.cons_append, inRange, apart, nilBlk, idS1, idS2, readAll, readRes, onAll, step, res, AX.val, List.drop_zero, List.drop_succ_cons, List.take_succ_cons, List.take_zero, a1, a2, a3, a4, a5, a6, a7, a8, a9, b1, b2, b3, b4, b5, b6, b7, b8, b9, g1, g2, n1, m1, arrPl, boxW, partP_len (F := F) (l := l) (k := k + 1) (by omega), -List.getD_eq_getElem?_getD]
      · obtain ⟨q1, q2⟩ := partP_skip hkn hF
        refine ⟨by unfold inI64; omega, k + 1, ⟨⟨by omega, by omega⟩, by omega⟩, Cov.go [] [] ?_⟩
        rw [q1, q2]
        simp [retPV, over, keys, List.map_nil, List.map_cons, List.contains_cons, List.contains_nil, Bool.or_false, Bool.or_true, Bool.true_or, Bool.false_or, beq_self_eq_true, cond_true, cond_false, HeapCov, orNil, nilSz, onBlk, srcOf, getH_hit, getH_miss, getH.eq_1, getS_hit, getS_miss, getS.eq_1, BlkCov, PVCovs, PVCov, ColsEq, ColEq.refl, liveIds, SlotsCov, List.all_nil, List.all_cons, List.any_nil, List.any_cons, List.nil_append, List.cons_append, inRange, apart, nilBlk, idS1, idS2, readAll, readRes, onAll, step, res, AX.val, List.drop_zero, List.drop_succ_cons, List.take_succ_cons, List.take_zero, a1, a2, a3, a4, a5, a6, a7, a8, a9, b1, b2, b3, b4, b5, b6, b7, b8, b9, g1, g2, n1, m1, arrPl, boxW, hpl, -List.getD_eq_getElem?_getD]
    · have hkn : k = l.length := by omega
      subst hkn
      rw [List.take_length]
      refine Cov.go [] [] ?_
      simp [retPV, over, keys, List.map_nil, List.map_cons, List.contains_cons, List.contains_nil, Bool.or_false, Bool.or_true, Bool.true_or, Bool.false_or, beq_self_eq_true, cond_true, cond_false, HeapCov, orNil, nilSz, onBlk, srcOf, getH_hit, getH_miss, getH.eq_1, getS_hit, getS_miss, getS.eq_1, BlkCov, PVCovs, PVCov, ColsEq, ColEq.refl, liveIds, SlotsCov, List.all_nil, List.all_cons, List.any_nil, List.any_cons, List.nil_append, List.cons_append, inRange, apart, nilBlk, idS1, idS2, readAll, readRes, onAll, step, res, AX.val, List.drop_zero, List.drop_succ_cons, List.take_succ_cons, List.take_zero, a1, a2, a3, a4, a5, a6, a7, a8, a9, b1, b2, b3, b4, b5, b6, b7, b8, b9, g1, g2, n1, m1, arrPl, boxW, hpl, -List.getD_eq_getElem?_getD]
  have hpl := partP_len (F := F) (l := l) (Nat.le_refl _)
  have hkl := keepP_len F l
  unfold arrPl boxW
  rw [hpl]
  refine SR.run (t := .mk) ?_
  simp -dsimp only [aqT, ROp, OX, ↓seqK, ↓blkK, ↓loopK, step, stepBin, res, stepIdx, mix, PV.cells, argSlots, Nat.reduceBEq, Nat.reduceBeqDiff, Nat.add_assoc nid, Nat.reduceAdd, reduceCtorEq, ↓reduceIte, Nat.reduceLeDiff, colPV, freeOf, indep, offO, neqO, disj, namesX, axSlot, opXs, rdXs, idsOf, idsOfs, lowH, lowAll, keys, Nat.reduceBneDiff, Option.toList, ← Int.ofNat_tmod, ← Int.ofNat_tdiv, optInt, fillP, repl, chunk, mkCols, mkCol, colInts, colBools, colStrs, colLits, colsApp, Col.app, tailOf, splice, colsPut, Col.put, mmFold, eqK, Nat.reduceLT, colsPaste, Col.paste, mNew, mkKey, keyIn, mGet, mPut, Int.cast_ofNat_Int, Int.reduceBEq, Int.reduceBNe, Int.reduceLT, Int.reduceLE, Int.reduceAdd, Int.reduceSub, Int.reduceMul, Int.reduceToNat, Int.reduceNeg, Int.reduceTMod, Int.reduceEq, not_false_eq_true, Int.reducePow, Int.reduceFDiv, Nat.reducePow, Nat.reduceSub, Nat.reduceMul, Nat.min_eq_left, Nat.reduceEqDiff, BEq.rfl, Int.tdiv_one, LN_succ, a1, a2, a3, a4, a5, a6, a7, a8, a9, b1, b2, b3, b4, b5, b6, b7, b8, b9, g1, g2, n1, m1, Col.const]
  have hlt : (keepP F l).length < l.length := by
    have e1 : keepP F l = keepP F (l.take (i0 + 1)) ++ keepP F (l.drop (i0 + 1)) := by
      unfold keepP
      rw [← List.filter_append, List.take_append_drop]
    have e2 := keepP_len F (l.drop (i0 + 1))
    rw [List.length_drop] at e2
    rw [e1, List.length_append, hkl0]
    omega
  refine ⟨⟨by omega, by omega⟩, by omega, ⟨by omega, by omega⟩, ?_⟩
  refine RetOK.go [] [] (.inl rfl) ?_
  simp [a51, retPV, over, keys, List.map_nil, List.map_cons, List.contains_cons, List.contains_nil, Bool.or_false, Bool.or_true, Bool.true_or, Bool.false_or, beq_self_eq_true, cond_true, cond_false, HeapCov, orNil, nilSz, onBlk, srcOf, getH_hit, getH_miss, getH.eq_1, getS_hit, getS_miss, getS.eq_1, BlkCov, PVCovs, PVCov, ColsEq, ColEq.refl, liveIds, SlotsCov, List.all_nil, List.all_cons, List.any_nil, List.any_cons, List.nil_append, List.cons_append, inRange, apart, nilBlk, idS1, idS2, readAll, readRes, onAll, step, res, AX.val, List.drop_zero, List.drop_succ_cons, List.take_succ_cons, List.take_zero, a1, a2, a3, a4, a5, a6, a7, a8, a9, b1, b2, b3, b4, b5, b6, b7, b8, b9, g1, g2, n1, m1, arrPl, boxW, doneP_len, -List.getD_eq_getElem?_getD]
  exact ⟨ColEq.i (doneP_at (fun p => p.1) rfl), ColEq.i (doneP_at (fun p => p.2) rfl)⟩
end Go.Proofs.YtmgfcjblclanmaaDoor
/-
  The dies at the edge of a right wafer, by the abstract machine.
-/
namespace Go.Proofs.YtmgfcjblclanmaaDoor
open Go.RowKit
set_option linter.unusedVariables false
set_option linter.unusedSimpArgs false
set_option maxRecDepth 100000
theorem idxP_any (F : Pt → Bool) (l : List Pt) : decide (0 ≤ idxP F l) = l.any F := by
  have h := List.findIdx?_isSome (xs := l) (p := F)
  unfold idxP
  cases hf : l.findIdx? F with
  | none => rw [hf] at h; rw [← h]; rfl
  | some i => rw [hf] at h; rw [← h]; simp
theorem containsP1_c (f id ia : Nat) (nla : Bool) (A : Waf) (F : Pt → Bool) (l : List Pt) (nid : Nat) (hid : id < nid) (hia : ia < nid) (n1 : id ≠ ia) (hl : l.length ≤ 1000000)
    (hf : ∀ p ∈ l, ∀ nid', ia < nid' → ACall Tryd.prog f [.agg [.int .i64 p.1, .int .i64 p.2], .ptr ia 0] [(ia, boxW nla A)] nid' (.bool (F p)) []) :
    ACall Tryd.prog 74 [.sl id 0 l.length, .fn f [.ptr ia 0]] [(id, arrPl l), (ia, boxW nla A)] nid (.bool (l.any F)) [] := by
  obtain ⟨a1, a2, a3, a4, a5, a6, a7, a8, a9⟩ := id_all hid
  obtain ⟨b1, b2, b3, b4, b5, b6, b7, b8, b9⟩ := id_all hia
  have g1 : (id == ia) = false := by simpa using n1
  have g2 : (ia == id) = false := by simpa using fun h => n1 h.symm
  have m1 : ¬ ia = id := fun h => n1 h.symm
  refine acall_run c74 (by simp [a74]) ?_
  simp -dsimp only [a74, aqT, ROp, OX, ↓seqK, ↓blkK, ↓loopK, step, stepBin, res, stepIdx, mix, PV.cells, argSlots, Nat.reduceBEq, Nat.reduceBeqDiff, Nat.add_assoc nid, Nat.reduceAdd, reduceCtorEq, ↓reduceIte, Nat.reduceLeDiff, colPV, freeOf, indep, offO, neqO, disj, namesX, axSlot, opXs, rdXs, idsOf, idsOfs, lowH, lowAll, keys, Nat.reduceBneDiff, Option.toList, ← Int.ofNat_tmod, ← Int.ofNat_tdiv, optInt, fillP, repl, chunk, mkCols, mkCol, colInts, colBools, colStrs, colLits, colsApp, Col.app, tailOf, splice, colsPut, Col.put, mmFold, eqK, Nat.reduceLT, colsPaste, Col.paste, mNew, mkKey, keyIn, mGet, mPut, Int.cast_ofNat_Int, Int.reduceBEq, Int.reduceBNe, Int.reduceLT, Int.reduceLE, Int.reduceAdd, Int.reduceSub, Int.reduceMul, Int.reduceToNat, Int.reduceNeg, Int.reduceTMod, Int.reduceEq, not_false_eq_true, Int.reducePow, Int.reduceFDiv, Nat.reducePow, Nat.reduceSub, Nat.reduceMul, Nat.min_eq_left, Nat.reduceEqDiff, BEq.rfl, Int.tdiv_one, LN_succ]
  refine CallO.on (indexP1_c f id ia nla A F l _ (by omega) (by omega) n1 hl hf) (fun _ _ h => h) ?_
  simp -dsimp only [aqT, ROp, OX, ↓seqK, ↓blkK, ↓loopK, step, stepBin, res, stepIdx, mix, PV.cells, argSlots, Nat.reduceBEq, Nat.reduceBeqDiff, Nat.add_assoc nid, Nat.reduceAdd, reduceCtorEq, ↓reduceIte, Nat.reduceLeDiff, colPV, freeOf, indep, offO, neqO, disj, namesX, axSlot, opXs, rdXs, idsOf, idsOfs, lowH, lowAll, keys, Nat.reduceBneDiff, Option.toList, ← Int.ofNat_tmod, ← Int.ofNat_tdiv, optInt, fillP, repl, chunk, mkCols, mkCol, colInts, colBools, colStrs, colLits, colsApp, Col.app, tailOf, splice, colsPut, Col.put, mmFold, eqK, Nat.reduceLT, colsPaste, Col.paste, mNew, mkKey, keyIn, mGet, mPut, Int.cast_ofNat_Int, Int.reduceBEq, Int.reduceBNe, Int.reduceLT, Int.reduceLE, Int.reduceAdd, Int.reduceSub, Int.reduceMul, Int.reduceToNat, Int.reduceNeg, Int.reduceTMod, Int.reduceEq, not_false_eq_true, Int.reducePow, Int.reduceFDiv, Nat.reducePow, Nat.reduceSub, Nat.reduceMul, Nat.min_eq_left, Nat.reduceEqDiff, BEq.rfl, Int.tdiv_one, LN_succ]
  refine RetOK.go [] [] (.inl rfl) ?_
  have e := idxP_any F l
  generalize idxP F l = i at *
  rw [← e]
  simp [a74, retPV, over, keys, List.map_nil, List.map_cons, List.contains_cons, List.contains_nil, Bool.or_false, Bool.or_true, Bool.true_or, Bool.false_or, beq_self_eq_true, cond_true, cond_false, HeapCov, orNil, nilSz, onBlk, srcOf, getH_hit, getH_miss, getH.eq_1, getS_hit, getS_miss, getS.eq_1, BlkCov, PVCovs, PVCov, ColsEq, ColEq.refl, liveIds, SlotsCov, List.all_nil, List.all_cons, List.any_nil, List.any_cons, List.nil_append, List.cons_append, inRange, apart, nilBlk, idS1, idS2, readAll, readRes, onAll, step, res, AX.val, List.drop_zero, List.drop_succ_cons, List.take_succ_cons, List.take_zero, a1, a2, a3, a4, a5, a6, a7, a8, a9, b1, b2, b3, b4, b5, b6, b7, b8, b9, g1, g2, n1, m1, arrPl, boxW]
def noneP (W : Waf) (p : Pt) : Bool := dieV W p.1 p.2 == 46
theorem edgeN_c (ia : Nat) (nl : Bool) (W : Waf) (p : Pt) (nid : Nat) (hia : ia < nid) (hW : WafOk W) (hx : inI64 p.1) (hy : inI64 p.2) : ACall Tryd.prog 75 [.agg [.int .i64 p.1, .int .i64 p.2], .ptr ia 0] [(ia, boxW nl W)] nid (.bool (noneP W p)) [] := by
  obtain ⟨a1, a2, a3, a4, a5, a6, a7, a8, a9⟩ := id_all hia
  refine acall_run c75 (by simp [a75]) ?_
  unfold boxW
  simp -dsimp only [a75, aqT, ROp, OX, ↓seqK, ↓blkK, ↓loopK, step, stepBin, res, stepIdx, mix, PV.cells, argSlots, Nat.reduceBEq, Nat.reduceBeqDiff, Nat.add_assoc nid, Nat.reduceAdd, reduceCtorEq, ↓reduceIte, Nat.reduceLeDiff, colPV, freeOf, indep, offO, neqO, disj, namesX, axSlot, opXs, rdXs, idsOf, idsOfs, lowH, lowAll, keys, Nat.reduceBneDiff, Option.toList, ← Int.ofNat_tmod, ← Int.ofNat_tdiv, optInt, fillP, repl, chunk, mkCols, mkCol, colInts, colBools, colStrs, colLits, colsApp, Col.app, tailOf, splice, colsPut, Col.put, mmFold, eqK, Nat.reduceLT, colsPaste, Col.paste, mNew, mkKey, keyIn, mGet, mPut, Int.cast_ofNat_Int, Int.reduceBEq, Int.reduceBNe, Int.reduceLT, Int.reduceLE, Int.reduceAdd, Int.reduceSub, Int.reduceMul, Int.reduceToNat, Int.reduceNeg, Int.reduceTMod, Int.reduceEq, not_false_eq_true, Int.reducePow, Int.reduceFDiv, Nat.reducePow, Nat.reduceSub, Nat.reduceMul, Nat.min_eq_left, Nat.reduceEqDiff, BEq.rfl, Int.tdiv_one, LN_succ, a1, a2, a3, a4, a5, a6, a7, a8, a9]
  refine CallO.pure (at_all nl W _ _ _ hW hx hy) ?_
  simp -dsimp only [aqT, ROp, OX, ↓seqK, ↓blkK, ↓loopK, step, stepBin, res, stepIdx, mix, PV.cells, argSlots, Nat.reduceBEq, Nat.reduceBeqDiff, Nat.add_assoc nid, Nat.reduceAdd, reduceCtorEq, ↓reduceIte, Nat.reduceLeDiff, colPV, freeOf, indep, offO, neqO, disj, namesX, axSlot, opXs, rdXs, idsOf, idsOfs, lowH, lowAll, keys, Nat.reduceBneDiff, Option.toList, ← Int.ofNat_tmod, ← Int.ofNat_tdiv, optInt, fillP, repl, chunk, mkCols, mkCol, colInts, colBools, colStrs, colLits, colsApp, Col.app, tailOf, splice, colsPut, Col.put, mmFold, eqK, Nat.reduceLT, colsPaste, Col.paste, mNew, mkKey, keyIn, mGet, mPut, Int.cast_ofNat_Int, Int.reduceBEq, Int.reduceBNe, Int.reduceLT, Int.reduceLE, Int.reduceAdd, Int.reduceSub, Int.reduceMul, Int.reduceToNat, Int.reduceNeg, Int.reduceTMod, Int.reduceEq, not_false_eq_true, Int.reducePow, Int.reduceFDiv, Nat.reducePow, Nat.reduceSub, Nat.reduceMul, Nat.min_eq_left, Nat.reduceEqDiff, BEq.rfl, Int.tdiv_one, LN_succ, a1, a2, a3, a4, a5, a6, a7, a8, a9]
  refine RetOK.go [] [] (.inl rfl) ?_
  simp [a75, retPV, over, keys, List.map_nil, List.map_cons, List.contains_cons, List.contains_nil, Bool.or_false, Bool.or_true, Bool.true_or, Bool.false_or, beq_self_eq_true, cond_true, cond_false, HeapCov, orNil, nilSz, onBlk, srcOf, getH_hit, getH_miss, getH.eq_1, getS_hit, getS_miss, getS.eq_1, BlkCov, PVCovs, PVCov, ColsEq, ColEq.refl, liveIds, SlotsCov, List.all_nil, List.all_cons, List.any_nil, List.any_cons, List.nil_append, List.cons_append, inRange, apart, nilBlk, idS1, idS2, readAll, readRes, onAll, step, res, AX.val, List.drop_zero, List.drop_succ_cons, List.take_succ_cons, List.take_zero, a1, a2, a3, a4, a5, a6, a7, a8, a9, noneP]
/-- whether a place is not at the edge -/
def innerP (W : Waf) (p : Pt) : Bool := noneP W p || !(arV p).any (noneP W)
theorem edgeF_c (ia : Nat) (nl : Bool) (W : Waf) (p : Pt) (nid : Nat) (hia : ia < nid) (hW : WafOk W) (hp : PtBd p) : ACall Tryd.prog 73 [.agg [.int .i64 p.1, .int .i64 p.2], .ptr ia 0] [(ia, boxW nl W)] nid (.bool (innerP W p)) [] := by
  obtain ⟨a1, a2, a3, a4, a5, a6, a7, a8, a9⟩ := id_all hia
  have hpi : inI64 p.1 ∧ inI64 p.2 := by obtain ⟨h1, h2, h3, h4⟩ := hp; unfold inI64; omega
  have hl := arV_len p
  refine acall_run c73 (by simp [a73]) ?_
  unfold boxW
  simp -dsimp only [a73, aqT, ROp, OX, ↓seqK, ↓blkK, ↓loopK, step, stepBin, res, stepIdx, mix, PV.cells, argSlots, Nat.reduceBEq, Nat.reduceBeqDiff, Nat.add_assoc nid, Nat.reduceAdd, reduceCtorEq, ↓reduceIte, Nat.reduceLeDiff, colPV, freeOf, indep, offO, neqO, disj, namesX, axSlot, opXs, rdXs, idsOf, idsOfs, lowH, lowAll, keys, Nat.reduceBneDiff, Option.toList, ← Int.ofNat_tmod, ← Int.ofNat_tdiv, optInt, fillP, repl, chunk, mkCols, mkCol, colInts, colBools, colStrs, colLits, colsApp, Col.app, tailOf, splice, colsPut, Col.put, mmFold, eqK, Nat.reduceLT, colsPaste, Col.paste, mNew, mkKey, keyIn, mGet, mPut, Int.cast_ofNat_Int, Int.reduceBEq, Int.reduceBNe, Int.reduceLT, Int.reduceLE, Int.reduceAdd, Int.reduceSub, Int.reduceMul, Int.reduceToNat, Int.reduceNeg, Int.reduceTMod, Int.reduceEq, not_false_eq_true, Int.reducePow, Int.reduceFDiv, Nat.reducePow, Nat.reduceSub, Nat.reduceMul, Nat.min_eq_left, Nat.reduceEqDiff, BEq.rfl, Int.tdiv_one, LN_succ, a1, a2, a3, a4, a5, a6, a7, a8, a9]
  refine CallO.pure (at_all nl W _ _ _ hW hpi.1 hpi.2) ?_
  have g : (dieV W p.1 p.2 == 46) = noneP W p := rfl
  simp -dsimp only [aqT, ROp, OX, ↓seqK, ↓blkK, ↓loopK, step, stepBin, res, stepIdx, mix, PV.cells, argSlots, Nat.reduceBEq, Nat.reduceBeqDiff, Nat.add_assoc nid, Nat.reduceAdd, reduceCtorEq, ↓reduceIte, Nat.reduceLeDiff, colPV, freeOf, indep, offO, neqO, disj, namesX, axSlot, opXs, rdXs, idsOf, idsOfs, lowH, lowAll, keys, Nat.reduceBneDiff, Option.toList, ← Int.ofNat_tmod, ← Int.ofNat_tdiv, optInt, fillP, repl, chunk, mkCols, mkCol, colInts, colBools, colStrs, colLits, colsApp, Col.app, tailOf, splice, colsPut, Col.put, mmFold, eqK, Nat.reduceLT, colsPaste, Col.paste, mNew, mkKey, keyIn, mGet, mPut, Int.cast_ofNat_Int, Int.reduceBEq, Int.reduceBNe, Int.reduceLT, Int.reduceLE, Int.reduceAdd, Int.reduceSub, Int.reduceMul, Int.reduceToNat, Int.reduceNeg, Int.reduceTMod, Int.reduceEq, not_false_eq_true, Int.reducePow, Int.reduceFDiv, Nat.reducePow, Nat.reduceSub, Nat.reduceMul, Nat.min_eq_left, Nat.reduceEqDiff, BEq.rfl, Int.tdiv_one, LN_succ, a1, a2, a3, a4, a5, a6, a7, a8, a9]
  rw [g]
  unfold innerP
  cases h : noneP W p <;> simp -dsimp only [aqT, ROp, OX, ↓seqK, ↓blkK, ↓loopK, step, stepBin, res, stepIdx, mix, PV.cells, argSlots, Nat.reduceBEq, Nat.reduceBeqDiff, Nat.add_assoc nid, Nat.reduceAdd, reduceCtorEq, ↓reduceIte, Nat.reduceLeDiff, colPV, freeOf, indep, offO, neqO, disj, namesX, axSlot, opXs, rdXs, idsOf, idsOfs, lowH, lowAll, keys, Nat.reduceBneDiff, Option.toList, ← Int.ofNat_tmod, ← Int.ofNat_tdiv, optInt, fillP, repl, chunk, mkCols, mkCol, colInts, colBools, colStrs, colLits, colsApp, Col.app, tailOf, splice, colsPut, Col.put, mmFold, eqK, Nat.reduceLT, colsPaste, Col.paste, mNew, mkKey, keyIn, mGet, mPut, Int.cast_ofNat_Int, Int.reduceBEq, Int.reduceBNe, Int.reduceLT, Int.reduceLE, Int.reduceAdd, Int.reduceSub, Int.reduceMul, Int.reduceToNat, Int.reduceNeg, Int.reduceTMod, Int.reduceEq, not_false_eq_true, Int.reducePow, Int.reduceFDiv, Nat.reducePow, Nat.reduceSub, Nat.reduceMul, Nat.min_eq_left, Nat.reduceEqDiff, BEq.rfl, Int.tdiv_one, LN_succ, a1, a2, a3, a4, a5, a6, a7, a8, a9]
  · refine CallO.pure (around_all p _ hp) ?_
    have hin := fun q hq => hp.ar (q := q) hq
    unfold arrPl
    simp -dsimp only [aqT, ROp, OX, ↓seqK, ↓blkK, ↓loopK, step, stepBin, res, stepIdx, mix, PV.cells, argSlots, Nat.reduceBEq, Nat.reduceBeqDiff, Nat.add_assoc nid, Nat.reduceAdd, reduceCtorEq, ↓reduceIte, Nat.reduceLeDiff, colPV, freeOf, indep, offO, neqO, disj, namesX, axSlot, opXs, rdXs, idsOf, idsOfs, lowH, lowAll, keys, Nat.reduceBneDiff, Option.toList, ← Int.ofNat_tmod, ← Int.ofNat_tdiv, optInt, fillP, repl, chunk, mkCols, mkCol, colInts, colBools, colStrs, colLits, colsApp, Col.app, tailOf, splice, colsPut, Col.put, mmFold, eqK, Nat.reduceLT, colsPaste, Col.paste, mNew, mkKey, keyIn, mGet, mPut, Int.cast_ofNat_Int, Int.reduceBEq, Int.reduceBNe, Int.reduceLT, Int.reduceLE, Int.reduceAdd, Int.reduceSub, Int.reduceMul, Int.reduceToNat, Int.reduceNeg, Int.reduceTMod, Int.reduceEq, not_false_eq_true, Int.reducePow, Int.reduceFDiv, Nat.reducePow, Nat.reduceSub, Nat.reduceMul, Nat.min_eq_left, Nat.reduceEqDiff, BEq.rfl, Int.tdiv_one, LN_succ, a1, a2, a3, a4, a5, a6, a7, a8, a9]
    refine CallO.on (containsP1_c 75 (nid + 32) ia nl W (noneP W) (arV p) _ (by omega) (by omega) (by omega) (by omega) (fun q hq nid' h' => edgeN_c ia nl W q nid' h' hW (hin q hq).1 (hin q hq).2)) (subH_cons (by simp only [aqT, ROp, OX, ↓seqK, ↓blkK, ↓loopK, step, stepBin, res, stepIdx, mix, PV.cells, argSlots, Nat.reduceBEq, Nat.reduceBeqDiff, Nat.add_assoc nid, Nat.reduceAdd, reduceCtorEq, ↓reduceIte, Nat.reduceLeDiff, colPV, freeOf, indep, offO, neqO, disj, namesX, axSlot, opXs, rdXs, idsOf, idsOfs, lowH, lowAll, keys, Nat.reduceBneDiff, Option.toList, ← Int.ofNat_tmod, ← Int.ofNat_tdiv, optInt, fillP, repl, chunk, mkCols, mkCol, colInts, colBools, colStrs, colLits, colsApp, Col.app, tailOf, splice, colsPut, Col.put, mmFold, eqK, Nat.reduceLT, colsPaste, Col.paste, mNew, mkKey, keyIn, mGet, mPut, Int.cast_ofNat_Int, Int.reduceBEq, Int.reduceBNe, Int.reduceLT, Int.reduceLE, Int.reduceAdd, Int.reduceSub, Int.reduceMul, Int.reduceToNat, Int.reduceNeg, Int.reduceTMod, Int.reduceEq, not_false_eq_true, Int.reducePow, Int.reduceFDiv, Nat.reducePow, Nat.reduceSub, Nat.reduceMul, Nat.min_eq_left, Nat.reduceEqDiff, BEq.rfl, Int.tdiv_one, LN_succ, a1, a2, a3, a4, a5, a6, a7, a8, a9, arrPl]) (subH_get (by simp only [aqT, ROp, OX, ↓seqK, ↓blkK, ↓loopK, step, stepBin, res, stepIdx, mix, PV.cells, argSlots, Nat.reduceBEq, Nat.reduceBeqDiff, Nat.add_assoc nid, Nat.reduceAdd, reduceCtorEq, ↓reduceIte, Nat.reduceLeDiff, colPV, freeOf, indep, offO, neqO, disj, namesX, axSlot, opXs, rdXs, idsOf, idsOfs, lowH, lowAll, keys, Nat.reduceBneDiff, Option.toList, ← Int.ofNat_tmod, ← Int.ofNat_tdiv, optInt, fillP, repl, chunk, mkCols, mkCol, colInts, colBools, colStrs, colLits, colsApp, Col.app, tailOf, splice, colsPut, Col.put, mmFold, eqK, Nat.reduceLT, colsPaste, Col.paste, mNew, mkKey, keyIn, mGet, mPut, Int.cast_ofNat_Int, Int.reduceBEq, Int.reduceBNe, Int.reduceLT, Int.reduceLE, Int.reduceAdd, Int.reduceSub, Int.reduceMul, Int.reduceToNat, Int.reduceNeg, Int.reduceTMod, Int.reduceEq, not_false_eq_true, Int.reducePow, Int.reduceFDiv, Nat.reducePow, Nat.reduceSub, Nat.reduceMul, Nat.min_eq_left, Nat.reduceEqDiff, BEq.rfl, Int.tdiv_one, LN_succ, a1, a2, a3, a4, a5, a6, a7, a8, a9, boxW]))) ?_
    simp -dsimp only [aqT, ROp, OX, ↓seqK, ↓blkK, ↓loopK, step, stepBin, res, stepIdx, mix, PV.cells, argSlots, Nat.reduceBEq, Nat.reduceBeqDiff, Nat.add_assoc nid, Nat.reduceAdd, reduceCtorEq, ↓reduceIte, Nat.reduceLeDiff, colPV, freeOf, indep, offO, neqO, disj, namesX, axSlot, opXs, rdXs, idsOf, idsOfs, lowH, lowAll, keys, Nat.reduceBneDiff, Option.toList, ← Int.ofNat_tmod, ← Int.ofNat_tdiv, optInt, fillP, repl, chunk, mkCols, mkCol, colInts, colBools, colStrs, colLits, colsApp, Col.app, tailOf, splice, colsPut, Col.put, mmFold, eqK, Nat.reduceLT, colsPaste, Col.paste, mNew, mkKey, keyIn, mGet, mPut, Int.cast_ofNat_Int, Int.reduceBEq, Int.reduceBNe, Int.reduceLT, Int.reduceLE, Int.reduceAdd, Int.reduceSub, Int.reduceMul, Int.reduceToNat, Int.reduceNeg, Int.reduceTMod, Int.reduceEq, not_false_eq_true, Int.reducePow, Int.reduceFDiv, Nat.reducePow, Nat.reduceSub, Nat.reduceMul, Nat.min_eq_left, Nat.reduceEqDiff, BEq.rfl, Int.tdiv_one, LN_succ, a1, a2, a3, a4, a5, a6, a7, a8, a9]
    refine RetOK.go [] [] (.inl rfl) ?_
    simp [a73, retPV, over, keys, List.map_nil, List.map_cons, List.contains_cons, List.contains_nil, Bool.or_false, Bool.or_true, Bool.true_or, Bool.false_or, beq_self_eq_true, cond_true, cond_false, HeapCov, orNil, nilSz, onBlk, srcOf, getH_hit, getH_miss, getH.eq_1, getS_hit, getS_miss, getS.eq_1, BlkCov, PVCovs, PVCov, ColsEq, ColEq.refl, liveIds, SlotsCov, List.all_nil, List.all_cons, List.any_nil, List.any_cons, List.nil_append, List.cons_append, inRange, apart, nilBlk, idS1, idS2, readAll, readRes, onAll, step, res, AX.val, List.drop_zero, List.drop_succ_cons, List.take_succ_cons, List.take_zero, a1, a2, a3, a4, a5, a6, a7, a8, a9]
  · refine RetOK.go [] [] (.inl rfl) ?_
    simp [a73, retPV, over, keys, List.map_nil, List.map_cons, List.contains_cons, List.contains_nil, Bool.or_false, Bool.or_true, Bool.true_or, Bool.false_or, beq_self_eq_true, cond_true, cond_false, HeapCov, orNil, nilSz, onBlk, srcOf, getH_hit, getH_miss, getH.eq_1, getS_hit, getS_miss, getS.eq_1, BlkCov, PVCovs, PVCov, ColsEq, ColEq.refl, liveIds, SlotsCov, List.all_nil, List.all_cons, List.any_nil, List.any_cons, List.nil_append, List.cons_append, inRange, apart, nilBlk, idS1, idS2, readAll, readRes, onAll, step, res, AX.val, List.drop_zero, List.drop_succ_cons, List.take_succ_cons, List.take_zero, a1, a2, a3, a4, a5, a6, a7, a8, a9]
theorem plV_bd {W : Waf} (hW : WafOk W) {p : Pt} (h : p ∈ plV W) : PtBd p := by
  obtain ⟨x, y, rfl, h1, h2⟩ := plV_mem h
  have := (hW.at h1).1
  have := hW.wide.2
  have := hW.len
  unfold PtBd
  simp only
  omega
def edgeL (W : Waf) : List Pt := keepP (innerP W) (plV W)
theorem edge_all (nl : Bool) (W : Waf) (nid : Nat) (hW : WafOk W) : ACall Tryd.prog 31 [wafP nl W] [] nid (.sl nid 0 (edgeL W).length) [(nid, arrPl (doneP (innerP W) (plV W)))] := by
  have hlb := plTo_bd hW (Nat.le_refl _)
  have hl : (plV W).length ≤ 60000 := hlb
  refine acall_run c31 (by simp [a31]) ?_
  unfold wafP
  simp -dsimp only [a31, aqT, ROp, OX, ↓seqK, ↓blkK, ↓loopK, step, stepBin, res, stepIdx, mix, PV.cells, argSlots, Nat.reduceBEq, Nat.reduceBeqDiff, Nat.add_assoc nid, Nat.reduceAdd, reduceCtorEq, ↓reduceIte, Nat.reduceLeDiff, colPV, freeOf, indep, offO, neqO, disj, namesX, axSlot, opXs, rdXs, idsOf, idsOfs, lowH, lowAll, keys, Nat.reduceBneDiff, Option.toList, ← Int.ofNat_tmod, ← Int.ofNat_tdiv, optInt, fillP, repl, chunk, mkCols, mkCol, colInts, colBools, colStrs, colLits, colsApp, Col.app, tailOf, splice, colsPut, Col.put, mmFold, eqK, Nat.reduceLT, colsPaste, Col.paste, mNew, mkKey, keyIn, mGet, mPut, Int.cast_ofNat_Int, Int.reduceBEq, Int.reduceBNe, Int.reduceLT, Int.reduceLE, Int.reduceAdd, Int.reduceSub, Int.reduceMul, Int.reduceToNat, Int.reduceNeg, Int.reduceTMod, Int.reduceEq, not_false_eq_true, Int.reducePow, Int.reduceFDiv, Nat.reducePow, Nat.reduceSub, Nat.reduceMul, Nat.min_eq_left, Nat.reduceEqDiff, BEq.rfl, Int.tdiv_one, LN_succ]
  refine CallO.pure (places_all nl W _ hW) ?_
  unfold arrPl
  simp -dsimp only [aqT, ROp, OX, ↓seqK, ↓blkK, ↓loopK, step, stepBin, res, stepIdx, mix, PV.cells, argSlots, Nat.reduceBEq, Nat.reduceBeqDiff, Nat.add_assoc nid, Nat.reduceAdd, reduceCtorEq, ↓reduceIte, Nat.reduceLeDiff, colPV, freeOf, indep, offO, neqO, disj, namesX, axSlot, opXs, rdXs, idsOf, idsOfs, lowH, lowAll, keys, Nat.reduceBneDiff, Option.toList, ← Int.ofNat_tmod, ← Int.ofNat_tdiv, optInt, fillP, repl, chunk, mkCols, mkCol, colInts, colBools, colStrs, colLits, colsApp, Col.app, tailOf, splice, colsPut, Col.put, mmFold, eqK, Nat.reduceLT, colsPaste, Col.paste, mNew, mkKey, keyIn, mGet, mPut, Int.cast_ofNat_Int, Int.reduceBEq, Int.reduceBNe, Int.reduceLT, Int.reduceLE, Int.reduceAdd, Int.reduceSub, Int.reduceMul, Int.reduceToNat, Int.reduceNeg, Int.reduceTMod, Int.reduceEq, not_false_eq_true, Int.reducePow, Int.reduceFDiv, Nat.reducePow, Nat.reduceSub, Nat.reduceMul, Nat.min_eq_left, Nat.reduceEqDiff, BEq.rfl, Int.tdiv_one, LN_succ]
  refine CallO.on (deleteP1_c 73 (nid + 12) nid nl W (innerP W) (plV W) _ (by omega) (by omega) (by omega) (by omega) (fun q hq nid' h' => edgeF_c nid nl W q nid' h' hW (plV_bd hW hq))) (subH_cons (by simp only [aqT, ROp, OX, ↓seqK, ↓blkK, ↓loopK, step, stepBin, res, stepIdx, mix, PV.cells, argSlots, Nat.reduceBEq, Nat.reduceBeqDiff, Nat.add_assoc nid, Nat.reduceAdd, reduceCtorEq, ↓reduceIte, Nat.reduceLeDiff, colPV, freeOf, indep, offO, neqO, disj, namesX, axSlot, opXs, rdXs, idsOf, idsOfs, lowH, lowAll, keys, Nat.reduceBneDiff, Option.toList, ← Int.ofNat_tmod, ← Int.ofNat_tdiv, optInt, fillP, repl, chunk, mkCols, mkCol, colInts, colBools, colStrs, colLits, colsApp, Col.app, tailOf, splice, colsPut, Col.put, mmFold, eqK, Nat.reduceLT, colsPaste, Col.paste, mNew, mkKey, keyIn, mGet, mPut, Int.cast_ofNat_Int, Int.reduceBEq, Int.reduceBNe, Int.reduceLT, Int.reduceLE, Int.reduceAdd, Int.reduceSub, Int.reduceMul, Int.reduceToNat, Int.reduceNeg, Int.reduceTMod, Int.reduceEq, not_false_eq_true, Int.reducePow, Int.reduceFDiv, Nat.reducePow, Nat.reduceSub, Nat.reduceMul, Nat.min_eq_left, Nat.reduceEqDiff, BEq.rfl, Int.tdiv_one, LN_succ, arrPl]) (subH_get (by simp only [aqT, ROp, OX, ↓seqK, ↓blkK, ↓loopK, step, stepBin, res, stepIdx, mix, PV.cells, argSlots, Nat.reduceBEq, Nat.reduceBeqDiff, Nat.add_assoc nid, Nat.reduceAdd, reduceCtorEq, ↓reduceIte, Nat.reduceLeDiff, colPV, freeOf, indep, offO, neqO, disj, namesX, axSlot, opXs, rdXs, idsOf, idsOfs, lowH, lowAll, keys, Nat.reduceBneDiff, Option.toList, ← Int.ofNat_tmod, ← Int.ofNat_tdiv, optInt, fillP, repl, chunk, mkCols, mkCol, colInts, colBools, colStrs, colLits, colsApp, Col.app, tailOf, splice, colsPut, Col.put, mmFold, eqK, Nat.reduceLT, colsPaste, Col.paste, mNew, mkKey, keyIn, mGet, mPut, Int.cast_ofNat_Int, Int.reduceBEq, Int.reduceBNe, Int.reduceLT, Int.reduceLE, Int.reduceAdd, Int.reduceSub, Int.reduceMul, Int.reduceToNat, Int.reduceNeg, Int.reduceTMod, Int.reduceEq, not_false_eq_true, Int.reducePow, Int.reduceFDiv, Nat.reducePow, Nat.reduceSub, Nat.reduceMul, Nat.min_eq_left, Nat.reduceEqDiff, BEq.rfl, Int.tdiv_one, LN_succ, boxW]))) ?_
  unfold arrPl
  simp -dsimp only [aqT, ROp, OX, ↓seqK, ↓blkK, ↓loopK, step, stepBin, res, stepIdx, mix, PV.cells, argSlots, Nat.reduceBEq, Nat.reduceBeqDiff, Nat.add_assoc nid, Nat.reduceAdd, reduceCtorEq, ↓reduceIte, Nat.reduceLeDiff, colPV, freeOf, indep, offO, neqO, disj, namesX, axSlot, opXs, rdXs, idsOf, idsOfs, lowH, lowAll, keys, Nat.reduceBneDiff, Option.toList, ← Int.ofNat_tmod, ← Int.ofNat_tdiv, optInt, fillP, repl, chunk, mkCols, mkCol, colInts, colBools, colStrs, colLits, colsApp, Col.app, tailOf, splice, colsPut, Col.put, mmFold, eqK, Nat.reduceLT, colsPaste, Col.paste, mNew, mkKey, keyIn, mGet, mPut, Int.cast_ofNat_Int, Int.reduceBEq, Int.reduceBNe, Int.reduceLT, Int.reduceLE, Int.reduceAdd, Int.reduceSub, Int.reduceMul, Int.reduceToNat, Int.reduceNeg, Int.reduceTMod, Int.reduceEq, not_false_eq_true, Int.reducePow, Int.reduceFDiv, Nat.reducePow, Nat.reduceSub, Nat.reduceMul, Nat.min_eq_left, Nat.reduceEqDiff, BEq.rfl, Int.tdiv_one, LN_succ]
  refine RetOK.go [(nid, nid + 12)] [] (.inl rfl) ?_
  simp [a31, retPV, over, keys, List.map_nil, List.map_cons, List.contains_cons, List.contains_nil, Bool.or_false, Bool.or_true, Bool.true_or, Bool.false_or, beq_self_eq_true, cond_true, cond_false, HeapCov, orNil, nilSz, onBlk, srcOf, getH_hit, getH_miss, getH.eq_1, getS_hit, getS_miss, getS.eq_1, BlkCov, PVCovs, PVCov, ColsEq, ColEq.refl, liveIds, SlotsCov, List.all_nil, List.all_cons, List.any_nil, List.any_cons, List.nil_append, List.cons_append, inRange, apart, nilBlk, idS1, idS2, readAll, readRes, onAll, step, res, AX.val, List.drop_zero, List.drop_succ_cons, List.take_succ_cons, List.take_zero, edgeL, -List.getD_eq_getElem?_getD]
theorem edgeApi_all (nl : Bool) (W : Waf) (nid : Nat) (h : waferV W = 0) (hp : W.pass.length ≤ 1000000) : ACall Tryd.prog 8 [wafP nl W] [] nid (.tup [.sl nid 0 (edgeL W).length, .int .i64 0]) [(nid, arrPl (doneP (innerP W) (plV W)))] := by
  have hW := waferV_ok h
  refine acall_run c8 (by simp [a8]) ?_
  unfold wafP
  simp -dsimp only [a8, aqT, ROp, OX, ↓seqK, ↓blkK, ↓loopK, step, stepBin, res, stepIdx, mix, PV.cells, argSlots, Nat.reduceBEq, Nat.reduceBeqDiff, Nat.add_assoc nid, Nat.reduceAdd, reduceCtorEq, ↓reduceIte, Nat.reduceLeDiff, colPV, freeOf, indep, offO, neqO, disj, namesX, axSlot, opXs, rdXs, idsOf, idsOfs, lowH, lowAll, keys, Nat.reduceBneDiff, Option.toList, ← Int.ofNat_tmod, ← Int.ofNat_tdiv, optInt, fillP, repl, chunk, mkCols, mkCol, colInts, colBools, colStrs, colLits, colsApp, Col.app, tailOf, splice, colsPut, Col.put, mmFold, eqK, Nat.reduceLT, colsPaste, Col.paste, mNew, mkKey, keyIn, mGet, mPut, Int.cast_ofNat_Int, Int.reduceBEq, Int.reduceBNe, Int.reduceLT, Int.reduceLE, Int.reduceAdd, Int.reduceSub, Int.reduceMul, Int.reduceToNat, Int.reduceNeg, Int.reduceTMod, Int.reduceEq, not_false_eq_true, Int.reducePow, Int.reduceFDiv, Nat.reducePow, Nat.reduceSub, Nat.reduceMul, Nat.min_eq_left, Nat.reduceEqDiff, BEq.rfl, Int.tdiv_one, LN_succ]
  refine CallO.pure (checkWafer_all nl W _ (hW.bd hp)) ?_
  rw [h]
  simp -dsimp only [aqT, ROp, OX, ↓seqK, ↓blkK, ↓loopK, step, stepBin, res, stepIdx, mix, PV.cells, argSlots, Nat.reduceBEq, Nat.reduceBeqDiff, Nat.add_assoc nid, Nat.reduceAdd, reduceCtorEq, ↓reduceIte, Nat.reduceLeDiff, colPV, freeOf, indep, offO, neqO, disj, namesX, axSlot, opXs, rdXs, idsOf, idsOfs, lowH, lowAll, keys, Nat.reduceBneDiff, Option.toList, ← Int.ofNat_tmod, ← Int.ofNat_tdiv, optInt, fillP, repl, chunk, mkCols, mkCol, colInts, colBools, colStrs, colLits, colsApp, Col.app, tailOf, splice, colsPut, Col.put, mmFold, eqK, Nat.reduceLT, colsPaste, Col.paste, mNew, mkKey, keyIn, mGet, mPut, Int.cast_ofNat_Int, Int.reduceBEq, Int.reduceBNe, Int.reduceLT, Int.reduceLE, Int.reduceAdd, Int.reduceSub, Int.reduceMul, Int.reduceToNat, Int.reduceNeg, Int.reduceTMod, Int.reduceEq, not_false_eq_true, Int.reducePow, Int.reduceFDiv, Nat.reducePow, Nat.reduceSub, Nat.reduceMul, Nat.min_eq_left, Nat.reduceEqDiff, BEq.rfl, Int.tdiv_one, LN_succ]
  refine CallO.pure (edge_all nl W _ hW) ?_
  unfold arrPl
  simp -dsimp only [aqT, ROp, OX, ↓seqK, ↓blkK, ↓loopK, step, stepBin, res, stepIdx, mix, PV.cells, argSlots, Nat.reduceBEq, Nat.reduceBeqDiff, Nat.add_assoc nid, Nat.reduceAdd, reduceCtorEq, ↓reduceIte, Nat.reduceLeDiff, colPV, freeOf, indep, offO, neqO, disj, namesX, axSlot, opXs, rdXs, idsOf, idsOfs, lowH, lowAll, keys, Nat.reduceBneDiff, Option.toList, ← Int.ofNat_tmod, ← Int.ofNat_tdiv, optInt, fillP, repl, chunk, mkCols, mkCol, colInts, colBools, colStrs, colLits, colsApp, Col.app, tailOf, splice, colsPut, Col.put, mmFold, eqK, Nat.reduceLT, colsPaste, Col.paste, mNew, mkKey, keyIn, mGet, mPut, Int.cast_ofNat_Int, Int.reduceBEq, Int.reduceBNe, Int.reduceLT, Int.reduceLE, Int.reduceAdd, Int.reduceSub, Int.reduceMul, Int.reduceToNat, Int.reduceNeg, Int.reduceTMod, Int.reduceEq, not_false_eq_true, Int.reducePow, Int.reduceFDiv, Nat.reducePow, Nat.reduceSub, Nat.reduceMul, Nat.min_eq_left, Nat.reduceEqDiff, BEq.rfl, Int.tdiv_one, LN_succ]
  refine RetOK.go [(nid, nid + 36)] [] (.inl rfl) ?_
  simp [a8, retPV, over, keys, List.map_nil, List.map_cons, List.contains_cons, List.contains_nil, Bool.or_false, Bool.or_true, Bool.true_or, Bool.false_or, beq_self_eq_true, cond_true, cond_false, HeapCov, orNil, nilSz, onBlk, srcOf, getH_hit, getH_miss, getH.eq_1, getS_hit, getS_miss, getS.eq_1, BlkCov, PVCovs, PVCov, ColsEq, ColEq.refl, liveIds, SlotsCov, List.all_nil, List.all_cons, List.any_nil, List.any_cons, List.nil_append, List.cons_append, inRange, apart, nilBlk, idS1, idS2, readAll, readRes, onAll, step, res, AX.val, List.drop_zero, List.drop_succ_cons, List.take_succ_cons, List.take_zero, -List.getD_eq_getElem?_getD]
end Go.Proofs.YtmgfcjblclanmaaDoor
/-
  The rings of a right wafer, by the abstract machine: what is seen.
-/
namespace Go.Proofs.YtmgfcjblclanmaaDoor
open Go.RowKit
set_option linter.unusedVariables false
set_option linter.unusedSimpArgs false
set_option maxRecDepth 100000
def seenD (S : List Pt) (q : MK) : Bool := S.any fun p => decide (q = MK.p p.1 p.2)
theorem seenD_snoc (S : List Pt) (a : Pt) : (fun p => if p = MK.p a.1 a.2 then true else seenD S p) = seenD (S ++ [a]) := by
  funext q
  unfold seenD
  rw [List.any_append]
  by_cases h : q = MK.p a.1 a.2 <;> simp [h]
theorem seenD_nil : (fun _ : MK => false) = seenD [] := by funext q; rfl
theorem seenD_self (S : List Pt) (a : Pt) : seenD (S ++ [a]) (MK.p a.1 a.2) = true := by rw [← seenD_snoc]; simp
theorem seenD_mono (S : List Pt) (a : Pt) {q : MK} (h : seenD S q = true) : seenD (S ++ [a]) q = true := by
  rw [← seenD_snoc]; simp [h]
def mapS (S : List Pt) : Option ABlk := some (.map .p (seenD S) (.b (seenD S)))
theorem countP_lt' {F G : Pt → Bool} {q : Pt} (hq : F q = true) (hG : G q = false) (h : ∀ p, G p = true → F p = true) : ∀ {l : List Pt}, q ∈ l → l.countP G < l.countP F
  | [], hm => by simp at hm
  | a :: l, hm => by
    have hle : l.countP G ≤ l.countP F := List.countP_mono_left fun p _ => h p
    rw [List.countP_cons, List.countP_cons]
    rcases List.mem_cons.1 hm with rfl | hm
    · rw [hq, hG]; simp; omega
    · have := countP_lt' hq hG h hm
      cases hg : G a
      · simp; omega
      · rw [h a hg]; simp; omega
/-- how many places are not seen -/
def muV (W : Waf) (S : List Pt) : Nat := (plV W).countP fun p => !seenD S (MK.p p.1 p.2)
theorem muV_le {W : Waf} (hW : WafOk W) (S : List Pt) : muV W S ≤ 60000 := by
  have h1 := plTo_bd hW (Nat.le_refl _)
  have h2 := List.countP_le_length (p := fun p : Pt => !seenD S (MK.p p.1 p.2)) (l := plV W)
  unfold muV plV at *
  omega
theorem muV_lt {W : Waf} {S : List Pt} {q : Pt} (hq : q ∈ plV W) (hs : seenD S (MK.p q.1 q.2) = false) : muV W (S ++ [q]) < muV W S := by
  refine countP_lt' (q := q) (by simp [hs]) (by simp [seenD_self]) (fun p hp => ?_) hq
  cases h : seenD S (MK.p p.1 p.2)
  · rfl
  · rw [seenD_mono S q h] at hp; cases hp
theorem die_mem {W : Waf} (hW : WafOk W) {q : Pt} (h : dieV W q.1 q.2 ≠ 46) : q ∈ plV W := by
  obtain ⟨x, y⟩ := q
  unfold dieV outB at h
  simp only at h
  split at h
  · contradiction
  split at h
  · contradiction
  rename_i h1 h2
  simp at h1 h2
  have hp := hW.pos
  have hr := (hW.at (y := y.toNat) (by omega)).1
  have hw := hW.wide.1
  unfold plV plTo rowPl
  rw [List.mem_flatMap]
  refine ⟨y.toNat, List.mem_range.2 (by omega), ?_⟩
  rw [List.mem_map]
  refine ⟨x.toNat, List.mem_range.2 (by omega), ?_⟩
  ext <;> simp <;> omega
def arrFr (l : List Pt) : Option ABlk := some (.arr 42 l.length [.i .i64 fun i => (l.getD i p0).1, .i .i64 fun i => (l.getD i p0).2])
def arrBl (l : List Bool) : Option ABlk := some (.arr 4 l.length [.b fun i => l.getD i false])
structure RgS where
  A : List Pt
  r : Nat
  S : List Pt
  fr : List Pt
  an : List Bool
structure RgOk (W : Waf) (x : RgS) : Prop where
  le : x.r ≤ x.A.length
  len : x.A.length ≤ 60000
  mem : ∀ i, i < x.r → x.A.getD i p0 ∈ plV W
  sum : x.fr.length + muV W x.S + (if 0 < x.r then 1 else 0) ≤ 60001
  eq : x.fr.length = x.an.length
  none : x.fr.length = 0 → x.r = (edgeL W).length
  some : x.fr.length ≠ 0 → (edgeL W).length ≠ 0
end Go.Proofs.YtmgfcjblclanmaaDoor
/-
  The rings of a right wafer, by the abstract machine.
-/
namespace Go.Proofs.YtmgfcjblclanmaaDoor
open Go.RowKit
set_option linter.unusedVariables false
set_option linter.unusedSimpArgs false
set_option maxRecDepth 100000
theorem edgeL_len {W : Waf} (hW : WafOk W) : (edgeL W).length ≤ 60000 := by
  have h1 := plTo_bd hW (Nat.le_refl _)
  have h2 := keepP_len (innerP W) (plV W)
  unfold edgeL
  unfold plV at *
  omega
theorem getD_appB (l : List Bool) (x : Bool) : (fun i => if i < l.length then l.getD i false else [x].getD (i - l.length) false) = fun i => (l ++ [x]).getD i false := by
  funext i
  simp only [List.getD_eq_getElem?_getD, List.getElem?_append]
  split <;> rfl
set_option maxHeartbeats 8000000 in
theorem rings_all (nl : Bool) (W : Waf) (nid : Nat) (h : waferV W = 0) (hp : W.pass.length ≤ 1000000) :
    ∃ x : List Pt × List Bool, (x.1.length = x.2.length ∧ x.1.length ≤ 60001 ∧ (x.1.length = 0 ↔ (edgeL W).length = 0)) ∧ ACall Tryd.prog 7 [wafP nl W] [] nid (.tup [.sl nid 0 x.1.length, .sl (nid + 1) 0 x.2.length, .int .i64 0]) [(nid, arrFr x.1), (nid + 1, arrBl x.2)] := by
  have hW := waferV_ok h
  have hel := edgeL_len hW
  have hdl : (doneP (innerP W) (plV W)).length ≤ 60000 := by
    have h1 := plTo_bd hW (Nat.le_refl _)
    rw [doneP_len]; exact h1
  have hkd : (edgeL W).length ≤ (doneP (innerP W) (plV W)).length := by
    have h2 := keepP_len (innerP W) (plV W)
    rw [doneP_len]; exact h2
  have hin : ∀ i, i < (edgeL W).length → (doneP (innerP W) (plV W)).getD i p0 ∈ plV W := fun i hi => by
    have hi' : i < (keepP (innerP W) (plV W)).length := hi
    unfold doneP
    rw [List.getD_eq_getElem?_getD, List.getElem?_append_left hi', ← List.getD_eq_getElem?_getD]
    have := ptMem (l := keepP (innerP W) (plV W)) (k := i) hi
    exact (List.mem_filter.1 this).1
  refine acall_ex c7 (by simp [a7]) ?_
  unfold wafP
  simp -dsimp only [aqT0, ROp0, aqT, ROp, OX, ↓seqK, ↓blkK, ↓loopK, step, stepBin, res, stepIdx, mix, PV.cells, argSlots, Nat.reduceBEq, Nat.reduceBeqDiff, Nat.add_assoc nid, Nat.reduceAdd, reduceCtorEq, ↓reduceIte, Nat.reduceLeDiff, colPV, freeOf, indep, offO, neqO, disj, namesX, axSlot, opXs, rdXs, idsOf, idsOfs, lowH, lowAll, keys, Nat.reduceBneDiff, Option.toList, ← Int.ofNat_tmod, ← Int.ofNat_tdiv, optInt, fillP, repl, chunk, mkCols, mkCol, colInts, colBools, colStrs, colLits, colsApp, Col.app, tailOf, splice, colsPut, Col.put, mmFold, eqK, Nat.reduceLT, colsPaste, Col.paste, mNew, mkKey, keyIn, mGet, mPut, Int.cast_ofNat_Int, Int.reduceBEq, Int.reduceBNe, Int.reduceLT, Int.reduceLE, Int.reduceAdd, Int.reduceSub, Int.reduceMul, Int.reduceToNat, Int.reduceNeg, Int.reduceTMod, Int.reduceEq, not_false_eq_true, Int.reducePow, Int.reduceFDiv, Nat.reducePow, Nat.reduceSub, Nat.reduceMul, Nat.min_eq_left, Nat.reduceEqDiff, BEq.rfl, Int.tdiv_one, LN_succ, a7]
  refine CallX.pure (checkWafer_all nl W _ (hW.bd hp)) ?_
  rw [h]
  simp -dsimp only [aqT0, ROp0, aqT, ROp, OX, ↓seqK, ↓blkK, ↓loopK, step, stepBin, res, stepIdx, mix, PV.cells, argSlots, Nat.reduceBEq, Nat.reduceBeqDiff, Nat.add_assoc nid, Nat.reduceAdd, reduceCtorEq, ↓reduceIte, Nat.reduceLeDiff, colPV, freeOf, indep, offO, neqO, disj, namesX, axSlot, opXs, rdXs, idsOf, idsOfs, lowH, lowAll, keys, Nat.reduceBneDiff, Option.toList, ← Int.ofNat_tmod, ← Int.ofNat_tdiv, optInt, fillP, repl, chunk, mkCols, mkCol, colInts, colBools, colStrs, colLits, colsApp, Col.app, tailOf, splice, colsPut, Col.put, mmFold, eqK, Nat.reduceLT, colsPaste, Col.paste, mNew, mkKey, keyIn, mGet, mPut, Int.cast_ofNat_Int, Int.reduceBEq, Int.reduceBNe, Int.reduceLT, Int.reduceLE, Int.reduceAdd, Int.reduceSub, Int.reduceMul, Int.reduceToNat, Int.reduceNeg, Int.reduceTMod, Int.reduceEq, not_false_eq_true, Int.reducePow, Int.reduceFDiv, Nat.reducePow, Nat.reduceSub, Nat.reduceMul, Nat.min_eq_left, Nat.reduceEqDiff, BEq.rfl, Int.tdiv_one, LN_succ]
  refine CallX.pure (edge_all nl W _ hW) ?_
  generalize hA : doneP (innerP W) (plV W) = A0 at *
  generalize hE : (edgeL W).length = e at *
  unfold arrPl
  simp -dsimp only [aqT0, ROp0, aqT, ROp, OX, ↓seqK, ↓blkK, ↓loopK, step, stepBin, res, stepIdx, mix, PV.cells, argSlots, Nat.reduceBEq, Nat.reduceBeqDiff, Nat.add_assoc nid, Nat.reduceAdd, reduceCtorEq, ↓reduceIte, Nat.reduceLeDiff, colPV, freeOf, indep, offO, neqO, disj, namesX, axSlot, opXs, rdXs, idsOf, idsOfs, lowH, lowAll, keys, Nat.reduceBneDiff, Option.toList, ← Int.ofNat_tmod, ← Int.ofNat_tdiv, optInt, fillP, repl, chunk, mkCols, mkCol, colInts, colBools, colStrs, colLits, colsApp, Col.app, tailOf, splice, colsPut, Col.put, mmFold, eqK, Nat.reduceLT, colsPaste, Col.paste, mNew, mkKey, keyIn, mGet, mPut, Int.cast_ofNat_Int, Int.reduceBEq, Int.reduceBNe, Int.reduceLT, Int.reduceLE, Int.reduceAdd, Int.reduceSub, Int.reduceMul, Int.reduceToNat, Int.reduceNeg, Int.reduceTMod, Int.reduceEq, not_false_eq_true, Int.reducePow, Int.reduceFDiv, Nat.reducePow, Nat.reduceSub, Nat.reduceMul, Nat.min_eq_left, Nat.reduceEqDiff, BEq.rfl, Int.tdiv_one, LN_succ]
  have hs0 : seenD (A0.take 0) = fun _ => false := by rw [List.take_zero]; exact seenD_nil.symm
  have hsk : ∀ k, k < A0.length → A0.take (k + 1) = A0.take k ++ [A0.getD k p0] := fun k hk => take_snoc (by rw [List.getD_eq_getElem?_getD, List.getElem?_eq_getElem hk]; rfl)
  refine LP0.mkP (fun k : Nat => k ≤ e) (fun k : Nat => ⟨[(29, .int .i64 k), (28, .int .i64 e), (27, .sl (nid + 56) 0 e), (9, .sl (nid + 56) 0 e), (8, .mp (nid + 44)), (7, .lit true 0 []), (6, .lit true 0 []), (1, .ptr nid 0)], [(nid + 56, arrPl A0), (nid + 44, mapS (A0.take k)), (nid, boxW nl W)], nid + 100, nid⟩) (fun k => e + 1 - k) 0 (by omega) (Cov.go [] [] ?_) (fun k hk => ?_)
  · unfold mapS
    rw [hs0]
    simp [retPV, over, keys, List.map_nil, List.map_cons, List.contains_cons, List.contains_nil, Bool.or_false, Bool.or_true, Bool.true_or, Bool.false_or, beq_self_eq_true, cond_true, cond_false, HeapCov, orNil, nilSz, onBlk, srcOf, getH_hit, getH_miss, getH.eq_1, getS_hit, getS_miss, getS.eq_1, BlkCov, PVCovs, PVCov, ColsEq, ColEq.refl, liveIds, SlotsCov, List.all_nil, List.all_cons, List.any_nil, List.any_cons, List.nil_append, List.cons_append, inRange, apart, nilBlk, idS1, idS2, readAll, readRes, onAll, step, res, AX.val, List.drop_zero, List.drop_succ_cons, List.take_succ_cons, List.take_zero, arrPl, boxW]
  unfold arrPl boxW mapS
  simp -dsimp only [aqT0, ROp0, aqT, ROp, OX, ↓seqK, ↓blkK, ↓loopK, step, stepBin, res, stepIdx, mix, PV.cells, argSlots, Nat.reduceBEq, Nat.reduceBeqDiff, Nat.add_assoc nid, Nat.reduceAdd, reduceCtorEq, ↓reduceIte, Nat.reduceLeDiff, colPV, freeOf, indep, offO, neqO, disj, namesX, axSlot, opXs, rdXs, idsOf, idsOfs, lowH, lowAll, keys, Nat.reduceBneDiff, Option.toList, ← Int.ofNat_tmod, ← Int.ofNat_tdiv, optInt, fillP, repl, chunk, mkCols, mkCol, colInts, colBools, colStrs, colLits, colsApp, Col.app, tailOf, splice, colsPut, Col.put, mmFold, eqK, Nat.reduceLT, colsPaste, Col.paste, mNew, mkKey, keyIn, mGet, mPut, Int.cast_ofNat_Int, Int.reduceBEq, Int.reduceBNe, Int.reduceLT, Int.reduceLE, Int.reduceAdd, Int.reduceSub, Int.reduceMul, Int.reduceToNat, Int.reduceNeg, Int.reduceTMod, Int.reduceEq, not_false_eq_true, Int.reducePow, Int.reduceFDiv, Nat.reducePow, Nat.reduceSub, Nat.reduceMul, Nat.min_eq_left, Nat.reduceEqDiff, BEq.rfl, Int.tdiv_one, LN_succ]
  refine S2.dec (fun h1 => ?_) (fun h1 => ?_) <;> simp -dsimp only [aqT0, ROp0, aqT, ROp, OX, ↓seqK, ↓blkK, ↓loopK, step, stepBin, res, stepIdx, mix, PV.cells, argSlots, Nat.reduceBEq, Nat.reduceBeqDiff, Nat.add_assoc nid, Nat.reduceAdd, reduceCtorEq, ↓reduceIte, Nat.reduceLeDiff, colPV, freeOf, indep, offO, neqO, disj, namesX, axSlot, opXs, rdXs, idsOf, idsOfs, lowH, lowAll, keys, Nat.reduceBneDiff, Option.toList, ← Int.ofNat_tmod, ← Int.ofNat_tdiv, optInt, fillP, repl, chunk, mkCols, mkCol, colInts, colBools, colStrs, colLits, colsApp, Col.app, tailOf, splice, colsPut, Col.put, mmFold, eqK, Nat.reduceLT, colsPaste, Col.paste, mNew, mkKey, keyIn, mGet, mPut, Int.cast_ofNat_Int, Int.reduceBEq, Int.reduceBNe, Int.reduceLT, Int.reduceLE, Int.reduceAdd, Int.reduceSub, Int.reduceMul, Int.reduceToNat, Int.reduceNeg, Int.reduceTMod, Int.reduceEq, not_false_eq_true, Int.reducePow, Int.reduceFDiv, Nat.reducePow, Nat.reduceSub, Nat.reduceMul, Nat.min_eq_left, Nat.reduceEqDiff, BEq.rfl, Int.tdiv_one, LN_succ]
  · have hka : k < A0.length := by omega
    obtain ⟨i1, i2⟩ := plV_in' hW (hin k (by omega))
    rw [seenD_snoc, ← hsk k hka]
    refine ⟨by omega, ⟨i1, i2⟩, by unfold inI64; omega, k + 1, ⟨by omega, by omega⟩, Cov.go [] [] ?_⟩
    simp [retPV, over, keys, List.map_nil, List.map_cons, List.contains_cons, List.contains_nil, Bool.or_false, Bool.or_true, Bool.true_or, Bool.false_or, beq_self_eq_true, cond_true, cond_false, HeapCov, orNil, nilSz, onBlk, srcOf, getH_hit, getH_miss, getH.eq_1, getS_hit, getS_miss, getS.eq_1, BlkCov, PVCovs, PVCov, ColsEq, ColEq.refl, liveIds, SlotsCov, List.all_nil, List.all_cons, List.any_nil, List.any_cons, List.nil_append, List.cons_append, inRange, apart, nilBlk, idS1, idS2, readAll, readRes, onAll, step, res, AX.val, List.drop_zero, List.drop_succ_cons, List.take_succ_cons, List.take_zero, arrPl, boxW, mapS]
  have hke : k = e := by omega
  subst hke
  clear h1
  refine LP0.mkP (RgOk W) (fun x : RgS => ⟨[(9, .sl (nid + 16) 0 x.r), (8, .mp (nid + 12)), (7, .sl (nid + 8) 0 x.an.length), (6, .sl (nid + 4) 0 x.fr.length), (1, .ptr nid 0)], [(nid, boxW nl W), (nid + 4, arrFr x.fr), (nid + 8, arrBl x.an), (nid + 12, mapS x.S), (nid + 16, arrPl x.A)], nid + 100, nid⟩) (fun x => muV W x.S + (if 0 < x.r then 1 else 0)) ⟨A0, k, A0.take k, [], []⟩ ⟨hkd, hdl, hin, ?_, rfl, fun _ => hE.symm, fun hc => absurd rfl hc⟩ (Cov.go [(nid + 16, nid + 56), (nid + 12, nid + 44)] [(nid + 4, 2), (nid + 8, 1)] ?_) (fun x hx => ?_)
  · have := muV_le hW (A0.take k)
    simp only [List.length_nil]
    split <;> omega
  · simp [retPV, over, keys, List.map_nil, List.map_cons, List.contains_cons, List.contains_nil, Bool.or_false, Bool.or_true, Bool.true_or, Bool.false_or, beq_self_eq_true, cond_true, cond_false, HeapCov, orNil, nilSz, onBlk, srcOf, getH_hit, getH_miss, getH.eq_1, getS_hit, getS_miss, getS.eq_1, BlkCov, PVCovs, PVCov, ColsEq, ColEq.refl, liveIds, SlotsCov, List.all_nil, List.all_cons, List.any_nil, List.any_cons, List.nil_append, List.cons_append, inRange, apart, nilBlk, idS1, idS2, readAll, readRes, onAll, step, res, AX.val, List.drop_zero, List.drop_succ_cons, List.take_succ_cons, List.take_zero, arrPl, boxW, mapS, arrFr, arrBl]
  obtain ⟨A, r, S, fr, an⟩ := x
  obtain ⟨x1, x2, x3, x4, x5, x6, x7⟩ := hx
  simp only at x1 x2 x3 x4 x5 x6 x7
  unfold arrPl boxW mapS arrFr arrBl
  simp -dsimp only [aqT0, ROp0, aqT, ROp, OX, ↓seqK, ↓blkK, ↓loopK, step, stepBin, res, stepIdx, mix, PV.cells, argSlots, Nat.reduceBEq, Nat.reduceBeqDiff, Nat.add_assoc nid, Nat.reduceAdd, reduceCtorEq, ↓reduceIte, Nat.reduceLeDiff, colPV, freeOf, indep, offO, neqO, disj, namesX, axSlot, opXs, rdXs, idsOf, idsOfs, lowH, lowAll, keys, Nat.reduceBneDiff, Option.toList, ← Int.ofNat_tmod, ← Int.ofNat_tdiv, optInt, fillP, repl, chunk, mkCols, mkCol, colInts, colBools, colStrs, colLits, colsApp, Col.app, tailOf, splice, colsPut, Col.put, mmFold, eqK, Nat.reduceLT, colsPaste, Col.paste, mNew, mkKey, keyIn, mGet, mPut, Int.cast_ofNat_Int, Int.reduceBEq, Int.reduceBNe, Int.reduceLT, Int.reduceLE, Int.reduceAdd, Int.reduceSub, Int.reduceMul, Int.reduceToNat, Int.reduceNeg, Int.reduceTMod, Int.reduceEq, not_false_eq_true, Int.reducePow, Int.reduceFDiv, Nat.reducePow, Nat.reduceSub, Nat.reduceMul, Nat.min_eq_left, Nat.reduceEqDiff, BEq.rfl, Int.tdiv_one, LN_succ]
  refine S2.dec (fun h1 => ?_) (fun h1 => ?_) <;> simp -dsimp only [aqT0, ROp0, aqT, ROp, OX, ↓seqK, ↓blkK, ↓loopK, step, stepBin, res, stepIdx, mix, PV.cells, argSlots, Nat.reduceBEq, Nat.reduceBeqDiff, Nat.add_assoc nid, Nat.reduceAdd, reduceCtorEq, ↓reduceIte, Nat.reduceLeDiff, colPV, freeOf, indep, offO, neqO, disj, namesX, axSlot, opXs, rdXs, idsOf, idsOfs, lowH, lowAll, keys, Nat.reduceBneDiff, Option.toList, ← Int.ofNat_tmod, ← Int.ofNat_tdiv, optInt, fillP, repl, chunk, mkCols, mkCol, colInts, colBools, colStrs, colLits, colsApp, Col.app, tailOf, splice, colsPut, Col.put, mmFold, eqK, Nat.reduceLT, colsPaste, Col.paste, mNew, mkKey, keyIn, mGet, mPut, Int.cast_ofNat_Int, Int.reduceBEq, Int.reduceBNe, Int.reduceLT, Int.reduceLE, Int.reduceAdd, Int.reduceSub, Int.reduceMul, Int.reduceToNat, Int.reduceNeg, Int.reduceTMod, Int.reduceEq, not_false_eq_true, Int.reducePow, Int.reduceFDiv, Nat.reducePow, Nat.reduceSub, Nat.reduceMul, Nat.min_eq_left, Nat.reduceEqDiff, BEq.rfl, Int.tdiv_one, LN_succ]
  · have hr1 : 0 < r := by omega
    rw [if_pos hr1] at x4
    have cg := cntTo_le (goodP W) A r
    have ca := cntTo_le (allP W) A r
    have hpi : ∀ i, i < r → inI64 (A.getD i p0).1 ∧ inI64 (A.getD i p0).2 := fun i hi => plV_in' hW (x3 i hi)
    refine CallX.lent [nid + 16] (fun nl' => by
      simp only [lends, lend, aqT, ROp, OX, ↓seqK, ↓blkK, ↓loopK, step, stepBin, res, stepIdx, mix, PV.cells, argSlots, Nat.reduceBEq, Nat.reduceBeqDiff, Nat.add_assoc nid, Nat.reduceAdd, reduceCtorEq, ↓reduceIte, Nat.reduceLeDiff, colPV, freeOf, indep, offO, neqO, disj, namesX, axSlot, opXs, rdXs, idsOf, idsOfs, lowH, lowAll, keys, Nat.reduceBneDiff, Option.toList, ← Int.ofNat_tmod, ← Int.ofNat_tdiv, optInt, fillP, repl, chunk, mkCols, mkCol, colInts, colBools, colStrs, colLits, colsApp, Col.app, tailOf, splice, colsPut, Col.put, mmFold, eqK, Nat.reduceLT, colsPaste, Col.paste, mNew, mkKey, keyIn, mGet, mPut, Int.cast_ofNat_Int, Int.reduceBEq, Int.reduceBNe, Int.reduceLT, Int.reduceLE, Int.reduceAdd, Int.reduceSub, Int.reduceMul, Int.reduceToNat, Int.reduceNeg, Int.reduceTMod, Int.reduceEq, not_false_eq_true, Int.reducePow, Int.reduceFDiv, Nat.reducePow, Nat.reduceSub, Nat.reduceMul, Nat.min_eq_left, Nat.reduceEqDiff, BEq.rfl, Int.tdiv_one, LN_succ]
      exact share_take nl (nl' _) W A r _ hW (by omega) (by omega) hpi) rfl rfl (by simp [getH]) ?_
    have hmx : max ((cntTo (allP W) A r : Nat) : Int) 1 = ((max (cntTo (allP W) A r) 1 : Nat) : Int) := by omega
    simp -dsimp only [aqT0, ROp0, aqT, ROp, OX, ↓seqK, ↓blkK, ↓loopK, step, stepBin, res, stepIdx, mix, PV.cells, argSlots, Nat.reduceBEq, Nat.reduceBeqDiff, Nat.add_assoc nid, Nat.reduceAdd, reduceCtorEq, ↓reduceIte, Nat.reduceLeDiff, colPV, freeOf, indep, offO, neqO, disj, namesX, axSlot, opXs, rdXs, idsOf, idsOfs, lowH, lowAll, keys, Nat.reduceBneDiff, Option.toList, ← Int.ofNat_tmod, ← Int.ofNat_tdiv, optInt, fillP, repl, chunk, mkCols, mkCol, colInts, colBools, colStrs, colLits, colsApp, Col.app, tailOf, splice, colsPut, Col.put, mmFold, eqK, Nat.reduceLT, colsPaste, Col.paste, mNew, mkKey, keyIn, mGet, mPut, Int.cast_ofNat_Int, Int.reduceBEq, Int.reduceBNe, Int.reduceLT, Int.reduceLE, Int.reduceAdd, Int.reduceSub, Int.reduceMul, Int.reduceToNat, Int.reduceNeg, Int.reduceTMod, Int.reduceEq, not_false_eq_true, Int.reducePow, Int.reduceFDiv, Nat.reducePow, Nat.reduceSub, Nat.reduceMul, Nat.min_eq_left, Nat.reduceEqDiff, BEq.rfl, Int.tdiv_one, LN_succ, kill]
    rw [hmx]
    refine CallX.pure (frac_c _ _ _ (by omega) (by omega) (by omega)) ?_
    generalize hq1 : cntTo (goodP W) A r / Nat.gcd (cntTo (goodP W) A r) (max (cntTo (allP W) A r) 1) = q1
    generalize hq2 : max (cntTo (allP W) A r) 1 / Nat.gcd (cntTo (goodP W) A r) (max (cntTo (allP W) A r) 1) = q2
    clear hmx
    generalize cntTo (goodP W) A r = g1 at *
    generalize cntTo (allP W) A r = g2 at *
    simp -dsimp only [aqT0, ROp0, aqT, ROp, OX, ↓seqK, ↓blkK, ↓loopK, step, stepBin, res, stepIdx, mix, PV.cells, argSlots, Nat.reduceBEq, Nat.reduceBeqDiff, Nat.add_assoc nid, Nat.reduceAdd, reduceCtorEq, ↓reduceIte, Nat.reduceLeDiff, colPV, freeOf, indep, offO, neqO, disj, namesX, axSlot, opXs, rdXs, idsOf, idsOfs, lowH, lowAll, keys, Nat.reduceBneDiff, Option.toList, ← Int.ofNat_tmod, ← Int.ofNat_tdiv, optInt, fillP, repl, chunk, mkCols, mkCol, colInts, colBools, colStrs, colLits, colsApp, Col.app, tailOf, splice, colsPut, Col.put, mmFold, eqK, Nat.reduceLT, colsPaste, Col.paste, mNew, mkKey, keyIn, mGet, mPut, Int.cast_ofNat_Int, Int.reduceBEq, Int.reduceBNe, Int.reduceLT, Int.reduceLE, Int.reduceAdd, Int.reduceSub, Int.reduceMul, Int.reduceToNat, Int.reduceNeg, Int.reduceTMod, Int.reduceEq, not_false_eq_true, Int.reducePow, Int.reduceFDiv, Nat.reducePow, Nat.reduceSub, Nat.reduceMul, Nat.min_eq_left, Nat.reduceEqDiff, BEq.rfl, Int.tdiv_one, LN_succ]
    rw [getD_appB, getD_appP fr ((q1 : Int), (q2 : Int)) rfl (fun q => q.1) rfl rfl, getD_appP fr ((q1 : Int), (q2 : Int)) rfl (fun q => q.2) rfl rfl]
    have hfl : fr.length ≤ 60001 := by omega
    have f1 : fr.length + 1 = (fr ++ [((q1 : Int), (q2 : Int))]).length := by simp
    have a1 : an.length + 1 = (an ++ [decide (0 < (g2 : Int))]).length := by simp
    have hfa : (fr ++ [((q1 : Int), (q2 : Int))]).length = (an ++ [decide (0 < (g2 : Int))]).length := by rw [← f1, ← a1, x5]
    refine ⟨⟨by omega, by omega⟩, ⟨by omega, by omega⟩, ?_⟩
    rw [f1, a1]
    have hf' : (fr ++ [((q1 : Int), (q2 : Int))]).length ≠ 0 := by rw [← f1]; omega
    have hrE : (edgeL W).length ≠ 0 := by
      by_cases hc : fr.length = 0
      · rw [← x6 hc]; omega
      · exact x7 hc
    have hfs : (fr ++ [((q1 : Int), (q2 : Int))]).length + muV W S ≤ 60001 := by rw [← f1]; omega
    clear x4 x5 x6 x7 hfl f1 a1 hq1 hq2
    generalize fr ++ [((q1 : Int), (q2 : Int))] = fr' at *
    generalize an ++ [decide (0 < (g2 : Int))] = an' at *
    refine LP0.mkP (fun x : Nat × List Pt => x.1 ≤ r ∧ x.2.length + muV W (S ++ x.2) ≤ muV W S ∧ ∀ q ∈ x.2, q ∈ plV W) (fun x => ⟨[(59, .int .i64 x.1), (58, .int .i64 r), (57, .sl (nid + 16) 0 r), (14, .sl (nid + 20) 0 x.2.length), (8, .mp (nid + 12)), (7, .sl (nid + 8) 0 an'.length), (6, .sl (nid + 4) 0 fr'.length), (1, .ptr nid 0)],
      [(nid, boxW nl W), (nid + 4, arrFr fr'), (nid + 8, arrBl an'), (nid + 12, mapS (S ++ x.2)), (nid + 16, arrPl A), (nid + 20, arrPl x.2)], nid + 300, nid⟩) (fun x => r + 1 - x.1) (0, []) ⟨by omega, by simp, by simp⟩ (Cov.go [(nid + 4, nid + 168), (nid + 8, nid + 188)] [(nid + 20, 2)] ?_) (fun x hx => ?_)
    · simp [retPV, over, keys, List.map_nil, List.map_cons, List.contains_cons, List.contains_nil, Bool.or_false, Bool.or_true, Bool.true_or, Bool.false_or, beq_self_eq_true, cond_true, cond_false, HeapCov, orNil, nilSz, onBlk, srcOf, getH_hit, getH_miss, getH.eq_1, getS_hit, getS_miss, getS.eq_1, BlkCov, PVCovs, PVCov, ColsEq, ColEq.refl, liveIds, SlotsCov, List.all_nil, List.all_cons, List.any_nil, List.any_cons, List.nil_append, List.cons_append, inRange, apart, nilBlk, idS1, idS2, readAll, readRes, onAll, step, res, AX.val, List.drop_zero, List.drop_succ_cons, List.take_succ_cons, List.take_zero, arrPl, boxW, mapS, arrFr, arrBl, -List.getD_eq_getElem?_getD]
    obtain ⟨k, L⟩ := x
    obtain ⟨y1, y2, y3⟩ := hx
    simp only at y1 y2 y3
    unfold arrPl boxW mapS arrFr arrBl
    simp -dsimp only [aqT0, ROp0, aqT, ROp, OX, ↓seqK, ↓blkK, ↓loopK, step, stepBin, res, stepIdx, mix, PV.cells, argSlots, Nat.reduceBEq, Nat.reduceBeqDiff, Nat.add_assoc nid, Nat.reduceAdd, reduceCtorEq, ↓reduceIte, Nat.reduceLeDiff, colPV, freeOf, indep, offO, neqO, disj, namesX, axSlot, opXs, rdXs, idsOf, idsOfs, lowH, lowAll, keys, Nat.reduceBneDiff, Option.toList, ← Int.ofNat_tmod, ← Int.ofNat_tdiv, optInt, fillP, repl, chunk, mkCols, mkCol, colInts, colBools, colStrs, colLits, colsApp, Col.app, tailOf, splice, colsPut, Col.put, mmFold, eqK, Nat.reduceLT, colsPaste, Col.paste, mNew, mkKey, keyIn, mGet, mPut, Int.cast_ofNat_Int, Int.reduceBEq, Int.reduceBNe, Int.reduceLT, Int.reduceLE, Int.reduceAdd, Int.reduceSub, Int.reduceMul, Int.reduceToNat, Int.reduceNeg, Int.reduceTMod, Int.reduceEq, not_false_eq_true, Int.reducePow, Int.reduceFDiv, Nat.reducePow, Nat.reduceSub, Nat.reduceMul, Nat.min_eq_left, Nat.reduceEqDiff, BEq.rfl, Int.tdiv_one, LN_succ]
    refine S2.dec (fun h2 => ?_) (fun h2 => ?_) <;> simp -dsimp only [aqT0, ROp0, aqT, ROp, OX, ↓seqK, ↓blkK, ↓loopK, step, stepBin, res, stepIdx, mix, PV.cells, argSlots, Nat.reduceBEq, Nat.reduceBeqDiff, Nat.add_assoc nid, Nat.reduceAdd, reduceCtorEq, ↓reduceIte, Nat.reduceLeDiff, colPV, freeOf, indep, offO, neqO, disj, namesX, axSlot, opXs, rdXs, idsOf, idsOfs, lowH, lowAll, keys, Nat.reduceBneDiff, Option.toList, ← Int.ofNat_tmod, ← Int.ofNat_tdiv, optInt, fillP, repl, chunk, mkCols, mkCol, colInts, colBools, colStrs, colLits, colsApp, Col.app, tailOf, splice, colsPut, Col.put, mmFold, eqK, Nat.reduceLT, colsPaste, Col.paste, mNew, mkKey, keyIn, mGet, mPut, Int.cast_ofNat_Int, Int.reduceBEq, Int.reduceBNe, Int.reduceLT, Int.reduceLE, Int.reduceAdd, Int.reduceSub, Int.reduceMul, Int.reduceToNat, Int.reduceNeg, Int.reduceTMod, Int.reduceEq, not_false_eq_true, Int.reducePow, Int.reduceFDiv, Nat.reducePow, Nat.reduceSub, Nat.reduceMul, Nat.min_eq_left, Nat.reduceEqDiff, BEq.rfl, Int.tdiv_one, LN_succ]
    · have hkr : k < r := by omega
      refine ⟨by omega, CallX.pure (around_all (A.getD k p0) _ (plV_bd hW (x3 k hkr))) ?_⟩
      have hin2 := fun q hq => (plV_bd hW (x3 k hkr)).ar (q := q) hq
      have har := arV_len (A.getD k p0)
      generalize arV (A.getD k p0) = R at *
      unfold arrPl
      simp -dsimp only [aqT0, ROp0, aqT, ROp, OX, ↓seqK, ↓blkK, ↓loopK, step, stepBin, res, stepIdx, mix, PV.cells, argSlots, Nat.reduceBEq, Nat.reduceBeqDiff, Nat.add_assoc nid, Nat.reduceAdd, reduceCtorEq, ↓reduceIte, Nat.reduceLeDiff, colPV, freeOf, indep, offO, neqO, disj, namesX, axSlot, opXs, rdXs, idsOf, idsOfs, lowH, lowAll, keys, Nat.reduceBneDiff, Option.toList, ← Int.ofNat_tmod, ← Int.ofNat_tdiv, optInt, fillP, repl, chunk, mkCols, mkCol, colInts, colBools, colStrs, colLits, colsApp, Col.app, tailOf, splice, colsPut, Col.put, mmFold, eqK, Nat.reduceLT, colsPaste, Col.paste, mNew, mkKey, keyIn, mGet, mPut, Int.cast_ofNat_Int, Int.reduceBEq, Int.reduceBNe, Int.reduceLT, Int.reduceLE, Int.reduceAdd, Int.reduceSub, Int.reduceMul, Int.reduceToNat, Int.reduceNeg, Int.reduceTMod, Int.reduceEq, not_false_eq_true, Int.reducePow, Int.reduceFDiv, Nat.reducePow, Nat.reduceSub, Nat.reduceMul, Nat.min_eq_left, Nat.reduceEqDiff, BEq.rfl, Int.tdiv_one, LN_succ]
      refine LP0.mkP (fun x : Nat × List Pt => x.1 ≤ R.length ∧ x.2.length + muV W (S ++ x.2) ≤ muV W S ∧ ∀ q ∈ x.2, q ∈ plV W) (fun x => ⟨[(66, .int .i64 x.1), (65, .int .i64 R.length), (64, .sl (nid + 24) 0 R.length), (59, .int .i64 k), (58, .int .i64 r), (57, .sl (nid + 16) 0 r), (14, .sl (nid + 20) 0 x.2.length), (8, .mp (nid + 12)), (7, .sl (nid + 8) 0 an'.length), (6, .sl (nid + 4) 0 fr'.length), (1, .ptr nid 0)],
        [(nid, boxW nl W), (nid + 4, arrFr fr'), (nid + 8, arrBl an'), (nid + 12, mapS (S ++ x.2)), (nid + 16, arrPl A), (nid + 20, arrPl x.2), (nid + 24, arrPl R)], nid + 500, nid⟩) (fun x => R.length + 1 - x.1) (0, L) ⟨by omega, y2, y3⟩ (Cov.go [(nid + 24, nid + 324)] [] ?_) (fun x hx => ?_)
      · simp [retPV, over, keys, List.map_nil, List.map_cons, List.contains_cons, List.contains_nil, Bool.or_false, Bool.or_true, Bool.true_or, Bool.false_or, beq_self_eq_true, cond_true, cond_false, HeapCov, orNil, nilSz, onBlk, srcOf, getH_hit, getH_miss, getH.eq_1, getS_hit, getS_miss, getS.eq_1, BlkCov, PVCovs, PVCov, ColsEq, ColEq.refl, liveIds, SlotsCov, List.all_nil, List.all_cons, List.any_nil, List.any_cons, List.nil_append, List.cons_append, inRange, apart, nilBlk, idS1, idS2, readAll, readRes, onAll, step, res, AX.val, List.drop_zero, List.drop_succ_cons, List.take_succ_cons, List.take_zero, arrPl, boxW, mapS, arrFr, arrBl, -List.getD_eq_getElem?_getD]
      clear y2 y3 h2
      obtain ⟨j, M⟩ := x
      obtain ⟨z1, z2, z3⟩ := hx
      simp only at z1 z2 z3
      unfold arrPl boxW mapS arrFr arrBl
      simp -dsimp only [aqT0, ROp0, aqT, ROp, OX, ↓seqK, ↓blkK, ↓loopK, step, stepBin, res, stepIdx, mix, PV.cells, argSlots, Nat.reduceBEq, Nat.reduceBeqDiff, Nat.add_assoc nid, Nat.reduceAdd, reduceCtorEq, ↓reduceIte, Nat.reduceLeDiff, colPV, freeOf, indep, offO, neqO, disj, namesX, axSlot, opXs, rdXs, idsOf, idsOfs, lowH, lowAll, keys, Nat.reduceBneDiff, Option.toList, ← Int.ofNat_tmod, ← Int.ofNat_tdiv, optInt, fillP, repl, chunk, mkCols, mkCol, colInts, colBools, colStrs, colLits, colsApp, Col.app, tailOf, splice, colsPut, Col.put, mmFold, eqK, Nat.reduceLT, colsPaste, Col.paste, mNew, mkKey, keyIn, mGet, mPut, Int.cast_ofNat_Int, Int.reduceBEq, Int.reduceBNe, Int.reduceLT, Int.reduceLE, Int.reduceAdd, Int.reduceSub, Int.reduceMul, Int.reduceToNat, Int.reduceNeg, Int.reduceTMod, Int.reduceEq, not_false_eq_true, Int.reducePow, Int.reduceFDiv, Nat.reducePow, Nat.reduceSub, Nat.reduceMul, Nat.min_eq_left, Nat.reduceEqDiff, BEq.rfl, Int.tdiv_one, LN_succ]
      refine S2.dec (fun h3 => ?_) (fun h3 => ?_) <;> simp -dsimp only [aqT0, ROp0, aqT, ROp, OX, ↓seqK, ↓blkK, ↓loopK, step, stepBin, res, stepIdx, mix, PV.cells, argSlots, Nat.reduceBEq, Nat.reduceBeqDiff, Nat.add_assoc nid, Nat.reduceAdd, reduceCtorEq, ↓reduceIte, Nat.reduceLeDiff, colPV, freeOf, indep, offO, neqO, disj, namesX, axSlot, opXs, rdXs, idsOf, idsOfs, lowH, lowAll, keys, Nat.reduceBneDiff, Option.toList, ← Int.ofNat_tmod, ← Int.ofNat_tdiv, optInt, fillP, repl, chunk, mkCols, mkCol, colInts, colBools, colStrs, colLits, colsApp, Col.app, tailOf, splice, colsPut, Col.put, mmFold, eqK, Nat.reduceLT, colsPaste, Col.paste, mNew, mkKey, keyIn, mGet, mPut, Int.cast_ofNat_Int, Int.reduceBEq, Int.reduceBNe, Int.reduceLT, Int.reduceLE, Int.reduceAdd, Int.reduceSub, Int.reduceMul, Int.reduceToNat, Int.reduceNeg, Int.reduceTMod, Int.reduceEq, not_false_eq_true, Int.reducePow, Int.reduceFDiv, Nat.reducePow, Nat.reduceSub, Nat.reduceMul, Nat.min_eq_left, Nat.reduceEqDiff, BEq.rfl, Int.tdiv_one, LN_succ]
      · have hjr : j < R.length := by omega
        obtain ⟨i1, i2⟩ := hin2 _ (ptMem hjr)
        refine ⟨by omega, CallX.pure (at_all nl W _ _ _ hW i1 i2) ?_⟩
        have hdm := die_mem hW (q := R.getD j p0)
        have hlt := muV_lt (W := W) (S := S ++ M) (q := R.getD j p0)
        have hml := muV_le hW S
        have hsn := seenD_snoc (S ++ M) (R.getD j p0)
        rw [List.append_assoc] at hlt hsn
        generalize R.getD j p0 = q at *
        generalize dieV W q.1 q.2 = d at *
        simp -dsimp only [aqT0, ROp0, aqT, ROp, OX, ↓seqK, ↓blkK, ↓loopK, step, stepBin, res, stepIdx, mix, PV.cells, argSlots, Nat.reduceBEq, Nat.reduceBeqDiff, Nat.add_assoc nid, Nat.reduceAdd, reduceCtorEq, ↓reduceIte, Nat.reduceLeDiff, colPV, freeOf, indep, offO, neqO, disj, namesX, axSlot, opXs, rdXs, idsOf, idsOfs, lowH, lowAll, keys, Nat.reduceBneDiff, Option.toList, ← Int.ofNat_tmod, ← Int.ofNat_tdiv, optInt, fillP, repl, chunk, mkCols, mkCol, colInts, colBools, colStrs, colLits, colsApp, Col.app, tailOf, splice, colsPut, Col.put, mmFold, eqK, Nat.reduceLT, colsPaste, Col.paste, mNew, mkKey, keyIn, mGet, mPut, Int.cast_ofNat_Int, Int.reduceBEq, Int.reduceBNe, Int.reduceLT, Int.reduceLE, Int.reduceAdd, Int.reduceSub, Int.reduceMul, Int.reduceToNat, Int.reduceNeg, Int.reduceTMod, Int.reduceEq, not_false_eq_true, Int.reducePow, Int.reduceFDiv, Nat.reducePow, Nat.reduceSub, Nat.reduceMul, Nat.min_eq_left, Nat.reduceEqDiff, BEq.rfl, Int.tdiv_one, LN_succ]
        refine S2.intro (fun h4 => ?_) (fun h4 => ?_) <;> simp -dsimp only [aqT0, ROp0, aqT, ROp, OX, ↓seqK, ↓blkK, ↓loopK, step, stepBin, res, stepIdx, mix, PV.cells, argSlots, Nat.reduceBEq, Nat.reduceBeqDiff, Nat.add_assoc nid, Nat.reduceAdd, reduceCtorEq, ↓reduceIte, Nat.reduceLeDiff, colPV, freeOf, indep, offO, neqO, disj, namesX, axSlot, opXs, rdXs, idsOf, idsOfs, lowH, lowAll, keys, Nat.reduceBneDiff, Option.toList, ← Int.ofNat_tmod, ← Int.ofNat_tdiv, optInt, fillP, repl, chunk, mkCols, mkCol, colInts, colBools, colStrs, colLits, colsApp, Col.app, tailOf, splice, colsPut, Col.put, mmFold, eqK, Nat.reduceLT, colsPaste, Col.paste, mNew, mkKey, keyIn, mGet, mPut, Int.cast_ofNat_Int, Int.reduceBEq, Int.reduceBNe, Int.reduceLT, Int.reduceLE, Int.reduceAdd, Int.reduceSub, Int.reduceMul, Int.reduceToNat, Int.reduceNeg, Int.reduceTMod, Int.reduceEq, not_false_eq_true, Int.reducePow, Int.reduceFDiv, Nat.reducePow, Nat.reduceSub, Nat.reduceMul, Nat.min_eq_left, Nat.reduceEqDiff, BEq.rfl, Int.tdiv_one, LN_succ]
        · have hq : q ∈ plV W := hdm (by simpa using h4)
          refine ⟨⟨i1, i2⟩, ?_⟩
          cases hs : seenD (S ++ M) (MK.p q.1 q.2) <;> simp -dsimp only [aqT0, ROp0, aqT, ROp, OX, ↓seqK, ↓blkK, ↓loopK, step, stepBin, res, stepIdx, mix, PV.cells, argSlots, Nat.reduceBEq, Nat.reduceBeqDiff, Nat.add_assoc nid, Nat.reduceAdd, reduceCtorEq, ↓reduceIte, Nat.reduceLeDiff, colPV, freeOf, indep, offO, neqO, disj, namesX, axSlot, opXs, rdXs, idsOf, idsOfs, lowH, lowAll, keys, Nat.reduceBneDiff, Option.toList, ← Int.ofNat_tmod, ← Int.ofNat_tdiv, optInt, fillP, repl, chunk, mkCols, mkCol, colInts, colBools, colStrs, colLits, colsApp, Col.app, tailOf, splice, colsPut, Col.put, mmFold, eqK, Nat.reduceLT, colsPaste, Col.paste, mNew, mkKey, keyIn, mGet, mPut, Int.cast_ofNat_Int, Int.reduceBEq, Int.reduceBNe, Int.reduceLT, Int.reduceLE, Int.reduceAdd, Int.reduceSub, Int.reduceMul, Int.reduceToNat, Int.reduceNeg, Int.reduceTMod, Int.reduceEq, not_false_eq_true, Int.reducePow, Int.reduceFDiv, Nat.reducePow, Nat.reduceSub, Nat.reduceMul, Nat.min_eq_left, Nat.reduceEqDiff, BEq.rfl, Int.tdiv_one, LN_succ]
          · have hlt' := hlt hq hs
            rw [hsn, getD_appP M q rfl (fun q => q.1) rfl rfl, getD_appP M q rfl (fun q => q.2) rfl rfl]
            have hl3 : M.length + 1 = (M ++ [q]).length := by simp
            rw [hl3]
            refine ⟨⟨i1, i2⟩, ⟨by omega, by omega⟩, by unfold inI64; omega, (j + 1, M ++ [q]), ⟨⟨by simp only; omega, by simp only; omega, fun a ha => ?_⟩, by simp only; omega⟩, Cov.go [(nid + 20, nid + 584)] [] ?_⟩
            · rcases List.mem_append.1 ha with ha | ha
              · exact z3 a ha
              · rw [List.mem_singleton.1 ha]; exact hq
            · simp [retPV, over, keys, List.map_nil, List.map_cons, List.contains_cons, List.contains_nil, Bool.or_false, Bool.or_true, Bool.true_or, Bool.false_or, beq_self_eq_true, cond_true, cond_false, HeapCov, orNil, nilSz, onBlk, srcOf, getH_hit, getH_miss, getH.eq_1, getS_hit, getS_miss, getS.eq_1, BlkCov, PVCovs, PVCov, ColsEq, ColEq.refl, liveIds, SlotsCov, List.all_nil, List.all_cons, List.any_nil, List.any_cons, List.nil_append, List.cons_append, inRange, apart, nilBlk, idS1, idS2, readAll, readRes, onAll, step, res, AX.val, List.drop_zero, List.drop_succ_cons, List.take_succ_cons, List.take_zero, arrPl, boxW, mapS, arrFr, arrBl, -List.getD_eq_getElem?_getD, -List.length_append]
          · refine ⟨by unfold inI64; omega, (j + 1, M), ⟨⟨by simp only; omega, z2, z3⟩, by simp only; omega⟩, Cov.go [] [] ?_⟩
            simp [retPV, over, keys, List.map_nil, List.map_cons, List.contains_cons, List.contains_nil, Bool.or_false, Bool.or_true, Bool.true_or, Bool.false_or, beq_self_eq_true, cond_true, cond_false, HeapCov, orNil, nilSz, onBlk, srcOf, getH_hit, getH_miss, getH.eq_1, getS_hit, getS_miss, getS.eq_1, BlkCov, PVCovs, PVCov, ColsEq, ColEq.refl, liveIds, SlotsCov, List.all_nil, List.all_cons, List.any_nil, List.any_cons, List.nil_append, List.cons_append, inRange, apart, nilBlk, idS1, idS2, readAll, readRes, onAll, step, res, AX.val, List.drop_zero, List.drop_succ_cons, List.take_succ_cons, List.take_zero, arrPl, boxW, mapS, arrFr, arrBl, -List.getD_eq_getElem?_getD]
        · refine ⟨by unfold inI64; omega, (j + 1, M), ⟨⟨by simp only; omega, z2, z3⟩, by simp only; omega⟩, Cov.go [] [] ?_⟩
          simp [retPV, over, keys, List.map_nil, List.map_cons, List.contains_cons, List.contains_nil, Bool.or_false, Bool.or_true, Bool.true_or, Bool.false_or, beq_self_eq_true, cond_true, cond_false, HeapCov, orNil, nilSz, onBlk, srcOf, getH_hit, getH_miss, getH.eq_1, getS_hit, getS_miss, getS.eq_1, BlkCov, PVCovs, PVCov, ColsEq, ColEq.refl, liveIds, SlotsCov, List.all_nil, List.all_cons, List.any_nil, List.any_cons, List.nil_append, List.cons_append, inRange, apart, nilBlk, idS1, idS2, readAll, readRes, onAll, step, res, AX.val, List.drop_zero, List.drop_succ_cons, List.take_succ_cons, List.take_zero, arrPl, boxW, mapS, arrFr, arrBl, -List.getD_eq_getElem?_getD]
      · refine ⟨by unfold inI64; omega, (k + 1, M), ⟨⟨by simp only; omega, z2, z3⟩, by simp only; omega⟩, Cov.go [] [] ?_⟩
        simp [retPV, over, keys, List.map_nil, List.map_cons, List.contains_cons, List.contains_nil, Bool.or_false, Bool.or_true, Bool.true_or, Bool.false_or, beq_self_eq_true, cond_true, cond_false, HeapCov, orNil, nilSz, onBlk, srcOf, getH_hit, getH_miss, getH.eq_1, getS_hit, getS_miss, getS.eq_1, BlkCov, PVCovs, PVCov, ColsEq, ColEq.refl, liveIds, SlotsCov, List.all_nil, List.all_cons, List.any_nil, List.any_cons, List.nil_append, List.cons_append, inRange, apart, nilBlk, idS1, idS2, readAll, readRes, onAll, step, res, AX.val, List.drop_zero, List.drop_succ_cons, List.take_succ_cons, List.take_zero, arrPl, boxW, mapS, arrFr, arrBl, -List.getD_eq_getElem?_getD]
    · have hml := muV_le hW S
      refine ⟨⟨L, L.length, S ++ L, fr', an'⟩, ⟨⟨Nat.le_refl _, by simp only; omega, fun i hi => y3 _ (ptMem hi), ?_, hfa, fun hc => absurd hc hf', fun _ => hrE⟩, ?_⟩, Cov.go [(nid + 16, nid + 20)] [] ?_⟩
      · simp only; split <;> omega
      · simp only; rw [if_pos hr1]; split <;> omega
      · simp [retPV, over, keys, List.map_nil, List.map_cons, List.contains_cons, List.contains_nil, Bool.or_false, Bool.or_true, Bool.true_or, Bool.false_or, beq_self_eq_true, cond_true, cond_false, HeapCov, orNil, nilSz, onBlk, srcOf, getH_hit, getH_miss, getH.eq_1, getS_hit, getS_miss, getS.eq_1, BlkCov, PVCovs, PVCov, ColsEq, ColEq.refl, liveIds, SlotsCov, List.all_nil, List.all_cons, List.any_nil, List.any_cons, List.nil_append, List.cons_append, inRange, apart, nilBlk, idS1, idS2, readAll, readRes, onAll, step, res, AX.val, List.drop_zero, List.drop_succ_cons, List.take_succ_cons, List.take_zero, arrPl, boxW, mapS, arrFr, arrBl, -List.getD_eq_getElem?_getD]
  · have hr0 : r = 0 := by omega
    have hfl : fr.length ≤ 60001 := by split at x4 <;> omega
    refine EndOK.mk (fr, an) ⟨x5, hfl, fun hc => by have := x6 hc; omega, fun hc => Classical.byContradiction fun hn => x7 hn (by omega)⟩ ?_
    refine RetOK.go [(nid, nid + 4), (nid + 1, nid + 8)] [] (.inl rfl) ?_
    simp [a7, retPV, over, keys, List.map_nil, List.map_cons, List.contains_cons, List.contains_nil, Bool.or_false, Bool.or_true, Bool.true_or, Bool.false_or, beq_self_eq_true, cond_true, cond_false, HeapCov, orNil, nilSz, onBlk, srcOf, getH_hit, getH_miss, getH.eq_1, getS_hit, getS_miss, getS.eq_1, BlkCov, PVCovs, PVCov, ColsEq, ColEq.refl, liveIds, SlotsCov, List.all_nil, List.all_cons, List.any_nil, List.any_cons, List.nil_append, List.cons_append, inRange, apart, nilBlk, idS1, idS2, readAll, readRes, onAll, step, res, AX.val, List.drop_zero, List.drop_succ_cons, List.take_succ_cons, List.take_zero, arrFr, arrBl, -List.getD_eq_getElem?_getD]
end Go.Proofs.YtmgfcjblclanmaaDoor
/-
  Ink of a right wafer, by the abstract machine.
-/
namespace Go.Proofs.YtmgfcjblclanmaaDoor
open Go.RowKit
set_option linter.unusedVariables false
set_option linter.unusedSimpArgs false
set_option maxRecDepth 100000
set_option maxHeartbeats 4000000 in
theorem ink_all (nl : Bool) (W : Waf) (m : Nat) (nid : Nat) (h : waferV W = 0) (hp : W.pass.length ≤ 1000000) (h1 : 1 ≤ m) (h8 : m ≤ 8) : ACall Tryd.prog 9 [wafP nl W, .int .i64 (m : Nat)] [] nid (.tup [.agg [.sl nid 0 W.rows.length, .str W.pass], .int .i64 (cntN (inkAt W m) (plV W) : Nat), .int .i64 0]) [(nid, arrS (inkRs W m))] := by
  have hW := waferV_ok h
  have ho : outB (m : Int) 1 8 = false := by unfold outB; simp; omega
  refine acall_run c9 (by simp [a9]) ?_
  unfold wafP
  simp -dsimp only [a9, aqT, ROp, OX, ↓seqK, ↓blkK, ↓loopK, step, stepBin, res, stepIdx, mix, PV.cells, argSlots, Nat.reduceBEq, Nat.reduceBeqDiff, Nat.add_assoc nid, Nat.reduceAdd, reduceCtorEq, ↓reduceIte, Nat.reduceLeDiff, colPV, freeOf, indep, offO, neqO, disj, namesX, axSlot, opXs, rdXs, idsOf, idsOfs, lowH, lowAll, keys, Nat.reduceBneDiff, Option.toList, ← Int.ofNat_tmod, ← Int.ofNat_tdiv, optInt, fillP, repl, chunk, mkCols, mkCol, colInts, colBools, colStrs, colLits, colsApp, Col.app, tailOf, splice, colsPut, Col.put, mmFold, eqK, Nat.reduceLT, colsPaste, Col.paste, mNew, mkKey, keyIn, mGet, mPut, Int.cast_ofNat_Int, Int.reduceBEq, Int.reduceBNe, Int.reduceLT, Int.reduceLE, Int.reduceAdd, Int.reduceSub, Int.reduceMul, Int.reduceToNat, Int.reduceNeg, Int.reduceTMod, Int.reduceEq, not_false_eq_true, Int.reducePow, Int.reduceFDiv, Nat.reducePow, Nat.reduceSub, Nat.reduceMul, Nat.min_eq_left, Nat.reduceEqDiff, BEq.rfl, Int.tdiv_one, LN_succ]
  refine CallO.pure (checkWafer_all nl W _ (hW.bd hp)) ?_
  rw [h]
  simp -dsimp only [aqT, ROp, OX, ↓seqK, ↓blkK, ↓loopK, step, stepBin, res, stepIdx, mix, PV.cells, argSlots, Nat.reduceBEq, Nat.reduceBeqDiff, Nat.add_assoc nid, Nat.reduceAdd, reduceCtorEq, ↓reduceIte, Nat.reduceLeDiff, colPV, freeOf, indep, offO, neqO, disj, namesX, axSlot, opXs, rdXs, idsOf, idsOfs, lowH, lowAll, keys, Nat.reduceBneDiff, Option.toList, ← Int.ofNat_tmod, ← Int.ofNat_tdiv, optInt, fillP, repl, chunk, mkCols, mkCol, colInts, colBools, colStrs, colLits, colsApp, Col.app, tailOf, splice, colsPut, Col.put, mmFold, eqK, Nat.reduceLT, colsPaste, Col.paste, mNew, mkKey, keyIn, mGet, mPut, Int.cast_ofNat_Int, Int.reduceBEq, Int.reduceBNe, Int.reduceLT, Int.reduceLE, Int.reduceAdd, Int.reduceSub, Int.reduceMul, Int.reduceToNat, Int.reduceNeg, Int.reduceTMod, Int.reduceEq, not_false_eq_true, Int.reducePow, Int.reduceFDiv, Nat.reducePow, Nat.reduceSub, Nat.reduceMul, Nat.min_eq_left, Nat.reduceEqDiff, BEq.rfl, Int.tdiv_one, LN_succ]
  refine CallO.pure (out_c _ _ _ _) ?_
  rw [ho]
  simp -dsimp only [aqT, ROp, OX, ↓seqK, ↓blkK, ↓loopK, step, stepBin, res, stepIdx, mix, PV.cells, argSlots, Nat.reduceBEq, Nat.reduceBeqDiff, Nat.add_assoc nid, Nat.reduceAdd, reduceCtorEq, ↓reduceIte, Nat.reduceLeDiff, colPV, freeOf, indep, offO, neqO, disj, namesX, axSlot, opXs, rdXs, idsOf, idsOfs, lowH, lowAll, keys, Nat.reduceBneDiff, Option.toList, ← Int.ofNat_tmod, ← Int.ofNat_tdiv, optInt, fillP, repl, chunk, mkCols, mkCol, colInts, colBools, colStrs, colLits, colsApp, Col.app, tailOf, splice, colsPut, Col.put, mmFold, eqK, Nat.reduceLT, colsPaste, Col.paste, mNew, mkKey, keyIn, mGet, mPut, Int.cast_ofNat_Int, Int.reduceBEq, Int.reduceBNe, Int.reduceLT, Int.reduceLE, Int.reduceAdd, Int.reduceSub, Int.reduceMul, Int.reduceToNat, Int.reduceNeg, Int.reduceTMod, Int.reduceEq, not_false_eq_true, Int.reducePow, Int.reduceFDiv, Nat.reducePow, Nat.reduceSub, Nat.reduceMul, Nat.min_eq_left, Nat.reduceEqDiff, BEq.rfl, Int.tdiv_one, LN_succ]
  refine CallO.on (changedInk_c nid (nid + 4) (nid + 48) nl nl W m _ (by omega) (by omega) (by omega) (by omega) (by omega) (by omega) hW) (subH_cons (by simp only [aqT, ROp, OX, ↓seqK, ↓blkK, ↓loopK, step, stepBin, res, stepIdx, mix, PV.cells, argSlots, Nat.reduceBEq, Nat.reduceBeqDiff, Nat.add_assoc nid, Nat.reduceAdd, reduceCtorEq, ↓reduceIte, Nat.reduceLeDiff, colPV, freeOf, indep, offO, neqO, disj, namesX, axSlot, opXs, rdXs, idsOf, idsOfs, lowH, lowAll, keys, Nat.reduceBneDiff, Option.toList, ← Int.ofNat_tmod, ← Int.ofNat_tdiv, optInt, fillP, repl, chunk, mkCols, mkCol, colInts, colBools, colStrs, colLits, colsApp, Col.app, tailOf, splice, colsPut, Col.put, mmFold, eqK, Nat.reduceLT, colsPaste, Col.paste, mNew, mkKey, keyIn, mGet, mPut, Int.cast_ofNat_Int, Int.reduceBEq, Int.reduceBNe, Int.reduceLT, Int.reduceLE, Int.reduceAdd, Int.reduceSub, Int.reduceMul, Int.reduceToNat, Int.reduceNeg, Int.reduceTMod, Int.reduceEq, not_false_eq_true, Int.reducePow, Int.reduceFDiv, Nat.reducePow, Nat.reduceSub, Nat.reduceMul, Nat.min_eq_left, Nat.reduceEqDiff, BEq.rfl, Int.tdiv_one, LN_succ, boxW]) (subH_cons (by simp only [aqT, ROp, OX, ↓seqK, ↓blkK, ↓loopK, step, stepBin, res, stepIdx, mix, PV.cells, argSlots, Nat.reduceBEq, Nat.reduceBeqDiff, Nat.add_assoc nid, Nat.reduceAdd, reduceCtorEq, ↓reduceIte, Nat.reduceLeDiff, colPV, freeOf, indep, offO, neqO, disj, namesX, axSlot, opXs, rdXs, idsOf, idsOfs, lowH, lowAll, keys, Nat.reduceBneDiff, Option.toList, ← Int.ofNat_tmod, ← Int.ofNat_tdiv, optInt, fillP, repl, chunk, mkCols, mkCol, colInts, colBools, colStrs, colLits, colsApp, Col.app, tailOf, splice, colsPut, Col.put, mmFold, eqK, Nat.reduceLT, colsPaste, Col.paste, mNew, mkKey, keyIn, mGet, mPut, Int.cast_ofNat_Int, Int.reduceBEq, Int.reduceBNe, Int.reduceLT, Int.reduceLE, Int.reduceAdd, Int.reduceSub, Int.reduceMul, Int.reduceToNat, Int.reduceNeg, Int.reduceTMod, Int.reduceEq, not_false_eq_true, Int.reducePow, Int.reduceFDiv, Nat.reducePow, Nat.reduceSub, Nat.reduceMul, Nat.min_eq_left, Nat.reduceEqDiff, BEq.rfl, Int.tdiv_one, LN_succ, boxI]) (subH_get (by simp only [aqT, ROp, OX, ↓seqK, ↓blkK, ↓loopK, step, stepBin, res, stepIdx, mix, PV.cells, argSlots, Nat.reduceBEq, Nat.reduceBeqDiff, Nat.add_assoc nid, Nat.reduceAdd, reduceCtorEq, ↓reduceIte, Nat.reduceLeDiff, colPV, freeOf, indep, offO, neqO, disj, namesX, axSlot, opXs, rdXs, idsOf, idsOfs, lowH, lowAll, keys, Nat.reduceBneDiff, Option.toList, ← Int.ofNat_tmod, ← Int.ofNat_tdiv, optInt, fillP, repl, chunk, mkCols, mkCol, colInts, colBools, colStrs, colLits, colsApp, Col.app, tailOf, splice, colsPut, Col.put, mmFold, eqK, Nat.reduceLT, colsPaste, Col.paste, mNew, mkKey, keyIn, mGet, mPut, Int.cast_ofNat_Int, Int.reduceBEq, Int.reduceBNe, Int.reduceLT, Int.reduceLE, Int.reduceAdd, Int.reduceSub, Int.reduceMul, Int.reduceToNat, Int.reduceNeg, Int.reduceTMod, Int.reduceEq, not_false_eq_true, Int.reducePow, Int.reduceFDiv, Nat.reducePow, Nat.reduceSub, Nat.reduceMul, Nat.min_eq_left, Nat.reduceEqDiff, BEq.rfl, Int.tdiv_one, LN_succ, boxI])))) ?_
  unfold boxW boxI arrS
  simp -dsimp only [aqT, ROp, OX, ↓seqK, ↓blkK, ↓loopK, step, stepBin, res, stepIdx, mix, PV.cells, argSlots, Nat.reduceBEq, Nat.reduceBeqDiff, Nat.add_assoc nid, Nat.reduceAdd, reduceCtorEq, ↓reduceIte, Nat.reduceLeDiff, colPV, freeOf, indep, offO, neqO, disj, namesX, axSlot, opXs, rdXs, idsOf, idsOfs, lowH, lowAll, keys, Nat.reduceBneDiff, Option.toList, ← Int.ofNat_tmod, ← Int.ofNat_tdiv, optInt, fillP, repl, chunk, mkCols, mkCol, colInts, colBools, colStrs, colLits, colsApp, Col.app, tailOf, splice, colsPut, Col.put, mmFold, eqK, Nat.reduceLT, colsPaste, Col.paste, mNew, mkKey, keyIn, mGet, mPut, Int.cast_ofNat_Int, Int.reduceBEq, Int.reduceBNe, Int.reduceLT, Int.reduceLE, Int.reduceAdd, Int.reduceSub, Int.reduceMul, Int.reduceToNat, Int.reduceNeg, Int.reduceTMod, Int.reduceEq, not_false_eq_true, Int.reducePow, Int.reduceFDiv, Nat.reducePow, Nat.reduceSub, Nat.reduceMul, Nat.min_eq_left, Nat.reduceEqDiff, BEq.rfl, Int.tdiv_one, LN_succ]
  refine RetOK.go [(nid, nid + 64)] [] (.inl rfl) ?_
  simp [a9, retPV, over, keys, List.map_nil, List.map_cons, List.contains_cons, List.contains_nil, Bool.or_false, Bool.or_true, Bool.true_or, Bool.false_or, beq_self_eq_true, cond_true, cond_false, HeapCov, orNil, nilSz, onBlk, srcOf, getH_hit, getH_miss, getH.eq_1, getS_hit, getS_miss, getS.eq_1, BlkCov, PVCovs, PVCov, ColsEq, ColEq.refl, liveIds, SlotsCov, List.all_nil, List.all_cons, List.any_nil, List.any_cons, List.nil_append, List.cons_append, inRange, apart, nilBlk, idS1, idS2, readAll, readRes, onAll, step, res, AX.val, List.drop_zero, List.drop_succ_cons, List.take_succ_cons, List.take_zero, arrS, -List.getD_eq_getElem?_getD]
end Go.Proofs.YtmgfcjblclanmaaDoor
/-
  Two wafers merged, by the abstract machine.
-/
namespace Go.Proofs.YtmgfcjblclanmaaDoor
open Go.RowKit
set_option linter.unusedVariables false
set_option linter.unusedSimpArgs false
set_option maxRecDepth 100000
/-- two wafers that are right, and fit -/
structure Pair2 (A B : Waf) : Prop where
  a : waferV A = 0
  b : waferV B = 0
  rows : A.rows.length = B.rows.length
  wide : wideOf A = wideOf B
  pass : A.pass = B.pass
  bdA : WafBd A
  bdB : WafBd B
end Go.Proofs.YtmgfcjblclanmaaDoor
/-
  The places at which two wafers differ, by the abstract machine.
-/
namespace Go.Proofs.YtmgfcjblclanmaaDoor
open Go.RowKit
set_option linter.unusedVariables false
set_option linter.unusedSimpArgs false
set_option maxRecDepth 100000
def sameDie (A B : Waf) (p : Pt) : Bool := dieV A p.1 p.2 == dieV B p.1 p.2
def chV (A B : Waf) : List Pt := keepP (sameDie A B) (plV A)
end Go.Proofs.YtmgfcjblclanmaaDoor
/-
  Wafers that are merged, plainly: rows of which one is the other with a byte turned into the sign of an untested die.
-/
namespace Go.Proofs.YtmgfcjblclanmaaDoor
set_option linter.unusedVariables false
def goodRow (wide : Nat) (r : List UInt8) : Prop := r.length = wide ∧ oddB r = false
theorem rowBad_zero {wide : Nat} {r : List UInt8} (h0 : 0 < wide) (h1 : wide ≤ 60) (h : goodRow wide r) : rowBad wide r = 0 := by
  unfold rowBad
  rw [if_neg (by intro e; rw [e] at h; have := h.1; simp at this; omega), if_neg (by rw [h.1]; omega), if_neg (by rw [h.1]; simp), if_neg (by rw [h.2]; simp)]
theorem firstBad_zero {α : Type} {f : α → Int} : ∀ {l : List α}, (∀ x ∈ l, f x = 0) → firstBad f l = 0
  | [], _ => rfl
  | a :: l, h => by
    simp only [firstBad]
    rw [if_pos (h a (by simp))]
    exact firstBad_zero fun x hx => h x (by simp [hx])
theorem waferV_mk {R : List (List UInt8)} {P : List UInt8} {wide : Nat} (h0 : R.length ≠ 0) (h1 : R.length ≤ 60) (hw0 : 0 < wide) (hw1 : wide ≤ 60) (hr : ∀ i, i < R.length → goodRow wide (R.getD i [])) (hp : passV P = 0) : waferV ⟨R, P⟩ = 0 ∧ wideOf ⟨R, P⟩ = wide := by
  have hw : wideOf ⟨R, P⟩ = wide := (hr 0 (by omega)).1
  refine ⟨?_, hw⟩
  have hf : firstBad (rowBad (wideOf ⟨R, P⟩)) R = 0 := by
    rw [hw]
    refine firstBad_zero fun r hrm => ?_
    obtain ⟨i, hi, rfl⟩ := List.getElem_of_mem hrm
    have := hr i hi
    rw [List.getD_eq_getElem?_getD, List.getElem?_eq_getElem hi] at this
    exact rowBad_zero hw0 hw1 this
  unfold waferV
  simp only
  rw [if_neg h0, if_neg (by omega), hf, if_neg (by simp)]
  exact hp
/-- rows that agree, or of which one is not tested -/
def RelR (s t : List UInt8) : Prop := s.length = t.length ∧ ∀ i, i < s.length → (s.getD i 0 = t.getD i 0 ∨ t.getD i 0 = 63 ∨ s.getD i 0 = 63)
theorem swapB_len (a b : UInt8) (s : List UInt8) : (swapB a b s).length = s.length := by simp [swapB]
theorem swapB_at (a b : UInt8) {s : List UInt8} {i : Nat} (h : i < s.length) : (swapB a b s).getD i 0 = if s.getD i 0 = a then b else s.getD i 0 := by
  unfold swapB
  rw [List.getD_eq_getElem?_getD, List.getElem?_map, List.getElem?_eq_getElem h, List.getD_eq_getElem?_getD, List.getElem?_eq_getElem h]
  rfl
theorem relR_swap (a : UInt8) (s : List UInt8) : RelR s (swapB a 63 s) := ⟨(swapB_len _ _ _).symm, fun i hi => by
  rw [swapB_at a 63 hi]
  by_cases h : s.getD i 0 = a
  · rw [if_pos h]; exact .inr (.inl rfl)
  · rw [if_neg h]; exact .inl rfl⟩
theorem RelR.symm {s t : List UInt8} (h : RelR s t) : RelR t s := ⟨h.1.symm, fun i hi => by
  rcases h.2 i (by rw [h.1]; exact hi) with e | e | e
  · exact .inl e.symm
  · exact .inr (.inr e)
  · exact .inr (.inl e)⟩
theorem odd_getD {s : List UInt8} : oddB s = false ↔ ∀ i, i < s.length → placeB (byteI (s.getD i 0)) = true := by
  unfold oddB
  rw [List.any_eq_false]
  constructor
  · intro h i hi
    have := h (s.getD i 0) (by rw [List.getD_eq_getElem?_getD, List.getElem?_eq_getElem hi]; exact List.getElem_mem _)
    simpa using this
  · intro h x hx
    obtain ⟨i, hi, rfl⟩ := List.getElem_of_mem hx
    have := h i hi
    rw [List.getD_eq_getElem?_getD, List.getElem?_eq_getElem hi] at this
    simpa using this
theorem goodRow_swap {wide : Nat} {s : List UInt8} (a : UInt8) (h : goodRow wide s) : goodRow wide (swapB a 63 s) := by
  refine ⟨(swapB_len _ _ _).trans h.1, odd_getD.2 fun i hi => ?_⟩
  rw [swapB_len] at hi
  rw [swapB_at a 63 hi]
  split
  · rfl
  · exact odd_getD.1 h.2 i hi
theorem zip_getD {α β γ : Type} (f : α → β → γ) (da : α) (db : β) (dc : γ) {l : List α} {m : List β} {k : Nat} (hl : k < l.length) (hm : k < m.length) : (List.zipWith f l m).getD k dc = f (l.getD k da) (m.getD k db) := by
  rw [List.getD_eq_getElem?_getD, List.getElem?_zipWith, List.getElem?_eq_getElem hl, List.getElem?_eq_getElem hm, List.getD_eq_getElem?_getD, List.getD_eq_getElem?_getD, List.getElem?_eq_getElem hl, List.getElem?_eq_getElem hm]
  rfl
theorem all_zip {α β : Type} (f : α → β → Bool) (da : α) (db : β) {l : List α} {m : List β} (hlm : l.length = m.length) (h : ∀ i, i < l.length → f (l.getD i da) (m.getD i db) = true) : (List.zipWith f l m).all id = true := by
  rw [List.all_eq_true]
  intro b hb
  obtain ⟨i, hi, rfl⟩ := List.getElem_of_mem hb
  rw [List.length_zipWith] at hi
  have := h i (by omega)
  rw [← zip_getD f da db false (by omega) (by omega)] at this
  rw [List.getD_eq_getElem?_getD, List.getElem?_eq_getElem (by rw [List.length_zipWith]; exact hi)] at this
  simpa using this
theorem RelR.ok {s t : List UInt8} (h : RelR s t) : okR s t = true := all_zip mergeO 0 0 h.1 fun i hi => by
  unfold mergeO
  simpa using h.2 i hi
/-- what a merged row has where it is not the one that was merged -/
theorem mergeR_left {s t : List UInt8} (h : RelR s t) {i : Nat} (hi : i < s.length) (hne : (mergeR s t).getD i 0 ≠ s.getD i 0) : s.getD i 0 = 63 := by
  unfold mergeR at hne
  rw [zip_getD mergeB 0 0 0 hi (by rw [← h.1]; exact hi)] at hne
  unfold mergeB at hne
  split at hne
  · exact absurd rfl hne
  · rename_i h2
    rcases h.2 i hi with e | e | e
    · exact absurd (.inl e) h2
    · exact absurd (.inr e) h2
    · exact e
theorem goodRow_merge {wide : Nat} {s t : List UInt8} (hs : goodRow wide s) (ht : goodRow wide t) : goodRow wide (mergeR s t) := by
  have hl : s.length = t.length := by rw [hs.1, ht.1]
  refine ⟨by unfold mergeR; rw [zip_len _ hl]; exact hs.1, odd_getD.2 fun i hi => ?_⟩
  unfold mergeR at hi ⊢
  rw [zip_len _ hl] at hi
  rw [zip_getD mergeB 0 0 0 hi (by omega)]
  unfold mergeB
  split
  · exact odd_getD.1 hs.2 i hi
  · exact odd_getD.1 ht.2 i (by omega)
/-- two lists of rows, so far changed -/
structure TwoRows (wide n i : Nat) (R T : List (List UInt8)) : Prop where
  r : R.length = n
  t : T.length = n
  gr : ∀ j, j < n → goodRow wide (R.getD j [])
  gt : ∀ j, j < n → goodRow wide (T.getD j [])
  rel : ∀ j, j < n → RelR (R.getD j []) (T.getD j [])
  same : ∀ j, i ≤ j → j < n → R.getD j [] = T.getD j []
theorem set_getD (l : List (List UInt8)) (i j : Nat) (x : List UInt8) (hi : i < l.length) : (l.set i x).getD j [] = if j = i then x else l.getD j [] := by
  have := congrFun (getD_setS l x hi) j
  exact this.symm
theorem TwoRows.left {wide n i : Nat} {R T : List (List UInt8)} (h : TwoRows wide n i R T) (hi : i < n) (a : UInt8) : TwoRows wide n (i + 1) (R.set i (swapB a 63 (T.getD i []))) T where
  r := by simp [h.r]
  t := h.t
  gr := fun j hj => by
    rw [set_getD _ _ _ _ (by rw [h.r]; exact hi)]
    split
    · exact goodRow_swap a (h.gt i hi)
    · exact h.gr j hj
  gt := h.gt
  rel := fun j hj => by
    rw [set_getD _ _ _ _ (by rw [h.r]; exact hi)]
    split
    · rename_i e; subst e; exact (relR_swap a _).symm
    · exact h.rel j hj
  same := fun j h1 h2 => by
    rw [set_getD _ _ _ _ (by rw [h.r]; exact hi), if_neg (by omega)]
    exact h.same j (by omega) h2
theorem TwoRows.right {wide n i : Nat} {R T : List (List UInt8)} (h : TwoRows wide n i R T) (hi : i < n) (a : UInt8) : TwoRows wide n (i + 1) R (T.set i (swapB a 63 (T.getD i []))) where
  r := h.r
  t := by simp [h.t]
  gr := h.gr
  gt := fun j hj => by
    rw [set_getD _ _ _ _ (by rw [h.t]; exact hi)]
    split
    · exact goodRow_swap a (h.gt i hi)
    · exact h.gt j hj
  rel := fun j hj => by
    rw [set_getD _ _ _ _ (by rw [h.t]; exact hi)]
    split
    · rename_i e; subst e; rw [h.same j (Nat.le_refl _) hj]; exact relR_swap a _
    · exact h.rel j hj
  same := fun j h1 h2 => by
    rw [set_getD _ _ _ _ (by rw [h.t]; exact hi), if_neg (by omega)]
    exact h.same j (by omega) h2
theorem TwoRows.merged_at {wide n i : Nat} {R T : List (List UInt8)} (h : TwoRows wide n i R T) {j : Nat} (hj : j < n) : (mergeRs R T).getD j [] = mergeR (R.getD j []) (T.getD j []) :=
  zip_getD mergeR [] [] [] (by rw [h.r]; exact hj) (by rw [h.t]; exact hj)
theorem TwoRows.mlen {wide n i : Nat} {R T : List (List UInt8)} (h : TwoRows wide n i R T) : (mergeRs R T).length = n := by
  unfold mergeRs; rw [zip_len _ (by rw [h.r, h.t]), h.r]
structure Mg (wide n : Nat) (P : List UInt8) : Prop where
  n0 : n ≠ 0
  n1 : n ≤ 60
  w0 : 0 < wide
  w1 : wide ≤ 60
  p : passV P = 0
  pl : P.length ≤ 1000000
theorem goodBd {wide n : Nat} {P : List UInt8} (m : Mg wide n P) {R : List (List UInt8)} (hl : R.length = n) (hg : ∀ j, j < n → goodRow wide (R.getD j [])) : WafBd ⟨R, P⟩ :=
  ⟨by show R.length ≤ _; rw [hl]; have := m.n1; omega, fun r hr => by
    obtain ⟨j, hj, rfl⟩ := List.getElem_of_mem hr
    have h1 := (hg j (by rw [hl] at hj; exact hj)).1
    rw [List.getD_eq_getElem?_getD, List.getElem?_eq_getElem hj] at h1
    have h2 : (R[j]).length = wide := h1
    have := m.w1
    show (R[j]).length ≤ _
    omega, m.pl⟩
theorem pairOf {wide n : Nat} {P : List UInt8} (m : Mg wide n P) {R T : List (List UInt8)} (h1 : R.length = n) (h2 : T.length = n) (g1 : ∀ j, j < n → goodRow wide (R.getD j [])) (g2 : ∀ j, j < n → goodRow wide (T.getD j [])) : Pair2 ⟨R, P⟩ ⟨T, P⟩ := by
  have a := waferV_mk (P := P) (by rw [h1]; exact m.n0) (by rw [h1]; exact m.n1) m.w0 m.w1 (fun i hi => g1 i (by rw [h1] at hi; exact hi)) m.p
  have b := waferV_mk (P := P) (by rw [h2]; exact m.n0) (by rw [h2]; exact m.n1) m.w0 m.w1 (fun i hi => g2 i (by rw [h2] at hi; exact hi)) m.p
  exact ⟨a.1, b.1, by rw [h1, h2], by rw [a.2, b.2], rfl, goodBd m h1 g1, goodBd m h2 g2⟩
theorem TwoRows.gm {wide n i : Nat} {R T : List (List UInt8)} (h : TwoRows wide n i R T) : ∀ j, j < n → goodRow wide ((mergeRs R T).getD j []) := fun j hj => by
  rw [h.merged_at hj]; exact goodRow_merge (h.gr j hj) (h.gt j hj)
theorem TwoRows.pairM {wide n i : Nat} {P : List UInt8} (m : Mg wide n P) {R T : List (List UInt8)} (h : TwoRows wide n i R T) : Pair2 ⟨mergeRs R T, P⟩ ⟨R, P⟩ := pairOf m h.mlen h.r h.gm h.gr
/-- where a merged wafer is another one than the first, the first was not tested -/
theorem TwoRows.untested {wide n i : Nat} {P : List UInt8} (m : Mg wide n P) {R T : List (List UInt8)} (h : TwoRows wide n i R T) {p : Pt} (hp : p ∈ chV ⟨mergeRs R T, P⟩ ⟨R, P⟩) :
    ∃ x y : Nat, p = ((x : Int), (y : Int)) ∧ y < n ∧ x < (R.getD y []).length ∧ (R.getD y []).getD x 0 = 63 := by
  have hM := waferV_ok (h.pairM m).a
  have hR := waferV_ok (h.pairM m).b
  unfold chV keepP at hp
  rw [List.mem_filter] at hp
  obtain ⟨h1, h2⟩ := hp
  obtain ⟨x, y, rfl, hy, hx⟩ := plV_mem h1
  have hy' : y < n := by have : y < (mergeRs R T).length := hy; rw [h.mlen] at this; exact this
  have hwm : wideOf ⟨mergeRs R T, P⟩ = wide := (h.gm 0 (by have := m.n0; omega)).1
  have hwr : wideOf ⟨R, P⟩ = wide := (h.gr 0 (by have := m.n0; omega)).1
  have hxl : x < wide := by have := hx; rw [(h.gm y hy').1] at this; exact this
  have hxr : x < (R.getD y []).length := by rw [(h.gr y hy').1]; exact hxl
  refine ⟨x, y, rfl, hy', hxr, ?_⟩
  unfold sameDie at h2
  simp only [Bool.not_eq_true', beq_eq_false_iff_ne, ne_eq] at h2
  rw [dieV_in hy (by rw [hwm]; exact hxl), dieV_in (W := ⟨R, P⟩) (by show y < R.length; rw [h.r]; exact hy') (by rw [hwr]; exact hxl)] at h2
  rw [byteI_inj] at h2
  refine mergeR_left (h.rel y hy') hxr ?_
  rw [← h.merged_at hy']
  exact h2
end Go.Proofs.YtmgfcjblclanmaaDoor
/-
  The states of a test access port and the shortest path between two of them, by the abstract machine.
-/
namespace Go.Proofs.YtmgfcjblclanmaaDoor
open Go.RowKit
set_option linter.unusedVariables false
set_option linter.unusedSimpArgs false
set_option maxRecDepth 100000
/-- the next state, plainly -/
def stT : List (Nat × Nat) := [(1, 0), (1, 2), (3, 9), (4, 5), (4, 5), (6, 8), (6, 7), (4, 8), (1, 2), (10, 0), (11, 12), (11, 12), (13, 15), (13, 14), (11, 15), (1, 2)]
def nextN (s t : Nat) : Nat := if t = 0 then (stT.getD s (0, 0)).1 else (stT.getD s (0, 0)).2
def stCells : List PV := stT.flatMap fun x => [.int .i64 (x.1 : Nat), .int .i64 (x.2 : Nat)]
theorem stCells_get : ∀ s, s < 16 → ∀ t, t < 2 → ∃ r, stCells.drop (s * 2 + t) = .int .i64 (nextN s t : Nat) :: r := by
  intro s hs t ht
  rcases t with _ | _ | t
  · rcases s with _ | _ | _ | _ | _ | _ | _ | _ | _ | _ | _ | _ | _ | _ | _ | _ | s <;> first | exact ⟨_, rfl⟩ | omega
  · rcases s with _ | _ | _ | _ | _ | _ | _ | _ | _ | _ | _ | _ | _ | _ | _ | _ | s <;> first | exact ⟨_, rfl⟩ | omega
  · omega
theorem next_st (s t nid : Nat) (hs : s < 16) (ht : t < 2) : ACall Tryd.prog 107 [.int .i64 (s : Nat), .int .i64 (t : Nat)] [] nid (.int .i64 (nextN s t : Nat)) [] := by
  refine acall_run c107 (by simp [a107]) ?_
  obtain ⟨r, hr⟩ := stCells_get s hs t ht
  have e : stCells = [.int .i64 1, .int .i64 0, .int .i64 1, .int .i64 2, .int .i64 3, .int .i64 9, .int .i64 4, .int .i64 5, .int .i64 4, .int .i64 5, .int .i64 6, .int .i64 8, .int .i64 6, .int .i64 7, .int .i64 4, .int .i64 8,
    .int .i64 1, .int .i64 2, .int .i64 10, .int .i64 0, .int .i64 11, .int .i64 12, .int .i64 11, .int .i64 12, .int .i64 13, .int .i64 15, .int .i64 13, .int .i64 14, .int .i64 11, .int .i64 15, .int .i64 1, .int .i64 2] := rfl
  rw [e] at hr
  simp -dsimp only [a107, aqT, ROp, OX, ↓seqK, ↓blkK, ↓loopK, step, stepBin, res, stepIdx, mix, PV.cells, argSlots, Nat.reduceBEq, Nat.reduceBeqDiff, Nat.add_assoc nid, Nat.reduceAdd, reduceCtorEq, ↓reduceIte, Nat.reduceLeDiff, colPV, freeOf, indep, offO, neqO, disj, namesX, axSlot, opXs, rdXs, idsOf, idsOfs, lowH, lowAll, keys, Nat.reduceBneDiff, Option.toList, ← Int.ofNat_tmod, ← Int.ofNat_tdiv, optInt, fillP, repl, chunk, mkCols, mkCol, colInts, colBools, colStrs, colLits, colsApp, Col.app, tailOf, splice, colsPut, Col.put, mmFold, eqK, Nat.reduceLT, colsPaste, Col.paste, mNew, mkKey, keyIn, mGet, mPut]
  refine ⟨by omega, by omega, ?_⟩
  rw [Nat.mul_one, hr]
  simp -dsimp only [aqT, ROp, OX, ↓seqK, ↓blkK, ↓loopK, step, stepBin, res, stepIdx, mix, PV.cells, argSlots, Nat.reduceBEq, Nat.reduceBeqDiff, Nat.add_assoc nid, Nat.reduceAdd, reduceCtorEq, ↓reduceIte, Nat.reduceLeDiff, colPV, freeOf, indep, offO, neqO, disj, namesX, axSlot, opXs, rdXs, idsOf, idsOfs, lowH, lowAll, keys, Nat.reduceBneDiff, Option.toList, ← Int.ofNat_tmod, ← Int.ofNat_tdiv, optInt, fillP, repl, chunk, mkCols, mkCol, colInts, colBools, colStrs, colLits, colsApp, Col.app, tailOf, splice, colsPut, Col.put, mmFold, eqK, Nat.reduceLT, colsPaste, Col.paste, mNew, mkKey, keyIn, mGet, mPut]
  refine RetOK.pure (.inl rfl) rfl ?_
  simp [retPV, over, keys, List.map_nil, List.map_cons, List.contains_cons, List.contains_nil, Bool.or_false, Bool.or_true, Bool.true_or, Bool.false_or, beq_self_eq_true, cond_true, cond_false, HeapCov, orNil, nilSz, onBlk, srcOf, getH_hit, getH_miss, getH.eq_1, getS_hit, getS_miss, getS.eq_1, BlkCov, PVCovs, PVCov, ColsEq, ColEq.refl, liveIds, SlotsCov, List.all_nil, List.all_cons, List.any_nil, List.any_cons, List.nil_append, List.cons_append, inRange, apart, nilBlk, idS1, idS2, readAll, readRes, onAll, step, res, AX.val, List.drop_zero, List.drop_succ_cons, List.take_succ_cons, List.take_zero]
/-- the search for paths, plainly: the states to look at, and the ways found -/
def tlook : List (Nat × List UInt8) → MK → Option (List UInt8)
  | [], _ => none
  | (k, v) :: r, q => if q = .i (k : Nat) then some v else tlook r q
def pIn (a t : Nat) (x : List Nat × List (Nat × List UInt8)) : List Nat × List (Nat × List UInt8) :=
  if (tlook x.2 (.i (nextN a t : Nat))).isSome then x else (x.1 ++ [nextN a t], (nextN a t, (tlook x.2 (.i (a : Nat))).getD [] ++ [UInt8.ofNat (48 + t)]) :: x.2)
def pOut (x : List Nat × List (Nat × List UInt8)) : List Nat × List (Nat × List UInt8) := match x.1 with
  | [] => x
  | a :: r => pIn a 1 (pIn a 0 (r, x.2))
def pAt (s : Nat) : Nat → List Nat × List (Nat × List UInt8)
  | 0 => ([s], [(s, [])])
  | n + 1 => pOut (pAt s n)
def pathV (s t : Nat) : List UInt8 := (tlook (pAt s 16).2 (.i (t : Nat))).getD []
theorem pAt_ok : ∀ s, s < 16 → ((pAt s 16).1 = [] ∧ ∀ n, n < 17 → ((pAt s n).1.all (· < 16) = true ∧ (pAt s n).1.length ≤ 16 ∧ (pAt s n).2.all (fun x => decide (x.2.length ≤ 16)) = true)) := by decide
def pInTo (a : Nat) (x : List Nat × List (Nat × List UInt8)) : Nat → List Nat × List (Nat × List UInt8)
  | 0 => x
  | k + 1 => pIn a k (pInTo a x k)
theorem pInTo_len (a : Nat) (x : List Nat × List (Nat × List UInt8)) (k : Nat) : (pInTo a x k).1.length ≤ x.1.length + k := by
  induction k with
  | zero => exact Nat.le_refl _
  | succ k ih =>
    unfold pInTo pIn
    split
    · omega
    · simp; omega
theorem tlook_len {L : Nat} : ∀ {T : List (Nat × List UInt8)}, T.all (fun x => decide (x.2.length ≤ L)) = true → ∀ q, ((tlook T q).getD []).length ≤ L
  | [], _, q => by simp [tlook]
  | (k, v) :: r, h, q => by
    simp only [List.all_cons, Bool.and_eq_true, decide_eq_true_eq] at h
    unfold tlook
    split
    · exact h.1
    · exact tlook_len h.2 q
theorem pInTo_vals {L : Nat} (a : Nat) {x : List Nat × List (Nat × List UInt8)} (h : x.2.all (fun x => decide (x.2.length ≤ L)) = true) : ∀ k, (pInTo a x k).2.all (fun x => decide (x.2.length ≤ L + k)) = true
  | 0 => h
  | k + 1 => by
    have ih := pInTo_vals a h k
    have ih' : (pInTo a x k).2.all (fun x => decide (x.2.length ≤ L + (k + 1))) = true := by
      rw [List.all_eq_true] at ih ⊢
      intro y hy
      have := ih y hy
      simp only [decide_eq_true_eq] at this ⊢
      omega
    unfold pInTo pIn
    split
    · exact ih'
    · simp only [List.all_cons, Bool.and_eq_true, decide_eq_true_eq, ih', and_true, List.length_append, List.length_singleton]
      have := tlook_len ih (.i (a : Nat))
      omega
theorem optD (o : Option (List UInt8)) : (bif o.isSome then o.getD [] else []) = o.getD [] := by cases o <;> rfl
theorem utf8_bit {k : Nat} (hk : k < 2) : (Utf8.encode (IntKind.i32.wrap (48 + (k : Int)))).data.toList = [UInt8.ofNat (48 + k)] := by
  have : k = 0 ∨ k = 1 := by omega
  rcases this with rfl | rfl <;> rfl
theorem getD_snocN (l : List Nat) (x i : Nat) : (l ++ [x]).getD i 0 = if i < l.length then l.getD i 0 else if i = l.length then x else 0 := by
  simp only [List.getD_eq_getElem?_getD, List.getElem?_append]
  split
  · rfl
  · split
    · simp [*]
    · rw [List.getElem?_eq_none (by simp; omega)]; rfl
def mapT (T : List (Nat × List UInt8)) : Option ABlk := some (.map (.i .i64) (fun q => (tlook T q).isSome) (.s fun q => (tlook T q).getD []))
set_option maxHeartbeats 1000000 in
theorem path_st (s t nid : Nat) (hs : s < 16) : ACall Tryd.prog 82 [.int .i64 (s : Nat), .int .i64 (t : Nat)] [] nid (.str (pathV s t)) [] := by
  refine acall_run c82 (by simp [a82]) ?_
  simp -dsimp only [a82, aqT, ROp, OX, ↓seqK, ↓blkK, ↓loopK, step, stepBin, res, stepIdx, mix, PV.cells, argSlots, Nat.reduceBEq, Nat.reduceBeqDiff, Nat.add_assoc nid, Nat.reduceAdd, reduceCtorEq, ↓reduceIte, Nat.reduceLeDiff, colPV, freeOf, indep, offO, neqO, disj, namesX, axSlot, opXs, rdXs, idsOf, idsOfs, lowH, lowAll, keys, Nat.reduceBneDiff, Option.toList, ← Int.ofNat_tmod, ← Int.ofNat_tdiv, optInt, fillP, repl, chunk, mkCols, mkCol, colInts, colBools, colStrs, colLits, colsApp, Col.app, tailOf, splice, colsPut, Col.put, mmFold, eqK, Nat.reduceLT, colsPaste, Col.paste, mNew, mkKey, keyIn, mGet, mPut, mNew, mkKey, keyIn, mPut]
  refine LP.mkP (fun x : Nat × Nat × (Nat → Int) => x.1 ≤ 16) (fun x => ⟨[(6, .sl (nid + 4) x.2.1 (pAt s x.1).1.length), (5, .mp (nid + 8)), (1, .int .i64 (t : Nat))],
    [(nid + 4, some (.arr 3 (x.2.1 + (pAt s x.1).1.length) [.i .i64 fun i => if i < x.2.1 then x.2.2 i else (((pAt s x.1).1.getD (i - x.2.1) 0 : Nat) : Int)])), (nid + 8, mapT (pAt s x.1).2)], nid + 100, nid⟩)
    (fun x => 17 - x.1) (0, 0, fun _ => 0) (by simp) (Cov.go [(nid + 4, nid + 28), (nid + 8, nid + 4)] [] ?_) (fun x hx => ?_)
  · simp [retPV, over, keys, List.map_nil, List.map_cons, List.contains_cons, List.contains_nil, Bool.or_false, Bool.or_true, Bool.true_or, Bool.false_or, beq_self_eq_true, cond_true, cond_false, HeapCov, orNil, nilSz, onBlk, srcOf, getH_hit, getH_miss, getH.eq_1, getS_hit, getS_miss, getS.eq_1, BlkCov, PVCovs, PVCov, ColsEq, ColEq.refl, liveIds, SlotsCov, List.all_nil, List.all_cons, List.any_nil, List.any_cons, List.nil_append, List.cons_append, inRange, apart, nilBlk, idS1, idS2, readAll, readRes, onAll, step, res, AX.val, List.drop_zero, List.drop_succ_cons, List.take_succ_cons, List.take_zero, pAt, mapT]
    refine ⟨ColEq.i fun i hi => ?_, fun q hq => ?_⟩
    · have : i = 0 := by omega
      subst this; rfl
    · unfold tlook tlook
      split <;> simp [*, mVal]
  obtain ⟨n, d, g⟩ := x
  simp only at hx
  obtain ⟨ok1, ok2⟩ := pAt_ok s hs
  have ok := ok2 n (by omega)
  have hst : pAt s (n + 1) = pOut (pAt s n) := rfl
  unfold mapT
  simp -dsimp only [aqT, ROp, OX, ↓seqK, ↓blkK, ↓loopK, step, stepBin, res, stepIdx, mix, PV.cells, argSlots, Nat.reduceBEq, Nat.reduceBeqDiff, Nat.add_assoc nid, Nat.reduceAdd, reduceCtorEq, ↓reduceIte, Nat.reduceLeDiff, colPV, freeOf, indep, offO, neqO, disj, namesX, axSlot, opXs, rdXs, idsOf, idsOfs, lowH, lowAll, keys, Nat.reduceBneDiff, Option.toList, ← Int.ofNat_tmod, ← Int.ofNat_tdiv, optInt, fillP, repl, chunk, mkCols, mkCol, colInts, colBools, colStrs, colLits, colsApp, Col.app, tailOf, splice, colsPut, Col.put, mmFold, eqK, Nat.reduceLT, colsPaste, Col.paste, mNew, mkKey, keyIn, mGet, mPut]
  refine S2.dec (fun h1 => ?_) (fun h1 => ?_)
  · have hn : n < 16 := by
      rcases Nat.lt_or_ge n 16 with h | h
      · exact h
      · have : n = 16 := by omega
        subst this; rw [ok1] at h1; simp at h1
    rcases hQ : pAt s n with ⟨Q, T⟩
    rw [hQ] at ok hst h1
    rcases Q with _ | ⟨a, r⟩
    · simp at h1
    simp only [List.all_cons, Bool.and_eq_true, decide_eq_true_eq, List.length_cons] at ok
    obtain ⟨⟨ha, hr⟩, hlen, hvl⟩ := ok
    have hst : pAt s (n + 1) = pInTo a (r, T) 2 := hst
    simp -dsimp only [aqT, ROp, OX, ↓seqK, ↓blkK, ↓loopK, step, stepBin, res, stepIdx, mix, PV.cells, argSlots, Nat.reduceBEq, Nat.reduceBeqDiff, Nat.add_assoc nid, Nat.reduceAdd, reduceCtorEq, ↓reduceIte, Nat.reduceLeDiff, colPV, freeOf, indep, offO, neqO, disj, namesX, axSlot, opXs, rdXs, idsOf, idsOfs, lowH, lowAll, keys, Nat.reduceBneDiff, Option.toList, ← Int.ofNat_tmod, ← Int.ofNat_tdiv, optInt, fillP, repl, chunk, mkCols, mkCol, colInts, colBools, colStrs, colLits, colsApp, Col.app, tailOf, splice, colsPut, Col.put, mmFold, eqK, Nat.reduceLT, colsPaste, Col.paste, mNew, mkKey, keyIn, mGet, mPut]
    refine ⟨by omega, by omega, LP.mkP (fun x : Nat × Nat × (Nat → Int) => x.1 ≤ 2) (fun x => ⟨[(25, .int .i64 (x.1 : Nat)), (7, .int .i64 (a : Nat)), (6, .sl (nid + 4) x.2.1 (pInTo a (r, T) x.1).1.length), (5, .mp (nid + 8)), (1, .int .i64 (t : Nat))],
      [(nid + 4, some (.arr 3 (x.2.1 + (pInTo a (r, T) x.1).1.length) [.i .i64 fun i => if i < x.2.1 then x.2.2 i else (((pInTo a (r, T) x.1).1.getD (i - x.2.1) 0 : Nat) : Int)])), (nid + 8, mapT (pInTo a (r, T) x.1).2)], nid + 200, nid⟩)
      (fun x => 3 - x.1) (0, d + 1, fun i => if i < d then g i else (((a :: r).getD (i - d) 0 : Nat) : Int)) (by simp) (Cov.go [] [] ?_) (fun y hy => ?_)⟩
    · simp [retPV, over, keys, List.map_nil, List.map_cons, List.contains_cons, List.contains_nil, Bool.or_false, Bool.or_true, Bool.true_or, Bool.false_or, beq_self_eq_true, cond_true, cond_false, HeapCov, orNil, nilSz, onBlk, srcOf, getH_hit, getH_miss, getH.eq_1, getS_hit, getS_miss, getS.eq_1, BlkCov, PVCovs, PVCov, ColsEq, ColEq.refl, liveIds, SlotsCov, List.all_nil, List.all_cons, List.any_nil, List.any_cons, List.nil_append, List.cons_append, inRange, apart, nilBlk, idS1, idS2, readAll, readRes, onAll, step, res, AX.val, List.drop_zero, List.drop_succ_cons, List.take_succ_cons, List.take_zero, pInTo, mapT, -List.getD_eq_getElem?_getD]
      refine ⟨⟨by omega, ColEq.i fun i hi => ?_⟩, by simp⟩
      by_cases hid : i < d + 1
      · rw [if_pos hid]
      · rw [if_neg hid, if_neg (by omega), show i - d = i - (d + 1) + 1 from by omega]
        rfl
    obtain ⟨k, d2, g2⟩ := y
    simp only at hy
    unfold mapT
    have hql := pInTo_len a (r, T) k
    have hqv := pInTo_vals a (x := (r, T)) hvl k
    rcases hX : pInTo a (r, T) k with ⟨Q2, T2⟩
    have hk1 : pInTo a (r, T) (k + 1) = pIn a k (Q2, T2) := by rw [← hX]; rfl
    rw [hX] at hql hqv
    simp only at hql hqv
    have hsl := tlook_len hqv (.i (a : Nat))
    simp -dsimp only [aqT, ROp, OX, ↓seqK, ↓blkK, ↓loopK, step, stepBin, res, stepIdx, mix, PV.cells, argSlots, Nat.reduceBEq, Nat.reduceBeqDiff, Nat.add_assoc nid, Nat.reduceAdd, reduceCtorEq, ↓reduceIte, Nat.reduceLeDiff, colPV, freeOf, indep, offO, neqO, disj, namesX, axSlot, opXs, rdXs, idsOf, idsOfs, lowH, lowAll, keys, Nat.reduceBneDiff, Option.toList, ← Int.ofNat_tmod, ← Int.ofNat_tdiv, optInt, fillP, repl, chunk, mkCols, mkCol, colInts, colBools, colStrs, colLits, colsApp, Col.app, tailOf, splice, colsPut, Col.put, mmFold, eqK, Nat.reduceLT, colsPaste, Col.paste, mNew, mkKey, keyIn, mGet, mPut, hX]
    refine S2.dec (fun h2 => ?_) (fun h2 => ?_)
    · simp -dsimp only [aqT, ROp, OX, ↓seqK, ↓blkK, ↓loopK, step, stepBin, res, stepIdx, mix, PV.cells, argSlots, Nat.reduceBEq, Nat.reduceBeqDiff, Nat.add_assoc nid, Nat.reduceAdd, reduceCtorEq, ↓reduceIte, Nat.reduceLeDiff, colPV, freeOf, indep, offO, neqO, disj, namesX, axSlot, opXs, rdXs, idsOf, idsOfs, lowH, lowAll, keys, Nat.reduceBneDiff, Option.toList, ← Int.ofNat_tmod, ← Int.ofNat_tdiv, optInt, fillP, repl, chunk, mkCols, mkCol, colInts, colBools, colStrs, colLits, colsApp, Col.app, tailOf, splice, colsPut, Col.put, mmFold, eqK, Nat.reduceLT, colsPaste, Col.paste, mNew, mkKey, keyIn, mGet, mPut]
      refine CallO.pure (next_st a k _ ha (by omega)) ?_
      simp -dsimp only [aqT, ROp, OX, ↓seqK, ↓blkK, ↓loopK, step, stepBin, res, stepIdx, mix, PV.cells, argSlots, Nat.reduceBEq, Nat.reduceBeqDiff, Nat.add_assoc nid, Nat.reduceAdd, reduceCtorEq, ↓reduceIte, Nat.reduceLeDiff, colPV, freeOf, indep, offO, neqO, disj, namesX, axSlot, opXs, rdXs, idsOf, idsOfs, lowH, lowAll, keys, Nat.reduceBneDiff, Option.toList, ← Int.ofNat_tmod, ← Int.ofNat_tdiv, optInt, fillP, repl, chunk, mkCols, mkCol, colInts, colBools, colStrs, colLits, colsApp, Col.app, tailOf, splice, colsPut, Col.put, mmFold, eqK, Nat.reduceLT, colsPaste, Col.paste, mNew, mkKey, keyIn, mGet, mPut, mkKey, keyIn, mGet, optD]
      refine S2.intro (fun h3 => ?_) (fun h3 => ?_)
      · have h3' : (tlook T2 (.i (nextN a k : Nat))).isSome = false := by simpa using h3
        rw [show pIn a k (Q2, T2) = (Q2 ++ [nextN a k], (nextN a k, (tlook T2 (.i (a : Nat))).getD [] ++ [UInt8.ofNat (48 + k)]) :: T2) from by unfold pIn; rw [if_neg (by rw [h3']; simp)]] at hk1
        simp -dsimp only [aqT, ROp, OX, ↓seqK, ↓blkK, ↓loopK, step, stepBin, res, stepIdx, mix, PV.cells, argSlots, Nat.reduceBEq, Nat.reduceBeqDiff, Nat.add_assoc nid, Nat.reduceAdd, reduceCtorEq, ↓reduceIte, Nat.reduceLeDiff, colPV, freeOf, indep, offO, neqO, disj, namesX, axSlot, opXs, rdXs, idsOf, idsOfs, lowH, lowAll, keys, Nat.reduceBneDiff, Option.toList, ← Int.ofNat_tmod, ← Int.ofNat_tdiv, optInt, fillP, repl, chunk, mkCols, mkCol, colInts, colBools, colStrs, colLits, colsApp, Col.app, tailOf, splice, colsPut, Col.put, mmFold, eqK, Nat.reduceLT, colsPaste, Col.paste, mNew, mkKey, keyIn, mGet, mPut, mkKey, keyIn, mGet, mPut, optD, utf8_bit (show k < 2 by omega)]
        refine ⟨by unfold inI64; omega, by simp; omega, ?_⟩
        cases hd2 : d2 == 0
        · simp -dsimp only [aqT, ROp, OX, ↓seqK, ↓blkK, ↓loopK, step, stepBin, res, stepIdx, mix, PV.cells, argSlots, Nat.reduceBEq, Nat.reduceBeqDiff, Nat.add_assoc nid, Nat.reduceAdd, reduceCtorEq, ↓reduceIte, Nat.reduceLeDiff, colPV, freeOf, indep, offO, neqO, disj, namesX, axSlot, opXs, rdXs, idsOf, idsOfs, lowH, lowAll, keys, Nat.reduceBneDiff, Option.toList, ← Int.ofNat_tmod, ← Int.ofNat_tdiv, optInt, fillP, repl, chunk, mkCols, mkCol, colInts, colBools, colStrs, colLits, colsApp, Col.app, tailOf, splice, colsPut, Col.put, mmFold, eqK, Nat.reduceLT, colsPaste, Col.paste, mNew, mkKey, keyIn, mGet, mPut, Col.shift]
          refine ⟨⟨by omega, by omega⟩, by unfold inI64; omega, (k + 1, 0, fun _ => 0), ⟨by omega, by omega⟩, Cov.go [(nid + 4, nid + 324)] [] ?_⟩
          rw [hk1]
          simp [retPV, over, keys, List.map_nil, List.map_cons, List.contains_cons, List.contains_nil, Bool.or_false, Bool.or_true, Bool.true_or, Bool.false_or, beq_self_eq_true, cond_true, cond_false, HeapCov, orNil, nilSz, onBlk, srcOf, getH_hit, getH_miss, getH.eq_1, getS_hit, getS_miss, getS.eq_1, BlkCov, PVCovs, PVCov, ColsEq, ColEq.refl, liveIds, SlotsCov, List.all_nil, List.all_cons, List.any_nil, List.any_cons, List.nil_append, List.cons_append, inRange, apart, nilBlk, idS1, idS2, readAll, readRes, onAll, step, res, AX.val, List.drop_zero, List.drop_succ_cons, List.take_succ_cons, List.take_zero, mapT, -List.getD_eq_getElem?_getD]
          refine ⟨ColEq.i fun i hi => ?_, fun q hq => ?_⟩
          · rw [getD_snocN]
            by_cases h : i < Q2.length
            · simp only [if_pos h, if_neg (show ¬ d2 + i < d2 by omega)]
            · have : i = Q2.length := by omega
              subst this
              simp
          · simp only [tlook, mVal]
            by_cases h : q = .i (nextN a k : Nat)
            · simp [h]
            · simp [h]
        · have hd0 : d2 = 0 := by simpa using hd2
          subst hd0
          simp -dsimp only [aqT, ROp, OX, ↓seqK, ↓blkK, ↓loopK, step, stepBin, res, stepIdx, mix, PV.cells, argSlots, Nat.reduceBEq, Nat.reduceBeqDiff, Nat.add_assoc nid, Nat.reduceAdd, reduceCtorEq, ↓reduceIte, Nat.reduceLeDiff, colPV, freeOf, indep, offO, neqO, disj, namesX, axSlot, opXs, rdXs, idsOf, idsOfs, lowH, lowAll, keys, Nat.reduceBneDiff, Option.toList, ← Int.ofNat_tmod, ← Int.ofNat_tdiv, optInt, fillP, repl, chunk, mkCols, mkCol, colInts, colBools, colStrs, colLits, colsApp, Col.app, tailOf, splice, colsPut, Col.put, mmFold, eqK, Nat.reduceLT, colsPaste, Col.paste, mNew, mkKey, keyIn, mGet, mPut]
          refine ⟨⟨by omega, by omega⟩, by unfold inI64; omega, (k + 1, 0, fun _ => 0), ⟨by omega, by omega⟩, Cov.go [(nid + 4, nid + 324)] [] ?_⟩
          rw [hk1]
          simp [retPV, over, keys, List.map_nil, List.map_cons, List.contains_cons, List.contains_nil, Bool.or_false, Bool.or_true, Bool.true_or, Bool.false_or, beq_self_eq_true, cond_true, cond_false, HeapCov, orNil, nilSz, onBlk, srcOf, getH_hit, getH_miss, getH.eq_1, getS_hit, getS_miss, getS.eq_1, BlkCov, PVCovs, PVCov, ColsEq, ColEq.refl, liveIds, SlotsCov, List.all_nil, List.all_cons, List.any_nil, List.any_cons, List.nil_append, List.cons_append, inRange, apart, nilBlk, idS1, idS2, readAll, readRes, onAll, step, res, AX.val, List.drop_zero, List.drop_succ_cons, List.take_succ_cons, List.take_zero, mapT, -List.getD_eq_getElem?_getD]
          refine ⟨ColEq.i fun i hi => ?_, fun q hq => ?_⟩
          · rw [getD_snocN]
            by_cases h : i < Q2.length
            · simp only [if_pos h]
            · have : i = Q2.length := by omega
              subst this
              simp
          · simp only [tlook, mVal]
            by_cases h : q = .i (nextN a k : Nat)
            · simp [h]
            · simp [h]
      · have h3' : (tlook T2 (.i (nextN a k : Nat))).isSome = true := by simpa using h3
        rw [show pIn a k (Q2, T2) = (Q2, T2) from by unfold pIn; rw [if_pos h3']] at hk1
        simp -dsimp only [aqT, ROp, OX, ↓seqK, ↓blkK, ↓loopK, step, stepBin, res, stepIdx, mix, PV.cells, argSlots, Nat.reduceBEq, Nat.reduceBeqDiff, Nat.add_assoc nid, Nat.reduceAdd, reduceCtorEq, ↓reduceIte, Nat.reduceLeDiff, colPV, freeOf, indep, offO, neqO, disj, namesX, axSlot, opXs, rdXs, idsOf, idsOfs, lowH, lowAll, keys, Nat.reduceBneDiff, Option.toList, ← Int.ofNat_tmod, ← Int.ofNat_tdiv, optInt, fillP, repl, chunk, mkCols, mkCol, colInts, colBools, colStrs, colLits, colsApp, Col.app, tailOf, splice, colsPut, Col.put, mmFold, eqK, Nat.reduceLT, colsPaste, Col.paste, mNew, mkKey, keyIn, mGet, mPut]
        refine ⟨by unfold inI64; omega, (k + 1, d2, g2), ⟨by omega, by omega⟩, Cov.go [] [] ?_⟩
        rw [hk1]
        simp [retPV, over, keys, List.map_nil, List.map_cons, List.contains_cons, List.contains_nil, Bool.or_false, Bool.or_true, Bool.true_or, Bool.false_or, beq_self_eq_true, cond_true, cond_false, HeapCov, orNil, nilSz, onBlk, srcOf, getH_hit, getH_miss, getH.eq_1, getS_hit, getS_miss, getS.eq_1, BlkCov, PVCovs, PVCov, ColsEq, ColEq.refl, liveIds, SlotsCov, List.all_nil, List.all_cons, List.any_nil, List.any_cons, List.nil_append, List.cons_append, inRange, apart, nilBlk, idS1, idS2, readAll, readRes, onAll, step, res, AX.val, List.drop_zero, List.drop_succ_cons, List.take_succ_cons, List.take_zero, mapT]
    · have hk2 : k = 2 := by omega
      subst hk2
      simp -dsimp only [aqT, ROp, OX, ↓seqK, ↓blkK, ↓loopK, step, stepBin, res, stepIdx, mix, PV.cells, argSlots, Nat.reduceBEq, Nat.reduceBeqDiff, Nat.add_assoc nid, Nat.reduceAdd, reduceCtorEq, ↓reduceIte, Nat.reduceLeDiff, colPV, freeOf, indep, offO, neqO, disj, namesX, axSlot, opXs, rdXs, idsOf, idsOfs, lowH, lowAll, keys, Nat.reduceBneDiff, Option.toList, ← Int.ofNat_tmod, ← Int.ofNat_tdiv, optInt, fillP, repl, chunk, mkCols, mkCol, colInts, colBools, colStrs, colLits, colsApp, Col.app, tailOf, splice, colsPut, Col.put, mmFold, eqK, Nat.reduceLT, colsPaste, Col.paste, mNew, mkKey, keyIn, mGet, mPut]
      refine ⟨(n + 1, d2, g2), ⟨by omega, by omega⟩, Cov.go [] [] ?_⟩
      rw [hst, hX]
      simp [retPV, over, keys, List.map_nil, List.map_cons, List.contains_cons, List.contains_nil, Bool.or_false, Bool.or_true, Bool.true_or, Bool.false_or, beq_self_eq_true, cond_true, cond_false, HeapCov, orNil, nilSz, onBlk, srcOf, getH_hit, getH_miss, getH.eq_1, getS_hit, getS_miss, getS.eq_1, BlkCov, PVCovs, PVCov, ColsEq, ColEq.refl, liveIds, SlotsCov, List.all_nil, List.all_cons, List.any_nil, List.any_cons, List.nil_append, List.cons_append, inRange, apart, nilBlk, idS1, idS2, readAll, readRes, onAll, step, res, AX.val, List.drop_zero, List.drop_succ_cons, List.take_succ_cons, List.take_zero, mapT]
  · simp -dsimp only [aqT, ROp, OX, ↓seqK, ↓blkK, ↓loopK, step, stepBin, res, stepIdx, mix, PV.cells, argSlots, Nat.reduceBEq, Nat.reduceBeqDiff, Nat.add_assoc nid, Nat.reduceAdd, reduceCtorEq, ↓reduceIte, Nat.reduceLeDiff, colPV, freeOf, indep, offO, neqO, disj, namesX, axSlot, opXs, rdXs, idsOf, idsOfs, lowH, lowAll, keys, Nat.reduceBneDiff, Option.toList, ← Int.ofNat_tmod, ← Int.ofNat_tdiv, optInt, fillP, repl, chunk, mkCols, mkCol, colInts, colBools, colStrs, colLits, colsApp, Col.app, tailOf, splice, colsPut, Col.put, mmFold, eqK, Nat.reduceLT, colsPaste, Col.paste, mNew, mkKey, keyIn, mGet, mPut, mkKey, keyIn, mGet, optD]
    have h0 : (pAt s n).1 = [] := List.eq_nil_of_length_eq_zero (by omega)
    have h16 : ∀ j, (pAt s (n + j)) = pAt s n := by
      intro j
      induction j with
      | zero => rfl
      | succ j ih =>
        show pOut (pAt s (n + j)) = _
        rw [ih]
        unfold pOut
        rw [h0]
    have := h16 (16 - n)
    rw [show n + (16 - n) = 16 from by omega] at this
    refine RetOK.pure (.inl rfl) rfl ?_
    simp [retPV, over, keys, List.map_nil, List.map_cons, List.contains_cons, List.contains_nil, Bool.or_false, Bool.or_true, Bool.true_or, Bool.false_or, beq_self_eq_true, cond_true, cond_false, HeapCov, orNil, nilSz, onBlk, srcOf, getH_hit, getH_miss, getH.eq_1, getS_hit, getS_miss, getS.eq_1, BlkCov, PVCovs, PVCov, ColsEq, ColEq.refl, liveIds, SlotsCov, List.all_nil, List.all_cons, List.any_nil, List.any_cons, List.nil_append, List.cons_append, inRange, apart, nilBlk, idS1, idS2, readAll, readRes, onAll, step, res, AX.val, List.drop_zero, List.drop_succ_cons, List.take_succ_cons, List.take_zero, pathV, this]
end Go.Proofs.YtmgfcjblclanmaaDoor
