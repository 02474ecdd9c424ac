/-
  Arrays of strings of the abstract machine.
-/
import Derived.Test.YthcldfmlfjomfaaDoorKTs4
import Derived.Test.YthcldfmlfjomfaaDoorKTs1
import Derived.Test.YthcldfmlfjomfaaDoorKTs3
set_option linter.unusedVariables false
set_option linter.unusedSimpArgs false
set_option maxRecDepth 100000
namespace Go.Proofs.YthcldfmlfjomfaaDoor
open Go.RowKit
def arrS (l : List (List UInt8)) : Option ABlk := some (.arr 9 l.length [.s fun i => l.getD i []])
theorem getD_app1 (l : List (List UInt8)) (x : List UInt8) {n : Nat} (hn : l.length = n) : (fun i => if i < n then l.getD i [] else [x].getD (i - n) []) = fun i => (l ++ [x]).getD i [] := by
  subst hn
  funext i
  simp only [List.getD_eq_getElem?_getD, List.getElem?_append]
  split <;> rfl
theorem getD_setS (l : List (List UInt8)) (x : List UInt8) {I : Nat} (hI : I < l.length) : (fun j => if j = I then x else l.getD j []) = fun j => (l.set I x).getD j [] := by
  funext j
  simp only [List.getD_eq_getElem?_getD, List.getElem?_set]
  by_cases h : j = I
  · subst h; simp [hI]
  · rw [if_neg h, if_neg (fun e => h e.symm)]
def ShortRows (m : Nat) (l : List (List UInt8)) : Prop := ∀ r ∈ l, r.length ≤ m
theorem ShortRows.at {m : Nat} {l : List (List UInt8)} (h : ShortRows m l) (i : Nat) : (l.getD i []).length ≤ m := by
  rw [List.getD_eq_getElem?_getD]
  cases hg : l[i]? with
  | none => simp
  | some x => exact h x (List.mem_of_getElem? hg)
theorem ShortRows.set {m : Nat} {l : List (List UInt8)} (h : ShortRows m l) (i : Nat) {x : List UInt8} (hx : x.length ≤ m) : ShortRows m (l.set i x) := fun r hr => by
  rcases List.mem_or_eq_of_mem_set hr with h1 | h1
  · exact h r h1
  · rw [h1]; exact hx
theorem ShortRows.snoc {m : Nat} {l : List (List UInt8)} (h : ShortRows m l) {x : List UInt8} (hx : x.length ≤ m) : ShortRows m (l ++ [x]) := fun r hr => by
  rcases List.mem_append.1 hr with h1 | h1
  · exact h r h1
  · rw [List.mem_singleton.1 h1]; exact hx
theorem ShortRows.mono {m n : Nat} {l : List (List UInt8)} (h : ShortRows m l) (hn : m ≤ n) : ShortRows n l := fun r hr => Nat.le_trans (h r hr) hn
def litS (nl : Bool) (l : List (List UInt8)) : PV := .lit nl l.length [.s fun i => l.getD i []]
theorem take_eqL {l m : List (List UInt8)} {k : Nat} (hl : k < l.length) (hm : k < m.length) (h : l.take k = m.take k) (hx : l.getD k [] = m.getD k []) : l.take (k + 1) = m.take (k + 1) := by
  rw [take_snoc (x := l.getD k []) (by rw [List.getD_eq_getElem?_getD, List.getElem?_eq_getElem hl]; rfl), take_snoc (x := m.getD k []) (by rw [List.getD_eq_getElem?_getD, List.getElem?_eq_getElem hm]; rfl), h, hx]
theorem equalS_c (nl nl' : Bool) (l m : List (List UInt8)) (nid : Nat) (hl : l.length ≤ 1000000000000) (hm : m.length ≤ 1000000000000) : ACall Tryd.prog 20 [litS nl l, litS nl' m] [] nid (.bool (l == m)) [] := by
  refine acall_run c20 (by simp [a20]) ?_
  unfold litS
  simp -dsimp only [aqT, ROp, OX, ↓seqK, ↓blkK, ↓loopK, step, stepBin, res, stepIdx, mix, PV.cells, argSlots, Nat.reduceBEq, Nat.reduceBeqDiff, Nat.add_assoc nid, Nat.reduceAdd, reduceCtorEq, ↓reduceIte, Nat.reduceLeDiff, colPV, freeOf, indep, offO, neqO, disj, namesX, axSlot, opXs, rdXs, idsOf, idsOfs, lowH, lowAll, keys, Nat.reduceBneDiff, Option.toList, ← Int.ofNat_tmod, ← Int.ofNat_tdiv, optInt, fillP, repl, chunk, mkCols, mkCol, colInts, colBools, colStrs, colLits, colsApp, Col.app, tailOf, splice, colsPut, Col.put, mmFold, eqK, Nat.reduceLT, colsPaste, Col.paste, mNew, mkKey, keyIn, mGet, mPut, a20]
  refine S2.intro (fun h => ?_) (fun h => ?_) <;> simp -dsimp only [aqT, ROp, OX, ↓seqK, ↓blkK, ↓loopK, step, stepBin, res, stepIdx, mix, PV.cells, argSlots, Nat.reduceBEq, Nat.reduceBeqDiff, Nat.add_assoc nid, Nat.reduceAdd, reduceCtorEq, ↓reduceIte, Nat.reduceLeDiff, colPV, freeOf, indep, offO, neqO, disj, namesX, axSlot, opXs, rdXs, idsOf, idsOfs, lowH, lowAll, keys, Nat.reduceBneDiff, Option.toList, ← Int.ofNat_tmod, ← Int.ofNat_tdiv, optInt, fillP, repl, chunk, mkCols, mkCol, colInts, colBools, colStrs, colLits, colsApp, Col.app, tailOf, splice, colsPut, Col.put, mmFold, eqK, Nat.reduceLT, colsPaste, Col.paste, mNew, mkKey, keyIn, mGet, mPut]
  · refine RetOK.pure (.inl rfl) rfl ?_
    have h1 : l ≠ m := fun e => by subst e; simp at h
    have h2 : (l == m) = false := by simpa using h1
    simp [retPV, over, keys, List.map_nil, List.map_cons, List.contains_cons, List.contains_nil, Bool.or_false, Bool.or_true, Bool.true_or, Bool.false_or, beq_self_eq_true, cond_true, cond_false, HeapCov, orNil, nilSz, onBlk, srcOf, getH_hit, getH_miss, getH.eq_1, getS_hit, getS_miss, getS.eq_1, BlkCov, PVCovs, PVCov, ColsEq, ColEq.refl, liveIds, SlotsCov, List.all_nil, List.all_cons, List.any_nil, List.any_cons, List.nil_append, List.cons_append, inRange, apart, nilBlk, idS1, idS2, readAll, readRes, onAll, step, res, AX.val, List.drop_zero, List.drop_succ_cons, List.take_succ_cons, List.take_zero, h1]
  have hlm : l.length = m.length := by have : (l.length : Int) = m.length := by simpa using h
                                       omega
  refine LP.mkP (fun k : Nat => k ≤ l.length ∧ l.take k = m.take k) (fun k : Nat => ⟨[(13, .int .i64 k), (12, .int .i64 l.length), (0, litS nl l), (1, litS nl' m)], [], nid + 36, nid⟩) (fun k => l.length + 1 - k) 0 ⟨by omega, rfl⟩ (Cov.go [] [] ?_) (fun k hk => ?_)
  · simp [retPV, over, keys, List.map_nil, List.map_cons, List.contains_cons, List.contains_nil, Bool.or_false, Bool.or_true, Bool.true_or, Bool.false_or, beq_self_eq_true, cond_true, cond_false, HeapCov, orNil, nilSz, onBlk, srcOf, getH_hit, getH_miss, getH.eq_1, getS_hit, getS_miss, getS.eq_1, BlkCov, PVCovs, PVCov, ColsEq, ColEq.refl, liveIds, SlotsCov, List.all_nil, List.all_cons, List.any_nil, List.any_cons, List.nil_append, List.cons_append, inRange, apart, nilBlk, idS1, idS2, readAll, readRes, onAll, step, res, AX.val, List.drop_zero, List.drop_succ_cons, List.take_succ_cons, List.take_zero, litS]
  unfold litS
  obtain ⟨hk, ht⟩ := hk
  simp -dsimp only [aqT, ROp, OX, ↓seqK, ↓blkK, ↓loopK, step, stepBin, res, stepIdx, mix, PV.cells, argSlots, Nat.reduceBEq, Nat.reduceBeqDiff, Nat.add_assoc nid, Nat.reduceAdd, reduceCtorEq, ↓reduceIte, Nat.reduceLeDiff, colPV, freeOf, indep, offO, neqO, disj, namesX, axSlot, opXs, rdXs, idsOf, idsOfs, lowH, lowAll, keys, Nat.reduceBneDiff, Option.toList, ← Int.ofNat_tmod, ← Int.ofNat_tdiv, optInt, fillP, repl, chunk, mkCols, mkCol, colInts, colBools, colStrs, colLits, colsApp, Col.app, tailOf, splice, colsPut, Col.put, mmFold, eqK, Nat.reduceLT, colsPaste, Col.paste, mNew, mkKey, keyIn, mGet, mPut]
  refine S2.dec (fun h3 => ?_) (fun h3 => ?_) <;> simp -dsimp only [aqT, ROp, OX, ↓seqK, ↓blkK, ↓loopK, step, stepBin, res, stepIdx, mix, PV.cells, argSlots, Nat.reduceBEq, Nat.reduceBeqDiff, Nat.add_assoc nid, Nat.reduceAdd, reduceCtorEq, ↓reduceIte, Nat.reduceLeDiff, colPV, freeOf, indep, offO, neqO, disj, namesX, axSlot, opXs, rdXs, idsOf, idsOfs, lowH, lowAll, keys, Nat.reduceBneDiff, Option.toList, ← Int.ofNat_tmod, ← Int.ofNat_tdiv, optInt, fillP, repl, chunk, mkCols, mkCol, colInts, colBools, colStrs, colLits, colsApp, Col.app, tailOf, splice, colsPut, Col.put, mmFold, eqK, Nat.reduceLT, colsPaste, Col.paste, mNew, mkKey, keyIn, mGet, mPut]
  · refine ⟨by omega, by omega, S2.intro (fun h4 => ?_) (fun h4 => ?_)⟩ <;> simp -dsimp only [aqT, ROp, OX, ↓seqK, ↓blkK, ↓loopK, step, stepBin, res, stepIdx, mix, PV.cells, argSlots, Nat.reduceBEq, Nat.reduceBeqDiff, Nat.add_assoc nid, Nat.reduceAdd, reduceCtorEq, ↓reduceIte, Nat.reduceLeDiff, colPV, freeOf, indep, offO, neqO, disj, namesX, axSlot, opXs, rdXs, idsOf, idsOfs, lowH, lowAll, keys, Nat.reduceBneDiff, Option.toList, ← Int.ofNat_tmod, ← Int.ofNat_tdiv, optInt, fillP, repl, chunk, mkCols, mkCol, colInts, colBools, colStrs, colLits, colsApp, Col.app, tailOf, splice, colsPut, Col.put, mmFold, eqK, Nat.reduceLT, colsPaste, Col.paste, mNew, mkKey, keyIn, mGet, mPut]
    · refine RetOK.pure (.inl rfl) rfl ?_
      have h1 : l ≠ m := fun e => by subst e; simp at h4
      simp [retPV, over, keys, List.map_nil, List.map_cons, List.contains_cons, List.contains_nil, Bool.or_false, Bool.or_true, Bool.true_or, Bool.false_or, beq_self_eq_true, cond_true, cond_false, HeapCov, orNil, nilSz, onBlk, srcOf, getH_hit, getH_miss, getH.eq_1, getS_hit, getS_miss, getS.eq_1, BlkCov, PVCovs, PVCov, ColsEq, ColEq.refl, liveIds, SlotsCov, List.all_nil, List.all_cons, List.any_nil, List.any_cons, List.nil_append, List.cons_append, inRange, apart, nilBlk, idS1, idS2, readAll, readRes, onAll, step, res, AX.val, List.drop_zero, List.drop_succ_cons, List.take_succ_cons, List.take_zero, h1]
    · have h5 : l.getD k [] = m.getD k [] := by simpa only [Bool.not_eq_false', beq_iff_eq] using h4
      refine ⟨by unfold inI64; omega, k + 1, ⟨⟨by omega, take_eqL (by omega) (by omega) ht h5⟩, by omega⟩, Cov.go [] [] ?_⟩
      simp [retPV, over, keys, List.map_nil, List.map_cons, List.contains_cons, List.contains_nil, Bool.or_false, Bool.or_true, Bool.true_or, Bool.false_or, beq_self_eq_true, cond_true, cond_false, HeapCov, orNil, nilSz, onBlk, srcOf, getH_hit, getH_miss, getH.eq_1, getS_hit, getS_miss, getS.eq_1, BlkCov, PVCovs, PVCov, ColsEq, ColEq.refl, liveIds, SlotsCov, List.all_nil, List.all_cons, List.any_nil, List.any_cons, List.nil_append, List.cons_append, inRange, apart, nilBlk, idS1, idS2, readAll, readRes, onAll, step, res, AX.val, List.drop_zero, List.drop_succ_cons, List.take_succ_cons, List.take_zero, litS]
  · have hkl : k = l.length := by omega
    have h1 : l = m := by rw [hkl] at ht; rw [List.take_length, hlm, List.take_length] at ht; exact ht
    refine RetOK.pure (.inl rfl) rfl ?_
    simp [retPV, over, keys, List.map_nil, List.map_cons, List.contains_cons, List.contains_nil, Bool.or_false, Bool.or_true, Bool.true_or, Bool.false_or, beq_self_eq_true, cond_true, cond_false, HeapCov, orNil, nilSz, onBlk, srcOf, getH_hit, getH_miss, getH.eq_1, getS_hit, getS_miss, getS.eq_1, BlkCov, PVCovs, PVCov, ColsEq, ColEq.refl, liveIds, SlotsCov, List.all_nil, List.all_cons, List.any_nil, List.any_cons, List.nil_append, List.cons_append, inRange, apart, nilBlk, idS1, idS2, readAll, readRes, onAll, step, res, AX.val, List.drop_zero, List.drop_succ_cons, List.take_succ_cons, List.take_zero, h1]
end Go.Proofs.YthcldfmlfjomfaaDoor
namespace Go.Proofs.YthcldfmlfjomfaaDoor
open Go.RowKit
theorem len_ne {a b : Int} (h : (a != b) = true) : a ≠ b := by simpa using h
set_option maxHeartbeats 4000000 in
theorem checkVectors_all (nl : Bool) (n : Int) (v : List (List UInt8)) (nid : Nat) (hv : v.length ≤ 1000000000) (hr : ShortRows 1000000000 v) : ACall Tryd.prog 26 [.int .i64 n, litS nl v] [] nid (.int .i64 (patV n v)) [] := by
  refine acall_run c26 (by simp [a26]) ?_
  unfold litS
  simp -dsimp only [aqT, ROp, OX, ↓seqK, ↓blkK, ↓loopK, step, stepBin, res, stepIdx, mix, PV.cells, argSlots, Nat.reduceBEq, Nat.reduceBeqDiff, Nat.add_assoc nid, Nat.reduceAdd, reduceCtorEq, ↓reduceIte, Nat.reduceLeDiff, colPV, freeOf, indep, offO, neqO, disj, namesX, axSlot, opXs, rdXs, idsOf, idsOfs, lowH, lowAll, keys, Nat.reduceBneDiff, Option.toList, ← Int.ofNat_tmod, ← Int.ofNat_tdiv, optInt, fillP, repl, chunk, mkCols, mkCol, colInts, colBools, colStrs, colLits, colsApp, Col.app, tailOf, splice, colsPut, Col.put, mmFold, eqK, Nat.reduceLT, colsPaste, Col.paste, mNew, mkKey, keyIn, mGet, mPut, a26]
  refine CallO.pure (out_c _ _ _ _) ?_
  cases h0 : outB n 1 100 <;> simp -dsimp only [aqT, ROp, OX, ↓seqK, ↓blkK, ↓loopK, step, stepBin, res, stepIdx, mix, PV.cells, argSlots, Nat.reduceBEq, Nat.reduceBeqDiff, Nat.add_assoc nid, Nat.reduceAdd, reduceCtorEq, ↓reduceIte, Nat.reduceLeDiff, colPV, freeOf, indep, offO, neqO, disj, namesX, axSlot, opXs, rdXs, idsOf, idsOfs, lowH, lowAll, keys, Nat.reduceBneDiff, Option.toList, ← Int.ofNat_tmod, ← Int.ofNat_tdiv, optInt, fillP, repl, chunk, mkCols, mkCol, colInts, colBools, colStrs, colLits, colsApp, Col.app, tailOf, splice, colsPut, Col.put, mmFold, eqK, Nat.reduceLT, colsPaste, Col.paste, mNew, mkKey, keyIn, mGet, mPut, Int.cast_ofNat_Int, Int.reduceBEq, Int.reduceBNe, Int.reduceLT, Int.reduceLE, Int.reduceAdd, Int.reduceSub, Int.reduceMul, Int.reduceToNat, Int.reduceNeg, Int.reduceTMod, Int.reduceEq, not_false_eq_true, Int.reducePow, Int.reduceFDiv, Nat.reducePow, Nat.reduceSub, Nat.reduceMul, Nat.min_eq_left, Nat.reduceEqDiff, BEq.rfl, Int.tdiv_one, LN_succ]
  case true =>
    have e : patV n v = 1 := by unfold patV; rw [if_pos h0]
    rw [e]
    refine RetOK.pure (.inl rfl) rfl ?_
    simp [retPV, over, keys, List.map_nil, List.map_cons, List.contains_cons, List.contains_nil, Bool.or_false, Bool.or_true, Bool.true_or, Bool.false_or, beq_self_eq_true, cond_true, cond_false, HeapCov, orNil, nilSz, onBlk, srcOf, getH_hit, getH_miss, getH.eq_1, getS_hit, getS_miss, getS.eq_1, BlkCov, PVCovs, PVCov, ColsEq, ColEq.refl, liveIds, SlotsCov, List.all_nil, List.all_cons, List.any_nil, List.any_cons, List.nil_append, List.cons_append, inRange, apart, nilBlk, idS1, idS2, readAll, readRes, onAll, step, res, AX.val, List.drop_zero, List.drop_succ_cons, List.take_succ_cons, List.take_zero]
  refine S2.dec (fun h1 => ?_) (fun h1 => ?_) <;> simp -dsimp only [aqT, ROp, OX, ↓seqK, ↓blkK, ↓loopK, step, stepBin, res, stepIdx, mix, PV.cells, argSlots, Nat.reduceBEq, Nat.reduceBeqDiff, Nat.add_assoc nid, Nat.reduceAdd, reduceCtorEq, ↓reduceIte, Nat.reduceLeDiff, colPV, freeOf, indep, offO, neqO, disj, namesX, axSlot, opXs, rdXs, idsOf, idsOfs, lowH, lowAll, keys, Nat.reduceBneDiff, Option.toList, ← Int.ofNat_tmod, ← Int.ofNat_tdiv, optInt, fillP, repl, chunk, mkCols, mkCol, colInts, colBools, colStrs, colLits, colsApp, Col.app, tailOf, splice, colsPut, Col.put, mmFold, eqK, Nat.reduceLT, colsPaste, Col.paste, mNew, mkKey, keyIn, mGet, mPut, Int.cast_ofNat_Int, Int.reduceBEq, Int.reduceBNe, Int.reduceLT, Int.reduceLE, Int.reduceAdd, Int.reduceSub, Int.reduceMul, Int.reduceToNat, Int.reduceNeg, Int.reduceTMod, Int.reduceEq, not_false_eq_true, Int.reducePow, Int.reduceFDiv, Nat.reducePow, Nat.reduceSub, Nat.reduceMul, Nat.min_eq_left, Nat.reduceEqDiff, BEq.rfl, Int.tdiv_one, LN_succ]
  · have e : patV n v = 2 := by unfold patV; rw [if_neg (by simp [h0]), if_pos (by omega)]
    rw [e]
    refine RetOK.pure (.inl rfl) rfl ?_
    simp [retPV, over, keys, List.map_nil, List.map_cons, List.contains_cons, List.contains_nil, Bool.or_false, Bool.or_true, Bool.true_or, Bool.false_or, beq_self_eq_true, cond_true, cond_false, HeapCov, orNil, nilSz, onBlk, srcOf, getH_hit, getH_miss, getH.eq_1, getS_hit, getS_miss, getS.eq_1, BlkCov, PVCovs, PVCov, ColsEq, ColEq.refl, liveIds, SlotsCov, List.all_nil, List.all_cons, List.any_nil, List.any_cons, List.nil_append, List.cons_append, inRange, apart, nilBlk, idS1, idS2, readAll, readRes, onAll, step, res, AX.val, List.drop_zero, List.drop_succ_cons, List.take_succ_cons, List.take_zero]
  have eV : patV n v = firstBad (patRow n) v := by unfold patV; rw [if_neg (by simp [h0]), if_neg (by omega)]
  rw [eV]
  refine LP.mkP (fun k : Nat => k ≤ v.length ∧ firstBad (patRow n) (v.take k) = 0) (fun k : Nat => ⟨[(16, .int .i64 k), (15, .int .i64 v.length), (14, .lit nl v.length [.s fun i => v.getD i []]), (0, .int .i64 n)], [], nid + 100, nid⟩) (fun k => v.length + 1 - k) 0 ⟨by omega, rfl⟩ (Cov.go [] [] ?_) (fun k hk => ?_)
  · simp [retPV, over, keys, List.map_nil, List.map_cons, List.contains_cons, List.contains_nil, Bool.or_false, Bool.or_true, Bool.true_or, Bool.false_or, beq_self_eq_true, cond_true, cond_false, HeapCov, orNil, nilSz, onBlk, srcOf, getH_hit, getH_miss, getH.eq_1, getS_hit, getS_miss, getS.eq_1, BlkCov, PVCovs, PVCov, ColsEq, ColEq.refl, liveIds, SlotsCov, List.all_nil, List.all_cons, List.any_nil, List.any_cons, List.nil_append, List.cons_append, inRange, apart, nilBlk, idS1, idS2, readAll, readRes, onAll, step, res, AX.val, List.drop_zero, List.drop_succ_cons, List.take_succ_cons, List.take_zero]
  obtain ⟨hk, hb⟩ := hk
  simp -dsimp only [aqT, ROp, OX, ↓seqK, ↓blkK, ↓loopK, step, stepBin, res, stepIdx, mix, PV.cells, argSlots, Nat.reduceBEq, Nat.reduceBeqDiff, Nat.add_assoc nid, Nat.reduceAdd, reduceCtorEq, ↓reduceIte, Nat.reduceLeDiff, colPV, freeOf, indep, offO, neqO, disj, namesX, axSlot, opXs, rdXs, idsOf, idsOfs, lowH, lowAll, keys, Nat.reduceBneDiff, Option.toList, ← Int.ofNat_tmod, ← Int.ofNat_tdiv, optInt, fillP, repl, chunk, mkCols, mkCol, colInts, colBools, colStrs, colLits, colsApp, Col.app, tailOf, splice, colsPut, Col.put, mmFold, eqK, Nat.reduceLT, colsPaste, Col.paste, mNew, mkKey, keyIn, mGet, mPut, Int.cast_ofNat_Int, Int.reduceBEq, Int.reduceBNe, Int.reduceLT, Int.reduceLE, Int.reduceAdd, Int.reduceSub, Int.reduceMul, Int.reduceToNat, Int.reduceNeg, Int.reduceTMod, Int.reduceEq, not_false_eq_true, Int.reducePow, Int.reduceFDiv, Nat.reducePow, Nat.reduceSub, Nat.reduceMul, Nat.min_eq_left, Nat.reduceEqDiff, BEq.rfl, Int.tdiv_one, LN_succ]
  refine S2.dec (fun h2 => ?_) (fun h2 => ?_) <;> simp -dsimp only [aqT, ROp, OX, ↓seqK, ↓blkK, ↓loopK, step, stepBin, res, stepIdx, mix, PV.cells, argSlots, Nat.reduceBEq, Nat.reduceBeqDiff, Nat.add_assoc nid, Nat.reduceAdd, reduceCtorEq, ↓reduceIte, Nat.reduceLeDiff, colPV, freeOf, indep, offO, neqO, disj, namesX, axSlot, opXs, rdXs, idsOf, idsOfs, lowH, lowAll, keys, Nat.reduceBneDiff, Option.toList, ← Int.ofNat_tmod, ← Int.ofNat_tdiv, optInt, fillP, repl, chunk, mkCols, mkCol, colInts, colBools, colStrs, colLits, colsApp, Col.app, tailOf, splice, colsPut, Col.put, mmFold, eqK, Nat.reduceLT, colsPaste, Col.paste, mNew, mkKey, keyIn, mGet, mPut, Int.cast_ofNat_Int, Int.reduceBEq, Int.reduceBNe, Int.reduceLT, Int.reduceLE, Int.reduceAdd, Int.reduceSub, Int.reduceMul, Int.reduceToNat, Int.reduceNeg, Int.reduceTMod, Int.reduceEq, not_false_eq_true, Int.reducePow, Int.reduceFDiv, Nat.reducePow, Nat.reduceSub, Nat.reduceMul, Nat.min_eq_left, Nat.reduceEqDiff, BEq.rfl, Int.tdiv_one, LN_succ]
  · have hkl : k < v.length := by omega
    obtain ⟨bad, good⟩ := rowsFB (d := []) hkl hb
    have hrl := hr.at k
    generalize hrr : v.getD k [] = r at *
    refine ⟨by omega, S2.intro (fun h3 => ?_) (fun h3 => ?_)⟩ <;> simp -dsimp only [aqT, ROp, OX, ↓seqK, ↓blkK, ↓loopK, step, stepBin, res, stepIdx, mix, PV.cells, argSlots, Nat.reduceBEq, Nat.reduceBeqDiff, Nat.add_assoc nid, Nat.reduceAdd, reduceCtorEq, ↓reduceIte, Nat.reduceLeDiff, colPV, freeOf, indep, offO, neqO, disj, namesX, axSlot, opXs, rdXs, idsOf, idsOfs, lowH, lowAll, keys, Nat.reduceBneDiff, Option.toList, ← Int.ofNat_tmod, ← Int.ofNat_tdiv, optInt, fillP, repl, chunk, mkCols, mkCol, colInts, colBools, colStrs, colLits, colsApp, Col.app, tailOf, splice, colsPut, Col.put, mmFold, eqK, Nat.reduceLT, colsPaste, Col.paste, mNew, mkKey, keyIn, mGet, mPut, Int.cast_ofNat_Int, Int.reduceBEq, Int.reduceBNe, Int.reduceLT, Int.reduceLE, Int.reduceAdd, Int.reduceSub, Int.reduceMul, Int.reduceToNat, Int.reduceNeg, Int.reduceTMod, Int.reduceEq, not_false_eq_true, Int.reducePow, Int.reduceFDiv, Nat.reducePow, Nat.reduceSub, Nat.reduceMul, Nat.min_eq_left, Nat.reduceEqDiff, BEq.rfl, Int.tdiv_one, LN_succ]
    · have e : patRow n r = 3 := by unfold patRow; rw [if_neg (len_ne h3)]
      rw [bad (by rw [e]; decide), e]
      refine RetOK.pure (.inl rfl) rfl ?_
      simp [retPV, over, keys, List.map_nil, List.map_cons, List.contains_cons, List.contains_nil, Bool.or_false, Bool.or_true, Bool.true_or, Bool.false_or, beq_self_eq_true, cond_true, cond_false, HeapCov, orNil, nilSz, onBlk, srcOf, getH_hit, getH_miss, getH.eq_1, getS_hit, getS_miss, getS.eq_1, BlkCov, PVCovs, PVCov, ColsEq, ColEq.refl, liveIds, SlotsCov, List.all_nil, List.all_cons, List.any_nil, List.any_cons, List.nil_append, List.cons_append, inRange, apart, nilBlk, idS1, idS2, readAll, readRes, onAll, step, res, AX.val, List.drop_zero, List.drop_succ_cons, List.take_succ_cons, List.take_zero]
    have h3' : (r.length : Int) = n := by simpa using h3
    refine CallO.pure (bits_c r _ (by omega)) ?_
    cases h4 : bitsOk r <;> simp -dsimp only [aqT, ROp, OX, ↓seqK, ↓blkK, ↓loopK, step, stepBin, res, stepIdx, mix, PV.cells, argSlots, Nat.reduceBEq, Nat.reduceBeqDiff, Nat.add_assoc nid, Nat.reduceAdd, reduceCtorEq, ↓reduceIte, Nat.reduceLeDiff, colPV, freeOf, indep, offO, neqO, disj, namesX, axSlot, opXs, rdXs, idsOf, idsOfs, lowH, lowAll, keys, Nat.reduceBneDiff, Option.toList, ← Int.ofNat_tmod, ← Int.ofNat_tdiv, optInt, fillP, repl, chunk, mkCols, mkCol, colInts, colBools, colStrs, colLits, colsApp, Col.app, tailOf, splice, colsPut, Col.put, mmFold, eqK, Nat.reduceLT, colsPaste, Col.paste, mNew, mkKey, keyIn, mGet, mPut, Int.cast_ofNat_Int, Int.reduceBEq, Int.reduceBNe, Int.reduceLT, Int.reduceLE, Int.reduceAdd, Int.reduceSub, Int.reduceMul, Int.reduceToNat, Int.reduceNeg, Int.reduceTMod, Int.reduceEq, not_false_eq_true, Int.reducePow, Int.reduceFDiv, Nat.reducePow, Nat.reduceSub, Nat.reduceMul, Nat.min_eq_left, Nat.reduceEqDiff, BEq.rfl, Int.tdiv_one, LN_succ, Bool.not_true, Bool.not_false]
    · have e : patRow n r = 9 := by unfold patRow; rw [if_pos h3', if_neg (by simp [h4])]
      rw [bad (by rw [e]; decide), e]
      refine RetOK.pure (.inl rfl) rfl ?_
      simp [retPV, over, keys, List.map_nil, List.map_cons, List.contains_cons, List.contains_nil, Bool.or_false, Bool.or_true, Bool.true_or, Bool.false_or, beq_self_eq_true, cond_true, cond_false, HeapCov, orNil, nilSz, onBlk, srcOf, getH_hit, getH_miss, getH.eq_1, getS_hit, getS_miss, getS.eq_1, BlkCov, PVCovs, PVCov, ColsEq, ColEq.refl, liveIds, SlotsCov, List.all_nil, List.all_cons, List.any_nil, List.any_cons, List.nil_append, List.cons_append, inRange, apart, nilBlk, idS1, idS2, readAll, readRes, onAll, step, res, AX.val, List.drop_zero, List.drop_succ_cons, List.take_succ_cons, List.take_zero]
    · have e : patRow n r = 0 := by unfold patRow; rw [if_pos h3', if_pos h4]
      refine ⟨by unfold inI64; omega, k + 1, ⟨⟨by omega, good e⟩, by omega⟩, Cov.go [] [] ?_⟩
      simp [retPV, over, keys, List.map_nil, List.map_cons, List.contains_cons, List.contains_nil, Bool.or_false, Bool.or_true, Bool.true_or, Bool.false_or, beq_self_eq_true, cond_true, cond_false, HeapCov, orNil, nilSz, onBlk, srcOf, getH_hit, getH_miss, getH.eq_1, getS_hit, getS_miss, getS.eq_1, BlkCov, PVCovs, PVCov, ColsEq, ColEq.refl, liveIds, SlotsCov, List.all_nil, List.all_cons, List.any_nil, List.any_cons, List.nil_append, List.cons_append, inRange, apart, nilBlk, idS1, idS2, readAll, readRes, onAll, step, res, AX.val, List.drop_zero, List.drop_succ_cons, List.take_succ_cons, List.take_zero]
  · have hkn : k = v.length := by omega
    rw [hkn, List.take_length] at hb
    rw [hb]
    refine RetOK.pure (.inl rfl) rfl ?_
    simp [retPV, over, keys, List.map_nil, List.map_cons, List.contains_cons, List.contains_nil, Bool.or_false, Bool.or_true, Bool.true_or, Bool.false_or, beq_self_eq_true, cond_true, cond_false, HeapCov, orNil, nilSz, onBlk, srcOf, getH_hit, getH_miss, getH.eq_1, getS_hit, getS_miss, getS.eq_1, BlkCov, PVCovs, PVCov, ColsEq, ColEq.refl, liveIds, SlotsCov, List.all_nil, List.all_cons, List.any_nil, List.any_cons, List.nil_append, List.cons_append, inRange, apart, nilBlk, idS1, idS2, readAll, readRes, onAll, step, res, AX.val, List.drop_zero, List.drop_succ_cons, List.take_succ_cons, List.take_zero]
set_option maxHeartbeats 4000000 in
theorem patternsFault_all (nl : Bool) (n : Int) (v : List (List UInt8)) (nid : Nat) (hv : v.length ≤ 1000000000) (hr : ShortRows 1000000000 v) : ACall Tryd.prog 24 [.int .i64 n, litS nl v] [] nid (.int .i64 (patV n v)) [] := by
  refine acall_run c24 (by simp [a24]) ?_
  unfold litS
  simp -dsimp only [aqT, ROp, OX, ↓seqK, ↓blkK, ↓loopK, step, stepBin, res, stepIdx, mix, PV.cells, argSlots, Nat.reduceBEq, Nat.reduceBeqDiff, Nat.add_assoc nid, Nat.reduceAdd, reduceCtorEq, ↓reduceIte, Nat.reduceLeDiff, colPV, freeOf, indep, offO, neqO, disj, namesX, axSlot, opXs, rdXs, idsOf, idsOfs, lowH, lowAll, keys, Nat.reduceBneDiff, Option.toList, ← Int.ofNat_tmod, ← Int.ofNat_tdiv, optInt, fillP, repl, chunk, mkCols, mkCol, colInts, colBools, colStrs, colLits, colsApp, Col.app, tailOf, splice, colsPut, Col.put, mmFold, eqK, Nat.reduceLT, colsPaste, Col.paste, mNew, mkKey, keyIn, mGet, mPut, a24]
  refine CallO.pure (in_c _ _ _ _) ?_
  cases h0 : outB n 1 100 <;> simp -dsimp only [aqT, ROp, OX, ↓seqK, ↓blkK, ↓loopK, step, stepBin, res, stepIdx, mix, PV.cells, argSlots, Nat.reduceBEq, Nat.reduceBeqDiff, Nat.add_assoc nid, Nat.reduceAdd, reduceCtorEq, ↓reduceIte, Nat.reduceLeDiff, colPV, freeOf, indep, offO, neqO, disj, namesX, axSlot, opXs, rdXs, idsOf, idsOfs, lowH, lowAll, keys, Nat.reduceBneDiff, Option.toList, ← Int.ofNat_tmod, ← Int.ofNat_tdiv, optInt, fillP, repl, chunk, mkCols, mkCol, colInts, colBools, colStrs, colLits, colsApp, Col.app, tailOf, splice, colsPut, Col.put, mmFold, eqK, Nat.reduceLT, colsPaste, Col.paste, mNew, mkKey, keyIn, mGet, mPut, Int.cast_ofNat_Int, Int.reduceBEq, Int.reduceBNe, Int.reduceLT, Int.reduceLE, Int.reduceAdd, Int.reduceSub, Int.reduceMul, Int.reduceToNat, Int.reduceNeg, Int.reduceTMod, Int.reduceEq, not_false_eq_true, Int.reducePow, Int.reduceFDiv, Nat.reducePow, Nat.reduceSub, Nat.reduceMul, Nat.min_eq_left, Nat.reduceEqDiff, BEq.rfl, Int.tdiv_one, LN_succ, Bool.not_true, Bool.not_false]
  case true =>
    have e : patV n v = 1 := by unfold patV; rw [if_pos h0]
    rw [e]
    refine RetOK.pure (.inl rfl) rfl ?_
    simp [retPV, over, keys, List.map_nil, List.map_cons, List.contains_cons, List.contains_nil, Bool.or_false, Bool.or_true, Bool.true_or, Bool.false_or, beq_self_eq_true, cond_true, cond_false, HeapCov, orNil, nilSz, onBlk, srcOf, getH_hit, getH_miss, getH.eq_1, getS_hit, getS_miss, getS.eq_1, BlkCov, PVCovs, PVCov, ColsEq, ColEq.refl, liveIds, SlotsCov, List.all_nil, List.all_cons, List.any_nil, List.any_cons, List.nil_append, List.cons_append, inRange, apart, nilBlk, idS1, idS2, readAll, readRes, onAll, step, res, AX.val, List.drop_zero, List.drop_succ_cons, List.take_succ_cons, List.take_zero]
  refine S2.dec (fun h1 => ?_) (fun h1 => ?_) <;> simp -dsimp only [aqT, ROp, OX, ↓seqK, ↓blkK, ↓loopK, step, stepBin, res, stepIdx, mix, PV.cells, argSlots, Nat.reduceBEq, Nat.reduceBeqDiff, Nat.add_assoc nid, Nat.reduceAdd, reduceCtorEq, ↓reduceIte, Nat.reduceLeDiff, colPV, freeOf, indep, offO, neqO, disj, namesX, axSlot, opXs, rdXs, idsOf, idsOfs, lowH, lowAll, keys, Nat.reduceBneDiff, Option.toList, ← Int.ofNat_tmod, ← Int.ofNat_tdiv, optInt, fillP, repl, chunk, mkCols, mkCol, colInts, colBools, colStrs, colLits, colsApp, Col.app, tailOf, splice, colsPut, Col.put, mmFold, eqK, Nat.reduceLT, colsPaste, Col.paste, mNew, mkKey, keyIn, mGet, mPut, Int.cast_ofNat_Int, Int.reduceBEq, Int.reduceBNe, Int.reduceLT, Int.reduceLE, Int.reduceAdd, Int.reduceSub, Int.reduceMul, Int.reduceToNat, Int.reduceNeg, Int.reduceTMod, Int.reduceEq, not_false_eq_true, Int.reducePow, Int.reduceFDiv, Nat.reducePow, Nat.reduceSub, Nat.reduceMul, Nat.min_eq_left, Nat.reduceEqDiff, BEq.rfl, Int.tdiv_one, LN_succ]
  · have e : patV n v = 2 := by unfold patV; rw [if_neg (by simp [h0]), if_pos (by omega)]
    rw [e]
    refine RetOK.pure (.inl rfl) rfl ?_
    simp [retPV, over, keys, List.map_nil, List.map_cons, List.contains_cons, List.contains_nil, Bool.or_false, Bool.or_true, Bool.true_or, Bool.false_or, beq_self_eq_true, cond_true, cond_false, HeapCov, orNil, nilSz, onBlk, srcOf, getH_hit, getH_miss, getH.eq_1, getS_hit, getS_miss, getS.eq_1, BlkCov, PVCovs, PVCov, ColsEq, ColEq.refl, liveIds, SlotsCov, List.all_nil, List.all_cons, List.any_nil, List.any_cons, List.nil_append, List.cons_append, inRange, apart, nilBlk, idS1, idS2, readAll, readRes, onAll, step, res, AX.val, List.drop_zero, List.drop_succ_cons, List.take_succ_cons, List.take_zero]
  have eV : patV n v = firstBad (patRow n) v := by unfold patV; rw [if_neg (by simp [h0]), if_neg (by omega)]
  rw [eV]
  refine LP.mkP (fun k : Nat => k ≤ v.length ∧ firstBad (patRow n) (v.take k) = 0) (fun k : Nat => ⟨[(18, .int .i64 k), (17, .int .i64 v.length), (16, .lit nl v.length [.s fun i => v.getD i []]), (0, .int .i64 n)], [], nid + 100, nid⟩) (fun k => v.length + 1 - k) 0 ⟨by omega, rfl⟩ (Cov.go [] [] ?_) (fun k hk => ?_)
  · simp [retPV, over, keys, List.map_nil, List.map_cons, List.contains_cons, List.contains_nil, Bool.or_false, Bool.or_true, Bool.true_or, Bool.false_or, beq_self_eq_true, cond_true, cond_false, HeapCov, orNil, nilSz, onBlk, srcOf, getH_hit, getH_miss, getH.eq_1, getS_hit, getS_miss, getS.eq_1, BlkCov, PVCovs, PVCov, ColsEq, ColEq.refl, liveIds, SlotsCov, List.all_nil, List.all_cons, List.any_nil, List.any_cons, List.nil_append, List.cons_append, inRange, apart, nilBlk, idS1, idS2, readAll, readRes, onAll, step, res, AX.val, List.drop_zero, List.drop_succ_cons, List.take_succ_cons, List.take_zero]
  obtain ⟨hk, hb⟩ := hk
  simp -dsimp only [aqT, ROp, OX, ↓seqK, ↓blkK, ↓loopK, step, stepBin, res, stepIdx, mix, PV.cells, argSlots, Nat.reduceBEq, Nat.reduceBeqDiff, Nat.add_assoc nid, Nat.reduceAdd, reduceCtorEq, ↓reduceIte, Nat.reduceLeDiff, colPV, freeOf, indep, offO, neqO, disj, namesX, axSlot, opXs, rdXs, idsOf, idsOfs, lowH, lowAll, keys, Nat.reduceBneDiff, Option.toList, ← Int.ofNat_tmod, ← Int.ofNat_tdiv, optInt, fillP, repl, chunk, mkCols, mkCol, colInts, colBools, colStrs, colLits, colsApp, Col.app, tailOf, splice, colsPut, Col.put, mmFold, eqK, Nat.reduceLT, colsPaste, Col.paste, mNew, mkKey, keyIn, mGet, mPut, Int.cast_ofNat_Int, Int.reduceBEq, Int.reduceBNe, Int.reduceLT, Int.reduceLE, Int.reduceAdd, Int.reduceSub, Int.reduceMul, Int.reduceToNat, Int.reduceNeg, Int.reduceTMod, Int.reduceEq, not_false_eq_true, Int.reducePow, Int.reduceFDiv, Nat.reducePow, Nat.reduceSub, Nat.reduceMul, Nat.min_eq_left, Nat.reduceEqDiff, BEq.rfl, Int.tdiv_one, LN_succ]
  refine S2.dec (fun h2 => ?_) (fun h2 => ?_) <;> simp -dsimp only [aqT, ROp, OX, ↓seqK, ↓blkK, ↓loopK, step, stepBin, res, stepIdx, mix, PV.cells, argSlots, Nat.reduceBEq, Nat.reduceBeqDiff, Nat.add_assoc nid, Nat.reduceAdd, reduceCtorEq, ↓reduceIte, Nat.reduceLeDiff, colPV, freeOf, indep, offO, neqO, disj, namesX, axSlot, opXs, rdXs, idsOf, idsOfs, lowH, lowAll, keys, Nat.reduceBneDiff, Option.toList, ← Int.ofNat_tmod, ← Int.ofNat_tdiv, optInt, fillP, repl, chunk, mkCols, mkCol, colInts, colBools, colStrs, colLits, colsApp, Col.app, tailOf, splice, colsPut, Col.put, mmFold, eqK, Nat.reduceLT, colsPaste, Col.paste, mNew, mkKey, keyIn, mGet, mPut, Int.cast_ofNat_Int, Int.reduceBEq, Int.reduceBNe, Int.reduceLT, Int.reduceLE, Int.reduceAdd, Int.reduceSub, Int.reduceMul, Int.reduceToNat, Int.reduceNeg, Int.reduceTMod, Int.reduceEq, not_false_eq_true, Int.reducePow, Int.reduceFDiv, Nat.reducePow, Nat.reduceSub, Nat.reduceMul, Nat.min_eq_left, Nat.reduceEqDiff, BEq.rfl, Int.tdiv_one, LN_succ]
  · have hkl : k < v.length := by omega
    obtain ⟨bad, good⟩ := rowsFB (d := []) hkl hb
    have hrl := hr.at k
    generalize hrr : v.getD k [] = r at *
    refine ⟨by omega, S2.intro (fun h3 => ?_) (fun h3 => ?_)⟩ <;> simp -dsimp only [aqT, ROp, OX, ↓seqK, ↓blkK, ↓loopK, step, stepBin, res, stepIdx, mix, PV.cells, argSlots, Nat.reduceBEq, Nat.reduceBeqDiff, Nat.add_assoc nid, Nat.reduceAdd, reduceCtorEq, ↓reduceIte, Nat.reduceLeDiff, colPV, freeOf, indep, offO, neqO, disj, namesX, axSlot, opXs, rdXs, idsOf, idsOfs, lowH, lowAll, keys, Nat.reduceBneDiff, Option.toList, ← Int.ofNat_tmod, ← Int.ofNat_tdiv, optInt, fillP, repl, chunk, mkCols, mkCol, colInts, colBools, colStrs, colLits, colsApp, Col.app, tailOf, splice, colsPut, Col.put, mmFold, eqK, Nat.reduceLT, colsPaste, Col.paste, mNew, mkKey, keyIn, mGet, mPut, Int.cast_ofNat_Int, Int.reduceBEq, Int.reduceBNe, Int.reduceLT, Int.reduceLE, Int.reduceAdd, Int.reduceSub, Int.reduceMul, Int.reduceToNat, Int.reduceNeg, Int.reduceTMod, Int.reduceEq, not_false_eq_true, Int.reducePow, Int.reduceFDiv, Nat.reducePow, Nat.reduceSub, Nat.reduceMul, Nat.min_eq_left, Nat.reduceEqDiff, BEq.rfl, Int.tdiv_one, LN_succ]
    · have e : patRow n r = 3 := by unfold patRow; rw [if_neg (len_ne h3)]
      rw [bad (by rw [e]; decide), e]
      refine RetOK.pure (.inl rfl) rfl ?_
      simp [retPV, over, keys, List.map_nil, List.map_cons, List.contains_cons, List.contains_nil, Bool.or_false, Bool.or_true, Bool.true_or, Bool.false_or, beq_self_eq_true, cond_true, cond_false, HeapCov, orNil, nilSz, onBlk, srcOf, getH_hit, getH_miss, getH.eq_1, getS_hit, getS_miss, getS.eq_1, BlkCov, PVCovs, PVCov, ColsEq, ColEq.refl, liveIds, SlotsCov, List.all_nil, List.all_cons, List.any_nil, List.any_cons, List.nil_append, List.cons_append, inRange, apart, nilBlk, idS1, idS2, readAll, readRes, onAll, step, res, AX.val, List.drop_zero, List.drop_succ_cons, List.take_succ_cons, List.take_zero]
    have h3' : (r.length : Int) = n := by simpa using h3
    refine CallO.pure (bitsFaultR_c r _ (by omega)) ?_
    cases h4 : bitsOk r <;> simp -dsimp only [aqT, ROp, OX, ↓seqK, ↓blkK, ↓loopK, step, stepBin, res, stepIdx, mix, PV.cells, argSlots, Nat.reduceBEq, Nat.reduceBeqDiff, Nat.add_assoc nid, Nat.reduceAdd, reduceCtorEq, ↓reduceIte, Nat.reduceLeDiff, colPV, freeOf, indep, offO, neqO, disj, namesX, axSlot, opXs, rdXs, idsOf, idsOfs, lowH, lowAll, keys, Nat.reduceBneDiff, Option.toList, ← Int.ofNat_tmod, ← Int.ofNat_tdiv, optInt, fillP, repl, chunk, mkCols, mkCol, colInts, colBools, colStrs, colLits, colsApp, Col.app, tailOf, splice, colsPut, Col.put, mmFold, eqK, Nat.reduceLT, colsPaste, Col.paste, mNew, mkKey, keyIn, mGet, mPut, Int.cast_ofNat_Int, Int.reduceBEq, Int.reduceBNe, Int.reduceLT, Int.reduceLE, Int.reduceAdd, Int.reduceSub, Int.reduceMul, Int.reduceToNat, Int.reduceNeg, Int.reduceTMod, Int.reduceEq, not_false_eq_true, Int.reducePow, Int.reduceFDiv, Nat.reducePow, Nat.reduceSub, Nat.reduceMul, Nat.min_eq_left, Nat.reduceEqDiff, BEq.rfl, Int.tdiv_one, LN_succ]
    · have e : patRow n r = 9 := by unfold patRow; rw [if_pos h3', if_neg (by simp [h4])]
      rw [bad (by rw [e]; decide), e]
      refine RetOK.pure (.inl rfl) rfl ?_
      simp [retPV, over, keys, List.map_nil, List.map_cons, List.contains_cons, List.contains_nil, Bool.or_false, Bool.or_true, Bool.true_or, Bool.false_or, beq_self_eq_true, cond_true, cond_false, HeapCov, orNil, nilSz, onBlk, srcOf, getH_hit, getH_miss, getH.eq_1, getS_hit, getS_miss, getS.eq_1, BlkCov, PVCovs, PVCov, ColsEq, ColEq.refl, liveIds, SlotsCov, List.all_nil, List.all_cons, List.any_nil, List.any_cons, List.nil_append, List.cons_append, inRange, apart, nilBlk, idS1, idS2, readAll, readRes, onAll, step, res, AX.val, List.drop_zero, List.drop_succ_cons, List.take_succ_cons, List.take_zero]
    · have e : patRow n r = 0 := by unfold patRow; rw [if_pos h3', if_pos h4]
      refine ⟨by unfold inI64; omega, k + 1, ⟨⟨by omega, good e⟩, by omega⟩, Cov.go [] [] ?_⟩
      simp [retPV, over, keys, List.map_nil, List.map_cons, List.contains_cons, List.contains_nil, Bool.or_false, Bool.or_true, Bool.true_or, Bool.false_or, beq_self_eq_true, cond_true, cond_false, HeapCov, orNil, nilSz, onBlk, srcOf, getH_hit, getH_miss, getH.eq_1, getS_hit, getS_miss, getS.eq_1, BlkCov, PVCovs, PVCov, ColsEq, ColEq.refl, liveIds, SlotsCov, List.all_nil, List.all_cons, List.any_nil, List.any_cons, List.nil_append, List.cons_append, inRange, apart, nilBlk, idS1, idS2, readAll, readRes, onAll, step, res, AX.val, List.drop_zero, List.drop_succ_cons, List.take_succ_cons, List.take_zero]
  · have hkn : k = v.length := by omega
    rw [hkn, List.take_length] at hb
    rw [hb]
    refine RetOK.pure (.inl rfl) rfl ?_
    simp [retPV, over, keys, List.map_nil, List.map_cons, List.contains_cons, List.contains_nil, Bool.or_false, Bool.or_true, Bool.true_or, Bool.false_or, beq_self_eq_true, cond_true, cond_false, HeapCov, orNil, nilSz, onBlk, srcOf, getH_hit, getH_miss, getH.eq_1, getS_hit, getS_miss, getS.eq_1, BlkCov, PVCovs, PVCov, ColsEq, ColEq.refl, liveIds, SlotsCov, List.all_nil, List.all_cons, List.any_nil, List.any_cons, List.nil_append, List.cons_append, inRange, apart, nilBlk, idS1, idS2, readAll, readRes, onAll, step, res, AX.val, List.drop_zero, List.drop_succ_cons, List.take_succ_cons, List.take_zero]
end Go.Proofs.YthcldfmlfjomfaaDoor
namespace Go.Proofs.YthcldfmlfjomfaaDoor
open Go.RowKit
theorem fill_step (f : Nat → Int) (y : Nat) : (fun j => if j = y then f y else if j < y then f j else 0) = fun j => if j < y + 1 then f j else 0 := by
  funext j
  by_cases h : j = y
  · subst h; simp
  · rw [if_neg h]
    by_cases h2 : j < y
    · rw [if_pos h2, if_pos (by omega)]
    · rw [if_neg h2, if_neg (by omega)]
theorem fill_bytes {l : List UInt8} {n : Nat} (h : l.length = n) : (List.range n).map (fun i => UInt8.ofNat (if i < n then (((l.getD i 0).toNat : Nat) : Int) else 0).toNat) = l := by
  subst h
  apply List.ext_getElem
  · simp
  · intro i h1 h2
    rw [List.getElem_map, List.getElem_range, if_pos h2]
    simp [List.getD_eq_getElem?_getD, List.getElem?_eq_getElem h2]
theorem turnL_take (v : List (List UInt8)) {c x : Nat} (h : x < c) : (turnL v c).take (x + 1) = (turnL v c).take x ++ [colB v x] := by
  refine take_snoc ?_
  unfold turnL
  rw [List.getElem?_map, List.getElem?_range h]
  rfl
set_option maxHeartbeats 8000000 in
theorem turned_all (nl : Bool) (v : List (List UInt8)) (c : Nat) (nid : Nat) (hv : v.length ≤ 1000000000) (hc : c ≤ 1000000000) (hw : ∀ s ∈ v, c ≤ s.length) : ACall Tryd.prog 73 [litS nl v, .int .i64 (c : Nat)] [] nid (.sl nid 0 c) [(nid, arrS (turnL v c))] := by
  have hrl := turnL_len v c
  refine acall_run c73 (by simp [a73]) ?_
  unfold litS
  simp -dsimp only [aqT, ROp, OX, ↓seqK, ↓blkK, ↓loopK, step, stepBin, res, stepIdx, mix, PV.cells, argSlots, Nat.reduceBEq, Nat.reduceBeqDiff, Nat.add_assoc nid, Nat.reduceAdd, reduceCtorEq, ↓reduceIte, Nat.reduceLeDiff, colPV, freeOf, indep, offO, neqO, disj, namesX, axSlot, opXs, rdXs, idsOf, idsOfs, lowH, lowAll, keys, Nat.reduceBneDiff, Option.toList, ← Int.ofNat_tmod, ← Int.ofNat_tdiv, optInt, fillP, repl, chunk, mkCols, mkCol, colInts, colBools, colStrs, colLits, colsApp, Col.app, tailOf, splice, colsPut, Col.put, mmFold, eqK, Nat.reduceLT, colsPaste, Col.paste, mNew, mkKey, keyIn, mGet, mPut, a73]
  refine LP.mkP (fun x : Nat => x ≤ c) (fun x : Nat => ⟨[(11, .int .i64 x), (10, .int .i64 (c : Nat)), (5, .sl (nid + 4) 0 x), (0, litS nl v)], [(nid + 4, arrS ((turnL v c).take x))], nid + 100, nid⟩) (fun x => c + 1 - x) 0 (by omega) (Cov.go [] [(nid + 4, 1)] ?_) (fun x hx => ?_)
  · simp [retPV, over, keys, List.map_nil, List.map_cons, List.contains_cons, List.contains_nil, Bool.or_false, Bool.or_true, Bool.true_or, Bool.false_or, beq_self_eq_true, cond_true, cond_false, HeapCov, orNil, nilSz, onBlk, srcOf, getH_hit, getH_miss, getH.eq_1, getS_hit, getS_miss, getS.eq_1, BlkCov, PVCovs, PVCov, ColsEq, ColEq.refl, liveIds, SlotsCov, List.all_nil, List.all_cons, List.any_nil, List.any_cons, List.nil_append, List.cons_append, inRange, apart, nilBlk, idS1, idS2, readAll, readRes, onAll, step, res, AX.val, List.drop_zero, List.drop_succ_cons, List.take_succ_cons, List.take_zero, arrS, litS]
  have hxl : ((turnL v c).take x).length = x := by rw [List.length_take]; omega
  unfold arrS litS
  rw [hxl]
  simp -dsimp only [aqT, ROp, OX, ↓seqK, ↓blkK, ↓loopK, step, stepBin, res, stepIdx, mix, PV.cells, argSlots, Nat.reduceBEq, Nat.reduceBeqDiff, Nat.add_assoc nid, Nat.reduceAdd, reduceCtorEq, ↓reduceIte, Nat.reduceLeDiff, colPV, freeOf, indep, offO, neqO, disj, namesX, axSlot, opXs, rdXs, idsOf, idsOfs, lowH, lowAll, keys, Nat.reduceBneDiff, Option.toList, ← Int.ofNat_tmod, ← Int.ofNat_tdiv, optInt, fillP, repl, chunk, mkCols, mkCol, colInts, colBools, colStrs, colLits, colsApp, Col.app, tailOf, splice, colsPut, Col.put, mmFold, eqK, Nat.reduceLT, colsPaste, Col.paste, mNew, mkKey, keyIn, mGet, mPut, Int.cast_ofNat_Int, Int.reduceBEq, Int.reduceBNe, Int.reduceLT, Int.reduceLE, Int.reduceAdd, Int.reduceSub, Int.reduceMul, Int.reduceToNat, Int.reduceNeg, Int.reduceTMod, Int.reduceEq, not_false_eq_true, Int.reducePow, Int.reduceFDiv, Nat.reducePow, Nat.reduceSub, Nat.reduceMul, Nat.min_eq_left, Nat.reduceEqDiff, BEq.rfl, Int.tdiv_one, LN_succ]
  refine S2.dec (fun h1 => ?_) (fun h1 => ?_) <;> simp -dsimp only [aqT, ROp, OX, ↓seqK, ↓blkK, ↓loopK, step, stepBin, res, stepIdx, mix, PV.cells, argSlots, Nat.reduceBEq, Nat.reduceBeqDiff, Nat.add_assoc nid, Nat.reduceAdd, reduceCtorEq, ↓reduceIte, Nat.reduceLeDiff, colPV, freeOf, indep, offO, neqO, disj, namesX, axSlot, opXs, rdXs, idsOf, idsOfs, lowH, lowAll, keys, Nat.reduceBneDiff, Option.toList, ← Int.ofNat_tmod, ← Int.ofNat_tdiv, optInt, fillP, repl, chunk, mkCols, mkCol, colInts, colBools, colStrs, colLits, colsApp, Col.app, tailOf, splice, colsPut, Col.put, mmFold, eqK, Nat.reduceLT, colsPaste, Col.paste, mNew, mkKey, keyIn, mGet, mPut, Int.cast_ofNat_Int, Int.reduceBEq, Int.reduceBNe, Int.reduceLT, Int.reduceLE, Int.reduceAdd, Int.reduceSub, Int.reduceMul, Int.reduceToNat, Int.reduceNeg, Int.reduceTMod, Int.reduceEq, not_false_eq_true, Int.reducePow, Int.reduceFDiv, Nat.reducePow, Nat.reduceSub, Nat.reduceMul, Nat.min_eq_left, Nat.reduceEqDiff, BEq.rfl, Int.tdiv_one, LN_succ]
  · have hxw : x < c := by omega
    have htk := turnL_take v hxw
    have hRl := colB_len v x
    have hRt := fun y hy => colB_at v x (i := y) hy
    generalize colB v x = R at *
    generalize (turnL v c).take x = T at *
    refine ⟨by omega, ?_⟩
    refine LP.mkP (fun y : Nat => y ≤ v.length) (fun y : Nat => ⟨[(19, .int .i64 y), (18, .int .i64 v.length), (17, litS nl v), (7, .sl (nid + 8) 0 v.length), (6, .int .i64 x), (11, .int .i64 x), (10, .int .i64 (c : Nat)), (5, .sl (nid + 4) 0 x), (0, litS nl v)], [(nid + 4, arrS T), (nid + 8, some (.arr 5 v.length [.i .u8 fun i => if i < y then (((R.getD i 0).toNat : Nat) : Int) else 0]))], nid + 2000, nid⟩) (fun y => v.length + 1 - y) 0 (by omega) (Cov.go [(nid + 8, nid + 120)] [] ?_) (fun y hy => ?_)
    · simp [retPV, over, keys, List.map_nil, List.map_cons, List.contains_cons, List.contains_nil, Bool.or_false, Bool.or_true, Bool.true_or, Bool.false_or, beq_self_eq_true, cond_true, cond_false, HeapCov, orNil, nilSz, onBlk, srcOf, getH_hit, getH_miss, getH.eq_1, getS_hit, getS_miss, getS.eq_1, BlkCov, PVCovs, PVCov, ColsEq, ColEq.refl, liveIds, SlotsCov, List.all_nil, List.all_cons, List.any_nil, List.any_cons, List.nil_append, List.cons_append, inRange, apart, nilBlk, idS1, idS2, readAll, readRes, onAll, step, res, AX.val, List.drop_zero, List.drop_succ_cons, List.take_succ_cons, List.take_zero, arrS, litS, hxl, Col.const]
    unfold arrS litS
    simp -dsimp only [aqT, ROp, OX, ↓seqK, ↓blkK, ↓loopK, step, stepBin, res, stepIdx, mix, PV.cells, argSlots, Nat.reduceBEq, Nat.reduceBeqDiff, Nat.add_assoc nid, Nat.reduceAdd, reduceCtorEq, ↓reduceIte, Nat.reduceLeDiff, colPV, freeOf, indep, offO, neqO, disj, namesX, axSlot, opXs, rdXs, idsOf, idsOfs, lowH, lowAll, keys, Nat.reduceBneDiff, Option.toList, ← Int.ofNat_tmod, ← Int.ofNat_tdiv, optInt, fillP, repl, chunk, mkCols, mkCol, colInts, colBools, colStrs, colLits, colsApp, Col.app, tailOf, splice, colsPut, Col.put, mmFold, eqK, Nat.reduceLT, colsPaste, Col.paste, mNew, mkKey, keyIn, mGet, mPut, Int.cast_ofNat_Int, Int.reduceBEq, Int.reduceBNe, Int.reduceLT, Int.reduceLE, Int.reduceAdd, Int.reduceSub, Int.reduceMul, Int.reduceToNat, Int.reduceNeg, Int.reduceTMod, Int.reduceEq, not_false_eq_true, Int.reducePow, Int.reduceFDiv, Nat.reducePow, Nat.reduceSub, Nat.reduceMul, Nat.min_eq_left, Nat.reduceEqDiff, BEq.rfl, Int.tdiv_one, LN_succ]
    refine S2.dec (fun h2 => ?_) (fun h2 => ?_) <;> simp -dsimp only [aqT, ROp, OX, ↓seqK, ↓blkK, ↓loopK, step, stepBin, res, stepIdx, mix, PV.cells, argSlots, Nat.reduceBEq, Nat.reduceBeqDiff, Nat.add_assoc nid, Nat.reduceAdd, reduceCtorEq, ↓reduceIte, Nat.reduceLeDiff, colPV, freeOf, indep, offO, neqO, disj, namesX, axSlot, opXs, rdXs, idsOf, idsOfs, lowH, lowAll, keys, Nat.reduceBneDiff, Option.toList, ← Int.ofNat_tmod, ← Int.ofNat_tdiv, optInt, fillP, repl, chunk, mkCols, mkCol, colInts, colBools, colStrs, colLits, colsApp, Col.app, tailOf, splice, colsPut, Col.put, mmFold, eqK, Nat.reduceLT, colsPaste, Col.paste, mNew, mkKey, keyIn, mGet, mPut, Int.cast_ofNat_Int, Int.reduceBEq, Int.reduceBNe, Int.reduceLT, Int.reduceLE, Int.reduceAdd, Int.reduceSub, Int.reduceMul, Int.reduceToNat, Int.reduceNeg, Int.reduceTMod, Int.reduceEq, not_false_eq_true, Int.reducePow, Int.reduceFDiv, Nat.reducePow, Nat.reduceSub, Nat.reduceMul, Nat.min_eq_left, Nat.reduceEqDiff, BEq.rfl, Int.tdiv_one, LN_succ]
    · have hyv : y < v.length := by omega
      have hcv := hRt y hyv
      have hlen := getD_all (P := fun s : List UInt8 => c ≤ s.length) (d := []) hw hyv
      have e : (fun j => if j = y then (((R.getD y 0).toNat : Nat) : Int) else if j < y then (((R.getD j 0).toNat : Nat) : Int) else 0) = fun j => if j < y + 1 then (((R.getD j 0).toNat : Nat) : Int) else 0 := fill_step (fun j => (((R.getD j 0).toNat : Nat) : Int)) y
      rw [← hcv, e]
      refine ⟨by omega, by omega, by omega, by unfold inI64; omega, y + 1, ⟨by omega, by omega⟩, Cov.go [] [] ?_⟩
      simp [retPV, over, keys, List.map_nil, List.map_cons, List.contains_cons, List.contains_nil, Bool.or_false, Bool.or_true, Bool.true_or, Bool.false_or, beq_self_eq_true, cond_true, cond_false, HeapCov, orNil, nilSz, onBlk, srcOf, getH_hit, getH_miss, getH.eq_1, getS_hit, getS_miss, getS.eq_1, BlkCov, PVCovs, PVCov, ColsEq, ColEq.refl, liveIds, SlotsCov, List.all_nil, List.all_cons, List.any_nil, List.any_cons, List.nil_append, List.cons_append, inRange, apart, nilBlk, idS1, idS2, readAll, readRes, onAll, step, res, AX.val, List.drop_zero, List.drop_succ_cons, List.take_succ_cons, List.take_zero, arrS, litS, hxl, -List.getD_eq_getElem?_getD]
    · have hyn : y = v.length := by omega
      subst hyn
      rw [fill_bytes hRl, getD_app1 T R hxl]
      refine ⟨by omega, by unfold inI64; omega, x + 1, ⟨by omega, by omega⟩, Cov.go [(nid + 4, nid + 2020)] [] ?_⟩
      simp [retPV, over, keys, List.map_nil, List.map_cons, List.contains_cons, List.contains_nil, Bool.or_false, Bool.or_true, Bool.true_or, Bool.false_or, beq_self_eq_true, cond_true, cond_false, HeapCov, orNil, nilSz, onBlk, srcOf, getH_hit, getH_miss, getH.eq_1, getS_hit, getS_miss, getS.eq_1, BlkCov, PVCovs, PVCov, ColsEq, ColEq.refl, liveIds, SlotsCov, List.all_nil, List.all_cons, List.any_nil, List.any_cons, List.nil_append, List.cons_append, inRange, apart, nilBlk, idS1, idS2, readAll, readRes, onAll, step, res, AX.val, List.drop_zero, List.drop_succ_cons, List.take_succ_cons, List.take_zero, arrS, litS, hxl, htk, -List.getD_eq_getElem?_getD]
  · have hxn : x = c := by omega
    subst hxn
    have hT : (turnL v x).take x = turnL v x := List.take_of_length_le (by omega)
    rw [hT]
    refine RetOK.go [(nid, nid + 4)] [] (.inl rfl) ?_
    simp [a73, retPV, over, keys, List.map_nil, List.map_cons, List.contains_cons, List.contains_nil, Bool.or_false, Bool.or_true, Bool.true_or, Bool.false_or, beq_self_eq_true, cond_true, cond_false, HeapCov, orNil, nilSz, onBlk, srcOf, getH_hit, getH_miss, getH.eq_1, getS_hit, getS_miss, getS.eq_1, BlkCov, PVCovs, PVCov, ColsEq, ColEq.refl, liveIds, SlotsCov, List.all_nil, List.all_cons, List.any_nil, List.any_cons, List.nil_append, List.cons_append, inRange, apart, nilBlk, idS1, idS2, readAll, readRes, onAll, step, res, AX.val, List.drop_zero, List.drop_succ_cons, List.take_succ_cons, List.take_zero, arrS, hrl, -List.getD_eq_getElem?_getD]
end Go.Proofs.YthcldfmlfjomfaaDoor
namespace Go.Proofs.YthcldfmlfjomfaaDoor
open Go.RowKit
theorem whole_all : ((List.range 64).all fun j => decide (IntKind.u64.wrap (IntKind.u64.wrap (1 * 2 ^ (min ((j : Nat) : Int).toNat IntKind.u64.bits)) - 1) = ((2 ^ j - 1 : Nat) : Int))) = true := by kernel_rfl
theorem whole_eq {j : Nat} (hj : j < 64) : IntKind.u64.wrap (IntKind.u64.wrap (1 * 2 ^ (min j IntKind.u64.bits)) - 1) = ((2 ^ j - 1 : Nat) : Int) := by
  have h1 := List.all_eq_true.1 whole_all j (List.mem_range.2 hj)
  simpa using h1
theorem whole_c (j : Nat) (nid : Nat) (hj : j < 64) : ACall Tryd.prog 225 [.int .i64 (j : Nat)] [] nid (.int .u64 ((2 ^ j - 1 : Nat) : Int)) [] := by
  have h := whole_eq hj
  refine acall_run c225 (by simp [a225]) ?_
  simp -dsimp only [aqT, ROp, OX, ↓seqK, ↓blkK, ↓loopK, step, stepBin, res, stepIdx, mix, PV.cells, argSlots, Nat.reduceBEq, Nat.reduceBeqDiff, Nat.add_assoc nid, Nat.reduceAdd, reduceCtorEq, ↓reduceIte, Nat.reduceLeDiff, colPV, freeOf, indep, offO, neqO, disj, namesX, axSlot, opXs, rdXs, idsOf, idsOfs, lowH, lowAll, keys, Nat.reduceBneDiff, Option.toList, ← Int.ofNat_tmod, ← Int.ofNat_tdiv, optInt, fillP, repl, chunk, mkCols, mkCol, colInts, colBools, colStrs, colLits, colsApp, Col.app, tailOf, splice, colsPut, Col.put, mmFold, eqK, Nat.reduceLT, colsPaste, Col.paste, mNew, mkKey, keyIn, mGet, mPut, a225]
  rw [h]
  refine ⟨by omega, ?_⟩
  refine RetOK.pure (.inl rfl) rfl ?_
  simp [retPV, over, keys, List.map_nil, List.map_cons, List.contains_cons, List.contains_nil, Bool.or_false, Bool.or_true, Bool.true_or, Bool.false_or, beq_self_eq_true, cond_true, cond_false, HeapCov, orNil, nilSz, onBlk, srcOf, getH_hit, getH_miss, getH.eq_1, getS_hit, getS_miss, getS.eq_1, BlkCov, PVCovs, PVCov, ColsEq, ColEq.refl, liveIds, SlotsCov, List.all_nil, List.all_cons, List.any_nil, List.any_cons, List.nil_append, List.cons_append, inRange, apart, nilBlk, idS1, idS2, readAll, readRes, onAll, step, res, AX.val, List.drop_zero, List.drop_succ_cons, List.take_succ_cons, List.take_zero]
def arrU (r : List Nat) : Option ABlk := some (.arr 132 r.length [.i .u64 fun i => ((r.getD i 0 : Nat) : Int)])
def netsP (nf : Bool) (l : List Nat) : PV := .lit nf l.length [.i .i64 fun i => ((l.getD i 0 : Nat) : Int)]
def fltP (nf : Bool) (f : Flt) : PV := .agg [.int .i64 (f.kind : Nat), netsP nf f.nets]
structure FltOk (n : Nat) (f : Flt) : Prop where
  lo : 1 ≤ f.kind
  hi : f.kind ≤ 6
  pos : 0 < f.nets.length
  len : f.nets.length ≤ 6
  nets : ∀ x ∈ f.nets, x < n
theorem FltOk.at {n : Nat} {f : Flt} (h : FltOk n f) {i : Nat} (hi : i < f.nets.length) : f.nets.getD i 0 < n := by
  rw [List.getD_eq_getElem?_getD, List.getElem?_eq_getElem hi]
  exact h.nets _ (List.getElem_mem _)
theorem foldl_take {α β : Type} (g : β → α → β) (b : β) {l : List α} {k : Nat} {d : α} (h : k < l.length) : (l.take (k + 1)).foldl g b = g ((l.take k).foldl g b) (l.getD k d) := by
  have e : l.take (k + 1) = l.take k ++ [l.getD k d] := take_snoc (by rw [List.getD_eq_getElem?_getD, List.getElem?_eq_getElem h]; rfl)
  rw [e, List.foldl_append]
  rfl
def andTo (r : List Nat) (f : Flt) (k : Nat) : Nat := (f.nets.take k).foldl (fun a n => a &&& r.getD n 0) (r.getD (f.nets.getD 0 0) 0)
def orTo (r : List Nat) (f : Flt) (k : Nat) : Nat := (f.nets.take k).foldl (fun a n => a ||| r.getD n 0) (r.getD (f.nets.getD 0 0) 0)
theorem andTo_lt {r : List Nat} (hr : Small r) (f : Flt) : ∀ k, andTo r f k < two64 := fun k => by
  unfold andTo
  generalize f.nets.take k = l
  have : ∀ (l : List Nat) (a : Nat), a < two64 → l.foldl (fun a n => a &&& r.getD n 0) a < two64 := fun l => by
    induction l with
    | nil => intro a h; exact h
    | cons x l ih => intro a h; exact ih _ (Nat.lt_of_le_of_lt Nat.and_le_left h)
  exact this _ _ (hr.at _)
theorem orTo_lt {r : List Nat} (hr : Small r) (f : Flt) : ∀ k, orTo r f k < two64 := fun k => by
  unfold orTo
  generalize f.nets.take k = l
  have : ∀ (l : List Nat) (a : Nat), a < two64 → l.foldl (fun a n => a ||| r.getD n 0) a < two64 := fun l => by
    induction l with
    | nil => intro a h; exact h
    | cons x l ih => intro a h; exact ih _ (Nat.or_lt_two_pow (n := 64) h (hr.at _))
  exact this _ _ (hr.at _)
theorem setU (l : List Nat) (x : Nat) {I : Nat} (hI : I < l.length) : (fun j => if j = I then ((x : Nat) : Int) else ((l.getD j 0 : Nat) : Int)) = fun j => (((l.set I x).getD j 0 : Nat) : Int) := by
  funext j
  simp only [List.getD_eq_getElem?_getD, List.getElem?_set]
  by_cases h : j = I
  · subst h; simp [hI]
  · rw [if_neg h, if_neg (fun e => h e.symm)]
def setTo (r : List Nat) (f : Flt) (v k : Nat) : List Nat := (f.nets.take k).foldl (fun r' n => r'.set n v) r
theorem setTo_len (r : List Nat) (f : Flt) (v k : Nat) : (setTo r f v k).length = r.length := by
  unfold setTo
  have : ∀ (l : List Nat) (r' : List Nat), (l.foldl (fun r' n => r'.set n v) r').length = r'.length := fun l => by
    induction l with
    | nil => intro r'; rfl
    | cons a l ih => intro r'; rw [List.foldl_cons, ih, List.length_set]
  exact this _ _
set_option maxHeartbeats 8000000 in
theorem with_c (id : Nat) (nf : Bool) (r : List Nat) (f : Flt) (ones : Nat) (nid : Nat) (hid : id < nid) (hr : Small r) (hrl : r.length ≤ 1000) (ho : ones < two64) (hf : FltOk r.length f) :
    ACall Tryd.prog 224 [.sl id 0 r.length, fltP nf f, .int .u64 (ones : Nat)] [(id, arrU r)] nid (.tup []) [(id, arrU (withV r f ones))] := by
  obtain ⟨e1, e2, e3, e4, e5, e6, e7, e8, e9⟩ := id_all hid
  have hp := hf.pos
  have hn0 := hf.at hp
  refine acall_sr c224 (by simp [a224]) ?_
  unfold a224 fltP netsP arrU
  refine SR.seq ?_
  simp -dsimp only [aqT, ROp, OX, ↓seqK, ↓blkK, ↓loopK, step, stepBin, res, stepIdx, mix, PV.cells, argSlots, Nat.reduceBEq, Nat.reduceBeqDiff, Nat.add_assoc nid, Nat.reduceAdd, reduceCtorEq, ↓reduceIte, Nat.reduceLeDiff, colPV, freeOf, indep, offO, neqO, disj, namesX, axSlot, opXs, rdXs, idsOf, idsOfs, lowH, lowAll, keys, Nat.reduceBneDiff, Option.toList, ← Int.ofNat_tmod, ← Int.ofNat_tdiv, optInt, fillP, repl, chunk, mkCols, mkCol, colInts, colBools, colStrs, colLits, colsApp, Col.app, tailOf, splice, colsPut, Col.put, mmFold, eqK, Nat.reduceLT, colsPaste, Col.paste, mNew, mkKey, keyIn, mGet, mPut, e1, e2, e3, e4, e5, e6, e7, e8, e9]
  refine SR.seq ?_
  simp -dsimp only [aqT, ROp, OX, ↓seqK, ↓blkK, ↓loopK, step, stepBin, res, stepIdx, mix, PV.cells, argSlots, Nat.reduceBEq, Nat.reduceBeqDiff, Nat.add_assoc nid, Nat.reduceAdd, reduceCtorEq, ↓reduceIte, Nat.reduceLeDiff, colPV, freeOf, indep, offO, neqO, disj, namesX, axSlot, opXs, rdXs, idsOf, idsOfs, lowH, lowAll, keys, Nat.reduceBneDiff, Option.toList, ← Int.ofNat_tmod, ← Int.ofNat_tdiv, optInt, fillP, repl, chunk, mkCols, mkCol, colInts, colBools, colStrs, colLits, colsApp, Col.app, tailOf, splice, colsPut, Col.put, mmFold, eqK, Nat.reduceLT, colsPaste, Col.paste, mNew, mkKey, keyIn, mGet, mPut, e1, e2, e3, e4, e5, e6, e7, e8, e9]
  simp only [Int.toNat_zero]
  have hl6 := hf.len
  refine ⟨by omega, by omega, ?_⟩
  refine SR.seqTo ⟨[(6, .int .u64 (valV r f ones : Nat)), (0, .sl id 0 r.length), (4, .ptr nid 0)], [(nid, some (.box 128 [.int .i64 (f.kind : Nat), netsP nf f.nets])), (id, arrU r)], nid + 500, nid⟩ ?_ ?_
  · have h6 : f.kind = 1 ∨ f.kind = 2 ∨ f.kind = 3 ∨ f.kind = 4 ∨ f.kind = 5 ∨ f.kind = 6 := by have := hf.lo; have := hf.hi; omega
    rcases h6 with hkd | hkd | hkd | hkd | hkd | hkd
    · have hkc : ((f.kind : Nat) : Int) = 1 := by omega
      simp -dsimp only [aqT, ROp, OX, ↓seqK, ↓blkK, ↓loopK, step, stepBin, res, stepIdx, mix, PV.cells, argSlots, Nat.reduceBEq, Nat.reduceBeqDiff, Nat.add_assoc nid, Nat.reduceAdd, reduceCtorEq, ↓reduceIte, Nat.reduceLeDiff, colPV, freeOf, indep, offO, neqO, disj, namesX, axSlot, opXs, rdXs, idsOf, idsOfs, lowH, lowAll, keys, Nat.reduceBneDiff, Option.toList, ← Int.ofNat_tmod, ← Int.ofNat_tdiv, optInt, fillP, repl, chunk, mkCols, mkCol, colInts, colBools, colStrs, colLits, colsApp, Col.app, tailOf, splice, colsPut, Col.put, mmFold, eqK, Nat.reduceLT, colsPaste, Col.paste, mNew, mkKey, keyIn, mGet, mPut, Int.cast_ofNat_Int, Int.reduceBEq, Int.reduceBNe, Int.reduceLT, Int.reduceLE, Int.reduceAdd, Int.reduceSub, Int.reduceMul, Int.reduceToNat, Int.reduceNeg, Int.reduceTMod, Int.reduceEq, not_false_eq_true, Int.reducePow, Int.reduceFDiv, Nat.reducePow, Nat.reduceSub, Nat.reduceMul, Nat.min_eq_left, Nat.reduceEqDiff, BEq.rfl, Int.tdiv_one, LN_succ, e1, e2, e3, e4, e5, e6, e7, e8, e9, hkc]
      have hv : valV r f ones = 0 := by unfold valV; simp [hkd]
      rw [hv]
      refine Cov.go [] [] ?_
      simp [retPV, over, keys, List.map_nil, List.map_cons, List.contains_cons, List.contains_nil, Bool.or_false, Bool.or_true, Bool.true_or, Bool.false_or, beq_self_eq_true, cond_true, cond_false, HeapCov, orNil, nilSz, onBlk, srcOf, getH_hit, getH_miss, getH.eq_1, getS_hit, getS_miss, getS.eq_1, BlkCov, PVCovs, PVCov, ColsEq, ColEq.refl, liveIds, SlotsCov, List.all_nil, List.all_cons, List.any_nil, List.any_cons, List.nil_append, List.cons_append, inRange, apart, nilBlk, idS1, idS2, readAll, readRes, onAll, step, res, AX.val, List.drop_zero, List.drop_succ_cons, List.take_succ_cons, List.take_zero, e1, e2, e3, e4, e5, e6, e7, e8, e9, arrU, netsP, hkd, -List.getD_eq_getElem?_getD]
    · have hkc : ((f.kind : Nat) : Int) = 2 := by omega
      simp -dsimp only [aqT, ROp, OX, ↓seqK, ↓blkK, ↓loopK, step, stepBin, res, stepIdx, mix, PV.cells, argSlots, Nat.reduceBEq, Nat.reduceBeqDiff, Nat.add_assoc nid, Nat.reduceAdd, reduceCtorEq, ↓reduceIte, Nat.reduceLeDiff, colPV, freeOf, indep, offO, neqO, disj, namesX, axSlot, opXs, rdXs, idsOf, idsOfs, lowH, lowAll, keys, Nat.reduceBneDiff, Option.toList, ← Int.ofNat_tmod, ← Int.ofNat_tdiv, optInt, fillP, repl, chunk, mkCols, mkCol, colInts, colBools, colStrs, colLits, colsApp, Col.app, tailOf, splice, colsPut, Col.put, mmFold, eqK, Nat.reduceLT, colsPaste, Col.paste, mNew, mkKey, keyIn, mGet, mPut, Int.cast_ofNat_Int, Int.reduceBEq, Int.reduceBNe, Int.reduceLT, Int.reduceLE, Int.reduceAdd, Int.reduceSub, Int.reduceMul, Int.reduceToNat, Int.reduceNeg, Int.reduceTMod, Int.reduceEq, not_false_eq_true, Int.reducePow, Int.reduceFDiv, Nat.reducePow, Nat.reduceSub, Nat.reduceMul, Nat.min_eq_left, Nat.reduceEqDiff, BEq.rfl, Int.tdiv_one, LN_succ, e1, e2, e3, e4, e5, e6, e7, e8, e9, hkc]
      have hv : valV r f ones = ones := by unfold valV; simp [hkd]
      rw [hv]
      refine Cov.go [] [] ?_
      simp [retPV, over, keys, List.map_nil, List.map_cons, List.contains_cons, List.contains_nil, Bool.or_false, Bool.or_true, Bool.true_or, Bool.false_or, beq_self_eq_true, cond_true, cond_false, HeapCov, orNil, nilSz, onBlk, srcOf, getH_hit, getH_miss, getH.eq_1, getS_hit, getS_miss, getS.eq_1, BlkCov, PVCovs, PVCov, ColsEq, ColEq.refl, liveIds, SlotsCov, List.all_nil, List.all_cons, List.any_nil, List.any_cons, List.nil_append, List.cons_append, inRange, apart, nilBlk, idS1, idS2, readAll, readRes, onAll, step, res, AX.val, List.drop_zero, List.drop_succ_cons, List.take_succ_cons, List.take_zero, e1, e2, e3, e4, e5, e6, e7, e8, e9, arrU, netsP, hkd, -List.getD_eq_getElem?_getD]
    · have hkc : ((f.kind : Nat) : Int) = 3 := by omega
      simp -dsimp only [aqT, ROp, OX, ↓seqK, ↓blkK, ↓loopK, step, stepBin, res, stepIdx, mix, PV.cells, argSlots, Nat.reduceBEq, Nat.reduceBeqDiff, Nat.add_assoc nid, Nat.reduceAdd, reduceCtorEq, ↓reduceIte, Nat.reduceLeDiff, colPV, freeOf, indep, offO, neqO, disj, namesX, axSlot, opXs, rdXs, idsOf, idsOfs, lowH, lowAll, keys, Nat.reduceBneDiff, Option.toList, ← Int.ofNat_tmod, ← Int.ofNat_tdiv, optInt, fillP, repl, chunk, mkCols, mkCol, colInts, colBools, colStrs, colLits, colsApp, Col.app, tailOf, splice, colsPut, Col.put, mmFold, eqK, Nat.reduceLT, colsPaste, Col.paste, mNew, mkKey, keyIn, mGet, mPut, Int.cast_ofNat_Int, Int.reduceBEq, Int.reduceBNe, Int.reduceLT, Int.reduceLE, Int.reduceAdd, Int.reduceSub, Int.reduceMul, Int.reduceToNat, Int.reduceNeg, Int.reduceTMod, Int.reduceEq, not_false_eq_true, Int.reducePow, Int.reduceFDiv, Nat.reducePow, Nat.reduceSub, Nat.reduceMul, Nat.min_eq_left, Nat.reduceEqDiff, BEq.rfl, Int.tdiv_one, LN_succ, e1, e2, e3, e4, e5, e6, e7, e8, e9, hkc]
      refine LP.mkP (fun k : Nat => k ≤ f.nets.length) (fun k : Nat => ⟨[(33, .int .i64 k), (32, .int .i64 f.nets.length), (31, netsP nf f.nets), (6, .int .u64 (andTo r f k : Nat)), (0, .sl id 0 r.length), (4, .ptr nid 0)], [(nid, some (.box 128 [.int .i64 (f.kind : Nat), netsP nf f.nets])), (id, arrU r)], nid + 300, nid⟩) (fun k => f.nets.length + 1 - k) 0 (by omega) (Cov.go [] [] ?_) (fun k hk => ?_)
      · simp [retPV, over, keys, List.map_nil, List.map_cons, List.contains_cons, List.contains_nil, Bool.or_false, Bool.or_true, Bool.true_or, Bool.false_or, beq_self_eq_true, cond_true, cond_false, HeapCov, orNil, nilSz, onBlk, srcOf, getH_hit, getH_miss, getH.eq_1, getS_hit, getS_miss, getS.eq_1, BlkCov, PVCovs, PVCov, ColsEq, ColEq.refl, liveIds, SlotsCov, List.all_nil, List.all_cons, List.any_nil, List.any_cons, List.nil_append, List.cons_append, inRange, apart, nilBlk, idS1, idS2, readAll, readRes, onAll, step, res, AX.val, List.drop_zero, List.drop_succ_cons, List.take_succ_cons, List.take_zero, e1, e2, e3, e4, e5, e6, e7, e8, e9, arrU, netsP, andTo, hkd, -List.getD_eq_getElem?_getD]
      unfold arrU netsP
      simp -dsimp only [aqT, ROp, OX, ↓seqK, ↓blkK, ↓loopK, step, stepBin, res, stepIdx, mix, PV.cells, argSlots, Nat.reduceBEq, Nat.reduceBeqDiff, Nat.add_assoc nid, Nat.reduceAdd, reduceCtorEq, ↓reduceIte, Nat.reduceLeDiff, colPV, freeOf, indep, offO, neqO, disj, namesX, axSlot, opXs, rdXs, idsOf, idsOfs, lowH, lowAll, keys, Nat.reduceBneDiff, Option.toList, ← Int.ofNat_tmod, ← Int.ofNat_tdiv, optInt, fillP, repl, chunk, mkCols, mkCol, colInts, colBools, colStrs, colLits, colsApp, Col.app, tailOf, splice, colsPut, Col.put, mmFold, eqK, Nat.reduceLT, colsPaste, Col.paste, mNew, mkKey, keyIn, mGet, mPut, Int.cast_ofNat_Int, Int.reduceBEq, Int.reduceBNe, Int.reduceLT, Int.reduceLE, Int.reduceAdd, Int.reduceSub, Int.reduceMul, Int.reduceToNat, Int.reduceNeg, Int.reduceTMod, Int.reduceEq, not_false_eq_true, Int.reducePow, Int.reduceFDiv, Nat.reducePow, Nat.reduceSub, Nat.reduceMul, Nat.min_eq_left, Nat.reduceEqDiff, BEq.rfl, Int.tdiv_one, LN_succ, e1, e2, e3, e4, e5, e6, e7, e8, e9]
      refine S2.dec (fun h2 => ?_) (fun h2 => ?_) <;> simp -dsimp only [aqT, ROp, OX, ↓seqK, ↓blkK, ↓loopK, step, stepBin, res, stepIdx, mix, PV.cells, argSlots, Nat.reduceBEq, Nat.reduceBeqDiff, Nat.add_assoc nid, Nat.reduceAdd, reduceCtorEq, ↓reduceIte, Nat.reduceLeDiff, colPV, freeOf, indep, offO, neqO, disj, namesX, axSlot, opXs, rdXs, idsOf, idsOfs, lowH, lowAll, keys, Nat.reduceBneDiff, Option.toList, ← Int.ofNat_tmod, ← Int.ofNat_tdiv, optInt, fillP, repl, chunk, mkCols, mkCol, colInts, colBools, colStrs, colLits, colsApp, Col.app, tailOf, splice, colsPut, Col.put, mmFold, eqK, Nat.reduceLT, colsPaste, Col.paste, mNew, mkKey, keyIn, mGet, mPut, Int.cast_ofNat_Int, Int.reduceBEq, Int.reduceBNe, Int.reduceLT, Int.reduceLE, Int.reduceAdd, Int.reduceSub, Int.reduceMul, Int.reduceToNat, Int.reduceNeg, Int.reduceTMod, Int.reduceEq, not_false_eq_true, Int.reducePow, Int.reduceFDiv, Nat.reducePow, Nat.reduceSub, Nat.reduceMul, Nat.min_eq_left, Nat.reduceEqDiff, BEq.rfl, Int.tdiv_one, LN_succ, e1, e2, e3, e4, e5, e6, e7, e8, e9]
      · have hkl : k < f.nets.length := by omega
        have hnk := hf.at hkl
        have hst := foldl_take (fun a n => a &&& r.getD n 0) (r.getD (f.nets.getD 0 0) 0) (d := 0) hkl
        have ha := andTo_lt hr f k
        have hu := (and_u ha (hr.at (f.nets.getD k 0))).1
        rw [hu]
        have hst' : andTo r f (k + 1) = andTo r f k &&& r.getD (f.nets.getD k 0) 0 := hst
        rw [← hst']
        refine ⟨by omega, by omega, by unfold inI64; omega, k + 1, ⟨by omega, by omega⟩, Cov.go [] [] ?_⟩
        simp [retPV, over, keys, List.map_nil, List.map_cons, List.contains_cons, List.contains_nil, Bool.or_false, Bool.or_true, Bool.true_or, Bool.false_or, beq_self_eq_true, cond_true, cond_false, HeapCov, orNil, nilSz, onBlk, srcOf, getH_hit, getH_miss, getH.eq_1, getS_hit, getS_miss, getS.eq_1, BlkCov, PVCovs, PVCov, ColsEq, ColEq.refl, liveIds, SlotsCov, List.all_nil, List.all_cons, List.any_nil, List.any_cons, List.nil_append, List.cons_append, inRange, apart, nilBlk, idS1, idS2, readAll, readRes, onAll, step, res, AX.val, List.drop_zero, List.drop_succ_cons, List.take_succ_cons, List.take_zero, e1, e2, e3, e4, e5, e6, e7, e8, e9, arrU, netsP, -List.getD_eq_getElem?_getD]
      · have hkn : k = f.nets.length := by omega
        subst hkn
        have hv : andTo r f f.nets.length = valV r f ones := by unfold valV andTo; rw [List.take_length]; simp [hkd]
        rw [hv]
        refine Cov.go [] [] ?_
        simp [retPV, over, keys, List.map_nil, List.map_cons, List.contains_cons, List.contains_nil, Bool.or_false, Bool.or_true, Bool.true_or, Bool.false_or, beq_self_eq_true, cond_true, cond_false, HeapCov, orNil, nilSz, onBlk, srcOf, getH_hit, getH_miss, getH.eq_1, getS_hit, getS_miss, getS.eq_1, BlkCov, PVCovs, PVCov, ColsEq, ColEq.refl, liveIds, SlotsCov, List.all_nil, List.all_cons, List.any_nil, List.any_cons, List.nil_append, List.cons_append, inRange, apart, nilBlk, idS1, idS2, readAll, readRes, onAll, step, res, AX.val, List.drop_zero, List.drop_succ_cons, List.take_succ_cons, List.take_zero, e1, e2, e3, e4, e5, e6, e7, e8, e9, arrU, netsP, -List.getD_eq_getElem?_getD]
    · have hkc : ((f.kind : Nat) : Int) = 4 := by omega
      simp -dsimp only [aqT, ROp, OX, ↓seqK, ↓blkK, ↓loopK, step, stepBin, res, stepIdx, mix, PV.cells, argSlots, Nat.reduceBEq, Nat.reduceBeqDiff, Nat.add_assoc nid, Nat.reduceAdd, reduceCtorEq, ↓reduceIte, Nat.reduceLeDiff, colPV, freeOf, indep, offO, neqO, disj, namesX, axSlot, opXs, rdXs, idsOf, idsOfs, lowH, lowAll, keys, Nat.reduceBneDiff, Option.toList, ← Int.ofNat_tmod, ← Int.ofNat_tdiv, optInt, fillP, repl, chunk, mkCols, mkCol, colInts, colBools, colStrs, colLits, colsApp, Col.app, tailOf, splice, colsPut, Col.put, mmFold, eqK, Nat.reduceLT, colsPaste, Col.paste, mNew, mkKey, keyIn, mGet, mPut, Int.cast_ofNat_Int, Int.reduceBEq, Int.reduceBNe, Int.reduceLT, Int.reduceLE, Int.reduceAdd, Int.reduceSub, Int.reduceMul, Int.reduceToNat, Int.reduceNeg, Int.reduceTMod, Int.reduceEq, not_false_eq_true, Int.reducePow, Int.reduceFDiv, Nat.reducePow, Nat.reduceSub, Nat.reduceMul, Nat.min_eq_left, Nat.reduceEqDiff, BEq.rfl, Int.tdiv_one, LN_succ, e1, e2, e3, e4, e5, e6, e7, e8, e9, hkc]
      refine LP.mkP (fun k : Nat => k ≤ f.nets.length) (fun k : Nat => ⟨[(49, .int .i64 k), (48, .int .i64 f.nets.length), (47, netsP nf f.nets), (6, .int .u64 (orTo r f k : Nat)), (0, .sl id 0 r.length), (4, .ptr nid 0)], [(nid, some (.box 128 [.int .i64 (f.kind : Nat), netsP nf f.nets])), (id, arrU r)], nid + 300, nid⟩) (fun k => f.nets.length + 1 - k) 0 (by omega) (Cov.go [] [] ?_) (fun k hk => ?_)
      · simp [retPV, over, keys, List.map_nil, List.map_cons, List.contains_cons, List.contains_nil, Bool.or_false, Bool.or_true, Bool.true_or, Bool.false_or, beq_self_eq_true, cond_true, cond_false, HeapCov, orNil, nilSz, onBlk, srcOf, getH_hit, getH_miss, getH.eq_1, getS_hit, getS_miss, getS.eq_1, BlkCov, PVCovs, PVCov, ColsEq, ColEq.refl, liveIds, SlotsCov, List.all_nil, List.all_cons, List.any_nil, List.any_cons, List.nil_append, List.cons_append, inRange, apart, nilBlk, idS1, idS2, readAll, readRes, onAll, step, res, AX.val, List.drop_zero, List.drop_succ_cons, List.take_succ_cons, List.take_zero, e1, e2, e3, e4, e5, e6, e7, e8, e9, arrU, netsP, orTo, hkd, -List.getD_eq_getElem?_getD]
      unfold arrU netsP
      simp -dsimp only [aqT, ROp, OX, ↓seqK, ↓blkK, ↓loopK, step, stepBin, res, stepIdx, mix, PV.cells, argSlots, Nat.reduceBEq, Nat.reduceBeqDiff, Nat.add_assoc nid, Nat.reduceAdd, reduceCtorEq, ↓reduceIte, Nat.reduceLeDiff, colPV, freeOf, indep, offO, neqO, disj, namesX, axSlot, opXs, rdXs, idsOf, idsOfs, lowH, lowAll, keys, Nat.reduceBneDiff, Option.toList, ← Int.ofNat_tmod, ← Int.ofNat_tdiv, optInt, fillP, repl, chunk, mkCols, mkCol, colInts, colBools, colStrs, colLits, colsApp, Col.app, tailOf, splice, colsPut, Col.put, mmFold, eqK, Nat.reduceLT, colsPaste, Col.paste, mNew, mkKey, keyIn, mGet, mPut, Int.cast_ofNat_Int, Int.reduceBEq, Int.reduceBNe, Int.reduceLT, Int.reduceLE, Int.reduceAdd, Int.reduceSub, Int.reduceMul, Int.reduceToNat, Int.reduceNeg, Int.reduceTMod, Int.reduceEq, not_false_eq_true, Int.reducePow, Int.reduceFDiv, Nat.reducePow, Nat.reduceSub, Nat.reduceMul, Nat.min_eq_left, Nat.reduceEqDiff, BEq.rfl, Int.tdiv_one, LN_succ, e1, e2, e3, e4, e5, e6, e7, e8, e9]
      refine S2.dec (fun h2 => ?_) (fun h2 => ?_) <;> simp -dsimp only [aqT, ROp, OX, ↓seqK, ↓blkK, ↓loopK, step, stepBin, res, stepIdx, mix, PV.cells, argSlots, Nat.reduceBEq, Nat.reduceBeqDiff, Nat.add_assoc nid, Nat.reduceAdd, reduceCtorEq, ↓reduceIte, Nat.reduceLeDiff, colPV, freeOf, indep, offO, neqO, disj, namesX, axSlot, opXs, rdXs, idsOf, idsOfs, lowH, lowAll, keys, Nat.reduceBneDiff, Option.toList, ← Int.ofNat_tmod, ← Int.ofNat_tdiv, optInt, fillP, repl, chunk, mkCols, mkCol, colInts, colBools, colStrs, colLits, colsApp, Col.app, tailOf, splice, colsPut, Col.put, mmFold, eqK, Nat.reduceLT, colsPaste, Col.paste, mNew, mkKey, keyIn, mGet, mPut, Int.cast_ofNat_Int, Int.reduceBEq, Int.reduceBNe, Int.reduceLT, Int.reduceLE, Int.reduceAdd, Int.reduceSub, Int.reduceMul, Int.reduceToNat, Int.reduceNeg, Int.reduceTMod, Int.reduceEq, not_false_eq_true, Int.reducePow, Int.reduceFDiv, Nat.reducePow, Nat.reduceSub, Nat.reduceMul, Nat.min_eq_left, Nat.reduceEqDiff, BEq.rfl, Int.tdiv_one, LN_succ, e1, e2, e3, e4, e5, e6, e7, e8, e9]
      · have hkl : k < f.nets.length := by omega
        have hnk := hf.at hkl
        have hst := foldl_take (fun a n => a ||| r.getD n 0) (r.getD (f.nets.getD 0 0) 0) (d := 0) hkl
        have ha := orTo_lt hr f k
        have hu := (or_u ha (hr.at (f.nets.getD k 0))).1
        rw [hu]
        have hst' : orTo r f (k + 1) = orTo r f k ||| r.getD (f.nets.getD k 0) 0 := hst
        rw [← hst']
        refine ⟨by omega, by omega, by unfold inI64; omega, k + 1, ⟨by omega, by omega⟩, Cov.go [] [] ?_⟩
        simp [retPV, over, keys, List.map_nil, List.map_cons, List.contains_cons, List.contains_nil, Bool.or_false, Bool.or_true, Bool.true_or, Bool.false_or, beq_self_eq_true, cond_true, cond_false, HeapCov, orNil, nilSz, onBlk, srcOf, getH_hit, getH_miss, getH.eq_1, getS_hit, getS_miss, getS.eq_1, BlkCov, PVCovs, PVCov, ColsEq, ColEq.refl, liveIds, SlotsCov, List.all_nil, List.all_cons, List.any_nil, List.any_cons, List.nil_append, List.cons_append, inRange, apart, nilBlk, idS1, idS2, readAll, readRes, onAll, step, res, AX.val, List.drop_zero, List.drop_succ_cons, List.take_succ_cons, List.take_zero, e1, e2, e3, e4, e5, e6, e7, e8, e9, arrU, netsP, -List.getD_eq_getElem?_getD]
      · have hkn : k = f.nets.length := by omega
        subst hkn
        have hv : orTo r f f.nets.length = valV r f ones := by unfold valV orTo; rw [List.take_length]; simp [hkd]
        rw [hv]
        refine Cov.go [] [] ?_
        simp [retPV, over, keys, List.map_nil, List.map_cons, List.contains_cons, List.contains_nil, Bool.or_false, Bool.or_true, Bool.true_or, Bool.false_or, beq_self_eq_true, cond_true, cond_false, HeapCov, orNil, nilSz, onBlk, srcOf, getH_hit, getH_miss, getH.eq_1, getS_hit, getS_miss, getS.eq_1, BlkCov, PVCovs, PVCov, ColsEq, ColEq.refl, liveIds, SlotsCov, List.all_nil, List.all_cons, List.any_nil, List.any_cons, List.nil_append, List.cons_append, inRange, apart, nilBlk, idS1, idS2, readAll, readRes, onAll, step, res, AX.val, List.drop_zero, List.drop_succ_cons, List.take_succ_cons, List.take_zero, e1, e2, e3, e4, e5, e6, e7, e8, e9, arrU, netsP, -List.getD_eq_getElem?_getD]
    · have hkc : ((f.kind : Nat) : Int) = 5 := by omega
      simp -dsimp only [aqT, ROp, OX, ↓seqK, ↓blkK, ↓loopK, step, stepBin, res, stepIdx, mix, PV.cells, argSlots, Nat.reduceBEq, Nat.reduceBeqDiff, Nat.add_assoc nid, Nat.reduceAdd, reduceCtorEq, ↓reduceIte, Nat.reduceLeDiff, colPV, freeOf, indep, offO, neqO, disj, namesX, axSlot, opXs, rdXs, idsOf, idsOfs, lowH, lowAll, keys, Nat.reduceBneDiff, Option.toList, ← Int.ofNat_tmod, ← Int.ofNat_tdiv, optInt, fillP, repl, chunk, mkCols, mkCol, colInts, colBools, colStrs, colLits, colsApp, Col.app, tailOf, splice, colsPut, Col.put, mmFold, eqK, Nat.reduceLT, colsPaste, Col.paste, mNew, mkKey, keyIn, mGet, mPut, Int.cast_ofNat_Int, Int.reduceBEq, Int.reduceBNe, Int.reduceLT, Int.reduceLE, Int.reduceAdd, Int.reduceSub, Int.reduceMul, Int.reduceToNat, Int.reduceNeg, Int.reduceTMod, Int.reduceEq, not_false_eq_true, Int.reducePow, Int.reduceFDiv, Nat.reducePow, Nat.reduceSub, Nat.reduceMul, Nat.min_eq_left, Nat.reduceEqDiff, BEq.rfl, Int.tdiv_one, LN_succ, e1, e2, e3, e4, e5, e6, e7, e8, e9, hkc]
      have hv : valV r f ones = r.getD (f.nets.getD 0 0) 0 := by unfold valV; simp [hkd]
      rw [hv]
      refine Cov.go [] [] ?_
      simp [retPV, over, keys, List.map_nil, List.map_cons, List.contains_cons, List.contains_nil, Bool.or_false, Bool.or_true, Bool.true_or, Bool.false_or, beq_self_eq_true, cond_true, cond_false, HeapCov, orNil, nilSz, onBlk, srcOf, getH_hit, getH_miss, getH.eq_1, getS_hit, getS_miss, getS.eq_1, BlkCov, PVCovs, PVCov, ColsEq, ColEq.refl, liveIds, SlotsCov, List.all_nil, List.all_cons, List.any_nil, List.any_cons, List.nil_append, List.cons_append, inRange, apart, nilBlk, idS1, idS2, readAll, readRes, onAll, step, res, AX.val, List.drop_zero, List.drop_succ_cons, List.take_succ_cons, List.take_zero, e1, e2, e3, e4, e5, e6, e7, e8, e9, arrU, netsP, hkd, -List.getD_eq_getElem?_getD]
    · have hkc : ((f.kind : Nat) : Int) = 6 := by omega
      simp -dsimp only [aqT, ROp, OX, ↓seqK, ↓blkK, ↓loopK, step, stepBin, res, stepIdx, mix, PV.cells, argSlots, Nat.reduceBEq, Nat.reduceBeqDiff, Nat.add_assoc nid, Nat.reduceAdd, reduceCtorEq, ↓reduceIte, Nat.reduceLeDiff, colPV, freeOf, indep, offO, neqO, disj, namesX, axSlot, opXs, rdXs, idsOf, idsOfs, lowH, lowAll, keys, Nat.reduceBneDiff, Option.toList, ← Int.ofNat_tmod, ← Int.ofNat_tdiv, optInt, fillP, repl, chunk, mkCols, mkCol, colInts, colBools, colStrs, colLits, colsApp, Col.app, tailOf, splice, colsPut, Col.put, mmFold, eqK, Nat.reduceLT, colsPaste, Col.paste, mNew, mkKey, keyIn, mGet, mPut, Int.cast_ofNat_Int, Int.reduceBEq, Int.reduceBNe, Int.reduceLT, Int.reduceLE, Int.reduceAdd, Int.reduceSub, Int.reduceMul, Int.reduceToNat, Int.reduceNeg, Int.reduceTMod, Int.reduceEq, not_false_eq_true, Int.reducePow, Int.reduceFDiv, Nat.reducePow, Nat.reduceSub, Nat.reduceMul, Nat.min_eq_left, Nat.reduceEqDiff, BEq.rfl, Int.tdiv_one, LN_succ, e1, e2, e3, e4, e5, e6, e7, e8, e9, hkc]
      have hv : valV r f ones = ones := by unfold valV; simp [hkd]
      rw [hv]
      refine Cov.go [] [] ?_
      simp [retPV, over, keys, List.map_nil, List.map_cons, List.contains_cons, List.contains_nil, Bool.or_false, Bool.or_true, Bool.true_or, Bool.false_or, beq_self_eq_true, cond_true, cond_false, HeapCov, orNil, nilSz, onBlk, srcOf, getH_hit, getH_miss, getH.eq_1, getS_hit, getS_miss, getS.eq_1, BlkCov, PVCovs, PVCov, ColsEq, ColEq.refl, liveIds, SlotsCov, List.all_nil, List.all_cons, List.any_nil, List.any_cons, List.nil_append, List.cons_append, inRange, apart, nilBlk, idS1, idS2, readAll, readRes, onAll, step, res, AX.val, List.drop_zero, List.drop_succ_cons, List.take_succ_cons, List.take_zero, e1, e2, e3, e4, e5, e6, e7, e8, e9, arrU, netsP, hkd, -List.getD_eq_getElem?_getD]
  unfold arrU netsP
  refine SR.run (t := .mk) ?_
  simp -dsimp only [aqT, ROp, OX, ↓seqK, ↓blkK, ↓loopK, step, stepBin, res, stepIdx, mix, PV.cells, argSlots, Nat.reduceBEq, Nat.reduceBeqDiff, Nat.add_assoc nid, Nat.reduceAdd, reduceCtorEq, ↓reduceIte, Nat.reduceLeDiff, colPV, freeOf, indep, offO, neqO, disj, namesX, axSlot, opXs, rdXs, idsOf, idsOfs, lowH, lowAll, keys, Nat.reduceBneDiff, Option.toList, ← Int.ofNat_tmod, ← Int.ofNat_tdiv, optInt, fillP, repl, chunk, mkCols, mkCol, colInts, colBools, colStrs, colLits, colsApp, Col.app, tailOf, splice, colsPut, Col.put, mmFold, eqK, Nat.reduceLT, colsPaste, Col.paste, mNew, mkKey, keyIn, mGet, mPut, Int.cast_ofNat_Int, Int.reduceBEq, Int.reduceBNe, Int.reduceLT, Int.reduceLE, Int.reduceAdd, Int.reduceSub, Int.reduceMul, Int.reduceToNat, Int.reduceNeg, Int.reduceTMod, Int.reduceEq, not_false_eq_true, Int.reducePow, Int.reduceFDiv, Nat.reducePow, Nat.reduceSub, Nat.reduceMul, Nat.min_eq_left, Nat.reduceEqDiff, BEq.rfl, Int.tdiv_one, LN_succ, e1, e2, e3, e4, e5, e6, e7, e8, e9]
  have hwv : withV r f ones = setTo r f (valV r f ones) f.nets.length := by unfold withV setTo; rw [List.take_length]
  generalize valV r f ones = v at *
  rw [hwv]
  refine LP.mkP (fun k : Nat => k ≤ f.nets.length) (fun k : Nat => ⟨[(63, .int .i64 k), (62, .int .i64 f.nets.length), (61, netsP nf f.nets), (6, .int .u64 (v : Nat)), (0, .sl id 0 r.length)], [(id, some (.arr 132 r.length [.i .u64 fun i => (((setTo r f v k).getD i 0 : Nat) : Int)]))], nid + 700, nid⟩) (fun k => f.nets.length + 1 - k) 0 (by omega) (Cov.go [] [] ?_) (fun k hk => ?_)
  · simp [retPV, over, keys, List.map_nil, List.map_cons, List.contains_cons, List.contains_nil, Bool.or_false, Bool.or_true, Bool.true_or, Bool.false_or, beq_self_eq_true, cond_true, cond_false, HeapCov, orNil, nilSz, onBlk, srcOf, getH_hit, getH_miss, getH.eq_1, getS_hit, getS_miss, getS.eq_1, BlkCov, PVCovs, PVCov, ColsEq, ColEq.refl, liveIds, SlotsCov, List.all_nil, List.all_cons, List.any_nil, List.any_cons, List.nil_append, List.cons_append, inRange, apart, nilBlk, idS1, idS2, readAll, readRes, onAll, step, res, AX.val, List.drop_zero, List.drop_succ_cons, List.take_succ_cons, List.take_zero, e1, e2, e3, e4, e5, e6, e7, e8, e9, netsP, setTo, -List.getD_eq_getElem?_getD]
  unfold netsP
  simp -dsimp only [aqT, ROp, OX, ↓seqK, ↓blkK, ↓loopK, step, stepBin, res, stepIdx, mix, PV.cells, argSlots, Nat.reduceBEq, Nat.reduceBeqDiff, Nat.add_assoc nid, Nat.reduceAdd, reduceCtorEq, ↓reduceIte, Nat.reduceLeDiff, colPV, freeOf, indep, offO, neqO, disj, namesX, axSlot, opXs, rdXs, idsOf, idsOfs, lowH, lowAll, keys, Nat.reduceBneDiff, Option.toList, ← Int.ofNat_tmod, ← Int.ofNat_tdiv, optInt, fillP, repl, chunk, mkCols, mkCol, colInts, colBools, colStrs, colLits, colsApp, Col.app, tailOf, splice, colsPut, Col.put, mmFold, eqK, Nat.reduceLT, colsPaste, Col.paste, mNew, mkKey, keyIn, mGet, mPut, Int.cast_ofNat_Int, Int.reduceBEq, Int.reduceBNe, Int.reduceLT, Int.reduceLE, Int.reduceAdd, Int.reduceSub, Int.reduceMul, Int.reduceToNat, Int.reduceNeg, Int.reduceTMod, Int.reduceEq, not_false_eq_true, Int.reducePow, Int.reduceFDiv, Nat.reducePow, Nat.reduceSub, Nat.reduceMul, Nat.min_eq_left, Nat.reduceEqDiff, BEq.rfl, Int.tdiv_one, LN_succ, e1, e2, e3, e4, e5, e6, e7, e8, e9]
  refine S2.dec (fun h2 => ?_) (fun h2 => ?_) <;> simp -dsimp only [aqT, ROp, OX, ↓seqK, ↓blkK, ↓loopK, step, stepBin, res, stepIdx, mix, PV.cells, argSlots, Nat.reduceBEq, Nat.reduceBeqDiff, Nat.add_assoc nid, Nat.reduceAdd, reduceCtorEq, ↓reduceIte, Nat.reduceLeDiff, colPV, freeOf, indep, offO, neqO, disj, namesX, axSlot, opXs, rdXs, idsOf, idsOfs, lowH, lowAll, keys, Nat.reduceBneDiff, Option.toList, ← Int.ofNat_tmod, ← Int.ofNat_tdiv, optInt, fillP, repl, chunk, mkCols, mkCol, colInts, colBools, colStrs, colLits, colsApp, Col.app, tailOf, splice, colsPut, Col.put, mmFold, eqK, Nat.reduceLT, colsPaste, Col.paste, mNew, mkKey, keyIn, mGet, mPut, Int.cast_ofNat_Int, Int.reduceBEq, Int.reduceBNe, Int.reduceLT, Int.reduceLE, Int.reduceAdd, Int.reduceSub, Int.reduceMul, Int.reduceToNat, Int.reduceNeg, Int.reduceTMod, Int.reduceEq, not_false_eq_true, Int.reducePow, Int.reduceFDiv, Nat.reducePow, Nat.reduceSub, Nat.reduceMul, Nat.min_eq_left, Nat.reduceEqDiff, BEq.rfl, Int.tdiv_one, LN_succ, e1, e2, e3, e4, e5, e6, e7, e8, e9]
  · have hkl : k < f.nets.length := by omega
    have hnk := hf.at hkl
    have hst : setTo r f v (k + 1) = (setTo r f v k).set (f.nets.getD k 0) v := foldl_take (fun (r2 : List Nat) (n : Nat) => r2.set n v) r (d := 0) hkl
    rw [setU (setTo r f v k) v (by rw [setTo_len]; exact hnk), ← hst]
    refine ⟨by omega, by omega, by unfold inI64; omega, k + 1, ⟨by omega, by omega⟩, Cov.go [] [] ?_⟩
    simp [retPV, over, keys, List.map_nil, List.map_cons, List.contains_cons, List.contains_nil, Bool.or_false, Bool.or_true, Bool.true_or, Bool.false_or, beq_self_eq_true, cond_true, cond_false, HeapCov, orNil, nilSz, onBlk, srcOf, getH_hit, getH_miss, getH.eq_1, getS_hit, getS_miss, getS.eq_1, BlkCov, PVCovs, PVCov, ColsEq, ColEq.refl, liveIds, SlotsCov, List.all_nil, List.all_cons, List.any_nil, List.any_cons, List.nil_append, List.cons_append, inRange, apart, nilBlk, idS1, idS2, readAll, readRes, onAll, step, res, AX.val, List.drop_zero, List.drop_succ_cons, List.take_succ_cons, List.take_zero, e1, e2, e3, e4, e5, e6, e7, e8, e9, netsP, -List.getD_eq_getElem?_getD]
  · have hkn : k = f.nets.length := by omega
    subst hkn
    refine RetOK.go [] [] (.inr rfl) ?_
    simp [a224, retPV, over, keys, List.map_nil, List.map_cons, List.contains_cons, List.contains_nil, Bool.or_false, Bool.or_true, Bool.true_or, Bool.false_or, beq_self_eq_true, cond_true, cond_false, HeapCov, orNil, nilSz, onBlk, srcOf, getH_hit, getH_miss, getH.eq_1, getS_hit, getS_miss, getS.eq_1, BlkCov, PVCovs, PVCov, ColsEq, ColEq.refl, liveIds, SlotsCov, List.all_nil, List.all_cons, List.any_nil, List.any_cons, List.nil_append, List.cons_append, inRange, apart, nilBlk, idS1, idS2, readAll, readRes, onAll, step, res, AX.val, List.drop_zero, List.drop_succ_cons, List.take_succ_cons, List.take_zero, e1, e2, e3, e4, e5, e6, e7, e8, e9, arrU, setTo_len, -List.getD_eq_getElem?_getD]
end Go.Proofs.YthcldfmlfjomfaaDoor
namespace Go.Proofs.YthcldfmlfjomfaaDoor
open Go.RowKit
def litU (nl : Bool) (r : List Nat) : PV := .lit nl r.length [.i .u64 fun i => ((r.getD i 0 : Nat) : Int)]
theorem cloneU_c (nl : Bool) (l : List Nat) (nid : Nat) (hl : l.length ≤ 1000000000) (hnl : nl = true → l = []) : ACall Tryd.prog 223 [litU nl l] [] nid (.sl nid 0 l.length) [(nid, arrU l)] := by
  refine acall_run c223 (by simp [a223]) ?_
  unfold litU
  simp -dsimp only [a223, aqT, ROp, OX, ↓seqK, ↓blkK, ↓loopK, step, stepBin, res, stepIdx, mix, PV.cells, argSlots, Nat.reduceBEq, Nat.reduceBeqDiff, Nat.add_assoc nid, Nat.reduceAdd, reduceCtorEq, ↓reduceIte, Nat.reduceLeDiff, colPV, freeOf, indep, offO, neqO, disj, namesX, axSlot, opXs, rdXs, idsOf, idsOfs, lowH, lowAll, keys, Nat.reduceBneDiff, Option.toList, ← Int.ofNat_tmod, ← Int.ofNat_tdiv, optInt, fillP, repl, chunk, mkCols, mkCol, colInts, colBools, colStrs, colLits, colsApp, Col.app, tailOf, splice, colsPut, Col.put, mmFold, eqK, Nat.reduceLT, colsPaste, Col.paste, mNew, mkKey, keyIn, mGet, mPut]
  refine S2.intro (fun h => ?_) (fun h => ?_) <;> simp -dsimp only [aqT, ROp, OX, ↓seqK, ↓blkK, ↓loopK, step, stepBin, res, stepIdx, mix, PV.cells, argSlots, Nat.reduceBEq, Nat.reduceBeqDiff, Nat.add_assoc nid, Nat.reduceAdd, reduceCtorEq, ↓reduceIte, Nat.reduceLeDiff, colPV, freeOf, indep, offO, neqO, disj, namesX, axSlot, opXs, rdXs, idsOf, idsOfs, lowH, lowAll, keys, Nat.reduceBneDiff, Option.toList, ← Int.ofNat_tmod, ← Int.ofNat_tdiv, optInt, fillP, repl, chunk, mkCols, mkCol, colInts, colBools, colStrs, colLits, colsApp, Col.app, tailOf, splice, colsPut, Col.put, mmFold, eqK, Nat.reduceLT, colsPaste, Col.paste, mNew, mkKey, keyIn, mGet, mPut]
  · refine RetOK.go [] [(nid, 1)] (.inl rfl) ?_
    have := hnl h
    subst this
    simp [a223, retPV, over, keys, List.map_nil, List.map_cons, List.contains_cons, List.contains_nil, Bool.or_false, Bool.or_true, Bool.true_or, Bool.false_or, beq_self_eq_true, cond_true, cond_false, HeapCov, orNil, nilSz, onBlk, srcOf, getH_hit, getH_miss, getH.eq_1, getS_hit, getS_miss, getS.eq_1, BlkCov, PVCovs, PVCov, ColsEq, ColEq.refl, liveIds, SlotsCov, List.all_nil, List.all_cons, List.any_nil, List.any_cons, List.nil_append, List.cons_append, inRange, apart, nilBlk, idS1, idS2, readAll, readRes, onAll, step, res, AX.val, List.drop_zero, List.drop_succ_cons, List.take_succ_cons, List.take_zero, arrU]
  · refine ⟨⟨by omega, by omega⟩, RetOK.go [(nid, nid + 20)] [] (.inl rfl) ?_⟩
    simp [a223, retPV, over, keys, List.map_nil, List.map_cons, List.contains_cons, List.contains_nil, Bool.or_false, Bool.or_true, Bool.true_or, Bool.false_or, beq_self_eq_true, cond_true, cond_false, HeapCov, orNil, nilSz, onBlk, srcOf, getH_hit, getH_miss, getH.eq_1, getS_hit, getS_miss, getS.eq_1, BlkCov, PVCovs, PVCov, ColsEq, ColEq.refl, liveIds, SlotsCov, List.all_nil, List.all_cons, List.any_nil, List.any_cons, List.nil_append, List.cons_append, inRange, apart, nilBlk, idS1, idS2, readAll, readRes, onAll, step, res, AX.val, List.drop_zero, List.drop_succ_cons, List.take_succ_cons, List.take_zero, arrU]
set_option maxHeartbeats 4000000 in
theorem respond_c (nl nf : Bool) (r : List Nat) (f : Flt) (long : Nat) (nid : Nat) (hr : Small r) (hrl : r.length ≤ 1000) (hnl : nl = true → r = []) (hf : FltOk r.length f) (hlo : long < 64) :
    ACall Tryd.prog 188 [litU nl r, fltP nf f, .int .i64 (long : Nat)] [] nid (.sl nid 0 r.length) [(nid, arrU (withV r f (2 ^ long - 1)))] := by
  refine acall_run c188 (by simp [a188]) ?_
  unfold litU fltP netsP
  simp -dsimp only [aqT, ROp, OX, ↓seqK, ↓blkK, ↓loopK, step, stepBin, res, stepIdx, mix, PV.cells, argSlots, Nat.reduceBEq, Nat.reduceBeqDiff, Nat.add_assoc nid, Nat.reduceAdd, reduceCtorEq, ↓reduceIte, Nat.reduceLeDiff, colPV, freeOf, indep, offO, neqO, disj, namesX, axSlot, opXs, rdXs, idsOf, idsOfs, lowH, lowAll, keys, Nat.reduceBneDiff, Option.toList, ← Int.ofNat_tmod, ← Int.ofNat_tdiv, optInt, fillP, repl, chunk, mkCols, mkCol, colInts, colBools, colStrs, colLits, colsApp, Col.app, tailOf, splice, colsPut, Col.put, mmFold, eqK, Nat.reduceLT, colsPaste, Col.paste, mNew, mkKey, keyIn, mGet, mPut, Int.cast_ofNat_Int, Int.reduceBEq, Int.reduceBNe, Int.reduceLT, Int.reduceLE, Int.reduceAdd, Int.reduceSub, Int.reduceMul, Int.reduceToNat, Int.reduceNeg, Int.reduceTMod, Int.reduceEq, not_false_eq_true, Int.reducePow, Int.reduceFDiv, Nat.reducePow, Nat.reduceSub, Nat.reduceMul, Nat.min_eq_left, Nat.reduceEqDiff, BEq.rfl, Int.tdiv_one, LN_succ, a188]
  refine CallO.pure (cloneU_c nl r _ (by omega) hnl) ?_
  unfold arrU
  simp -dsimp only [aqT, ROp, OX, ↓seqK, ↓blkK, ↓loopK, step, stepBin, res, stepIdx, mix, PV.cells, argSlots, Nat.reduceBEq, Nat.reduceBeqDiff, Nat.add_assoc nid, Nat.reduceAdd, reduceCtorEq, ↓reduceIte, Nat.reduceLeDiff, colPV, freeOf, indep, offO, neqO, disj, namesX, axSlot, opXs, rdXs, idsOf, idsOfs, lowH, lowAll, keys, Nat.reduceBneDiff, Option.toList, ← Int.ofNat_tmod, ← Int.ofNat_tdiv, optInt, fillP, repl, chunk, mkCols, mkCol, colInts, colBools, colStrs, colLits, colsApp, Col.app, tailOf, splice, colsPut, Col.put, mmFold, eqK, Nat.reduceLT, colsPaste, Col.paste, mNew, mkKey, keyIn, mGet, mPut, Int.cast_ofNat_Int, Int.reduceBEq, Int.reduceBNe, Int.reduceLT, Int.reduceLE, Int.reduceAdd, Int.reduceSub, Int.reduceMul, Int.reduceToNat, Int.reduceNeg, Int.reduceTMod, Int.reduceEq, not_false_eq_true, Int.reducePow, Int.reduceFDiv, Nat.reducePow, Nat.reduceSub, Nat.reduceMul, Nat.min_eq_left, Nat.reduceEqDiff, BEq.rfl, Int.tdiv_one, LN_succ]
  refine CallX.pure (whole_c long _ hlo) ?_
  simp -dsimp only [aqT, ROp, OX, ↓seqK, ↓blkK, ↓loopK, step, stepBin, res, stepIdx, mix, PV.cells, argSlots, Nat.reduceBEq, Nat.reduceBeqDiff, Nat.add_assoc nid, Nat.reduceAdd, reduceCtorEq, ↓reduceIte, Nat.reduceLeDiff, colPV, freeOf, indep, offO, neqO, disj, namesX, axSlot, opXs, rdXs, idsOf, idsOfs, lowH, lowAll, keys, Nat.reduceBneDiff, Option.toList, ← Int.ofNat_tmod, ← Int.ofNat_tdiv, optInt, fillP, repl, chunk, mkCols, mkCol, colInts, colBools, colStrs, colLits, colsApp, Col.app, tailOf, splice, colsPut, Col.put, mmFold, eqK, Nat.reduceLT, colsPaste, Col.paste, mNew, mkKey, keyIn, mGet, mPut, Int.cast_ofNat_Int, Int.reduceBEq, Int.reduceBNe, Int.reduceLT, Int.reduceLE, Int.reduceAdd, Int.reduceSub, Int.reduceMul, Int.reduceToNat, Int.reduceNeg, Int.reduceTMod, Int.reduceEq, not_false_eq_true, Int.reducePow, Int.reduceFDiv, Nat.reducePow, Nat.reduceSub, Nat.reduceMul, Nat.min_eq_left, Nat.reduceEqDiff, BEq.rfl, Int.tdiv_one, LN_succ]
  have hp : 2 ^ long - 1 < two64 := by
    have : 2 ^ long ≤ 2 ^ 63 := Nat.pow_le_pow_right (by omega) (by omega)
    unfold two64
    omega
  refine CallX.on (with_c (nid + 12) nf r f (2 ^ long - 1) _ (by omega) hr hrl hp hf) (subH_get (by simp only [aqT, ROp, OX, ↓seqK, ↓blkK, ↓loopK, step, stepBin, res, stepIdx, mix, PV.cells, argSlots, Nat.reduceBEq, Nat.reduceBeqDiff, Nat.add_assoc nid, Nat.reduceAdd, reduceCtorEq, ↓reduceIte, Nat.reduceLeDiff, colPV, freeOf, indep, offO, neqO, disj, namesX, axSlot, opXs, rdXs, idsOf, idsOfs, lowH, lowAll, keys, Nat.reduceBneDiff, Option.toList, ← Int.ofNat_tmod, ← Int.ofNat_tdiv, optInt, fillP, repl, chunk, mkCols, mkCol, colInts, colBools, colStrs, colLits, colsApp, Col.app, tailOf, splice, colsPut, Col.put, mmFold, eqK, Nat.reduceLT, colsPaste, Col.paste, mNew, mkKey, keyIn, mGet, mPut, Int.cast_ofNat_Int, Int.reduceBEq, Int.reduceBNe, Int.reduceLT, Int.reduceLE, Int.reduceAdd, Int.reduceSub, Int.reduceMul, Int.reduceToNat, Int.reduceNeg, Int.reduceTMod, Int.reduceEq, not_false_eq_true, Int.reducePow, Int.reduceFDiv, Nat.reducePow, Nat.reduceSub, Nat.reduceMul, Nat.min_eq_left, Nat.reduceEqDiff, BEq.rfl, Int.tdiv_one, LN_succ, arrU])) ?_
  have hwl := withV_len r f (2 ^ long - 1)
  generalize withV r f (2 ^ long - 1) = W at *
  unfold arrU
  simp -dsimp only [aqT, ROp, OX, ↓seqK, ↓blkK, ↓loopK, step, stepBin, res, stepIdx, mix, PV.cells, argSlots, Nat.reduceBEq, Nat.reduceBeqDiff, Nat.add_assoc nid, Nat.reduceAdd, reduceCtorEq, ↓reduceIte, Nat.reduceLeDiff, colPV, freeOf, indep, offO, neqO, disj, namesX, axSlot, opXs, rdXs, idsOf, idsOfs, lowH, lowAll, keys, Nat.reduceBneDiff, Option.toList, ← Int.ofNat_tmod, ← Int.ofNat_tdiv, optInt, fillP, repl, chunk, mkCols, mkCol, colInts, colBools, colStrs, colLits, colsApp, Col.app, tailOf, splice, colsPut, Col.put, mmFold, eqK, Nat.reduceLT, colsPaste, Col.paste, mNew, mkKey, keyIn, mGet, mPut, Int.cast_ofNat_Int, Int.reduceBEq, Int.reduceBNe, Int.reduceLT, Int.reduceLE, Int.reduceAdd, Int.reduceSub, Int.reduceMul, Int.reduceToNat, Int.reduceNeg, Int.reduceTMod, Int.reduceEq, not_false_eq_true, Int.reducePow, Int.reduceFDiv, Nat.reducePow, Nat.reduceSub, Nat.reduceMul, Nat.min_eq_left, Nat.reduceEqDiff, BEq.rfl, Int.tdiv_one, LN_succ]
  refine RetOK.go [(nid, nid + 12)] [] (.inl rfl) ?_
  simp [a188, retPV, over, keys, List.map_nil, List.map_cons, List.contains_cons, List.contains_nil, Bool.or_false, Bool.or_true, Bool.true_or, Bool.false_or, beq_self_eq_true, cond_true, cond_false, HeapCov, orNil, nilSz, onBlk, srcOf, getH_hit, getH_miss, getH.eq_1, getS_hit, getS_miss, getS.eq_1, BlkCov, PVCovs, PVCov, ColsEq, ColEq.refl, liveIds, SlotsCov, List.all_nil, List.all_cons, List.any_nil, List.any_cons, List.nil_append, List.cons_append, inRange, apart, nilBlk, idS1, idS2, readAll, readRes, onAll, step, res, AX.val, List.drop_zero, List.drop_succ_cons, List.take_succ_cons, List.take_zero, arrU, hwl, -List.getD_eq_getElem?_getD]
def detTo (r : List Nat) (f : Flt) (ones k : Nat) : Nat := ((List.range r.length).take k).foldl (fun a i => a ||| ((withV r f ones).getD i 0 ^^^ r.getD i 0)) 0
theorem withV_small {r : List Nat} (hr : Small r) (f : Flt) {ones : Nat} (ho : ones < two64) : Small (withV r f ones) := by
  have hv : valV r f ones < two64 := by
    unfold valV
    have h1 := andTo_lt hr f f.nets.length
    have h2 := orTo_lt hr f f.nets.length
    unfold andTo at h1; unfold orTo at h2
    rw [List.take_length] at h1 h2
    split
    · decide
    · split
      · exact ho
      · split
        · exact h1
        · split
          · exact h2
          · exact hr.at _
  unfold withV
  generalize valV r f ones = v at hv
  have : ∀ (l : List Nat) (r' : List Nat), Small r' → Small (l.foldl (fun r' n => r'.set n v) r') := fun l => by
    induction l with
    | nil => intro r' h; exact h
    | cons a l ih =>
      intro r' h
      refine ih _ fun x hx => ?_
      rcases List.mem_or_eq_of_mem_set hx with h1 | h1
      · exact h x h1
      · rw [h1]; exact hv
  exact this _ _ hr
theorem detTo_lt {r : List Nat} (hr : Small r) (f : Flt) {ones : Nat} (ho : ones < two64) (k : Nat) : detTo r f ones k < two64 := by
  unfold detTo
  have hw := withV_small hr f ho
  have : ∀ (l : List Nat) (a : Nat), a < two64 → l.foldl (fun a i => a ||| ((withV r f ones).getD i 0 ^^^ r.getD i 0)) a < two64 := fun l => by
    induction l with
    | nil => intro a h; exact h
    | cons x l ih => intro a h; exact ih _ (Nat.or_lt_two_pow (n := 64) h (Nat.xor_lt_two_pow (n := 64) (hw.at _) (hr.at _)))
  exact this _ _ (by decide)
set_option maxHeartbeats 4000000 in
theorem detected_c (nl nf : Bool) (r : List Nat) (f : Flt) (long : Nat) (nid : Nat) (hr : Small r) (hrl : r.length ≤ 1000) (hnl : nl = true → r = []) (hf : FltOk r.length f) (hlo : long < 64) :
    ACall Tryd.prog 145 [litU nl r, fltP nf f, .int .i64 (long : Nat)] [] nid (.int .u64 (detV r f (2 ^ long - 1) : Nat)) [] := by
  have hp : 2 ^ long - 1 < two64 := by
    have : 2 ^ long ≤ 2 ^ 63 := Nat.pow_le_pow_right (by omega) (by omega)
    unfold two64
    omega
  refine acall_run c145 (by simp [a145]) ?_
  have hcl := fun k => respond_c nl nf r f long k hr hrl hnl hf hlo
  unfold litU fltP netsP at hcl ⊢
  simp -dsimp only [aqT, ROp, OX, ↓seqK, ↓blkK, ↓loopK, step, stepBin, res, stepIdx, mix, PV.cells, argSlots, Nat.reduceBEq, Nat.reduceBeqDiff, Nat.add_assoc nid, Nat.reduceAdd, reduceCtorEq, ↓reduceIte, Nat.reduceLeDiff, colPV, freeOf, indep, offO, neqO, disj, namesX, axSlot, opXs, rdXs, idsOf, idsOfs, lowH, lowAll, keys, Nat.reduceBneDiff, Option.toList, ← Int.ofNat_tmod, ← Int.ofNat_tdiv, optInt, fillP, repl, chunk, mkCols, mkCol, colInts, colBools, colStrs, colLits, colsApp, Col.app, tailOf, splice, colsPut, Col.put, mmFold, eqK, Nat.reduceLT, colsPaste, Col.paste, mNew, mkKey, keyIn, mGet, mPut, Int.cast_ofNat_Int, Int.reduceBEq, Int.reduceBNe, Int.reduceLT, Int.reduceLE, Int.reduceAdd, Int.reduceSub, Int.reduceMul, Int.reduceToNat, Int.reduceNeg, Int.reduceTMod, Int.reduceEq, not_false_eq_true, Int.reducePow, Int.reduceFDiv, Nat.reducePow, Nat.reduceSub, Nat.reduceMul, Nat.min_eq_left, Nat.reduceEqDiff, BEq.rfl, Int.tdiv_one, LN_succ, a145]
  refine CallO.pure (hcl _) ?_
  have hwl := withV_len r f (2 ^ long - 1)
  have hws := withV_small hr f hp
  have hdl := fun k => detTo_lt hr f hp k
  have hst := fun (k : Nat) (hk : k < (List.range r.length).length) => foldl_take (fun a i => a ||| ((withV r f (2 ^ long - 1)).getD i 0 ^^^ r.getD i 0)) 0 (d := 0) hk
  have hdv : detV r f (2 ^ long - 1) = detTo r f (2 ^ long - 1) r.length := by unfold detV detTo; rw [List.take_of_length_le (by simp)]
  rw [hdv]
  unfold arrU
  simp -dsimp only [aqT, ROp, OX, ↓seqK, ↓blkK, ↓loopK, step, stepBin, res, stepIdx, mix, PV.cells, argSlots, Nat.reduceBEq, Nat.reduceBeqDiff, Nat.add_assoc nid, Nat.reduceAdd, reduceCtorEq, ↓reduceIte, Nat.reduceLeDiff, colPV, freeOf, indep, offO, neqO, disj, namesX, axSlot, opXs, rdXs, idsOf, idsOfs, lowH, lowAll, keys, Nat.reduceBneDiff, Option.toList, ← Int.ofNat_tmod, ← Int.ofNat_tdiv, optInt, fillP, repl, chunk, mkCols, mkCol, colInts, colBools, colStrs, colLits, colsApp, Col.app, tailOf, splice, colsPut, Col.put, mmFold, eqK, Nat.reduceLT, colsPaste, Col.paste, mNew, mkKey, keyIn, mGet, mPut, Int.cast_ofNat_Int, Int.reduceBEq, Int.reduceBNe, Int.reduceLT, Int.reduceLE, Int.reduceAdd, Int.reduceSub, Int.reduceMul, Int.reduceToNat, Int.reduceNeg, Int.reduceTMod, Int.reduceEq, not_false_eq_true, Int.reducePow, Int.reduceFDiv, Nat.reducePow, Nat.reduceSub, Nat.reduceMul, Nat.min_eq_left, Nat.reduceEqDiff, BEq.rfl, Int.tdiv_one, LN_succ]
  refine LP.mkP (fun k : Nat => k ≤ r.length) (fun k : Nat => ⟨[(15, .int .i64 k), (14, .int .i64 r.length), (13, .sl (nid + 4) 0 r.length), (7, .int .u64 (detTo r f (2 ^ long - 1) k : Nat)), (0, .lit nl r.length [.i .u64 fun i => ((r.getD i 0 : Nat) : Int)])], [(nid + 4, some (.arr 132 r.length [.i .u64 fun i => (((withV r f (2 ^ long - 1)).getD i 0 : Nat) : Int)]))], nid + 300, nid⟩) (fun k => r.length + 1 - k) 0 (by omega) (Cov.go [(nid + 4, nid + 24)] [] ?_) (fun k hk => ?_)
  · simp [retPV, over, keys, List.map_nil, List.map_cons, List.contains_cons, List.contains_nil, Bool.or_false, Bool.or_true, Bool.true_or, Bool.false_or, beq_self_eq_true, cond_true, cond_false, HeapCov, orNil, nilSz, onBlk, srcOf, getH_hit, getH_miss, getH.eq_1, getS_hit, getS_miss, getS.eq_1, BlkCov, PVCovs, PVCov, ColsEq, ColEq.refl, liveIds, SlotsCov, List.all_nil, List.all_cons, List.any_nil, List.any_cons, List.nil_append, List.cons_append, inRange, apart, nilBlk, idS1, idS2, readAll, readRes, onAll, step, res, AX.val, List.drop_zero, List.drop_succ_cons, List.take_succ_cons, List.take_zero, hwl, detTo, -List.getD_eq_getElem?_getD]
  simp -dsimp only [aqT, ROp, OX, ↓seqK, ↓blkK, ↓loopK, step, stepBin, res, stepIdx, mix, PV.cells, argSlots, Nat.reduceBEq, Nat.reduceBeqDiff, Nat.add_assoc nid, Nat.reduceAdd, reduceCtorEq, ↓reduceIte, Nat.reduceLeDiff, colPV, freeOf, indep, offO, neqO, disj, namesX, axSlot, opXs, rdXs, idsOf, idsOfs, lowH, lowAll, keys, Nat.reduceBneDiff, Option.toList, ← Int.ofNat_tmod, ← Int.ofNat_tdiv, optInt, fillP, repl, chunk, mkCols, mkCol, colInts, colBools, colStrs, colLits, colsApp, Col.app, tailOf, splice, colsPut, Col.put, mmFold, eqK, Nat.reduceLT, colsPaste, Col.paste, mNew, mkKey, keyIn, mGet, mPut, Int.cast_ofNat_Int, Int.reduceBEq, Int.reduceBNe, Int.reduceLT, Int.reduceLE, Int.reduceAdd, Int.reduceSub, Int.reduceMul, Int.reduceToNat, Int.reduceNeg, Int.reduceTMod, Int.reduceEq, not_false_eq_true, Int.reducePow, Int.reduceFDiv, Nat.reducePow, Nat.reduceSub, Nat.reduceMul, Nat.min_eq_left, Nat.reduceEqDiff, BEq.rfl, Int.tdiv_one, LN_succ]
  refine S2.dec (fun h2 => ?_) (fun h2 => ?_) <;> simp -dsimp only [aqT, ROp, OX, ↓seqK, ↓blkK, ↓loopK, step, stepBin, res, stepIdx, mix, PV.cells, argSlots, Nat.reduceBEq, Nat.reduceBeqDiff, Nat.add_assoc nid, Nat.reduceAdd, reduceCtorEq, ↓reduceIte, Nat.reduceLeDiff, colPV, freeOf, indep, offO, neqO, disj, namesX, axSlot, opXs, rdXs, idsOf, idsOfs, lowH, lowAll, keys, Nat.reduceBneDiff, Option.toList, ← Int.ofNat_tmod, ← Int.ofNat_tdiv, optInt, fillP, repl, chunk, mkCols, mkCol, colInts, colBools, colStrs, colLits, colsApp, Col.app, tailOf, splice, colsPut, Col.put, mmFold, eqK, Nat.reduceLT, colsPaste, Col.paste, mNew, mkKey, keyIn, mGet, mPut, Int.cast_ofNat_Int, Int.reduceBEq, Int.reduceBNe, Int.reduceLT, Int.reduceLE, Int.reduceAdd, Int.reduceSub, Int.reduceMul, Int.reduceToNat, Int.reduceNeg, Int.reduceTMod, Int.reduceEq, not_false_eq_true, Int.reducePow, Int.reduceFDiv, Nat.reducePow, Nat.reduceSub, Nat.reduceMul, Nat.min_eq_left, Nat.reduceEqDiff, BEq.rfl, Int.tdiv_one, LN_succ]
  · have hkl : k < r.length := by omega
    have hst := hst k (by simpa using hkl)
    have hrk : (List.range r.length).getD k 0 = k := by rw [List.getD_eq_getElem?_getD, List.getElem?_range hkl]; rfl
    rw [hrk] at hst
    have hx := xor_u (hws.at k) (hr.at k)
    have ho := (or_u (hdl k) hx.2).1
    rw [hx.1, ho]
    change detTo r f (2 ^ long - 1) (k + 1) = detTo r f (2 ^ long - 1) k ||| _ at hst
    rw [← hst]
    refine ⟨by omega, by omega, by unfold inI64; omega, k + 1, ⟨by omega, by omega⟩, Cov.go [] [] ?_⟩
    simp [retPV, over, keys, List.map_nil, List.map_cons, List.contains_cons, List.contains_nil, Bool.or_false, Bool.or_true, Bool.true_or, Bool.false_or, beq_self_eq_true, cond_true, cond_false, HeapCov, orNil, nilSz, onBlk, srcOf, getH_hit, getH_miss, getH.eq_1, getS_hit, getS_miss, getS.eq_1, BlkCov, PVCovs, PVCov, ColsEq, ColEq.refl, liveIds, SlotsCov, List.all_nil, List.all_cons, List.any_nil, List.any_cons, List.nil_append, List.cons_append, inRange, apart, nilBlk, idS1, idS2, readAll, readRes, onAll, step, res, AX.val, List.drop_zero, List.drop_succ_cons, List.take_succ_cons, List.take_zero, -List.getD_eq_getElem?_getD]
  · have hkn : k = r.length := by omega
    subst hkn
    refine RetOK.pure (.inl rfl) rfl ?_
    simp [retPV, over, keys, List.map_nil, List.map_cons, List.contains_cons, List.contains_nil, Bool.or_false, Bool.or_true, Bool.true_or, Bool.false_or, beq_self_eq_true, cond_true, cond_false, HeapCov, orNil, nilSz, onBlk, srcOf, getH_hit, getH_miss, getH.eq_1, getS_hit, getS_miss, getS.eq_1, BlkCov, PVCovs, PVCov, ColsEq, ColEq.refl, liveIds, SlotsCov, List.all_nil, List.all_cons, List.any_nil, List.any_cons, List.nil_append, List.cons_append, inRange, apart, nilBlk, idS1, idS2, readAll, readRes, onAll, step, res, AX.val, List.drop_zero, List.drop_succ_cons, List.take_succ_cons, List.take_zero]
end Go.Proofs.YthcldfmlfjomfaaDoor
namespace Go.Proofs.YthcldfmlfjomfaaDoor
open Go.RowKit
def bshI (c i : Nat) : Int := IntKind.u64.wrap (IntKind.u64.wrap (IntKind.u8.wrap (((c : Nat) : Int) - 48)) * 2 ^ min i IntKind.u64.bits)
theorem bsh_all : ([48, 49].all fun c => (List.range 64).all fun i => decide (bshI c i = (((c - 48) <<< i : Nat) : Int) ∧ (c - 48) <<< i < two64)) = true := by kernel_rfl
theorem bsh_eq {c i : Nat} (hc : c = 48 ∨ c = 49) (hi : i < 64) : bshI c i = (((c - 48) <<< i : Nat) : Int) ∧ (c - 48) <<< i < two64 := by
  have h1 := List.all_eq_true.1 bsh_all c (by simpa using hc)
  exact of_decide_eq_true (List.all_eq_true.1 h1 i (List.mem_range.2 hi))
theorem bit_nat2 {s : List UInt8} (h : bitsOk s = true) {k : Nat} (hk : k < s.length) : (s.getD k 0).toNat = 48 ∨ (s.getD k 0).toNat = 49 := by
  rcases bitsOk_at h hk with e | e <;> rw [e]
  · exact .inl rfl
  · exact .inr rfl
def rowTo (s : List UInt8) (k : Nat) : Nat := ((List.range s.length).take k).foldl (fun a i => a ||| ((s.getD i 0).toNat - 48) <<< i) 0
theorem rowTo_step {s : List UInt8} {k : Nat} (hk : k < s.length) : rowTo s (k + 1) = rowTo s k ||| ((s.getD k 0).toNat - 48) <<< k := by
  have h := foldl_take (fun a i => a ||| ((s.getD i 0).toNat - 48) <<< i) 0 (l := List.range s.length) (k := k) (d := 0) (by simpa using hk)
  have hrk : (List.range s.length).getD k 0 = k := by rw [List.getD_eq_getElem?_getD, List.getElem?_range hk]; rfl
  rw [hrk] at h
  exact h
theorem rowTo_lt {s : List UInt8} (h : bitsOk s = true) (hl : s.length ≤ 64) : ∀ k, k ≤ s.length → rowTo s k < two64
  | 0, _ => by simp [rowTo, two64]
  | k + 1, hk => by
    rw [rowTo_step (by omega)]
    exact Nat.or_lt_two_pow (n := 64) (rowTo_lt h hl k (by omega)) (bsh_eq (bit_nat2 h (by omega)) (by omega)).2
theorem rowTo_all (s : List UInt8) : rowTo s s.length = rowN s := by unfold rowTo rowN; rw [List.take_of_length_le (by simp)]
theorem rows_small {t : List (List UInt8)} (h : ∀ s ∈ t, bitsOk s = true ∧ s.length ≤ 64) : Small (t.map rowN) := fun x hx => by
  obtain ⟨s, hs, rfl⟩ := List.mem_map.1 hx
  rw [← rowTo_all]
  exact rowTo_lt (h s hs).1 (h s hs).2 _ (Nat.le_refl _)
theorem mapTakeL {α β : Type} (f : α → β) {l : List α} {k : Nat} {d : α} (h : k < l.length) : (l.map f).take (k + 1) = (l.map f).take k ++ [f (l.getD k d)] := by
  refine take_snoc ?_
  rw [List.getElem?_map, List.getD_eq_getElem?_getD, List.getElem?_eq_getElem h]
  rfl
theorem getD_appN (l : List Nat) (x : Nat) {n : Nat} (hn : l.length = n) (T : IntKind) : (fun i => if i < n then ((l.getD i 0 : Nat) : Int) else [((x : Nat) : Int)].getD (i - n) 0) = fun i => (((l ++ [x]).getD i 0 : Nat) : Int) := by
  subst hn
  funext i
  simp only [List.getD_eq_getElem?_getD, List.getElem?_append]
  split
  · rfl
  · rename_i h
    cases hk : i - l.length with
    | zero => rfl
    | succ k => rfl
set_option maxHeartbeats 8000000 in
theorem rows_c (nl : Bool) (t : List (List UInt8)) (nid : Nat) (htl : t.length ≤ 1000) (ht : ∀ s ∈ t, bitsOk s = true ∧ s.length ≤ 64) : ACall Tryd.prog 144 [litS nl t] [] nid (.sl nid 0 t.length) [(nid, arrU (t.map rowN))] := by
  have hml : (t.map rowN).length = t.length := by simp
  refine acall_run c144 (by simp [a144]) ?_
  unfold litS
  simp -dsimp only [aqT, ROp, OX, ↓seqK, ↓blkK, ↓loopK, step, stepBin, res, stepIdx, mix, PV.cells, argSlots, Nat.reduceBEq, Nat.reduceBeqDiff, Nat.add_assoc nid, Nat.reduceAdd, reduceCtorEq, ↓reduceIte, Nat.reduceLeDiff, colPV, freeOf, indep, offO, neqO, disj, namesX, axSlot, opXs, rdXs, idsOf, idsOfs, lowH, lowAll, keys, Nat.reduceBneDiff, Option.toList, ← Int.ofNat_tmod, ← Int.ofNat_tdiv, optInt, fillP, repl, chunk, mkCols, mkCol, colInts, colBools, colStrs, colLits, colsApp, Col.app, tailOf, splice, colsPut, Col.put, mmFold, eqK, Nat.reduceLT, colsPaste, Col.paste, mNew, mkKey, keyIn, mGet, mPut, Int.cast_ofNat_Int, Int.reduceBEq, Int.reduceBNe, Int.reduceLT, Int.reduceLE, Int.reduceAdd, Int.reduceSub, Int.reduceMul, Int.reduceToNat, Int.reduceNeg, Int.reduceTMod, Int.reduceEq, not_false_eq_true, Int.reducePow, Int.reduceFDiv, Nat.reducePow, Nat.reduceSub, Nat.reduceMul, Nat.min_eq_left, Nat.reduceEqDiff, BEq.rfl, Int.tdiv_one, LN_succ, a144]
  refine LP.mkP (fun x : Nat => x ≤ t.length) (fun x : Nat => ⟨[(10, .int .i64 x), (9, .int .i64 t.length), (8, litS nl t), (3, .sl (nid + 4) 0 ((t.map rowN).take x).length)], [(nid + 4, arrU ((t.map rowN).take x))], nid + 200, nid⟩) (fun x => t.length + 1 - x) 0 (by omega) (Cov.go [] [(nid + 4, 1)] ?_) (fun x hx => ?_)
  · simp [retPV, over, keys, List.map_nil, List.map_cons, List.contains_cons, List.contains_nil, Bool.or_false, Bool.or_true, Bool.true_or, Bool.false_or, beq_self_eq_true, cond_true, cond_false, HeapCov, orNil, nilSz, onBlk, srcOf, getH_hit, getH_miss, getH.eq_1, getS_hit, getS_miss, getS.eq_1, BlkCov, PVCovs, PVCov, ColsEq, ColEq.refl, liveIds, SlotsCov, List.all_nil, List.all_cons, List.any_nil, List.any_cons, List.nil_append, List.cons_append, inRange, apart, nilBlk, idS1, idS2, readAll, readRes, onAll, step, res, AX.val, List.drop_zero, List.drop_succ_cons, List.take_succ_cons, List.take_zero, arrU, litS]
  have hxl : ((t.map rowN).take x).length = x := by rw [List.length_take]; omega
  have htk := fun h => mapTakeL rowN (l := t) (k := x) (d := []) h
  unfold arrU litS
  simp -dsimp only [aqT, ROp, OX, ↓seqK, ↓blkK, ↓loopK, step, stepBin, res, stepIdx, mix, PV.cells, argSlots, Nat.reduceBEq, Nat.reduceBeqDiff, Nat.add_assoc nid, Nat.reduceAdd, reduceCtorEq, ↓reduceIte, Nat.reduceLeDiff, colPV, freeOf, indep, offO, neqO, disj, namesX, axSlot, opXs, rdXs, idsOf, idsOfs, lowH, lowAll, keys, Nat.reduceBneDiff, Option.toList, ← Int.ofNat_tmod, ← Int.ofNat_tdiv, optInt, fillP, repl, chunk, mkCols, mkCol, colInts, colBools, colStrs, colLits, colsApp, Col.app, tailOf, splice, colsPut, Col.put, mmFold, eqK, Nat.reduceLT, colsPaste, Col.paste, mNew, mkKey, keyIn, mGet, mPut, Int.cast_ofNat_Int, Int.reduceBEq, Int.reduceBNe, Int.reduceLT, Int.reduceLE, Int.reduceAdd, Int.reduceSub, Int.reduceMul, Int.reduceToNat, Int.reduceNeg, Int.reduceTMod, Int.reduceEq, not_false_eq_true, Int.reducePow, Int.reduceFDiv, Nat.reducePow, Nat.reduceSub, Nat.reduceMul, Nat.min_eq_left, Nat.reduceEqDiff, BEq.rfl, Int.tdiv_one, LN_succ]
  refine S2.dec (fun h3 => ?_) (fun h3 => ?_) <;> simp -dsimp only [aqT, ROp, OX, ↓seqK, ↓blkK, ↓loopK, step, stepBin, res, stepIdx, mix, PV.cells, argSlots, Nat.reduceBEq, Nat.reduceBeqDiff, Nat.add_assoc nid, Nat.reduceAdd, reduceCtorEq, ↓reduceIte, Nat.reduceLeDiff, colPV, freeOf, indep, offO, neqO, disj, namesX, axSlot, opXs, rdXs, idsOf, idsOfs, lowH, lowAll, keys, Nat.reduceBneDiff, Option.toList, ← Int.ofNat_tmod, ← Int.ofNat_tdiv, optInt, fillP, repl, chunk, mkCols, mkCol, colInts, colBools, colStrs, colLits, colsApp, Col.app, tailOf, splice, colsPut, Col.put, mmFold, eqK, Nat.reduceLT, colsPaste, Col.paste, mNew, mkKey, keyIn, mGet, mPut, Int.cast_ofNat_Int, Int.reduceBEq, Int.reduceBNe, Int.reduceLT, Int.reduceLE, Int.reduceAdd, Int.reduceSub, Int.reduceMul, Int.reduceToNat, Int.reduceNeg, Int.reduceTMod, Int.reduceEq, not_false_eq_true, Int.reducePow, Int.reduceFDiv, Nat.reducePow, Nat.reduceSub, Nat.reduceMul, Nat.min_eq_left, Nat.reduceEqDiff, BEq.rfl, Int.tdiv_one, LN_succ]
  · have hxt : x < t.length := by omega
    have htk := htk hxt
    have htl2 : ((t.map rowN).take (x + 1)).length = x + 1 := by rw [List.length_take]; omega
    have hs := getD_all (P := fun s : List UInt8 => bitsOk s = true ∧ s.length ≤ 64) (d := []) ht hxt
    generalize ((t.map rowN).take x) = T at *
    generalize t.getD x [] = s at *
    refine ⟨by omega, ?_⟩
    refine LP.mkP (fun y : Nat => y ≤ s.length) (fun y : Nat => ⟨[(16, .int .i64 y), (15, .int .i64 s.length), (5, .str s), (6, .int .u64 (rowTo s y : Nat)), (10, .int .i64 x), (9, .int .i64 t.length), (8, litS nl t), (3, .sl (nid + 4) 0 T.length)], [(nid + 4, arrU T)], nid + 400, nid⟩) (fun y => s.length + 1 - y) 0 (by omega) (Cov.go [] [] ?_) (fun y hy => ?_)
    · simp [retPV, over, keys, List.map_nil, List.map_cons, List.contains_cons, List.contains_nil, Bool.or_false, Bool.or_true, Bool.true_or, Bool.false_or, beq_self_eq_true, cond_true, cond_false, HeapCov, orNil, nilSz, onBlk, srcOf, getH_hit, getH_miss, getH.eq_1, getS_hit, getS_miss, getS.eq_1, BlkCov, PVCovs, PVCov, ColsEq, ColEq.refl, liveIds, SlotsCov, List.all_nil, List.all_cons, List.any_nil, List.any_cons, List.nil_append, List.cons_append, inRange, apart, nilBlk, idS1, idS2, readAll, readRes, onAll, step, res, AX.val, List.drop_zero, List.drop_succ_cons, List.take_succ_cons, List.take_zero, arrU, litS, rowTo, -List.getD_eq_getElem?_getD]
    unfold arrU litS
    simp -dsimp only [aqT, ROp, OX, ↓seqK, ↓blkK, ↓loopK, step, stepBin, res, stepIdx, mix, PV.cells, argSlots, Nat.reduceBEq, Nat.reduceBeqDiff, Nat.add_assoc nid, Nat.reduceAdd, reduceCtorEq, ↓reduceIte, Nat.reduceLeDiff, colPV, freeOf, indep, offO, neqO, disj, namesX, axSlot, opXs, rdXs, idsOf, idsOfs, lowH, lowAll, keys, Nat.reduceBneDiff, Option.toList, ← Int.ofNat_tmod, ← Int.ofNat_tdiv, optInt, fillP, repl, chunk, mkCols, mkCol, colInts, colBools, colStrs, colLits, colsApp, Col.app, tailOf, splice, colsPut, Col.put, mmFold, eqK, Nat.reduceLT, colsPaste, Col.paste, mNew, mkKey, keyIn, mGet, mPut, Int.cast_ofNat_Int, Int.reduceBEq, Int.reduceBNe, Int.reduceLT, Int.reduceLE, Int.reduceAdd, Int.reduceSub, Int.reduceMul, Int.reduceToNat, Int.reduceNeg, Int.reduceTMod, Int.reduceEq, not_false_eq_true, Int.reducePow, Int.reduceFDiv, Nat.reducePow, Nat.reduceSub, Nat.reduceMul, Nat.min_eq_left, Nat.reduceEqDiff, BEq.rfl, Int.tdiv_one, LN_succ]
    refine S2.dec (fun h4 => ?_) (fun h4 => ?_) <;> simp -dsimp only [aqT, ROp, OX, ↓seqK, ↓blkK, ↓loopK, step, stepBin, res, stepIdx, mix, PV.cells, argSlots, Nat.reduceBEq, Nat.reduceBeqDiff, Nat.add_assoc nid, Nat.reduceAdd, reduceCtorEq, ↓reduceIte, Nat.reduceLeDiff, colPV, freeOf, indep, offO, neqO, disj, namesX, axSlot, opXs, rdXs, idsOf, idsOfs, lowH, lowAll, keys, Nat.reduceBneDiff, Option.toList, ← Int.ofNat_tmod, ← Int.ofNat_tdiv, optInt, fillP, repl, chunk, mkCols, mkCol, colInts, colBools, colStrs, colLits, colsApp, Col.app, tailOf, splice, colsPut, Col.put, mmFold, eqK, Nat.reduceLT, colsPaste, Col.paste, mNew, mkKey, keyIn, mGet, mPut, Int.cast_ofNat_Int, Int.reduceBEq, Int.reduceBNe, Int.reduceLT, Int.reduceLE, Int.reduceAdd, Int.reduceSub, Int.reduceMul, Int.reduceToNat, Int.reduceNeg, Int.reduceTMod, Int.reduceEq, not_false_eq_true, Int.reducePow, Int.reduceFDiv, Nat.reducePow, Nat.reduceSub, Nat.reduceMul, Nat.min_eq_left, Nat.reduceEqDiff, BEq.rfl, Int.tdiv_one, LN_succ]
    · have hyl : y < s.length := by omega
      have hb := bsh_eq (bit_nat2 hs.1 hyl) (i := y) (by omega)
      have ho := (or_u (rowTo_lt hs.1 hs.2 y (by omega)) hb.2).1
      have hst := rowTo_step hyl
      unfold bshI at hb
      rw [hb.1, ho, ← hst]
      refine ⟨by omega, by omega, by unfold inI64; omega, y + 1, ⟨by omega, by omega⟩, Cov.go [] [] ?_⟩
      simp [retPV, over, keys, List.map_nil, List.map_cons, List.contains_cons, List.contains_nil, Bool.or_false, Bool.or_true, Bool.true_or, Bool.false_or, beq_self_eq_true, cond_true, cond_false, HeapCov, orNil, nilSz, onBlk, srcOf, getH_hit, getH_miss, getH.eq_1, getS_hit, getS_miss, getS.eq_1, BlkCov, PVCovs, PVCov, ColsEq, ColEq.refl, liveIds, SlotsCov, List.all_nil, List.all_cons, List.any_nil, List.any_cons, List.nil_append, List.cons_append, inRange, apart, nilBlk, idS1, idS2, readAll, readRes, onAll, step, res, AX.val, List.drop_zero, List.drop_succ_cons, List.take_succ_cons, List.take_zero, arrU, litS, -List.getD_eq_getElem?_getD]
    · have hyn : y = s.length := by omega
      subst hyn
      rw [rowTo_all, getD_appN T (rowN s) rfl .u64, ← htk]
      refine ⟨by omega, by unfold inI64; omega, x + 1, ⟨by omega, by omega⟩, Cov.go [(nid + 4, nid + 416)] [] ?_⟩
      simp [retPV, over, keys, List.map_nil, List.map_cons, List.contains_cons, List.contains_nil, Bool.or_false, Bool.or_true, Bool.true_or, Bool.false_or, beq_self_eq_true, cond_true, cond_false, HeapCov, orNil, nilSz, onBlk, srcOf, getH_hit, getH_miss, getH.eq_1, getS_hit, getS_miss, getS.eq_1, BlkCov, PVCovs, PVCov, ColsEq, ColEq.refl, liveIds, SlotsCov, List.all_nil, List.all_cons, List.any_nil, List.any_cons, List.nil_append, List.cons_append, inRange, apart, nilBlk, idS1, idS2, readAll, readRes, onAll, step, res, AX.val, List.drop_zero, List.drop_succ_cons, List.take_succ_cons, List.take_zero, arrU, litS, hxl, htl2, -List.getD_eq_getElem?_getD]
  · have hxn : x = t.length := by omega
    subst hxn
    have hT : (t.map rowN).take t.length = t.map rowN := List.take_of_length_le (by omega)
    rw [hT]
    refine RetOK.go [(nid, nid + 4)] [] (.inl rfl) ?_
    simp [a144, retPV, over, keys, List.map_nil, List.map_cons, List.contains_cons, List.contains_nil, Bool.or_false, Bool.or_true, Bool.true_or, Bool.false_or, beq_self_eq_true, cond_true, cond_false, HeapCov, orNil, nilSz, onBlk, srcOf, getH_hit, getH_miss, getH.eq_1, getS_hit, getS_miss, getS.eq_1, BlkCov, PVCovs, PVCov, ColsEq, ColEq.refl, liveIds, SlotsCov, List.all_nil, List.all_cons, List.any_nil, List.any_cons, List.nil_append, List.cons_append, inRange, apart, nilBlk, idS1, idS2, readAll, readRes, onAll, step, res, AX.val, List.drop_zero, List.drop_succ_cons, List.take_succ_cons, List.take_zero, arrU, hml, -List.getD_eq_getElem?_getD]
def f0 : Flt := ⟨0, []⟩
def colsF (fs : List Flt) : List Col := [.i .i64 fun i => (((fs.getD i f0).kind : Nat) : Int), .l (fun _ => false) (fun i => (fs.getD i f0).nets.length) (fun i => [.i .i64 fun j => (((fs.getD i f0).nets.getD j 0 : Nat) : Int)])]
def litF (nl : Bool) (fs : List Flt) : PV := .lit nl fs.length (colsF fs)
def maskL (t : List (List UInt8)) (fs : List Flt) (ones : Nat) : List Nat := fs.map fun f => detV (t.map rowN) f ones
set_option maxHeartbeats 8000000 in
theorem masks_c (nl nf : Bool) (t : List (List UInt8)) (fs : List Flt) (long : Nat) (nid : Nat) (htl : t.length ≤ 1000) (hpos : 0 < t.length) (hlong : (t.getD 0 []).length = long) (hl63 : long < 64) (ht : ∀ s ∈ t, bitsOk s = true ∧ s.length ≤ 64) (hfl : fs.length ≤ 20000) (hf : ∀ f ∈ fs, FltOk t.length f) :
    ACall Tryd.prog 105 [litS nl t, litF nf fs] [] nid (.sl nid 0 fs.length) [(nid, arrU (maskL t fs (2 ^ long - 1)))] := by
  have hsm := rows_small ht
  have hml : (t.map rowN).length = t.length := by simp
  have hkl : (maskL t fs (2 ^ long - 1)).length = fs.length := by simp [maskL]
  refine acall_run c105 (by simp [a105]) ?_
  have hrc := fun k => rows_c nl t k htl ht
  unfold litS litF colsF at *
  simp -dsimp only [aqT, ROp, OX, ↓seqK, ↓blkK, ↓loopK, step, stepBin, res, stepIdx, mix, PV.cells, argSlots, Nat.reduceBEq, Nat.reduceBeqDiff, Nat.add_assoc nid, Nat.reduceAdd, reduceCtorEq, ↓reduceIte, Nat.reduceLeDiff, colPV, freeOf, indep, offO, neqO, disj, namesX, axSlot, opXs, rdXs, idsOf, idsOfs, lowH, lowAll, keys, Nat.reduceBneDiff, Option.toList, ← Int.ofNat_tmod, ← Int.ofNat_tdiv, optInt, fillP, repl, chunk, mkCols, mkCol, colInts, colBools, colStrs, colLits, colsApp, Col.app, tailOf, splice, colsPut, Col.put, mmFold, eqK, Nat.reduceLT, colsPaste, Col.paste, mNew, mkKey, keyIn, mGet, mPut, Int.cast_ofNat_Int, Int.reduceBEq, Int.reduceBNe, Int.reduceLT, Int.reduceLE, Int.reduceAdd, Int.reduceSub, Int.reduceMul, Int.reduceToNat, Int.reduceNeg, Int.reduceTMod, Int.reduceEq, not_false_eq_true, Int.reducePow, Int.reduceFDiv, Nat.reducePow, Nat.reduceSub, Nat.reduceMul, Nat.min_eq_left, Nat.reduceEqDiff, BEq.rfl, Int.tdiv_one, LN_succ, a105]
  refine CallO.pure (hrc _) ?_
  unfold arrU
  simp -dsimp only [aqT, ROp, OX, ↓seqK, ↓blkK, ↓loopK, step, stepBin, res, stepIdx, mix, PV.cells, argSlots, Nat.reduceBEq, Nat.reduceBeqDiff, Nat.add_assoc nid, Nat.reduceAdd, reduceCtorEq, ↓reduceIte, Nat.reduceLeDiff, colPV, freeOf, indep, offO, neqO, disj, namesX, axSlot, opXs, rdXs, idsOf, idsOfs, lowH, lowAll, keys, Nat.reduceBneDiff, Option.toList, ← Int.ofNat_tmod, ← Int.ofNat_tdiv, optInt, fillP, repl, chunk, mkCols, mkCol, colInts, colBools, colStrs, colLits, colsApp, Col.app, tailOf, splice, colsPut, Col.put, mmFold, eqK, Nat.reduceLT, colsPaste, Col.paste, mNew, mkKey, keyIn, mGet, mPut, Int.cast_ofNat_Int, Int.reduceBEq, Int.reduceBNe, Int.reduceLT, Int.reduceLE, Int.reduceAdd, Int.reduceSub, Int.reduceMul, Int.reduceToNat, Int.reduceNeg, Int.reduceTMod, Int.reduceEq, not_false_eq_true, Int.reducePow, Int.reduceFDiv, Nat.reducePow, Nat.reduceSub, Nat.reduceMul, Nat.min_eq_left, Nat.reduceEqDiff, BEq.rfl, Int.tdiv_one, LN_succ]
  have hdet := fun (nl2 : Bool) (hn : nl2 = true → t.map rowN = []) f (hf2 : f ∈ fs) k => detected_c nl2 false (t.map rowN) f long k hsm (by omega) hn (by rw [hml]; exact hf f hf2) hl63
  have htk := fun x h => mapTakeL (fun f => detV (t.map rowN) f (2 ^ long - 1)) (l := fs) (k := x) (d := f0) h
  change ∀ x, x < fs.length → (maskL t fs (2 ^ long - 1)).take (x + 1) = (maskL t fs (2 ^ long - 1)).take x ++ [detV (t.map rowN) (fs.getD x f0) (2 ^ long - 1)] at htk
  generalize maskL t fs (2 ^ long - 1) = K at *
  generalize t.map rowN = R at *
  refine LP.mkP (fun x : Nat => x ≤ fs.length) (fun x : Nat => ⟨[(13, .int .i64 x), (12, .int .i64 fs.length), (11, litF nf fs), (6, .sl (nid + 12) 0 (K.take x).length), (5, .sl (nid + 8) 0 R.length), (0, litS nl t)], [(nid + 8, arrU R), (nid + 12, arrU (K.take x))], nid + 200, nid⟩) (fun x => fs.length + 1 - x) 0 (by omega) (Cov.go [] [(nid + 12, 1)] ?_) (fun x hx => ?_)
  · simp [retPV, over, keys, List.map_nil, List.map_cons, List.contains_cons, List.contains_nil, Bool.or_false, Bool.or_true, Bool.true_or, Bool.false_or, beq_self_eq_true, cond_true, cond_false, HeapCov, orNil, nilSz, onBlk, srcOf, getH_hit, getH_miss, getH.eq_1, getS_hit, getS_miss, getS.eq_1, BlkCov, PVCovs, PVCov, ColsEq, ColEq.refl, liveIds, SlotsCov, List.all_nil, List.all_cons, List.any_nil, List.any_cons, List.nil_append, List.cons_append, inRange, apart, nilBlk, idS1, idS2, readAll, readRes, onAll, step, res, AX.val, List.drop_zero, List.drop_succ_cons, List.take_succ_cons, List.take_zero, arrU, litS, litF, colsF, hml, -List.getD_eq_getElem?_getD]
  have hxl : (K.take x).length = x := by rw [List.length_take]; omega
  have htk := htk x
  unfold arrU litS litF colsF
  simp -dsimp only [aqT, ROp, OX, ↓seqK, ↓blkK, ↓loopK, step, stepBin, res, stepIdx, mix, PV.cells, argSlots, Nat.reduceBEq, Nat.reduceBeqDiff, Nat.add_assoc nid, Nat.reduceAdd, reduceCtorEq, ↓reduceIte, Nat.reduceLeDiff, colPV, freeOf, indep, offO, neqO, disj, namesX, axSlot, opXs, rdXs, idsOf, idsOfs, lowH, lowAll, keys, Nat.reduceBneDiff, Option.toList, ← Int.ofNat_tmod, ← Int.ofNat_tdiv, optInt, fillP, repl, chunk, mkCols, mkCol, colInts, colBools, colStrs, colLits, colsApp, Col.app, tailOf, splice, colsPut, Col.put, mmFold, eqK, Nat.reduceLT, colsPaste, Col.paste, mNew, mkKey, keyIn, mGet, mPut, Int.cast_ofNat_Int, Int.reduceBEq, Int.reduceBNe, Int.reduceLT, Int.reduceLE, Int.reduceAdd, Int.reduceSub, Int.reduceMul, Int.reduceToNat, Int.reduceNeg, Int.reduceTMod, Int.reduceEq, not_false_eq_true, Int.reducePow, Int.reduceFDiv, Nat.reducePow, Nat.reduceSub, Nat.reduceMul, Nat.min_eq_left, Nat.reduceEqDiff, BEq.rfl, Int.tdiv_one, LN_succ]
  refine S2.dec (fun h3 => ?_) (fun h3 => ?_) <;> simp -dsimp only [aqT, ROp, OX, ↓seqK, ↓blkK, ↓loopK, step, stepBin, res, stepIdx, mix, PV.cells, argSlots, Nat.reduceBEq, Nat.reduceBeqDiff, Nat.add_assoc nid, Nat.reduceAdd, reduceCtorEq, ↓reduceIte, Nat.reduceLeDiff, colPV, freeOf, indep, offO, neqO, disj, namesX, axSlot, opXs, rdXs, idsOf, idsOfs, lowH, lowAll, keys, Nat.reduceBneDiff, Option.toList, ← Int.ofNat_tmod, ← Int.ofNat_tdiv, optInt, fillP, repl, chunk, mkCols, mkCol, colInts, colBools, colStrs, colLits, colsApp, Col.app, tailOf, splice, colsPut, Col.put, mmFold, eqK, Nat.reduceLT, colsPaste, Col.paste, mNew, mkKey, keyIn, mGet, mPut, Int.cast_ofNat_Int, Int.reduceBEq, Int.reduceBNe, Int.reduceLT, Int.reduceLE, Int.reduceAdd, Int.reduceSub, Int.reduceMul, Int.reduceToNat, Int.reduceNeg, Int.reduceTMod, Int.reduceEq, not_false_eq_true, Int.reducePow, Int.reduceFDiv, Nat.reducePow, Nat.reduceSub, Nat.reduceMul, Nat.min_eq_left, Nat.reduceEqDiff, BEq.rfl, Int.tdiv_one, LN_succ]
  · have hxt : x < fs.length := by omega
    have htk := htk hxt
    have htl2 : (K.take (x + 1)).length = x + 1 := by rw [List.length_take]; omega
    generalize K.take x = T at *
    have hdx := fun (nl2 : Bool) (hn : nl2 = true → R = []) k => hdet nl2 hn (fs.getD x f0) (getD_all (P := fun f => f ∈ fs) (fun f h => h) hxt) k
    unfold litU fltP netsP at hdx
    refine ⟨by omega, by omega, ?_⟩
    rw [hlong]
    refine CallX.lent [nid + 8] (fun nl' => by
      simp only [lends, lend, aqT, ROp, OX, ↓seqK, ↓blkK, ↓loopK, step, stepBin, res, stepIdx, mix, PV.cells, argSlots, Nat.reduceBEq, Nat.reduceBeqDiff, Nat.add_assoc nid, Nat.reduceAdd, reduceCtorEq, ↓reduceIte, Nat.reduceLeDiff, colPV, freeOf, indep, offO, neqO, disj, namesX, axSlot, opXs, rdXs, idsOf, idsOfs, lowH, lowAll, keys, Nat.reduceBneDiff, Option.toList, ← Int.ofNat_tmod, ← Int.ofNat_tdiv, optInt, fillP, repl, chunk, mkCols, mkCol, colInts, colBools, colStrs, colLits, colsApp, Col.app, tailOf, splice, colsPut, Col.put, mmFold, eqK, Nat.reduceLT, colsPaste, Col.paste, mNew, mkKey, keyIn, mGet, mPut, Int.cast_ofNat_Int, Int.reduceBEq, Int.reduceBNe, Int.reduceLT, Int.reduceLE, Int.reduceAdd, Int.reduceSub, Int.reduceMul, Int.reduceToNat, Int.reduceNeg, Int.reduceTMod, Int.reduceEq, not_false_eq_true, Int.reducePow, Int.reduceFDiv, Nat.reducePow, Nat.reduceSub, Nat.reduceMul, Nat.min_eq_left, Nat.reduceEqDiff, BEq.rfl, Int.tdiv_one, LN_succ]
      exact ACall.nonnil 0 rfl (fun hn => hdx (nl' _) (fun e => List.eq_nil_of_length_eq_zero (hn e)) _)) rfl rfl (by simp only [List.mem_singleton, forall_eq, aqT, ROp, OX, ↓seqK, ↓blkK, ↓loopK, step, stepBin, res, stepIdx, mix, PV.cells, argSlots, Nat.reduceBEq, Nat.reduceBeqDiff, Nat.add_assoc nid, Nat.reduceAdd, reduceCtorEq, ↓reduceIte, Nat.reduceLeDiff, colPV, freeOf, indep, offO, neqO, disj, namesX, axSlot, opXs, rdXs, idsOf, idsOfs, lowH, lowAll, keys, Nat.reduceBneDiff, Option.toList, ← Int.ofNat_tmod, ← Int.ofNat_tdiv, optInt, fillP, repl, chunk, mkCols, mkCol, colInts, colBools, colStrs, colLits, colsApp, Col.app, tailOf, splice, colsPut, Col.put, mmFold, eqK, Nat.reduceLT, colsPaste, Col.paste, mNew, mkKey, keyIn, mGet, mPut, Int.cast_ofNat_Int, Int.reduceBEq, Int.reduceBNe, Int.reduceLT, Int.reduceLE, Int.reduceAdd, Int.reduceSub, Int.reduceMul, Int.reduceToNat, Int.reduceNeg, Int.reduceTMod, Int.reduceEq, not_false_eq_true, Int.reducePow, Int.reduceFDiv, Nat.reducePow, Nat.reduceSub, Nat.reduceMul, Nat.min_eq_left, Nat.reduceEqDiff, BEq.rfl, Int.tdiv_one, LN_succ]) ?_
    simp -dsimp only [aqT, ROp, OX, ↓seqK, ↓blkK, ↓loopK, step, stepBin, res, stepIdx, mix, PV.cells, argSlots, Nat.reduceBEq, Nat.reduceBeqDiff, Nat.add_assoc nid, Nat.reduceAdd, reduceCtorEq, ↓reduceIte, Nat.reduceLeDiff, colPV, freeOf, indep, offO, neqO, disj, namesX, axSlot, opXs, rdXs, idsOf, idsOfs, lowH, lowAll, keys, Nat.reduceBneDiff, Option.toList, ← Int.ofNat_tmod, ← Int.ofNat_tdiv, optInt, fillP, repl, chunk, mkCols, mkCol, colInts, colBools, colStrs, colLits, colsApp, Col.app, tailOf, splice, colsPut, Col.put, mmFold, eqK, Nat.reduceLT, colsPaste, Col.paste, mNew, mkKey, keyIn, mGet, mPut, Int.cast_ofNat_Int, Int.reduceBEq, Int.reduceBNe, Int.reduceLT, Int.reduceLE, Int.reduceAdd, Int.reduceSub, Int.reduceMul, Int.reduceToNat, Int.reduceNeg, Int.reduceTMod, Int.reduceEq, not_false_eq_true, Int.reducePow, Int.reduceFDiv, Nat.reducePow, Nat.reduceSub, Nat.reduceMul, Nat.min_eq_left, Nat.reduceEqDiff, BEq.rfl, Int.tdiv_one, LN_succ]
    rw [getD_appN T _ rfl .u64, ← htk]
    refine ⟨by omega, by unfold inI64; omega, x + 1, ⟨by omega, by omega⟩, Cov.go [(nid + 12, nid + 256)] [] ?_⟩
    simp [retPV, over, keys, List.map_nil, List.map_cons, List.contains_cons, List.contains_nil, Bool.or_false, Bool.or_true, Bool.true_or, Bool.false_or, beq_self_eq_true, cond_true, cond_false, HeapCov, orNil, nilSz, onBlk, srcOf, getH_hit, getH_miss, getH.eq_1, getS_hit, getS_miss, getS.eq_1, BlkCov, PVCovs, PVCov, ColsEq, ColEq.refl, liveIds, SlotsCov, List.all_nil, List.all_cons, List.any_nil, List.any_cons, List.nil_append, List.cons_append, inRange, apart, nilBlk, idS1, idS2, readAll, readRes, onAll, step, res, AX.val, List.drop_zero, List.drop_succ_cons, List.take_succ_cons, List.take_zero, arrU, litS, litF, colsF, hxl, htl2, hml, -List.getD_eq_getElem?_getD]
  · have hxn : x = fs.length := by omega
    subst hxn
    have hT : K.take fs.length = K := List.take_of_length_le (by omega)
    rw [hT]
    refine RetOK.go [(nid, nid + 12)] [] (.inl rfl) ?_
    simp [a105, retPV, over, keys, List.map_nil, List.map_cons, List.contains_cons, List.contains_nil, Bool.or_false, Bool.or_true, Bool.true_or, Bool.false_or, beq_self_eq_true, cond_true, cond_false, HeapCov, orNil, nilSz, onBlk, srcOf, getH_hit, getH_miss, getH.eq_1, getS_hit, getS_miss, getS.eq_1, BlkCov, PVCovs, PVCov, ColsEq, ColEq.refl, liveIds, SlotsCov, List.all_nil, List.all_cons, List.any_nil, List.any_cons, List.nil_append, List.cons_append, inRange, apart, nilBlk, idS1, idS2, readAll, readRes, onAll, step, res, AX.val, List.drop_zero, List.drop_succ_cons, List.take_succ_cons, List.take_zero, arrU, hkl, -List.getD_eq_getElem?_getD]
end Go.Proofs.YthcldfmlfjomfaaDoor
namespace Go.Proofs.YthcldfmlfjomfaaDoor
open Go.RowKit
def arrBo (l : List Bool) : Option ABlk := some (.arr 4 l.length [.b fun i => l.getD i false])
def litBo (nl : Bool) (l : List Bool) : PV := .lit nl l.length [.b fun i => l.getD i false]
def domS (l : List Nat) (q : MK) : Bool := l.any fun x => decide (q = MK.i (x : Nat))
theorem domS_snoc (l : List Nat) (a : Nat) : (fun p => if p = MK.i (a : Nat) then true else domS l p) = domS (l ++ [a]) := by
  funext q
  unfold domS
  rw [List.any_append]
  by_cases h : q = MK.i (a : Nat) <;> simp [h]
theorem domS_nil : (fun _ : MK => false) = domS [] := by funext q; rfl
theorem domS_card (l : List Nat) : cardD (.i .u64) (domS l) = (uniq l).length := by
  rw [cardD_of (L := (uniq l).map fun x => MK.i (x : Nat)), List.length_map]
  refine ⟨?_, fun q => ?_⟩
  · rw [List.nodup_iff_pairwise_ne, List.pairwise_map]
    have h := uniq_nodup l
    rw [List.nodup_iff_pairwise_ne] at h
    refine h.imp fun hne e => hne ?_
    injection e with e
    omega
  · unfold domS
    rw [List.mem_map, List.any_eq_true]
    constructor
    · rintro ⟨x, hx, rfl⟩
      exact ⟨rfl, x, uniq_mem.1 hx, by simp⟩
    · rintro ⟨_, x, hx, he⟩
      exact ⟨x, uniq_mem.2 hx, (of_decide_eq_true he).symm⟩
def mapU (l : List Nat) : Option ABlk := some (.map (.i .u64) (domS l) (.b (domS l)))
theorem getD_appBo (l : List Bool) (x : Bool) {n : Nat} (hn : l.length = n) : (fun i => if i < n then l.getD i false else [x].getD (i - n) false) = fun i => (l ++ [x]).getD i false := by
  subst hn
  funext i
  simp only [List.getD_eq_getElem?_getD, List.getElem?_append]
  split <;> rfl
set_option maxHeartbeats 4000000 in
theorem seen_c (nl : Bool) (s : List Nat) (mask nid : Nat) (hs : Small s) (hl : s.length ≤ 1000) (hm : mask < two64) :
    ACall Tryd.prog 75 [litU nl s, .int .u64 (mask : Nat)] [] nid (.tup [.int .i64 (manyV s mask : Nat), .sl nid 0 s.length]) [(nid, arrBo (flagsV s mask))] := by
  have hfl : (flagsV s mask).length = s.length := by simp [flagsV]
  have hcard : cardD (.i .u64) (domS ((s.map (· &&& mask)).take s.length)) = manyV s mask := by rw [domS_card, List.take_of_length_le (by simp)]; rfl
  have hft : (flagsV s mask).take s.length = flagsV s mask := List.take_of_length_le (by omega)
  have hf1 := fun k h => mapTakeL (flagV mask) (l := s) (k := k) (d := 0) h
  have hd1 := fun k h => mapTakeL (· &&& mask) (l := s) (k := k) (d := 0) h
  change ∀ k, k < s.length → (flagsV s mask).take (k + 1) = (flagsV s mask).take k ++ [flagV mask (s.getD k 0)] at hf1
  generalize manyV s mask = many at *
  generalize flagsV s mask = F at *
  generalize s.map (· &&& mask) = D at *
  refine acall_run c75 (by simp [a75]) ?_
  unfold litU
  simp -dsimp only [aqT, ROp, OX, ↓seqK, ↓blkK, ↓loopK, step, stepBin, res, stepIdx, mix, PV.cells, argSlots, Nat.reduceBEq, Nat.reduceBeqDiff, Nat.add_assoc nid, Nat.reduceAdd, reduceCtorEq, ↓reduceIte, Nat.reduceLeDiff, colPV, freeOf, indep, offO, neqO, disj, namesX, axSlot, opXs, rdXs, idsOf, idsOfs, lowH, lowAll, keys, Nat.reduceBneDiff, Option.toList, ← Int.ofNat_tmod, ← Int.ofNat_tdiv, optInt, fillP, repl, chunk, mkCols, mkCol, colInts, colBools, colStrs, colLits, colsApp, Col.app, tailOf, splice, colsPut, Col.put, mmFold, eqK, Nat.reduceLT, colsPaste, Col.paste, mNew, mkKey, keyIn, mGet, mPut, Int.cast_ofNat_Int, Int.reduceBEq, Int.reduceBNe, Int.reduceLT, Int.reduceLE, Int.reduceAdd, Int.reduceSub, Int.reduceMul, Int.reduceToNat, Int.reduceNeg, Int.reduceTMod, Int.reduceEq, not_false_eq_true, Int.reducePow, Int.reduceFDiv, Nat.reducePow, Nat.reduceSub, Nat.reduceMul, Nat.min_eq_left, Nat.reduceEqDiff, BEq.rfl, Int.tdiv_one, LN_succ, a75]
  refine LP.mkP (fun k : Nat => k ≤ s.length) (fun k : Nat => ⟨[(12, .int .i64 k), (11, .int .i64 s.length), (10, litU nl s), (5, .sl (nid + 8) 0 (F.take k).length), (6, .mp (nid + 12)), (1, .int .u64 (mask : Nat))], [(nid + 8, arrBo (F.take k)), (nid + 12, mapU (D.take k))], nid + 200, nid⟩) (fun k => s.length + 1 - k) 0 (by omega) (Cov.go [(nid + 12, nid + 8)] [(nid + 8, 1)] ?_) (fun k hk => ?_)
  · simp [retPV, over, keys, List.map_nil, List.map_cons, List.contains_cons, List.contains_nil, Bool.or_false, Bool.or_true, Bool.true_or, Bool.false_or, beq_self_eq_true, cond_true, cond_false, HeapCov, orNil, nilSz, onBlk, srcOf, getH_hit, getH_miss, getH.eq_1, getS_hit, getS_miss, getS.eq_1, BlkCov, PVCovs, PVCov, ColsEq, ColEq.refl, liveIds, SlotsCov, List.all_nil, List.all_cons, List.any_nil, List.any_cons, List.nil_append, List.cons_append, inRange, apart, nilBlk, idS1, idS2, readAll, readRes, onAll, step, res, AX.val, List.drop_zero, List.drop_succ_cons, List.take_succ_cons, List.take_zero, arrBo, mapU, litU, ← domS_nil, -List.getD_eq_getElem?_getD]
  have hkl : (F.take k).length = k := by rw [List.length_take]; omega
  have hkl1 : k < s.length → (F.take (k + 1)).length = k + 1 := fun h => by rw [List.length_take]; omega
  have hf1 := hf1 k
  have hd1 := hd1 k
  unfold litU arrBo mapU
  simp -dsimp only [aqT, ROp, OX, ↓seqK, ↓blkK, ↓loopK, step, stepBin, res, stepIdx, mix, PV.cells, argSlots, Nat.reduceBEq, Nat.reduceBeqDiff, Nat.add_assoc nid, Nat.reduceAdd, reduceCtorEq, ↓reduceIte, Nat.reduceLeDiff, colPV, freeOf, indep, offO, neqO, disj, namesX, axSlot, opXs, rdXs, idsOf, idsOfs, lowH, lowAll, keys, Nat.reduceBneDiff, Option.toList, ← Int.ofNat_tmod, ← Int.ofNat_tdiv, optInt, fillP, repl, chunk, mkCols, mkCol, colInts, colBools, colStrs, colLits, colsApp, Col.app, tailOf, splice, colsPut, Col.put, mmFold, eqK, Nat.reduceLT, colsPaste, Col.paste, mNew, mkKey, keyIn, mGet, mPut, Int.cast_ofNat_Int, Int.reduceBEq, Int.reduceBNe, Int.reduceLT, Int.reduceLE, Int.reduceAdd, Int.reduceSub, Int.reduceMul, Int.reduceToNat, Int.reduceNeg, Int.reduceTMod, Int.reduceEq, not_false_eq_true, Int.reducePow, Int.reduceFDiv, Nat.reducePow, Nat.reduceSub, Nat.reduceMul, Nat.min_eq_left, Nat.reduceEqDiff, BEq.rfl, Int.tdiv_one, LN_succ]
  refine S2.dec (fun h3 => ?_) (fun h3 => ?_) <;> simp -dsimp only [aqT, ROp, OX, ↓seqK, ↓blkK, ↓loopK, step, stepBin, res, stepIdx, mix, PV.cells, argSlots, Nat.reduceBEq, Nat.reduceBeqDiff, Nat.add_assoc nid, Nat.reduceAdd, reduceCtorEq, ↓reduceIte, Nat.reduceLeDiff, colPV, freeOf, indep, offO, neqO, disj, namesX, axSlot, opXs, rdXs, idsOf, idsOfs, lowH, lowAll, keys, Nat.reduceBneDiff, Option.toList, ← Int.ofNat_tmod, ← Int.ofNat_tdiv, optInt, fillP, repl, chunk, mkCols, mkCol, colInts, colBools, colStrs, colLits, colsApp, Col.app, tailOf, splice, colsPut, Col.put, mmFold, eqK, Nat.reduceLT, colsPaste, Col.paste, mNew, mkKey, keyIn, mGet, mPut, Int.cast_ofNat_Int, Int.reduceBEq, Int.reduceBNe, Int.reduceLT, Int.reduceLE, Int.reduceAdd, Int.reduceSub, Int.reduceMul, Int.reduceToNat, Int.reduceNeg, Int.reduceTMod, Int.reduceEq, not_false_eq_true, Int.reducePow, Int.reduceFDiv, Nat.reducePow, Nat.reduceSub, Nat.reduceMul, Nat.min_eq_left, Nat.reduceEqDiff, BEq.rfl, Int.tdiv_one, LN_succ]
  · have hks : k < s.length := by omega
    have hf1 := hf1 hks
    have hd1 := hd1 hks
    have hx := hs.at k
    have hkl1 := hkl1 hks
    obtain ⟨ha, hb⟩ := and_u hx hm
    have hfv : flagV mask (s.getD k 0) = (decide (s.getD k 0 &&& mask ≠ 0) && decide (s.getD k 0 &&& mask ≠ mask)) := rfl
    generalize s.getD k 0 = x at *
    rw [ha]
    refine ⟨by omega, ?_⟩
    rw [domS_snoc, ← hd1]
    by_cases hz : x &&& mask = 0
    · have hff : flagV mask x = false := by rw [hfv]; simp [hz]
      rw [hff] at hf1
      rw [hz]
      refine S2.no (by simp) ?_
      simp -dsimp only [aqT, ROp, OX, ↓seqK, ↓blkK, ↓loopK, step, stepBin, res, stepIdx, mix, PV.cells, argSlots, Nat.reduceBEq, Nat.reduceBeqDiff, Nat.add_assoc nid, Nat.reduceAdd, reduceCtorEq, ↓reduceIte, Nat.reduceLeDiff, colPV, freeOf, indep, offO, neqO, disj, namesX, axSlot, opXs, rdXs, idsOf, idsOfs, lowH, lowAll, keys, Nat.reduceBneDiff, Option.toList, ← Int.ofNat_tmod, ← Int.ofNat_tdiv, optInt, fillP, repl, chunk, mkCols, mkCol, colInts, colBools, colStrs, colLits, colsApp, Col.app, tailOf, splice, colsPut, Col.put, mmFold, eqK, Nat.reduceLT, colsPaste, Col.paste, mNew, mkKey, keyIn, mGet, mPut, Int.cast_ofNat_Int, Int.reduceBEq, Int.reduceBNe, Int.reduceLT, Int.reduceLE, Int.reduceAdd, Int.reduceSub, Int.reduceMul, Int.reduceToNat, Int.reduceNeg, Int.reduceTMod, Int.reduceEq, not_false_eq_true, Int.reducePow, Int.reduceFDiv, Nat.reducePow, Nat.reduceSub, Nat.reduceMul, Nat.min_eq_left, Nat.reduceEqDiff, BEq.rfl, Int.tdiv_one, LN_succ]
      rw [getD_appBo (F.take k) false rfl, ← hf1]
      refine ⟨⟨by omega, by omega⟩, by unfold inI64; omega, k + 1, ⟨by omega, by omega⟩, Cov.go [(nid + 8, nid + 288)] [] ?_⟩
      simp [retPV, over, keys, List.map_nil, List.map_cons, List.contains_cons, List.contains_nil, Bool.or_false, Bool.or_true, Bool.true_or, Bool.false_or, beq_self_eq_true, cond_true, cond_false, HeapCov, orNil, nilSz, onBlk, srcOf, getH_hit, getH_miss, getH.eq_1, getS_hit, getS_miss, getS.eq_1, BlkCov, PVCovs, PVCov, ColsEq, ColEq.refl, liveIds, SlotsCov, List.all_nil, List.all_cons, List.any_nil, List.any_cons, List.nil_append, List.cons_append, inRange, apart, nilBlk, idS1, idS2, readAll, readRes, onAll, step, res, AX.val, List.drop_zero, List.drop_succ_cons, List.take_succ_cons, List.take_zero, arrBo, mapU, litU, hkl1, hkl, -List.getD_eq_getElem?_getD]
    · have hff : ((((x &&& mask : Nat) : Int)) != ((mask : Nat) : Int)) = flagV mask x := by
        rw [hfv, Bool.eq_iff_iff]
        simp only [bne_iff_ne, ne_eq, Bool.and_eq_true, decide_eq_true_eq]
        exact ⟨fun h => ⟨hz, fun e => h (by rw [e])⟩, fun h e => h.2 (by omega)⟩
      refine S2.yes (by simpa using hz) ?_
      simp -dsimp only [aqT, ROp, OX, ↓seqK, ↓blkK, ↓loopK, step, stepBin, res, stepIdx, mix, PV.cells, argSlots, Nat.reduceBEq, Nat.reduceBeqDiff, Nat.add_assoc nid, Nat.reduceAdd, reduceCtorEq, ↓reduceIte, Nat.reduceLeDiff, colPV, freeOf, indep, offO, neqO, disj, namesX, axSlot, opXs, rdXs, idsOf, idsOfs, lowH, lowAll, keys, Nat.reduceBneDiff, Option.toList, ← Int.ofNat_tmod, ← Int.ofNat_tdiv, optInt, fillP, repl, chunk, mkCols, mkCol, colInts, colBools, colStrs, colLits, colsApp, Col.app, tailOf, splice, colsPut, Col.put, mmFold, eqK, Nat.reduceLT, colsPaste, Col.paste, mNew, mkKey, keyIn, mGet, mPut, Int.cast_ofNat_Int, Int.reduceBEq, Int.reduceBNe, Int.reduceLT, Int.reduceLE, Int.reduceAdd, Int.reduceSub, Int.reduceMul, Int.reduceToNat, Int.reduceNeg, Int.reduceTMod, Int.reduceEq, not_false_eq_true, Int.reducePow, Int.reduceFDiv, Nat.reducePow, Nat.reduceSub, Nat.reduceMul, Nat.min_eq_left, Nat.reduceEqDiff, BEq.rfl, Int.tdiv_one, LN_succ]
      rw [ha, hff]
      rw [getD_appBo (F.take k) (flagV mask x) rfl, ← hf1]
      refine ⟨⟨by omega, by omega⟩, by unfold inI64; omega, k + 1, ⟨by omega, by omega⟩, Cov.go [(nid + 8, nid + 288)] [] ?_⟩
      simp [retPV, over, keys, List.map_nil, List.map_cons, List.contains_cons, List.contains_nil, Bool.or_false, Bool.or_true, Bool.true_or, Bool.false_or, beq_self_eq_true, cond_true, cond_false, HeapCov, orNil, nilSz, onBlk, srcOf, getH_hit, getH_miss, getH.eq_1, getS_hit, getS_miss, getS.eq_1, BlkCov, PVCovs, PVCov, ColsEq, ColEq.refl, liveIds, SlotsCov, List.all_nil, List.all_cons, List.any_nil, List.any_cons, List.nil_append, List.cons_append, inRange, apart, nilBlk, idS1, idS2, readAll, readRes, onAll, step, res, AX.val, List.drop_zero, List.drop_succ_cons, List.take_succ_cons, List.take_zero, arrBo, mapU, litU, hkl1, hkl, -List.getD_eq_getElem?_getD]
  · have hke : k = s.length := by omega
    subst hke
    rw [hcard, hft]
    refine RetOK.go [(nid, nid + 8)] [] (.inl rfl) ?_
    simp [a75, retPV, over, keys, List.map_nil, List.map_cons, List.contains_cons, List.contains_nil, Bool.or_false, Bool.or_true, Bool.true_or, Bool.false_or, beq_self_eq_true, cond_true, cond_false, HeapCov, orNil, nilSz, onBlk, srcOf, getH_hit, getH_miss, getH.eq_1, getS_hit, getS_miss, getS.eq_1, BlkCov, PVCovs, PVCov, ColsEq, ColEq.refl, liveIds, SlotsCov, List.all_nil, List.all_cons, List.any_nil, List.any_cons, List.nil_append, List.cons_append, inRange, apart, nilBlk, idS1, idS2, readAll, readRes, onAll, step, res, AX.val, List.drop_zero, List.drop_succ_cons, List.take_succ_cons, List.take_zero, arrBo, hfl, -List.getD_eq_getElem?_getD]
end Go.Proofs.YthcldfmlfjomfaaDoor
namespace Go.Proofs.YthcldfmlfjomfaaDoor
open Go.RowKit
end Go.Proofs.YthcldfmlfjomfaaDoor
namespace Go.Proofs.YthcldfmlfjomfaaDoor
open Go.RowKit
def cmpS (n k : Nat) : List (List UInt8) := (List.range n).map fun i => numV i k ++ invV (numV i k)
end Go.Proofs.YthcldfmlfjomfaaDoor
namespace Go.Proofs.YthcldfmlfjomfaaDoor
open Go.RowKit
end Go.Proofs.YthcldfmlfjomfaaDoor
namespace Go.Proofs.YthcldfmlfjomfaaDoor
open Go.RowKit
def pop (n : Nat) : Nat := ((List.range 13).filter fun j => n.testBit j).length
def andU (a b : Int) : Int := IntKind.u64.wrap ((BitVec.ofInt IntKind.u64.bits a &&& BitVec.ofInt IntKind.u64.bits b).toNat : Int)
def o1 (x : Int) : Int := IntKind.u64.wrap (andU (x.fdiv (2 ^ min 1 IntKind.u64.bits)) 6148914691236517205 + andU x 6148914691236517205)
def o2 (x : Int) : Int := IntKind.u64.wrap (andU (x.fdiv (2 ^ min 2 IntKind.u64.bits)) 3689348814741910323 + andU x 3689348814741910323)
def o4 (x : Int) : Int := andU (IntKind.u64.wrap (x.fdiv (2 ^ min 4 IntKind.u64.bits) + x)) 1085102592571150095
def o8 (x : Int) : Int := IntKind.u64.wrap (x + x.fdiv (2 ^ min 8 IntKind.u64.bits))
def o16 (x : Int) : Int := IntKind.u64.wrap (x + x.fdiv (2 ^ min 16 IntKind.u64.bits))
def o32 (x : Int) : Int := IntKind.u64.wrap (x + x.fdiv (2 ^ min 32 IntKind.u64.bits))
def oF (x : Int) : Int := IntKind.i64.wrap ((BitVec.ofInt IntKind.i64.bits (IntKind.i64.wrap x) &&& BitVec.ofInt IntKind.i64.bits 127).toNat : Int)
def onesI (n : Nat) : Int := oF (o32 (o16 (o8 (o4 (o2 (o1 (n : Nat)))))))
theorem ones_all : ((List.range 1024).all fun n => decide (onesI n = (pop n : Nat))) = true := by kernel_rfl
theorem ones_eq {n : Nat} (hn : n < 1024) : onesI n = (pop n : Nat) := of_decide_eq_true (List.all_eq_true.1 ones_all n (List.mem_range.2 hn))
set_option maxHeartbeats 4000000 in
theorem ones64_c (n : Nat) (nid : Nat) (hn : n < 1024) : ACall Tryd.prog 131 [.int .u64 (n : Nat)] [] nid (.int .i64 (pop n : Nat)) [] := by
  have e := ones_eq hn
  refine acall_run c131 (by simp [a131]) ?_
  simp -dsimp only [aqT, ROp, OX, ↓seqK, ↓blkK, ↓loopK, step, stepBin, res, stepIdx, mix, PV.cells, argSlots, Nat.reduceBEq, Nat.reduceBeqDiff, Nat.add_assoc nid, Nat.reduceAdd, reduceCtorEq, ↓reduceIte, Nat.reduceLeDiff, colPV, freeOf, indep, offO, neqO, disj, namesX, axSlot, opXs, rdXs, idsOf, idsOfs, lowH, lowAll, keys, Nat.reduceBneDiff, Option.toList, ← Int.ofNat_tmod, ← Int.ofNat_tdiv, optInt, fillP, repl, chunk, mkCols, mkCol, colInts, colBools, colStrs, colLits, colsApp, Col.app, tailOf, splice, colsPut, Col.put, mmFold, eqK, Nat.reduceLT, colsPaste, Col.paste, mNew, mkKey, keyIn, mGet, mPut, Int.cast_ofNat_Int, Int.reduceBEq, Int.reduceBNe, Int.reduceLT, Int.reduceLE, Int.reduceAdd, Int.reduceSub, Int.reduceMul, Int.reduceToNat, Int.reduceNeg, Int.reduceTMod, Int.reduceEq, not_false_eq_true, Int.reducePow, Int.reduceFDiv, Nat.reducePow, Nat.reduceSub, Nat.reduceMul, Nat.min_eq_left, Nat.reduceEqDiff, BEq.rfl, Int.tdiv_one, LN_succ, a131]
  simp only [onesI, oF, o32, o16, o8, o4, o2, o1, andU] at e
  rw [e]
  refine RetOK.pure (.inl rfl) rfl ?_
  simp [retPV, over, keys, List.map_nil, List.map_cons, List.contains_cons, List.contains_nil, Bool.or_false, Bool.or_true, Bool.true_or, Bool.false_or, beq_self_eq_true, cond_true, cond_false, HeapCov, orNil, nilSz, onBlk, srcOf, getH_hit, getH_miss, getH.eq_1, getS_hit, getS_miss, getS.eq_1, BlkCov, PVCovs, PVCov, ColsEq, ColEq.refl, liveIds, SlotsCov, List.all_nil, List.all_cons, List.any_nil, List.any_cons, List.nil_append, List.cons_append, inRange, apart, nilBlk, idS1, idS2, readAll, readRes, onAll, step, res, AX.val, List.drop_zero, List.drop_succ_cons, List.take_succ_cons, List.take_zero]
theorem ones_c (n : Nat) (nid : Nat) (hn : n < 1024) : ACall Tryd.prog 76 [.int .u64 (n : Nat)] [] nid (.int .i64 (pop n : Nat)) [] := by
  refine acall_run c76 (by simp [a76]) ?_
  simp -dsimp only [aqT, ROp, OX, ↓seqK, ↓blkK, ↓loopK, step, stepBin, res, stepIdx, mix, PV.cells, argSlots, Nat.reduceBEq, Nat.reduceBeqDiff, Nat.add_assoc nid, Nat.reduceAdd, reduceCtorEq, ↓reduceIte, Nat.reduceLeDiff, colPV, freeOf, indep, offO, neqO, disj, namesX, axSlot, opXs, rdXs, idsOf, idsOfs, lowH, lowAll, keys, Nat.reduceBneDiff, Option.toList, ← Int.ofNat_tmod, ← Int.ofNat_tdiv, optInt, fillP, repl, chunk, mkCols, mkCol, colInts, colBools, colStrs, colLits, colsApp, Col.app, tailOf, splice, colsPut, Col.put, mmFold, eqK, Nat.reduceLT, colsPaste, Col.paste, mNew, mkKey, keyIn, mGet, mPut, Int.cast_ofNat_Int, Int.reduceBEq, Int.reduceBNe, Int.reduceLT, Int.reduceLE, Int.reduceAdd, Int.reduceSub, Int.reduceMul, Int.reduceToNat, Int.reduceNeg, Int.reduceTMod, Int.reduceEq, not_false_eq_true, Int.reducePow, Int.reduceFDiv, Nat.reducePow, Nat.reduceSub, Nat.reduceMul, Nat.min_eq_left, Nat.reduceEqDiff, BEq.rfl, Int.tdiv_one, LN_succ, a76]
  refine CallO.pure (ones64_c n _ hn) ?_
  simp -dsimp only [aqT, ROp, OX, ↓seqK, ↓blkK, ↓loopK, step, stepBin, res, stepIdx, mix, PV.cells, argSlots, Nat.reduceBEq, Nat.reduceBeqDiff, Nat.add_assoc nid, Nat.reduceAdd, reduceCtorEq, ↓reduceIte, Nat.reduceLeDiff, colPV, freeOf, indep, offO, neqO, disj, namesX, axSlot, opXs, rdXs, idsOf, idsOfs, lowH, lowAll, keys, Nat.reduceBneDiff, Option.toList, ← Int.ofNat_tmod, ← Int.ofNat_tdiv, optInt, fillP, repl, chunk, mkCols, mkCol, colInts, colBools, colStrs, colLits, colsApp, Col.app, tailOf, splice, colsPut, Col.put, mmFold, eqK, Nat.reduceLT, colsPaste, Col.paste, mNew, mkKey, keyIn, mGet, mPut, Int.cast_ofNat_Int, Int.reduceBEq, Int.reduceBNe, Int.reduceLT, Int.reduceLE, Int.reduceAdd, Int.reduceSub, Int.reduceMul, Int.reduceToNat, Int.reduceNeg, Int.reduceTMod, Int.reduceEq, not_false_eq_true, Int.reducePow, Int.reduceFDiv, Nat.reducePow, Nat.reduceSub, Nat.reduceMul, Nat.min_eq_left, Nat.reduceEqDiff, BEq.rfl, Int.tdiv_one, LN_succ]
  refine RetOK.pure (.inl rfl) rfl ?_
  simp [retPV, over, keys, List.map_nil, List.map_cons, List.contains_cons, List.contains_nil, Bool.or_false, Bool.or_true, Bool.true_or, Bool.false_or, beq_self_eq_true, cond_true, cond_false, HeapCov, orNil, nilSz, onBlk, srcOf, getH_hit, getH_miss, getH.eq_1, getS_hit, getS_miss, getS.eq_1, BlkCov, PVCovs, PVCov, ColsEq, ColEq.refl, liveIds, SlotsCov, List.all_nil, List.all_cons, List.any_nil, List.any_cons, List.nil_append, List.cons_append, inRange, apart, nilBlk, idS1, idS2, readAll, readRes, onAll, step, res, AX.val, List.drop_zero, List.drop_succ_cons, List.take_succ_cons, List.take_zero]
end Go.Proofs.YthcldfmlfjomfaaDoor
namespace Go.Proofs.YthcldfmlfjomfaaDoor
open Go.RowKit
structure TestOk (t : List (List UInt8)) (long : Nat) : Prop where
  pos : 0 < t.length
  len : t.length ≤ 100
  first : (t.getD 0 []).length = long
  wide : long < 64
  row : ∀ s ∈ t, bitsOk s = true ∧ s.length = long
set_option maxHeartbeats 4000000 in
theorem checkTest_ok (nl : Bool) (t : List (List UInt8)) (long : Nat) (nid : Nat) (h : TestOk t long) : ACall Tryd.prog 142 [litS nl t] [] nid (.int .i64 0) [] := by
  have h0 := h.pos; have h1 := h.len; have h2 := h.wide
  refine acall_run c142 (by simp [a142]) ?_
  unfold litS
  simp -dsimp only [aqT, ROp, OX, ↓seqK, ↓blkK, ↓loopK, step, stepBin, res, stepIdx, mix, PV.cells, argSlots, Nat.reduceBEq, Nat.reduceBeqDiff, Nat.add_assoc nid, Nat.reduceAdd, reduceCtorEq, ↓reduceIte, Nat.reduceLeDiff, colPV, freeOf, indep, offO, neqO, disj, namesX, axSlot, opXs, rdXs, idsOf, idsOfs, lowH, lowAll, keys, Nat.reduceBneDiff, Option.toList, ← Int.ofNat_tmod, ← Int.ofNat_tdiv, optInt, fillP, repl, chunk, mkCols, mkCol, colInts, colBools, colStrs, colLits, colsApp, Col.app, tailOf, splice, colsPut, Col.put, mmFold, eqK, Nat.reduceLT, colsPaste, Col.paste, mNew, mkKey, keyIn, mGet, mPut, Int.cast_ofNat_Int, Int.reduceBEq, Int.reduceBNe, Int.reduceLT, Int.reduceLE, Int.reduceAdd, Int.reduceSub, Int.reduceMul, Int.reduceToNat, Int.reduceNeg, Int.reduceTMod, Int.reduceEq, not_false_eq_true, Int.reducePow, Int.reduceFDiv, Nat.reducePow, Nat.reduceSub, Nat.reduceMul, Nat.min_eq_left, Nat.reduceEqDiff, BEq.rfl, Int.tdiv_one, LN_succ, a142]
  refine S2.no (by rw [beq_eq_false_iff_ne]; omega) ?_
  simp -dsimp only [aqT, ROp, OX, ↓seqK, ↓blkK, ↓loopK, step, stepBin, res, stepIdx, mix, PV.cells, argSlots, Nat.reduceBEq, Nat.reduceBeqDiff, Nat.add_assoc nid, Nat.reduceAdd, reduceCtorEq, ↓reduceIte, Nat.reduceLeDiff, colPV, freeOf, indep, offO, neqO, disj, namesX, axSlot, opXs, rdXs, idsOf, idsOfs, lowH, lowAll, keys, Nat.reduceBneDiff, Option.toList, ← Int.ofNat_tmod, ← Int.ofNat_tdiv, optInt, fillP, repl, chunk, mkCols, mkCol, colInts, colBools, colStrs, colLits, colsApp, Col.app, tailOf, splice, colsPut, Col.put, mmFold, eqK, Nat.reduceLT, colsPaste, Col.paste, mNew, mkKey, keyIn, mGet, mPut, Int.cast_ofNat_Int, Int.reduceBEq, Int.reduceBNe, Int.reduceLT, Int.reduceLE, Int.reduceAdd, Int.reduceSub, Int.reduceMul, Int.reduceToNat, Int.reduceNeg, Int.reduceTMod, Int.reduceEq, not_false_eq_true, Int.reducePow, Int.reduceFDiv, Nat.reducePow, Nat.reduceSub, Nat.reduceMul, Nat.min_eq_left, Nat.reduceEqDiff, BEq.rfl, Int.tdiv_one, LN_succ]
  refine S2.no (by simp; omega) ?_
  simp -dsimp only [aqT, ROp, OX, ↓seqK, ↓blkK, ↓loopK, step, stepBin, res, stepIdx, mix, PV.cells, argSlots, Nat.reduceBEq, Nat.reduceBeqDiff, Nat.add_assoc nid, Nat.reduceAdd, reduceCtorEq, ↓reduceIte, Nat.reduceLeDiff, colPV, freeOf, indep, offO, neqO, disj, namesX, axSlot, opXs, rdXs, idsOf, idsOfs, lowH, lowAll, keys, Nat.reduceBneDiff, Option.toList, ← Int.ofNat_tmod, ← Int.ofNat_tdiv, optInt, fillP, repl, chunk, mkCols, mkCol, colInts, colBools, colStrs, colLits, colsApp, Col.app, tailOf, splice, colsPut, Col.put, mmFold, eqK, Nat.reduceLT, colsPaste, Col.paste, mNew, mkKey, keyIn, mGet, mPut, Int.cast_ofNat_Int, Int.reduceBEq, Int.reduceBNe, Int.reduceLT, Int.reduceLE, Int.reduceAdd, Int.reduceSub, Int.reduceMul, Int.reduceToNat, Int.reduceNeg, Int.reduceTMod, Int.reduceEq, not_false_eq_true, Int.reducePow, Int.reduceFDiv, Nat.reducePow, Nat.reduceSub, Nat.reduceMul, Nat.min_eq_left, Nat.reduceEqDiff, BEq.rfl, Int.tdiv_one, LN_succ]
  refine LP.mkP (fun k : Nat => k ≤ t.length) (fun k : Nat => ⟨[(15, .int .i64 k), (14, .int .i64 t.length), (13, .lit nl t.length [.s fun i => t.getD i []]), (0, .lit nl t.length [.s fun i => t.getD i []])], [], nid + 100, nid⟩) (fun k => t.length + 1 - k) 0 (by omega) (Cov.go [] [] ?_) (fun k hk => ?_)
  · simp [retPV, over, keys, List.map_nil, List.map_cons, List.contains_cons, List.contains_nil, Bool.or_false, Bool.or_true, Bool.true_or, Bool.false_or, beq_self_eq_true, cond_true, cond_false, HeapCov, orNil, nilSz, onBlk, srcOf, getH_hit, getH_miss, getH.eq_1, getS_hit, getS_miss, getS.eq_1, BlkCov, PVCovs, PVCov, ColsEq, ColEq.refl, liveIds, SlotsCov, List.all_nil, List.all_cons, List.any_nil, List.any_cons, List.nil_append, List.cons_append, inRange, apart, nilBlk, idS1, idS2, readAll, readRes, onAll, step, res, AX.val, List.drop_zero, List.drop_succ_cons, List.take_succ_cons, List.take_zero]
  simp -dsimp only [aqT, ROp, OX, ↓seqK, ↓blkK, ↓loopK, step, stepBin, res, stepIdx, mix, PV.cells, argSlots, Nat.reduceBEq, Nat.reduceBeqDiff, Nat.add_assoc nid, Nat.reduceAdd, reduceCtorEq, ↓reduceIte, Nat.reduceLeDiff, colPV, freeOf, indep, offO, neqO, disj, namesX, axSlot, opXs, rdXs, idsOf, idsOfs, lowH, lowAll, keys, Nat.reduceBneDiff, Option.toList, ← Int.ofNat_tmod, ← Int.ofNat_tdiv, optInt, fillP, repl, chunk, mkCols, mkCol, colInts, colBools, colStrs, colLits, colsApp, Col.app, tailOf, splice, colsPut, Col.put, mmFold, eqK, Nat.reduceLT, colsPaste, Col.paste, mNew, mkKey, keyIn, mGet, mPut, Int.cast_ofNat_Int, Int.reduceBEq, Int.reduceBNe, Int.reduceLT, Int.reduceLE, Int.reduceAdd, Int.reduceSub, Int.reduceMul, Int.reduceToNat, Int.reduceNeg, Int.reduceTMod, Int.reduceEq, not_false_eq_true, Int.reducePow, Int.reduceFDiv, Nat.reducePow, Nat.reduceSub, Nat.reduceMul, Nat.min_eq_left, Nat.reduceEqDiff, BEq.rfl, Int.tdiv_one, LN_succ]
  refine S2.dec (fun h3 => ?_) (fun h3 => ?_) <;> simp -dsimp only [aqT, ROp, OX, ↓seqK, ↓blkK, ↓loopK, step, stepBin, res, stepIdx, mix, PV.cells, argSlots, Nat.reduceBEq, Nat.reduceBeqDiff, Nat.add_assoc nid, Nat.reduceAdd, reduceCtorEq, ↓reduceIte, Nat.reduceLeDiff, colPV, freeOf, indep, offO, neqO, disj, namesX, axSlot, opXs, rdXs, idsOf, idsOfs, lowH, lowAll, keys, Nat.reduceBneDiff, Option.toList, ← Int.ofNat_tmod, ← Int.ofNat_tdiv, optInt, fillP, repl, chunk, mkCols, mkCol, colInts, colBools, colStrs, colLits, colsApp, Col.app, tailOf, splice, colsPut, Col.put, mmFold, eqK, Nat.reduceLT, colsPaste, Col.paste, mNew, mkKey, keyIn, mGet, mPut, Int.cast_ofNat_Int, Int.reduceBEq, Int.reduceBNe, Int.reduceLT, Int.reduceLE, Int.reduceAdd, Int.reduceSub, Int.reduceMul, Int.reduceToNat, Int.reduceNeg, Int.reduceTMod, Int.reduceEq, not_false_eq_true, Int.reducePow, Int.reduceFDiv, Nat.reducePow, Nat.reduceSub, Nat.reduceMul, Nat.min_eq_left, Nat.reduceEqDiff, BEq.rfl, Int.tdiv_one, LN_succ]
  · have hkl : k < t.length := by omega
    have hs := getD_all (P := fun s : List UInt8 => bitsOk s = true ∧ s.length = long) (d := []) h.row hkl
    generalize hrr : t.getD k [] = s at *
    refine ⟨by omega, CallO.pure (bits_c s _ (by omega)) ?_⟩
    rw [hs.1]
    simp -dsimp only [aqT, ROp, OX, ↓seqK, ↓blkK, ↓loopK, step, stepBin, res, stepIdx, mix, PV.cells, argSlots, Nat.reduceBEq, Nat.reduceBeqDiff, Nat.add_assoc nid, Nat.reduceAdd, reduceCtorEq, ↓reduceIte, Nat.reduceLeDiff, colPV, freeOf, indep, offO, neqO, disj, namesX, axSlot, opXs, rdXs, idsOf, idsOfs, lowH, lowAll, keys, Nat.reduceBneDiff, Option.toList, ← Int.ofNat_tmod, ← Int.ofNat_tdiv, optInt, fillP, repl, chunk, mkCols, mkCol, colInts, colBools, colStrs, colLits, colsApp, Col.app, tailOf, splice, colsPut, Col.put, mmFold, eqK, Nat.reduceLT, colsPaste, Col.paste, mNew, mkKey, keyIn, mGet, mPut, Int.cast_ofNat_Int, Int.reduceBEq, Int.reduceBNe, Int.reduceLT, Int.reduceLE, Int.reduceAdd, Int.reduceSub, Int.reduceMul, Int.reduceToNat, Int.reduceNeg, Int.reduceTMod, Int.reduceEq, not_false_eq_true, Int.reducePow, Int.reduceFDiv, Nat.reducePow, Nat.reduceSub, Nat.reduceMul, Nat.min_eq_left, Nat.reduceEqDiff, BEq.rfl, Int.tdiv_one, LN_succ, Bool.not_true, Bool.not_false]
    refine S2.no (by simp; omega) ?_
    simp -dsimp only [aqT, ROp, OX, ↓seqK, ↓blkK, ↓loopK, step, stepBin, res, stepIdx, mix, PV.cells, argSlots, Nat.reduceBEq, Nat.reduceBeqDiff, Nat.add_assoc nid, Nat.reduceAdd, reduceCtorEq, ↓reduceIte, Nat.reduceLeDiff, colPV, freeOf, indep, offO, neqO, disj, namesX, axSlot, opXs, rdXs, idsOf, idsOfs, lowH, lowAll, keys, Nat.reduceBneDiff, Option.toList, ← Int.ofNat_tmod, ← Int.ofNat_tdiv, optInt, fillP, repl, chunk, mkCols, mkCol, colInts, colBools, colStrs, colLits, colsApp, Col.app, tailOf, splice, colsPut, Col.put, mmFold, eqK, Nat.reduceLT, colsPaste, Col.paste, mNew, mkKey, keyIn, mGet, mPut, Int.cast_ofNat_Int, Int.reduceBEq, Int.reduceBNe, Int.reduceLT, Int.reduceLE, Int.reduceAdd, Int.reduceSub, Int.reduceMul, Int.reduceToNat, Int.reduceNeg, Int.reduceTMod, Int.reduceEq, not_false_eq_true, Int.reducePow, Int.reduceFDiv, Nat.reducePow, Nat.reduceSub, Nat.reduceMul, Nat.min_eq_left, Nat.reduceEqDiff, BEq.rfl, Int.tdiv_one, LN_succ]
    refine ⟨by omega, ?_⟩
    rw [h.first, hs.2]
    simp -dsimp only [aqT, ROp, OX, ↓seqK, ↓blkK, ↓loopK, step, stepBin, res, stepIdx, mix, PV.cells, argSlots, Nat.reduceBEq, Nat.reduceBeqDiff, Nat.add_assoc nid, Nat.reduceAdd, reduceCtorEq, ↓reduceIte, Nat.reduceLeDiff, colPV, freeOf, indep, offO, neqO, disj, namesX, axSlot, opXs, rdXs, idsOf, idsOfs, lowH, lowAll, keys, Nat.reduceBneDiff, Option.toList, ← Int.ofNat_tmod, ← Int.ofNat_tdiv, optInt, fillP, repl, chunk, mkCols, mkCol, colInts, colBools, colStrs, colLits, colsApp, Col.app, tailOf, splice, colsPut, Col.put, mmFold, eqK, Nat.reduceLT, colsPaste, Col.paste, mNew, mkKey, keyIn, mGet, mPut, Int.cast_ofNat_Int, Int.reduceBEq, Int.reduceBNe, Int.reduceLT, Int.reduceLE, Int.reduceAdd, Int.reduceSub, Int.reduceMul, Int.reduceToNat, Int.reduceNeg, Int.reduceTMod, Int.reduceEq, not_false_eq_true, Int.reducePow, Int.reduceFDiv, Nat.reducePow, Nat.reduceSub, Nat.reduceMul, Nat.min_eq_left, Nat.reduceEqDiff, BEq.rfl, Int.tdiv_one, LN_succ]
    refine ⟨by unfold inI64; omega, k + 1, ⟨by omega, by omega⟩, Cov.go [] [] ?_⟩
    simp [retPV, over, keys, List.map_nil, List.map_cons, List.contains_cons, List.contains_nil, Bool.or_false, Bool.or_true, Bool.true_or, Bool.false_or, beq_self_eq_true, cond_true, cond_false, HeapCov, orNil, nilSz, onBlk, srcOf, getH_hit, getH_miss, getH.eq_1, getS_hit, getS_miss, getS.eq_1, BlkCov, PVCovs, PVCov, ColsEq, ColEq.refl, liveIds, SlotsCov, List.all_nil, List.all_cons, List.any_nil, List.any_cons, List.nil_append, List.cons_append, inRange, apart, nilBlk, idS1, idS2, readAll, readRes, onAll, step, res, AX.val, List.drop_zero, List.drop_succ_cons, List.take_succ_cons, List.take_zero]
  · refine RetOK.pure (.inl rfl) rfl ?_
    simp [retPV, over, keys, List.map_nil, List.map_cons, List.contains_cons, List.contains_nil, Bool.or_false, Bool.or_true, Bool.true_or, Bool.false_or, beq_self_eq_true, cond_true, cond_false, HeapCov, orNil, nilSz, onBlk, srcOf, getH_hit, getH_miss, getH.eq_1, getS_hit, getS_miss, getS.eq_1, BlkCov, PVCovs, PVCov, ColsEq, ColEq.refl, liveIds, SlotsCov, List.all_nil, List.all_cons, List.any_nil, List.any_cons, List.nil_append, List.cons_append, inRange, apart, nilBlk, idS1, idS2, readAll, readRes, onAll, step, res, AX.val, List.drop_zero, List.drop_succ_cons, List.take_succ_cons, List.take_zero]
theorem isShort_c (k : Nat) (nid : Nat) : ACall Tryd.prog 103 [.int .i64 (k : Nat)] [] nid (.bool (!outB (k : Nat) 3 5)) [] := by
  refine acall_run c103 (by simp [a103]) ?_
  simp -dsimp only [aqT, ROp, OX, ↓seqK, ↓blkK, ↓loopK, step, stepBin, res, stepIdx, mix, PV.cells, argSlots, Nat.reduceBEq, Nat.reduceBeqDiff, Nat.add_assoc nid, Nat.reduceAdd, reduceCtorEq, ↓reduceIte, Nat.reduceLeDiff, colPV, freeOf, indep, offO, neqO, disj, namesX, axSlot, opXs, rdXs, idsOf, idsOfs, lowH, lowAll, keys, Nat.reduceBneDiff, Option.toList, ← Int.ofNat_tmod, ← Int.ofNat_tdiv, optInt, fillP, repl, chunk, mkCols, mkCol, colInts, colBools, colStrs, colLits, colsApp, Col.app, tailOf, splice, colsPut, Col.put, mmFold, eqK, Nat.reduceLT, colsPaste, Col.paste, mNew, mkKey, keyIn, mGet, mPut, a103]
  refine CallO.pure (out_c _ _ _ _) ?_
  simp -dsimp only [aqT, ROp, OX, ↓seqK, ↓blkK, ↓loopK, step, stepBin, res, stepIdx, mix, PV.cells, argSlots, Nat.reduceBEq, Nat.reduceBeqDiff, Nat.add_assoc nid, Nat.reduceAdd, reduceCtorEq, ↓reduceIte, Nat.reduceLeDiff, colPV, freeOf, indep, offO, neqO, disj, namesX, axSlot, opXs, rdXs, idsOf, idsOfs, lowH, lowAll, keys, Nat.reduceBneDiff, Option.toList, ← Int.ofNat_tmod, ← Int.ofNat_tdiv, optInt, fillP, repl, chunk, mkCols, mkCol, colInts, colBools, colStrs, colLits, colsApp, Col.app, tailOf, splice, colsPut, Col.put, mmFold, eqK, Nat.reduceLT, colsPaste, Col.paste, mNew, mkKey, keyIn, mGet, mPut]
  refine RetOK.pure (.inl rfl) rfl ?_
  simp [retPV, over, keys, List.map_nil, List.map_cons, List.contains_cons, List.contains_nil, Bool.or_false, Bool.or_true, Bool.true_or, Bool.false_or, beq_self_eq_true, cond_true, cond_false, HeapCov, orNil, nilSz, onBlk, srcOf, getH_hit, getH_miss, getH.eq_1, getS_hit, getS_miss, getS.eq_1, BlkCov, PVCovs, PVCov, ColsEq, ColEq.refl, liveIds, SlotsCov, List.all_nil, List.all_cons, List.any_nil, List.any_cons, List.nil_append, List.cons_append, inRange, apart, nilBlk, idS1, idS2, readAll, readRes, onAll, step, res, AX.val, List.drop_zero, List.drop_succ_cons, List.take_succ_cons, List.take_zero]
inductive FltGood (n : Nat) : Flt → Prop
  | one {k a : Nat} (hk : k = 1 ∨ k = 2 ∨ k = 6) (ha : a < n) : FltGood n ⟨k, [a]⟩
  | two {k a b : Nat} (hk : k = 3 ∨ k = 4) (ha : a < b) (hb : b < n) : FltGood n ⟨k, [a, b]⟩
  | fst {a b : Nat} (hab : a ≠ b) (ha : a < n) (hb : b < n) : FltGood n ⟨5, [a, b]⟩
theorem FltGood.ok {n : Nat} {f : Flt} (h : FltGood n f) : FltOk n f := by
  cases h with
  | one hk ha => exact ⟨by simp only; omega, by simp only; omega, by simp, by simp, fun x hx => by simp at hx; omega⟩
  | two hk ha hb => exact ⟨by simp only; omega, by simp only; omega, by simp, by simp, fun x hx => by simp at hx; omega⟩
  | fst hab ha hb => exact ⟨by simp only; omega, by simp only; omega, by simp, by simp, fun x hx => by simp at hx; omega⟩
def rising (f : Flt) : List Nat := if f.kind = 5 then f.nets.drop 1 else f.nets
structure FltRight (n : Nat) (f : Flt) : Prop extends FltOk n f where
  short : (!outB (f.kind : Nat) 3 5) = decide (1 < f.nets.length)
  ord : ∀ i, 1 ≤ i → i < (rising f).length → (rising f).getD (i - 1) 0 < (rising f).getD i 0
  twice : f.kind = 5 → f.nets.getD 0 0 ∉ rising f
theorem FltGood.right {n : Nat} {f : Flt} (h : FltGood n f) : FltRight n f := by
  refine ⟨h.ok, ?_, ?_, ?_⟩
  · cases h with
    | one hk ha =>
      rename_i k a
      have : outB ((k : Nat) : Int) 3 5 = true := by unfold outB; simp; omega
      simp [this]
    | two hk ha hb =>
      rename_i k a b
      have : outB ((k : Nat) : Int) 3 5 = false := by unfold outB; simp; omega
      simp [this]
    | fst hab ha hb =>
      have : outB 5 3 5 = false := rfl
      simp [this]
  · cases h with
    | one hk ha => intro i h1 h2; unfold rising at h2; rw [if_neg (by simp only; omega)] at h2; simp at h2; omega
    | two hk ha hb =>
      intro i h1 h2
      unfold rising at h2 ⊢
      rw [if_neg (by simp only; omega)] at h2 ⊢
      simp at h2
      have : i = 1 := by omega
      subst this
      simpa using ha
    | fst hab ha hb => intro i h1 h2; simp [rising] at h2; omega
  · cases h with
    | one hk ha => intro h5; simp only at h5; omega
    | two hk ha hb => intro h5; simp only at h5; omega
    | fst hab ha hb => intro _; simp [rising]; exact hab
set_option maxHeartbeats 8000000 in
theorem checkFault_ok (nf : Bool) (n : Nat) (f : Flt) (nid : Nat) (h1 : 1 ≤ n) (hn : n ≤ 100) (h : FltRight n f) : ACall Tryd.prog 187 [.int .i64 (n : Nat), fltP nf f] [] nid (.int .i64 0) [] := by
  have ho : outB (n : Nat) 1 100 = false := by unfold outB; simp; omega
  have hlo := h.lo; have hhi := h.hi; have hp := h.pos; have hl := h.len
  have hok : outB (f.kind : Nat) 1 6 = false := by unfold outB; simp; omega
  have hsh := h.short
  refine acall_sr c187 (by simp [a187]) ?_
  unfold a187 fltP netsP
  refine SR.seq ?_
  simp -dsimp only [aqT, ROp, OX, ↓seqK, ↓blkK, ↓loopK, step, stepBin, res, stepIdx, mix, PV.cells, argSlots, Nat.reduceBEq, Nat.reduceBeqDiff, Nat.add_assoc nid, Nat.reduceAdd, reduceCtorEq, ↓reduceIte, Nat.reduceLeDiff, colPV, freeOf, indep, offO, neqO, disj, namesX, axSlot, opXs, rdXs, idsOf, idsOfs, lowH, lowAll, keys, Nat.reduceBneDiff, Option.toList, ← Int.ofNat_tmod, ← Int.ofNat_tdiv, optInt, fillP, repl, chunk, mkCols, mkCol, colInts, colBools, colStrs, colLits, colsApp, Col.app, tailOf, splice, colsPut, Col.put, mmFold, eqK, Nat.reduceLT, colsPaste, Col.paste, mNew, mkKey, keyIn, mGet, mPut, Int.cast_ofNat_Int, Int.reduceBEq, Int.reduceBNe, Int.reduceLT, Int.reduceLE, Int.reduceAdd, Int.reduceSub, Int.reduceMul, Int.reduceToNat, Int.reduceNeg, Int.reduceTMod, Int.reduceEq, not_false_eq_true, Int.reducePow, Int.reduceFDiv, Nat.reducePow, Nat.reduceSub, Nat.reduceMul, Nat.min_eq_left, Nat.reduceEqDiff, BEq.rfl, Int.tdiv_one, LN_succ]
  refine SR.seqTo ⟨[(0, .int .i64 (n : Nat)), (3, .ptr nid 0)], [(nid, some (.box 128 [.int .i64 (f.kind : Nat), netsP nf f.nets]))], nid + 100, nid⟩ ?_ ?_
  · simp -dsimp only [aqT, ROp, OX, ↓seqK, ↓blkK, ↓loopK, step, stepBin, res, stepIdx, mix, PV.cells, argSlots, Nat.reduceBEq, Nat.reduceBeqDiff, Nat.add_assoc nid, Nat.reduceAdd, reduceCtorEq, ↓reduceIte, Nat.reduceLeDiff, colPV, freeOf, indep, offO, neqO, disj, namesX, axSlot, opXs, rdXs, idsOf, idsOfs, lowH, lowAll, keys, Nat.reduceBneDiff, Option.toList, ← Int.ofNat_tmod, ← Int.ofNat_tdiv, optInt, fillP, repl, chunk, mkCols, mkCol, colInts, colBools, colStrs, colLits, colsApp, Col.app, tailOf, splice, colsPut, Col.put, mmFold, eqK, Nat.reduceLT, colsPaste, Col.paste, mNew, mkKey, keyIn, mGet, mPut, Int.cast_ofNat_Int, Int.reduceBEq, Int.reduceBNe, Int.reduceLT, Int.reduceLE, Int.reduceAdd, Int.reduceSub, Int.reduceMul, Int.reduceToNat, Int.reduceNeg, Int.reduceTMod, Int.reduceEq, not_false_eq_true, Int.reducePow, Int.reduceFDiv, Nat.reducePow, Nat.reduceSub, Nat.reduceMul, Nat.min_eq_left, Nat.reduceEqDiff, BEq.rfl, Int.tdiv_one, LN_succ]
    refine CallO.pure (out_c _ _ _ _) ?_
    rw [ho]
    simp -dsimp only [aqT, ROp, OX, ↓seqK, ↓blkK, ↓loopK, step, stepBin, res, stepIdx, mix, PV.cells, argSlots, Nat.reduceBEq, Nat.reduceBeqDiff, Nat.add_assoc nid, Nat.reduceAdd, reduceCtorEq, ↓reduceIte, Nat.reduceLeDiff, colPV, freeOf, indep, offO, neqO, disj, namesX, axSlot, opXs, rdXs, idsOf, idsOfs, lowH, lowAll, keys, Nat.reduceBneDiff, Option.toList, ← Int.ofNat_tmod, ← Int.ofNat_tdiv, optInt, fillP, repl, chunk, mkCols, mkCol, colInts, colBools, colStrs, colLits, colsApp, Col.app, tailOf, splice, colsPut, Col.put, mmFold, eqK, Nat.reduceLT, colsPaste, Col.paste, mNew, mkKey, keyIn, mGet, mPut, Int.cast_ofNat_Int, Int.reduceBEq, Int.reduceBNe, Int.reduceLT, Int.reduceLE, Int.reduceAdd, Int.reduceSub, Int.reduceMul, Int.reduceToNat, Int.reduceNeg, Int.reduceTMod, Int.reduceEq, not_false_eq_true, Int.reducePow, Int.reduceFDiv, Nat.reducePow, Nat.reduceSub, Nat.reduceMul, Nat.min_eq_left, Nat.reduceEqDiff, BEq.rfl, Int.tdiv_one, LN_succ]
    refine CallO.pure (out_c _ _ _ _) ?_
    rw [hok]
    simp -dsimp only [aqT, ROp, OX, ↓seqK, ↓blkK, ↓loopK, step, stepBin, res, stepIdx, mix, PV.cells, argSlots, Nat.reduceBEq, Nat.reduceBeqDiff, Nat.add_assoc nid, Nat.reduceAdd, reduceCtorEq, ↓reduceIte, Nat.reduceLeDiff, colPV, freeOf, indep, offO, neqO, disj, namesX, axSlot, opXs, rdXs, idsOf, idsOfs, lowH, lowAll, keys, Nat.reduceBneDiff, Option.toList, ← Int.ofNat_tmod, ← Int.ofNat_tdiv, optInt, fillP, repl, chunk, mkCols, mkCol, colInts, colBools, colStrs, colLits, colsApp, Col.app, tailOf, splice, colsPut, Col.put, mmFold, eqK, Nat.reduceLT, colsPaste, Col.paste, mNew, mkKey, keyIn, mGet, mPut, Int.cast_ofNat_Int, Int.reduceBEq, Int.reduceBNe, Int.reduceLT, Int.reduceLE, Int.reduceAdd, Int.reduceSub, Int.reduceMul, Int.reduceToNat, Int.reduceNeg, Int.reduceTMod, Int.reduceEq, not_false_eq_true, Int.reducePow, Int.reduceFDiv, Nat.reducePow, Nat.reduceSub, Nat.reduceMul, Nat.min_eq_left, Nat.reduceEqDiff, BEq.rfl, Int.tdiv_one, LN_succ]
    refine S2.no (by rw [beq_eq_false_iff_ne]; omega) ?_
    simp -dsimp only [aqT, ROp, OX, ↓seqK, ↓blkK, ↓loopK, step, stepBin, res, stepIdx, mix, PV.cells, argSlots, Nat.reduceBEq, Nat.reduceBeqDiff, Nat.add_assoc nid, Nat.reduceAdd, reduceCtorEq, ↓reduceIte, Nat.reduceLeDiff, colPV, freeOf, indep, offO, neqO, disj, namesX, axSlot, opXs, rdXs, idsOf, idsOfs, lowH, lowAll, keys, Nat.reduceBneDiff, Option.toList, ← Int.ofNat_tmod, ← Int.ofNat_tdiv, optInt, fillP, repl, chunk, mkCols, mkCol, colInts, colBools, colStrs, colLits, colsApp, Col.app, tailOf, splice, colsPut, Col.put, mmFold, eqK, Nat.reduceLT, colsPaste, Col.paste, mNew, mkKey, keyIn, mGet, mPut, Int.cast_ofNat_Int, Int.reduceBEq, Int.reduceBNe, Int.reduceLT, Int.reduceLE, Int.reduceAdd, Int.reduceSub, Int.reduceMul, Int.reduceToNat, Int.reduceNeg, Int.reduceTMod, Int.reduceEq, not_false_eq_true, Int.reducePow, Int.reduceFDiv, Nat.reducePow, Nat.reduceSub, Nat.reduceMul, Nat.min_eq_left, Nat.reduceEqDiff, BEq.rfl, Int.tdiv_one, LN_succ]
    refine S2.no (by simp; omega) ?_
    simp -dsimp only [aqT, ROp, OX, ↓seqK, ↓blkK, ↓loopK, step, stepBin, res, stepIdx, mix, PV.cells, argSlots, Nat.reduceBEq, Nat.reduceBeqDiff, Nat.add_assoc nid, Nat.reduceAdd, reduceCtorEq, ↓reduceIte, Nat.reduceLeDiff, colPV, freeOf, indep, offO, neqO, disj, namesX, axSlot, opXs, rdXs, idsOf, idsOfs, lowH, lowAll, keys, Nat.reduceBneDiff, Option.toList, ← Int.ofNat_tmod, ← Int.ofNat_tdiv, optInt, fillP, repl, chunk, mkCols, mkCol, colInts, colBools, colStrs, colLits, colsApp, Col.app, tailOf, splice, colsPut, Col.put, mmFold, eqK, Nat.reduceLT, colsPaste, Col.paste, mNew, mkKey, keyIn, mGet, mPut, Int.cast_ofNat_Int, Int.reduceBEq, Int.reduceBNe, Int.reduceLT, Int.reduceLE, Int.reduceAdd, Int.reduceSub, Int.reduceMul, Int.reduceToNat, Int.reduceNeg, Int.reduceTMod, Int.reduceEq, not_false_eq_true, Int.reducePow, Int.reduceFDiv, Nat.reducePow, Nat.reduceSub, Nat.reduceMul, Nat.min_eq_left, Nat.reduceEqDiff, BEq.rfl, Int.tdiv_one, LN_succ]
    refine Cov.go [] [] ?_
    simp [retPV, over, keys, List.map_nil, List.map_cons, List.contains_cons, List.contains_nil, Bool.or_false, Bool.or_true, Bool.true_or, Bool.false_or, beq_self_eq_true, cond_true, cond_false, HeapCov, orNil, nilSz, onBlk, srcOf, getH_hit, getH_miss, getH.eq_1, getS_hit, getS_miss, getS.eq_1, BlkCov, PVCovs, PVCov, ColsEq, ColEq.refl, liveIds, SlotsCov, List.all_nil, List.all_cons, List.any_nil, List.any_cons, List.nil_append, List.cons_append, inRange, apart, nilBlk, idS1, idS2, readAll, readRes, onAll, step, res, AX.val, List.drop_zero, List.drop_succ_cons, List.take_succ_cons, List.take_zero, netsP, -List.getD_eq_getElem?_getD]
  unfold netsP
  refine SR.seqTo ⟨[(0, .int .i64 (n : Nat)), (3, .ptr nid 0)], [(nid, some (.box 128 [.int .i64 (f.kind : Nat), netsP nf f.nets]))], nid + 300, nid⟩ ?_ ?_
  · simp -dsimp only [aqT, ROp, OX, ↓seqK, ↓blkK, ↓loopK, step, stepBin, res, stepIdx, mix, PV.cells, argSlots, Nat.reduceBEq, Nat.reduceBeqDiff, Nat.add_assoc nid, Nat.reduceAdd, reduceCtorEq, ↓reduceIte, Nat.reduceLeDiff, colPV, freeOf, indep, offO, neqO, disj, namesX, axSlot, opXs, rdXs, idsOf, idsOfs, lowH, lowAll, keys, Nat.reduceBneDiff, Option.toList, ← Int.ofNat_tmod, ← Int.ofNat_tdiv, optInt, fillP, repl, chunk, mkCols, mkCol, colInts, colBools, colStrs, colLits, colsApp, Col.app, tailOf, splice, colsPut, Col.put, mmFold, eqK, Nat.reduceLT, colsPaste, Col.paste, mNew, mkKey, keyIn, mGet, mPut, Int.cast_ofNat_Int, Int.reduceBEq, Int.reduceBNe, Int.reduceLT, Int.reduceLE, Int.reduceAdd, Int.reduceSub, Int.reduceMul, Int.reduceToNat, Int.reduceNeg, Int.reduceTMod, Int.reduceEq, not_false_eq_true, Int.reducePow, Int.reduceFDiv, Nat.reducePow, Nat.reduceSub, Nat.reduceMul, Nat.min_eq_left, Nat.reduceEqDiff, BEq.rfl, Int.tdiv_one, LN_succ]
    refine LP.mkP (fun k : Nat => k ≤ f.nets.length) (fun k : Nat => ⟨[(29, .int .i64 k), (28, .int .i64 f.nets.length), (27, netsP nf f.nets), (0, .int .i64 (n : Nat)), (3, .ptr nid 0)], [(nid, some (.box 128 [.int .i64 (f.kind : Nat), netsP nf f.nets]))], nid + 200, nid⟩) (fun k => f.nets.length + 1 - k) 0 (by omega) (Cov.go [] [] ?_) (fun k hk => ?_)
    · simp [retPV, over, keys, List.map_nil, List.map_cons, List.contains_cons, List.contains_nil, Bool.or_false, Bool.or_true, Bool.true_or, Bool.false_or, beq_self_eq_true, cond_true, cond_false, HeapCov, orNil, nilSz, onBlk, srcOf, getH_hit, getH_miss, getH.eq_1, getS_hit, getS_miss, getS.eq_1, BlkCov, PVCovs, PVCov, ColsEq, ColEq.refl, liveIds, SlotsCov, List.all_nil, List.all_cons, List.any_nil, List.any_cons, List.nil_append, List.cons_append, inRange, apart, nilBlk, idS1, idS2, readAll, readRes, onAll, step, res, AX.val, List.drop_zero, List.drop_succ_cons, List.take_succ_cons, List.take_zero, netsP, -List.getD_eq_getElem?_getD]
    unfold netsP
    simp -dsimp only [aqT, ROp, OX, ↓seqK, ↓blkK, ↓loopK, step, stepBin, res, stepIdx, mix, PV.cells, argSlots, Nat.reduceBEq, Nat.reduceBeqDiff, Nat.add_assoc nid, Nat.reduceAdd, reduceCtorEq, ↓reduceIte, Nat.reduceLeDiff, colPV, freeOf, indep, offO, neqO, disj, namesX, axSlot, opXs, rdXs, idsOf, idsOfs, lowH, lowAll, keys, Nat.reduceBneDiff, Option.toList, ← Int.ofNat_tmod, ← Int.ofNat_tdiv, optInt, fillP, repl, chunk, mkCols, mkCol, colInts, colBools, colStrs, colLits, colsApp, Col.app, tailOf, splice, colsPut, Col.put, mmFold, eqK, Nat.reduceLT, colsPaste, Col.paste, mNew, mkKey, keyIn, mGet, mPut, Int.cast_ofNat_Int, Int.reduceBEq, Int.reduceBNe, Int.reduceLT, Int.reduceLE, Int.reduceAdd, Int.reduceSub, Int.reduceMul, Int.reduceToNat, Int.reduceNeg, Int.reduceTMod, Int.reduceEq, not_false_eq_true, Int.reducePow, Int.reduceFDiv, Nat.reducePow, Nat.reduceSub, Nat.reduceMul, Nat.min_eq_left, Nat.reduceEqDiff, BEq.rfl, Int.tdiv_one, LN_succ]
    refine S2.dec (fun h2 => ?_) (fun h2 => ?_) <;> simp -dsimp only [aqT, ROp, OX, ↓seqK, ↓blkK, ↓loopK, step, stepBin, res, stepIdx, mix, PV.cells, argSlots, Nat.reduceBEq, Nat.reduceBeqDiff, Nat.add_assoc nid, Nat.reduceAdd, reduceCtorEq, ↓reduceIte, Nat.reduceLeDiff, colPV, freeOf, indep, offO, neqO, disj, namesX, axSlot, opXs, rdXs, idsOf, idsOfs, lowH, lowAll, keys, Nat.reduceBneDiff, Option.toList, ← Int.ofNat_tmod, ← Int.ofNat_tdiv, optInt, fillP, repl, chunk, mkCols, mkCol, colInts, colBools, colStrs, colLits, colsApp, Col.app, tailOf, splice, colsPut, Col.put, mmFold, eqK, Nat.reduceLT, colsPaste, Col.paste, mNew, mkKey, keyIn, mGet, mPut, Int.cast_ofNat_Int, Int.reduceBEq, Int.reduceBNe, Int.reduceLT, Int.reduceLE, Int.reduceAdd, Int.reduceSub, Int.reduceMul, Int.reduceToNat, Int.reduceNeg, Int.reduceTMod, Int.reduceEq, not_false_eq_true, Int.reducePow, Int.reduceFDiv, Nat.reducePow, Nat.reduceSub, Nat.reduceMul, Nat.min_eq_left, Nat.reduceEqDiff, BEq.rfl, Int.tdiv_one, LN_succ]
    · have hkl : k < f.nets.length := by omega
      have hnk := h.toFltOk.at hkl
      have hoa : outB (f.nets.getD k 0 : Nat) 0 ((n : Int) - 1) = false := by unfold outB; simp only [decide_eq_false_iff_not]; omega
      refine ⟨by omega, by unfold inI64; omega, CallO.pure (out_c _ _ _ _) ?_⟩
      rw [hoa]
      simp -dsimp only [aqT, ROp, OX, ↓seqK, ↓blkK, ↓loopK, step, stepBin, res, stepIdx, mix, PV.cells, argSlots, Nat.reduceBEq, Nat.reduceBeqDiff, Nat.add_assoc nid, Nat.reduceAdd, reduceCtorEq, ↓reduceIte, Nat.reduceLeDiff, colPV, freeOf, indep, offO, neqO, disj, namesX, axSlot, opXs, rdXs, idsOf, idsOfs, lowH, lowAll, keys, Nat.reduceBneDiff, Option.toList, ← Int.ofNat_tmod, ← Int.ofNat_tdiv, optInt, fillP, repl, chunk, mkCols, mkCol, colInts, colBools, colStrs, colLits, colsApp, Col.app, tailOf, splice, colsPut, Col.put, mmFold, eqK, Nat.reduceLT, colsPaste, Col.paste, mNew, mkKey, keyIn, mGet, mPut, Int.cast_ofNat_Int, Int.reduceBEq, Int.reduceBNe, Int.reduceLT, Int.reduceLE, Int.reduceAdd, Int.reduceSub, Int.reduceMul, Int.reduceToNat, Int.reduceNeg, Int.reduceTMod, Int.reduceEq, not_false_eq_true, Int.reducePow, Int.reduceFDiv, Nat.reducePow, Nat.reduceSub, Nat.reduceMul, Nat.min_eq_left, Nat.reduceEqDiff, BEq.rfl, Int.tdiv_one, LN_succ]
      refine ⟨by unfold inI64; omega, k + 1, ⟨by omega, by omega⟩, Cov.go [] [] ?_⟩
      simp [retPV, over, keys, List.map_nil, List.map_cons, List.contains_cons, List.contains_nil, Bool.or_false, Bool.or_true, Bool.true_or, Bool.false_or, beq_self_eq_true, cond_true, cond_false, HeapCov, orNil, nilSz, onBlk, srcOf, getH_hit, getH_miss, getH.eq_1, getS_hit, getS_miss, getS.eq_1, BlkCov, PVCovs, PVCov, ColsEq, ColEq.refl, liveIds, SlotsCov, List.all_nil, List.all_cons, List.any_nil, List.any_cons, List.nil_append, List.cons_append, inRange, apart, nilBlk, idS1, idS2, readAll, readRes, onAll, step, res, AX.val, List.drop_zero, List.drop_succ_cons, List.take_succ_cons, List.take_zero, netsP, -List.getD_eq_getElem?_getD]
    · refine Cov.go [] [] ?_
      simp [retPV, over, keys, List.map_nil, List.map_cons, List.contains_cons, List.contains_nil, Bool.or_false, Bool.or_true, Bool.true_or, Bool.false_or, beq_self_eq_true, cond_true, cond_false, HeapCov, orNil, nilSz, onBlk, srcOf, getH_hit, getH_miss, getH.eq_1, getS_hit, getS_miss, getS.eq_1, BlkCov, PVCovs, PVCov, ColsEq, ColEq.refl, liveIds, SlotsCov, List.all_nil, List.all_cons, List.any_nil, List.any_cons, List.nil_append, List.cons_append, inRange, apart, nilBlk, idS1, idS2, readAll, readRes, onAll, step, res, AX.val, List.drop_zero, List.drop_succ_cons, List.take_succ_cons, List.take_zero, netsP, -List.getD_eq_getElem?_getD]
  unfold netsP
  refine SR.seqTo ⟨[(3, .ptr nid 0)], [(nid, some (.box 128 [.int .i64 (f.kind : Nat), netsP nf f.nets]))], nid + 400, nid⟩ ?_ ?_
  · simp -dsimp only [aqT, ROp, OX, ↓seqK, ↓blkK, ↓loopK, step, stepBin, res, stepIdx, mix, PV.cells, argSlots, Nat.reduceBEq, Nat.reduceBeqDiff, Nat.add_assoc nid, Nat.reduceAdd, reduceCtorEq, ↓reduceIte, Nat.reduceLeDiff, colPV, freeOf, indep, offO, neqO, disj, namesX, axSlot, opXs, rdXs, idsOf, idsOfs, lowH, lowAll, keys, Nat.reduceBneDiff, Option.toList, ← Int.ofNat_tmod, ← Int.ofNat_tdiv, optInt, fillP, repl, chunk, mkCols, mkCol, colInts, colBools, colStrs, colLits, colsApp, Col.app, tailOf, splice, colsPut, Col.put, mmFold, eqK, Nat.reduceLT, colsPaste, Col.paste, mNew, mkKey, keyIn, mGet, mPut, Int.cast_ofNat_Int, Int.reduceBEq, Int.reduceBNe, Int.reduceLT, Int.reduceLE, Int.reduceAdd, Int.reduceSub, Int.reduceMul, Int.reduceToNat, Int.reduceNeg, Int.reduceTMod, Int.reduceEq, not_false_eq_true, Int.reducePow, Int.reduceFDiv, Nat.reducePow, Nat.reduceSub, Nat.reduceMul, Nat.min_eq_left, Nat.reduceEqDiff, BEq.rfl, Int.tdiv_one, LN_succ]
    refine CallX.pure (isShort_c _ _) ?_
    rw [hsh]
    simp -dsimp only [aqT, ROp, OX, ↓seqK, ↓blkK, ↓loopK, step, stepBin, res, stepIdx, mix, PV.cells, argSlots, Nat.reduceBEq, Nat.reduceBeqDiff, Nat.add_assoc nid, Nat.reduceAdd, reduceCtorEq, ↓reduceIte, Nat.reduceLeDiff, colPV, freeOf, indep, offO, neqO, disj, namesX, axSlot, opXs, rdXs, idsOf, idsOfs, lowH, lowAll, keys, Nat.reduceBneDiff, Option.toList, ← Int.ofNat_tmod, ← Int.ofNat_tdiv, optInt, fillP, repl, chunk, mkCols, mkCol, colInts, colBools, colStrs, colLits, colsApp, Col.app, tailOf, splice, colsPut, Col.put, mmFold, eqK, Nat.reduceLT, colsPaste, Col.paste, mNew, mkKey, keyIn, mGet, mPut, Int.cast_ofNat_Int, Int.reduceBEq, Int.reduceBNe, Int.reduceLT, Int.reduceLE, Int.reduceAdd, Int.reduceSub, Int.reduceMul, Int.reduceToNat, Int.reduceNeg, Int.reduceTMod, Int.reduceEq, not_false_eq_true, Int.reducePow, Int.reduceFDiv, Nat.reducePow, Nat.reduceSub, Nat.reduceMul, Nat.min_eq_left, Nat.reduceEqDiff, BEq.rfl, Int.tdiv_one, LN_succ]
    refine S2.no (by
      have : decide (1 < f.nets.length) = decide (1 < (f.nets.length : Int)) := by rw [Bool.eq_iff_iff]; simp; omega
      rw [this]
      simp) ?_
    simp -dsimp only [aqT, ROp, OX, ↓seqK, ↓blkK, ↓loopK, step, stepBin, res, stepIdx, mix, PV.cells, argSlots, Nat.reduceBEq, Nat.reduceBeqDiff, Nat.add_assoc nid, Nat.reduceAdd, reduceCtorEq, ↓reduceIte, Nat.reduceLeDiff, colPV, freeOf, indep, offO, neqO, disj, namesX, axSlot, opXs, rdXs, idsOf, idsOfs, lowH, lowAll, keys, Nat.reduceBneDiff, Option.toList, ← Int.ofNat_tmod, ← Int.ofNat_tdiv, optInt, fillP, repl, chunk, mkCols, mkCol, colInts, colBools, colStrs, colLits, colsApp, Col.app, tailOf, splice, colsPut, Col.put, mmFold, eqK, Nat.reduceLT, colsPaste, Col.paste, mNew, mkKey, keyIn, mGet, mPut, Int.cast_ofNat_Int, Int.reduceBEq, Int.reduceBNe, Int.reduceLT, Int.reduceLE, Int.reduceAdd, Int.reduceSub, Int.reduceMul, Int.reduceToNat, Int.reduceNeg, Int.reduceTMod, Int.reduceEq, not_false_eq_true, Int.reducePow, Int.reduceFDiv, Nat.reducePow, Nat.reduceSub, Nat.reduceMul, Nat.min_eq_left, Nat.reduceEqDiff, BEq.rfl, Int.tdiv_one, LN_succ]
    refine Cov.go [] [] ?_
    simp [retPV, over, keys, List.map_nil, List.map_cons, List.contains_cons, List.contains_nil, Bool.or_false, Bool.or_true, Bool.true_or, Bool.false_or, beq_self_eq_true, cond_true, cond_false, HeapCov, orNil, nilSz, onBlk, srcOf, getH_hit, getH_miss, getH.eq_1, getS_hit, getS_miss, getS.eq_1, BlkCov, PVCovs, PVCov, ColsEq, ColEq.refl, liveIds, SlotsCov, List.all_nil, List.all_cons, List.any_nil, List.any_cons, List.nil_append, List.cons_append, inRange, apart, nilBlk, idS1, idS2, readAll, readRes, onAll, step, res, AX.val, List.drop_zero, List.drop_succ_cons, List.take_succ_cons, List.take_zero, netsP, -List.getD_eq_getElem?_getD]
  unfold netsP
  refine SR.seqTo ⟨[(7, netsP nf f.nets), (3, .ptr nid 0)], [(nid, some (.box 128 [.int .i64 (f.kind : Nat), netsP nf f.nets]))], nid + 500, nid⟩ ?_ ?_
  · simp -dsimp only [aqT, ROp, OX, ↓seqK, ↓blkK, ↓loopK, step, stepBin, res, stepIdx, mix, PV.cells, argSlots, Nat.reduceBEq, Nat.reduceBeqDiff, Nat.add_assoc nid, Nat.reduceAdd, reduceCtorEq, ↓reduceIte, Nat.reduceLeDiff, colPV, freeOf, indep, offO, neqO, disj, namesX, axSlot, opXs, rdXs, idsOf, idsOfs, lowH, lowAll, keys, Nat.reduceBneDiff, Option.toList, ← Int.ofNat_tmod, ← Int.ofNat_tdiv, optInt, fillP, repl, chunk, mkCols, mkCol, colInts, colBools, colStrs, colLits, colsApp, Col.app, tailOf, splice, colsPut, Col.put, mmFold, eqK, Nat.reduceLT, colsPaste, Col.paste, mNew, mkKey, keyIn, mGet, mPut, Int.cast_ofNat_Int, Int.reduceBEq, Int.reduceBNe, Int.reduceLT, Int.reduceLE, Int.reduceAdd, Int.reduceSub, Int.reduceMul, Int.reduceToNat, Int.reduceNeg, Int.reduceTMod, Int.reduceEq, not_false_eq_true, Int.reducePow, Int.reduceFDiv, Nat.reducePow, Nat.reduceSub, Nat.reduceMul, Nat.min_eq_left, Nat.reduceEqDiff, BEq.rfl, Int.tdiv_one, LN_succ]
    refine Cov.go [] [] ?_
    simp [retPV, over, keys, List.map_nil, List.map_cons, List.contains_cons, List.contains_nil, Bool.or_false, Bool.or_true, Bool.true_or, Bool.false_or, beq_self_eq_true, cond_true, cond_false, HeapCov, orNil, nilSz, onBlk, srcOf, getH_hit, getH_miss, getH.eq_1, getS_hit, getS_miss, getS.eq_1, BlkCov, PVCovs, PVCov, ColsEq, ColEq.refl, liveIds, SlotsCov, List.all_nil, List.all_cons, List.any_nil, List.any_cons, List.nil_append, List.cons_append, inRange, apart, nilBlk, idS1, idS2, readAll, readRes, onAll, step, res, AX.val, List.drop_zero, List.drop_succ_cons, List.take_succ_cons, List.take_zero, netsP, -List.getD_eq_getElem?_getD]
  unfold netsP
  refine SR.seqTo ⟨[(7, netsP nf (rising f)), (3, .ptr nid 0)], [(nid, some (.box 128 [.int .i64 (f.kind : Nat), netsP nf f.nets]))], nid + 600, nid⟩ ?_ ?_
  · simp -dsimp only [aqT, ROp, OX, ↓seqK, ↓blkK, ↓loopK, step, stepBin, res, stepIdx, mix, PV.cells, argSlots, Nat.reduceBEq, Nat.reduceBeqDiff, Nat.add_assoc nid, Nat.reduceAdd, reduceCtorEq, ↓reduceIte, Nat.reduceLeDiff, colPV, freeOf, indep, offO, neqO, disj, namesX, axSlot, opXs, rdXs, idsOf, idsOfs, lowH, lowAll, keys, Nat.reduceBneDiff, Option.toList, ← Int.ofNat_tmod, ← Int.ofNat_tdiv, optInt, fillP, repl, chunk, mkCols, mkCol, colInts, colBools, colStrs, colLits, colsApp, Col.app, tailOf, splice, colsPut, Col.put, mmFold, eqK, Nat.reduceLT, colsPaste, Col.paste, mNew, mkKey, keyIn, mGet, mPut, Int.cast_ofNat_Int, Int.reduceBEq, Int.reduceBNe, Int.reduceLT, Int.reduceLE, Int.reduceAdd, Int.reduceSub, Int.reduceMul, Int.reduceToNat, Int.reduceNeg, Int.reduceTMod, Int.reduceEq, not_false_eq_true, Int.reducePow, Int.reduceFDiv, Nat.reducePow, Nat.reduceSub, Nat.reduceMul, Nat.min_eq_left, Nat.reduceEqDiff, BEq.rfl, Int.tdiv_one, LN_succ]
    unfold rising
    refine S2.intro (fun h5 => ?_) (fun h5 => ?_) <;> simp -dsimp only [aqT, ROp, OX, ↓seqK, ↓blkK, ↓loopK, step, stepBin, res, stepIdx, mix, PV.cells, argSlots, Nat.reduceBEq, Nat.reduceBeqDiff, Nat.add_assoc nid, Nat.reduceAdd, reduceCtorEq, ↓reduceIte, Nat.reduceLeDiff, colPV, freeOf, indep, offO, neqO, disj, namesX, axSlot, opXs, rdXs, idsOf, idsOfs, lowH, lowAll, keys, Nat.reduceBneDiff, Option.toList, ← Int.ofNat_tmod, ← Int.ofNat_tdiv, optInt, fillP, repl, chunk, mkCols, mkCol, colInts, colBools, colStrs, colLits, colsApp, Col.app, tailOf, splice, colsPut, Col.put, mmFold, eqK, Nat.reduceLT, colsPaste, Col.paste, mNew, mkKey, keyIn, mGet, mPut, Int.cast_ofNat_Int, Int.reduceBEq, Int.reduceBNe, Int.reduceLT, Int.reduceLE, Int.reduceAdd, Int.reduceSub, Int.reduceMul, Int.reduceToNat, Int.reduceNeg, Int.reduceTMod, Int.reduceEq, not_false_eq_true, Int.reducePow, Int.reduceFDiv, Nat.reducePow, Nat.reduceSub, Nat.reduceMul, Nat.min_eq_left, Nat.reduceEqDiff, BEq.rfl, Int.tdiv_one, LN_succ]
    · have h5' : f.kind = 5 := by have : ((f.kind : Nat) : Int) = 5 := by simpa using h5
                                  omega
      rw [if_pos h5']
      refine ⟨by omega, Cov.go [] [] ?_⟩
      simp [retPV, over, keys, List.map_nil, List.map_cons, List.contains_cons, List.contains_nil, Bool.or_false, Bool.or_true, Bool.true_or, Bool.false_or, beq_self_eq_true, cond_true, cond_false, HeapCov, orNil, nilSz, onBlk, srcOf, getH_hit, getH_miss, getH.eq_1, getS_hit, getS_miss, getS.eq_1, BlkCov, PVCovs, PVCov, ColsEq, ColEq.refl, liveIds, SlotsCov, List.all_nil, List.all_cons, List.any_nil, List.any_cons, List.nil_append, List.cons_append, inRange, apart, nilBlk, idS1, idS2, readAll, readRes, onAll, step, res, AX.val, List.drop_zero, List.drop_succ_cons, List.take_succ_cons, List.take_zero, netsP, -List.getD_eq_getElem?_getD]
      refine ColEq.i fun i hi => ?_
      simp [List.getD_eq_getElem?_getD, Nat.add_comm]
    · have h5' : f.kind ≠ 5 := by have : ¬ ((f.kind : Nat) : Int) = 5 := by simpa using h5
                                  omega
      rw [if_neg h5']
      refine Cov.go [] [] ?_
      simp [retPV, over, keys, List.map_nil, List.map_cons, List.contains_cons, List.contains_nil, Bool.or_false, Bool.or_true, Bool.true_or, Bool.false_or, beq_self_eq_true, cond_true, cond_false, HeapCov, orNil, nilSz, onBlk, srcOf, getH_hit, getH_miss, getH.eq_1, getS_hit, getS_miss, getS.eq_1, BlkCov, PVCovs, PVCov, ColsEq, ColEq.refl, liveIds, SlotsCov, List.all_nil, List.all_cons, List.any_nil, List.any_cons, List.nil_append, List.cons_append, inRange, apart, nilBlk, idS1, idS2, readAll, readRes, onAll, step, res, AX.val, List.drop_zero, List.drop_succ_cons, List.take_succ_cons, List.take_zero, netsP, -List.getD_eq_getElem?_getD]
  have hrl : (rising f).length ≤ 6 := by
    unfold rising
    split
    · rw [List.length_drop]; omega
    · exact hl
  have hord := h.ord
  have htw := h.twice
  generalize rising f = R at *
  unfold netsP
  refine SR.seqTo ⟨[(7, netsP nf R), (3, .ptr nid 0)], [(nid, some (.box 128 [.int .i64 (f.kind : Nat), netsP nf f.nets]))], nid + 800, nid⟩ ?_ ?_
  · simp -dsimp only [aqT, ROp, OX, ↓seqK, ↓blkK, ↓loopK, step, stepBin, res, stepIdx, mix, PV.cells, argSlots, Nat.reduceBEq, Nat.reduceBeqDiff, Nat.add_assoc nid, Nat.reduceAdd, reduceCtorEq, ↓reduceIte, Nat.reduceLeDiff, colPV, freeOf, indep, offO, neqO, disj, namesX, axSlot, opXs, rdXs, idsOf, idsOfs, lowH, lowAll, keys, Nat.reduceBneDiff, Option.toList, ← Int.ofNat_tmod, ← Int.ofNat_tdiv, optInt, fillP, repl, chunk, mkCols, mkCol, colInts, colBools, colStrs, colLits, colsApp, Col.app, tailOf, splice, colsPut, Col.put, mmFold, eqK, Nat.reduceLT, colsPaste, Col.paste, mNew, mkKey, keyIn, mGet, mPut, Int.cast_ofNat_Int, Int.reduceBEq, Int.reduceBNe, Int.reduceLT, Int.reduceLE, Int.reduceAdd, Int.reduceSub, Int.reduceMul, Int.reduceToNat, Int.reduceNeg, Int.reduceTMod, Int.reduceEq, not_false_eq_true, Int.reducePow, Int.reduceFDiv, Nat.reducePow, Nat.reduceSub, Nat.reduceMul, Nat.min_eq_left, Nat.reduceEqDiff, BEq.rfl, Int.tdiv_one, LN_succ]
    refine LP.mkP (fun k : Nat => 1 ≤ k ∧ k ≤ R.length + 1) (fun k : Nat => ⟨[(8, .int .i64 k), (7, netsP nf R), (3, .ptr nid 0)], [(nid, some (.box 128 [.int .i64 (f.kind : Nat), netsP nf f.nets]))], nid + 700, nid⟩) (fun k => R.length + 2 - k) 1 ⟨by omega, by omega⟩ (Cov.go [] [] ?_) (fun k hk => ?_)
    · simp [retPV, over, keys, List.map_nil, List.map_cons, List.contains_cons, List.contains_nil, Bool.or_false, Bool.or_true, Bool.true_or, Bool.false_or, beq_self_eq_true, cond_true, cond_false, HeapCov, orNil, nilSz, onBlk, srcOf, getH_hit, getH_miss, getH.eq_1, getS_hit, getS_miss, getS.eq_1, BlkCov, PVCovs, PVCov, ColsEq, ColEq.refl, liveIds, SlotsCov, List.all_nil, List.all_cons, List.any_nil, List.any_cons, List.nil_append, List.cons_append, inRange, apart, nilBlk, idS1, idS2, readAll, readRes, onAll, step, res, AX.val, List.drop_zero, List.drop_succ_cons, List.take_succ_cons, List.take_zero, netsP, -List.getD_eq_getElem?_getD]
    unfold netsP
    simp -dsimp only [aqT, ROp, OX, ↓seqK, ↓blkK, ↓loopK, step, stepBin, res, stepIdx, mix, PV.cells, argSlots, Nat.reduceBEq, Nat.reduceBeqDiff, Nat.add_assoc nid, Nat.reduceAdd, reduceCtorEq, ↓reduceIte, Nat.reduceLeDiff, colPV, freeOf, indep, offO, neqO, disj, namesX, axSlot, opXs, rdXs, idsOf, idsOfs, lowH, lowAll, keys, Nat.reduceBneDiff, Option.toList, ← Int.ofNat_tmod, ← Int.ofNat_tdiv, optInt, fillP, repl, chunk, mkCols, mkCol, colInts, colBools, colStrs, colLits, colsApp, Col.app, tailOf, splice, colsPut, Col.put, mmFold, eqK, Nat.reduceLT, colsPaste, Col.paste, mNew, mkKey, keyIn, mGet, mPut, Int.cast_ofNat_Int, Int.reduceBEq, Int.reduceBNe, Int.reduceLT, Int.reduceLE, Int.reduceAdd, Int.reduceSub, Int.reduceMul, Int.reduceToNat, Int.reduceNeg, Int.reduceTMod, Int.reduceEq, not_false_eq_true, Int.reducePow, Int.reduceFDiv, Nat.reducePow, Nat.reduceSub, Nat.reduceMul, Nat.min_eq_left, Nat.reduceEqDiff, BEq.rfl, Int.tdiv_one, LN_succ]
    refine S2.dec (fun h2 => ?_) (fun h2 => ?_) <;> simp -dsimp only [aqT, ROp, OX, ↓seqK, ↓blkK, ↓loopK, step, stepBin, res, stepIdx, mix, PV.cells, argSlots, Nat.reduceBEq, Nat.reduceBeqDiff, Nat.add_assoc nid, Nat.reduceAdd, reduceCtorEq, ↓reduceIte, Nat.reduceLeDiff, colPV, freeOf, indep, offO, neqO, disj, namesX, axSlot, opXs, rdXs, idsOf, idsOfs, lowH, lowAll, keys, Nat.reduceBneDiff, Option.toList, ← Int.ofNat_tmod, ← Int.ofNat_tdiv, optInt, fillP, repl, chunk, mkCols, mkCol, colInts, colBools, colStrs, colLits, colsApp, Col.app, tailOf, splice, colsPut, Col.put, mmFold, eqK, Nat.reduceLT, colsPaste, Col.paste, mNew, mkKey, keyIn, mGet, mPut, Int.cast_ofNat_Int, Int.reduceBEq, Int.reduceBNe, Int.reduceLT, Int.reduceLE, Int.reduceAdd, Int.reduceSub, Int.reduceMul, Int.reduceToNat, Int.reduceNeg, Int.reduceTMod, Int.reduceEq, not_false_eq_true, Int.reducePow, Int.reduceFDiv, Nat.reducePow, Nat.reduceSub, Nat.reduceMul, Nat.min_eq_left, Nat.reduceEqDiff, BEq.rfl, Int.tdiv_one, LN_succ]
    · have hkl : k < R.length := by omega
      have hok2 := hord k hk.1 hkl
      have e1 : ((k : Int) - 1).toNat = k - 1 := by omega
      simp only [e1]
      refine ⟨by omega, by unfold inI64; omega, by omega, ?_⟩
      refine S2.no (by rw [decide_eq_false_iff_not]; omega) ?_
      simp -dsimp only [aqT, ROp, OX, ↓seqK, ↓blkK, ↓loopK, step, stepBin, res, stepIdx, mix, PV.cells, argSlots, Nat.reduceBEq, Nat.reduceBeqDiff, Nat.add_assoc nid, Nat.reduceAdd, reduceCtorEq, ↓reduceIte, Nat.reduceLeDiff, colPV, freeOf, indep, offO, neqO, disj, namesX, axSlot, opXs, rdXs, idsOf, idsOfs, lowH, lowAll, keys, Nat.reduceBneDiff, Option.toList, ← Int.ofNat_tmod, ← Int.ofNat_tdiv, optInt, fillP, repl, chunk, mkCols, mkCol, colInts, colBools, colStrs, colLits, colsApp, Col.app, tailOf, splice, colsPut, Col.put, mmFold, eqK, Nat.reduceLT, colsPaste, Col.paste, mNew, mkKey, keyIn, mGet, mPut, Int.cast_ofNat_Int, Int.reduceBEq, Int.reduceBNe, Int.reduceLT, Int.reduceLE, Int.reduceAdd, Int.reduceSub, Int.reduceMul, Int.reduceToNat, Int.reduceNeg, Int.reduceTMod, Int.reduceEq, not_false_eq_true, Int.reducePow, Int.reduceFDiv, Nat.reducePow, Nat.reduceSub, Nat.reduceMul, Nat.min_eq_left, Nat.reduceEqDiff, BEq.rfl, Int.tdiv_one, LN_succ]
      refine ⟨by unfold inI64; omega, k + 1, ⟨⟨by omega, by omega⟩, by omega⟩, Cov.go [] [] ?_⟩
      simp [retPV, over, keys, List.map_nil, List.map_cons, List.contains_cons, List.contains_nil, Bool.or_false, Bool.or_true, Bool.true_or, Bool.false_or, beq_self_eq_true, cond_true, cond_false, HeapCov, orNil, nilSz, onBlk, srcOf, getH_hit, getH_miss, getH.eq_1, getS_hit, getS_miss, getS.eq_1, BlkCov, PVCovs, PVCov, ColsEq, ColEq.refl, liveIds, SlotsCov, List.all_nil, List.all_cons, List.any_nil, List.any_cons, List.nil_append, List.cons_append, inRange, apart, nilBlk, idS1, idS2, readAll, readRes, onAll, step, res, AX.val, List.drop_zero, List.drop_succ_cons, List.take_succ_cons, List.take_zero, netsP, -List.getD_eq_getElem?_getD]
    · refine Cov.go [] [] ?_
      simp [retPV, over, keys, List.map_nil, List.map_cons, List.contains_cons, List.contains_nil, Bool.or_false, Bool.or_true, Bool.true_or, Bool.false_or, beq_self_eq_true, cond_true, cond_false, HeapCov, orNil, nilSz, onBlk, srcOf, getH_hit, getH_miss, getH.eq_1, getS_hit, getS_miss, getS.eq_1, BlkCov, PVCovs, PVCov, ColsEq, ColEq.refl, liveIds, SlotsCov, List.all_nil, List.all_cons, List.any_nil, List.any_cons, List.nil_append, List.cons_append, inRange, apart, nilBlk, idS1, idS2, readAll, readRes, onAll, step, res, AX.val, List.drop_zero, List.drop_succ_cons, List.take_succ_cons, List.take_zero, netsP, -List.getD_eq_getElem?_getD]
  unfold netsP
  refine SR.run (t := .mk) ?_
  simp -dsimp only [aqT, ROp, OX, ↓seqK, ↓blkK, ↓loopK, step, stepBin, res, stepIdx, mix, PV.cells, argSlots, Nat.reduceBEq, Nat.reduceBeqDiff, Nat.add_assoc nid, Nat.reduceAdd, reduceCtorEq, ↓reduceIte, Nat.reduceLeDiff, colPV, freeOf, indep, offO, neqO, disj, namesX, axSlot, opXs, rdXs, idsOf, idsOfs, lowH, lowAll, keys, Nat.reduceBneDiff, Option.toList, ← Int.ofNat_tmod, ← Int.ofNat_tdiv, optInt, fillP, repl, chunk, mkCols, mkCol, colInts, colBools, colStrs, colLits, colsApp, Col.app, tailOf, splice, colsPut, Col.put, mmFold, eqK, Nat.reduceLT, colsPaste, Col.paste, mNew, mkKey, keyIn, mGet, mPut, Int.cast_ofNat_Int, Int.reduceBEq, Int.reduceBNe, Int.reduceLT, Int.reduceLE, Int.reduceAdd, Int.reduceSub, Int.reduceMul, Int.reduceToNat, Int.reduceNeg, Int.reduceTMod, Int.reduceEq, not_false_eq_true, Int.reducePow, Int.reduceFDiv, Nat.reducePow, Nat.reduceSub, Nat.reduceMul, Nat.min_eq_left, Nat.reduceEqDiff, BEq.rfl, Int.tdiv_one, LN_succ]
  refine S2.intro (fun h5 => ?_) (fun h5 => ?_) <;> simp -dsimp only [aqT, ROp, OX, ↓seqK, ↓blkK, ↓loopK, step, stepBin, res, stepIdx, mix, PV.cells, argSlots, Nat.reduceBEq, Nat.reduceBeqDiff, Nat.add_assoc nid, Nat.reduceAdd, reduceCtorEq, ↓reduceIte, Nat.reduceLeDiff, colPV, freeOf, indep, offO, neqO, disj, namesX, axSlot, opXs, rdXs, idsOf, idsOfs, lowH, lowAll, keys, Nat.reduceBneDiff, Option.toList, ← Int.ofNat_tmod, ← Int.ofNat_tdiv, optInt, fillP, repl, chunk, mkCols, mkCol, colInts, colBools, colStrs, colLits, colsApp, Col.app, tailOf, splice, colsPut, Col.put, mmFold, eqK, Nat.reduceLT, colsPaste, Col.paste, mNew, mkKey, keyIn, mGet, mPut, Int.cast_ofNat_Int, Int.reduceBEq, Int.reduceBNe, Int.reduceLT, Int.reduceLE, Int.reduceAdd, Int.reduceSub, Int.reduceMul, Int.reduceToNat, Int.reduceNeg, Int.reduceTMod, Int.reduceEq, not_false_eq_true, Int.reducePow, Int.reduceFDiv, Nat.reducePow, Nat.reduceSub, Nat.reduceMul, Nat.min_eq_left, Nat.reduceEqDiff, BEq.rfl, Int.tdiv_one, LN_succ]
  · have h5' : f.kind = 5 := by have : ((f.kind : Nat) : Int) = 5 := by simpa using h5
                                omega
    have htw := htw h5'
    have hg : (fun i => ((R.getD i 0 : Nat) : Int)) = fun i => (R.map Int.ofNat).getD i 0 := by
      funext i
      rw [List.getD_eq_getElem?_getD, List.getD_eq_getElem?_getD, List.getElem?_map]
      cases R[i]? <;> rfl
    have hc := fun x m => contains_c nf (R.map Int.ofNat) x m (by rw [List.length_map]; omega)
    unfold litI at hc
    rw [List.length_map, ← hg] at hc
    have hf : (R.map Int.ofNat).contains ((f.nets.getD 0 0 : Nat) : Int) = false := by
      rw [Bool.eq_false_iff]
      intro hcn
      rw [List.contains_iff_mem] at hcn
      obtain ⟨y, hy, e⟩ := List.mem_map.1 hcn
      have : y = f.nets.getD 0 0 := by have : ((y : Nat) : Int) = ((f.nets.getD 0 0 : Nat) : Int) := e
                                       omega
      exact htw (this ▸ hy)
    refine ⟨by omega, CallO.pure (hc _ _) ?_⟩
    rw [hf]
    simp -dsimp only [aqT, ROp, OX, ↓seqK, ↓blkK, ↓loopK, step, stepBin, res, stepIdx, mix, PV.cells, argSlots, Nat.reduceBEq, Nat.reduceBeqDiff, Nat.add_assoc nid, Nat.reduceAdd, reduceCtorEq, ↓reduceIte, Nat.reduceLeDiff, colPV, freeOf, indep, offO, neqO, disj, namesX, axSlot, opXs, rdXs, idsOf, idsOfs, lowH, lowAll, keys, Nat.reduceBneDiff, Option.toList, ← Int.ofNat_tmod, ← Int.ofNat_tdiv, optInt, fillP, repl, chunk, mkCols, mkCol, colInts, colBools, colStrs, colLits, colsApp, Col.app, tailOf, splice, colsPut, Col.put, mmFold, eqK, Nat.reduceLT, colsPaste, Col.paste, mNew, mkKey, keyIn, mGet, mPut, Int.cast_ofNat_Int, Int.reduceBEq, Int.reduceBNe, Int.reduceLT, Int.reduceLE, Int.reduceAdd, Int.reduceSub, Int.reduceMul, Int.reduceToNat, Int.reduceNeg, Int.reduceTMod, Int.reduceEq, not_false_eq_true, Int.reducePow, Int.reduceFDiv, Nat.reducePow, Nat.reduceSub, Nat.reduceMul, Nat.min_eq_left, Nat.reduceEqDiff, BEq.rfl, Int.tdiv_one, LN_succ]
    refine RetOK.pure (.inl rfl) rfl ?_
    simp [retPV, over, keys, List.map_nil, List.map_cons, List.contains_cons, List.contains_nil, Bool.or_false, Bool.or_true, Bool.true_or, Bool.false_or, beq_self_eq_true, cond_true, cond_false, HeapCov, orNil, nilSz, onBlk, srcOf, getH_hit, getH_miss, getH.eq_1, getS_hit, getS_miss, getS.eq_1, BlkCov, PVCovs, PVCov, ColsEq, ColEq.refl, liveIds, SlotsCov, List.all_nil, List.all_cons, List.any_nil, List.any_cons, List.nil_append, List.cons_append, inRange, apart, nilBlk, idS1, idS2, readAll, readRes, onAll, step, res, AX.val, List.drop_zero, List.drop_succ_cons, List.take_succ_cons, List.take_zero]
  · refine RetOK.pure (.inl rfl) rfl ?_
    simp [retPV, over, keys, List.map_nil, List.map_cons, List.contains_cons, List.contains_nil, Bool.or_false, Bool.or_true, Bool.true_or, Bool.false_or, beq_self_eq_true, cond_true, cond_false, HeapCov, orNil, nilSz, onBlk, srcOf, getH_hit, getH_miss, getH.eq_1, getS_hit, getS_miss, getS.eq_1, BlkCov, PVCovs, PVCov, ColsEq, ColEq.refl, liveIds, SlotsCov, List.all_nil, List.all_cons, List.any_nil, List.any_cons, List.nil_append, List.cons_append, inRange, apart, nilBlk, idS1, idS2, readAll, readRes, onAll, step, res, AX.val, List.drop_zero, List.drop_succ_cons, List.take_succ_cons, List.take_zero]
set_option maxHeartbeats 4000000 in
theorem faultsFault_ok (nl nf : Bool) (t : List (List UInt8)) (long : Nat) (fs : List Flt) (nid : Nat) (h : TestOk t long) (hfl : fs.length ≤ 20000) (hf : ∀ f ∈ fs, FltRight t.length f) : ACall Tryd.prog 143 [litS nl t, litF nf fs] [] nid (.int .i64 0) [] := by
  have h1 := h.pos; have h2 := h.len
  refine acall_run c143 (by simp [a143]) ?_
  have hct := fun k => checkTest_ok nl t long k h
  unfold litS litF colsF at *
  simp -dsimp only [aqT, ROp, OX, ↓seqK, ↓blkK, ↓loopK, step, stepBin, res, stepIdx, mix, PV.cells, argSlots, Nat.reduceBEq, Nat.reduceBeqDiff, Nat.add_assoc nid, Nat.reduceAdd, reduceCtorEq, ↓reduceIte, Nat.reduceLeDiff, colPV, freeOf, indep, offO, neqO, disj, namesX, axSlot, opXs, rdXs, idsOf, idsOfs, lowH, lowAll, keys, Nat.reduceBneDiff, Option.toList, ← Int.ofNat_tmod, ← Int.ofNat_tdiv, optInt, fillP, repl, chunk, mkCols, mkCol, colInts, colBools, colStrs, colLits, colsApp, Col.app, tailOf, splice, colsPut, Col.put, mmFold, eqK, Nat.reduceLT, colsPaste, Col.paste, mNew, mkKey, keyIn, mGet, mPut, Int.cast_ofNat_Int, Int.reduceBEq, Int.reduceBNe, Int.reduceLT, Int.reduceLE, Int.reduceAdd, Int.reduceSub, Int.reduceMul, Int.reduceToNat, Int.reduceNeg, Int.reduceTMod, Int.reduceEq, not_false_eq_true, Int.reducePow, Int.reduceFDiv, Nat.reducePow, Nat.reduceSub, Nat.reduceMul, Nat.min_eq_left, Nat.reduceEqDiff, BEq.rfl, Int.tdiv_one, LN_succ, a143]
  refine CallO.pure (hct _) ?_
  simp -dsimp only [aqT, ROp, OX, ↓seqK, ↓blkK, ↓loopK, step, stepBin, res, stepIdx, mix, PV.cells, argSlots, Nat.reduceBEq, Nat.reduceBeqDiff, Nat.add_assoc nid, Nat.reduceAdd, reduceCtorEq, ↓reduceIte, Nat.reduceLeDiff, colPV, freeOf, indep, offO, neqO, disj, namesX, axSlot, opXs, rdXs, idsOf, idsOfs, lowH, lowAll, keys, Nat.reduceBneDiff, Option.toList, ← Int.ofNat_tmod, ← Int.ofNat_tdiv, optInt, fillP, repl, chunk, mkCols, mkCol, colInts, colBools, colStrs, colLits, colsApp, Col.app, tailOf, splice, colsPut, Col.put, mmFold, eqK, Nat.reduceLT, colsPaste, Col.paste, mNew, mkKey, keyIn, mGet, mPut, Int.cast_ofNat_Int, Int.reduceBEq, Int.reduceBNe, Int.reduceLT, Int.reduceLE, Int.reduceAdd, Int.reduceSub, Int.reduceMul, Int.reduceToNat, Int.reduceNeg, Int.reduceTMod, Int.reduceEq, not_false_eq_true, Int.reducePow, Int.reduceFDiv, Nat.reducePow, Nat.reduceSub, Nat.reduceMul, Nat.min_eq_left, Nat.reduceEqDiff, BEq.rfl, Int.tdiv_one, LN_succ]
  refine LP.mkP (fun x : Nat => x ≤ fs.length) (fun x : Nat => ⟨[(16, .int .i64 x), (15, .int .i64 fs.length), (14, litF nf fs), (0, litS nl t)], [], nid + 200, nid⟩) (fun x => fs.length + 1 - x) 0 (by omega) (Cov.go [] [] ?_) (fun x hx => ?_)
  · simp [retPV, over, keys, List.map_nil, List.map_cons, List.contains_cons, List.contains_nil, Bool.or_false, Bool.or_true, Bool.true_or, Bool.false_or, beq_self_eq_true, cond_true, cond_false, HeapCov, orNil, nilSz, onBlk, srcOf, getH_hit, getH_miss, getH.eq_1, getS_hit, getS_miss, getS.eq_1, BlkCov, PVCovs, PVCov, ColsEq, ColEq.refl, liveIds, SlotsCov, List.all_nil, List.all_cons, List.any_nil, List.any_cons, List.nil_append, List.cons_append, inRange, apart, nilBlk, idS1, idS2, readAll, readRes, onAll, step, res, AX.val, List.drop_zero, List.drop_succ_cons, List.take_succ_cons, List.take_zero, litS, litF, colsF, -List.getD_eq_getElem?_getD]
  unfold litS litF colsF
  simp -dsimp only [aqT, ROp, OX, ↓seqK, ↓blkK, ↓loopK, step, stepBin, res, stepIdx, mix, PV.cells, argSlots, Nat.reduceBEq, Nat.reduceBeqDiff, Nat.add_assoc nid, Nat.reduceAdd, reduceCtorEq, ↓reduceIte, Nat.reduceLeDiff, colPV, freeOf, indep, offO, neqO, disj, namesX, axSlot, opXs, rdXs, idsOf, idsOfs, lowH, lowAll, keys, Nat.reduceBneDiff, Option.toList, ← Int.ofNat_tmod, ← Int.ofNat_tdiv, optInt, fillP, repl, chunk, mkCols, mkCol, colInts, colBools, colStrs, colLits, colsApp, Col.app, tailOf, splice, colsPut, Col.put, mmFold, eqK, Nat.reduceLT, colsPaste, Col.paste, mNew, mkKey, keyIn, mGet, mPut, Int.cast_ofNat_Int, Int.reduceBEq, Int.reduceBNe, Int.reduceLT, Int.reduceLE, Int.reduceAdd, Int.reduceSub, Int.reduceMul, Int.reduceToNat, Int.reduceNeg, Int.reduceTMod, Int.reduceEq, not_false_eq_true, Int.reducePow, Int.reduceFDiv, Nat.reducePow, Nat.reduceSub, Nat.reduceMul, Nat.min_eq_left, Nat.reduceEqDiff, BEq.rfl, Int.tdiv_one, LN_succ]
  refine S2.dec (fun h3 => ?_) (fun h3 => ?_) <;> simp -dsimp only [aqT, ROp, OX, ↓seqK, ↓blkK, ↓loopK, step, stepBin, res, stepIdx, mix, PV.cells, argSlots, Nat.reduceBEq, Nat.reduceBeqDiff, Nat.add_assoc nid, Nat.reduceAdd, reduceCtorEq, ↓reduceIte, Nat.reduceLeDiff, colPV, freeOf, indep, offO, neqO, disj, namesX, axSlot, opXs, rdXs, idsOf, idsOfs, lowH, lowAll, keys, Nat.reduceBneDiff, Option.toList, ← Int.ofNat_tmod, ← Int.ofNat_tdiv, optInt, fillP, repl, chunk, mkCols, mkCol, colInts, colBools, colStrs, colLits, colsApp, Col.app, tailOf, splice, colsPut, Col.put, mmFold, eqK, Nat.reduceLT, colsPaste, Col.paste, mNew, mkKey, keyIn, mGet, mPut, Int.cast_ofNat_Int, Int.reduceBEq, Int.reduceBNe, Int.reduceLT, Int.reduceLE, Int.reduceAdd, Int.reduceSub, Int.reduceMul, Int.reduceToNat, Int.reduceNeg, Int.reduceTMod, Int.reduceEq, not_false_eq_true, Int.reducePow, Int.reduceFDiv, Nat.reducePow, Nat.reduceSub, Nat.reduceMul, Nat.min_eq_left, Nat.reduceEqDiff, BEq.rfl, Int.tdiv_one, LN_succ]
  · have hxt : x < fs.length := by omega
    have hfx := getD_all (P := fun f => FltRight t.length f) (d := f0) hf hxt
    have hcf := fun k => checkFault_ok false t.length (fs.getD x f0) k (by omega) (by omega) hfx
    unfold fltP netsP at hcf
    refine ⟨by omega, CallO.pure (hcf _) ?_⟩
    simp -dsimp only [aqT, ROp, OX, ↓seqK, ↓blkK, ↓loopK, step, stepBin, res, stepIdx, mix, PV.cells, argSlots, Nat.reduceBEq, Nat.reduceBeqDiff, Nat.add_assoc nid, Nat.reduceAdd, reduceCtorEq, ↓reduceIte, Nat.reduceLeDiff, colPV, freeOf, indep, offO, neqO, disj, namesX, axSlot, opXs, rdXs, idsOf, idsOfs, lowH, lowAll, keys, Nat.reduceBneDiff, Option.toList, ← Int.ofNat_tmod, ← Int.ofNat_tdiv, optInt, fillP, repl, chunk, mkCols, mkCol, colInts, colBools, colStrs, colLits, colsApp, Col.app, tailOf, splice, colsPut, Col.put, mmFold, eqK, Nat.reduceLT, colsPaste, Col.paste, mNew, mkKey, keyIn, mGet, mPut, Int.cast_ofNat_Int, Int.reduceBEq, Int.reduceBNe, Int.reduceLT, Int.reduceLE, Int.reduceAdd, Int.reduceSub, Int.reduceMul, Int.reduceToNat, Int.reduceNeg, Int.reduceTMod, Int.reduceEq, not_false_eq_true, Int.reducePow, Int.reduceFDiv, Nat.reducePow, Nat.reduceSub, Nat.reduceMul, Nat.min_eq_left, Nat.reduceEqDiff, BEq.rfl, Int.tdiv_one, LN_succ]
    refine ⟨by unfold inI64; omega, x + 1, ⟨by omega, by omega⟩, Cov.go [] [] ?_⟩
    simp [retPV, over, keys, List.map_nil, List.map_cons, List.contains_cons, List.contains_nil, Bool.or_false, Bool.or_true, Bool.true_or, Bool.false_or, beq_self_eq_true, cond_true, cond_false, HeapCov, orNil, nilSz, onBlk, srcOf, getH_hit, getH_miss, getH.eq_1, getS_hit, getS_miss, getS.eq_1, BlkCov, PVCovs, PVCov, ColsEq, ColEq.refl, liveIds, SlotsCov, List.all_nil, List.all_cons, List.any_nil, List.any_cons, List.nil_append, List.cons_append, inRange, apart, nilBlk, idS1, idS2, readAll, readRes, onAll, step, res, AX.val, List.drop_zero, List.drop_succ_cons, List.take_succ_cons, List.take_zero, litS, litF, colsF, -List.getD_eq_getElem?_getD]
  · refine RetOK.pure (.inl rfl) rfl ?_
    simp [retPV, over, keys, List.map_nil, List.map_cons, List.contains_cons, List.contains_nil, Bool.or_false, Bool.or_true, Bool.true_or, Bool.false_or, beq_self_eq_true, cond_true, cond_false, HeapCov, orNil, nilSz, onBlk, srcOf, getH_hit, getH_miss, getH.eq_1, getS_hit, getS_miss, getS.eq_1, BlkCov, PVCovs, PVCov, ColsEq, ColEq.refl, liveIds, SlotsCov, List.all_nil, List.all_cons, List.any_nil, List.any_cons, List.nil_append, List.cons_append, inRange, apart, nilBlk, idS1, idS2, readAll, readRes, onAll, step, res, AX.val, List.drop_zero, List.drop_succ_cons, List.take_succ_cons, List.take_zero]
theorem manyFault_ok (nl nf : Bool) (t : List (List UInt8)) (long : Nat) (fs : List Flt) (nid : Nat) (h : TestOk t long) (hfl : fs.length ≤ 20000) (hf : ∀ f ∈ fs, FltRight t.length f) : ACall Tryd.prog 104 [litS nl t, litF nf fs] [] nid (.int .i64 0) [] := by
  refine acall_run c104 (by simp [a104]) ?_
  have hct := fun k => checkTest_ok nl t long k h
  have hff := fun k => faultsFault_ok nl nf t long fs k h hfl hf
  unfold litS litF colsF at *
  simp -dsimp only [aqT, ROp, OX, ↓seqK, ↓blkK, ↓loopK, step, stepBin, res, stepIdx, mix, PV.cells, argSlots, Nat.reduceBEq, Nat.reduceBeqDiff, Nat.add_assoc nid, Nat.reduceAdd, reduceCtorEq, ↓reduceIte, Nat.reduceLeDiff, colPV, freeOf, indep, offO, neqO, disj, namesX, axSlot, opXs, rdXs, idsOf, idsOfs, lowH, lowAll, keys, Nat.reduceBneDiff, Option.toList, ← Int.ofNat_tmod, ← Int.ofNat_tdiv, optInt, fillP, repl, chunk, mkCols, mkCol, colInts, colBools, colStrs, colLits, colsApp, Col.app, tailOf, splice, colsPut, Col.put, mmFold, eqK, Nat.reduceLT, colsPaste, Col.paste, mNew, mkKey, keyIn, mGet, mPut, Int.cast_ofNat_Int, Int.reduceBEq, Int.reduceBNe, Int.reduceLT, Int.reduceLE, Int.reduceAdd, Int.reduceSub, Int.reduceMul, Int.reduceToNat, Int.reduceNeg, Int.reduceTMod, Int.reduceEq, not_false_eq_true, Int.reducePow, Int.reduceFDiv, Nat.reducePow, Nat.reduceSub, Nat.reduceMul, Nat.min_eq_left, Nat.reduceEqDiff, BEq.rfl, Int.tdiv_one, LN_succ, a104]
  refine CallO.pure (hct _) ?_
  simp -dsimp only [aqT, ROp, OX, ↓seqK, ↓blkK, ↓loopK, step, stepBin, res, stepIdx, mix, PV.cells, argSlots, Nat.reduceBEq, Nat.reduceBeqDiff, Nat.add_assoc nid, Nat.reduceAdd, reduceCtorEq, ↓reduceIte, Nat.reduceLeDiff, colPV, freeOf, indep, offO, neqO, disj, namesX, axSlot, opXs, rdXs, idsOf, idsOfs, lowH, lowAll, keys, Nat.reduceBneDiff, Option.toList, ← Int.ofNat_tmod, ← Int.ofNat_tdiv, optInt, fillP, repl, chunk, mkCols, mkCol, colInts, colBools, colStrs, colLits, colsApp, Col.app, tailOf, splice, colsPut, Col.put, mmFold, eqK, Nat.reduceLT, colsPaste, Col.paste, mNew, mkKey, keyIn, mGet, mPut, Int.cast_ofNat_Int, Int.reduceBEq, Int.reduceBNe, Int.reduceLT, Int.reduceLE, Int.reduceAdd, Int.reduceSub, Int.reduceMul, Int.reduceToNat, Int.reduceNeg, Int.reduceTMod, Int.reduceEq, not_false_eq_true, Int.reducePow, Int.reduceFDiv, Nat.reducePow, Nat.reduceSub, Nat.reduceMul, Nat.min_eq_left, Nat.reduceEqDiff, BEq.rfl, Int.tdiv_one, LN_succ]
  refine S2.no (by simp; omega) ?_
  simp -dsimp only [aqT, ROp, OX, ↓seqK, ↓blkK, ↓loopK, step, stepBin, res, stepIdx, mix, PV.cells, argSlots, Nat.reduceBEq, Nat.reduceBeqDiff, Nat.add_assoc nid, Nat.reduceAdd, reduceCtorEq, ↓reduceIte, Nat.reduceLeDiff, colPV, freeOf, indep, offO, neqO, disj, namesX, axSlot, opXs, rdXs, idsOf, idsOfs, lowH, lowAll, keys, Nat.reduceBneDiff, Option.toList, ← Int.ofNat_tmod, ← Int.ofNat_tdiv, optInt, fillP, repl, chunk, mkCols, mkCol, colInts, colBools, colStrs, colLits, colsApp, Col.app, tailOf, splice, colsPut, Col.put, mmFold, eqK, Nat.reduceLT, colsPaste, Col.paste, mNew, mkKey, keyIn, mGet, mPut, Int.cast_ofNat_Int, Int.reduceBEq, Int.reduceBNe, Int.reduceLT, Int.reduceLE, Int.reduceAdd, Int.reduceSub, Int.reduceMul, Int.reduceToNat, Int.reduceNeg, Int.reduceTMod, Int.reduceEq, not_false_eq_true, Int.reducePow, Int.reduceFDiv, Nat.reducePow, Nat.reduceSub, Nat.reduceMul, Nat.min_eq_left, Nat.reduceEqDiff, BEq.rfl, Int.tdiv_one, LN_succ]
  refine CallO.pure (hff _) ?_
  simp -dsimp only [aqT, ROp, OX, ↓seqK, ↓blkK, ↓loopK, step, stepBin, res, stepIdx, mix, PV.cells, argSlots, Nat.reduceBEq, Nat.reduceBeqDiff, Nat.add_assoc nid, Nat.reduceAdd, reduceCtorEq, ↓reduceIte, Nat.reduceLeDiff, colPV, freeOf, indep, offO, neqO, disj, namesX, axSlot, opXs, rdXs, idsOf, idsOfs, lowH, lowAll, keys, Nat.reduceBneDiff, Option.toList, ← Int.ofNat_tmod, ← Int.ofNat_tdiv, optInt, fillP, repl, chunk, mkCols, mkCol, colInts, colBools, colStrs, colLits, colsApp, Col.app, tailOf, splice, colsPut, Col.put, mmFold, eqK, Nat.reduceLT, colsPaste, Col.paste, mNew, mkKey, keyIn, mGet, mPut, Int.cast_ofNat_Int, Int.reduceBEq, Int.reduceBNe, Int.reduceLT, Int.reduceLE, Int.reduceAdd, Int.reduceSub, Int.reduceMul, Int.reduceToNat, Int.reduceNeg, Int.reduceTMod, Int.reduceEq, not_false_eq_true, Int.reducePow, Int.reduceFDiv, Nat.reducePow, Nat.reduceSub, Nat.reduceMul, Nat.min_eq_left, Nat.reduceEqDiff, BEq.rfl, Int.tdiv_one, LN_succ]
  refine RetOK.pure (.inl rfl) rfl ?_
  simp [retPV, over, keys, List.map_nil, List.map_cons, List.contains_cons, List.contains_nil, Bool.or_false, Bool.or_true, Bool.true_or, Bool.false_or, beq_self_eq_true, cond_true, cond_false, HeapCov, orNil, nilSz, onBlk, srcOf, getH_hit, getH_miss, getH.eq_1, getS_hit, getS_miss, getS.eq_1, BlkCov, PVCovs, PVCov, ColsEq, ColEq.refl, liveIds, SlotsCov, List.all_nil, List.all_cons, List.any_nil, List.any_cons, List.nil_append, List.cons_append, inRange, apart, nilBlk, idS1, idS2, readAll, readRes, onAll, step, res, AX.val, List.drop_zero, List.drop_succ_cons, List.take_succ_cons, List.take_zero]
end Go.Proofs.YthcldfmlfjomfaaDoor
namespace Go.Proofs.YthcldfmlfjomfaaDoor
open Go.RowKit
end Go.Proofs.YthcldfmlfjomfaaDoor
namespace Go.Proofs.YthcldfmlfjomfaaDoor
open Go.RowKit
end Go.Proofs.YthcldfmlfjomfaaDoor
namespace Go.Proofs.YthcldfmlfjomfaaDoor
open Go.RowKit
end Go.Proofs.YthcldfmlfjomfaaDoor
namespace Go.Proofs.YthcldfmlfjomfaaDoor
open Go.RowKit
def cmpK (n : Nat) : Nat := ((List.range 14).find? fun j => decide (1 ≤ j) && decide (n ≤ 2 ^ j)).getD 0
end Go.Proofs.YthcldfmlfjomfaaDoor
namespace Go.Proofs.YthcldfmlfjomfaaDoor
open Go.RowKit
def PickN (n : Nat) : Prop := n ∈ [1, 2, 3, 5, 20, 70, 100]
theorem PickN.bd {n : Nat} (h : PickN n) : 1 ≤ n ∧ n ≤ 100 := by
  unfold PickN at h
  simp only [List.mem_cons, List.not_mem_nil, or_false] at h
  omega
end Go.Proofs.YthcldfmlfjomfaaDoor
namespace Go.Proofs.YthcldfmlfjomfaaDoor
def shortK (k : Nat) : Bool := decide (3 ≤ k) && decide (k ≤ 5)
def takeB (k a b : Nat) : Bool := decide (a < b) || (decide (b < a) && decide (k = 5))
def rowB (k a m : Nat) : List Flt := ((List.range m).filter (takeB k a)).map fun b => ⟨k, [a, b]⟩
def rowA (n k a : Nat) : List Flt := if shortK k then rowB k a n else [⟨k, [a]⟩]
def allK (n k m : Nat) : List Flt := (List.range m).flatMap (rowA n k)
def allV (n : Nat) (ks : List Nat) : List Flt := ks.flatMap fun k => allK n k n
theorem rowB_yes {k a b : Nat} (h : takeB k a b = true) : rowB k a (b + 1) = rowB k a b ++ [⟨k, [a, b]⟩] := by
  unfold rowB
  rw [List.range_succ, List.filter_append, List.map_append]
  simp [h]
theorem rowB_no {k a b : Nat} (h : takeB k a b = false) : rowB k a (b + 1) = rowB k a b := by
  unfold rowB
  rw [List.range_succ, List.filter_append, List.map_append]
  simp [h]
theorem allK_one {n k a : Nat} (h : shortK k = false) : allK n k (a + 1) = allK n k a ++ [⟨k, [a]⟩] := by
  unfold allK
  rw [List.range_succ, List.flatMap_append]
  simp [rowA, h]
theorem allK_two {n k a : Nat} (h : shortK k = true) : allK n k (a + 1) = allK n k a ++ rowB k a n := by
  unfold allK
  rw [List.range_succ, List.flatMap_append]
  simp [rowA, h]
theorem allV_step {n : Nat} {ks : List Nat} {i : Nat} (hi : i < ks.length) : allV n (ks.take (i + 1)) = allV n (ks.take i) ++ allK n (ks.getD i 0) n := by
  unfold allV
  rw [take_snoc (x := ks.getD i 0) (by rw [List.getD_eq_getElem?_getD, List.getElem?_eq_getElem hi]; rfl), List.flatMap_append]
  simp
theorem rowB_len (k a m : Nat) : (rowB k a m).length ≤ m := by
  unfold rowB
  rw [List.length_map]
  exact Nat.le_trans (List.length_filter_le _ _) (by simp)
theorem allK_len (n k : Nat) : ∀ m, (allK n k m).length ≤ m * (n + 1)
  | 0 => by simp [allK]
  | m + 1 => by
    have h := allK_len n k m
    have e : (m + 1) * (n + 1) = m * (n + 1) + (n + 1) := Nat.succ_mul m (n + 1)
    cases hs : shortK k
    · rw [allK_one hs, List.length_append]; simp; omega
    · rw [allK_two hs, List.length_append]
      have := rowB_len k m n
      omega
theorem allV_len (n : Nat) : ∀ ks : List Nat, (allV n ks).length ≤ ks.length * (n * (n + 1))
  | [] => by simp [allV]
  | k :: ks => by
    have h := allV_len n ks
    have h2 := allK_len n k n
    have e : allV n (k :: ks) = allK n k n ++ allV n ks := by simp [allV]
    rw [e, List.length_append, List.length_cons, Nat.succ_mul]
    omega
structure KindsOk (ks : List Nat) : Prop where
  len : ks.length ≤ 6
  bd : ∀ k ∈ ks, 1 ≤ k ∧ k ≤ 6
  up : ∀ i, 1 ≤ i → i < ks.length → ks.getD (i - 1) 0 < ks.getD i 0
theorem kinds34 : KindsOk [3, 4] := ⟨by simp, by intro k hk; simp at hk; omega, by
  intro i h1 h2
  have : i = 1 := by simp at h2; omega
  subst this; simp⟩
theorem allV_good {n : Nat} {ks : List Nat} (hk : KindsOk ks) : ∀ f ∈ allV n ks, FltGood n f := fun f hf => by
  unfold allV at hf
  obtain ⟨k, hks, hf⟩ := List.mem_flatMap.1 hf
  obtain ⟨k1, k6⟩ := hk.bd k hks
  unfold allK at hf
  obtain ⟨a, ha, hf⟩ := List.mem_flatMap.1 hf
  have ha := List.mem_range.1 ha
  unfold rowA at hf
  cases hs : shortK k
  · rw [hs] at hf
    simp only [Bool.false_eq_true, if_false, List.mem_singleton] at hf
    subst hf
    unfold shortK at hs
    simp at hs
    exact .one (by omega) ha
  · rw [hs] at hf
    simp only [if_true] at hf
    unfold rowB at hf
    obtain ⟨b, hb, rfl⟩ := List.mem_map.1 hf
    obtain ⟨hb1, hb2⟩ := List.mem_filter.1 hb
    have hb1 := List.mem_range.1 hb1
    unfold shortK at hs
    simp at hs
    unfold takeB at hb2
    simp at hb2
    by_cases h5 : k = 5
    · subst h5
      exact .fst (by omega) ha hb1
    · exact .two (by omega) (by omega) hb1
def undV (t : List (List UInt8)) (fs : List Flt) (ones : Nat) : List Nat := (List.range fs.length).filter fun i => (maskL t fs ones).getD i 0 == 0
theorem covers_all : ((List.range 12).all fun m => (allV (m + 1) [1, 2, 3, 4, 5, 6]).all fun f => !(detV ((cmpS (m + 1) (cmpK (m + 1))).map rowN) f (2 ^ (2 * cmpK (m + 1)) - 1) == 0)) = true := by kernel_rfl
theorem covers {n : Nat} (h1 : 1 ≤ n) (h2 : n ≤ 12) : undV (cmpS n (cmpK n)) (allV n [1, 2, 3, 4, 5, 6]) (2 ^ (2 * cmpK n) - 1) = [] := by
  obtain ⟨m, rfl⟩ : ∃ m, n = m + 1 := ⟨n - 1, by omega⟩
  have := List.all_eq_true.1 covers_all m (by simp; omega)
  unfold undV
  rw [List.filter_eq_nil_iff]
  intro i hi
  have hi := List.mem_range.1 hi
  unfold maskL
  have hf := List.all_eq_true.1 this ((allV (m + 1) [1, 2, 3, 4, 5, 6])[i]) (List.getElem_mem _)
  rw [List.getD_eq_getElem?_getD, List.getElem?_map, List.getElem?_eq_getElem hi]
  simpa using hf
end Go.Proofs.YthcldfmlfjomfaaDoor
