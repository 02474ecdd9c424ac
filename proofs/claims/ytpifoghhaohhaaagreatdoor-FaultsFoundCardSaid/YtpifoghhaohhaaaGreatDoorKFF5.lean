/-
  Dictionaries that the stream makes, by the abstract machine.
-/
import Derived.Test.YtpifoghhaohhaaaGreatDoorKFF4
import Derived.Test.YtpifoghhaohhaaaGreatDoorKFF3
import Derived.Lib.Bytealg
import Derived.Laws.Externs
set_option linter.unusedVariables false
set_option linter.unusedSimpArgs false
set_option maxRecDepth 100000
namespace Go.Proofs.YtpifoghhaohhaaaGreatDoor
open Go.RowKit Go.Shelf Go.Lib
set_option maxHeartbeats 8000000 in
theorem dict_I (s nid : Nat) (nl : Bool) (A : List Int) (p faults tests : Nat) (h : s < nid) (hp : p ≤ 1099500000000) (hA : A.length ≤ 17592186044416) (hf : faults ≤ 7) (ht1 : 1 ≤ tests) (ht : tests ≤ 6) :
    ACallI Tryz.prog 14 [.ptr s 0, .int .i64 (faults : Nat), .int .i64 (tests : Nat)] [(s, strmC nl A p)] nid (fun x : DictX => DictB tests x.G x.R ∧ x.q ≤ p + 1000) (fun x => dictP x.g0 x.r0 x.b x.G x.R) (fun x => [(s, strmC nl A x.q)]) := by
  obtain ⟨e1, e2, e3, e4, e5, e6, e7, e8, e9⟩ := id_all h
  refine acallI_sr c14 (by simp [a14]) ?_
  unfold a14
  refine SR.seq ?_
  simp -dsimp only [aqT, aqU, aqN, aqS, ↓seqK, ↓blkK, ↓loopK, step, stepBin, Nat.add_assoc nid, ↓reduceIte, Option.toList, ← Int.ofNat_tmod, ← Int.ofNat_tdiv, simprocAttr, BEq.rfl, LN_succ, e1, e2, e3, e4, e5, e6, e7, e8, e9]
  refine SR.seq ?_
  simp -dsimp only [aqT, aqU, aqN, aqS, ↓seqK, ↓blkK, ↓loopK, step, stepBin, Nat.add_assoc nid, ↓reduceIte, Option.toList, ← Int.ofNat_tmod, ← Int.ofNat_tdiv, simprocAttr, BEq.rfl, LN_succ, e1, e2, e3, e4, e5, e6, e7, e8, e9]
  refine SR.seq ?_
  simp -dsimp only [aqT, aqU, aqN, aqS, ↓seqK, ↓blkK, ↓loopK, step, stepBin, Nat.add_assoc nid, ↓reduceIte, Option.toList, ← Int.ofNat_tmod, ← Int.ofNat_tdiv, simprocAttr, BEq.rfl, LN_succ, e1, e2, e3, e4, e5, e6, e7, e8, e9]
  have hmd := rangeV_bd A p (lo := 1) (hi := (tests : Int)) (by omega)
  obtain ⟨m, hm⟩ : ∃ m : Nat, rangeV A p 1 tests = m := ⟨_, (Int.toNat_of_nonneg (by omega)).symm⟩
  refine SR.seqW (ι := {G : List (List UInt8) // G.length = m ∧ ShortRows 2 G}) (fun G => ⟨[(8, .fn 82 [.ptr nid 0]), (7, .ptr (nid + 8) 0), (6, .ptr (nid + 4) 0), (3, .ptr nid 0), (1, .int .i64 (faults : Nat))], [(nid, boxP s), (nid + 4, some (.box 29 [.lit true 0 [], .lit true 0 []])), (nid + 8, some (.box 29 [.sl (nid + 20) 0 G.1.length, .lit true 0 []])), (nid + 20, arrS G.1), (s, strmC nl A (p + 1 + m))], nid + 1000, nid⟩) ?_ (fun ⟨G, hG1, hG2⟩ => ?_)
  · refine SR.seqTo ⟨[(17, .int .i64 0), (16, .int .i64 (m : Nat)), (8, .fn 82 [.ptr nid 0]), (7, .ptr (nid + 8) 0), (6, .ptr (nid + 4) 0), (3, .ptr nid 0), (1, .int .i64 (faults : Nat))], [(nid, boxP s), (nid + 4, some (.box 29 [.lit true 0 [], .lit true 0 []])), (nid + 8, some (.box 29 [.lit true 0 [], .lit true 0 []])), (s, strmC nl A (p + 1))], nid + 100, nid⟩ ?_ ?_
    · simp -dsimp only [aqT, aqU, aqN, ↓seqK, ↓blkK, ↓loopK, step, stepBin, Nat.reduceBEq, Nat.reduceBeqDiff, Nat.add_assoc nid, Nat.reduceAdd, reduceCtorEq, ↓reduceIte, Nat.reduceLeDiff, Nat.reduceBneDiff, Option.toList, ← Int.ofNat_tmod, ← Int.ofNat_tdiv, Nat.reduceLT, e1, e2, e3, e4, e5, e6, e7, e8, e9]
      refine CallO.on (range_c s _ nl A p 1 tests (by omega) (by omega) hA (by omega) (by omega) (by omega)) (subH_get (by simp only [aqT, aqU, aqN, ↓seqK, ↓blkK, ↓loopK, step, stepBin, Nat.reduceBEq, Nat.reduceBeqDiff, Nat.add_assoc nid, Nat.reduceAdd, reduceCtorEq, ↓reduceIte, Nat.reduceLeDiff, Nat.reduceBneDiff, Option.toList, ← Int.ofNat_tmod, ← Int.ofNat_tdiv, Nat.reduceLT, e1, e2, e3, e4, e5, e6, e7, e8, e9])) ?_
      rw [hm]
      simp -dsimp only [aqT, aqU, aqN, ↓seqK, ↓blkK, ↓loopK, step, stepBin, Nat.reduceBEq, Nat.reduceBeqDiff, Nat.add_assoc nid, Nat.reduceAdd, reduceCtorEq, ↓reduceIte, Nat.reduceLeDiff, Nat.reduceBneDiff, Option.toList, ← Int.ofNat_tmod, ← Int.ofNat_tdiv, Nat.reduceLT, e1, e2, e3, e4, e5, e6, e7, e8, e9, strmC_low]
      refine Cov.go [] [] ?_
      simp [retPV, over, keys, List.map_nil, List.map_cons, List.contains_cons, List.contains_nil, Bool.or_false, Bool.or_true, Bool.true_or, Bool.false_or, beq_self_eq_true, cond_true, cond_false, HeapCov, orNil, nilSz, onBlk, srcOf, getH_hit, getH_miss, getH.eq_1, getS_hit, getS_miss, getS.eq_1, BlkCov, PVCovs, PVCov, ColsEq, AColsEq, ACEq, ColEq.refl, liveIds, SlotsCov, List.all_nil, List.all_cons, List.any_nil, List.any_cons, List.nil_append, List.cons_append, inRange, apart, nilBlk, idS1, idS2, readAll, readRes, onAll, step, res, AX.val, List.drop_zero, List.drop_succ_cons, List.take_succ_cons, List.take_zero, e1, e2, e3, e4, e5, e6, e7, e8, e9, boxP, strmC]
    refine SR.run (t := .mk) ?_
    unfold boxP
    simp -dsimp only [aqT, aqU, aqN, ↓seqK, ↓blkK, ↓loopK, step, stepBin, Nat.reduceBEq, Nat.reduceBeqDiff, Nat.add_assoc nid, Nat.reduceAdd, reduceCtorEq, ↓reduceIte, Nat.reduceLeDiff, Nat.reduceBneDiff, Option.toList, ← Int.ofNat_tmod, ← Int.ofNat_tdiv, Nat.reduceLT, e1, e2, e3, e4, e5, e6, e7, e8, e9, strmC_low]
    refine LP.mkP (fun G : List (List UInt8) => G.length ≤ m ∧ ShortRows 2 G) (fun G => ⟨[(17, .int .i64 G.length), (16, .int .i64 (m : Nat)), (8, .fn 82 [.ptr nid 0]), (7, .ptr (nid + 8) 0), (6, .ptr (nid + 4) 0), (3, .ptr nid 0), (1, .int .i64 (faults : Nat))], [(nid, boxP s), (nid + 4, some (.box 29 [.lit true 0 [], .lit true 0 []])), (nid + 8, some (.box 29 [.sl (nid + 20) 0 G.length, .lit true 0 []])), (nid + 20, arrS G), (s, strmC nl A (p + 1 + G.length))], nid + 200, nid⟩) (fun G => m + 1 - G.length) [] ⟨by simp, fun r hr => by simp at hr⟩ (Cov.go [] [(nid + 20, 1)] ?_) (fun G hG => ?_)
    · simp [retPV, over, keys, List.map_nil, List.map_cons, List.contains_cons, List.contains_nil, Bool.or_false, Bool.or_true, Bool.true_or, Bool.false_or, beq_self_eq_true, cond_true, cond_false, HeapCov, orNil, nilSz, onBlk, srcOf, getH_hit, getH_miss, getH.eq_1, getS_hit, getS_miss, getS.eq_1, BlkCov, PVCovs, PVCov, ColsEq, AColsEq, ACEq, ColEq.refl, liveIds, SlotsCov, List.all_nil, List.all_cons, List.any_nil, List.any_cons, List.nil_append, List.cons_append, inRange, apart, nilBlk, idS1, idS2, readAll, readRes, onAll, step, res, AX.val, List.drop_zero, List.drop_succ_cons, List.take_succ_cons, List.take_zero, e1, e2, e3, e4, e5, e6, e7, e8, e9, boxP, arrS, strmC]
    obtain ⟨hG1, hG2⟩ := hG
    have hal := ansV_len A (p + 1 + G.length)
    unfold boxP arrS
    simp -dsimp only [aqT, aqU, aqN, ↓seqK, ↓blkK, ↓loopK, step, stepBin, Nat.reduceBEq, Nat.reduceBeqDiff, Nat.add_assoc nid, Nat.reduceAdd, reduceCtorEq, ↓reduceIte, Nat.reduceLeDiff, Nat.reduceBneDiff, Option.toList, ← Int.ofNat_tmod, ← Int.ofNat_tdiv, Nat.reduceLT, e1, e2, e3, e4, e5, e6, e7, e8, e9, strmC_low]
    refine S2.dec (fun h3 => ?_) (fun h3 => ?_) <;> simp -dsimp only [aqT, aqU, aqN, aqS, ↓seqK, ↓blkK, ↓loopK, step, stepBin, Nat.add_assoc nid, ↓reduceIte, Option.toList, ← Int.ofNat_tmod, ← Int.ofNat_tdiv, simprocAttr, BEq.rfl, LN_succ, e1, e2, e3, e4, e5, e6, e7, e8, e9, strmC_low]
    · refine CallX.on (ans_c s nid _ nl A (p + 1 + G.length) h (by omega) (by omega) hA) (subH_cons (by simp only [aqT, aqU, aqN, ↓seqK, ↓blkK, ↓loopK, step, stepBin, Nat.reduceBEq, Nat.reduceBeqDiff, Nat.add_assoc nid, Nat.reduceAdd, reduceCtorEq, ↓reduceIte, Nat.reduceLeDiff, Nat.reduceBneDiff, Option.toList, ← Int.ofNat_tmod, ← Int.ofNat_tdiv, Nat.reduceLT, e1, e2, e3, e4, e5, e6, e7, e8, e9, Int.cast_ofNat_Int, Int.reduceBEq, Int.reduceBNe, Int.reduceLT, Int.reduceLE, Int.reduceAdd, Int.reduceSub, Int.reduceMul, Int.reduceToNat, Int.reduceNeg, Int.reduceTMod, Int.reduceEq, not_false_eq_true, Int.reducePow, Int.reduceFDiv, Nat.reducePow, Nat.reduceSub, Nat.reduceMul, Nat.min_eq_left, Nat.reduceEqDiff, BEq.rfl, Int.tdiv_one, LN_succ, boxP]) (subH_get (by simp only [aqT, aqU, aqN, aqS, ↓seqK, ↓blkK, ↓loopK, step, stepBin, Nat.add_assoc nid, ↓reduceIte, Option.toList, ← Int.ofNat_tmod, ← Int.ofNat_tdiv, simprocAttr, BEq.rfl, LN_succ, e1, e2, e3, e4, e5, e6, e7, e8, e9]))) ?_
      simp -dsimp only [aqT, aqU, aqN, ↓seqK, ↓blkK, ↓loopK, step, stepBin, Nat.reduceBEq, Nat.reduceBeqDiff, Nat.add_assoc nid, Nat.reduceAdd, reduceCtorEq, ↓reduceIte, Nat.reduceLeDiff, Nat.reduceBneDiff, Option.toList, ← Int.ofNat_tmod, ← Int.ofNat_tdiv, Nat.reduceLT, e1, e2, e3, e4, e5, e6, e7, e8, e9, strmC_low]
      rw [getD_app1 G (ansV A (p + 1 + G.length)) rfl]
      have hl : (G ++ [ansV A (p + 1 + G.length)]).length = G.length + 1 := by simp
      refine ⟨?_, by omega, by unfold inI64; omega, G ++ [ansV A (p + 1 + G.length)], ⟨⟨by omega, hG2.snoc (by omega)⟩, by omega⟩, Cov.go [(nid + 20, nid + 224)] [] ?_⟩
      · simp
      simp [retPV, over, keys, List.map_nil, List.map_cons, List.contains_cons, List.contains_nil, Bool.or_false, Bool.or_true, Bool.true_or, Bool.false_or, beq_self_eq_true, cond_true, cond_false, HeapCov, orNil, nilSz, onBlk, srcOf, getH_hit, getH_miss, getH.eq_1, getS_hit, getS_miss, getS.eq_1, BlkCov, PVCovs, PVCov, ColsEq, AColsEq, ACEq, ColEq.refl, liveIds, SlotsCov, List.all_nil, List.all_cons, List.any_nil, List.any_cons, List.nil_append, List.cons_append, inRange, apart, nilBlk, idS1, idS2, readAll, readRes, onAll, step, res, AX.val, List.drop_zero, List.drop_succ_cons, List.take_succ_cons, List.take_zero, e1, e2, e3, e4, e5, e6, e7, e8, e9, boxP, arrS, strmC, hl, -List.length_append, -List.getD_eq_getElem?_getD]
      omega
    · have hGm : G.length = m := by omega
      refine ⟨⟨G, hGm, hG2⟩, Cov.go [] [] ?_⟩
      simp [retPV, over, keys, List.map_nil, List.map_cons, List.contains_cons, List.contains_nil, Bool.or_false, Bool.or_true, Bool.true_or, Bool.false_or, beq_self_eq_true, cond_true, cond_false, HeapCov, orNil, nilSz, onBlk, srcOf, getH_hit, getH_miss, getH.eq_1, getS_hit, getS_miss, getS.eq_1, BlkCov, PVCovs, PVCov, ColsEq, AColsEq, ACEq, ColEq.refl, liveIds, SlotsCov, List.all_nil, List.all_cons, List.any_nil, List.any_cons, List.nil_append, List.cons_append, inRange, apart, nilBlk, idS1, idS2, readAll, readRes, onAll, step, res, AX.val, List.drop_zero, List.drop_succ_cons, List.take_succ_cons, List.take_zero, e1, e2, e3, e4, e5, e6, e7, e8, e9, boxP, arrS, strmC, hGm, -List.getD_eq_getElem?_getD]
  have hnd := rangeV_bd A (p + 1 + m) (lo := 0) (hi := (faults : Int)) (by omega)
  obtain ⟨n, hn⟩ : ∃ n : Nat, rangeV A (p + 1 + m) 0 faults = n := ⟨_, (Int.toNat_of_nonneg (by omega)).symm⟩
  simp only
  refine SR.seqW (ι := {x : RowL × Nat // x.1.length = n ∧ x.2 ≤ p + 100 ∧ ∀ y ∈ x.1, y.1 ∈ namesL ∧ y.2.length = m ∧ ShortRows 101 y.2}) (fun x => ⟨[(7, .ptr (nid + 8) 0), (6, .ptr (nid + 4) 0), (3, .ptr nid 0)], [(nid, boxP s), (nid + 4, some (.box 29 [.lit true 0 [], .lit true 0 []])), (nid + 8, boxD (nid + 20) G.length (nid + 24) x.1.1.length), (nid + 20, arrS G), (s, strmC nl A x.1.2), (nid + 24, arrR nid x.1.1)] ++ famR nid x.1.1, nid + 4000, nid⟩) ?_ (fun ⟨⟨R, q⟩, hR1, hq, hR2⟩ => ?_)
  · unfold boxP arrS
    refine SR.seqTo ⟨[(30, .int .i64 0), (29, .int .i64 (n : Nat)), (8, .fn 82 [.ptr nid 0]), (7, .ptr (nid + 8) 0), (6, .ptr (nid + 4) 0), (3, .ptr nid 0)], [(nid, boxP s), (nid + 4, some (.box 29 [.lit true 0 [], .lit true 0 []])), (nid + 8, some (.box 29 [.sl (nid + 20) 0 G.length, .lit true 0 []])), (nid + 20, arrS G), (s, strmC nl A (p + 1 + m + 1))], nid + 1100, nid⟩ ?_ ?_
    · simp -dsimp only [aqT, aqU, aqN, ↓seqK, ↓blkK, ↓loopK, step, stepBin, Nat.reduceBEq, Nat.reduceBeqDiff, Nat.add_assoc nid, Nat.reduceAdd, reduceCtorEq, ↓reduceIte, Nat.reduceLeDiff, Nat.reduceBneDiff, Option.toList, ← Int.ofNat_tmod, ← Int.ofNat_tdiv, Nat.reduceLT, e1, e2, e3, e4, e5, e6, e7, e8, e9, strmC_low]
      refine CallO.on (range_c s _ nl A (p + 1 + m) 0 faults (by omega) (by omega) hA (by omega) (by omega) (by omega)) (subH_get (by simp only [aqT, aqU, aqN, ↓seqK, ↓blkK, ↓loopK, step, stepBin, Nat.reduceBEq, Nat.reduceBeqDiff, Nat.add_assoc nid, Nat.reduceAdd, reduceCtorEq, ↓reduceIte, Nat.reduceLeDiff, Nat.reduceBneDiff, Option.toList, ← Int.ofNat_tmod, ← Int.ofNat_tdiv, Nat.reduceLT, e1, e2, e3, e4, e5, e6, e7, e8, e9])) ?_
      rw [hn]
      simp -dsimp only [aqT, aqU, aqN, ↓seqK, ↓blkK, ↓loopK, step, stepBin, Nat.reduceBEq, Nat.reduceBeqDiff, Nat.add_assoc nid, Nat.reduceAdd, reduceCtorEq, ↓reduceIte, Nat.reduceLeDiff, Nat.reduceBneDiff, Option.toList, ← Int.ofNat_tmod, ← Int.ofNat_tdiv, Nat.reduceLT, e1, e2, e3, e4, e5, e6, e7, e8, e9, strmC_low]
      refine Cov.go [] [] ?_
      simp [retPV, over, keys, List.map_nil, List.map_cons, List.contains_cons, List.contains_nil, Bool.or_false, Bool.or_true, Bool.true_or, Bool.false_or, beq_self_eq_true, cond_true, cond_false, HeapCov, orNil, nilSz, onBlk, srcOf, getH_hit, getH_miss, getH.eq_1, getS_hit, getS_miss, getS.eq_1, BlkCov, PVCovs, PVCov, ColsEq, AColsEq, ACEq, ColEq.refl, liveIds, SlotsCov, List.all_nil, List.all_cons, List.any_nil, List.any_cons, List.nil_append, List.cons_append, inRange, apart, nilBlk, idS1, idS2, readAll, readRes, onAll, step, res, AX.val, List.drop_zero, List.drop_succ_cons, List.take_succ_cons, List.take_zero, e1, e2, e3, e4, e5, e6, e7, e8, e9, boxP, arrS, strmC, -List.getD_eq_getElem?_getD]
    refine SR.block ?_
    refine SR.loopP (fun R : RowL => R.length ≤ n ∧ ∀ y ∈ R, y.1 ∈ namesL ∧ y.2.length = m ∧ ShortRows 101 y.2) (fun R => ⟨[(30, .int .i64 R.length), (29, .int .i64 (n : Nat)), (8, .fn 82 [.ptr nid 0]), (7, .ptr (nid + 8) 0), (6, .ptr (nid + 4) 0), (3, .ptr nid 0)], [(nid, boxP s), (nid + 4, some (.box 29 [.lit true 0 [], .lit true 0 []])), (nid + 8, boxD (nid + 20) G.length (nid + 24) R.length), (nid + 20, arrS G), (s, strmC nl A (p + 1 + m + 1 + 2 * m * R.length)), (nid + 24, arrR nid R)] ++ famR nid R, nid + 1196, nid⟩) (fun R => n + 1 - R.length) [] ⟨by simp, by simp⟩ (Cov.go [] [(nid + 24, 2)] ?_) (fun R hR => ?_)
    · simp [retPV, over, keys, List.map_nil, List.map_cons, List.contains_cons, List.contains_nil, Bool.or_false, Bool.or_true, Bool.true_or, Bool.false_or, beq_self_eq_true, cond_true, cond_false, HeapCov, orNil, nilSz, onBlk, srcOf, getH_hit, getH_miss, getH.eq_1, getS_hit, getS_miss, getS.eq_1, BlkCov, PVCovs, PVCov, ColsEq, AColsEq, ACEq, ColEq.refl, liveIds, SlotsCov, List.all_nil, List.all_cons, List.any_nil, List.any_cons, List.nil_append, List.cons_append, inRange, apart, nilBlk, idS1, idS2, readAll, readRes, onAll, step, res, AX.val, List.drop_zero, List.drop_succ_cons, List.take_succ_cons, List.take_zero, e1, e2, e3, e4, e5, e6, e7, e8, e9, strmC, famR, famC, inR, boxP, boxD, arrS, arrR, -List.getD_eq_getElem?_getD]
    obtain ⟨hRl, hRs⟩ := hR
    refine SR.seq ?_
    unfold boxP boxD arrS
    simp -dsimp only [aqT, aqU, aqN, aqS, ↓seqK, ↓blkK, ↓loopK, step, stepBin, Nat.add_assoc nid, ↓reduceIte, Option.toList, ← Int.ofNat_tmod, ← Int.ofNat_tdiv, simprocAttr, BEq.rfl, LN_succ, e1, e2, e3, e4, e5, e6, e7, e8, e9, strmC_low]
    refine SR.seq ?_
    simp -dsimp only [aqT, aqU, aqN, aqS, ↓seqK, ↓blkK, ↓loopK, step, stepBin, Nat.add_assoc nid, ↓reduceIte, Option.toList, ← Int.ofNat_tmod, ← Int.ofNat_tdiv, simprocAttr, BEq.rfl, LN_succ, e1, e2, e3, e4, e5, e6, e7, e8, e9, strmC_low]
    refine S2.dec (fun h3 => ?_) (fun h3 => ?_) <;> simp -dsimp only [aqT, aqU, aqN, aqS, ↓seqK, ↓blkK, ↓loopK, step, stepBin, Nat.add_assoc nid, ↓reduceIte, Option.toList, ← Int.ofNat_tmod, ← Int.ofNat_tdiv, simprocAttr, BEq.rfl, LN_succ, e1, e2, e3, e4, e5, e6, e7, e8, e9, strmC_low]
    · have hi : R.length = 0 ∨ R.length = 1 ∨ R.length = 2 ∨ R.length = 3 ∨ R.length = 4 ∨ R.length = 5 ∨ R.length = 6 := by omega
      rw [decide_eq_true h3]
      refine SR.seqW _ (dict_round s nid nl A (p + 1 + m + 1 + 2 * m * R.length) m n G R h (by have : 2 * m * R.length ≤ 2 * 6 * 7 := Nat.mul_le_mul (by omega) (by omega); omega) hA hG1 (by omega) (by omega) hG2 hi _) (fun ⟨L, hL1, hL2⟩ => ?_)
      simp only
      have hll : (R ++ [(faultN R.length, L)]).length = R.length + 1 := by simp
      have hq2 : p + 1 + m + 1 + 2 * m * R.length + 2 * m = p + 1 + m + 1 + 2 * m * (R ++ [(faultN R.length, L)]).length := by
        have e := congrArg (fun x => p + 1 + m + 1 + 2 * m * x) hll
        rw [e, Nat.mul_succ]
        omega
      rw [hq2, ← hll]
      refine SR.run (t := .mk) ?_
      simp -dsimp only [aqT, aqU, aqN, aqS, ↓seqK, ↓blkK, ↓loopK, step, stepBin, Nat.add_assoc nid, ↓reduceIte, Option.toList, ← Int.ofNat_tmod, ← Int.ofNat_tdiv, simprocAttr, BEq.rfl, LN_succ, e1, e2, e3, e4, e5, e6, e7, e8, e9, strmC_low]
      refine ⟨by unfold inI64; omega, R ++ [(faultN R.length, L)], ⟨⟨by rw [hll]; omega, fun y hy => ?_⟩, by rw [hll]; omega⟩, Cov.drop (by omega) ?_⟩
      · rcases List.mem_append.1 hy with hy | hy
        · exact hRs y hy
        · simp only [List.mem_singleton] at hy
          subst hy
          refine ⟨?_, hL1, hL2.mono (by omega)⟩
          exact faultN_mem (by omega)
      · simp only [SlotsIn, aqT, aqU, aqN, ↓seqK, ↓blkK, ↓loopK, step, stepBin, Nat.reduceBEq, Nat.reduceBeqDiff, Nat.add_assoc nid, Nat.reduceAdd, reduceCtorEq, ↓reduceIte, Nat.reduceLeDiff, Nat.reduceBneDiff, Option.toList, ← Int.ofNat_tmod, ← Int.ofNat_tdiv, Nat.reduceLT, hll]
        try simp
    · have hRn : R.length = n := by omega
      refine ⟨⟨(R, p + 1 + m + 1 + 2 * m * R.length), hRn, ?_, hRs⟩, Cov.drop (by omega) ?_⟩
      · have : 2 * m * R.length ≤ 2 * 6 * 7 := Nat.mul_le_mul (by omega) (by omega)
        simp only
        omega
      · simp only [SlotsIn, aqT, aqU, aqN, ↓seqK, ↓blkK, ↓loopK, step, stepBin, Nat.reduceBEq, Nat.reduceBeqDiff, Nat.add_assoc nid, Nat.reduceAdd, reduceCtorEq, ↓reduceIte, Nat.reduceLeDiff, Nat.reduceBneDiff, Option.toList, ← Int.ofNat_tmod, ← Int.ofNat_tdiv, Nat.reduceLT]
        try simp
  simp only at hR1 hq hR2 ⊢
  have hmemB : ∀ y ∈ R, 1 ≤ y.2.length ∧ y.2.length ≤ tests := fun y hy => by have := (hR2 y hy).2.1; omega
  have hB : DictB tests G R := ⟨by omega, hG2.mono (by omega), by omega, fun y hy => by
    obtain ⟨g1, g2, g3⟩ := hR2 y hy
    exact ⟨g1, by omega, g3⟩⟩
  have hq9 : q ≤ p + 100 := hq
  clear hR2 hq hG2
  refine SR.seqW (ι := {x : SpX // DictB tests x.G x.R ∧ x.q ≤ p + 1000}) (fun x => ⟨[(7, .ptr (nid + 8) 0), (6, .ptr (nid + 4) 0)], dictH s nid nl A x.1.q x.1.G x.1.R, nid + 5000, nid⟩) ?_ (fun ⟨x, hx1, hx2⟩ => dict_end s nid p x.q (p + 1000) tests nl A x.G x.R h hx1 hx2)
  have hf0 : ∀ c, R.length = c → famR nid R = famC nid R c := fun c hc => by rw [← hc]; rfl
  have hrl := hB.rl
  have hi : R.length = 0 ∨ R.length = 1 ∨ R.length = 2 ∨ R.length = 3 ∨ R.length = 4 ∨ R.length = 5 ∨ R.length = 6 ∨ R.length = 7 := by omega
  refine SR.seqTo ⟨[(65, .bool (flipV A q 12)), (7, .ptr (nid + 8) 0), (6, .ptr (nid + 4) 0), (3, .ptr nid 0)], dictH s nid nl A (q + 1) G R, nid + 4100, nid⟩ ?_ ?_
  · unfold boxP
    simp -dsimp only [aqT, aqU, aqN, aqS, ↓seqK, ↓blkK, ↓loopK, step, stepBin, Nat.add_assoc nid, ↓reduceIte, Option.toList, ← Int.ofNat_tmod, ← Int.ofNat_tdiv, simprocAttr, BEq.rfl, LN_succ, e1, e2, e3, e4, e5, e6, e7, e8, e9, strmC_low]
    refine CallO.on (flip_c s _ nl A q 12 (by omega) (by omega) hA (by omega)) (subH_get (by simp only [aqT, aqU, aqN, ↓seqK, ↓blkK, ↓loopK, step, stepBin, Nat.reduceBEq, Nat.reduceBeqDiff, Nat.add_assoc nid, Nat.reduceAdd, reduceCtorEq, ↓reduceIte, Nat.reduceLeDiff, Nat.reduceBneDiff, Option.toList, ← Int.ofNat_tmod, ← Int.ofNat_tdiv, Nat.reduceLT, e1, e2, e3, e4, e5, e6, e7, e8, e9, Int.cast_ofNat_Int, Int.reduceBEq, Int.reduceBNe, Int.reduceLT, Int.reduceLE, Int.reduceAdd, Int.reduceSub, Int.reduceMul, Int.reduceToNat, Int.reduceNeg, Int.reduceTMod, Int.reduceEq, not_false_eq_true, Int.reducePow, Int.reduceFDiv, Nat.reducePow, Nat.reduceSub, Nat.reduceMul, Nat.min_eq_left, Nat.reduceEqDiff, BEq.rfl, Int.tdiv_one, LN_succ])) ?_
    simp -dsimp only [aqT, aqU, aqN, aqS, ↓seqK, ↓blkK, ↓loopK, step, stepBin, Nat.add_assoc nid, ↓reduceIte, Option.toList, ← Int.ofNat_tmod, ← Int.ofNat_tdiv, simprocAttr, BEq.rfl, LN_succ, e1, e2, e3, e4, e5, e6, e7, e8, e9, strmC_low]
    refine Cov.go [] [] ?_
    simp only [dictH]
    rcases hi with hi | hi | hi | hi | hi | hi | hi | hi
    all_goals
      rw [hf0 _ hi]
      simp [retPV, over, keys, List.map_nil, List.map_cons, List.contains_cons, List.contains_nil, Bool.or_false, Bool.or_true, Bool.true_or, Bool.false_or, beq_self_eq_true, cond_true, cond_false, HeapCov, orNil, nilSz, onBlk, srcOf, getH_hit, getH_miss, getH.eq_1, getS_hit, getS_miss, getS.eq_1, BlkCov, PVCovs, PVCov, ColsEq, AColsEq, ACEq, ColEq.refl, liveIds, SlotsCov, List.all_nil, List.all_cons, List.any_nil, List.any_cons, List.nil_append, List.cons_append, inRange, apart, nilBlk, idS1, idS2, readAll, readRes, onAll, step, res, AX.val, List.drop_zero, List.drop_succ_cons, List.take_succ_cons, List.take_zero, e1, e2, e3, e4, e5, e6, e7, e8, e9, strmC, famC, inR, boxP, boxD, arrS, arrR, -List.getD_eq_getElem?_getD]
      exact fun j hj => by omega
  refine SR.cond (b := flipV A q 12) (by simp [AX.val, getS]) (fun hf => ?_) (fun hf => ?_)
  · have hsp := spoil_I s nid (q + 1) (p + 1000) tests nl A G R h hB (by omega) hmemB (by omega) (by omega) (by omega) hA
    refine SR.run (t := .mk) ?_
    unfold dictH boxP
    simp -dsimp only [aqT, aqU, aqN, aqS, ↓seqK, ↓blkK, ↓loopK, step, stepBin, Nat.add_assoc nid, ↓reduceIte, Option.toList, ← Int.ofNat_tmod, ← Int.ofNat_tdiv, simprocAttr, BEq.rfl, LN_succ, e1, e2, e3, e4, e5, e6, e7, e8, e9, strmC_low]
    refine CallO.any hsp (fun id b hb => hb) (fun x hx => ?_)
    obtain ⟨hx1, hx2, hx3⟩ := hx
    obtain ⟨xG, xR, xq, xo⟩ := x
    simp only at hx1 hx2 hx3 ⊢
    have hxl := hx1.rl
    have hf2 : ∀ c, xR.length = c → famR nid xR = famC nid xR c := fun c hc => by rw [← hc]; rfl
    cases xo with
    | none =>
      simp only [spU]
      refine ⟨⟨⟨xG, xR, xq, none⟩, hx1, hx2⟩, Cov.go [] [] ?_⟩
      simp only [dictH]
      have hi2 : xR.length = 0 ∨ xR.length = 1 ∨ xR.length = 2 ∨ xR.length = 3 ∨ xR.length = 4 ∨ xR.length = 5 ∨ xR.length = 6 ∨ xR.length = 7 := by omega
      clear hi hx3 hsp
      rcases hi2 with hi | hi | hi | hi | hi | hi | hi | hi
      all_goals
        rw [hf2 _ hi]
        simp [retPV, over, keys, List.map_nil, List.map_cons, List.contains_cons, List.contains_nil, Bool.or_false, Bool.or_true, Bool.true_or, Bool.false_or, beq_self_eq_true, cond_true, cond_false, HeapCov, orNil, nilSz, onBlk, srcOf, getH_hit, getH_miss, getH.eq_1, getS_hit, getS_miss, getS.eq_1, BlkCov, PVCovs, PVCov, ColsEq, AColsEq, ACEq, ColEq.refl, liveIds, SlotsCov, List.all_nil, List.all_cons, List.any_nil, List.any_cons, List.nil_append, List.cons_append, inRange, apart, nilBlk, idS1, idS2, readAll, readRes, onAll, step, res, AX.val, List.drop_zero, List.drop_succ_cons, List.take_succ_cons, List.take_zero, e1, e2, e3, e4, e5, e6, e7, e8, e9, putS, strmC, famC, inR, boxP, boxD, arrS, arrR, -List.getD_eq_getElem?_getD]
        exact fun j hj => by omega
    | some I =>
      obtain ⟨hIR, rfl, hR'⟩ := hx3 I rfl
      simp only [spU]
      have hll : xR.length = R.length := by rw [hR', List.length_set]
      have fO : ∀ j, j ≠ I → rowR xR j = rowR R j := fun j hj => by rw [hR', rowR_set _ hIR, if_neg hj]
      clear hR' hx3 hsp
      refine ⟨⟨⟨xG, xR, xq, none⟩, hx1, hx2⟩, Cov.go [(nid + (100 + I), nid + 4104)] [] ?_⟩
      simp only [dictH]
      have hI6 : I = 0 ∨ I = 1 ∨ I = 2 ∨ I = 3 ∨ I = 4 ∨ I = 5 ∨ I = 6 := by omega
      rcases hi with hi | hi | hi | hi | hi | hi | hi | hi <;> rcases hI6 with rfl | rfl | rfl | rfl | rfl | rfl | rfl
      all_goals try (exfalso; omega)
      all_goals
        rw [hf0 _ hi, hf2 _ (hll.trans hi)]
        simp [retPV, over, keys, List.map_nil, List.map_cons, List.contains_cons, List.contains_nil, Bool.or_false, Bool.or_true, Bool.true_or, Bool.false_or, beq_self_eq_true, cond_true, cond_false, HeapCov, orNil, nilSz, onBlk, srcOf, getH_hit, getH_miss, getH.eq_1, getS_hit, getS_miss, getS.eq_1, BlkCov, PVCovs, PVCov, ColsEq, AColsEq, ACEq, ColEq.refl, liveIds, SlotsCov, List.all_nil, List.all_cons, List.any_nil, List.any_cons, List.nil_append, List.cons_append, inRange, apart, nilBlk, idS1, idS2, readAll, readRes, onAll, step, res, AX.val, List.drop_zero, List.drop_succ_cons, List.take_succ_cons, List.take_zero, e1, e2, e3, e4, e5, e6, e7, e8, e9, putS, strmC, famC, inR, boxP, boxD, arrS, arrR, fO, hll, -List.getD_eq_getElem?_getD]
        first
          | exact fun j hj => by omega
          | exact fun j hj => ⟨by split <;> split <;> first | rfl | omega, by omega⟩
  · refine SR.run (t := .mk) ?_
    simp -dsimp only [aqT, aqU, aqN, aqS, ↓seqK, ↓blkK, ↓loopK, step, stepBin, Nat.add_assoc nid, ↓reduceIte, Option.toList, ← Int.ofNat_tmod, ← Int.ofNat_tdiv, simprocAttr, BEq.rfl, LN_succ, e1, e2, e3, e4, e5, e6, e7, e8, e9, strmC_low]
    refine ⟨⟨⟨G, R, q + 1, none⟩, hB, by simp only; omega⟩, Cov.drop (by omega) ?_⟩
    simp only [SlotsIn, aqT, aqU, aqN, ↓seqK, ↓blkK, ↓loopK, step, stepBin, Nat.reduceBEq, Nat.reduceBeqDiff, Nat.add_assoc nid, Nat.reduceAdd, reduceCtorEq, ↓reduceIte, Nat.reduceLeDiff, Nat.reduceBneDiff, Option.toList, ← Int.ofNat_tmod, ← Int.ofNat_tdiv, Nat.reduceLT]
    try simp
end Go.Proofs.YtpifoghhaohhaaaGreatDoor
namespace Go.Proofs.YtpifoghhaohhaaaGreatDoor
open Go.RowKit
def arrI (l : List Int) : Option ABlk := some (.arr 3 l.length [.i .i64 fun i => l.getD i 0])
def litI (nl : Bool) (l : List Int) : PV := .lit nl l.length [.i .i64 fun i => l.getD i 0]
theorem out_c (x lo hi : Int) (nid : Nat) : ACall Tryz.prog 155 [.int .i64 x, .int .i64 lo, .int .i64 hi] [] nid (.bool (outB x lo hi)) [] := by
  refine acall_run c155 (by simp [a155]) ?_
  simp -dsimp only [a155, aqT, aqU, aqN, ↓seqK, ↓blkK, ↓loopK, step, stepBin, Nat.reduceBEq, Nat.reduceBeqDiff, Nat.add_assoc nid, Nat.reduceAdd, reduceCtorEq, ↓reduceIte, Nat.reduceLeDiff, Nat.reduceBneDiff, Option.toList, ← Int.ofNat_tmod, ← Int.ofNat_tdiv, Nat.reduceLT]
  refine S2.dec (fun h => ?_) (fun h => ?_) <;> simp -dsimp only [aqT, aqU, aqN, ↓seqK, ↓blkK, ↓loopK, step, stepBin, Nat.reduceBEq, Nat.reduceBeqDiff, Nat.add_assoc nid, Nat.reduceAdd, reduceCtorEq, ↓reduceIte, Nat.reduceLeDiff, Nat.reduceBneDiff, Option.toList, ← Int.ofNat_tmod, ← Int.ofNat_tdiv, Nat.reduceLT] <;> refine RetOK.pure (.inl rfl) rfl ?_ <;> simp [cvT, step, res, outB] <;> omega
theorem in_c (x lo hi : Int) (nid : Nat) : ACall Tryz.prog 98 [.int .i64 x, .int .i64 lo, .int .i64 hi] [] nid (.bool (!outB x lo hi)) [] := by
  refine acall_run c98 (by simp [a98]) ?_
  simp -dsimp only [a98, aqT, aqU, aqN, ↓seqK, ↓blkK, ↓loopK, step, stepBin, Nat.reduceBEq, Nat.reduceBeqDiff, Nat.add_assoc nid, Nat.reduceAdd, reduceCtorEq, ↓reduceIte, Nat.reduceLeDiff, Nat.reduceBneDiff, Option.toList, ← Int.ofNat_tmod, ← Int.ofNat_tdiv, Nat.reduceLT]
  refine S2.dec (fun h => ?_) (fun h => ?_) <;> simp -dsimp only [aqT, aqU, aqN, ↓seqK, ↓blkK, ↓loopK, step, stepBin, Nat.reduceBEq, Nat.reduceBeqDiff, Nat.add_assoc nid, Nat.reduceAdd, reduceCtorEq, ↓reduceIte, Nat.reduceLeDiff, Nat.reduceBneDiff, Option.toList, ← Int.ofNat_tmod, ← Int.ofNat_tdiv, Nat.reduceLT] <;> refine RetOK.pure (.inl rfl) rfl ?_ <;> simp [cvT, step, res, outB] <;> first | omega | (rw [Bool.eq_iff_iff]; simp; omega)
theorem index_c (nl : Bool) (l : List Int) (x : Int) (nid : Nat) (hl : l.length ≤ 1000000000) : ∃ r : Int, (0 ≤ r ↔ x ∈ l) ∧ ACall Tryz.prog 186 [litI nl l, .int .i64 x] [] nid (.int .i64 r) [] := by
  refine ⟨match l.findIdx? (· == x) with | some k => (k : Int) | none => -1, ?_, ?_⟩
  · cases h : l.findIdx? (· == x) with
    | none =>
      rw [List.findIdx?_eq_none_iff] at h
      simp only [Int.reduceNeg, Int.reduceLE, false_iff]
      exact fun hx => by simpa using h x hx
    | some k =>
      simp only [Int.natCast_nonneg, true_iff]
      obtain ⟨hk, h1, _⟩ := List.findIdx?_eq_some_iff_getElem.1 h
      have : l[k] = x := by simpa using h1
      rw [← this]; exact List.getElem_mem hk
  refine acall_run c186 (by simp [a186]) ?_
  unfold litI
  simp -dsimp only [aqT, aqU, aqN, ↓seqK, ↓blkK, ↓loopK, step, stepBin, Nat.reduceBEq, Nat.reduceBeqDiff, Nat.add_assoc nid, Nat.reduceAdd, reduceCtorEq, ↓reduceIte, Nat.reduceLeDiff, Nat.reduceBneDiff, Option.toList, ← Int.ofNat_tmod, ← Int.ofNat_tdiv, Nat.reduceLT, a186]
  refine LP.mkP (fun k : Nat => k ≤ l.length ∧ ∀ i, i < k → l.getD i 0 ≠ x) (fun k : Nat => ⟨[(8, .int .i64 k), (7, .int .i64 l.length), (0, litI nl l), (1, .int .i64 x)], [], nid + 1000, nid⟩) (fun k => l.length + 1 - k) 0 ?_ (Cov.go [] [] ?_) (fun k hk => ?_)
  · exact ⟨by omega, fun i hi => by omega⟩
  · simp [cvT, step, res, litI]
  unfold litI
  obtain ⟨hk, hno⟩ := hk
  have get : ∀ i (hi : i < l.length), l.getD i 0 = l[i] := fun i hi => by rw [List.getD_eq_getElem?_getD, List.getElem?_eq_getElem hi]; rfl
  simp -dsimp only [aqT, aqU, aqN, ↓seqK, ↓blkK, ↓loopK, step, stepBin, Nat.reduceBEq, Nat.reduceBeqDiff, Nat.add_assoc nid, Nat.reduceAdd, reduceCtorEq, ↓reduceIte, Nat.reduceLeDiff, Nat.reduceBneDiff, Option.toList, ← Int.ofNat_tmod, ← Int.ofNat_tdiv, Nat.reduceLT]
  refine S2.dec (fun h3 => ?_) (fun h3 => ?_) <;> simp -dsimp only [aqT, aqU, aqN, ↓seqK, ↓blkK, ↓loopK, step, stepBin, Nat.reduceBEq, Nat.reduceBeqDiff, Nat.add_assoc nid, Nat.reduceAdd, reduceCtorEq, ↓reduceIte, Nat.reduceLeDiff, Nat.reduceBneDiff, Option.toList, ← Int.ofNat_tmod, ← Int.ofNat_tdiv, Nat.reduceLT]
  · have hkl : k < l.length := by omega
    refine ⟨by omega, S2.intro (fun h4 => ?_) (fun h4 => ?_)⟩ <;> simp -dsimp only [aqT, aqU, aqN, ↓seqK, ↓blkK, ↓loopK, step, stepBin, Nat.reduceBEq, Nat.reduceBeqDiff, Nat.add_assoc nid, Nat.reduceAdd, reduceCtorEq, ↓reduceIte, Nat.reduceLeDiff, Nat.reduceBneDiff, Option.toList, ← Int.ofNat_tmod, ← Int.ofNat_tdiv, Nat.reduceLT]
    · have h5 : x = l.getD k 0 := by simpa using h4
      have : l.findIdx? (· == x) = some k := by
        rw [List.findIdx?_eq_some_iff_getElem]
        refine ⟨hkl, by rw [← get k hkl, ← h5]; simp, fun i hi => ?_⟩
        have := hno i hi
        rw [get i (by omega)] at this
        simpa using this
      rw [this]
      refine RetOK.pure (.inl rfl) rfl ?_
      simp [cvT, step, res]
    · have h5 : x ≠ l.getD k 0 := by simpa using h4
      refine ⟨by unfold inI64; omega, k + 1, ⟨⟨by omega, fun i hi => ?_⟩, by omega⟩, Cov.go [] [] ?_⟩
      · by_cases e : i = k
        · subst e; exact fun h => h5 h.symm
        · exact hno i (by omega)
      · simp [cvT, step, res, litI]
  · have : l.findIdx? (· == x) = none := by
      rw [List.findIdx?_eq_none_iff]
      intro y hy
      obtain ⟨i, hi, rfl⟩ := List.mem_iff_getElem.1 hy
      have := hno i (by omega)
      rw [get i hi] at this
      simpa using this
    rw [this]
    refine RetOK.pure (.inl rfl) rfl ?_
    simp [cvT, step, res]
theorem contains_c (nl : Bool) (l : List Int) (x : Int) (nid : Nat) (hl : l.length ≤ 1000000000) : ACall Tryz.prog 99 [litI nl l, .int .i64 x] [] nid (.bool (l.contains x)) [] := by
  refine acall_run c99 (by simp [a99]) ?_
  simp -dsimp only [a99, aqT, aqU, aqN, ↓seqK, ↓blkK, ↓loopK, step, stepBin, Nat.reduceBEq, Nat.reduceBeqDiff, Nat.add_assoc nid, Nat.reduceAdd, reduceCtorEq, ↓reduceIte, Nat.reduceLeDiff, Nat.reduceBneDiff, Option.toList, ← Int.ofNat_tmod, ← Int.ofNat_tdiv, Nat.reduceLT]
  obtain ⟨r, h1, h2⟩ := index_c nl l x (nid + 12) hl
  refine CallO.pure (h2) ?_
  simp -dsimp only [aqT, aqU, aqN, ↓seqK, ↓blkK, ↓loopK, step, stepBin, Nat.reduceBEq, Nat.reduceBeqDiff, Nat.add_assoc nid, Nat.reduceAdd, reduceCtorEq, ↓reduceIte, Nat.reduceLeDiff, Nat.reduceBneDiff, Option.toList, ← Int.ofNat_tmod, ← Int.ofNat_tdiv, Nat.reduceLT]
  have : decide (0 ≤ r) = l.contains x := by
    rw [Bool.eq_iff_iff]
    simp [h1]
  rw [this]
  refine RetOK.pure (.inl rfl) rfl ?_
  simp [cvT, step, res]
end Go.Proofs.YtpifoghhaohhaaaGreatDoor
namespace Go.Proofs.YtpifoghhaohhaaaGreatDoor
open Go.RowKit Go.Shelf Go.Lib
theorem indexKS_c (s : List UInt8) (c : Int) (nid : Nat) : ACall Tryz.prog 279 [.str s, .int .u8 c] [] nid (.int .i64 (Lib.indexByte s c.toNat.toUInt8)) [] := by
  intro C vs hb hl hr hs
  obtain ⟨v0, v1, rfl⟩ : ∃ a b, vs = [a, b] := by
    rcases vs with _ | ⟨a, _ | ⟨b, _ | ⟨c, r⟩⟩⟩
    · simp at hl
    · simp at hl
    · exact ⟨a, b, rfl⟩
    · simp at hl
  have r0 := (hr 0 _ v0 rfl rfl).str_inv
  have r1 := (hr 1 _ v1 rfl rfl).int_inv
  subst r0; subst r1
  refine .inr ⟨.int .i64 (Lib.indexByte s c.toNat.toUInt8), C.w0, ?_, C.Y0, C.m0, .int, by simpa using hs.next (show nid ≤ nid + 4 by omega), Ev.refl _ _ _⟩
  rw [run_callFunc_extern (P := Tryz.prog) (f := 279) (fn := Tryz.f279) (e := Extern.BytealgIndexByte.indexByte) Tryz.func279 (by kernel_rfl) (by kernel_rfl) (by kernel_rfl) (by kernel_rfl)]
  have h := Lib.run_indexByteString (P := Tryz.prog) ⟨s.toArray⟩ c C.w0
  show ((Extern.BytealgIndexByte.indexByte #[.string ⟨s.toArray⟩, .int .u8 c]).run Tryz.prog C.w0).andThen _ = _
  rw [h]
  rfl
theorem indexK_c (s : List UInt8) (c : Int) (nid : Nat) : ACall Tryz.prog 181 [.str s, .int .u8 c] [] nid (.int .i64 (Lib.indexByte s c.toNat.toUInt8)) [] := by
  have h1 : ∀ nid, ACall Tryz.prog 237 [.str s, .int .u8 c] [] nid (.int .i64 (Lib.indexByte s c.toNat.toUInt8)) [] := fun nid => by
    refine acall_run c237 (by simp [a237]) ?_
    simp -dsimp only [a237, aqT, aqU, aqN, ↓seqK, ↓blkK, ↓loopK, step, stepBin, Nat.reduceBEq, Nat.reduceBeqDiff, Nat.add_assoc nid, Nat.reduceAdd, reduceCtorEq, ↓reduceIte, Nat.reduceLeDiff, Nat.reduceBneDiff, Option.toList, ← Int.ofNat_tmod, ← Int.ofNat_tdiv, Nat.reduceLT]
    refine CallO.pure (indexKS_c s c _) ?_
    simp -dsimp only [aqT, aqU, aqN, ↓seqK, ↓blkK, ↓loopK, step, stepBin, Nat.reduceBEq, Nat.reduceBeqDiff, Nat.add_assoc nid, Nat.reduceAdd, reduceCtorEq, ↓reduceIte, Nat.reduceLeDiff, Nat.reduceBneDiff, Option.toList, ← Int.ofNat_tmod, ← Int.ofNat_tdiv, Nat.reduceLT]
    refine RetOK.pure (.inl rfl) rfl ?_
    simp [cvT, step, res]
  refine acall_run c181 (by simp [a181]) ?_
  simp -dsimp only [a181, aqT, aqU, aqN, ↓seqK, ↓blkK, ↓loopK, step, stepBin, Nat.reduceBEq, Nat.reduceBeqDiff, Nat.add_assoc nid, Nat.reduceAdd, reduceCtorEq, ↓reduceIte, Nat.reduceLeDiff, Nat.reduceBneDiff, Option.toList, ← Int.ofNat_tmod, ← Int.ofNat_tdiv, Nat.reduceLT]
  refine CallO.pure (h1 _) ?_
  simp -dsimp only [aqT, aqU, aqN, ↓seqK, ↓blkK, ↓loopK, step, stepBin, Nat.reduceBEq, Nat.reduceBeqDiff, Nat.add_assoc nid, Nat.reduceAdd, reduceCtorEq, ↓reduceIte, Nat.reduceLeDiff, Nat.reduceBneDiff, Option.toList, ← Int.ofNat_tmod, ← Int.ofNat_tdiv, Nat.reduceLT]
  refine RetOK.pure (.inl rfl) rfl ?_
  simp [cvT, step, res]
theorem any_range {s : List UInt8} {F : UInt8 → Bool} : (List.range s.length).any (fun i => F (s.getD i 0)) = s.any F := by
  rw [Bool.eq_iff_iff, List.any_eq_true, List.any_eq_true]
  constructor
  · rintro ⟨i, hi, h⟩
    have hi' := List.mem_range.1 hi
    refine ⟨s[i], List.getElem_mem _, ?_⟩
    rwa [List.getD_eq_getElem?_getD, List.getElem?_eq_getElem hi'] at h
  · rintro ⟨x, hx, h⟩
    obtain ⟨i, hi, rfl⟩ := List.getElem_of_mem hx
    refine ⟨i, List.mem_range.2 hi, ?_⟩
    rw [List.getD_eq_getElem?_getD, List.getElem?_eq_getElem hi]
    exact h
theorem indexFB (f : Nat) (F : UInt8 → Bool) (hf : ∀ (b : UInt8) nid, ACall Tryz.prog f [.int .u8 ((b.toNat : Nat))] [] nid (.bool (F b)) []) (nl : Bool) (n : Nat) (g : Nat → UInt8) (nid : Nat) (hn : n ≤ 1000000000) :
    ∃ r : Int, (-1 ≤ r ∧ (0 ≤ r ↔ (List.range n).any (fun i => F (g i)) = true)) ∧ ACall Tryz.prog 229 [.lit nl n [.i .u8 fun i => ((g i).toNat : Nat)], .fn f []] [] nid (.int .i64 r) [] := by
  refine acall_ex c229 (by simp [a229]) ?_
  simp -dsimp only [aqT0, ROp0, aqT, aqU, aqN, aqS, ↓seqK, ↓blkK, ↓loopK, step, stepBin, Nat.add_assoc nid, ↓reduceIte, Option.toList, ← Int.ofNat_tmod, ← Int.ofNat_tdiv, simprocAttr, BEq.rfl, LN_succ, a229]
  refine LP0.mkP (fun k : Nat => k ≤ n ∧ ∀ j, j < k → F (g j) = false) (fun k : Nat => ⟨[(8, .int .i64 k), (7, .int .i64 n), (0, .lit nl n [.i .u8 fun i => ((g i).toNat : Nat)]), (1, .fn f [])], [], nid + 100, nid⟩) (fun k => n + 1 - k) 0 ⟨by omega, fun j hj => by omega⟩ (Cov.go [] [] ?_) (fun k hk => ?_)
  · simp [cvT, step, res]
  obtain ⟨hk, hall⟩ := hk
  simp -dsimp only [aqT0, ROp0, aqT, aqU, aqN, aqS, ↓seqK, ↓blkK, ↓loopK, step, stepBin, Nat.add_assoc nid, ↓reduceIte, Option.toList, ← Int.ofNat_tmod, ← Int.ofNat_tdiv, simprocAttr, BEq.rfl, LN_succ]
  refine S2.dec (fun h3 => ?_) (fun h3 => ?_) <;> simp -dsimp only [aqT0, ROp0, aqT, aqU, aqN, aqS, ↓seqK, ↓blkK, ↓loopK, step, stepBin, Nat.add_assoc nid, ↓reduceIte, Option.toList, ← Int.ofNat_tmod, ← Int.ofNat_tdiv, simprocAttr, BEq.rfl, LN_succ]
  · have hkl : k < n := by omega
    refine ⟨by omega, CallX.pure (hf _ _) ?_⟩
    simp -dsimp only [aqT0, ROp0, aqT, aqU, aqN, aqS, ↓seqK, ↓blkK, ↓loopK, step, stepBin, Nat.add_assoc nid, ↓reduceIte, Option.toList, ← Int.ofNat_tmod, ← Int.ofNat_tdiv, simprocAttr, BEq.rfl, LN_succ]
    refine S2.intro (fun h4 => ?_) (fun h4 => ?_) <;> simp -dsimp only [aqT0, ROp0, aqT, aqU, aqN, aqS, ↓seqK, ↓blkK, ↓loopK, step, stepBin, Nat.add_assoc nid, ↓reduceIte, Option.toList, ← Int.ofNat_tmod, ← Int.ofNat_tdiv, simprocAttr, BEq.rfl, LN_succ]
    · refine EndOK.mk (k : Int) ⟨by omega, ⟨fun _ => List.any_eq_true.2 ⟨k, List.mem_range.2 hkl, h4⟩, fun _ => by omega⟩⟩ ?_
      refine RetOK.pure (.inl rfl) rfl ?_
      simp [cvT, step, res]
    · refine ⟨by unfold inI64; omega, k + 1, ⟨⟨by omega, fun j hj => ?_⟩, by omega⟩, Cov.go [] [] ?_⟩
      · rcases (by omega : j < k ∨ j = k) with hj | hj
        · exact hall j hj
        · rw [hj]; exact h4
      · simp [cvT, step, res]
  · have hkn : k = n := by omega
    subst hkn
    refine EndOK.mk (-1 : Int) ⟨by omega, ⟨fun h => by omega, fun h => ?_⟩⟩ ?_
    · obtain ⟨i, hi, h⟩ := List.any_eq_true.1 h
      rw [hall i (List.mem_range.1 hi)] at h
      cases h
    · refine RetOK.pure (.inl rfl) rfl ?_
      simp [cvT, step, res]
theorem containsFB (f : Nat) (F : UInt8 → Bool) (hf : ∀ (b : UInt8) nid, ACall Tryz.prog f [.int .u8 ((b.toNat : Nat))] [] nid (.bool (F b)) []) (nl : Bool) (n : Nat) (g : Nat → UInt8) (nid : Nat) (hn : n ≤ 1000000000) :
    ACall Tryz.prog 178 [.lit nl n [.i .u8 fun i => ((g i).toNat : Nat)], .fn f []] [] nid (.bool ((List.range n).any (fun i => F (g i)))) [] := by
  refine acall_run c178 (by simp [a178]) ?_
  simp -dsimp only [aqT, aqU, aqN, ↓seqK, ↓blkK, ↓loopK, step, stepBin, Nat.reduceBEq, Nat.reduceBeqDiff, Nat.add_assoc nid, Nat.reduceAdd, reduceCtorEq, ↓reduceIte, Nat.reduceLeDiff, Nat.reduceBneDiff, Option.toList, ← Int.ofNat_tmod, ← Int.ofNat_tdiv, Nat.reduceLT, a178]
  refine CallO.onE (Hs := []) (indexFB f F hf nl n g _ hn) (subH_nil _) (fun r hr => ?_)
  simp -dsimp only [aqT, aqU, aqN, aqS, ↓seqK, ↓blkK, ↓loopK, step, stepBin, Nat.add_assoc nid, ↓reduceIte, Option.toList, ← Int.ofNat_tmod, ← Int.ofNat_tdiv, simprocAttr, BEq.rfl, LN_succ]
  have e : decide (0 ≤ r) = (List.range n).any (fun i => F (g i)) := by
    rw [Bool.eq_iff_iff, decide_eq_true_eq]; exact hr.2
  rw [e]
  refine RetOK.pure (.inl rfl) rfl ?_
  simp [cvT, step, res]
def oddC (b : UInt8) : Bool := outB ((b.toNat : Nat) : Int) 33 126
def respB (s : List UInt8) : Bool := !outB s.length 1 100 && !s.any oddC
theorem oddC_c (b : UInt8) (nid : Nat) : ACall Tryz.prog 179 [.int .u8 ((b.toNat : Nat))] [] nid (.bool (oddC b)) [] := by
  refine acall_run c179 (by simp [a179]) ?_
  simp -dsimp only [aqT, aqU, aqN, aqS, ↓seqK, ↓blkK, ↓loopK, step, stepBin, Nat.add_assoc nid, ↓reduceIte, Option.toList, ← Int.ofNat_tmod, ← Int.ofNat_tdiv, simprocAttr, BEq.rfl, LN_succ, a179]
  refine S2.dec (fun h => ?_) (fun h => ?_) <;> simp -dsimp only [aqT, aqU, aqN, aqS, ↓seqK, ↓blkK, ↓loopK, step, stepBin, Nat.add_assoc nid, ↓reduceIte, Option.toList, ← Int.ofNat_tmod, ← Int.ofNat_tdiv, simprocAttr, BEq.rfl, LN_succ] <;> refine RetOK.pure (.inl rfl) rfl ?_ <;> simp [cvT, step, res, oddC, outB] <;> omega
theorem respR_c (s : List UInt8) (nid : Nat) : ACall Tryz.prog 87 [.str s] [] nid (.bool (respB s)) [] := by
  refine acall_run c87 (by simp [a87]) ?_
  simp -dsimp only [aqT, aqU, aqN, ↓seqK, ↓blkK, ↓loopK, step, stepBin, Nat.reduceBEq, Nat.reduceBeqDiff, Nat.add_assoc nid, Nat.reduceAdd, reduceCtorEq, ↓reduceIte, Nat.reduceLeDiff, Nat.reduceBneDiff, Option.toList, ← Int.ofNat_tmod, ← Int.ofNat_tdiv, Nat.reduceLT, a87]
  refine CallO.pure (in_c _ _ _ _) ?_
  simp -dsimp only [aqT, aqU, aqN, ↓seqK, ↓blkK, ↓loopK, step, stepBin, Nat.reduceBEq, Nat.reduceBeqDiff, Nat.add_assoc nid, Nat.reduceAdd, reduceCtorEq, ↓reduceIte, Nat.reduceLeDiff, Nat.reduceBneDiff, Option.toList, ← Int.ofNat_tmod, ← Int.ofNat_tdiv, Nat.reduceLT]
  unfold respB
  cases h : outB s.length 1 100 <;> simp -dsimp only [aqT, aqU, aqN, aqS, ↓seqK, ↓blkK, ↓loopK, step, stepBin, Nat.add_assoc nid, ↓reduceIte, Option.toList, ← Int.ofNat_tmod, ← Int.ofNat_tdiv, simprocAttr, BEq.rfl, LN_succ, Bool.not_false, Bool.not_true]
  · have hl : s.length ≤ 100 := by unfold outB at h; have := of_decide_eq_false h; omega
    refine CallO.pure (containsFB _ oddC oddC_c _ s.length (fun i => s.getD i 0) _ (by omega)) ?_
    rw [any_range]
    simp -dsimp only [aqT, aqU, aqN, aqS, ↓seqK, ↓blkK, ↓loopK, step, stepBin, Nat.add_assoc nid, ↓reduceIte, Option.toList, ← Int.ofNat_tmod, ← Int.ofNat_tdiv, simprocAttr, BEq.rfl, LN_succ]
    refine RetOK.pure (.inl rfl) rfl ?_
    simp [cvT, step, res]
  · refine RetOK.pure (.inl rfl) rfl ?_
    simp [cvT, step, res]
theorem respD_c (s : List UInt8) (nid : Nat) (hs : s.length ≤ 1000000) : ACall Tryz.prog 153 [.str s] [] nid (.bool (respB s)) [] := by
  refine acall_run c153 (by simp [a153]) ?_
  simp -dsimp only [aqT, aqU, aqN, ↓seqK, ↓blkK, ↓loopK, step, stepBin, Nat.reduceBEq, Nat.reduceBeqDiff, Nat.add_assoc nid, Nat.reduceAdd, reduceCtorEq, ↓reduceIte, Nat.reduceLeDiff, Nat.reduceBneDiff, Option.toList, ← Int.ofNat_tmod, ← Int.ofNat_tdiv, Nat.reduceLT, a153]
  refine LP.mkP (fun k : Nat => k ≤ s.length ∧ ∀ j, j < k → oddC (s.getD j 0) = false) (fun k : Nat => ⟨[(6, .int .i64 k), (5, .int .i64 s.length), (0, .str s)], [], nid + 100, nid⟩) (fun k => s.length + 1 - k) 0 ⟨by omega, fun j hj => by omega⟩ (Cov.go [] [] ?_) (fun k hk => ?_)
  · simp [cvT, step, res]
  obtain ⟨hk, hall⟩ := hk
  simp -dsimp only [aqT, aqU, aqN, aqS, ↓seqK, ↓blkK, ↓loopK, step, stepBin, Nat.add_assoc nid, ↓reduceIte, Option.toList, ← Int.ofNat_tmod, ← Int.ofNat_tdiv, simprocAttr, BEq.rfl, LN_succ]
  refine S2.dec (fun h3 => ?_) (fun h3 => ?_) <;> simp -dsimp only [aqT, aqU, aqN, aqS, ↓seqK, ↓blkK, ↓loopK, step, stepBin, Nat.add_assoc nid, ↓reduceIte, Option.toList, ← Int.ofNat_tmod, ← Int.ofNat_tdiv, simprocAttr, BEq.rfl, LN_succ]
  · have hkl : k < s.length := by omega
    have hw : IntKind.i64.wrap (((s.getD k 0).toNat : Nat) : Int) = (((s.getD k 0).toNat : Nat) : Int) := IntWalk.i64_in _ (by have := (s.getD k 0).toNat_lt; omega)
    refine ⟨by omega, CallO.pure (out_c _ _ _ _) ?_⟩
    rw [hw]
    simp -dsimp only [aqT, aqU, aqN, aqS, ↓seqK, ↓blkK, ↓loopK, step, stepBin, Nat.add_assoc nid, ↓reduceIte, Option.toList, ← Int.ofNat_tmod, ← Int.ofNat_tdiv, simprocAttr, BEq.rfl, LN_succ]
    refine S2.intro (fun h4 => ?_) (fun h4 => ?_) <;> simp -dsimp only [aqT, aqU, aqN, aqS, ↓seqK, ↓blkK, ↓loopK, step, stepBin, Nat.add_assoc nid, ↓reduceIte, Option.toList, ← Int.ofNat_tmod, ← Int.ofNat_tdiv, simprocAttr, BEq.rfl, LN_succ]
    · have e : respB s = false := by
        unfold respB
        rw [← any_range, show (List.range s.length).any (fun i => oddC (s.getD i 0)) = true from List.any_eq_true.2 ⟨k, List.mem_range.2 hkl, h4⟩]
        simp
      rw [e]
      refine RetOK.pure (.inl rfl) rfl ?_
      simp [cvT, step, res]
    · refine ⟨by unfold inI64; omega, k + 1, ⟨⟨by omega, fun j hj => ?_⟩, by omega⟩, Cov.go [] [] ?_⟩
      · rcases (by omega : j < k ∨ j = k) with hj | hj
        · exact hall j hj
        · rw [hj]; exact h4
      · simp [cvT, step, res]
  · have e : respB s = !outB s.length 1 100 := by
      unfold respB
      have : (List.range s.length).any (fun i => oddC (s.getD i 0)) = false := by
        rw [List.any_eq_false]
        intro i hi
        rw [hall i (by have := List.mem_range.1 hi; omega)]
        simp
      rw [← any_range, this]
      simp
    refine CallO.pure (out_c _ _ _ _) ?_
    simp -dsimp only [aqT, aqU, aqN, ↓seqK, ↓blkK, ↓loopK, step, stepBin, Nat.reduceBEq, Nat.reduceBeqDiff, Nat.add_assoc nid, Nat.reduceAdd, reduceCtorEq, ↓reduceIte, Nat.reduceLeDiff, Nat.reduceBneDiff, Option.toList, ← Int.ofNat_tmod, ← Int.ofNat_tdiv, Nat.reduceLT]
    rw [e]
    refine RetOK.pure (.inl rfl) rfl ?_
    simp [cvT, step, res]
end Go.Proofs.YtpifoghhaohhaaaGreatDoor
namespace Go.Proofs.YtpifoghhaohhaaaGreatDoor
open Go.RowKit Go.Shelf Go.Lib
theorem trim_none (s cs : List UInt8) : (Lib.trimS s cs == []) = s.all cs.contains := by
  have key : Lib.trimS s cs = [] ↔ s.all cs.contains = true := by
    unfold Lib.trimS Lib.trimLeftS
    rw [dropW_nil]
    unfold Lib.trimRightS
    constructor
    · intro h
      cases hd : s.reverse.dropWhile cs.contains with
      | nil =>
        rw [dropW_nil, List.all_reverse] at hd
        exact hd
      | cons a r =>
        have hne : s.reverse.dropWhile cs.contains ≠ [] := by rw [hd]; simp
        have hh := List.head_dropWhile_not cs.contains hne
        have hm : ((s.reverse.dropWhile cs.contains).head hne) ∈ (s.reverse.dropWhile cs.contains).reverse := List.mem_reverse.2 (List.head_mem _)
        have := List.all_eq_true.1 h _ hm
        rw [this] at hh
        cases hh
    · intro h
      have : s.reverse.dropWhile cs.contains = [] := by rw [dropW_nil, List.all_reverse]; exact h
      rw [this]
      rfl
  rw [Bool.eq_iff_iff, beq_iff_eq]
  exact key
def keyL : List UInt8 := [97, 98, 99, 100, 101, 102, 103, 104, 105, 106, 107, 108, 109, 110, 111, 112, 113, 114, 115, 116, 117, 118, 119, 120, 121, 122, 48, 49, 50, 51, 52, 53, 54, 55, 56, 57, 45, 95]
def lowL : List UInt8 := [97, 98, 99, 100, 101, 102, 103, 104, 105, 106, 107, 108, 109, 110, 111, 112, 113, 114, 115, 116, 117, 118, 119, 120, 121, 122]
def lowI (c : Int) : Bool := decide (97 ≤ c) && decide (c ≤ 122)
def keyI (c : Int) : Bool := lowI c || (decide (48 ≤ c) && decide (c ≤ 57)) || c == 45 || c == 95
def keyC (b : UInt8) : Bool := keyI ((b.toNat : Nat) : Int)
theorem keyC_in (b : UInt8) : keyL.contains b = keyC b := by
  have h : ∀ n : Nat, n < 256 → keyL.contains n.toUInt8 = keyI (n : Int) := by decide +kernel
  have := h b.toNat (UInt8.toNat_lt b)
  rwa [show b.toNat.toUInt8 = b by simp] at this
theorem lowC_in (b : UInt8) : decide (0 ≤ Lib.indexByte lowL b) = lowI ((b.toNat : Nat) : Int) := by
  have h : ∀ n : Nat, n < 256 → decide (0 ≤ Lib.indexByte lowL n.toUInt8) = lowI (n : Int) := by decide +kernel
  have := h b.toNat (UInt8.toNat_lt b)
  rwa [show b.toNat.toUInt8 = b by simp] at this
def keyB (s : List UInt8) : Bool := !outB s.length 1 40 && s.all keyC && lowI (((s.getD 0 0).toNat : Nat) : Int)
theorem keyR_c (s : List UInt8) (nid : Nat) : ACall Tryz.prog 88 [.str s] [] nid (.bool (keyB s)) [] := by
  refine acall_run c88 (by simp [a88]) ?_
  simp -dsimp only [aqT, aqU, aqN, ↓seqK, ↓blkK, ↓loopK, step, stepBin, Nat.reduceBEq, Nat.reduceBeqDiff, Nat.add_assoc nid, Nat.reduceAdd, reduceCtorEq, ↓reduceIte, Nat.reduceLeDiff, Nat.reduceBneDiff, Option.toList, ← Int.ofNat_tmod, ← Int.ofNat_tdiv, Nat.reduceLT, a88]
  refine CallO.pure (in_c _ _ _ _) ?_
  simp -dsimp only [aqT, aqU, aqN, ↓seqK, ↓blkK, ↓loopK, step, stepBin, Nat.reduceBEq, Nat.reduceBeqDiff, Nat.add_assoc nid, Nat.reduceAdd, reduceCtorEq, ↓reduceIte, Nat.reduceLeDiff, Nat.reduceBneDiff, Option.toList, ← Int.ofNat_tmod, ← Int.ofNat_tdiv, Nat.reduceLT]
  have ht : (Lib.trimS s keyL == []) = s.all keyC := by rw [trim_none]; congr 1; funext b; exact keyC_in b
  unfold keyL at ht
  have hi := lowC_in (s.getD 0 0)
  unfold lowL at hi
  unfold keyB
  cases h : outB s.length 1 40 <;> simp -dsimp only [aqT, aqU, aqN, aqS, ↓seqK, ↓blkK, ↓loopK, step, stepBin, Nat.add_assoc nid, ↓reduceIte, Option.toList, ← Int.ofNat_tmod, ← Int.ofNat_tdiv, simprocAttr, BEq.rfl, LN_succ, Bool.not_false, Bool.not_true]
  · have hl : 1 ≤ s.length ∧ s.length ≤ 40 := by unfold outB at h; have := of_decide_eq_false h; omega
    refine CallO.pure (trim_cc s _ _ (by omega) (by decide) (by decide)) ?_
    simp -dsimp only [aqT, aqU, aqN, aqS, ↓seqK, ↓blkK, ↓loopK, step, stepBin, Nat.add_assoc nid, ↓reduceIte, Option.toList, ← Int.ofNat_tmod, ← Int.ofNat_tdiv, simprocAttr, BEq.rfl, LN_succ]
    rw [ht]
    cases h2 : s.all keyC <;> simp -dsimp only [aqT, aqU, aqN, aqS, ↓seqK, ↓blkK, ↓loopK, step, stepBin, Nat.add_assoc nid, ↓reduceIte, Option.toList, ← Int.ofNat_tmod, ← Int.ofNat_tdiv, simprocAttr, BEq.rfl, LN_succ, Bool.not_false, Bool.not_true]
    · refine RetOK.pure (.inl rfl) rfl ?_
      simp [cvT, step, res]
    · refine ⟨by omega, ?_⟩
      refine CallO.pure (indexK_c _ _ _) ?_
      simp -dsimp only [aqT, aqU, aqN, aqS, ↓seqK, ↓blkK, ↓loopK, step, stepBin, Nat.add_assoc nid, ↓reduceIte, Option.toList, ← Int.ofNat_tmod, ← Int.ofNat_tdiv, simprocAttr, BEq.rfl, LN_succ]
      rw [show (s.getD 0 0).toNat.toUInt8 = s.getD 0 0 by simp, hi]
      refine RetOK.pure (.inl rfl) rfl ?_
      simp [cvT, step, res]
  · refine RetOK.pure (.inl rfl) rfl ?_
    simp [cvT, step, res]
theorem keyI_iff {c : Int} : keyI c = true ↔ (97 ≤ c ∧ c ≤ 122) ∨ (48 ≤ c ∧ c ≤ 57) ∨ c = 45 ∨ c = 95 := by
  unfold keyI lowI
  simp only [Bool.or_eq_true, Bool.and_eq_true, decide_eq_true_eq, beq_iff_eq]
  omega
theorem keyI_no {c : Int} (h : ¬ ((97 ≤ c ∧ c ≤ 122) ∨ (48 ≤ c ∧ c ≤ 57) ∨ c = 45 ∨ c = 95)) : keyI c = false := by
  have := mt keyI_iff.1 h
  simpa using this
theorem keyB_bad {s : List UInt8} (h : s.length < 1 ∨ 40 < s.length ∨ (((s.getD 0 0).toNat : Nat) : Int) < 97 ∨ (122 : Int) < ((s.getD 0 0).toNat : Nat)) : keyB s = false := by
  have : ¬ keyB s = true := fun e => by
    unfold keyB outB lowI at e
    simp only [Bool.and_eq_true, Bool.not_eq_true', decide_eq_true_eq, decide_eq_false_iff_not] at e
    omega
  simpa using this
theorem keyB_good {s : List UInt8} (h1 : 1 ≤ s.length) (h2 : s.length ≤ 40) (h3 : (97 : Int) ≤ ((s.getD 0 0).toNat : Nat)) (h4 : (((s.getD 0 0).toNat : Nat) : Int) ≤ 122) : keyB s = s.all keyC := by
  have a : outB s.length 1 40 = false := by unfold outB; exact decide_eq_false (by omega)
  have b : lowI (((s.getD 0 0).toNat : Nat) : Int) = true := by unfold lowI; rw [decide_eq_true h3, decide_eq_true h4]; rfl
  unfold keyB
  rw [a, b, Bool.and_true, Bool.not_false, Bool.true_and]
theorem keyC_all {s : List UInt8} (h : ∀ j, j < s.length → keyC (s.getD j 0) = true) : s.all keyC = true := by
  rw [List.all_eq_true]
  intro x hx
  obtain ⟨j, hj, rfl⟩ := List.getElem_of_mem hx
  have := h j hj
  rwa [List.getD_eq_getElem?_getD, List.getElem?_eq_getElem hj] at this
theorem keyC_not {s : List UInt8} {k : Nat} (hk : k < s.length) (h : keyC (s.getD k 0) = false) : s.all keyC = false := by
  rw [List.all_eq_false]
  refine ⟨s[k], List.getElem_mem _, ?_⟩
  rw [List.getD_eq_getElem?_getD, List.getElem?_eq_getElem hk] at h
  rw [show s[k] = (some s[k]).getD 0 from rfl, h]
  simp
set_option maxHeartbeats 1000000 in
theorem keyD_c (s : List UInt8) (nid : Nat) (hs : s.length ≤ 1000000) : ACall Tryz.prog 154 [.str s] [] nid (.bool (keyB s)) [] := by
  refine acall_sr c154 (by simp [a154]) ?_
  unfold a154
  refine SR.seq ?_
  simp -dsimp only [aqT, aqU, aqN, aqS, ↓seqK, ↓blkK, ↓loopK, step, stepBin, Nat.add_assoc nid, ↓reduceIte, Option.toList, ← Int.ofNat_tmod, ← Int.ofNat_tdiv, simprocAttr, BEq.rfl, LN_succ]
  refine SR.seqW (ι := {_u : Unit // (1 ≤ s.length ∧ s.length ≤ 40) ∧ (97 : Int) ≤ ((s.getD 0 0).toNat : Nat) ∧ (((s.getD 0 0).toNat : Nat) : Int) ≤ 122}) (fun _ => ⟨[(0, .str s)], [], nid + 80, nid⟩) ?_ (fun ⟨_, ⟨h1, h2⟩, h3, h4⟩ => ?_)
  · refine SR.run (t := .mk) ?_
    simp -dsimp only [aqT, aqU, aqN, aqS, ↓seqK, ↓blkK, ↓loopK, step, stepBin, Nat.add_assoc nid, ↓reduceIte, Option.toList, ← Int.ofNat_tmod, ← Int.ofNat_tdiv, simprocAttr, BEq.rfl, LN_succ]
    refine S2.intro (fun h1 => ?_) (fun h1 => ?_) <;> simp -dsimp only [aqT, aqU, aqN, aqS, ↓seqK, ↓blkK, ↓loopK, step, stepBin, Nat.add_assoc nid, ↓reduceIte, Option.toList, ← Int.ofNat_tmod, ← Int.ofNat_tdiv, simprocAttr, BEq.rfl, LN_succ]
    · rw [keyB_bad (.inl (by simp at h1; subst h1; simp))]
      refine RetOK.pure (.inl rfl) rfl ?_
      simp [cvT, step, res]
    have h1 : 1 ≤ s.length := by have : s ≠ [] := by simpa using h1
                                 have := List.length_pos_iff.2 this
                                 omega
    refine S2.dec (fun h2 => ?_) (fun h2 => ?_) <;> simp -dsimp only [aqT, aqU, aqN, aqS, ↓seqK, ↓blkK, ↓loopK, step, stepBin, Nat.add_assoc nid, ↓reduceIte, Option.toList, ← Int.ofNat_tmod, ← Int.ofNat_tdiv, simprocAttr, BEq.rfl, LN_succ]
    · rw [keyB_bad (.inr (.inl (by omega)))]
      refine RetOK.pure (.inl rfl) rfl ?_
      simp [cvT, step, res]
    refine ⟨by omega, ?_⟩
    refine S2.dec (fun h3 => ?_) (fun h3 => ?_) <;> simp -dsimp only [aqT, aqU, aqN, aqS, ↓seqK, ↓blkK, ↓loopK, step, stepBin, Nat.add_assoc nid, ↓reduceIte, Option.toList, ← Int.ofNat_tmod, ← Int.ofNat_tdiv, simprocAttr, BEq.rfl, LN_succ]
    · rw [keyB_bad (.inr (.inr (.inl (by omega))))]
      refine RetOK.pure (.inl rfl) rfl ?_
      simp [cvT, step, res]
    refine ⟨by omega, ?_⟩
    refine S2.dec (fun h4 => ?_) (fun h4 => ?_) <;> simp -dsimp only [aqT, aqU, aqN, aqS, ↓seqK, ↓blkK, ↓loopK, step, stepBin, Nat.add_assoc nid, ↓reduceIte, Option.toList, ← Int.ofNat_tmod, ← Int.ofNat_tdiv, simprocAttr, BEq.rfl, LN_succ]
    · rw [keyB_bad (.inr (.inr (.inr (by omega))))]
      refine RetOK.pure (.inl rfl) rfl ?_
      simp [cvT, step, res]
    refine ⟨⟨(), ⟨h1, by omega⟩, by omega, by omega⟩, Cov.drop (by omega) ?_⟩
    simp only [SlotsIn, aqT, aqU, aqN, ↓seqK, ↓blkK, ↓loopK, step, stepBin, Nat.reduceBEq, Nat.reduceBeqDiff, Nat.add_assoc nid, Nat.reduceAdd, reduceCtorEq, ↓reduceIte, Nat.reduceLeDiff, Nat.reduceBneDiff, Option.toList, ← Int.ofNat_tmod, ← Int.ofNat_tdiv, Nat.reduceLT]
    try simp
  rw [keyB_good h1 h2 h3 h4]
  clear h3 h4
  refine SR.seqW (ι := {_u : Unit // s.all keyC = true}) (fun _ => ⟨[(0, .str s)], [], nid + 400, nid⟩) ?_ (fun ⟨_, h5⟩ => ?_)
  · refine SR.seqTo ⟨[(24, .int .i64 0), (23, .int .i64 s.length), (0, .str s)], [], nid + 100, nid⟩ ?_ ?_
    · simp -dsimp only [aqT, aqU, aqN, aqS, ↓seqK, ↓blkK, ↓loopK, step, stepBin, Nat.add_assoc nid, ↓reduceIte, Option.toList, ← Int.ofNat_tmod, ← Int.ofNat_tdiv, simprocAttr, BEq.rfl, LN_succ]
      refine Cov.drop (by omega) ?_
      simp only [SlotsIn, aqT, aqU, aqN, ↓seqK, ↓blkK, ↓loopK, step, stepBin, Nat.reduceBEq, Nat.reduceBeqDiff, Nat.add_assoc nid, Nat.reduceAdd, reduceCtorEq, ↓reduceIte, Nat.reduceLeDiff, Nat.reduceBneDiff, Option.toList, ← Int.ofNat_tmod, ← Int.ofNat_tdiv, Nat.reduceLT]
      try simp
    refine SR.block ?_
    refine SR.loopP (fun k : Nat => k ≤ s.length ∧ ∀ j, j < k → keyC (s.getD j 0) = true) (fun k : Nat => ⟨[(24, .int .i64 k), (23, .int .i64 s.length), (0, .str s)], [], nid + 100, nid⟩) (fun k => s.length + 1 - k) 0 ⟨by omega, fun j hj => by omega⟩ (Cov.drop (by omega) ?_) (fun k hk => ?_)
    · simp only [SlotsIn, aqT, aqU, aqN, ↓seqK, ↓blkK, ↓loopK, step, stepBin, Nat.reduceBEq, Nat.reduceBeqDiff, Nat.add_assoc nid, Nat.reduceAdd, reduceCtorEq, ↓reduceIte, Nat.reduceLeDiff, Nat.reduceBneDiff, Option.toList, ← Int.ofNat_tmod, ← Int.ofNat_tdiv, Nat.reduceLT]
      try simp
    obtain ⟨hk, hall⟩ := hk
    refine SR.seq ?_
    simp -dsimp only [aqT, aqU, aqN, aqS, ↓seqK, ↓blkK, ↓loopK, step, stepBin, Nat.add_assoc nid, ↓reduceIte, Option.toList, ← Int.ofNat_tmod, ← Int.ofNat_tdiv, simprocAttr, BEq.rfl, LN_succ]
    refine SR.seq ?_
    simp -dsimp only [aqT, aqU, aqN, aqS, ↓seqK, ↓blkK, ↓loopK, step, stepBin, Nat.add_assoc nid, ↓reduceIte, Option.toList, ← Int.ofNat_tmod, ← Int.ofNat_tdiv, simprocAttr, BEq.rfl, LN_succ]
    refine S2.dec (fun h3 => ?_) (fun h3 => ?_) <;> simp -dsimp only [aqT, aqU, aqN, aqS, ↓seqK, ↓blkK, ↓loopK, step, stepBin, Nat.add_assoc nid, ↓reduceIte, Option.toList, ← Int.ofNat_tmod, ← Int.ofNat_tdiv, simprocAttr, BEq.rfl, LN_succ]
    · have hkl : k < s.length := by omega
      have hno := keyC_not hkl
      have hyes : keyC (s.getD k 0) = true → ∀ j, j < k + 1 → keyC (s.getD j 0) = true := fun h j hj => by
        rcases (by omega : j < k ∨ j = k) with hj | hj
        · exact hall j hj
        · rw [hj]; exact h
      have ek : keyC (s.getD k 0) = keyI (((s.getD k 0).toNat : Nat) : Int) := rfl
      rw [ek] at hno hyes
      clear ek hall h3
      refine SR.seqW (ι := {_u : Unit // keyI (((s.getD k 0).toNat : Nat) : Int) = true}) (fun _ => ⟨[(24, .int .i64 k), (23, .int .i64 s.length), (0, .str s)], [], nid + 400, nid⟩) ?_ (fun ⟨_, h6⟩ => ?_)
      · refine SR.block ?_
        refine SR.seq ?_
        simp -dsimp only [aqT, aqU, aqN, aqS, ↓seqK, ↓blkK, ↓loopK, step, stepBin, Nat.add_assoc nid, ↓reduceIte, Option.toList, ← Int.ofNat_tmod, ← Int.ofNat_tdiv, simprocAttr, BEq.rfl, LN_succ]
        refine SR.seqTo ⟨[(4, .int .u8 (((s.getD k 0).toNat : Nat) : Int)), (24, .int .i64 k), (23, .int .i64 s.length), (0, .str s)], [], nid + 200, nid⟩ ?_ ?_
        · simp -dsimp only [aqT, aqU, aqN, aqS, ↓seqK, ↓blkK, ↓loopK, step, stepBin, Nat.add_assoc nid, ↓reduceIte, Option.toList, ← Int.ofNat_tmod, ← Int.ofNat_tdiv, simprocAttr, BEq.rfl, LN_succ]
          refine ⟨by omega, Cov.drop (by omega) ?_⟩
          simp only [SlotsIn, aqT, aqU, aqN, ↓seqK, ↓blkK, ↓loopK, step, stepBin, Nat.reduceBEq, Nat.reduceBeqDiff, Nat.add_assoc nid, Nat.reduceAdd, reduceCtorEq, ↓reduceIte, Nat.reduceLeDiff, Nat.reduceBneDiff, Option.toList, ← Int.ofNat_tmod, ← Int.ofNat_tdiv, Nat.reduceLT]
          try simp
        clear hyes
        generalize (((s.getD k 0).toNat : Nat) : Int) = c at *
        refine SR.seqTo ⟨[(52, .bool (!keyI c)), (24, .int .i64 k), (23, .int .i64 s.length), (0, .str s)], [], nid + 300, nid⟩ ?_ ?_
        · have cls : (97 ≤ c ∧ c ≤ 122) ∨ (48 ≤ c ∧ c ≤ 57) ∨ c = 45 ∨ c = 95 ∨ 122 < c ∨ (57 < c ∧ c < 97 ∧ c ≠ 95) ∨ (c < 48 ∧ c ≠ 45) := by omega
          clear hno
          rcases cls with hc | hc | hc | hc | hc | hc | hc
          · rw [keyI_iff.2 (by omega)]
            simp -dsimp only [aqT, aqU, aqN, aqS, ↓seqK, ↓blkK, ↓loopK, step, stepBin, Nat.add_assoc nid, ↓reduceIte, Option.toList, ← Int.ofNat_tmod, ← Int.ofNat_tdiv, simprocAttr, BEq.rfl, LN_succ, decide_eq_true hc.1, decide_eq_true hc.2]
            exact Cov.drop (by omega) (by simp only [SlotsIn, aqT, aqU, aqN, ↓seqK, ↓blkK, ↓loopK, step, stepBin, Nat.reduceBEq, Nat.reduceBeqDiff, Nat.add_assoc nid, Nat.reduceAdd, reduceCtorEq, ↓reduceIte, Nat.reduceLeDiff, Nat.reduceBneDiff, Option.toList, ← Int.ofNat_tmod, ← Int.ofNat_tdiv, Nat.reduceLT])
          · rw [keyI_iff.2 (by omega)]
            simp -dsimp only [aqT, aqU, aqN, aqS, ↓seqK, ↓blkK, ↓loopK, step, stepBin, Nat.add_assoc nid, ↓reduceIte, Option.toList, ← Int.ofNat_tmod, ← Int.ofNat_tdiv, simprocAttr, BEq.rfl, LN_succ, decide_eq_false (show ¬ (97 : Int) ≤ c by omega), decide_eq_true hc.1, decide_eq_true hc.2]
            exact Cov.drop (by omega) (by simp only [SlotsIn, aqT, aqU, aqN, ↓seqK, ↓blkK, ↓loopK, step, stepBin, Nat.reduceBEq, Nat.reduceBeqDiff, Nat.add_assoc nid, Nat.reduceAdd, reduceCtorEq, ↓reduceIte, Nat.reduceLeDiff, Nat.reduceBneDiff, Option.toList, ← Int.ofNat_tmod, ← Int.ofNat_tdiv, Nat.reduceLT])
          · rw [keyI_iff.2 (by omega)]
            simp -dsimp only [aqT, aqU, aqN, aqS, ↓seqK, ↓blkK, ↓loopK, step, stepBin, Nat.add_assoc nid, ↓reduceIte, Option.toList, ← Int.ofNat_tmod, ← Int.ofNat_tdiv, simprocAttr, BEq.rfl, LN_succ, decide_eq_false (show ¬ (97 : Int) ≤ c by omega), decide_eq_false (show ¬ (48 : Int) ≤ c by omega), show (c == 45) = true by simp [hc]]
            exact Cov.drop (by omega) (by simp only [SlotsIn, aqT, aqU, aqN, ↓seqK, ↓blkK, ↓loopK, step, stepBin, Nat.reduceBEq, Nat.reduceBeqDiff, Nat.add_assoc nid, Nat.reduceAdd, reduceCtorEq, ↓reduceIte, Nat.reduceLeDiff, Nat.reduceBneDiff, Option.toList, ← Int.ofNat_tmod, ← Int.ofNat_tdiv, Nat.reduceLT])
          · rw [keyI_iff.2 (by omega)]
            simp -dsimp only [aqT, aqU, aqN, aqS, ↓seqK, ↓blkK, ↓loopK, step, stepBin, Nat.add_assoc nid, ↓reduceIte, Option.toList, ← Int.ofNat_tmod, ← Int.ofNat_tdiv, simprocAttr, BEq.rfl, LN_succ, decide_eq_false (show ¬ (97 : Int) ≤ c by omega), decide_eq_true (show (48 : Int) ≤ c by omega), decide_eq_false (show ¬ c ≤ (57 : Int) by omega), show (c == 45) = false by simp [hc], show (c == 95) = true by simp [hc]]
            exact Cov.drop (by omega) (by simp only [SlotsIn, aqT, aqU, aqN, ↓seqK, ↓blkK, ↓loopK, step, stepBin, Nat.reduceBEq, Nat.reduceBeqDiff, Nat.add_assoc nid, Nat.reduceAdd, reduceCtorEq, ↓reduceIte, Nat.reduceLeDiff, Nat.reduceBneDiff, Option.toList, ← Int.ofNat_tmod, ← Int.ofNat_tdiv, Nat.reduceLT])
          · rw [keyI_no (by omega)]
            simp -dsimp only [aqT, aqU, aqN, aqS, ↓seqK, ↓blkK, ↓loopK, step, stepBin, Nat.add_assoc nid, ↓reduceIte, Option.toList, ← Int.ofNat_tmod, ← Int.ofNat_tdiv, simprocAttr, BEq.rfl, LN_succ, decide_eq_true (show (97 : Int) ≤ c by omega), decide_eq_false (show ¬ c ≤ (122 : Int) by omega), decide_eq_true (show (48 : Int) ≤ c by omega), decide_eq_false (show ¬ c ≤ (57 : Int) by omega), show (c == 45) = false by simp; omega, show (c == 95) = false by simp; omega]
            exact Cov.drop (by omega) (by simp only [SlotsIn, aqT, aqU, aqN, ↓seqK, ↓blkK, ↓loopK, step, stepBin, Nat.reduceBEq, Nat.reduceBeqDiff, Nat.add_assoc nid, Nat.reduceAdd, reduceCtorEq, ↓reduceIte, Nat.reduceLeDiff, Nat.reduceBneDiff, Option.toList, ← Int.ofNat_tmod, ← Int.ofNat_tdiv, Nat.reduceLT])
          · rw [keyI_no (by omega)]
            simp -dsimp only [aqT, aqU, aqN, aqS, ↓seqK, ↓blkK, ↓loopK, step, stepBin, Nat.add_assoc nid, ↓reduceIte, Option.toList, ← Int.ofNat_tmod, ← Int.ofNat_tdiv, simprocAttr, BEq.rfl, LN_succ, decide_eq_false (show ¬ (97 : Int) ≤ c by omega), decide_eq_true (show (48 : Int) ≤ c by omega), decide_eq_false (show ¬ c ≤ (57 : Int) by omega), show (c == 45) = false by simp; omega, show (c == 95) = false by simp; omega]
            exact Cov.drop (by omega) (by simp only [SlotsIn, aqT, aqU, aqN, ↓seqK, ↓blkK, ↓loopK, step, stepBin, Nat.reduceBEq, Nat.reduceBeqDiff, Nat.add_assoc nid, Nat.reduceAdd, reduceCtorEq, ↓reduceIte, Nat.reduceLeDiff, Nat.reduceBneDiff, Option.toList, ← Int.ofNat_tmod, ← Int.ofNat_tdiv, Nat.reduceLT])
          · rw [keyI_no (by omega)]
            simp -dsimp only [aqT, aqU, aqN, aqS, ↓seqK, ↓blkK, ↓loopK, step, stepBin, Nat.add_assoc nid, ↓reduceIte, Option.toList, ← Int.ofNat_tmod, ← Int.ofNat_tdiv, simprocAttr, BEq.rfl, LN_succ, decide_eq_false (show ¬ (97 : Int) ≤ c by omega), decide_eq_false (show ¬ (48 : Int) ≤ c by omega), show (c == 45) = false by simp; omega, show (c == 95) = false by simp; omega]
            exact Cov.drop (by omega) (by simp only [SlotsIn, aqT, aqU, aqN, ↓seqK, ↓blkK, ↓loopK, step, stepBin, Nat.reduceBEq, Nat.reduceBeqDiff, Nat.add_assoc nid, Nat.reduceAdd, reduceCtorEq, ↓reduceIte, Nat.reduceLeDiff, Nat.reduceBneDiff, Option.toList, ← Int.ofNat_tmod, ← Int.ofNat_tdiv, Nat.reduceLT])
        refine SR.run (t := .mk) ?_
        cases hb : keyI c
        · rw [hno hb]
          simp -dsimp only [aqT, aqU, aqN, aqS, ↓seqK, ↓blkK, ↓loopK, step, stepBin, Nat.add_assoc nid, ↓reduceIte, Option.toList, ← Int.ofNat_tmod, ← Int.ofNat_tdiv, simprocAttr, BEq.rfl, LN_succ]
          refine RetOK.pure (.inl rfl) rfl ?_
          simp [cvT, step, res]
        · simp -dsimp only [aqT, aqU, aqN, aqS, ↓seqK, ↓blkK, ↓loopK, step, stepBin, Nat.add_assoc nid, ↓reduceIte, Option.toList, ← Int.ofNat_tmod, ← Int.ofNat_tdiv, simprocAttr, BEq.rfl, LN_succ]
          refine ⟨⟨(), rfl⟩, Cov.drop (by omega) ?_⟩
          simp only [SlotsIn, aqT, aqU, aqN, ↓seqK, ↓blkK, ↓loopK, step, stepBin, Nat.reduceBEq, Nat.reduceBeqDiff, Nat.add_assoc nid, Nat.reduceAdd, reduceCtorEq, ↓reduceIte, Nat.reduceLeDiff, Nat.reduceBneDiff, Option.toList, ← Int.ofNat_tmod, ← Int.ofNat_tdiv, Nat.reduceLT]
          try simp
      refine SR.run (t := .mk) ?_
      simp -dsimp only [aqT, aqU, aqN, aqS, ↓seqK, ↓blkK, ↓loopK, step, stepBin, Nat.add_assoc nid, ↓reduceIte, Option.toList, ← Int.ofNat_tmod, ← Int.ofNat_tdiv, simprocAttr, BEq.rfl, LN_succ]
      refine ⟨by unfold inI64; omega, k + 1, ⟨⟨by omega, hyes h6⟩, by omega⟩, Cov.go [] [] ?_⟩
      simp [cvT, step, res]
    · refine ⟨⟨(), keyC_all (fun j hj => hall j (by omega))⟩, Cov.drop (by omega) ?_⟩
      simp only [SlotsIn, aqT, aqU, aqN, ↓seqK, ↓blkK, ↓loopK, step, stepBin, Nat.reduceBEq, Nat.reduceBeqDiff, Nat.add_assoc nid, Nat.reduceAdd, reduceCtorEq, ↓reduceIte, Nat.reduceLeDiff, Nat.reduceBneDiff, Option.toList, ← Int.ofNat_tmod, ← Int.ofNat_tdiv, Nat.reduceLT]
      try simp
  · rw [h5]
    refine SR.run (t := .mk) ?_
    simp -dsimp only [aqT, aqU, aqN, aqS, ↓seqK, ↓blkK, ↓loopK, step, stepBin, Nat.add_assoc nid, ↓reduceIte, Option.toList, ← Int.ofNat_tmod, ← Int.ofNat_tdiv, simprocAttr, BEq.rfl, LN_succ]
    refine RetOK.pure (.inl rfl) rfl ?_
    simp [cvT, step, res]
end Go.Proofs.YtpifoghhaohhaaaGreatDoor
namespace Go.Proofs.YtpifoghhaohhaaaGreatDoor
open Go.RowKit Go.Shelf Go.Lib
theorem getD_lt {l : List (List UInt8)} {k : Nat} (hk : k < l.length) : l.getD k [] = l[k] := by rw [List.getD_eq_getElem?_getD, List.getElem?_eq_getElem hk]; rfl
def idxF (F : List UInt8 → Bool) (l : List (List UInt8)) : Int := if l.any F = true then ((l.findIdx F : Nat) : Int) else -1
theorem idxF_at {F : List UInt8 → Bool} {l : List (List UInt8)} {k : Nat} (hk : k < l.length) (h : F (l.getD k []) = true) (h0 : ∀ j, j < k → F (l.getD j []) = false) : idxF F l = (k : Nat) := by
  have e : l.findIdx F = k := (List.findIdx_eq hk).2 ⟨by rw [getD_lt hk] at h; exact h, fun j hj => by have := h0 j hj; rw [getD_lt (by omega)] at this; exact this⟩
  unfold idxF
  rw [if_pos, e]
  refine List.any_eq_true.2 ⟨l[k], List.getElem_mem hk, ?_⟩
  rw [getD_lt hk] at h; exact h
theorem idxF_no {F : List UInt8 → Bool} {l : List (List UInt8)} (h0 : ∀ j, j < l.length → F (l.getD j []) = false) : idxF F l = -1 := by
  unfold idxF
  rw [if_neg]
  intro h
  obtain ⟨x, hx, hf⟩ := List.any_eq_true.1 h
  obtain ⟨j, hj, rfl⟩ := List.getElem_of_mem hx
  have := h0 j hj
  rw [getD_lt hj, hf] at this; cases this
theorem indexM_c (f : Nat) (F : List UInt8 → Bool) (nl : Bool) (l : List (List UInt8)) (nid : Nat) (hl : l.length ≤ 1000000) (hs : ShortRows 1000000 l) (hf : ∀ x m, x.length ≤ 1000000 → ACall Tryz.prog f [.str x] [] m (.bool (F x)) []) :
    ACall Tryz.prog 151 [litS nl l, .fn f []] [] nid (.int .i64 (idxF F l)) [] := by
  refine acall_run c151 (by simp [a151]) ?_
  unfold litS
  simp -dsimp only [aqT, aqU, aqN, aqS, ↓seqK, ↓blkK, ↓loopK, step, stepBin, Nat.add_assoc nid, ↓reduceIte, Option.toList, ← Int.ofNat_tmod, ← Int.ofNat_tdiv, simprocAttr, BEq.rfl, LN_succ, a151]
  refine LP.mkP (fun k : Nat => k ≤ l.length ∧ ∀ j, j < k → F (l.getD j []) = false) (fun k : Nat => ⟨[(8, .int .i64 k), (7, .int .i64 l.length), (0, litS nl l), (1, .fn f [])], [], nid + 100, nid⟩) (fun k => l.length + 1 - k) 0 ⟨by omega, fun j hj => by omega⟩ (Cov.go [] [] ?_) (fun k hk => ?_)
  · simp [cvT, step, res, litS]
  obtain ⟨hk, hb⟩ := hk
  unfold litS
  simp -dsimp only [aqT, aqU, aqN, aqS, ↓seqK, ↓blkK, ↓loopK, step, stepBin, Nat.add_assoc nid, ↓reduceIte, Option.toList, ← Int.ofNat_tmod, ← Int.ofNat_tdiv, simprocAttr, BEq.rfl, LN_succ]
  refine S2.dec (fun h3 => ?_) (fun h3 => ?_) <;> simp -dsimp only [aqT, aqU, aqN, aqS, ↓seqK, ↓blkK, ↓loopK, step, stepBin, Nat.add_assoc nid, ↓reduceIte, Option.toList, ← Int.ofNat_tmod, ← Int.ofNat_tdiv, simprocAttr, BEq.rfl, LN_succ]
  · have hkl : k < l.length := by omega
    have hat := fun h => idxF_at (F := F) hkl h hb
    have hnx : F (l.getD k []) = false → ∀ j, j < k + 1 → F (l.getD j []) = false := fun h j hj => by
      by_cases e : j = k
      · rw [e]; exact h
      · exact hb j (by omega)
    have hx := hs.at k
    generalize l.getD k [] = x at *
    refine ⟨by omega, CallO.pure (hf x _ hx) ?_⟩
    simp -dsimp only [aqT, aqU, aqN, aqS, ↓seqK, ↓blkK, ↓loopK, step, stepBin, Nat.add_assoc nid, ↓reduceIte, Option.toList, ← Int.ofNat_tmod, ← Int.ofNat_tdiv, simprocAttr, BEq.rfl, LN_succ]
    cases hx : F x <;> simp -dsimp only [aqT, aqU, aqN, aqS, ↓seqK, ↓blkK, ↓loopK, step, stepBin, Nat.add_assoc nid, ↓reduceIte, Option.toList, ← Int.ofNat_tmod, ← Int.ofNat_tdiv, simprocAttr, BEq.rfl, LN_succ]
    · refine ⟨by unfold inI64; omega, k + 1, ⟨⟨by omega, hnx hx⟩, by omega⟩, Cov.go [] [] ?_⟩
      simp [cvT, step, res, litS]
    · rw [hat hx]
      refine RetOK.pure (.inl rfl) rfl ?_
      simp [cvT, step, res]
  · have hkn : k = l.length := by omega
    subst hkn
    rw [idxF_no hb]
    refine RetOK.pure (.inl rfl) rfl ?_
    simp [cvT, step, res]
theorem containsM_c (f : Nat) (F : List UInt8 → Bool) (nl : Bool) (l : List (List UInt8)) (nid : Nat) (hl : l.length ≤ 1000000) (hs : ShortRows 1000000 l) (hf : ∀ x m, x.length ≤ 1000000 → ACall Tryz.prog f [.str x] [] m (.bool (F x)) []) :
    ACall Tryz.prog 61 [litS nl l, .fn f []] [] nid (.bool (l.any F)) [] := by
  have e : decide (0 ≤ idxF F l) = l.any F := by
    unfold idxF
    cases h : l.any F <;> simp
  refine acall_run c61 (by simp [a61]) ?_
  simp -dsimp only [aqT, aqU, aqN, aqS, ↓seqK, ↓blkK, ↓loopK, step, stepBin, Nat.add_assoc nid, ↓reduceIte, Option.toList, ← Int.ofNat_tmod, ← Int.ofNat_tdiv, simprocAttr, BEq.rfl, LN_succ, a61]
  refine CallO.pure (indexM_c f F nl l _ hl hs hf) ?_
  simp -dsimp only [aqT, aqU, aqN, aqS, ↓seqK, ↓blkK, ↓loopK, step, stepBin, Nat.add_assoc nid, ↓reduceIte, Option.toList, ← Int.ofNat_tmod, ← Int.ofNat_tdiv, simprocAttr, BEq.rfl, LN_succ]
  rw [e]
  refine RetOK.pure (.inl rfl) rfl ?_
  simp [cvT, step, res]
def oddS (s : List UInt8) : Bool := !respB s
theorem oddR_c (s : List UInt8) (nid : Nat) (hs : s.length ≤ 1000000) : ACall Tryz.prog 86 [.str s] [] nid (.bool (oddS s)) [] := by
  refine acall_run c86 (by simp [a86]) ?_
  simp -dsimp only [aqT, aqU, aqN, aqS, ↓seqK, ↓blkK, ↓loopK, step, stepBin, Nat.add_assoc nid, ↓reduceIte, Option.toList, ← Int.ofNat_tmod, ← Int.ofNat_tdiv, simprocAttr, BEq.rfl, LN_succ, a86]
  refine CallO.pure (respR_c _ _) ?_
  simp -dsimp only [aqT, aqU, aqN, ↓seqK, ↓blkK, ↓loopK, step, stepBin, Nat.reduceBEq, Nat.reduceBeqDiff, Nat.add_assoc nid, Nat.reduceAdd, reduceCtorEq, ↓reduceIte, Nat.reduceLeDiff, Nat.reduceBneDiff, Option.toList, ← Int.ofNat_tmod, ← Int.ofNat_tdiv, Nat.reduceLT]
  refine RetOK.pure (.inl rfl) rfl ?_
  simp [cvT, step, res, oddS]
theorem oddD_c (s : List UInt8) (nid : Nat) (hs : s.length ≤ 1000000) : ACall Tryz.prog 152 [.str s] [] nid (.bool (oddS s)) [] := by
  refine acall_run c152 (by simp [a152]) ?_
  simp -dsimp only [aqT, aqU, aqN, aqS, ↓seqK, ↓blkK, ↓loopK, step, stepBin, Nat.add_assoc nid, ↓reduceIte, Option.toList, ← Int.ofNat_tmod, ← Int.ofNat_tdiv, simprocAttr, BEq.rfl, LN_succ, a152]
  refine CallO.pure (respD_c _ _ hs) ?_
  simp -dsimp only [aqT, aqU, aqN, ↓seqK, ↓blkK, ↓loopK, step, stepBin, Nat.reduceBEq, Nat.reduceBeqDiff, Nat.add_assoc nid, Nat.reduceAdd, reduceCtorEq, ↓reduceIte, Nat.reduceLeDiff, Nat.reduceBneDiff, Option.toList, ← Int.ofNat_tmod, ← Int.ofNat_tdiv, Nat.reduceLT]
  refine RetOK.pure (.inl rfl) rfl ?_
  simp [cvT, step, res, oddS]
def rowBad (n : Nat) (R : RowL) (k : Nat) : Int :=
  if keyB (rowF R k) = false then 5 else if (rowR R k).length ≠ n then 3 else if (rowR R k).any oddS = true then 9 else if 0 < k ∧ (Op.bytesLess (rowF R k) (rowF R (k - 1)) || rowF R k == rowF R (k - 1)) = true then 7 else 0
def dictV (G : List (List UInt8)) (R : RowL) : Int :=
  if G.length = 0 then 8 else if 100 < G.length ∨ 300 < R.length then 2 else if G.any oddS = true then 9 else firstBad (rowBad G.length R) (List.range R.length)
structure DictW (G : List (List UInt8)) (R : RowL) : Prop where
  gl : G.length ≤ 1000000
  gs : ShortRows 1000000 G
  rl : R.length ≤ 1000000
  rs : ∀ k, (rowF R k).length ≤ 1000000 ∧ (rowR R k).length ≤ 1000000 ∧ ShortRows 1000000 (rowR R k)
theorem firstR_hit {f : Nat → Int} {n k : Nat} (hk : k < n) (h0 : ∀ j, j < k → f j = 0) (h : f k ≠ 0) : firstBad f (List.range n) = f k := by
  have e : List.range n = List.range k ++ (List.range' k (n - k)) := by
    rw [List.range_eq_range', List.range_eq_range', show List.range' 0 n = List.range' 0 (k + (n - k)) by congr 1; omega, ← List.range'_append_1]
    simp
  rw [e, firstBad_append]
  · rw [show n - k = (n - k - 1) + 1 by omega, List.range'_succ]
    simp [firstBad, h]
  · have : ∀ l : List Nat, (∀ j ∈ l, f j = 0) → firstBad f l = 0 := fun l => by
      induction l with
      | nil => intro _; rfl
      | cons a l ih => intro hl; simp only [firstBad]; rw [if_pos (hl a (by simp))]; exact ih (fun j hj => hl j (by simp [hj]))
    exact this _ (fun j hj => h0 j (List.mem_range.1 hj))
theorem firstR_none {f : Nat → Int} {n : Nat} (h0 : ∀ j, j < n → f j = 0) : firstBad f (List.range n) = 0 := by
  have : ∀ l : List Nat, (∀ j ∈ l, f j = 0) → firstBad f l = 0 := fun l => by
    induction l with
    | nil => intro _; rfl
    | cons a l ih => intro hl; simp only [firstBad]; rw [if_pos (hl a (by simp))]; exact ih (fun j hj => hl j (by simp [hj]))
  exact this _ (fun j hj => h0 j (List.mem_range.1 hj))
theorem dictV_row {G : List (List UInt8)} {R : RowL} {k : Nat} {e : Int} (h1 : G.length ≠ 0) (h2 : ¬ (100 < G.length ∨ 300 < R.length)) (h3 : G.any oddS = false) (hk : k < R.length) (h0 : ∀ j, j < k → rowBad G.length R j = 0) (h : rowBad G.length R k = e) (he : e ≠ 0) : dictV G R = e := by
  unfold dictV
  rw [if_neg h1, if_neg h2, if_neg (by simp [h3]), firstR_hit hk h0 (by rw [h]; exact he), h]
theorem dictV_good {G : List (List UInt8)} {R : RowL} (h1 : G.length ≠ 0) (h2 : ¬ (100 < G.length ∨ 300 < R.length)) (h3 : G.any oddS = false) (h0 : ∀ j, j < R.length → rowBad G.length R j = 0) : dictV G R = 0 := by
  unfold dictV
  rw [if_neg h1, if_neg h2, if_neg (by simp [h3]), firstR_none h0]
end Go.Proofs.YtpifoghhaohhaaaGreatDoor
namespace Go.Proofs.YtpifoghhaohhaaaGreatDoor
open Go.RowKit Go.Shelf Go.Lib
def boxP2 (g0 r0 : Bool) (b : Nat → Bool) (G : List (List UInt8)) (R : RowL) : Option ABlk := some (.box 29 [.lit g0 G.length [.s fun k => G.getD k []], .lit r0 R.length [.s fun k => rowF R k, .l b (fun k => (rowR R k).length) (fun k => [.s fun j => (rowR R k).getD j []])]])
set_option maxHeartbeats 1000000 in
theorem dictR_c (g0 r0 : Bool) (b : Nat → Bool) (G : List (List UInt8)) (R : RowL) (nid : Nat) (hB : DictW G R) : ACall Tryz.prog 17 [dictP g0 r0 b G R] [] nid (.int .i64 (dictV G R)) [] := by
  have hgl := hB.gl
  have hrl := hB.rl
  refine acall_sr c17 (by simp [a17]) ?_
  unfold a17
  refine SR.seq ?_
  unfold dictP
  simp -dsimp only [aqT, aqU, aqN, aqS, ↓seqK, ↓blkK, ↓loopK, step, stepBin, Nat.add_assoc nid, ↓reduceIte, Option.toList, ← Int.ofNat_tmod, ← Int.ofNat_tdiv, simprocAttr, BEq.rfl, LN_succ]
  refine SR.seq ?_
  simp -dsimp only [aqT, aqU, aqN, aqS, ↓seqK, ↓blkK, ↓loopK, step, stepBin, Nat.add_assoc nid, ↓reduceIte, Option.toList, ← Int.ofNat_tmod, ← Int.ofNat_tdiv, simprocAttr, BEq.rfl, LN_succ]
  refine SR.seqW (ι := {_u : Unit // (G.length ≠ 0 ∧ ¬ (100 < G.length ∨ 300 < R.length)) ∧ G.any oddS = false}) (fun _ => ⟨[(3, .fn 86 []), (1, .ptr nid 0)], [(nid, boxP2 g0 r0 b G R)], nid + 100, nid⟩) ?_ (fun ⟨_, ⟨h1, h2⟩, h3⟩ => ?_)
  · refine SR.run (t := .mk) ?_
    simp -dsimp only [aqT, aqU, aqN, aqS, ↓seqK, ↓blkK, ↓loopK, step, stepBin, Nat.add_assoc nid, ↓reduceIte, Option.toList, ← Int.ofNat_tmod, ← Int.ofNat_tdiv, simprocAttr, BEq.rfl, LN_succ]
    refine S2.intro (fun h1 => ?_) (fun h1 => ?_) <;> simp -dsimp only [aqT, aqU, aqN, aqS, ↓seqK, ↓blkK, ↓loopK, step, stepBin, Nat.add_assoc nid, ↓reduceIte, Option.toList, ← Int.ofNat_tmod, ← Int.ofNat_tdiv, simprocAttr, BEq.rfl, LN_succ]
    · have e : dictV G R = 8 := by unfold dictV; rw [if_pos (by simp at h1; exact congrArg List.length h1)]
      rw [e]
      refine RetOK.pure (.inl rfl) rfl ?_
      simp [cvT, step, res]
    have h1' : G.length ≠ 0 := by simp at h1; exact fun e => h1 (List.eq_nil_of_length_eq_zero e)
    refine S2.dec (fun h2 => ?_) (fun h2 => ?_) <;> simp -dsimp only [aqT, aqU, aqN, aqS, ↓seqK, ↓blkK, ↓loopK, step, stepBin, Nat.add_assoc nid, ↓reduceIte, Option.toList, ← Int.ofNat_tmod, ← Int.ofNat_tdiv, simprocAttr, BEq.rfl, LN_succ]
    · have e : dictV G R = 2 := by unfold dictV; rw [if_neg h1', if_pos (.inl (by omega))]
      rw [e]
      refine RetOK.pure (.inl rfl) rfl ?_
      simp [cvT, step, res]
    refine S2.dec (fun h4 => ?_) (fun h4 => ?_) <;> simp -dsimp only [aqT, aqU, aqN, aqS, ↓seqK, ↓blkK, ↓loopK, step, stepBin, Nat.add_assoc nid, ↓reduceIte, Option.toList, ← Int.ofNat_tmod, ← Int.ofNat_tdiv, simprocAttr, BEq.rfl, LN_succ]
    · have e : dictV G R = 2 := by unfold dictV; rw [if_neg h1', if_pos (.inr (by omega))]
      rw [e]
      refine RetOK.pure (.inl rfl) rfl ?_
      simp [cvT, step, res]
    have h2' : ¬ (100 < G.length ∨ 300 < R.length) := by omega
    refine CallO.pure (containsM_c 86 oddS g0 G _ hB.gl hB.gs (fun x m hx => oddR_c x m hx)) ?_
    simp -dsimp only [aqT, aqU, aqN, aqS, ↓seqK, ↓blkK, ↓loopK, step, stepBin, Nat.add_assoc nid, ↓reduceIte, Option.toList, ← Int.ofNat_tmod, ← Int.ofNat_tdiv, simprocAttr, BEq.rfl, LN_succ]
    refine S2.intro (fun h5 => ?_) (fun h5 => ?_) <;> simp -dsimp only [aqT, aqU, aqN, aqS, ↓seqK, ↓blkK, ↓loopK, step, stepBin, Nat.add_assoc nid, ↓reduceIte, Option.toList, ← Int.ofNat_tmod, ← Int.ofNat_tdiv, simprocAttr, BEq.rfl, LN_succ]
    · have e : dictV G R = 9 := by unfold dictV; rw [if_neg h1', if_neg h2', if_pos h5]
      rw [e]
      refine RetOK.pure (.inl rfl) rfl ?_
      simp [cvT, step, res]
    refine ⟨⟨(), ⟨h1', h2'⟩, h5⟩, Cov.go [] [] ?_⟩
    simp [cvT, step, res, boxP2]
  refine SR.seqW (ι := {_u : Unit // ∀ j, j < R.length → rowBad G.length R j = 0}) (fun _ => ⟨[], [], nid + 2000, nid⟩) ?_ (fun ⟨_, h5⟩ => ?_)
  · unfold boxP2
    refine SR.seqTo ⟨[(30, .int .i64 0), (29, .int .i64 R.length), (28, .lit r0 R.length [.s fun k => rowF R k, .l b (fun k => (rowR R k).length) (fun k => [.s fun j => (rowR R k).getD j []])]), (3, .fn 86 []), (1, .ptr nid 0)], [(nid, boxP2 g0 r0 b G R)], nid + 200, nid⟩ ?_ ?_
    · simp -dsimp only [aqT, aqU, aqN, aqS, ↓seqK, ↓blkK, ↓loopK, step, stepBin, Nat.add_assoc nid, ↓reduceIte, Option.toList, ← Int.ofNat_tmod, ← Int.ofNat_tdiv, simprocAttr, BEq.rfl, LN_succ]
      refine Cov.go [] [] ?_
      simp [cvT, step, res, boxP2, -List.getD_eq_getElem?_getD]
    refine SR.block ?_
    refine SR.loopP (fun k : Nat => k ≤ R.length ∧ ∀ j, j < k → rowBad G.length R j = 0) (fun k : Nat => ⟨[(30, .int .i64 k), (29, .int .i64 R.length), (28, .lit r0 R.length [.s fun k => rowF R k, .l b (fun k => (rowR R k).length) (fun k => [.s fun j => (rowR R k).getD j []])]), (3, .fn 86 []), (1, .ptr nid 0)], [(nid, boxP2 g0 r0 b G R)], nid + 200, nid⟩) (fun k => R.length + 1 - k) 0 ⟨by omega, fun j hj => by omega⟩ (Cov.drop (by omega) ?_) (fun k hk => ?_)
    · simp only [SlotsIn, aqT, aqU, aqN, ↓seqK, ↓blkK, ↓loopK, step, stepBin, Nat.reduceBEq, Nat.reduceBeqDiff, Nat.add_assoc nid, Nat.reduceAdd, reduceCtorEq, ↓reduceIte, Nat.reduceLeDiff, Nat.reduceBneDiff, Option.toList, ← Int.ofNat_tmod, ← Int.ofNat_tdiv, Nat.reduceLT]
      try simp
    obtain ⟨hk, hall⟩ := hk
    refine SR.seq ?_
    simp -dsimp only [aqT, aqU, aqN, aqS, ↓seqK, ↓blkK, ↓loopK, step, stepBin, Nat.add_assoc nid, ↓reduceIte, Option.toList, ← Int.ofNat_tmod, ← Int.ofNat_tdiv, simprocAttr, BEq.rfl, LN_succ]
    refine SR.seq ?_
    simp -dsimp only [aqT, aqU, aqN, aqS, ↓seqK, ↓blkK, ↓loopK, step, stepBin, Nat.add_assoc nid, ↓reduceIte, Option.toList, ← Int.ofNat_tmod, ← Int.ofNat_tdiv, simprocAttr, BEq.rfl, LN_succ]
    refine S2.dec (fun h4 => ?_) (fun h4 => ?_) <;> simp -dsimp only [aqT, aqU, aqN, aqS, ↓seqK, ↓blkK, ↓loopK, step, stepBin, Nat.add_assoc nid, ↓reduceIte, Option.toList, ← Int.ofNat_tmod, ← Int.ofNat_tdiv, simprocAttr, BEq.rfl, LN_succ]
    · have hkl : k < R.length := by omega
      have hbad := fun e => dictV_row (e := e) h1 h2 h3 hkl hall
      obtain ⟨hf1, hr1, hs1⟩ := hB.rs k
      refine SR.seqW (ι := {_u : Unit // rowBad G.length R k = 0}) (fun _ => ⟨[(30, .int .i64 k), (29, .int .i64 R.length), (28, .lit r0 R.length [.s fun k => rowF R k, .l b (fun k => (rowR R k).length) (fun k => [.s fun j => (rowR R k).getD j []])]), (3, .fn 86 []), (1, .ptr nid 0)], [(nid, boxP2 g0 r0 b G R)], nid + 900, nid⟩) ?_ (fun ⟨_, h6⟩ => ?_)
      · refine SR.block ?_
        refine SR.seqTo ⟨[(5, .ptr (nid + 300) 0), (4, .int .i64 k), (30, .int .i64 k), (29, .int .i64 R.length), (28, .lit r0 R.length [.s fun k => rowF R k, .l b (fun k => (rowR R k).length) (fun k => [.s fun j => (rowR R k).getD j []])]), (3, .fn 86 []), (1, .ptr nid 0)], [(nid + 300, some (.box 67 [.str (rowF R k), .lit (b k) (rowR R k).length [.s fun j => (rowR R k).getD j []]])), (nid, boxP2 g0 r0 b G R)], nid + 400, nid⟩ ?_ ?_
        · simp -dsimp only [aqT, aqU, aqN, aqS, ↓seqK, ↓blkK, ↓loopK, step, stepBin, Nat.add_assoc nid, ↓reduceIte, Option.toList, ← Int.ofNat_tmod, ← Int.ofNat_tdiv, simprocAttr, BEq.rfl, LN_succ]
          refine ⟨by omega, Cov.go [(nid + 300, nid + 216)] [] ?_⟩
          simp [cvT, step, res, boxP2, -List.getD_eq_getElem?_getD]
        refine SR.block ?_
        refine SR.seq ?_
        simp -dsimp only [aqT, aqU, aqN, aqS, ↓seqK, ↓blkK, ↓loopK, step, stepBin, Nat.add_assoc nid, ↓reduceIte, Option.toList, ← Int.ofNat_tmod, ← Int.ofNat_tdiv, simprocAttr, BEq.rfl, LN_succ]
        refine CallO.pure (keyR_c _ _) ?_
        simp -dsimp only [aqT, aqU, aqN, aqS, ↓seqK, ↓blkK, ↓loopK, step, stepBin, Nat.add_assoc nid, ↓reduceIte, Option.toList, ← Int.ofNat_tmod, ← Int.ofNat_tdiv, simprocAttr, BEq.rfl, LN_succ]
        refine SR.cond (b := !keyB (rowF R k)) (by simp [AX.val, getS]) (fun h => ?_) (fun h => ?_)
        · have hk : keyB (rowF R k) = false := by simpa using h
          rw [hbad 5 (by unfold rowBad; rw [if_pos hk]) (by decide)]
          refine SR.run (t := .mk) ?_
          simp -dsimp only [aqT, aqU, aqN, aqS, ↓seqK, ↓blkK, ↓loopK, step, stepBin, Nat.add_assoc nid, ↓reduceIte, Option.toList, ← Int.ofNat_tmod, ← Int.ofNat_tdiv, simprocAttr, BEq.rfl, LN_succ]
          refine RetOK.pure (.inl rfl) rfl ?_
          simp [cvT, step, res]
        have hk1 : ¬ keyB (rowF R k) = false := by simpa using h
        unfold boxP2
        refine SR.seq ?_
        simp -dsimp only [aqT, aqU, aqN, aqS, ↓seqK, ↓blkK, ↓loopK, step, stepBin, Nat.add_assoc nid, ↓reduceIte, Option.toList, ← Int.ofNat_tmod, ← Int.ofNat_tdiv, simprocAttr, BEq.rfl, LN_succ]
        refine SR.cond (b := (((rowR R k).length : Nat) : Int) != (G.length : Nat)) (by simp [AX.val, getS]) (fun h => ?_) (fun h => ?_)
        · have hk : (rowR R k).length ≠ G.length := fun e => by rw [e] at h; simp at h
          rw [hbad 3 (by unfold rowBad; rw [if_neg hk1, if_pos hk]) (by decide)]
          refine SR.run (t := .mk) ?_
          simp -dsimp only [aqT, aqU, aqN, aqS, ↓seqK, ↓blkK, ↓loopK, step, stepBin, Nat.add_assoc nid, ↓reduceIte, Option.toList, ← Int.ofNat_tmod, ← Int.ofNat_tdiv, simprocAttr, BEq.rfl, LN_succ]
          refine RetOK.pure (.inl rfl) rfl ?_
          simp [cvT, step, res]
        have hk2 : ¬ (rowR R k).length ≠ G.length := by
          have : (((rowR R k).length : Nat) : Int) = (G.length : Nat) := by simpa only [bne_eq_false_iff_eq] using h
          omega
        refine SR.seq ?_
        simp -dsimp only [aqT, aqU, aqN, aqS, ↓seqK, ↓blkK, ↓loopK, step, stepBin, Nat.add_assoc nid, ↓reduceIte, Option.toList, ← Int.ofNat_tmod, ← Int.ofNat_tdiv, simprocAttr, BEq.rfl, LN_succ]
        refine CallO.pure (containsM_c 86 oddS (b k) (rowR R k) _ hr1 hs1 (fun x m hx => oddR_c x m hx)) ?_
        simp -dsimp only [aqT, aqU, aqN, aqS, ↓seqK, ↓blkK, ↓loopK, step, stepBin, Nat.add_assoc nid, ↓reduceIte, Option.toList, ← Int.ofNat_tmod, ← Int.ofNat_tdiv, simprocAttr, BEq.rfl, LN_succ]
        refine SR.cond (b := (rowR R k).any oddS) (by simp [AX.val, getS]) (fun h => ?_) (fun h => ?_)
        · rw [hbad 9 (by unfold rowBad; rw [if_neg hk1, if_neg hk2, if_pos h]) (by decide)]
          refine SR.run (t := .mk) ?_
          simp -dsimp only [aqT, aqU, aqN, aqS, ↓seqK, ↓blkK, ↓loopK, step, stepBin, Nat.add_assoc nid, ↓reduceIte, Option.toList, ← Int.ofNat_tmod, ← Int.ofNat_tdiv, simprocAttr, BEq.rfl, LN_succ]
          refine RetOK.pure (.inl rfl) rfl ?_
          simp [cvT, step, res]
        have hk3 : ¬ (rowR R k).any oddS = true := by simp [h]
        refine SR.seqTo ⟨[(53, .bool (decide ((0 : Int) < k) && (Op.bytesLess (rowF R k) (rowF R (k - 1)) || rowF R k == rowF R (k - 1)))), (30, .int .i64 k), (29, .int .i64 R.length), (28, .lit r0 R.length [.s fun k => rowF R k, .l b (fun k => (rowR R k).length) (fun k => [.s fun j => (rowR R k).getD j []])]), (3, .fn 86 []), (1, .ptr nid 0)], [(nid, boxP2 g0 r0 b G R)], nid + 700, nid⟩ ?_ ?_
        · simp -dsimp only [aqT, aqU, aqN, aqS, ↓seqK, ↓blkK, ↓loopK, step, stepBin, Nat.add_assoc nid, ↓reduceIte, Option.toList, ← Int.ofNat_tmod, ← Int.ofNat_tdiv, simprocAttr, BEq.rfl, LN_succ]
          refine S2.dec (fun h0 => ?_) (fun h0 => ?_) <;> simp -dsimp only [aqT, aqU, aqN, aqS, ↓seqK, ↓blkK, ↓loopK, step, stepBin, Nat.add_assoc nid, ↓reduceIte, Option.toList, ← Int.ofNat_tmod, ← Int.ofNat_tdiv, simprocAttr, BEq.rfl, LN_succ]
          · have e : ((k : Int) - 1).toNat = k - 1 := by omega
            rw [e]
            refine ⟨by unfold inI64; omega, by omega, Cov.go [] [] ?_⟩
            simp [cvT, step, res, boxP2, decide_eq_true h0, -List.getD_eq_getElem?_getD]
            try omega
          · refine Cov.go [] [] ?_
            simp [cvT, step, res, boxP2, decide_eq_false h0, -List.getD_eq_getElem?_getD]
            try omega
        refine SR.cond (b := decide ((0 : Int) < k) && (Op.bytesLess (rowF R k) (rowF R (k - 1)) || rowF R k == rowF R (k - 1))) (by simp [AX.val, getS]) (fun h => ?_) (fun h => ?_)
        · simp only [Bool.and_eq_true, decide_eq_true_eq] at h
          rw [hbad 7 (by unfold rowBad; rw [if_neg hk1, if_neg hk2, if_neg hk3, if_pos ⟨by omega, h.2⟩]) (by decide)]
          refine SR.run (t := .mk) ?_
          simp -dsimp only [aqT, aqU, aqN, aqS, ↓seqK, ↓blkK, ↓loopK, step, stepBin, Nat.add_assoc nid, ↓reduceIte, Option.toList, ← Int.ofNat_tmod, ← Int.ofNat_tdiv, simprocAttr, BEq.rfl, LN_succ]
          refine RetOK.pure (.inl rfl) rfl ?_
          simp [cvT, step, res]
        have hk4 : ¬ (0 < k ∧ (Op.bytesLess (rowF R k) (rowF R (k - 1)) || rowF R k == rowF R (k - 1)) = true) := fun ⟨e1, e2⟩ => by
          rw [e2, decide_eq_true (by omega)] at h
          simp at h
        refine SR.run (t := .mk) ?_
        simp -dsimp only [aqT, aqU, aqN, aqS, ↓seqK, ↓blkK, ↓loopK, step, stepBin, Nat.add_assoc nid, ↓reduceIte, Option.toList, ← Int.ofNat_tmod, ← Int.ofNat_tdiv, simprocAttr, BEq.rfl, LN_succ]
        refine ⟨⟨(), by unfold rowBad; rw [if_neg hk1, if_neg hk2, if_neg hk3, if_neg hk4]⟩, Cov.go [] [] ?_⟩
        simp [cvT, step, res, boxP2, -List.getD_eq_getElem?_getD]
      refine SR.run (t := .mk) ?_
      simp -dsimp only [aqT, aqU, aqN, aqS, ↓seqK, ↓blkK, ↓loopK, step, stepBin, Nat.add_assoc nid, ↓reduceIte, Option.toList, ← Int.ofNat_tmod, ← Int.ofNat_tdiv, simprocAttr, BEq.rfl, LN_succ]
      refine ⟨by unfold inI64; omega, k + 1, ⟨⟨by omega, fun j hj => ?_⟩, by omega⟩, Cov.go [] [] ?_⟩
      · rcases (by omega : j < k ∨ j = k) with hj | hj
        · exact hall j hj
        · rw [hj]; exact h6
      simp [cvT, step, res, boxP2, -List.getD_eq_getElem?_getD]
    · refine ⟨⟨(), fun j hj => hall j (by omega)⟩, Cov.go [] [] ?_⟩
      simp [cvT, step, res, boxP2, -List.getD_eq_getElem?_getD]
  · rw [dictV_good h1 h2 h3 h5]
    refine SR.run (t := .mk) ?_
    simp -dsimp only [aqT, aqU, aqN, aqS, ↓seqK, ↓blkK, ↓loopK, step, stepBin, Nat.add_assoc nid, ↓reduceIte, Option.toList, ← Int.ofNat_tmod, ← Int.ofNat_tdiv, simprocAttr, BEq.rfl, LN_succ]
    refine RetOK.pure (.inl rfl) rfl ?_
    simp [cvT, step, res]
set_option maxHeartbeats 1000000 in
theorem dictD_c (g0 r0 : Bool) (b : Nat → Bool) (G : List (List UInt8)) (R : RowL) (nid : Nat) (hB : DictW G R) : ACall Tryz.prog 63 [dictP g0 r0 b G R] [] nid (.int .i64 (dictV G R)) [] := by
  have hgl := hB.gl
  have hrl := hB.rl
  refine acall_sr c63 (by simp [a63]) ?_
  unfold a63
  refine SR.seq ?_
  unfold dictP
  simp -dsimp only [aqT, aqU, aqN, aqS, ↓seqK, ↓blkK, ↓loopK, step, stepBin, Nat.add_assoc nid, ↓reduceIte, Option.toList, ← Int.ofNat_tmod, ← Int.ofNat_tdiv, simprocAttr, BEq.rfl, LN_succ]
  refine SR.seqW (ι := {_u : Unit // G.length ≠ 0 ∧ ¬ (100 < G.length ∨ 300 < R.length)}) (fun _ => ⟨[(1, .ptr nid 0)], [(nid, boxP2 g0 r0 b G R)], nid + 100, nid⟩) ?_ (fun ⟨_, h1, h2⟩ => ?_)
  · refine SR.run (t := .mk) ?_
    simp -dsimp only [aqT, aqU, aqN, aqS, ↓seqK, ↓blkK, ↓loopK, step, stepBin, Nat.add_assoc nid, ↓reduceIte, Option.toList, ← Int.ofNat_tmod, ← Int.ofNat_tdiv, simprocAttr, BEq.rfl, LN_succ]
    refine S2.intro (fun h1 => ?_) (fun h1 => ?_) <;> simp -dsimp only [aqT, aqU, aqN, aqS, ↓seqK, ↓blkK, ↓loopK, step, stepBin, Nat.add_assoc nid, ↓reduceIte, Option.toList, ← Int.ofNat_tmod, ← Int.ofNat_tdiv, simprocAttr, BEq.rfl, LN_succ]
    · have e : dictV G R = 8 := by unfold dictV; rw [if_pos (by simp at h1; exact congrArg List.length h1)]
      rw [e]
      refine RetOK.pure (.inl rfl) rfl ?_
      simp [cvT, step, res]
    have h1' : G.length ≠ 0 := by simp at h1; exact fun e => h1 (List.eq_nil_of_length_eq_zero e)
    refine S2.dec (fun h2 => ?_) (fun h2 => ?_) <;> simp -dsimp only [aqT, aqU, aqN, aqS, ↓seqK, ↓blkK, ↓loopK, step, stepBin, Nat.add_assoc nid, ↓reduceIte, Option.toList, ← Int.ofNat_tmod, ← Int.ofNat_tdiv, simprocAttr, BEq.rfl, LN_succ]
    · have e : dictV G R = 2 := by unfold dictV; rw [if_neg h1', if_pos (.inl (by omega))]
      rw [e]
      refine RetOK.pure (.inl rfl) rfl ?_
      simp [cvT, step, res]
    refine S2.dec (fun h4 => ?_) (fun h4 => ?_) <;> simp -dsimp only [aqT, aqU, aqN, aqS, ↓seqK, ↓blkK, ↓loopK, step, stepBin, Nat.add_assoc nid, ↓reduceIte, Option.toList, ← Int.ofNat_tmod, ← Int.ofNat_tdiv, simprocAttr, BEq.rfl, LN_succ]
    · have e : dictV G R = 2 := by unfold dictV; rw [if_neg h1', if_pos (.inr (by omega))]
      rw [e]
      refine RetOK.pure (.inl rfl) rfl ?_
      simp [cvT, step, res]
    have h2' : ¬ (100 < G.length ∨ 300 < R.length) := by omega
    refine ⟨⟨(), h1', h2'⟩, Cov.go [] [] ?_⟩
    simp [cvT, step, res, boxP2]
  refine SR.seq ?_
  simp -dsimp only [aqT, aqU, aqN, aqS, ↓seqK, ↓blkK, ↓loopK, step, stepBin, Nat.add_assoc nid, ↓reduceIte, Option.toList, ← Int.ofNat_tmod, ← Int.ofNat_tdiv, simprocAttr, BEq.rfl, LN_succ]
  refine SR.seqW (ι := {_u : Unit // G.any oddS = false}) (fun _ => ⟨[(3, .fn 152 []), (1, .ptr nid 0)], [(nid, boxP2 g0 r0 b G R)], nid + 150, nid⟩) ?_ (fun ⟨_, h3⟩ => ?_)
  · unfold boxP2
    refine SR.run (t := .mk) ?_
    simp -dsimp only [aqT, aqU, aqN, aqS, ↓seqK, ↓blkK, ↓loopK, step, stepBin, Nat.add_assoc nid, ↓reduceIte, Option.toList, ← Int.ofNat_tmod, ← Int.ofNat_tdiv, simprocAttr, BEq.rfl, LN_succ]
    refine CallO.pure (containsM_c 152 oddS g0 G _ hB.gl hB.gs (fun x m hx => oddD_c x m hx)) ?_
    simp -dsimp only [aqT, aqU, aqN, aqS, ↓seqK, ↓blkK, ↓loopK, step, stepBin, Nat.add_assoc nid, ↓reduceIte, Option.toList, ← Int.ofNat_tmod, ← Int.ofNat_tdiv, simprocAttr, BEq.rfl, LN_succ]
    refine S2.intro (fun h5 => ?_) (fun h5 => ?_) <;> simp -dsimp only [aqT, aqU, aqN, aqS, ↓seqK, ↓blkK, ↓loopK, step, stepBin, Nat.add_assoc nid, ↓reduceIte, Option.toList, ← Int.ofNat_tmod, ← Int.ofNat_tdiv, simprocAttr, BEq.rfl, LN_succ]
    · have e : dictV G R = 9 := by unfold dictV; rw [if_neg h1, if_neg h2, if_pos h5]
      rw [e]
      refine RetOK.pure (.inl rfl) rfl ?_
      simp [cvT, step, res]
    refine ⟨⟨(), h5⟩, Cov.go [] [] ?_⟩
    simp [cvT, step, res, boxP2]
  refine SR.seqW (ι := {_u : Unit // ∀ j, j < R.length → rowBad G.length R j = 0}) (fun _ => ⟨[], [], nid + 2000, nid⟩) ?_ (fun ⟨_, h5⟩ => ?_)
  · unfold boxP2
    refine SR.seqTo ⟨[(29, .int .i64 0), (28, .int .i64 R.length), (27, .lit r0 R.length [.s fun k => rowF R k, .l b (fun k => (rowR R k).length) (fun k => [.s fun j => (rowR R k).getD j []])]), (3, .fn 152 []), (1, .ptr nid 0)], [(nid, boxP2 g0 r0 b G R)], nid + 200, nid⟩ ?_ ?_
    · simp -dsimp only [aqT, aqU, aqN, aqS, ↓seqK, ↓blkK, ↓loopK, step, stepBin, Nat.add_assoc nid, ↓reduceIte, Option.toList, ← Int.ofNat_tmod, ← Int.ofNat_tdiv, simprocAttr, BEq.rfl, LN_succ]
      refine Cov.go [] [] ?_
      simp [cvT, step, res, boxP2, -List.getD_eq_getElem?_getD]
    refine SR.block ?_
    refine SR.loopP (fun k : Nat => k ≤ R.length ∧ ∀ j, j < k → rowBad G.length R j = 0) (fun k : Nat => ⟨[(29, .int .i64 k), (28, .int .i64 R.length), (27, .lit r0 R.length [.s fun k => rowF R k, .l b (fun k => (rowR R k).length) (fun k => [.s fun j => (rowR R k).getD j []])]), (3, .fn 152 []), (1, .ptr nid 0)], [(nid, boxP2 g0 r0 b G R)], nid + 200, nid⟩) (fun k => R.length + 1 - k) 0 ⟨by omega, fun j hj => by omega⟩ (Cov.drop (by omega) ?_) (fun k hk => ?_)
    · simp only [SlotsIn, aqT, aqU, aqN, ↓seqK, ↓blkK, ↓loopK, step, stepBin, Nat.reduceBEq, Nat.reduceBeqDiff, Nat.add_assoc nid, Nat.reduceAdd, reduceCtorEq, ↓reduceIte, Nat.reduceLeDiff, Nat.reduceBneDiff, Option.toList, ← Int.ofNat_tmod, ← Int.ofNat_tdiv, Nat.reduceLT]
      try simp
    obtain ⟨hk, hall⟩ := hk
    refine SR.seq ?_
    simp -dsimp only [aqT, aqU, aqN, aqS, ↓seqK, ↓blkK, ↓loopK, step, stepBin, Nat.add_assoc nid, ↓reduceIte, Option.toList, ← Int.ofNat_tmod, ← Int.ofNat_tdiv, simprocAttr, BEq.rfl, LN_succ]
    refine SR.seq ?_
    simp -dsimp only [aqT, aqU, aqN, aqS, ↓seqK, ↓blkK, ↓loopK, step, stepBin, Nat.add_assoc nid, ↓reduceIte, Option.toList, ← Int.ofNat_tmod, ← Int.ofNat_tdiv, simprocAttr, BEq.rfl, LN_succ]
    refine S2.dec (fun h4 => ?_) (fun h4 => ?_) <;> simp -dsimp only [aqT, aqU, aqN, aqS, ↓seqK, ↓blkK, ↓loopK, step, stepBin, Nat.add_assoc nid, ↓reduceIte, Option.toList, ← Int.ofNat_tmod, ← Int.ofNat_tdiv, simprocAttr, BEq.rfl, LN_succ]
    · have hkl : k < R.length := by omega
      have hbad := fun e => dictV_row (e := e) h1 h2 h3 hkl hall
      obtain ⟨hf1, hr1, hs1⟩ := hB.rs k
      refine SR.seqW (ι := {_u : Unit // rowBad G.length R k = 0}) (fun _ => ⟨[(29, .int .i64 k), (28, .int .i64 R.length), (27, .lit r0 R.length [.s fun k => rowF R k, .l b (fun k => (rowR R k).length) (fun k => [.s fun j => (rowR R k).getD j []])]), (3, .fn 152 []), (1, .ptr nid 0)], [(nid, boxP2 g0 r0 b G R)], nid + 900, nid⟩) ?_ (fun ⟨_, h6⟩ => ?_)
      · refine SR.block ?_
        refine SR.seqTo ⟨[(5, .ptr (nid + 300) 0), (4, .int .i64 k), (29, .int .i64 k), (28, .int .i64 R.length), (27, .lit r0 R.length [.s fun k => rowF R k, .l b (fun k => (rowR R k).length) (fun k => [.s fun j => (rowR R k).getD j []])]), (3, .fn 152 []), (1, .ptr nid 0)], [(nid + 300, some (.box 67 [.str (rowF R k), .lit (b k) (rowR R k).length [.s fun j => (rowR R k).getD j []]])), (nid, boxP2 g0 r0 b G R)], nid + 400, nid⟩ ?_ ?_
        · simp -dsimp only [aqT, aqU, aqN, aqS, ↓seqK, ↓blkK, ↓loopK, step, stepBin, Nat.add_assoc nid, ↓reduceIte, Option.toList, ← Int.ofNat_tmod, ← Int.ofNat_tdiv, simprocAttr, BEq.rfl, LN_succ]
          refine ⟨by omega, Cov.go [(nid + 300, nid + 216)] [] ?_⟩
          simp [cvT, step, res, boxP2, -List.getD_eq_getElem?_getD]
        refine SR.block ?_
        refine SR.seq ?_
        simp -dsimp only [aqT, aqU, aqN, aqS, ↓seqK, ↓blkK, ↓loopK, step, stepBin, Nat.add_assoc nid, ↓reduceIte, Option.toList, ← Int.ofNat_tmod, ← Int.ofNat_tdiv, simprocAttr, BEq.rfl, LN_succ]
        refine CallO.pure (keyD_c _ _ hf1) ?_
        simp -dsimp only [aqT, aqU, aqN, aqS, ↓seqK, ↓blkK, ↓loopK, step, stepBin, Nat.add_assoc nid, ↓reduceIte, Option.toList, ← Int.ofNat_tmod, ← Int.ofNat_tdiv, simprocAttr, BEq.rfl, LN_succ]
        refine SR.cond (b := !keyB (rowF R k)) (by simp [AX.val, getS]) (fun h => ?_) (fun h => ?_)
        · have hk : keyB (rowF R k) = false := by simpa using h
          rw [hbad 5 (by unfold rowBad; rw [if_pos hk]) (by decide)]
          refine SR.run (t := .mk) ?_
          simp -dsimp only [aqT, aqU, aqN, aqS, ↓seqK, ↓blkK, ↓loopK, step, stepBin, Nat.add_assoc nid, ↓reduceIte, Option.toList, ← Int.ofNat_tmod, ← Int.ofNat_tdiv, simprocAttr, BEq.rfl, LN_succ]
          refine RetOK.pure (.inl rfl) rfl ?_
          simp [cvT, step, res]
        have hk1 : ¬ keyB (rowF R k) = false := by simpa using h
        unfold boxP2
        refine SR.seq ?_
        simp -dsimp only [aqT, aqU, aqN, aqS, ↓seqK, ↓blkK, ↓loopK, step, stepBin, Nat.add_assoc nid, ↓reduceIte, Option.toList, ← Int.ofNat_tmod, ← Int.ofNat_tdiv, simprocAttr, BEq.rfl, LN_succ]
        refine SR.cond (b := (((rowR R k).length : Nat) : Int) != (G.length : Nat)) (by simp [AX.val, getS]) (fun h => ?_) (fun h => ?_)
        · have hk : (rowR R k).length ≠ G.length := fun e => by rw [e] at h; simp at h
          rw [hbad 3 (by unfold rowBad; rw [if_neg hk1, if_pos hk]) (by decide)]
          refine SR.run (t := .mk) ?_
          simp -dsimp only [aqT, aqU, aqN, aqS, ↓seqK, ↓blkK, ↓loopK, step, stepBin, Nat.add_assoc nid, ↓reduceIte, Option.toList, ← Int.ofNat_tmod, ← Int.ofNat_tdiv, simprocAttr, BEq.rfl, LN_succ]
          refine RetOK.pure (.inl rfl) rfl ?_
          simp [cvT, step, res]
        have hk2 : ¬ (rowR R k).length ≠ G.length := by
          have : (((rowR R k).length : Nat) : Int) = (G.length : Nat) := by simpa only [bne_eq_false_iff_eq] using h
          omega
        refine SR.seq ?_
        simp -dsimp only [aqT, aqU, aqN, aqS, ↓seqK, ↓blkK, ↓loopK, step, stepBin, Nat.add_assoc nid, ↓reduceIte, Option.toList, ← Int.ofNat_tmod, ← Int.ofNat_tdiv, simprocAttr, BEq.rfl, LN_succ]
        refine CallO.pure (containsM_c 152 oddS (b k) (rowR R k) _ hr1 hs1 (fun x m hx => oddD_c x m hx)) ?_
        simp -dsimp only [aqT, aqU, aqN, aqS, ↓seqK, ↓blkK, ↓loopK, step, stepBin, Nat.add_assoc nid, ↓reduceIte, Option.toList, ← Int.ofNat_tmod, ← Int.ofNat_tdiv, simprocAttr, BEq.rfl, LN_succ]
        refine SR.cond (b := (rowR R k).any oddS) (by simp [AX.val, getS]) (fun h => ?_) (fun h => ?_)
        · rw [hbad 9 (by unfold rowBad; rw [if_neg hk1, if_neg hk2, if_pos h]) (by decide)]
          refine SR.run (t := .mk) ?_
          simp -dsimp only [aqT, aqU, aqN, aqS, ↓seqK, ↓blkK, ↓loopK, step, stepBin, Nat.add_assoc nid, ↓reduceIte, Option.toList, ← Int.ofNat_tmod, ← Int.ofNat_tdiv, simprocAttr, BEq.rfl, LN_succ]
          refine RetOK.pure (.inl rfl) rfl ?_
          simp [cvT, step, res]
        have hk3 : ¬ (rowR R k).any oddS = true := by simp [h]
        refine SR.seqTo ⟨[(52, .bool (decide ((0 : Int) < k) && (Op.bytesLess (rowF R k) (rowF R (k - 1)) || rowF R k == rowF R (k - 1)))), (29, .int .i64 k), (28, .int .i64 R.length), (27, .lit r0 R.length [.s fun k => rowF R k, .l b (fun k => (rowR R k).length) (fun k => [.s fun j => (rowR R k).getD j []])]), (3, .fn 152 []), (1, .ptr nid 0)], [(nid, boxP2 g0 r0 b G R)], nid + 700, nid⟩ ?_ ?_
        · simp -dsimp only [aqT, aqU, aqN, aqS, ↓seqK, ↓blkK, ↓loopK, step, stepBin, Nat.add_assoc nid, ↓reduceIte, Option.toList, ← Int.ofNat_tmod, ← Int.ofNat_tdiv, simprocAttr, BEq.rfl, LN_succ]
          refine S2.dec (fun h0 => ?_) (fun h0 => ?_) <;> simp -dsimp only [aqT, aqU, aqN, aqS, ↓seqK, ↓blkK, ↓loopK, step, stepBin, Nat.add_assoc nid, ↓reduceIte, Option.toList, ← Int.ofNat_tmod, ← Int.ofNat_tdiv, simprocAttr, BEq.rfl, LN_succ]
          · have e : ((k : Int) - 1).toNat = k - 1 := by omega
            rw [e]
            refine ⟨by unfold inI64; omega, by omega, Cov.go [] [] ?_⟩
            simp [cvT, step, res, boxP2, decide_eq_true h0, -List.getD_eq_getElem?_getD]
            try omega
          · refine Cov.go [] [] ?_
            simp [cvT, step, res, boxP2, decide_eq_false h0, -List.getD_eq_getElem?_getD]
            try omega
        refine SR.cond (b := decide ((0 : Int) < k) && (Op.bytesLess (rowF R k) (rowF R (k - 1)) || rowF R k == rowF R (k - 1))) (by simp [AX.val, getS]) (fun h => ?_) (fun h => ?_)
        · simp only [Bool.and_eq_true, decide_eq_true_eq] at h
          rw [hbad 7 (by unfold rowBad; rw [if_neg hk1, if_neg hk2, if_neg hk3, if_pos ⟨by omega, h.2⟩]) (by decide)]
          refine SR.run (t := .mk) ?_
          simp -dsimp only [aqT, aqU, aqN, aqS, ↓seqK, ↓blkK, ↓loopK, step, stepBin, Nat.add_assoc nid, ↓reduceIte, Option.toList, ← Int.ofNat_tmod, ← Int.ofNat_tdiv, simprocAttr, BEq.rfl, LN_succ]
          refine RetOK.pure (.inl rfl) rfl ?_
          simp [cvT, step, res]
        have hk4 : ¬ (0 < k ∧ (Op.bytesLess (rowF R k) (rowF R (k - 1)) || rowF R k == rowF R (k - 1)) = true) := fun ⟨e1, e2⟩ => by
          rw [e2, decide_eq_true (by omega)] at h
          simp at h
        refine SR.run (t := .mk) ?_
        simp -dsimp only [aqT, aqU, aqN, aqS, ↓seqK, ↓blkK, ↓loopK, step, stepBin, Nat.add_assoc nid, ↓reduceIte, Option.toList, ← Int.ofNat_tmod, ← Int.ofNat_tdiv, simprocAttr, BEq.rfl, LN_succ]
        refine ⟨⟨(), by unfold rowBad; rw [if_neg hk1, if_neg hk2, if_neg hk3, if_neg hk4]⟩, Cov.go [] [] ?_⟩
        simp [cvT, step, res, boxP2, -List.getD_eq_getElem?_getD]
      refine SR.run (t := .mk) ?_
      simp -dsimp only [aqT, aqU, aqN, aqS, ↓seqK, ↓blkK, ↓loopK, step, stepBin, Nat.add_assoc nid, ↓reduceIte, Option.toList, ← Int.ofNat_tmod, ← Int.ofNat_tdiv, simprocAttr, BEq.rfl, LN_succ]
      refine ⟨by unfold inI64; omega, k + 1, ⟨⟨by omega, fun j hj => ?_⟩, by omega⟩, Cov.go [] [] ?_⟩
      · rcases (by omega : j < k ∨ j = k) with hj | hj
        · exact hall j hj
        · rw [hj]; exact h6
      simp [cvT, step, res, boxP2, -List.getD_eq_getElem?_getD]
    · refine ⟨⟨(), fun j hj => hall j (by omega)⟩, Cov.go [] [] ?_⟩
      simp [cvT, step, res, boxP2, -List.getD_eq_getElem?_getD]
  · rw [dictV_good h1 h2 h3 h5]
    refine SR.run (t := .mk) ?_
    simp -dsimp only [aqT, aqU, aqN, aqS, ↓seqK, ↓blkK, ↓loopK, step, stepBin, Nat.add_assoc nid, ↓reduceIte, Option.toList, ← Int.ofNat_tmod, ← Int.ofNat_tdiv, simprocAttr, BEq.rfl, LN_succ]
    refine RetOK.pure (.inl rfl) rfl ?_
    simp [cvT, step, res]
end Go.Proofs.YtpifoghhaohhaaaGreatDoor
namespace Go.Proofs.YtpifoghhaohhaaaGreatDoor
open Go.RowKit Go.Shelf Go.Lib
theorem namesL_len {x : List UInt8} (h : x ∈ namesL) : x.length ≤ 2 := by
  unfold namesL at h
  simp only [List.mem_cons, List.not_mem_nil, or_false] at h
  rcases h with rfl | rfl | rfl | rfl | rfl | rfl | rfl | rfl | rfl <;> decide
theorem rowF_out {R : RowL} {k : Nat} (h : ¬ k < R.length) : rowF R k = [] := by unfold rowF; rw [List.getD_eq_getElem?_getD, List.getElem?_eq_none (by omega)]; rfl
theorem rowR_out {R : RowL} {k : Nat} (h : ¬ k < R.length) : rowR R k = [] := by unfold rowR; rw [List.getD_eq_getElem?_getD, List.getElem?_eq_none (by omega)]; rfl
theorem row_mem {R : RowL} {k : Nat} (h : k < R.length) : (rowF R k, rowR R k) ∈ R := by
  unfold rowF rowR
  rw [List.getD_eq_getElem?_getD, List.getElem?_eq_getElem h]
  exact List.getElem_mem h
theorem DictB.w {m : Nat} {G : List (List UInt8)} {R : RowL} (h : DictB m G R) (hm : m ≤ 100) : DictW G R :=
  ⟨by have := h.gl; omega, h.gs.mono (by omega), by have := h.rl; omega, fun k => by
    by_cases hk : k < R.length
    · obtain ⟨a, b, c⟩ := h.rs _ (row_mem hk)
      have := namesL_len a
      exact ⟨by simp only at this; omega, by simp only at b; omega, c.mono (by omega)⟩
    · rw [rowF_out hk, rowR_out hk]
      exact ⟨by simp, by simp, fun r hr => by simp at hr⟩⟩
end Go.Proofs.YtpifoghhaohhaaaGreatDoor
namespace Go.Proofs.YtpifoghhaohhaaaGreatDoor
open Go.RowKit Go.Shelf Go.Lib
abbrev SeenL := List (Int × List UInt8)
def sT (S : SeenL) (k : Nat) : Int := (S.getD k (0, [])).1
def sR (S : SeenL) (k : Nat) : List UInt8 := (S.getD k (0, [])).2
def arrSn (S : SeenL) : Option ABlk := some (.arr 69 S.length [.i .i64 fun k => sT S k, .s fun k => sR S k])
def litSn (nl : Bool) (S : SeenL) : PV := .lit nl S.length [.i .i64 fun k => sT S k, .s fun k => sR S k]
def boxRw (f : List UInt8) (b : Bool) (L : List (List UInt8)) : Option ABlk := some (.box 67 [.str f, .lit b L.length [.s fun j => L.getD j []]])
def offB (L : List (List UInt8)) (t : Int) (r : List UInt8) : Bool := !(L.getD t.toNat [] == r)
def SnIn (n : Nat) (S : SeenL) : Prop := ∀ k, k < S.length → 0 ≤ sT S k ∧ sT S k < n
theorem consF_c (f : List UInt8) (b : Bool) (L : List (List UInt8)) (t : Int) (r : List UInt8) (ia nid : Nat) (hia : ia < nid) (h0 : 0 ≤ t) (h1 : t < L.length) (hL : L.length ≤ 1000000) :
    ACall Tryz.prog 190 [.agg [.int .i64 t, .str r], .ptr ia 0] [(ia, boxRw f b L)] nid (.bool (offB L t r)) [] := by
  obtain ⟨a1, a2, a3, a4, a5, a6, a7, a8, a9⟩ := id_all hia
  refine acall_run c190 (by simp [a190]) ?_
  unfold boxRw
  simp -dsimp only [a190, aqT, aqU, aqN, aqS, ↓seqK, ↓blkK, ↓loopK, step, stepBin, Nat.add_assoc nid, ↓reduceIte, Option.toList, ← Int.ofNat_tmod, ← Int.ofNat_tdiv, simprocAttr, BEq.rfl, LN_succ, a1, a2, a3, a4, a5, a6, a7, a8, a9]
  refine ⟨⟨by omega, by omega⟩, ?_⟩
  refine RetOK.go [] [] (.inl rfl) ?_
  simp [a190, cvT, step, res, a1, a2, a3, a4, a5, a6, a7, a8, a9, offB, boxRw, -List.getD_eq_getElem?_getD]
def idxR (F : Nat → Bool) (n : Nat) : Int := if (List.range n).any F = true then (((List.range n).findIdx F : Nat) : Int) else -1
theorem idxR_at {F : Nat → Bool} {n k : Nat} (hk : k < n) (h : F k = true) (h0 : ∀ j, j < k → F j = false) : idxR F n = (k : Nat) := by
  have e : (List.range n).findIdx F = k := (List.findIdx_eq (by simpa using hk)).2 ⟨by simpa using h, fun j hj => by simpa using h0 j hj⟩
  unfold idxR
  rw [if_pos, e]
  exact List.any_eq_true.2 ⟨k, List.mem_range.2 hk, h⟩
theorem idxR_no {F : Nat → Bool} {n : Nat} (h0 : ∀ j, j < n → F j = false) : idxR F n = -1 := by
  unfold idxR
  rw [if_neg]
  intro h
  obtain ⟨x, hx, hf⟩ := List.any_eq_true.1 h
  rw [h0 x (List.mem_range.1 hx)] at hf; cases hf
theorem idxR_any (F : Nat → Bool) (n : Nat) : decide (0 ≤ idxR F n) = (List.range n).any F := by
  unfold idxR
  cases h : (List.range n).any F <;> simp
theorem indexSn_c (f : Nat) (F : Nat → Bool) (nl : Bool) (S : SeenL) (g : List UInt8) (b : Bool) (L : List (List UInt8)) (ia nid : Nat) (hia : ia < nid) (hl : S.length ≤ 1000000)
    (hf : ∀ k, k < S.length → ∀ nid', ia < nid' → ACall Tryz.prog f [.agg [.int .i64 (sT S k), .str (sR S k)], .ptr ia 0] [(ia, boxRw g b L)] nid' (.bool (F k)) []) :
    ACall Tryz.prog 205 [litSn nl S, .fn f [.ptr ia 0]] [(ia, boxRw g b L)] nid (.int .i64 (idxR F S.length)) [] := by
  obtain ⟨a1, a2, a3, a4, a5, a6, a7, a8, a9⟩ := id_all hia
  refine acall_run c205 (by simp [a205]) ?_
  unfold litSn
  simp -dsimp only [a205, aqT, aqU, aqN, aqS, ↓seqK, ↓blkK, ↓loopK, step, stepBin, Nat.add_assoc nid, ↓reduceIte, Option.toList, ← Int.ofNat_tmod, ← Int.ofNat_tdiv, simprocAttr, BEq.rfl, LN_succ, a1, a2, a3, a4, a5, a6, a7, a8, a9]
  refine LP.mkP (fun k : Nat => k ≤ S.length ∧ ∀ j, j < k → F j = false) (fun k : Nat => ⟨[(8, .int .i64 k), (7, .int .i64 S.length), (0, litSn nl S), (1, .fn f [.ptr ia 0])], [(ia, boxRw g b L)], nid + 100, nid⟩) (fun k => S.length + 1 - k) 0 ⟨by omega, fun j hj => by omega⟩ (Cov.go [] [] ?_) (fun k hk => ?_)
  · simp [cvT, step, res, litSn, boxRw, a1, a2, a3, a4, a5, a6, a7, a8, a9, -List.getD_eq_getElem?_getD]
  obtain ⟨hk, hb⟩ := hk
  unfold litSn
  simp -dsimp only [aqT, aqU, aqN, aqS, ↓seqK, ↓blkK, ↓loopK, step, stepBin, Nat.add_assoc nid, ↓reduceIte, Option.toList, ← Int.ofNat_tmod, ← Int.ofNat_tdiv, simprocAttr, BEq.rfl, LN_succ, a1, a2, a3, a4, a5, a6, a7, a8, a9]
  refine S2.dec (fun h3 => ?_) (fun h3 => ?_) <;> simp -dsimp only [aqT, aqU, aqN, aqS, ↓seqK, ↓blkK, ↓loopK, step, stepBin, Nat.add_assoc nid, ↓reduceIte, Option.toList, ← Int.ofNat_tmod, ← Int.ofNat_tdiv, simprocAttr, BEq.rfl, LN_succ, a1, a2, a3, a4, a5, a6, a7, a8, a9]
  · have hkl : k < S.length := by omega
    refine ⟨by omega, CallO.on (hf k hkl _ (by omega)) (subH_get (by simp only [aqT, aqU, aqN, aqS, ↓seqK, ↓blkK, ↓loopK, step, stepBin, Nat.add_assoc nid, ↓reduceIte, Option.toList, ← Int.ofNat_tmod, ← Int.ofNat_tdiv, simprocAttr, BEq.rfl, LN_succ, a1, a2, a3, a4, a5, a6, a7, a8, a9])) ?_⟩
    simp -dsimp only [aqT, aqU, aqN, aqS, ↓seqK, ↓blkK, ↓loopK, step, stepBin, Nat.add_assoc nid, ↓reduceIte, Option.toList, ← Int.ofNat_tmod, ← Int.ofNat_tdiv, simprocAttr, BEq.rfl, LN_succ, a1, a2, a3, a4, a5, a6, a7, a8, a9]
    refine S2.intro (fun h4 => ?_) (fun h4 => ?_) <;> simp -dsimp only [aqT, aqU, aqN, aqS, ↓seqK, ↓blkK, ↓loopK, step, stepBin, Nat.add_assoc nid, ↓reduceIte, Option.toList, ← Int.ofNat_tmod, ← Int.ofNat_tdiv, simprocAttr, BEq.rfl, LN_succ, a1, a2, a3, a4, a5, a6, a7, a8, a9]
    · rw [idxR_at hkl h4 hb]
      refine RetOK.go [] [] (.inl rfl) ?_
      simp [a205, cvT, step, res, boxRw, a1, a2, a3, a4, a5, a6, a7, a8, a9, -List.getD_eq_getElem?_getD]
    · refine ⟨by unfold inI64; omega, k + 1, ⟨⟨by omega, fun j hj => ?_⟩, by omega⟩, Cov.go [] [] ?_⟩
      · rcases (by omega : j < k ∨ j = k) with hj | hj
        · exact hb j hj
        · rw [hj]; exact h4
      · simp [cvT, step, res, litSn, boxRw, a1, a2, a3, a4, a5, a6, a7, a8, a9, -List.getD_eq_getElem?_getD]
  · have hkn : k = S.length := by omega
    subst hkn
    rw [idxR_no hb]
    refine RetOK.go [] [] (.inl rfl) ?_
    simp [a205, cvT, step, res, boxRw, a1, a2, a3, a4, a5, a6, a7, a8, a9, -List.getD_eq_getElem?_getD]
theorem containsSn_c (f : Nat) (F : Nat → Bool) (nl : Bool) (S : SeenL) (g : List UInt8) (b : Bool) (L : List (List UInt8)) (ia nid : Nat) (hia : ia < nid) (hl : S.length ≤ 1000000)
    (hf : ∀ k, k < S.length → ∀ nid', ia < nid' → ACall Tryz.prog f [.agg [.int .i64 (sT S k), .str (sR S k)], .ptr ia 0] [(ia, boxRw g b L)] nid' (.bool (F k)) []) :
    ACall Tryz.prog 125 [litSn nl S, .fn f [.ptr ia 0]] [(ia, boxRw g b L)] nid (.bool ((List.range S.length).any F)) [] := by
  obtain ⟨a1, a2, a3, a4, a5, a6, a7, a8, a9⟩ := id_all hia
  refine acall_run c125 (by simp [a125]) ?_
  simp -dsimp only [a125, aqT, aqU, aqN, aqS, ↓seqK, ↓blkK, ↓loopK, step, stepBin, Nat.add_assoc nid, ↓reduceIte, Option.toList, ← Int.ofNat_tmod, ← Int.ofNat_tdiv, simprocAttr, BEq.rfl, LN_succ, a1, a2, a3, a4, a5, a6, a7, a8, a9]
  refine CallO.on (indexSn_c f F nl S g b L ia _ (by omega) hl hf) (fun _ _ h => h) ?_
  simp -dsimp only [aqT, aqU, aqN, aqS, ↓seqK, ↓blkK, ↓loopK, step, stepBin, Nat.add_assoc nid, ↓reduceIte, Option.toList, ← Int.ofNat_tmod, ← Int.ofNat_tdiv, simprocAttr, BEq.rfl, LN_succ, a1, a2, a3, a4, a5, a6, a7, a8, a9]
  have e := idxR_any F S.length
  generalize idxR F S.length = i at *
  rw [← e]
  refine RetOK.go [] [] (.inl rfl) ?_
  simp [a125, cvT, step, res, boxRw, a1, a2, a3, a4, a5, a6, a7, a8, a9, -List.getD_eq_getElem?_getD]
def consB (L : List (List UInt8)) (S : SeenL) : Bool := !(List.range S.length).any (fun k => offB L (sT S k) (sR S k))
theorem cons_c (f : List UInt8) (b : Bool) (L : List (List UInt8)) (nl : Bool) (S : SeenL) (nid : Nat) (hl : S.length ≤ 1000000) (hL : L.length ≤ 1000000) (hS : SnIn L.length S) :
    ACall Tryz.prog 111 [.agg [.str f, litS b L], litSn nl S] [] nid (.bool (consB L S)) [] := by
  refine acall_run c111 (by simp [a111]) ?_
  unfold litS
  simp -dsimp only [aqT, aqU, aqN, aqS, ↓seqK, ↓blkK, ↓loopK, step, stepBin, Nat.add_assoc nid, ↓reduceIte, Option.toList, ← Int.ofNat_tmod, ← Int.ofNat_tdiv, simprocAttr, BEq.rfl, LN_succ, a111]
  refine CallO.on (containsSn_c 190 (fun k => offB L (sT S k) (sR S k)) nl S f b L nid _ (by omega) hl (fun k hk nid' h' => consF_c f b L _ _ nid nid' h' (hS k hk).1 (hS k hk).2 hL)) (subH_get (by simp only [aqT, aqU, aqN, aqS, ↓seqK, ↓blkK, ↓loopK, step, stepBin, Nat.add_assoc nid, ↓reduceIte, Option.toList, ← Int.ofNat_tmod, ← Int.ofNat_tdiv, simprocAttr, BEq.rfl, LN_succ, boxRw])) ?_
  simp -dsimp only [aqT, aqU, aqN, aqS, ↓seqK, ↓blkK, ↓loopK, step, stepBin, Nat.add_assoc nid, ↓reduceIte, Option.toList, ← Int.ofNat_tmod, ← Int.ofNat_tdiv, simprocAttr, BEq.rfl, LN_succ]
  unfold consB
  refine RetOK.go [] [] (.inl rfl) ?_
  simp [a111, cvT, step, res, -List.getD_eq_getElem?_getD]
end Go.Proofs.YtpifoghhaohhaaaGreatDoor
namespace Go.Proofs.YtpifoghhaohhaaaGreatDoor
open Go.RowKit Go.Shelf Go.Lib
theorem indexI_h (f : Nat) (caps : List PV) (Hs : Heap) (F : Nat → Bool) (nl : Bool) (n : Nat) (G : Nat → Int) (nid : Nat) (hs : Scoped nid Hs) (hcap : lowAll nid (idsOfs caps) = true) (hl : n ≤ 1000000)
    (hf : ∀ k, k < n → ∀ nid', nid ≤ nid' → ACall Tryz.prog f (.int .i64 (G k) :: caps) Hs nid' (.bool (F k)) []) :
    ACall Tryz.prog 182 [.lit nl n [.i .i64 G], .fn f caps] Hs nid (.int .i64 (idxR F n)) [] := by
  have hcv := capsC hcap
  refine acall_run c182 (by simp [a182]) ?_
  simp -dsimp only [a182, aqT, aqU, aqN, aqS, ↓seqK, ↓blkK, ↓loopK, step, stepBin, Nat.add_assoc nid, ↓reduceIte, Option.toList, ← Int.ofNat_tmod, ← Int.ofNat_tdiv, simprocAttr, BEq.rfl, LN_succ]
  refine LP.mkP (fun k : Nat => k ≤ n ∧ ∀ j, j < k → F j = false) (fun k : Nat => ⟨[(8, .int .i64 k), (7, .int .i64 n), (0, .lit nl n [.i .i64 G]), (1, .fn f caps)], Hs, nid + 100, nid⟩) (fun k => n + 1 - k) 0 ⟨by omega, fun j hj => by omega⟩ (Cov.goF Hs [] [] [] [] hs (by simp [kOK]) rfl ?_) (fun k hk => ?_)
  · simp [cvT, step, res, hcv]
  obtain ⟨hk, hb⟩ := hk
  simp -dsimp only [aqT, aqU, aqN, aqS, ↓seqK, ↓blkK, ↓loopK, step, stepBin, Nat.add_assoc nid, ↓reduceIte, Option.toList, ← Int.ofNat_tmod, ← Int.ofNat_tdiv, simprocAttr, BEq.rfl, LN_succ]
  refine S2.dec (fun h3 => ?_) (fun h3 => ?_) <;> simp -dsimp only [aqT, aqU, aqN, aqS, ↓seqK, ↓blkK, ↓loopK, step, stepBin, Nat.add_assoc nid, ↓reduceIte, Option.toList, ← Int.ofNat_tmod, ← Int.ofNat_tdiv, simprocAttr, BEq.rfl, LN_succ]
  · have hkl : k < n := by omega
    refine ⟨by omega, CallO.on (hf k hkl _ (by omega)) (subH_frame (X := []) hs (by simp [kOK])) ?_⟩
    simp -dsimp only [aqT, aqU, aqN, aqS, ↓seqK, ↓blkK, ↓loopK, step, stepBin, Nat.add_assoc nid, ↓reduceIte, Option.toList, ← Int.ofNat_tmod, ← Int.ofNat_tdiv, simprocAttr, BEq.rfl, LN_succ]
    refine S2.intro (fun h4 => ?_) (fun h4 => ?_) <;> simp -dsimp only [aqT, aqU, aqN, aqS, ↓seqK, ↓blkK, ↓loopK, step, stepBin, Nat.add_assoc nid, ↓reduceIte, Option.toList, ← Int.ofNat_tmod, ← Int.ofNat_tdiv, simprocAttr, BEq.rfl, LN_succ]
    · rw [idxR_at hkl h4 hb]
      refine RetOK.goF Hs [] [] [] [] [] (.inl rfl) hs (by simp [kOK]) rfl ?_
      simp [a182, cvT, step, res]
    · refine ⟨by unfold inI64; omega, k + 1, ⟨⟨by omega, fun j hj => ?_⟩, by omega⟩, Cov.goF Hs [] [] [] [] hs (by simp [kOK]) rfl ?_⟩
      · rcases (by omega : j < k ∨ j = k) with hj | hj
        · exact hb j hj
        · rw [hj]; exact h4
      · simp [cvT, step, res, hcv]
  · have hkn : k = n := by omega
    subst hkn
    rw [idxR_no hb]
    refine RetOK.goF Hs [] [] [] [] [] (.inl rfl) hs (by simp [kOK]) rfl ?_
    simp [a182, cvT, step, res]
theorem containsI_h (f : Nat) (caps : List PV) (Hs : Heap) (F : Nat → Bool) (nl : Bool) (n : Nat) (G : Nat → Int) (nid : Nat) (hs : Scoped nid Hs) (hcap : lowAll nid (idsOfs caps) = true) (hl : n ≤ 1000000)
    (hf : ∀ k, k < n → ∀ nid', nid ≤ nid' → ACall Tryz.prog f (.int .i64 (G k) :: caps) Hs nid' (.bool (F k)) []) :
    ACall Tryz.prog 90 [.lit nl n [.i .i64 G], .fn f caps] Hs nid (.bool ((List.range n).any F)) [] := by
  have hcv := capsC hcap
  refine acall_run c90 (by simp [a90]) ?_
  simp -dsimp only [a90, aqT, aqU, aqN, aqS, ↓seqK, ↓blkK, ↓loopK, step, stepBin, Nat.add_assoc nid, ↓reduceIte, Option.toList, ← Int.ofNat_tmod, ← Int.ofNat_tdiv, simprocAttr, BEq.rfl, LN_succ]
  refine CallO.on (indexI_h f caps Hs F nl n G _ (hs.mono (by omega)) (lowAll_mono hcap (by omega)) hl (fun k hk nid' h' => hf k hk nid' (by omega))) (fun _ _ h => h) ?_
  simp -dsimp only [aqT, aqU, aqN, aqS, ↓seqK, ↓blkK, ↓loopK, step, stepBin, Nat.add_assoc nid, ↓reduceIte, Option.toList, ← Int.ofNat_tmod, ← Int.ofNat_tdiv, simprocAttr, BEq.rfl, LN_succ]
  have e := idxR_any F n
  generalize idxR F n = i at *
  rw [← e]
  refine RetOK.goF Hs [] [] [] [] [] (.inl rfl) hs (by simp [kOK]) rfl ?_
  simp [a90, cvT, step, res]
theorem indexSn_h (f : Nat) (caps : List PV) (Hs : Heap) (F : Nat → Bool) (nl : Bool) (n : Nat) (G : Nat → Int) (G2 : Nat → List UInt8) (nid : Nat) (hs : Scoped nid Hs) (hcap : lowAll nid (idsOfs caps) = true) (hl : n ≤ 1000000)
    (hf : ∀ k, k < n → ∀ nid', nid ≤ nid' → ACall Tryz.prog f (.agg [.int .i64 (G k), .str (G2 k)] :: caps) Hs nid' (.bool (F k)) []) :
    ACall Tryz.prog 205 [.lit nl n [.i .i64 G, .s G2], .fn f caps] Hs nid (.int .i64 (idxR F n)) [] := by
  have hcv := capsC hcap
  refine acall_run c205 (by simp [a205]) ?_
  simp -dsimp only [a205, aqT, aqU, aqN, aqS, ↓seqK, ↓blkK, ↓loopK, step, stepBin, Nat.add_assoc nid, ↓reduceIte, Option.toList, ← Int.ofNat_tmod, ← Int.ofNat_tdiv, simprocAttr, BEq.rfl, LN_succ]
  refine LP.mkP (fun k : Nat => k ≤ n ∧ ∀ j, j < k → F j = false) (fun k : Nat => ⟨[(8, .int .i64 k), (7, .int .i64 n), (0, .lit nl n [.i .i64 G, .s G2]), (1, .fn f caps)], Hs, nid + 100, nid⟩) (fun k => n + 1 - k) 0 ⟨by omega, fun j hj => by omega⟩ (Cov.goF Hs [] [] [] [] hs (by simp [kOK]) rfl ?_) (fun k hk => ?_)
  · simp [cvT, step, res, hcv]
  obtain ⟨hk, hb⟩ := hk
  simp -dsimp only [aqT, aqU, aqN, aqS, ↓seqK, ↓blkK, ↓loopK, step, stepBin, Nat.add_assoc nid, ↓reduceIte, Option.toList, ← Int.ofNat_tmod, ← Int.ofNat_tdiv, simprocAttr, BEq.rfl, LN_succ]
  refine S2.dec (fun h3 => ?_) (fun h3 => ?_) <;> simp -dsimp only [aqT, aqU, aqN, aqS, ↓seqK, ↓blkK, ↓loopK, step, stepBin, Nat.add_assoc nid, ↓reduceIte, Option.toList, ← Int.ofNat_tmod, ← Int.ofNat_tdiv, simprocAttr, BEq.rfl, LN_succ]
  · have hkl : k < n := by omega
    refine ⟨by omega, CallO.on (hf k hkl _ (by omega)) (subH_frame (X := []) hs (by simp [kOK])) ?_⟩
    simp -dsimp only [aqT, aqU, aqN, aqS, ↓seqK, ↓blkK, ↓loopK, step, stepBin, Nat.add_assoc nid, ↓reduceIte, Option.toList, ← Int.ofNat_tmod, ← Int.ofNat_tdiv, simprocAttr, BEq.rfl, LN_succ]
    refine S2.intro (fun h4 => ?_) (fun h4 => ?_) <;> simp -dsimp only [aqT, aqU, aqN, aqS, ↓seqK, ↓blkK, ↓loopK, step, stepBin, Nat.add_assoc nid, ↓reduceIte, Option.toList, ← Int.ofNat_tmod, ← Int.ofNat_tdiv, simprocAttr, BEq.rfl, LN_succ]
    · rw [idxR_at hkl h4 hb]
      refine RetOK.goF Hs [] [] [] [] [] (.inl rfl) hs (by simp [kOK]) rfl ?_
      simp [a205, cvT, step, res]
    · refine ⟨by unfold inI64; omega, k + 1, ⟨⟨by omega, fun j hj => ?_⟩, by omega⟩, Cov.goF Hs [] [] [] [] hs (by simp [kOK]) rfl ?_⟩
      · rcases (by omega : j < k ∨ j = k) with hj | hj
        · exact hb j hj
        · rw [hj]; exact h4
      · simp [cvT, step, res, hcv]
  · have hkn : k = n := by omega
    subst hkn
    rw [idxR_no hb]
    refine RetOK.goF Hs [] [] [] [] [] (.inl rfl) hs (by simp [kOK]) rfl ?_
    simp [a205, cvT, step, res]
theorem containsSn_h (f : Nat) (caps : List PV) (Hs : Heap) (F : Nat → Bool) (nl : Bool) (n : Nat) (G : Nat → Int) (G2 : Nat → List UInt8) (nid : Nat) (hs : Scoped nid Hs) (hcap : lowAll nid (idsOfs caps) = true) (hl : n ≤ 1000000)
    (hf : ∀ k, k < n → ∀ nid', nid ≤ nid' → ACall Tryz.prog f (.agg [.int .i64 (G k), .str (G2 k)] :: caps) Hs nid' (.bool (F k)) []) :
    ACall Tryz.prog 125 [.lit nl n [.i .i64 G, .s G2], .fn f caps] Hs nid (.bool ((List.range n).any F)) [] := by
  have hcv := capsC hcap
  refine acall_run c125 (by simp [a125]) ?_
  simp -dsimp only [a125, aqT, aqU, aqN, aqS, ↓seqK, ↓blkK, ↓loopK, step, stepBin, Nat.add_assoc nid, ↓reduceIte, Option.toList, ← Int.ofNat_tmod, ← Int.ofNat_tdiv, simprocAttr, BEq.rfl, LN_succ]
  refine CallO.on (indexSn_h f caps Hs F nl n G G2 _ (hs.mono (by omega)) (lowAll_mono hcap (by omega)) hl (fun k hk nid' h' => hf k hk nid' (by omega))) (fun _ _ h => h) ?_
  simp -dsimp only [aqT, aqU, aqN, aqS, ↓seqK, ↓blkK, ↓loopK, step, stepBin, Nat.add_assoc nid, ↓reduceIte, Option.toList, ← Int.ofNat_tmod, ← Int.ofNat_tdiv, simprocAttr, BEq.rfl, LN_succ]
  have e := idxR_any F n
  generalize idxR F n = i at *
  rw [← e]
  refine RetOK.goF Hs [] [] [] [] [] (.inl rfl) hs (by simp [kOK]) rfl ?_
  simp [a125, cvT, step, res]
end Go.Proofs.YtpifoghhaohhaaaGreatDoor
namespace Go.Proofs.YtpifoghhaohhaaaGreatDoor
open Go.RowKit Go.Shelf Go.Lib
def popZ (n : Nat) : Nat := ((List.range 7).filter fun j => n.testBit j).length
def andZ (a b : Int) : Int := IntKind.u64.wrap ((BitVec.ofInt IntKind.u64.bits a &&& BitVec.ofInt IntKind.u64.bits b).toNat : Int)
def oz1 (x : Int) : Int := IntKind.u64.wrap (andZ (x.fdiv (2 ^ min 1 IntKind.u64.bits)) 6148914691236517205 + andZ x 6148914691236517205)
def oz2 (x : Int) : Int := IntKind.u64.wrap (andZ (x.fdiv (2 ^ min 2 IntKind.u64.bits)) 3689348814741910323 + andZ x 3689348814741910323)
def oz4 (x : Int) : Int := andZ (IntKind.u64.wrap (x.fdiv (2 ^ min 4 IntKind.u64.bits) + x)) 1085102592571150095
def oz8 (x : Int) : Int := IntKind.u64.wrap (x + x.fdiv (2 ^ min 8 IntKind.u64.bits))
def oz16 (x : Int) : Int := IntKind.u64.wrap (x + x.fdiv (2 ^ min 16 IntKind.u64.bits))
def oz32 (x : Int) : Int := IntKind.u64.wrap (x + x.fdiv (2 ^ min 32 IntKind.u64.bits))
def ozF (x : Int) : Int := IntKind.i64.wrap ((BitVec.ofInt IntKind.i64.bits (IntKind.i64.wrap x) &&& BitVec.ofInt IntKind.i64.bits 127).toNat : Int)
def onesZ (n : Nat) : Int := ozF (oz32 (oz16 (oz8 (oz4 (oz2 (oz1 (n : Nat)))))))
theorem onesZ_all : ((List.range 128).all fun n => decide (onesZ n = (popZ n : Nat))) = true := by kernel_rfl
theorem onesZ_eq {n : Nat} (hn : n < 128) : onesZ n = (popZ n : Nat) := of_decide_eq_true (List.all_eq_true.1 onesZ_all n (List.mem_range.2 hn))
set_option maxHeartbeats 4000000 in
theorem onesZ64_c (n : Nat) (nid : Nat) (hn : n < 128) : ACall Tryz.prog 207 [.int .u64 (n : Nat)] [] nid (.int .i64 (popZ n : Nat)) [] := by
  have e := onesZ_eq hn
  refine acall_run c207 (by simp [a207]) ?_
  simp -dsimp only [aqT, aqU, aqN, aqS, ↓seqK, ↓blkK, ↓loopK, step, stepBin, Nat.add_assoc nid, ↓reduceIte, Option.toList, ← Int.ofNat_tmod, ← Int.ofNat_tdiv, simprocAttr, BEq.rfl, LN_succ, a207]
  simp only [onesZ, ozF, oz32, oz16, oz8, oz4, oz2, oz1, andZ] at e
  rw [e]
  refine RetOK.pure (.inl rfl) rfl ?_
  simp [cvT, step, res]
theorem onesZ_c (n : Nat) (nid : Nat) (hn : n < 128) : ACall Tryz.prog 127 [.int .u64 (n : Nat)] [] nid (.int .i64 (popZ n : Nat)) [] := by
  refine acall_run c127 (by simp [a127]) ?_
  simp -dsimp only [aqT, aqU, aqN, aqS, ↓seqK, ↓blkK, ↓loopK, step, stepBin, Nat.add_assoc nid, ↓reduceIte, Option.toList, ← Int.ofNat_tmod, ← Int.ofNat_tdiv, simprocAttr, BEq.rfl, LN_succ, a127]
  refine CallO.pure (onesZ64_c n _ hn) ?_
  simp -dsimp only [aqT, aqU, aqN, aqS, ↓seqK, ↓blkK, ↓loopK, step, stepBin, Nat.add_assoc nid, ↓reduceIte, Option.toList, ← Int.ofNat_tmod, ← Int.ofNat_tdiv, simprocAttr, BEq.rfl, LN_succ]
  refine RetOK.pure (.inl rfl) rfl ?_
  simp [cvT, step, res]
theorem popZ_le (n : Nat) : popZ n ≤ 7 := Nat.le_trans (List.length_filter_le _ _) (by simp)
def worseZ (best mask : Nat) : Bool :=
  let d : Int := IntKind.u64.wrap ((BitVec.ofInt IntKind.u64.bits ((mask : Nat) : Int) ^^^ BitVec.ofInt IntKind.u64.bits ((best : Nat) : Int)).toNat : Int)
  let low : Int := IntKind.u64.wrap ((BitVec.ofInt IntKind.u64.bits d &&& BitVec.ofInt IntKind.u64.bits (IntKind.u64.wrap (0 - d))).toNat : Int)
  IntKind.u64.wrap ((BitVec.ofInt IntKind.u64.bits ((mask : Nat) : Int) &&& BitVec.ofInt IntKind.u64.bits low).toNat : Int) == 0
def skipZ (best mask : Nat) : Bool := decide (0 < ((popZ mask : Nat) : Int) - ((popZ best : Nat) : Int)) || (((((popZ mask : Nat) : Int) - ((popZ best : Nat) : Int)) == 0) && worseZ best mask)
def fewZ (B x : Nat) : List Nat := (List.range x).filter fun i => B.testBit i
theorem fewZ_yes {B x : Nat} (h : B.testBit x = true) : fewZ B (x + 1) = fewZ B x ++ [x] := by
  unfold fewZ
  rw [List.range_succ, List.filter_append]
  simp [h]
theorem fewZ_no {B x : Nat} (h : B.testBit x = false) : fewZ B (x + 1) = fewZ B x := by
  unfold fewZ
  rw [List.range_succ, List.filter_append]
  simp [h]
theorem fewZ_len (B x : Nat) : (fewZ B x).length ≤ x := Nat.le_trans (List.length_filter_le _ _) (by simp)
def cmpL : List Nat → List Nat → Int
  | [], [] => 0
  | [], _ :: _ => -1
  | _ :: _, [] => 1
  | a :: l, b :: m => if a < b then -1 else if b < a then 1 else cmpL l m
def ordZ (l m : List Nat) : Int := if l.length < m.length then -1 else if m.length < l.length then 1 else cmpL l m
theorem skip_all : ((List.range 128).all fun b => (List.range 128).all fun s => skipZ b s == !decide (ordZ (fewZ s 7) (fewZ b 7) < 0)) = true := by kernel_rfl
theorem skip_eq {b s : Nat} (hb : b < 128) (hs : s < 128) : skipZ b s = !decide (ordZ (fewZ s 7) (fewZ b 7) < 0) :=
  beq_iff_eq.1 (List.all_eq_true.1 (List.all_eq_true.1 skip_all b (List.mem_range.2 hb)) s (List.mem_range.2 hs))
def bitZ (B i : Nat) : Bool := IntKind.u64.wrap ((BitVec.ofInt IntKind.u64.bits (((B : Nat) : Int).fdiv (2 ^ min i IntKind.u64.bits)) &&& BitVec.ofInt IntKind.u64.bits 1).toNat : Int) == 1
theorem bitZ_all : ((List.range 128).all fun b => (List.range 7).all fun i => bitZ b i == b.testBit i) = true := by kernel_rfl
theorem bitZ_eq {b i : Nat} (hb : b < 128) (hi : i < 7) : bitZ b i = b.testBit i :=
  beq_iff_eq.1 (List.all_eq_true.1 (List.all_eq_true.1 bitZ_all b (List.mem_range.2 hb)) i (List.mem_range.2 hi))
def bitM (B i : Nat) : Bool := (((B : Nat) : Int).fdiv (2 ^ min i IntKind.i64.bits)).tmod 2 == 1
theorem bitM_all : ((List.range 128).all fun b => (List.range 7).all fun i => bitM b i == b.testBit i) = true := by kernel_rfl
theorem bitM_eq {b i : Nat} (hb : b < 128) (hi : i < 7) : bitM b i = b.testBit i :=
  beq_iff_eq.1 (List.all_eq_true.1 (List.all_eq_true.1 bitM_all b (List.mem_range.2 hb)) i (List.mem_range.2 hi))
theorem powZ_all : ((List.range 8).all fun j => decide (IntKind.u64.wrap (1 * 2 ^ (min ((j : Nat) : Int).toNat IntKind.u64.bits)) = ((2 ^ j : Nat) : Int) ∧ IntKind.i64.wrap (1 * 2 ^ (min ((j : Nat) : Int).toNat IntKind.i64.bits)) = ((2 ^ j : Nat) : Int))) = true := by kernel_rfl
theorem powZ_eq {j : Nat} (hj : j < 8) : IntKind.u64.wrap (1 * 2 ^ (min j IntKind.u64.bits)) = ((2 ^ j : Nat) : Int) ∧ IntKind.i64.wrap (1 * 2 ^ (min j IntKind.i64.bits)) = ((2 ^ j : Nat) : Int) :=
  of_decide_eq_true (List.all_eq_true.1 powZ_all j (List.mem_range.2 hj))
def litNat (nl : Bool) (l : List Nat) : PV := .lit nl l.length [.i .i64 fun k => ((l.getD k 0 : Nat) : Int)]
def arrNat (l : List Nat) : Option ABlk := some (.arr 3 l.length [.i .i64 fun k => ((l.getD k 0 : Nat) : Int)])
theorem getD_appZ (l : List Nat) (x : Nat) : (fun i => if i < l.length then ((l.getD i 0 : Nat) : Int) else [((x : Nat) : Int)].getD (i - l.length) 0) = fun i => (((l ++ [x]).getD i 0 : Nat) : Int) := by
  funext i
  simp only [List.getD_eq_getElem?_getD, List.getElem?_append]
  by_cases h : i < l.length
  · rw [if_pos h, if_pos h]
  · rw [if_neg h, if_neg h]
    rcases hk : i - l.length with _ | k
    · rfl
    · simp
theorem mem_c (B n nid : Nat) (hB : B < 128) (hn : n ≤ 7) : ACall Tryz.prog 138 [.int .i64 (B : Nat), .int .i64 (n : Nat)] [] nid (.sl nid 0 (fewZ B n).length) [(nid, arrNat (fewZ B n))] := by
  refine acall_run c138 (by simp [a138]) ?_
  simp -dsimp only [aqT, aqU, aqN, aqS, ↓seqK, ↓blkK, ↓loopK, step, stepBin, Nat.add_assoc nid, ↓reduceIte, Option.toList, ← Int.ofNat_tmod, ← Int.ofNat_tdiv, simprocAttr, BEq.rfl, LN_succ, a138]
  refine LP.mkP (fun i : Nat => i ≤ n) (fun i : Nat => ⟨[(8, .int .i64 i), (7, .int .i64 (n : Nat)), (5, .sl (nid + 40) 0 (fewZ B i).length), (0, .int .i64 (B : Nat)), (1, .int .i64 (n : Nat))], [(nid + 40, arrNat (fewZ B i))], nid + 100, nid⟩) (fun i => n + 1 - i) 0 (by omega) (Cov.go [] [(nid + 40, 1)] ?_) (fun i hi => ?_)
  · simp [cvT, step, res, arrNat, fewZ]
  have hy := fewZ_yes (B := B) (x := i)
  have hno := fewZ_no (B := B) (x := i)
  have hfl := fewZ_len B i
  have hend : i = n → fewZ B n = fewZ B i := fun e => by rw [e]
  generalize fewZ B i = V at *
  unfold arrNat
  simp -dsimp only [aqT, aqU, aqN, aqS, ↓seqK, ↓blkK, ↓loopK, step, stepBin, Nat.add_assoc nid, ↓reduceIte, Option.toList, ← Int.ofNat_tmod, ← Int.ofNat_tdiv, simprocAttr, BEq.rfl, LN_succ]
  refine S2.dec (fun h5 => ?_) (fun h5 => ?_) <;> simp -dsimp only [aqT, aqU, aqN, aqS, ↓seqK, ↓blkK, ↓loopK, step, stepBin, Nat.add_assoc nid, ↓reduceIte, Option.toList, ← Int.ofNat_tmod, ← Int.ofNat_tdiv, simprocAttr, BEq.rfl, LN_succ]
  · have hbit := bitM_eq hB (i := i) (by omega)
    refine ⟨by omega, ?_⟩
    try change S2 (bitM B i) _ _ _ _
    rw [hbit]
    cases hb : B.testBit i
    · simp -dsimp only [aqT, aqU, aqN, aqS, ↓seqK, ↓blkK, ↓loopK, step, stepBin, Nat.add_assoc nid, ↓reduceIte, Option.toList, ← Int.ofNat_tmod, ← Int.ofNat_tdiv, simprocAttr, BEq.rfl, LN_succ]
      refine ⟨by unfold inI64; omega, i + 1, ⟨by omega, by omega⟩, Cov.go [] [] ?_⟩
      rw [hno hb]
      simp [cvT, step, res, arrNat, -List.getD_eq_getElem?_getD]
    · have hvl2 : (fewZ B (i + 1)).length = V.length + 1 := by rw [hy hb]; simp
      simp -dsimp only [aqT, aqU, aqN, aqS, ↓seqK, ↓blkK, ↓loopK, step, stepBin, Nat.add_assoc nid, ↓reduceIte, Option.toList, ← Int.ofNat_tmod, ← Int.ofNat_tdiv, simprocAttr, BEq.rfl, LN_succ]
      rw [getD_appZ V i, ← hy hb]
      refine ⟨⟨by omega, by omega⟩, by unfold inI64; omega, i + 1, ⟨by omega, by omega⟩, Cov.go [(nid + 40, nid + 144)] [] ?_⟩
      simp [cvT, step, res, arrNat, hvl2, -List.getD_eq_getElem?_getD]
  · have hend := hend (by omega)
    rw [hend]
    refine RetOK.go [(nid, nid + 40)] [] (.inl rfl) ?_
    simp [a138, cvT, step, res, arrNat, -List.getD_eq_getElem?_getD]
theorem mem0_c (nid : Nat) : ACall Tryz.prog 138 [.int .i64 0, .int .i64 0] [] nid (.lit true 0 []) [] := by
  refine acall_run c138 (by simp [a138]) ?_
  simp -dsimp only [aqT, aqU, aqN, aqS, ↓seqK, ↓blkK, ↓loopK, step, stepBin, Nat.add_assoc nid, ↓reduceIte, Option.toList, ← Int.ofNat_tmod, ← Int.ofNat_tdiv, simprocAttr, BEq.rfl, LN_succ, a138]
  refine LP.mkP (fun _ : Unit => True) (fun _ => ⟨[(8, .int .i64 0), (7, .int .i64 0), (5, .lit true 0 [])], [], nid + 100, nid⟩) (fun _ => 0) () trivial (Cov.go [] [] ?_) (fun _ _ => ?_)
  · simp [cvT, step, res]
  simp -dsimp only [aqT, aqU, aqN, aqS, ↓seqK, ↓blkK, ↓loopK, step, stepBin, Nat.add_assoc nid, ↓reduceIte, Option.toList, ← Int.ofNat_tmod, ← Int.ofNat_tdiv, simprocAttr, BEq.rfl, LN_succ]
  refine RetOK.pure (.inl rfl) rfl ?_
  simp [cvT, step, res]
end Go.Proofs.YtpifoghhaohhaaaGreatDoor
namespace Go.Proofs.YtpifoghhaohhaaaGreatDoor
open Go.RowKit Go.Shelf Go.Lib
abbrev Rw := List UInt8 × Bool × List (List UInt8)
def z0 : Rw := ([], true, [])
def rwV (p : Rw) : PV := .agg [.str p.1, .lit p.2.1 p.2.2.length [.s fun j => p.2.2.getD j []]]
def colsRw (l : List Rw) : List Col := [.s fun k => (l.getD k z0).1, .l (fun k => (l.getD k z0).2.1) (fun k => (l.getD k z0).2.2.length) (fun k => [.s fun j => (l.getD k z0).2.2.getD j []])]
def arrRw (l : List Rw) : Option ABlk := some (.arr 67 l.length (colsRw l))
def arrRz (n : Nat) (l : List Rw) : Option ABlk := some (.arr 67 n [.s fun k => if k < l.length then (l.getD k z0).1 else [], .l (fun k => if k < l.length then (l.getD k z0).2.1 else true) (fun k => if k < l.length then (l.getD k z0).2.2.length else 0) (fun k => if k < l.length then [.s fun j => (l.getD k z0).2.2.getD j []] else [])])
theorem rwMem {l : List Rw} {k : Nat} (h : k < l.length) : l.getD k z0 ∈ l := by
  rw [List.getD_eq_getElem?_getD, List.getElem?_eq_getElem h]; exact List.getElem_mem _
def idxW (F : Rw → Bool) (l : List Rw) : Int := match l.findIdx? F with
  | some i => (i : Int)
  | none => -1
theorem idxW_hit {F : Rw → Bool} : ∀ {l : List Rw} {k : Nat}, k < l.length → (∀ j, j < k → F (l.getD j z0) = false) → F (l.getD k z0) = true → l.findIdx? F = some k
  | [], k, hk, _, _ => by simp at hk
  | a :: l, 0, _, _, h => by
    have h' : F a = true := by simpa using h
    simp [List.findIdx?_cons, h']
  | a :: l, k + 1, hk, hall, h => by
    have h0 : F a = false := by simpa using hall 0 (by omega)
    have := idxW_hit (F := F) (l := l) (k := k) (by simpa using hk) (fun j hj => by simpa using hall (j + 1) (by omega)) (by simpa using h)
    simp [List.findIdx?_cons, h0, this]
theorem idxW_none {F : Rw → Bool} : ∀ {l : List Rw}, (∀ j, j < l.length → F (l.getD j z0) = false) → l.findIdx? F = none
  | [], _ => rfl
  | a :: l, hall => by
    have h0 : F a = false := by simpa using hall 0 (by simp)
    have := idxW_none (F := F) (l := l) (fun j hj => by simpa using hall (j + 1) (by simpa using hj))
    simp [List.findIdx?_cons, h0, this]
set_option maxHeartbeats 4000000 in
theorem indexW_h (f id : Nat) (caps : List PV) (Hs : Heap) (F : Rw → Bool) (l : List Rw) (nid : Nat) (hid : id < nid) (hnk : id ∉ keys Hs) (hs : Scoped nid Hs) (hcap : lowAll nid (idsOfs caps) = true) (hl : l.length ≤ 2000000)
    (hf : ∀ p ∈ l, ∀ nid', nid ≤ nid' → ACall Tryz.prog f (rwV p :: caps) Hs nid' (.bool (F p)) []) :
    ACall Tryz.prog 188 [.sl id 0 l.length, .fn f caps] ((id, arrRw l) :: Hs) nid (.int .i64 (idxW F l)) [] := by
  have hcv := capsC hcap
  obtain ⟨a1, a2, a3, a4, a5, a6, a7, a8, a9⟩ := id_all hid
  refine acall_run c188 (by simp [a188]) ?_
  unfold arrRw colsRw
  simp -dsimp only [a188, aqT, aqU, aqN, aqS, ↓seqK, ↓blkK, ↓loopK, step, stepBin, Nat.add_assoc nid, ↓reduceIte, Option.toList, ← Int.ofNat_tmod, ← Int.ofNat_tdiv, simprocAttr, BEq.rfl, LN_succ, a1, a2, a3, a4, a5, a6, a7, a8, a9]
  refine LP.mkP (fun k : Nat => k ≤ l.length ∧ ∀ j, j < k → F (l.getD j z0) = false) (fun k : Nat => ⟨[(8, .int .i64 k), (7, .int .i64 l.length), (0, .sl id 0 l.length), (1, .fn f caps)], (id, arrRw l) :: Hs, nid + 100, nid⟩) (fun k => l.length + 1 - k) 0 ⟨by omega, fun j hj => by omega⟩ (Cov.goF Hs [_] [_] [] [] hs (by simp [kOK, hnk]) rfl ?_) (fun k hk => ?_)
  · simp [cvT, step, res, a1, a2, a3, a4, a5, a6, a7, a8, a9, arrRw, colsRw, hcv, ColsEq.refl, -List.getD_eq_getElem?_getD]
  obtain ⟨hk, hall⟩ := hk
  unfold arrRw colsRw
  simp -dsimp only [aqT, aqU, aqN, aqS, ↓seqK, ↓blkK, ↓loopK, step, stepBin, Nat.add_assoc nid, ↓reduceIte, Option.toList, ← Int.ofNat_tmod, ← Int.ofNat_tdiv, simprocAttr, BEq.rfl, LN_succ, a1, a2, a3, a4, a5, a6, a7, a8, a9]
  refine S2.dec (fun h1 => ?_) (fun h1 => ?_) <;> simp -dsimp only [aqT, aqU, aqN, aqS, ↓seqK, ↓blkK, ↓loopK, step, stepBin, Nat.add_assoc nid, ↓reduceIte, Option.toList, ← Int.ofNat_tmod, ← Int.ofNat_tdiv, simprocAttr, BEq.rfl, LN_succ, a1, a2, a3, a4, a5, a6, a7, a8, a9]
  · have hkl : k < l.length := by omega
    have hf1 := hf (l.getD k z0) (rwMem hkl)
    unfold rwV at hf1
    refine ⟨by omega, CallO.on (hf1 _ (by omega)) (subH_frame (X := [_]) hs (by simp [kOK, hnk])) ?_⟩
    simp -dsimp only [aqT, aqU, aqN, aqS, ↓seqK, ↓blkK, ↓loopK, step, stepBin, Nat.add_assoc nid, ↓reduceIte, Option.toList, ← Int.ofNat_tmod, ← Int.ofNat_tdiv, simprocAttr, BEq.rfl, LN_succ, a1, a2, a3, a4, a5, a6, a7, a8, a9]
    refine S2.intro (fun h2 => ?_) (fun h2 => ?_) <;> simp -dsimp only [aqT, aqU, aqN, aqS, ↓seqK, ↓blkK, ↓loopK, step, stepBin, Nat.add_assoc nid, ↓reduceIte, Option.toList, ← Int.ofNat_tmod, ← Int.ofNat_tdiv, simprocAttr, BEq.rfl, LN_succ, a1, a2, a3, a4, a5, a6, a7, a8, a9]
    · have e : idxW F l = (k : Int) := by unfold idxW; rw [idxW_hit hkl hall h2]
      rw [e]
      refine RetOK.goF Hs [(id, _)] [(id, _)] [] [] [] (.inl rfl) hs (by simp [kOK, hnk]) rfl ?_
      simp [a188, cvT, step, res, a1, a2, a3, a4, a5, a6, a7, a8, a9, arrRw, colsRw, ColsEq.refl, -List.getD_eq_getElem?_getD]
    · refine ⟨by unfold inI64; omega, k + 1, ⟨⟨by omega, fun j hj => ?_⟩, by omega⟩, Cov.goF Hs [_] [_] [] [] hs (by simp [kOK, hnk]) rfl ?_⟩
      · rcases (by omega : j < k ∨ j = k) with hj | hj
        · exact hall j hj
        · rw [hj]; exact h2
      · simp [cvT, step, res, a1, a2, a3, a4, a5, a6, a7, a8, a9, arrRw, colsRw, hcv, ColsEq.refl, -List.getD_eq_getElem?_getD]
  · have hkn : k = l.length := by omega
    subst hkn
    have e : idxW F l = -1 := by unfold idxW; rw [idxW_none hall]
    rw [e]
    refine RetOK.goF Hs [(id, _)] [(id, _)] [] [] [] (.inl rfl) hs (by simp [kOK, hnk]) rfl ?_
    simp [a188, cvT, step, res, a1, a2, a3, a4, a5, a6, a7, a8, a9, arrRw, colsRw, ColsEq.refl, -List.getD_eq_getElem?_getD]
def keepW (F : Rw → Bool) (l : List Rw) : List Rw := l.filter fun p => !F p
theorem keepW_len (F : Rw → Bool) (l : List Rw) : (keepW F l).length ≤ l.length := List.length_filter_le _ _
theorem keepW_succ {F : Rw → Bool} {l : List Rw} {k : Nat} (h : k < l.length) : keepW F (l.take (k + 1)) = keepW F (l.take k) ++ (if F (l.getD k z0) = true then [] else [l.getD k z0]) := by
  unfold keepW
  rw [List.take_add_one, List.getElem?_eq_getElem h, List.filter_append]
  congr 1
  have e : l.getD k z0 = l[k] := by rw [List.getD_eq_getElem?_getD, List.getElem?_eq_getElem h]; rfl
  rw [e]
  cases hf : F l[k] <;> simp [hf]
theorem keepW_all {F : Rw → Bool} {l : List Rw} {k : Nat} (hk : k ≤ l.length) (h : ∀ j, j < k → F (l.getD j z0) = false) : keepW F (l.take k) = l.take k := by
  unfold keepW
  rw [List.filter_eq_self]
  intro a ha
  obtain ⟨j, hj, rfl⟩ := List.getElem_of_mem ha
  have hj' : j < k := by rw [List.length_take] at hj; omega
  have := h j hj'
  rw [List.getD_eq_getElem?_getD, List.getElem?_eq_getElem (by omega)] at this
  simp only [List.getElem_take]
  simpa using this
def partW (F : Rw → Bool) (l : List Rw) (k : Nat) : List Rw := keepW F (l.take k) ++ l.drop (keepW F (l.take k)).length
theorem partW_len {F : Rw → Bool} {l : List Rw} {k : Nat} (hk : k ≤ l.length) : (partW F l k).length = l.length := by
  have := keepW_len F (l.take k)
  rw [List.length_take] at this
  unfold partW; rw [List.length_append, List.length_drop]; omega
theorem partW_at {F : Rw → Bool} {l : List Rw} {k : Nat} (hk : k < l.length) : (partW F l k).getD k z0 = l.getD k z0 := by
  have := keepW_len F (l.take k)
  rw [List.length_take] at this
  unfold partW
  rw [List.getD_eq_getElem?_getD, List.getElem?_append_right (by omega), List.getElem?_drop, List.getD_eq_getElem?_getD]
  congr 2
  omega
theorem partW_set {F : Rw → Bool} {l : List Rw} {k : Nat} (hk : k < l.length) (h : F (l.getD k z0) = false) : (partW F l k).set (keepW F (l.take k)).length (l.getD k z0) = partW F l (k + 1) ∧ (keepW F (l.take (k + 1))).length = (keepW F (l.take k)).length + 1 := by
  have := keepW_len F (l.take k)
  rw [List.length_take] at this
  have e := keepW_succ (F := F) hk
  rw [if_neg (by rw [h]; simp)] at e
  refine ⟨?_, by rw [e]; simp⟩
  unfold partW
  rw [e, List.set_append_right _ _ (Nat.le_refl _), Nat.sub_self, List.length_append, List.append_assoc]
  congr 1
  rw [List.drop_eq_getElem_cons (by omega : (keepW F (l.take k)).length < l.length)]
  rfl
theorem partW_skip {F : Rw → Bool} {l : List Rw} {k : Nat} (hk : k < l.length) (h : F (l.getD k z0) = true) : partW F l (k + 1) = partW F l k ∧ keepW F (l.take (k + 1)) = keepW F (l.take k) := by
  have e := keepW_succ (F := F) hk
  rw [if_pos h, List.append_nil] at e
  exact ⟨by unfold partW; rw [e], e⟩
theorem setW {β : Type} (q : List Rw) (x : Rw) {i : Nat} (hi : i < q.length) (f : Rw → β) {v : β} (hv : v = f x) : (fun j => if j = i then v else f (q.getD j z0)) = fun j => f ((q.set i x).getD j z0) := by
  subst hv
  funext j
  simp only [List.getD_eq_getElem?_getD, List.getElem?_set]
  by_cases h : j = i
  · subst h; simp [hi]
  · rw [if_neg h, if_neg (fun e => h e.symm)]
theorem partW_low {F : Rw → Bool} {l : List Rw} {j : Nat} (hj : j < (keepW F l).length) : (partW F l l.length).getD j z0 = (keepW F l).getD j z0 := by
  unfold partW
  rw [List.take_length, List.getD_eq_getElem?_getD, List.getElem?_append_left hj, ← List.getD_eq_getElem?_getD]
theorem doneW {β : Type} {F : Rw → Bool} {l : List Rw} (g : Rw → β) (z : β) : ∀ j, j < l.length → (if (keepW F l).length ≤ j ∧ j < (keepW F l).length + (l.length - (keepW F l).length) then z else g ((partW F l l.length).getD j z0)) = if j < (keepW F l).length then g ((keepW F l).getD j z0) else z := fun j hj => by
  have hk := keepW_len F l
  by_cases h : j < (keepW F l).length
  · rw [if_neg (by omega), if_pos h, partW_low h]
  · rw [if_pos ⟨by omega, by omega⟩, if_neg h]
set_option maxHeartbeats 8000000 in
theorem deleteW_h (f id : Nat) (caps : List PV) (Hs : Heap) (F : Rw → Bool) (l : List Rw) (nid : Nat) (hid : id < nid) (hnk : id ∉ keys Hs) (hs : Scoped nid Hs) (hcap : lowAll nid (idsOfs caps) = true) (hl : l.length ≤ 2000000)
    (hf : ∀ p ∈ l, ∀ nid', nid ≤ nid' → ACall Tryz.prog f (rwV p :: caps) Hs nid' (.bool (F p)) []) :
    ACall Tryz.prog 122 [.sl id 0 l.length, .fn f caps] ((id, arrRw l) :: Hs) nid (.sl id 0 (keepW F l).length) [(id, arrRz l.length (keepW F l))] := by
  have hcv := capsC hcap
  obtain ⟨a1, a2, a3, a4, a5, a6, a7, a8, a9⟩ := id_all hid
  refine acall_sr c122 (by simp [a122]) ?_
  unfold a122
  refine SR.seq ?_
  simp -dsimp only [aqT, aqU, aqN, aqS, ↓seqK, ↓blkK, ↓loopK, step, stepBin, Nat.add_assoc nid, ↓reduceIte, Option.toList, ← Int.ofNat_tmod, ← Int.ofNat_tdiv, simprocAttr, BEq.rfl, LN_succ, a1, a2, a3, a4, a5, a6, a7, a8, a9]
  refine SR.seqTo ⟨[(5, .int .i64 (idxW F l)), (0, .sl id 0 l.length), (1, .fn f caps)], (id, arrRw l) :: Hs, nid + 100, nid⟩ ?_ ?_
  · simp -dsimp only [aqT, aqU, aqN, aqS, ↓seqK, ↓blkK, ↓loopK, step, stepBin, Nat.add_assoc nid, ↓reduceIte, Option.toList, ← Int.ofNat_tmod, ← Int.ofNat_tdiv, simprocAttr, BEq.rfl, LN_succ, a1, a2, a3, a4, a5, a6, a7, a8, a9]
    refine CallO.on (indexW_h f id caps Hs F l _ (by omega) hnk (hs.mono (by omega)) (lowAll_mono hcap (by omega)) hl (fun p hp nid' h' => hf p hp nid' (by omega))) (fun _ _ h => h) ?_
    simp -dsimp only [aqT, aqU, aqN, aqS, ↓seqK, ↓blkK, ↓loopK, step, stepBin, Nat.add_assoc nid, ↓reduceIte, Option.toList, ← Int.ofNat_tmod, ← Int.ofNat_tdiv, simprocAttr, BEq.rfl, LN_succ, a1, a2, a3, a4, a5, a6, a7, a8, a9]
    refine Cov.goF Hs [_] [_] [] [] hs (by simp [kOK, hnk]) rfl ?_
    simp [cvT, step, res, a1, a2, a3, a4, a5, a6, a7, a8, a9, arrRw, colsRw, hcv, ColsEq.refl, -List.getD_eq_getElem?_getD]
  by_cases hnone : ∀ j, j < l.length → F (l.getD j z0) = false
  · have e : idxW F l = -1 := by unfold idxW; rw [idxW_none hnone]
    have hk : keepW F l = l := by
      have := keepW_all (F := F) (l := l) (Nat.le_refl _) hnone
      rwa [List.take_length] at this
    rw [e, hk]
    refine SR.run (t := .mk) ?_
    unfold arrRw colsRw
    simp -dsimp only [aqT, aqU, aqN, aqS, ↓seqK, ↓blkK, ↓loopK, step, stepBin, Nat.add_assoc nid, ↓reduceIte, Option.toList, ← Int.ofNat_tmod, ← Int.ofNat_tdiv, simprocAttr, BEq.rfl, LN_succ, a1, a2, a3, a4, a5, a6, a7, a8, a9]
    refine RetOK.goF Hs [(id, arrRw l)] [(id, _)] [(id, arrRz l.length l)] [] [] (.inl rfl) hs (by simp [kOK, hnk]) rfl ?_
    simp [a122, cvT, step, res, a1, a2, a3, a4, a5, a6, a7, a8, a9, arrRz, -List.getD_eq_getElem?_getD]
    exact ⟨ColEq.s fun j hj => by rw [if_pos hj], ColEq.l fun j hj => by simp [hj, ColsEq.refl, -List.getD_eq_getElem?_getD]⟩
  obtain ⟨i0, hi0, hi1, hi2⟩ : ∃ i, i < l.length ∧ F (l.getD i z0) = true ∧ ∀ j, j < i → F (l.getD j z0) = false := by
    cases hfi : l.findIdx? F with
    | none =>
      exfalso
      refine hnone fun j hj => ?_
      have := List.findIdx?_eq_none_iff.1 hfi (l.getD j z0) (rwMem hj)
      simpa using this
    | some i =>
      obtain ⟨h1, h2, h3⟩ := List.findIdx?_eq_some_iff_getElem.1 hfi
      refine ⟨i, h1, ?_, fun j hj => ?_⟩
      · rw [List.getD_eq_getElem?_getD, List.getElem?_eq_getElem h1]; exact h2
      · rw [List.getD_eq_getElem?_getD, List.getElem?_eq_getElem (by omega)]; simpa using h3 j hj
  have e : idxW F l = (i0 : Int) := by unfold idxW; rw [idxW_hit hi0 hi2 hi1]
  rw [e]
  have hne1 : ((i0 : Int) == -1) = false := by rw [beq_eq_false_iff_ne]; omega
  have hk0 : keepW F (l.take (i0 + 1)) = l.take i0 := by rw [(partW_skip hi0 hi1).2, keepW_all (by omega) hi2]
  have hkl0 : (keepW F (l.take (i0 + 1))).length = i0 := by rw [hk0, List.length_take]; omega
  have hp0 : partW F l (i0 + 1) = l := by unfold partW; rw [hkl0, hk0, List.take_append_drop]
  refine SR.seq ?_
  unfold arrRw colsRw
  simp -dsimp only [aqT, aqU, aqN, aqS, ↓seqK, ↓blkK, ↓loopK, step, stepBin, Nat.add_assoc nid, ↓reduceIte, Option.toList, ← Int.ofNat_tmod, ← Int.ofNat_tdiv, simprocAttr, BEq.rfl, LN_succ, a1, a2, a3, a4, a5, a6, a7, a8, a9, hne1]
  refine SR.seqTo ⟨[(5, .int .i64 ((keepW F l).length : Nat)), (0, .sl id 0 l.length)], (id, arrRw (partW F l l.length)) :: Hs, nid + 1000, nid⟩ ?_ ?_
  · simp -dsimp only [aqT, aqU, aqN, aqS, ↓seqK, ↓blkK, ↓loopK, step, stepBin, Nat.add_assoc nid, ↓reduceIte, Option.toList, ← Int.ofNat_tmod, ← Int.ofNat_tdiv, simprocAttr, BEq.rfl, LN_succ, a1, a2, a3, a4, a5, a6, a7, a8, a9]
    refine ⟨by unfold inI64; omega, ?_⟩
    refine LP.mkP (fun k : Nat => i0 + 1 ≤ k ∧ k ≤ l.length) (fun k : Nat => ⟨[(6, .int .i64 k), (5, .int .i64 ((keepW F (l.take k)).length : Nat)), (0, .sl id 0 l.length), (1, .fn f caps)], (id, arrRw (partW F l k)) :: Hs, nid + 300, nid⟩) (fun k => l.length + 1 - k) (i0 + 1) ⟨Nat.le_refl _, by omega⟩ (Cov.goF Hs [_] [_] [] [] hs (by simp [kOK, hnk]) rfl ?_) (fun k hk => ?_)
    · rw [hkl0, hp0]
      simp [cvT, step, res, a1, a2, a3, a4, a5, a6, a7, a8, a9, arrRw, colsRw, hcv, ColsEq.refl, -List.getD_eq_getElem?_getD]
    obtain ⟨hk1, hk2⟩ := hk
    have hpl := partW_len (F := F) hk2
    have hkl := keepW_len F (l.take k)
    rw [List.length_take] at hkl
    unfold arrRw colsRw
    rw [hpl]
    simp -dsimp only [aqT, aqU, aqN, aqS, ↓seqK, ↓blkK, ↓loopK, step, stepBin, Nat.add_assoc nid, ↓reduceIte, Option.toList, ← Int.ofNat_tmod, ← Int.ofNat_tdiv, simprocAttr, BEq.rfl, LN_succ, a1, a2, a3, a4, a5, a6, a7, a8, a9]
    refine S2.dec (fun h1 => ?_) (fun h1 => ?_) <;> simp -dsimp only [aqT, aqU, aqN, aqS, ↓seqK, ↓blkK, ↓loopK, step, stepBin, Nat.add_assoc nid, ↓reduceIte, Option.toList, ← Int.ofNat_tmod, ← Int.ofNat_tdiv, simprocAttr, BEq.rfl, LN_succ, a1, a2, a3, a4, a5, a6, a7, a8, a9]
    · have hkn : k < l.length := by omega
      have hf1 := hf (l.getD k z0) (rwMem hkn)
      unfold rwV at hf1
      rw [partW_at hkn]
      refine ⟨by omega, ?_⟩
      first
        | refine CallO.on (hf1 _ (by omega)) (subH_frame (X := [_, _]) hs (by simp [kOK, hnk])) ?_
        | refine CallO.on (hf1 _ (by omega)) (subH_frame (X := [_, _, _]) hs (by simp [kOK, hnk])) ?_
      simp -dsimp only [aqT, aqU, aqN, aqS, ↓seqK, ↓blkK, ↓loopK, step, stepBin, Nat.add_assoc nid, ↓reduceIte, Option.toList, ← Int.ofNat_tmod, ← Int.ofNat_tdiv, simprocAttr, BEq.rfl, LN_succ, a1, a2, a3, a4, a5, a6, a7, a8, a9]
      cases hF : F (l.getD k z0) <;> simp -dsimp only [aqT, aqU, aqN, aqS, ↓seqK, ↓blkK, ↓loopK, step, stepBin, Nat.add_assoc nid, ↓reduceIte, Option.toList, ← Int.ofNat_tmod, ← Int.ofNat_tdiv, simprocAttr, BEq.rfl, LN_succ, a1, a2, a3, a4, a5, a6, a7, a8, a9]
      · obtain ⟨q1, q2⟩ := partW_set hkn hF
        rw [setW (partW F l k) (l.getD k z0) (by omega) (fun p => p.1) rfl, setW (partW F l k) (l.getD k z0) (by omega) (fun p => p.2.1) rfl, setW (partW F l k) (l.getD k z0) (by omega) (fun p => p.2.2.length) rfl, setW (partW F l k) (l.getD k z0) (by omega) (fun p => [Col.s fun j => p.2.2.getD j []]) rfl, q1]
        refine ⟨by omega, by unfold inI64; omega, by unfold inI64; omega, k + 1, ⟨⟨by omega, by omega⟩, by omega⟩, ?_⟩
        first | refine Cov.goF Hs [_] [_] [] [] hs (by simp [kOK, hnk]) rfl ?_ | refine Cov.goF Hs [_, _] [_] [] [] hs (by simp [kOK, hnk]) rfl ?_ | refine Cov.goF Hs [_, _, _] [_] [] [] hs (by simp [kOK, hnk]) rfl ?_ | refine Cov.goF Hs [_, _, _, _] [_] [] [] hs (by simp [kOK, hnk]) rfl ?_ | refine Cov.goF Hs [_, _, _, _, _] [_] [] [] hs (by simp [kOK, hnk]) rfl ?_
        rw [q2]
        simp [cvT, step, res, a1, a2, a3, a4, a5, a6, a7, a8, a9, arrRw, colsRw, hcv, partW_len (F := F) (l := l) (k := k + 1) (by omega), ColsEq.refl, -List.getD_eq_getElem?_getD]
      · obtain ⟨q1, q2⟩ := partW_skip hkn hF
        refine ⟨by unfold inI64; omega, k + 1, ⟨⟨by omega, by omega⟩, by omega⟩, ?_⟩
        first | refine Cov.goF Hs [_] [_] [] [] hs (by simp [kOK, hnk]) rfl ?_ | refine Cov.goF Hs [_, _] [_] [] [] hs (by simp [kOK, hnk]) rfl ?_ | refine Cov.goF Hs [_, _, _] [_] [] [] hs (by simp [kOK, hnk]) rfl ?_ | refine Cov.goF Hs [_, _, _, _] [_] [] [] hs (by simp [kOK, hnk]) rfl ?_ | refine Cov.goF Hs [_, _, _, _, _] [_] [] [] hs (by simp [kOK, hnk]) rfl ?_
        rw [q1, q2]
        simp [cvT, step, res, a1, a2, a3, a4, a5, a6, a7, a8, a9, arrRw, colsRw, hcv, hpl, ColsEq.refl, -List.getD_eq_getElem?_getD]
    · have hkn : k = l.length := by omega
      subst hkn
      rw [List.take_length]
      refine Cov.goF Hs [_] [_] [] [] hs (by simp [kOK, hnk]) rfl ?_
      simp [cvT, step, res, a1, a2, a3, a4, a5, a6, a7, a8, a9, arrRw, colsRw, hpl, ColsEq.refl, -List.getD_eq_getElem?_getD]
  have hpl := partW_len (F := F) (l := l) (Nat.le_refl _)
  have hkl := keepW_len F l
  unfold arrRw colsRw
  rw [hpl]
  refine SR.run (t := .mk) ?_
  simp -dsimp only [aqT, aqU, aqN, aqS, ↓seqK, ↓blkK, ↓loopK, step, stepBin, Nat.add_assoc nid, ↓reduceIte, Option.toList, ← Int.ofNat_tmod, ← Int.ofNat_tdiv, simprocAttr, BEq.rfl, LN_succ, a1, a2, a3, a4, a5, a6, a7, a8, a9, Col.const]
  have hlt : (keepW F l).length < l.length := by
    have e1 : keepW F l = keepW F (l.take (i0 + 1)) ++ keepW F (l.drop (i0 + 1)) := by
      unfold keepW
      rw [← List.filter_append, List.take_append_drop]
    have e2 := keepW_len F (l.drop (i0 + 1))
    rw [List.length_drop] at e2
    rw [e1, List.length_append, hkl0]
    omega
  refine ⟨⟨by omega, by omega⟩, by omega, ⟨by omega, by omega⟩, ?_⟩
  first | refine RetOK.goF Hs [_] [_] [(id, arrRz l.length (keepW F l))] [] [] (.inl rfl) hs (by simp [kOK, hnk]) rfl ?_ | refine RetOK.goF Hs [_] [_, _] [(id, arrRz l.length (keepW F l))] [] [] (.inl rfl) hs (by simp [kOK, hnk]) rfl ?_ | refine RetOK.goF Hs [_] [_, _, _] [(id, arrRz l.length (keepW F l))] [] [] (.inl rfl) hs (by simp [kOK, hnk]) rfl ?_
  simp [a122, cvT, step, res, a1, a2, a3, a4, a5, a6, a7, a8, a9, arrRz, -List.getD_eq_getElem?_getD]
  exact ⟨ColEq.s (doneW (fun p => p.1) []), ColEq.l fun j hj => ⟨(doneW (fun p => p.2.1) true j hj).trans (by simp), doneW (fun p => p.2.2.length) 0 j hj, colsEq_of (doneW (fun p => [Col.s fun j => p.2.2.getD j []]) [] j hj)⟩⟩
end Go.Proofs.YtpifoghhaohhaaaGreatDoor
namespace Go.Proofs.YtpifoghhaohhaaaGreatDoor
open Go.RowKit Go.Shelf Go.Lib
def seenBad (n : Nat) (S : SeenL) (k : Nat) : Int :=
  if outB (sT S k) 0 ((n : Int) - 1) = true then 1 else if oddS (sR S k) = true then 9 else if 0 < k ∧ sT S k ≤ sT S (k - 1) then 7 else 0
def seenV (G : List (List UInt8)) (R : RowL) (S : SeenL) : Int :=
  if dictV G R ≠ 0 then dictV G R else if 100 < S.length then 2 else firstBad (seenBad G.length S) (List.range S.length)
structure SnW (S : SeenL) : Prop where
  l : S.length ≤ 1000000
  r : ∀ k, (sR S k).length ≤ 1000000
theorem seenV_row {G : List (List UInt8)} {R : RowL} {S : SeenL} {k : Nat} {e : Int} (h1 : dictV G R = 0) (h2 : ¬ 100 < S.length) (hk : k < S.length) (h0 : ∀ j, j < k → seenBad G.length S j = 0) (h : seenBad G.length S k = e) (he : e ≠ 0) : seenV G R S = e := by
  unfold seenV
  rw [if_neg (by simp [h1]), if_neg h2, firstR_hit hk h0 (by rw [h]; exact he), h]
theorem seenV_good {G : List (List UInt8)} {R : RowL} {S : SeenL} (h1 : dictV G R = 0) (h2 : ¬ 100 < S.length) (h0 : ∀ j, j < S.length → seenBad G.length S j = 0) : seenV G R S = 0 := by
  unfold seenV
  rw [if_neg (by simp [h1]), if_neg h2, firstR_none h0]
set_option maxHeartbeats 1000000 in
theorem seenD_c (g0 r0 : Bool) (b : Nat → Bool) (G : List (List UInt8)) (R : RowL) (nl : Bool) (S : SeenL) (nid : Nat) (hB : DictW G R) (hS : SnW S) : ACall Tryz.prog 64 [dictP g0 r0 b G R, litSn nl S] [] nid (.int .i64 (seenV G R S)) [] := by
  have hgl := hB.gl
  have hsl := hS.l
  have hd := fun m => dictD_c g0 r0 b G R m hB
  refine acall_sr c64 (by simp [a64]) ?_
  unfold a64
  refine SR.seq ?_
  unfold dictP litSn at *
  simp -dsimp only [aqT, aqU, aqN, aqS, ↓seqK, ↓blkK, ↓loopK, step, stepBin, Nat.add_assoc nid, ↓reduceIte, Option.toList, ← Int.ofNat_tmod, ← Int.ofNat_tdiv, simprocAttr, BEq.rfl, LN_succ]
  refine SR.seqW (ι := {_u : Unit // dictV G R = 0}) (fun _ => ⟨[(2, .ptr nid 0), (1, litSn nl S)], [(nid, boxP2 g0 r0 b G R)], nid + 100, nid⟩) ?_ (fun ⟨_, h1⟩ => ?_)
  · refine SR.run (t := .mk) ?_
    simp -dsimp only [aqT, aqU, aqN, aqS, ↓seqK, ↓blkK, ↓loopK, step, stepBin, Nat.add_assoc nid, ↓reduceIte, Option.toList, ← Int.ofNat_tmod, ← Int.ofNat_tdiv, simprocAttr, BEq.rfl, LN_succ]
    refine CallO.pure (hd _) ?_
    simp -dsimp only [aqT, aqU, aqN, aqS, ↓seqK, ↓blkK, ↓loopK, step, stepBin, Nat.add_assoc nid, ↓reduceIte, Option.toList, ← Int.ofNat_tmod, ← Int.ofNat_tdiv, simprocAttr, BEq.rfl, LN_succ]
    refine S2.intro (fun h1 => ?_) (fun h1 => ?_) <;> simp -dsimp only [aqT, aqU, aqN, aqS, ↓seqK, ↓blkK, ↓loopK, step, stepBin, Nat.add_assoc nid, ↓reduceIte, Option.toList, ← Int.ofNat_tmod, ← Int.ofNat_tdiv, simprocAttr, BEq.rfl, LN_succ]
    · have e : seenV G R S = dictV G R := by unfold seenV; rw [if_pos (by simpa using h1)]
      rw [e]
      refine RetOK.pure (.inl rfl) rfl ?_
      simp [cvT, step, res]
    · refine ⟨⟨(), by simpa using h1⟩, Cov.go [] [] ?_⟩
      simp [cvT, step, res, boxP2, litSn, ColsEq.refl, -List.getD_eq_getElem?_getD]
  refine SR.seqW (ι := {_u : Unit // ¬ 100 < S.length}) (fun _ => ⟨[(2, .ptr nid 0), (1, litSn nl S)], [(nid, boxP2 g0 r0 b G R)], nid + 150, nid⟩) ?_ (fun ⟨_, h2⟩ => ?_)
  · unfold litSn
    refine SR.run (t := .mk) ?_
    simp -dsimp only [aqT, aqU, aqN, aqS, ↓seqK, ↓blkK, ↓loopK, step, stepBin, Nat.add_assoc nid, ↓reduceIte, Option.toList, ← Int.ofNat_tmod, ← Int.ofNat_tdiv, simprocAttr, BEq.rfl, LN_succ]
    refine S2.dec (fun h2 => ?_) (fun h2 => ?_) <;> simp -dsimp only [aqT, aqU, aqN, aqS, ↓seqK, ↓blkK, ↓loopK, step, stepBin, Nat.add_assoc nid, ↓reduceIte, Option.toList, ← Int.ofNat_tmod, ← Int.ofNat_tdiv, simprocAttr, BEq.rfl, LN_succ]
    · have e : seenV G R S = 2 := by unfold seenV; rw [if_neg (by simp [h1]), if_pos (by omega)]
      rw [e]
      refine RetOK.pure (.inl rfl) rfl ?_
      simp [cvT, step, res]
    · refine ⟨⟨(), by omega⟩, Cov.go [] [] ?_⟩
      simp [cvT, step, res, boxP2, litSn, ColsEq.refl, -List.getD_eq_getElem?_getD]
  refine SR.seqW (ι := {_u : Unit // ∀ j, j < S.length → seenBad G.length S j = 0}) (fun _ => ⟨[], [], nid + 2000, nid⟩) ?_ (fun ⟨_, h5⟩ => ?_)
  · unfold boxP2 litSn
    refine SR.seqTo ⟨[(18, .int .i64 0), (17, .int .i64 S.length), (16, litSn nl S), (2, .ptr nid 0), (1, litSn nl S)], [(nid, boxP2 g0 r0 b G R)], nid + 200, nid⟩ ?_ ?_
    · simp -dsimp only [aqT, aqU, aqN, aqS, ↓seqK, ↓blkK, ↓loopK, step, stepBin, Nat.add_assoc nid, ↓reduceIte, Option.toList, ← Int.ofNat_tmod, ← Int.ofNat_tdiv, simprocAttr, BEq.rfl, LN_succ]
      refine Cov.go [] [] ?_
      simp [cvT, step, res, boxP2, litSn, ColsEq.refl, -List.getD_eq_getElem?_getD]
    refine SR.block ?_
    refine SR.loopP (fun k : Nat => k ≤ S.length ∧ ∀ j, j < k → seenBad G.length S j = 0) (fun k : Nat => ⟨[(18, .int .i64 k), (17, .int .i64 S.length), (16, litSn nl S), (2, .ptr nid 0), (1, litSn nl S)], [(nid, boxP2 g0 r0 b G R)], nid + 200, nid⟩) (fun k => S.length + 1 - k) 0 ⟨by omega, fun j hj => by omega⟩ (Cov.drop (by omega) ?_) (fun k hk => ?_)
    · simp only [SlotsIn, aqT, aqU, aqN, ↓seqK, ↓blkK, ↓loopK, step, stepBin, Nat.reduceBEq, Nat.reduceBeqDiff, Nat.add_assoc nid, Nat.reduceAdd, reduceCtorEq, ↓reduceIte, Nat.reduceLeDiff, Nat.reduceBneDiff, Option.toList, ← Int.ofNat_tmod, ← Int.ofNat_tdiv, Nat.reduceLT]
      try simp
    obtain ⟨hk, hall⟩ := hk
    refine SR.seq ?_
    simp -dsimp only [aqT, aqU, aqN, aqS, ↓seqK, ↓blkK, ↓loopK, step, stepBin, Nat.add_assoc nid, ↓reduceIte, Option.toList, ← Int.ofNat_tmod, ← Int.ofNat_tdiv, simprocAttr, BEq.rfl, LN_succ]
    refine SR.seq ?_
    simp -dsimp only [aqT, aqU, aqN, aqS, ↓seqK, ↓blkK, ↓loopK, step, stepBin, Nat.add_assoc nid, ↓reduceIte, Option.toList, ← Int.ofNat_tmod, ← Int.ofNat_tdiv, simprocAttr, BEq.rfl, LN_succ]
    refine S2.dec (fun h4 => ?_) (fun h4 => ?_) <;> simp -dsimp only [aqT, aqU, aqN, aqS, ↓seqK, ↓blkK, ↓loopK, step, stepBin, Nat.add_assoc nid, ↓reduceIte, Option.toList, ← Int.ofNat_tmod, ← Int.ofNat_tdiv, simprocAttr, BEq.rfl, LN_succ]
    · have hkl : k < S.length := by omega
      have hbad := fun e => seenV_row (e := e) h1 h2 hkl hall
      have hr1 := hS.r k
      refine SR.seqW (ι := {_u : Unit // seenBad G.length S k = 0}) (fun _ => ⟨[(18, .int .i64 k), (17, .int .i64 S.length), (16, litSn nl S), (2, .ptr nid 0), (1, litSn nl S)], [(nid, boxP2 g0 r0 b G R)], nid + 900, nid⟩) ?_ (fun ⟨_, h6⟩ => ?_)
      · refine SR.block ?_
        unfold litSn
        refine SR.seqTo ⟨[(7, .ptr (nid + 300) 0), (6, .int .i64 k), (18, .int .i64 k), (17, .int .i64 S.length), (16, litSn nl S), (2, .ptr nid 0), (1, litSn nl S)], [(nid + 300, some (.box 69 [.int .i64 (sT S k), .str (sR S k)])), (nid, boxP2 g0 r0 b G R)], nid + 400, nid⟩ ?_ ?_
        · simp -dsimp only [aqT, aqU, aqN, aqS, ↓seqK, ↓blkK, ↓loopK, step, stepBin, Nat.add_assoc nid, ↓reduceIte, Option.toList, ← Int.ofNat_tmod, ← Int.ofNat_tdiv, simprocAttr, BEq.rfl, LN_succ]
          refine ⟨by omega, Cov.go [(nid + 300, nid + 216)] [] ?_⟩
          simp [cvT, step, res, boxP2, litSn, ColsEq.refl, -List.getD_eq_getElem?_getD]
        unfold boxP2 litSn
        refine SR.block ?_
        refine SR.seq ?_
        simp -dsimp only [aqT, aqU, aqN, aqS, ↓seqK, ↓blkK, ↓loopK, step, stepBin, Nat.add_assoc nid, ↓reduceIte, Option.toList, ← Int.ofNat_tmod, ← Int.ofNat_tdiv, simprocAttr, BEq.rfl, LN_succ]
        refine ⟨by unfold inI64; omega, CallO.pure (out_c _ _ _ _) ?_⟩
        simp -dsimp only [aqT, aqU, aqN, aqS, ↓seqK, ↓blkK, ↓loopK, step, stepBin, Nat.add_assoc nid, ↓reduceIte, Option.toList, ← Int.ofNat_tmod, ← Int.ofNat_tdiv, simprocAttr, BEq.rfl, LN_succ]
        refine SR.cond (b := outB (sT S k) 0 ((G.length : Int) - 1)) (by simp [AX.val, getS]) (fun h => ?_) (fun h => ?_)
        · rw [hbad 1 (by unfold seenBad; rw [if_pos h]) (by decide)]
          refine SR.run (t := .mk) ?_
          simp -dsimp only [aqT, aqU, aqN, aqS, ↓seqK, ↓blkK, ↓loopK, step, stepBin, Nat.add_assoc nid, ↓reduceIte, Option.toList, ← Int.ofNat_tmod, ← Int.ofNat_tdiv, simprocAttr, BEq.rfl, LN_succ]
          refine RetOK.pure (.inl rfl) rfl ?_
          simp [cvT, step, res]
        have hk1 : ¬ outB (sT S k) 0 ((G.length : Int) - 1) = true := by simp [h]
        refine SR.seq ?_
        simp -dsimp only [aqT, aqU, aqN, aqS, ↓seqK, ↓blkK, ↓loopK, step, stepBin, Nat.add_assoc nid, ↓reduceIte, Option.toList, ← Int.ofNat_tmod, ← Int.ofNat_tdiv, simprocAttr, BEq.rfl, LN_succ]
        refine CallO.pure (respD_c _ _ hr1) ?_
        simp -dsimp only [aqT, aqU, aqN, aqS, ↓seqK, ↓blkK, ↓loopK, step, stepBin, Nat.add_assoc nid, ↓reduceIte, Option.toList, ← Int.ofNat_tmod, ← Int.ofNat_tdiv, simprocAttr, BEq.rfl, LN_succ]
        refine SR.cond (b := !respB (sR S k)) (by simp [AX.val, getS]) (fun h => ?_) (fun h => ?_)
        · rw [hbad 9 (by unfold seenBad; rw [if_neg hk1, if_pos (show oddS (sR S k) = true from h)]) (by decide)]
          refine SR.run (t := .mk) ?_
          simp -dsimp only [aqT, aqU, aqN, aqS, ↓seqK, ↓blkK, ↓loopK, step, stepBin, Nat.add_assoc nid, ↓reduceIte, Option.toList, ← Int.ofNat_tmod, ← Int.ofNat_tdiv, simprocAttr, BEq.rfl, LN_succ]
          refine RetOK.pure (.inl rfl) rfl ?_
          simp [cvT, step, res]
        have hk2 : ¬ oddS (sR S k) = true := by unfold oddS; simpa using h
        refine SR.seqTo ⟨[(36, .bool (decide ((0 : Int) < k) && decide (sT S k ≤ sT S (k - 1)))), (18, .int .i64 k), (17, .int .i64 S.length), (16, litSn nl S), (2, .ptr nid 0), (1, litSn nl S)], [(nid, boxP2 g0 r0 b G R)], nid + 700, nid⟩ ?_ ?_
        · simp -dsimp only [aqT, aqU, aqN, aqS, ↓seqK, ↓blkK, ↓loopK, step, stepBin, Nat.add_assoc nid, ↓reduceIte, Option.toList, ← Int.ofNat_tmod, ← Int.ofNat_tdiv, simprocAttr, BEq.rfl, LN_succ]
          refine S2.dec (fun h0 => ?_) (fun h0 => ?_) <;> simp -dsimp only [aqT, aqU, aqN, aqS, ↓seqK, ↓blkK, ↓loopK, step, stepBin, Nat.add_assoc nid, ↓reduceIte, Option.toList, ← Int.ofNat_tmod, ← Int.ofNat_tdiv, simprocAttr, BEq.rfl, LN_succ]
          · have e : ((k : Int) - 1).toNat = k - 1 := by omega
            rw [e]
            refine ⟨by unfold inI64; omega, by omega, Cov.go [] [] ?_⟩
            simp [cvT, step, res, boxP2, litSn, ColsEq.refl, decide_eq_true h0, -List.getD_eq_getElem?_getD]
            try omega
          · refine Cov.go [] [] ?_
            simp [cvT, step, res, boxP2, litSn, ColsEq.refl, decide_eq_false h0, -List.getD_eq_getElem?_getD]
            try omega
        refine SR.cond (b := decide ((0 : Int) < k) && decide (sT S k ≤ sT S (k - 1))) (by simp [AX.val, getS]) (fun h => ?_) (fun h => ?_)
        · simp only [Bool.and_eq_true, decide_eq_true_eq] at h
          rw [hbad 7 (by unfold seenBad; rw [if_neg hk1, if_neg hk2, if_pos ⟨by omega, h.2⟩]) (by decide)]
          refine SR.run (t := .mk) ?_
          simp -dsimp only [aqT, aqU, aqN, aqS, ↓seqK, ↓blkK, ↓loopK, step, stepBin, Nat.add_assoc nid, ↓reduceIte, Option.toList, ← Int.ofNat_tmod, ← Int.ofNat_tdiv, simprocAttr, BEq.rfl, LN_succ]
          refine RetOK.pure (.inl rfl) rfl ?_
          simp [cvT, step, res]
        have hk4 : ¬ (0 < k ∧ sT S k ≤ sT S (k - 1)) := fun ⟨e1, e2⟩ => by
          rw [decide_eq_true e2, decide_eq_true (by omega)] at h
          simp at h
        refine SR.run (t := .mk) ?_
        simp -dsimp only [aqT, aqU, aqN, aqS, ↓seqK, ↓blkK, ↓loopK, step, stepBin, Nat.add_assoc nid, ↓reduceIte, Option.toList, ← Int.ofNat_tmod, ← Int.ofNat_tdiv, simprocAttr, BEq.rfl, LN_succ]
        refine ⟨⟨(), by unfold seenBad; rw [if_neg hk1, if_neg hk2, if_neg hk4]⟩, Cov.go [] [] ?_⟩
        simp [cvT, step, res, boxP2, litSn, ColsEq.refl, -List.getD_eq_getElem?_getD]
      refine SR.run (t := .mk) ?_
      simp -dsimp only [aqT, aqU, aqN, aqS, ↓seqK, ↓blkK, ↓loopK, step, stepBin, Nat.add_assoc nid, ↓reduceIte, Option.toList, ← Int.ofNat_tmod, ← Int.ofNat_tdiv, simprocAttr, BEq.rfl, LN_succ]
      refine ⟨by unfold inI64; omega, k + 1, ⟨⟨by omega, fun j hj => ?_⟩, by omega⟩, Cov.go [] [] ?_⟩
      · rcases (by omega : j < k ∨ j = k) with hj | hj
        · exact hall j hj
        · rw [hj]; exact h6
      simp [cvT, step, res, boxP2, litSn, ColsEq.refl, -List.getD_eq_getElem?_getD]
    · refine ⟨⟨(), fun j hj => hall j (by omega)⟩, Cov.go [] [] ?_⟩
      simp [cvT, step, res, boxP2, -List.getD_eq_getElem?_getD]
  · rw [seenV_good h1 h2 h5]
    refine SR.run (t := .mk) ?_
    simp -dsimp only [aqT, aqU, aqN, aqS, ↓seqK, ↓blkK, ↓loopK, step, stepBin, Nat.add_assoc nid, ↓reduceIte, Option.toList, ← Int.ofNat_tmod, ← Int.ofNat_tdiv, simprocAttr, BEq.rfl, LN_succ]
    refine RetOK.pure (.inl rfl) rfl ?_
    simp [cvT, step, res]
end Go.Proofs.YtpifoghhaohhaaaGreatDoor
namespace Go.Proofs.YtpifoghhaohhaaaGreatDoor
open Go.RowKit Go.Shelf Go.Lib
theorem firstBad_all0 {f : Nat → Int} {n : Nat} (h : firstBad f (List.range n) = 0) : ∀ j, j < n → f j = 0 := fun j hj => firstBad_all h j (List.mem_range.2 hj)
theorem dictV_rows {G : List (List UInt8)} {R : RowL} (h : dictV G R = 0) : ∀ j, j < R.length → (rowR R j).length = G.length := fun j hj => by
  unfold dictV at h
  split at h
  · omega
  split at h
  · omega
  split at h
  · omega
  have := firstBad_all0 h j hj
  unfold rowBad at this
  split at this
  · omega
  split at this
  · omega
  omega
def candL (R : RowL) (S : SeenL) : List (List UInt8) := (R.filter fun x => consB x.2 S).map (·.1)
theorem candL_snoc (R : RowL) (S : SeenL) {k : Nat} (hk : k < R.length) : candL (R.take (k + 1)) S = if consB (rowR R k) S = true then candL (R.take k) S ++ [rowF R k] else candL (R.take k) S := by
  have e : R.take (k + 1) = R.take k ++ [(rowF R k, rowR R k)] := by
    unfold rowF rowR
    rw [List.getD_eq_getElem?_getD, List.getElem?_eq_getElem hk]
    exact List.take_succ_eq_append_getElem hk
  unfold candL
  rw [e, List.filter_append, List.map_append]
  cases h : consB (rowR R k) S <;> simp [h]
theorem candL_len (R : RowL) (S : SeenL) : (candL R S).length ≤ R.length := by
  unfold candL
  rw [List.length_map]
  exact List.length_filter_le _ _
theorem candidates_c (g0 r0 : Bool) (b : Nat → Bool) (G : List (List UInt8)) (R : RowL) (nl : Bool) (S : SeenL) (nid : Nat) (hB : DictW G R) (hS : SnW S) (hD : dictV G R = 0) (hV : seenV G R S = 0) (hI : SnIn G.length S) :
    ACall Tryz.prog 36 [dictP g0 r0 b G R, litSn nl S] [] nid (.tup [.sl nid 0 (candL R S).length, .bool (consB G S), .int .i64 0]) [(nid, arrS (candL R S))] := by
  have hgl := hB.gl
  have hrl := hB.rl
  have hsl := hS.l
  have hd := fun m => seenD_c g0 r0 b G R nl S m hB hS
  rw [hV] at hd
  have hlen := dictV_rows hD
  have hG := fun m => cons_c [] g0 G nl S m hsl hgl hI
  refine acall_sr c36 (by simp [a36]) ?_
  unfold a36
  refine SR.seq ?_
  unfold dictP litSn at *
  simp -dsimp only [aqT, aqU, aqN, aqS, ↓seqK, ↓blkK, ↓loopK, step, stepBin, Nat.add_assoc nid, ↓reduceIte, Option.toList, ← Int.ofNat_tmod, ← Int.ofNat_tdiv, simprocAttr, BEq.rfl, LN_succ]
  refine SR.seqTo ⟨[(2, .ptr nid 0), (1, litSn nl S)], [(nid, boxP2 g0 r0 b G R)], nid + 100, nid⟩ ?_ ?_
  · simp -dsimp only [aqT, aqU, aqN, aqS, ↓seqK, ↓blkK, ↓loopK, step, stepBin, Nat.add_assoc nid, ↓reduceIte, Option.toList, ← Int.ofNat_tmod, ← Int.ofNat_tdiv, simprocAttr, BEq.rfl, LN_succ]
    refine CallO.pure (hd _) ?_
    simp -dsimp only [aqT, aqU, aqN, aqS, ↓seqK, ↓blkK, ↓loopK, step, stepBin, Nat.add_assoc nid, ↓reduceIte, Option.toList, ← Int.ofNat_tmod, ← Int.ofNat_tdiv, simprocAttr, BEq.rfl, LN_succ]
    refine Cov.go [] [] ?_
    simp [cvT, step, res, boxP2, litSn, ColsEq.refl, -List.getD_eq_getElem?_getD]
  refine SR.seq ?_
  simp -dsimp only [aqT, aqU, aqN, aqS, ↓seqK, ↓blkK, ↓loopK, step, stepBin, Nat.add_assoc nid, ↓reduceIte, Option.toList, ← Int.ofNat_tmod, ← Int.ofNat_tdiv, simprocAttr, BEq.rfl, LN_succ]
  refine SR.seqTo ⟨[(8, .sl (nid + 180) 0 (candL R S).length), (2, .ptr nid 0), (1, litSn nl S)], [(nid + 180, arrS (candL R S)), (nid, boxP2 g0 r0 b G R)], nid + 2000, nid⟩ ?_ ?_
  · unfold boxP2 litSn
    simp -dsimp only [aqT, aqU, aqN, aqS, ↓seqK, ↓blkK, ↓loopK, step, stepBin, Nat.add_assoc nid, ↓reduceIte, Option.toList, ← Int.ofNat_tmod, ← Int.ofNat_tdiv, simprocAttr, BEq.rfl, LN_succ]
    refine LP.mkP (fun k : Nat => k ≤ R.length) (fun k : Nat => ⟨[(20, .int .i64 k), (19, .int .i64 R.length), (18, .lit r0 R.length [.s fun k => rowF R k, .l b (fun k => (rowR R k).length) (fun k => [.s fun j => (rowR R k).getD j []])]), (8, .sl (nid + 180) 0 (candL (R.take k) S).length), (2, .ptr nid 0), (1, litSn nl S)], [(nid + 180, arrS (candL (R.take k) S)), (nid, boxP2 g0 r0 b G R)], nid + 200, nid⟩) (fun k => R.length + 1 - k) 0 (by omega) (Cov.go [] [(nid + 180, 1)] ?_) (fun k hk => ?_)
    · simp [cvT, step, res, boxP2, litSn, arrS, candL, ColsEq.refl, -List.getD_eq_getElem?_getD]
    unfold boxP2 litSn arrS
    simp -dsimp only [aqT, aqU, aqN, aqS, ↓seqK, ↓blkK, ↓loopK, step, stepBin, Nat.add_assoc nid, ↓reduceIte, Option.toList, ← Int.ofNat_tmod, ← Int.ofNat_tdiv, simprocAttr, BEq.rfl, LN_succ]
    refine S2.dec (fun h4 => ?_) (fun h4 => ?_) <;> simp -dsimp only [aqT, aqU, aqN, aqS, ↓seqK, ↓blkK, ↓loopK, step, stepBin, Nat.add_assoc nid, ↓reduceIte, Option.toList, ← Int.ofNat_tmod, ← Int.ofNat_tdiv, simprocAttr, BEq.rfl, LN_succ]
    · have hkl : k < R.length := by omega
      obtain ⟨hf1, hr1, hs1⟩ := hB.rs k
      have hc := fun m => cons_c (rowF R k) (b k) (rowR R k) nl S m hsl hr1 (by rw [hlen k hkl]; exact hI)
      unfold litS litSn at hc
      refine ⟨by omega, CallO.pure (hc _) ?_⟩
      simp -dsimp only [aqT, aqU, aqN, aqS, ↓seqK, ↓blkK, ↓loopK, step, stepBin, Nat.add_assoc nid, ↓reduceIte, Option.toList, ← Int.ofNat_tmod, ← Int.ofNat_tdiv, simprocAttr, BEq.rfl, LN_succ]
      have hsn := candL_snoc R S hkl
      have hcl : (candL (R.take k) S).length ≤ k := by have := candL_len (R.take k) S; rw [List.length_take] at this; omega
      cases h5 : consB (rowR R k) S <;> rw [h5] at hsn <;> simp -dsimp only [aqT, aqU, aqN, aqS, ↓seqK, ↓blkK, ↓loopK, step, stepBin, Nat.add_assoc nid, ↓reduceIte, Option.toList, ← Int.ofNat_tmod, ← Int.ofNat_tdiv, simprocAttr, BEq.rfl, LN_succ]
      · rw [if_neg (by simp)] at hsn
        refine ⟨by unfold inI64; omega, k + 1, ⟨by omega, by omega⟩, Cov.go [] [] ?_⟩
        rw [hsn]
        simp [cvT, step, res, boxP2, litSn, arrS, ColsEq.refl, -List.getD_eq_getElem?_getD]
      · rw [if_pos rfl] at hsn
        rw [getD_app1 _ (rowF R k) rfl]
        have hl : (candL (R.take (k + 1)) S).length = (candL (R.take k) S).length + 1 := by rw [hsn]; simp
        refine ⟨⟨by omega, by omega⟩, by unfold inI64; omega, k + 1, ⟨by omega, by omega⟩, Cov.go [(nid + 180, nid + 248)] [] ?_⟩
        simp only [hsn]
        simp [cvT, step, res, boxP2, litSn, arrS, ColsEq.refl, -List.getD_eq_getElem?_getD, -List.length_append]
        try simp
    · have hkn : k = R.length := by omega
      subst hkn
      rw [List.take_length]
      refine Cov.go [] [] ?_
      simp [cvT, step, res, boxP2, litSn, arrS, ColsEq.refl, -List.getD_eq_getElem?_getD]
  · unfold litS at hG
    unfold boxP2 litSn arrS
    refine SR.run (t := .mk) ?_
    simp -dsimp only [aqT, aqU, aqN, aqS, ↓seqK, ↓blkK, ↓loopK, step, stepBin, Nat.add_assoc nid, ↓reduceIte, Option.toList, ← Int.ofNat_tmod, ← Int.ofNat_tdiv, simprocAttr, BEq.rfl, LN_succ]
    refine CallO.pure (hG _) ?_
    simp -dsimp only [aqT, aqU, aqN, aqS, ↓seqK, ↓blkK, ↓loopK, step, stepBin, Nat.add_assoc nid, ↓reduceIte, Option.toList, ← Int.ofNat_tmod, ← Int.ofNat_tdiv, simprocAttr, BEq.rfl, LN_succ]
    refine RetOK.go [(nid, nid + 180)] [] (.inl rfl) ?_
    simp [cvT, step, res, ColsEq.refl, -List.getD_eq_getElem?_getD]
def diffN (L : List (List UInt8)) (S : SeenL) : Nat := ((List.range S.length).filter fun k => offB L (sT S k) (sR S k)).length
def diffT (L : List (List UInt8)) (S : SeenL) (n : Nat) : Nat := ((List.range n).filter fun k => offB L (sT S k) (sR S k)).length
theorem diffT_succ (L : List (List UInt8)) (S : SeenL) (n : Nat) : diffT L S (n + 1) = if offB L (sT S n) (sR S n) = true then diffT L S n + 1 else diffT L S n := by
  unfold diffT
  rw [List.range_succ, List.filter_append]
  cases h : offB L (sT S n) (sR S n) <;> simp [h]
theorem diffT_le (L : List (List UInt8)) (S : SeenL) (n : Nat) : diffT L S n ≤ n := by
  unfold diffT
  have := List.length_filter_le (fun k => offB L (sT S k) (sR S k)) (List.range n)
  simpa using this
def nearStep (S : SeenL) (x : Int × List (List UInt8)) (r : List UInt8 × List (List UInt8)) : Int × List (List UInt8) :=
  let n : Int := (diffN r.2 S : Nat)
  let y := if x.2.length = 0 ∨ n < x.1 then (n, []) else x
  if n = y.1 then (y.1, y.2 ++ [r.1]) else y
def nearV (R : RowL) (S : SeenL) : Int × List (List UInt8) := R.foldl (nearStep S) (0, [])
theorem nearV_snoc (R : RowL) (S : SeenL) {k : Nat} (hk : k < R.length) : nearV (R.take (k + 1)) S = nearStep S (nearV (R.take k) S) (rowF R k, rowR R k) := by
  have e : R.take (k + 1) = R.take k ++ [(rowF R k, rowR R k)] := by
    unfold rowF rowR
    rw [List.getD_eq_getElem?_getD, List.getElem?_eq_getElem hk]
    exact List.take_succ_eq_append_getElem hk
  unfold nearV
  rw [e, List.foldl_append]
  rfl
theorem nearStep_len (S : SeenL) (x : Int × List (List UInt8)) (r : List UInt8 × List (List UInt8)) : (nearStep S x r).2.length ≤ x.2.length + 1 := by
  unfold nearStep
  simp only
  split <;> split <;> simp
theorem nearStep_bd {S : SeenL} {x : Int × List (List UInt8)} {r : List UInt8 × List (List UInt8)} {m : Int} (h : 0 ≤ x.1 ∧ x.1 ≤ m) (hm : (S.length : Int) ≤ m) : 0 ≤ (nearStep S x r).1 ∧ (nearStep S x r).1 ≤ m := by
  have h1 : diffN r.2 S ≤ S.length := diffT_le r.2 S S.length
  unfold nearStep
  simp only
  split <;> split <;> (try simp only) <;> omega
def rowsP (r0 : Bool) (b : Nat → Bool) (R : RowL) : PV := .lit r0 R.length [.s fun k => rowF R k, .l b (fun k => (rowR R k).length) (fun k => [.s fun j => (rowR R k).getD j []])]
theorem nearV_len (R : RowL) (S : SeenL) : ∀ k, k ≤ R.length → (nearV (R.take k) S).2.length ≤ k
  | 0, _ => by simp [nearV]
  | k + 1, h => by
    rw [nearV_snoc R S (by omega)]
    have := nearStep_len S (nearV (R.take k) S) (rowF R k, rowR R k)
    have := nearV_len R S k (by omega)
    omega
theorem nearV_bd (R : RowL) (S : SeenL) : ∀ k, k ≤ R.length → 0 ≤ (nearV (R.take k) S).1 ∧ (nearV (R.take k) S).1 ≤ S.length
  | 0, _ => by simp [nearV]
  | k + 1, h => by
    rw [nearV_snoc R S (by omega)]
    exact nearStep_bd (nearV_bd R S k (by omega)) (by omega)
set_option maxHeartbeats 1000000 in
theorem nearest_c (g0 r0 : Bool) (b : Nat → Bool) (G : List (List UInt8)) (R : RowL) (nl : Bool) (S : SeenL) (nid : Nat) (hB : DictW G R) (hS : SnW S) (hD : dictV G R = 0) (hV : seenV G R S = 0) (hI : SnIn G.length S) :
    ACall Tryz.prog 45 [dictP g0 r0 b G R, litSn nl S] [] nid (.tup [.sl nid 0 (nearV R S).2.length, .int .i64 (nearV R S).1, .int .i64 0]) [(nid, arrS (nearV R S).2)] := by
  have hgl := hB.gl
  have hrl := hB.rl
  have hsl := hS.l
  have hd := fun m => seenD_c g0 r0 b G R nl S m hB hS
  rw [hV] at hd
  have hlen := dictV_rows hD
  refine acall_sr c45 (by simp [a45]) ?_
  unfold a45
  refine SR.seq ?_
  unfold dictP litSn at *
  simp -dsimp only [aqT, aqU, aqN, aqS, ↓seqK, ↓blkK, ↓loopK, step, stepBin, Nat.add_assoc nid, ↓reduceIte, Option.toList, ← Int.ofNat_tmod, ← Int.ofNat_tdiv, simprocAttr, BEq.rfl, LN_succ]
  refine SR.seqTo ⟨[(2, .ptr nid 0), (1, litSn nl S)], [(nid, boxP2 g0 r0 b G R)], nid + 100, nid⟩ ?_ ?_
  · simp -dsimp only [aqT, aqU, aqN, aqS, ↓seqK, ↓blkK, ↓loopK, step, stepBin, Nat.add_assoc nid, ↓reduceIte, Option.toList, ← Int.ofNat_tmod, ← Int.ofNat_tdiv, simprocAttr, BEq.rfl, LN_succ]
    refine CallO.pure (hd _) ?_
    simp -dsimp only [aqT, aqU, aqN, aqS, ↓seqK, ↓blkK, ↓loopK, step, stepBin, Nat.add_assoc nid, ↓reduceIte, Option.toList, ← Int.ofNat_tmod, ← Int.ofNat_tdiv, simprocAttr, BEq.rfl, LN_succ]
    refine Cov.go [] [] ?_
    simp [cvT, step, res, boxP2, litSn, ColsEq.refl, -List.getD_eq_getElem?_getD]
  refine SR.seq ?_
  simp -dsimp only [aqT, aqU, aqN, aqS, ↓seqK, ↓blkK, ↓loopK, step, stepBin, Nat.add_assoc nid, ↓reduceIte, Option.toList, ← Int.ofNat_tmod, ← Int.ofNat_tdiv, simprocAttr, BEq.rfl, LN_succ]
  refine SR.seq ?_
  simp -dsimp only [aqT, aqU, aqN, aqS, ↓seqK, ↓blkK, ↓loopK, step, stepBin, Nat.add_assoc nid, ↓reduceIte, Option.toList, ← Int.ofNat_tmod, ← Int.ofNat_tdiv, simprocAttr, BEq.rfl, LN_succ]
  refine SR.seqW (ι := Unit) (fun _ => ⟨[(9, .sl (nid + 180) 0 (nearV R S).2.length), (8, .int .i64 (nearV R S).1), (2, .ptr nid 0), (1, litSn nl S)], [(nid + 180, arrS (nearV R S).2), (nid, boxP2 g0 r0 b G R)], nid + 2000, nid⟩) ?_ (fun _ => ?_)
  · unfold boxP2 litSn
    refine SR.seqTo ⟨[(24, .int .i64 0), (23, .int .i64 R.length), (22, rowsP r0 b R), (9, .lit true 0 []), (8, .int .i64 0), (2, .ptr nid 0), (1, litSn nl S)], [(nid, boxP2 g0 r0 b G R)], nid + 150, nid⟩ ?_ ?_
    · simp -dsimp only [aqT, aqU, aqN, aqS, ↓seqK, ↓blkK, ↓loopK, step, stepBin, Nat.add_assoc nid, ↓reduceIte, Option.toList, ← Int.ofNat_tmod, ← Int.ofNat_tdiv, simprocAttr, BEq.rfl, LN_succ]
      refine Cov.go [] [] ?_
      simp [cvT, step, res, boxP2, litSn, rowsP, ColsEq.refl, -List.getD_eq_getElem?_getD]
    refine SR.block ?_
    refine SR.loopP (fun k : Nat => k ≤ R.length) (fun k : Nat => ⟨[(24, .int .i64 k), (23, .int .i64 R.length), (22, rowsP r0 b R), (9, .sl (nid + 180) 0 (nearV (R.take k) S).2.length), (8, .int .i64 (nearV (R.take k) S).1), (2, .ptr nid 0), (1, litSn nl S)], [(nid + 180, arrS (nearV (R.take k) S).2), (nid, boxP2 g0 r0 b G R)], nid + 200, nid⟩) (fun k => R.length + 1 - k) 0 (by omega) (Cov.go [] [(nid + 180, 1)] ?_) (fun k hk => ?_)
    · simp [cvT, step, res, boxP2, litSn, arrS, nearV, rowsP, ColsEq.refl, -List.getD_eq_getElem?_getD]
    refine SR.seq ?_
    simp -dsimp only [aqT, aqU, aqN, aqS, ↓seqK, ↓blkK, ↓loopK, step, stepBin, Nat.add_assoc nid, ↓reduceIte, Option.toList, ← Int.ofNat_tmod, ← Int.ofNat_tdiv, simprocAttr, BEq.rfl, LN_succ]
    refine SR.seq ?_
    simp -dsimp only [aqT, aqU, aqN, aqS, ↓seqK, ↓blkK, ↓loopK, step, stepBin, Nat.add_assoc nid, ↓reduceIte, Option.toList, ← Int.ofNat_tmod, ← Int.ofNat_tdiv, simprocAttr, BEq.rfl, LN_succ]
    refine S2.dec (fun h4 => ?_) (fun h4 => ?_) <;> simp -dsimp only [aqT, aqU, aqN, aqS, ↓seqK, ↓blkK, ↓loopK, step, stepBin, Nat.add_assoc nid, ↓reduceIte, Option.toList, ← Int.ofNat_tmod, ← Int.ofNat_tdiv, simprocAttr, BEq.rfl, LN_succ]
    · have hkl : k < R.length := by omega
      obtain ⟨hf1, hr1, hs1⟩ := hB.rs k
      have hlk := hlen k hkl
      have hsn := nearV_snoc R S hkl
      have hnl := nearV_len R S k hk
      have hnb := nearV_bd R S k hk
      rw [show ∀ n : Nat, nid + n = nid + n from fun _ => rfl]
      generalize hx : nearV (R.take k) S = x at *
      obtain ⟨best, out⟩ := x
      simp only at hnl hnb
      refine SR.seqW (ι := Unit) (fun _ => ⟨[(24, .int .i64 k), (23, .int .i64 R.length), (22, rowsP r0 b R), (9, .sl (nid + 180) 0 (nearV (R.take (k + 1)) S).2.length), (8, .int .i64 (nearV (R.take (k + 1)) S).1), (2, .ptr nid 0), (1, litSn nl S)], [(nid + 180, arrS (nearV (R.take (k + 1)) S).2), (nid, boxP2 g0 r0 b G R)], nid + 900, nid⟩) ?_ (fun _ => ?_)
      · refine SR.block ?_
        unfold rowsP
        refine SR.seqTo ⟨[(11, .ptr (nid + 300) 0), (24, .int .i64 k), (23, .int .i64 R.length), (22, rowsP r0 b R), (9, .sl (nid + 180) 0 out.length), (8, .int .i64 best), (2, .ptr nid 0), (1, litSn nl S)], [(nid + 300, boxRw (rowF R k) (b k) (rowR R k)), (nid + 180, arrS out), (nid, boxP2 g0 r0 b G R)], nid + 400, nid⟩ ?_ ?_
        · simp -dsimp only [aqT, aqU, aqN, aqS, ↓seqK, ↓blkK, ↓loopK, step, stepBin, Nat.add_assoc nid, ↓reduceIte, Option.toList, ← Int.ofNat_tmod, ← Int.ofNat_tdiv, simprocAttr, BEq.rfl, LN_succ]
          refine ⟨by omega, Cov.go [(nid + 300, nid + 212)] [] ?_⟩
          simp [cvT, step, res, boxP2, litSn, arrS, rowsP, boxRw, ColsEq.refl, -List.getD_eq_getElem?_getD]
        refine SR.seq ?_
        simp -dsimp only [aqT, aqU, aqN, aqS, ↓seqK, ↓blkK, ↓loopK, step, stepBin, Nat.add_assoc nid, ↓reduceIte, Option.toList, ← Int.ofNat_tmod, ← Int.ofNat_tdiv, simprocAttr, BEq.rfl, LN_succ]
        refine SR.seqTo ⟨[(12, .int .i64 (diffN (rowR R k) S : Nat)), (11, .ptr (nid + 300) 0), (24, .int .i64 k), (23, .int .i64 R.length), (22, rowsP r0 b R), (9, .sl (nid + 180) 0 out.length), (8, .int .i64 best), (2, .ptr nid 0), (1, litSn nl S)], [(nid + 300, boxRw (rowF R k) (b k) (rowR R k)), (nid + 180, arrS out), (nid, boxP2 g0 r0 b G R)], nid + 500, nid⟩ ?_ ?_
        · unfold litSn boxRw
          simp -dsimp only [aqT, aqU, aqN, aqS, ↓seqK, ↓blkK, ↓loopK, step, stepBin, Nat.add_assoc nid, ↓reduceIte, Option.toList, ← Int.ofNat_tmod, ← Int.ofNat_tdiv, simprocAttr, BEq.rfl, LN_succ]
          refine LP.mkP (fun j : Nat => j ≤ S.length) (fun j : Nat => ⟨[(30, .int .i64 j), (29, .int .i64 S.length), (28, litSn nl S), (12, .int .i64 (diffT (rowR R k) S j : Nat)), (11, .ptr (nid + 300) 0), (24, .int .i64 k), (23, .int .i64 R.length), (22, rowsP r0 b R), (9, .sl (nid + 180) 0 out.length), (8, .int .i64 best), (2, .ptr nid 0), (1, litSn nl S)], [(nid + 300, boxRw (rowF R k) (b k) (rowR R k)), (nid + 180, arrS out), (nid, boxP2 g0 r0 b G R)], nid + 450, nid⟩) (fun j => S.length + 1 - j) 0 (by omega) (Cov.go [] [] ?_) (fun j hj => ?_)
          · simp [cvT, step, res, boxP2, litSn, arrS, rowsP, boxRw, diffT, ColsEq.refl, -List.getD_eq_getElem?_getD]
          unfold litSn boxRw
          simp -dsimp only [aqT, aqU, aqN, aqS, ↓seqK, ↓blkK, ↓loopK, step, stepBin, Nat.add_assoc nid, ↓reduceIte, Option.toList, ← Int.ofNat_tmod, ← Int.ofNat_tdiv, simprocAttr, BEq.rfl, LN_succ]
          refine S2.dec (fun h5 => ?_) (fun h5 => ?_) <;> simp -dsimp only [aqT, aqU, aqN, aqS, ↓seqK, ↓blkK, ↓loopK, step, stepBin, Nat.add_assoc nid, ↓reduceIte, Option.toList, ← Int.ofNat_tmod, ← Int.ofNat_tdiv, simprocAttr, BEq.rfl, LN_succ]
          · have hjl : j < S.length := by omega
            have hin := hI j hjl
            have hdl := diffT_le (rowR R k) S j
            have hds := diffT_succ (rowR R k) S j
            have eo : offB (rowR R k) (sT S j) (sR S j) = !((rowR R k).getD (sT S j).toNat [] == sR S j) := rfl
            rw [← eo]
            refine ⟨by omega, ⟨by omega, by omega⟩, ?_⟩
            cases h6 : offB (rowR R k) (sT S j) (sR S j) <;> rw [h6] at hds <;> simp -dsimp only [aqT, aqU, aqN, aqS, ↓seqK, ↓blkK, ↓loopK, step, stepBin, Nat.add_assoc nid, ↓reduceIte, Option.toList, ← Int.ofNat_tmod, ← Int.ofNat_tdiv, simprocAttr, BEq.rfl, LN_succ]
            · rw [if_neg (by simp)] at hds
              refine ⟨by unfold inI64; omega, j + 1, ⟨by omega, by omega⟩, Cov.go [] [] ?_⟩
              rw [hds]
              simp [cvT, step, res, boxP2, litSn, arrS, rowsP, boxRw, ColsEq.refl, -List.getD_eq_getElem?_getD]
            · rw [if_pos rfl] at hds
              refine ⟨by unfold inI64; omega, by unfold inI64; omega, j + 1, ⟨by omega, by omega⟩, Cov.go [] [] ?_⟩
              rw [hds]
              simp [cvT, step, res, boxP2, litSn, arrS, rowsP, boxRw, ColsEq.refl, -List.getD_eq_getElem?_getD]
          · have hjn : j = S.length := by omega
            subst hjn
            refine Cov.go [] [] ?_
            simp [cvT, step, res, boxP2, litSn, arrS, rowsP, boxRw, diffT, diffN, ColsEq.refl, -List.getD_eq_getElem?_getD]
        have hdl : diffN (rowR R k) S ≤ S.length := diffT_le (rowR R k) S S.length
        obtain ⟨n, hn⟩ : ∃ n, diffN (rowR R k) S = n := ⟨_, rfl⟩
        have hstep : nearV (R.take (k + 1)) S = (if (n : Int) = (if out.length = 0 ∨ (n : Int) < best then ((n : Int), []) else (best, out)).1 then ((if out.length = 0 ∨ (n : Int) < best then ((n : Int), []) else (best, out)).1, (if out.length = 0 ∨ (n : Int) < best then ((n : Int), ([] : List (List UInt8))) else (best, out)).2 ++ [rowF R k]) else (if out.length = 0 ∨ (n : Int) < best then ((n : Int), []) else (best, out))) := by
          rw [hsn, ← hn]
          rfl
        rw [hn]
        rw [hn] at hdl
        refine SR.seqW (ι := {y : Int × List (List UInt8) // y = (if out.length = 0 ∨ (n : Int) < best then ((n : Int), []) else (best, out)) ∧ y.2.length ≤ k}) (fun y => ⟨[(12, .int .i64 (n : Nat)), (11, .ptr (nid + 300) 0), (24, .int .i64 k), (23, .int .i64 R.length), (22, rowsP r0 b R), (9, .sl (nid + 180) 0 y.1.2.length), (8, .int .i64 y.1.1), (2, .ptr nid 0), (1, litSn nl S)], [(nid + 300, boxRw (rowF R k) (b k) (rowR R k)), (nid + 180, arrS y.1.2), (nid, boxP2 g0 r0 b G R)], nid + 600, nid⟩) ?_ (fun ⟨⟨yb, yo⟩, hy, hyl⟩ => ?_)
        · refine SR.run (t := .mk) ?_
          unfold litSn boxRw
          simp -dsimp only [aqT, aqU, aqN, aqS, ↓seqK, ↓blkK, ↓loopK, step, stepBin, Nat.add_assoc nid, ↓reduceIte, Option.toList, ← Int.ofNat_tmod, ← Int.ofNat_tdiv, simprocAttr, BEq.rfl, LN_succ]
          refine S2.intro (fun h7 => ?_) (fun h7 => ?_) <;> simp -dsimp only [aqT, aqU, aqN, aqS, ↓seqK, ↓blkK, ↓loopK, step, stepBin, Nat.add_assoc nid, ↓reduceIte, Option.toList, ← Int.ofNat_tmod, ← Int.ofNat_tdiv, simprocAttr, BEq.rfl, LN_succ]
          · have h7' : out.length = 0 := by simp at h7; rw [h7]; rfl
            refine ⟨⟨(n, []), by rw [if_pos (.inl h7')], by simp⟩, Cov.go [] [(nid + 180, 1)] ?_⟩
            simp [cvT, step, res, boxP2, litSn, arrS, rowsP, boxRw, ColsEq.refl, -List.getD_eq_getElem?_getD]
          have h7' : ¬ out.length = 0 := by simp at h7; exact fun e => h7 (List.eq_nil_of_length_eq_zero e)
          refine S2.dec (fun h8 => ?_) (fun h8 => ?_) <;> simp -dsimp only [aqT, aqU, aqN, aqS, ↓seqK, ↓blkK, ↓loopK, step, stepBin, Nat.add_assoc nid, ↓reduceIte, Option.toList, ← Int.ofNat_tmod, ← Int.ofNat_tdiv, simprocAttr, BEq.rfl, LN_succ]
          · refine ⟨⟨(n, []), by rw [if_pos (.inr h8)], by simp⟩, Cov.go [] [(nid + 180, 1)] ?_⟩
            simp [cvT, step, res, boxP2, litSn, arrS, rowsP, boxRw, ColsEq.refl, -List.getD_eq_getElem?_getD]
          · refine ⟨⟨(best, out), by rw [if_neg (fun e => by rcases e with e | e; exact h7' e; exact h8 e)], by simpa using hnl⟩, Cov.go [] [] ?_⟩
            simp [cvT, step, res, boxP2, litSn, arrS, rowsP, boxRw, ColsEq.refl, -List.getD_eq_getElem?_getD]
        rw [← hy] at hstep
        simp only at hstep hyl ⊢
        refine SR.run (t := .mk) ?_
        unfold litSn boxRw arrS
        simp -dsimp only [aqT, aqU, aqN, aqS, ↓seqK, ↓blkK, ↓loopK, step, stepBin, Nat.add_assoc nid, ↓reduceIte, Option.toList, ← Int.ofNat_tmod, ← Int.ofNat_tdiv, simprocAttr, BEq.rfl, LN_succ]
        refine S2.intro (fun h9 => ?_) (fun h9 => ?_) <;> simp -dsimp only [aqT, aqU, aqN, aqS, ↓seqK, ↓blkK, ↓loopK, step, stepBin, Nat.add_assoc nid, ↓reduceIte, Option.toList, ← Int.ofNat_tmod, ← Int.ofNat_tdiv, simprocAttr, BEq.rfl, LN_succ]
        · have h9' : (n : Int) = yb := by simpa using h9
          rw [if_pos h9'] at hstep
          rw [hstep]
          rw [getD_app1 _ (rowF R k) rfl]
          refine ⟨⟨by omega, by omega⟩, (), Cov.go [(nid + 180, nid + 628)] [] ?_⟩
          simp [cvT, step, res, boxP2, litSn, arrS, rowsP, boxRw, ColsEq.refl, -List.getD_eq_getElem?_getD, -List.length_append]
          try simp
        · have h9' : ¬ (n : Int) = yb := by simpa using h9
          rw [if_neg h9'] at hstep
          rw [hstep]
          refine ⟨(), Cov.go [] [] ?_⟩
          simp [cvT, step, res, boxP2, litSn, arrS, rowsP, boxRw, ColsEq.refl, -List.getD_eq_getElem?_getD]
      · refine SR.run (t := .mk) ?_
        simp -dsimp only [aqT, aqU, aqN, aqS, ↓seqK, ↓blkK, ↓loopK, step, stepBin, Nat.add_assoc nid, ↓reduceIte, Option.toList, ← Int.ofNat_tmod, ← Int.ofNat_tdiv, simprocAttr, BEq.rfl, LN_succ]
        refine ⟨by unfold inI64; omega, k + 1, ⟨by omega, by omega⟩, Cov.go [] [] ?_⟩
        simp [cvT, step, res, boxP2, litSn, arrS, rowsP, boxRw, ColsEq.refl, -List.getD_eq_getElem?_getD]
    · have hkn : k = R.length := by omega
      subst hkn
      rw [List.take_length]
      refine ⟨(), Cov.go [] [] ?_⟩
      simp [cvT, step, res, boxP2, litSn, arrS, rowsP, ColsEq.refl, -List.getD_eq_getElem?_getD]
  · unfold arrS
    refine SR.run (t := .mk) ?_
    simp -dsimp only [aqT, aqU, aqN, aqS, ↓seqK, ↓blkK, ↓loopK, step, stepBin, Nat.add_assoc nid, ↓reduceIte, Option.toList, ← Int.ofNat_tmod, ← Int.ofNat_tdiv, simprocAttr, BEq.rfl, LN_succ]
    refine RetOK.go [(nid, nid + 180)] [] (.inl rfl) ?_
    simp [cvT, step, res, boxP2, litSn, ColsEq.refl, -List.getD_eq_getElem?_getD]
end Go.Proofs.YtpifoghhaohhaaaGreatDoor
namespace Go.Proofs.YtpifoghhaohhaaaGreatDoor
theorem sT_old {S : SeenL} {y : Int × List UInt8} {k : Nat} (h : k < S.length) : sT (S ++ [y]) k = sT S k := by unfold sT; rw [List.getD_eq_getElem?_getD, List.getElem?_append_left h, ← List.getD_eq_getElem?_getD]
theorem sR_old {S : SeenL} {y : Int × List UInt8} {k : Nat} (h : k < S.length) : sR (S ++ [y]) k = sR S k := by unfold sR; rw [List.getD_eq_getElem?_getD, List.getElem?_append_left h, ← List.getD_eq_getElem?_getD]
theorem sT_new {S : SeenL} {y : Int × List UInt8} {k : Nat} (h : k = S.length) : sT (S ++ [y]) k = y.1 := by unfold sT; subst h; simp
theorem sR_new {S : SeenL} {y : Int × List UInt8} {k : Nat} (h : k = S.length) : sR (S ++ [y]) k = y.2 := by unfold sR; subst h; simp
theorem consB_iff {L : List (List UInt8)} {S : SeenL} : consB L S = true ↔ ∀ k, k < S.length → L.getD (sT S k).toNat [] = sR S k := by
  unfold consB offB
  simp only [Bool.not_eq_true', List.any_eq_false, List.mem_range, Bool.not_eq_false, beq_iff_eq]
theorem sT_app (S : SeenL) (t : Int) (r : List UInt8) : (fun i => if i < S.length then sT S i else [t].getD (i - S.length) 0) = fun k => sT (S ++ [(t, r)]) k := by
  funext i
  by_cases h : i < S.length
  · rw [if_pos h, sT_old h]
  · rw [if_neg h]
    by_cases h' : i = S.length
    · rw [sT_new h', h']; simp
    · have h2 : (S ++ [(t, r)])[i]? = none := List.getElem?_eq_none (by simp; omega)
      have h1 : [t][i - S.length]? = none := List.getElem?_eq_none (by simp; omega)
      unfold sT
      rw [List.getD_eq_getElem?_getD, h1, List.getD_eq_getElem?_getD, h2]
      rfl
theorem sR_app (S : SeenL) (t : Int) (r : List UInt8) : (fun i => if i < S.length then sR S i else [r].getD (i - S.length) []) = fun k => sR (S ++ [(t, r)]) k := by
  funext i
  by_cases h : i < S.length
  · rw [if_pos h, sR_old h]
  · rw [if_neg h]
    by_cases h' : i = S.length
    · rw [sR_new h', h']; simp
    · have h2 : (S ++ [(t, r)])[i]? = none := List.getElem?_eq_none (by simp; omega)
      have h1 : [r][i - S.length]? = none := List.getElem?_eq_none (by simp; omega)
      unfold sR
      rw [List.getD_eq_getElem?_getD, h1, List.getD_eq_getElem?_getD, h2]
      rfl
structure SeenOk (G L : List (List UInt8)) (S : SeenL) (m : Nat) : Prop where
  i : ∀ k, k < S.length → 0 ≤ sT S k ∧ sT S k < m
  o : ∀ k, k + 1 < S.length → sT S k < sT S (k + 1)
  r : ∀ k, k < S.length → sR S k = L.getD (sT S k).toNat []
theorem SeenOk.skip {G L : List (List UInt8)} {S : SeenL} {m : Nat} (h : SeenOk G L S m) : SeenOk G L S (m + 1) := ⟨fun k hk => by have := h.i k hk; omega, h.o, h.r⟩
theorem SeenOk.more {G L : List (List UInt8)} {S : SeenL} {m : Nat} (h : SeenOk G L S m) : SeenOk G L (S ++ [((m : Int), L.getD m [])]) (m + 1) := by
  have hl : (S ++ [((m : Int), L.getD m [])]).length = S.length + 1 := by simp
  refine ⟨fun k hk => ?_, fun k hk => ?_, fun k hk => ?_⟩
  · rw [hl] at hk
    by_cases e : k < S.length
    · rw [sT_old e]; have := h.i k e; omega
    · rw [sT_new (by omega)]; simp only; omega
  · rw [hl] at hk
    by_cases e : k + 1 < S.length
    · rw [sT_old e, sT_old (by omega)]; exact h.o k e
    · rw [sT_old (by omega), sT_new (by omega)]; exact (h.i k (by omega)).2
  · rw [hl] at hk
    by_cases e : k < S.length
    · rw [sT_old e, sR_old e]; exact h.r k e
    · rw [sT_new (by omega), sR_new (by omega)]; simp
theorem SeenOk.len {G L : List (List UInt8)} {S : SeenL} {m : Nat} (h : SeenOk G L S m) : S.length ≤ m := by
  have : ∀ k, k < S.length → (k : Int) ≤ sT S k := fun k => by
    induction k with
    | zero => intro hk; exact (h.i 0 hk).1
    | succ k ih => intro hk; have := ih (by omega); have := h.o k hk; omega
  by_cases e : S.length = 0
  · omega
  · have h1 := this (S.length - 1) (by omega)
    have h2 := (h.i (S.length - 1) (by omega)).2
    omega
theorem SeenOk.w {G L : List (List UInt8)} {S : SeenL} {m : Nat} (h : SeenOk G L S m) (hm : m ≤ 1000000) (hL : ShortRows 1000000 L) (hl : S.length ≤ m) : SnW S := ⟨by omega, fun k => by
  by_cases hk : k < S.length
  · rw [h.r k hk]; exact hL.at _
  · unfold sR; rw [List.getD_eq_getElem?_getD, List.getElem?_eq_none (by omega)]; simp⟩
theorem SeenOk.cons {G L : List (List UInt8)} {S : SeenL} {m : Nat} (h : SeenOk G L S m) : consB L S = true := consB_iff.2 fun k hk => (h.r k hk).symm
theorem SeenOk.bad {G L : List (List UInt8)} {S : SeenL} {m : Nat} (h : SeenOk G L S m) (hm : m ≤ G.length) (hL : L.length = G.length) (hr : L.any oddS = false) : ∀ k, k < S.length → seenBad G.length S k = 0 := fun k hk => by
  have hi := h.i k hk
  unfold seenBad outB
  rw [if_neg (by simp only [decide_eq_true_eq]; omega)]
  have hno : ¬ oddS (sR S k) = true := by
    rw [h.r k hk]
    have hlt : (sT S k).toNat < L.length := by omega
    rw [List.getD_eq_getElem?_getD, List.getElem?_eq_getElem hlt]
    have := List.any_eq_false.1 hr _ (List.getElem_mem hlt)
    exact this
  rw [if_neg hno, if_neg]
  rintro ⟨h1, h2⟩
  have := h.o (k - 1) (by omega)
  rw [show k - 1 + 1 = k by omega] at this
  omega
end Go.Proofs.YtpifoghhaohhaaaGreatDoor
namespace Go.Proofs.YtpifoghhaohhaaaGreatDoor
open Go.RowKit Go.Shelf Go.Lib
structure SnB (m : Nat) (S : SeenL) : Prop where
  l : S.length ≤ m
  r : ∀ x ∈ S, (-1 ≤ x.1 ∧ x.1 ≤ 1000000) ∧ x.2.length ≤ 101
theorem SnB.w {m : Nat} {S : SeenL} (h : SnB m S) (hm : m ≤ 1000000) : SnW S := ⟨by have := h.l; omega, fun k => by
  unfold sR
  rw [List.getD_eq_getElem?_getD]
  cases e : S[k]? with
  | none => simp
  | some x => have := (h.r x (List.mem_of_getElem? e)).2; simp only [Option.getD_some]; omega⟩
theorem SnB.at {m : Nat} {S : SeenL} (h : SnB m S) {k : Nat} (hk : k < S.length) : (-1 ≤ sT S k ∧ sT S k ≤ 1000000) ∧ (sR S k).length ≤ 101 := by
  have := h.r _ (List.getElem_mem hk)
  unfold sT sR
  rw [List.getD_eq_getElem?_getD, List.getElem?_eq_getElem hk]
  exact this
theorem SnB.snoc {m : Nat} {S : SeenL} (h : SnB m S) {t : Int} {r : List UInt8} (ht : -1 ≤ t ∧ t ≤ 1000000) (hr : r.length ≤ 101) : SnB (m + 1) (S ++ [(t, r)]) := ⟨by have := h.l; simp; omega, fun x hx => by
  rcases List.mem_append.1 hx with hx | hx
  · exact h.r x hx
  · simp only [List.mem_singleton] at hx; subst hx; exact ⟨ht, hr⟩⟩
theorem SnB.more {m m' : Nat} {S : SeenL} (h : SnB m S) (hm : m ≤ m') : SnB m' S := ⟨by have := h.l; omega, h.r⟩
theorem SnB.put {m : Nat} {S : SeenL} (h : SnB m S) {t : Int} {r : List UInt8} (ht : -1 ≤ t ∧ t ≤ 1000000) (hr : r.length ≤ 101) (I : Nat) : SnB m (S.set I (t, r)) := ⟨by rw [List.length_set]; exact h.l, fun x hx => by
  rcases List.mem_or_eq_of_mem_set hx with hx | rfl
  · exact h.r x hx
  · exact ⟨ht, hr⟩⟩
theorem sT_set {S : SeenL} {I : Nat} (t : Int) (r : List UInt8) (hI : I < S.length) : (fun j => if j = I then t else sT S j) = fun k => sT (S.set I (t, r)) k := by
  funext j
  unfold sT
  rw [List.getD_eq_getElem?_getD, List.getD_eq_getElem?_getD, List.getElem?_set]
  by_cases h : j = I
  · subst h; simp [hI]
  · rw [if_neg h, if_neg (fun e => h e.symm)]
theorem sR_set {S : SeenL} {I : Nat} (t : Int) (r : List UInt8) (hI : I < S.length) : (fun j => if j = I then r else sR S j) = fun k => sR (S.set I (t, r)) k := by
  funext j
  unfold sR
  rw [List.getD_eq_getElem?_getD, List.getD_eq_getElem?_getD, List.getElem?_set]
  by_cases h : j = I
  · subst h; simp [hI]
  · rw [if_neg h, if_neg (fun e => h e.symm)]
set_option maxHeartbeats 4000000 in
theorem seenOf_I (s nid : Nat) (nl : Bool) (A : List Int) (p : Nat) (g0 r0 : Bool) (b : Nat → Bool) (G : List (List UInt8)) (R : RowL) (h : s < nid) (hp : p ≤ 1099400000000) (hA : A.length ≤ 17592186044416) (hG : G.length ≤ 100) (hGs : ShortRows 101 G) (hR : R.length ≤ 1000000) (hRs : ∀ x ∈ R, x.2.length ≤ 101 ∧ ShortRows 101 x.2) :
    ACallI Tryz.prog 46 [.ptr s 0, dictP g0 r0 b G R] [(s, strmC nl A p)] nid (fun x : SeenL × Nat => SnB G.length x.1 ∧ x.2 ≤ p + 300) (fun x => .sl nid 0 x.1.length) (fun x => [(nid, arrSn x.1), (s, strmC nl A x.2)]) := by
  obtain ⟨e1, e2, e3, e4, e5, e6, e7, e8, e9⟩ := id_all h
  refine acallI_sr c46 (by simp [a46]) ?_
  unfold a46 dictP
  refine SR.seq ?_
  simp -dsimp only [aqT, aqU, aqN, aqS, ↓seqK, ↓blkK, ↓loopK, step, stepBin, Nat.add_assoc nid, ↓reduceIte, Option.toList, ← Int.ofNat_tmod, ← Int.ofNat_tdiv, simprocAttr, BEq.rfl, LN_succ, e1, e2, e3, e4, e5, e6, e7, e8, e9]
  refine SR.seq ?_
  simp -dsimp only [aqT, aqU, aqN, aqS, ↓seqK, ↓blkK, ↓loopK, step, stepBin, Nat.add_assoc nid, ↓reduceIte, Option.toList, ← Int.ofNat_tmod, ← Int.ofNat_tdiv, simprocAttr, BEq.rfl, LN_succ, e1, e2, e3, e4, e5, e6, e7, e8, e9]
  refine SR.seq ?_
  simp -dsimp only [aqT, aqU, aqN, aqS, ↓seqK, ↓blkK, ↓loopK, step, stepBin, Nat.add_assoc nid, ↓reduceIte, Option.toList, ← Int.ofNat_tmod, ← Int.ofNat_tdiv, simprocAttr, BEq.rfl, LN_succ, e1, e2, e3, e4, e5, e6, e7, e8, e9]
  refine SR.seqW (ι := {x : Bool × List (List UInt8) × Nat // x.2.1.length ≤ 101 ∧ ShortRows 101 x.2.1 ∧ x.2.2 ≤ p + 2}) (fun x => ⟨[(6, litS x.1.1 x.1.2.1), (5, .lit true 0 []), (3, .ptr (nid + 4) 0), (0, .ptr s 0)], [(nid + 4, boxP2 g0 r0 b G R), (s, strmC nl A x.1.2.2)], nid + 200, nid⟩) ?_ (fun ⟨⟨nb, L, q⟩, hL, hLs, hq⟩ => ?_)
  · refine SR.run (t := .mk) ?_
    simp -dsimp only [aqT, aqU, aqN, aqS, ↓seqK, ↓blkK, ↓loopK, step, stepBin, Nat.add_assoc nid, ↓reduceIte, Option.toList, ← Int.ofNat_tmod, ← Int.ofNat_tdiv, simprocAttr, BEq.rfl, LN_succ, e1, e2, e3, e4, e5, e6, e7, e8, e9]
    refine S2.dec (fun h1 => ?_) (fun h1 => ?_) <;> simp -dsimp only [aqT, aqU, aqN, aqS, ↓seqK, ↓blkK, ↓loopK, step, stepBin, Nat.add_assoc nid, ↓reduceIte, Option.toList, ← Int.ofNat_tmod, ← Int.ofNat_tdiv, simprocAttr, BEq.rfl, LN_succ, e1, e2, e3, e4, e5, e6, e7, e8, e9]
    · refine CallO.on (flip_c s _ nl A p 4 (by omega) (by omega) hA (by omega)) (subH_get (by simp only [aqT, aqU, aqN, aqS, ↓seqK, ↓blkK, ↓loopK, step, stepBin, Nat.add_assoc nid, ↓reduceIte, Option.toList, ← Int.ofNat_tmod, ← Int.ofNat_tdiv, simprocAttr, BEq.rfl, LN_succ, e1, e2, e3, e4, e5, e6, e7, e8, e9])) ?_
      simp -dsimp only [aqT, aqU, aqN, aqS, ↓seqK, ↓blkK, ↓loopK, step, stepBin, Nat.add_assoc nid, ↓reduceIte, Option.toList, ← Int.ofNat_tmod, ← Int.ofNat_tdiv, simprocAttr, BEq.rfl, LN_succ, e1, e2, e3, e4, e5, e6, e7, e8, e9, strmC_low]
      cases hf : flipV A p 4 <;> simp -dsimp only [aqT, aqU, aqN, aqS, ↓seqK, ↓blkK, ↓loopK, step, stepBin, Nat.add_assoc nid, ↓reduceIte, Option.toList, ← Int.ofNat_tmod, ← Int.ofNat_tdiv, simprocAttr, BEq.rfl, LN_succ, e1, e2, e3, e4, e5, e6, e7, e8, e9, strmC_low, Bool.not_false, Bool.not_true]
      · have hnd := nextV_bd A (p + 1) (n := (R.length : Nat)) (by omega)
        obtain ⟨I, hI⟩ : ∃ I : Nat, nextV A (p + 1) ((R.length : Nat) : Int) = I := ⟨_, (Int.toNat_of_nonneg hnd.1).symm⟩
        refine CallX.on (next_c s _ nl A (p + 1) _ (by omega) (by omega) hA (by omega)) (subH_get (by simp only [aqT, aqU, aqN, aqS, ↓seqK, ↓blkK, ↓loopK, step, stepBin, Nat.add_assoc nid, ↓reduceIte, Option.toList, ← Int.ofNat_tmod, ← Int.ofNat_tdiv, simprocAttr, BEq.rfl, LN_succ, e1, e2, e3, e4, e5, e6, e7, e8, e9])) ?_
        rw [hI]
        simp -dsimp only [aqT, aqU, aqN, aqS, ↓seqK, ↓blkK, ↓loopK, step, stepBin, Nat.add_assoc nid, ↓reduceIte, Option.toList, ← Int.ofNat_tmod, ← Int.ofNat_tdiv, simprocAttr, BEq.rfl, LN_succ, e1, e2, e3, e4, e5, e6, e7, e8, e9, strmC_low]
        have hIR : I < R.length := by omega
        have hrow := hRs _ (row_mem hIR)
        refine ⟨⟨by omega, by omega⟩, ⟨(b I, rowR R I, p + 1 + 1), hrow.1, hrow.2, by simp only; omega⟩, Cov.go [(nid + 4, nid)] [] ?_⟩
        simp [cvT, step, res, e1, e2, e3, e4, e5, e6, e7, e8, e9, boxP2, strmC, litS, ColsEq.refl, -List.getD_eq_getElem?_getD]
      · refine ⟨⟨(g0, G, p + 1), by simp only; omega, hGs, by simp only; omega⟩, Cov.go [(nid + 4, nid)] [] ?_⟩
        simp [cvT, step, res, e1, e2, e3, e4, e5, e6, e7, e8, e9, boxP2, strmC, litS, ColsEq.refl, -List.getD_eq_getElem?_getD]
    · refine ⟨⟨(g0, G, p), by simp only; omega, hGs, by simp only; omega⟩, Cov.go [(nid + 4, nid)] [] ?_⟩
      simp [cvT, step, res, e1, e2, e3, e4, e5, e6, e7, e8, e9, boxP2, strmC, litS, ColsEq.refl, -List.getD_eq_getElem?_getD]
  simp only at hL hLs hq ⊢
  refine SR.seqW (ι := {x : SeenL × Nat // SnB G.length x.1 ∧ x.2 ≤ p + 220}) (fun x => ⟨[(5, .sl (nid + 16) 0 x.1.1.length), (3, .ptr (nid + 4) 0), (0, .ptr s 0)], [(nid + 16, arrSn x.1.1), (nid + 4, boxP2 g0 r0 b G R), (s, strmC nl A x.1.2)], nid + 400, nid⟩) ?_ (fun ⟨⟨S, q2⟩, hS, hq2⟩ => ?_)
  · unfold boxP2
    refine SR.seqTo ⟨[(33, .int .i64 0), (32, .int .i64 G.length), (6, litS nb L), (5, .lit true 0 []), (3, .ptr (nid + 4) 0), (0, .ptr s 0)], [(nid + 4, boxP2 g0 r0 b G R), (s, strmC nl A q)], nid + 250, nid⟩ ?_ ?_
    · simp -dsimp only [aqT, aqU, aqN, aqS, ↓seqK, ↓blkK, ↓loopK, step, stepBin, Nat.add_assoc nid, ↓reduceIte, Option.toList, ← Int.ofNat_tmod, ← Int.ofNat_tdiv, simprocAttr, BEq.rfl, LN_succ, e1, e2, e3, e4, e5, e6, e7, e8, e9, strmC_low]
      refine Cov.go [] [] ?_
      simp [cvT, step, res, e1, e2, e3, e4, e5, e6, e7, e8, e9, boxP2, strmC, litS, ColsEq.refl, -List.getD_eq_getElem?_getD]
    refine SR.block ?_
    refine SR.loopP (fun x : Nat × SeenL × Nat => x.1 ≤ G.length ∧ SnB x.1 x.2.1 ∧ x.2.2 ≤ q + 2 * x.1) (fun x => ⟨[(33, .int .i64 x.1), (32, .int .i64 G.length), (6, litS nb L), (5, .sl (nid + 16) 0 x.2.1.length), (3, .ptr (nid + 4) 0), (0, .ptr s 0)], [(nid + 16, arrSn x.2.1), (nid + 4, boxP2 g0 r0 b G R), (s, strmC nl A x.2.2)], nid + 300, nid⟩) (fun x => G.length + 1 - x.1) (0, [], q) ⟨by simp, ⟨by simp, by simp⟩, by simp⟩ (Cov.go [] [(nid + 16, 2)] ?_) (fun x hx => ?_)
    · simp [cvT, step, res, e1, e2, e3, e4, e5, e6, e7, e8, e9, boxP2, strmC, litS, arrSn, ColsEq.refl, -List.getD_eq_getElem?_getD]
    obtain ⟨t, S, q1⟩ := x
    obtain ⟨ht, hS, hq1⟩ := hx
    simp only at ht hS hq1 ⊢
    have hSl := hS.l
    refine SR.seq ?_
    simp -dsimp only [aqT, aqU, aqN, aqS, ↓seqK, ↓blkK, ↓loopK, step, stepBin, Nat.add_assoc nid, ↓reduceIte, Option.toList, ← Int.ofNat_tmod, ← Int.ofNat_tdiv, simprocAttr, BEq.rfl, LN_succ, e1, e2, e3, e4, e5, e6, e7, e8, e9]
    refine SR.seq ?_
    simp -dsimp only [aqT, aqU, aqN, aqS, ↓seqK, ↓blkK, ↓loopK, step, stepBin, Nat.add_assoc nid, ↓reduceIte, Option.toList, ← Int.ofNat_tmod, ← Int.ofNat_tdiv, simprocAttr, BEq.rfl, LN_succ, e1, e2, e3, e4, e5, e6, e7, e8, e9]
    refine S2.dec (fun h4 => ?_) (fun h4 => ?_) <;> simp -dsimp only [aqT, aqU, aqN, aqS, ↓seqK, ↓blkK, ↓loopK, step, stepBin, Nat.add_assoc nid, ↓reduceIte, Option.toList, ← Int.ofNat_tmod, ← Int.ofNat_tdiv, simprocAttr, BEq.rfl, LN_succ]
    · have htl : t < G.length := by omega
      refine SR.seqW (ι := {x : SeenL × Nat // SnB (t + 1) x.1 ∧ x.2 ≤ q + 2 * (t + 1)}) (fun x => ⟨[(33, .int .i64 t), (32, .int .i64 G.length), (6, litS nb L), (5, .sl (nid + 16) 0 x.1.1.length), (3, .ptr (nid + 4) 0), (0, .ptr s 0)], [(nid + 16, arrSn x.1.1), (nid + 4, boxP2 g0 r0 b G R), (s, strmC nl A x.1.2)], nid + 900, nid⟩) ?_ (fun ⟨⟨S2, q2⟩, hS2, hq2⟩ => ?_)
      · refine SR.block ?_
        refine SR.run (t := .mk) ?_
        unfold litS arrSn
        simp -dsimp only [aqT, aqU, aqN, aqS, ↓seqK, ↓blkK, ↓loopK, step, stepBin, Nat.add_assoc nid, ↓reduceIte, Option.toList, ← Int.ofNat_tmod, ← Int.ofNat_tdiv, simprocAttr, BEq.rfl, LN_succ, e1, e2, e3, e4, e5, e6, e7, e8, e9, strmC_low]
        refine CallO.on (flip_c s _ nl A q1 3 (by omega) (by omega) hA (by omega)) (subH_get (by simp only [aqT, aqU, aqN, aqS, ↓seqK, ↓blkK, ↓loopK, step, stepBin, Nat.add_assoc nid, ↓reduceIte, Option.toList, ← Int.ofNat_tmod, ← Int.ofNat_tdiv, simprocAttr, BEq.rfl, LN_succ, e1, e2, e3, e4, e5, e6, e7, e8, e9])) ?_
        simp -dsimp only [aqT, aqU, aqN, aqS, ↓seqK, ↓blkK, ↓loopK, step, stepBin, Nat.add_assoc nid, ↓reduceIte, Option.toList, ← Int.ofNat_tmod, ← Int.ofNat_tdiv, simprocAttr, BEq.rfl, LN_succ, e1, e2, e3, e4, e5, e6, e7, e8, e9, strmC_low]
        cases hf : flipV A q1 3 <;> simp -dsimp only [aqT, aqU, aqN, aqS, ↓seqK, ↓blkK, ↓loopK, step, stepBin, Nat.add_assoc nid, ↓reduceIte, Option.toList, ← Int.ofNat_tmod, ← Int.ofNat_tdiv, simprocAttr, BEq.rfl, LN_succ, e1, e2, e3, e4, e5, e6, e7, e8, e9, strmC_low, Bool.not_false, Bool.not_true]
        · refine S2.dec (fun h5 => ?_) (fun h5 => ?_) <;> simp -dsimp only [aqT, aqU, aqN, aqS, ↓seqK, ↓blkK, ↓loopK, step, stepBin, Nat.add_assoc nid, ↓reduceIte, Option.toList, ← Int.ofNat_tmod, ← Int.ofNat_tdiv, simprocAttr, BEq.rfl, LN_succ, e1, e2, e3, e4, e5, e6, e7, e8, e9, strmC_low]
          · have htL : t < L.length := by omega
            have hlt := hLs.at t
            refine ⟨by omega, by omega, by omega, ?_⟩
            refine CallX.some_go (T := 9) (nl := nl) (A := A) (p := q1 + 1) (g := fun i => [L.getD t [], L.getD t [], L.getD t [], [48], [49]].getD i []) (by simp only [aqT, aqU, aqN, aqS, ↓seqK, ↓blkK, ↓loopK, step, stepBin, Nat.add_assoc nid, ↓reduceIte, Option.toList, ← Int.ofNat_tmod, ← Int.ofNat_tdiv, simprocAttr, BEq.rfl, LN_succ, e1, e2, e3, e4, e5, e6, e7, e8, e9]) (by simp only [aqT, aqU, aqN, aqS, ↓seqK, ↓blkK, ↓loopK, step, stepBin, Nat.add_assoc nid, ↓reduceIte, Option.toList, ← Int.ofNat_tmod, ← Int.ofNat_tdiv, simprocAttr, BEq.rfl, LN_succ, e1, e2, e3, e4, e5, e6, e7, e8, e9]) (by simp only [aqT, aqU, aqN, aqS, ↓seqK, ↓blkK, ↓loopK, step, stepBin, Nat.add_assoc nid, ↓reduceIte, Option.toList, ← Int.ofNat_tmod, ← Int.ofNat_tdiv, simprocAttr, BEq.rfl, LN_succ, e1, e2, e3, e4, e5, e6, e7, e8, e9]) (by omega) (by omega) hA (by omega) (by omega) ?_
            have hb := getD_all (P := fun x : List UInt8 => x.length ≤ 101) (l := [L.getD t [], L.getD t [], L.getD t [], [48], [49]]) (d := []) (by intro x hx; simp only [List.mem_cons, List.not_mem_nil, or_false] at hx; rcases hx with rfl | rfl | rfl | rfl | rfl <;> first | assumption | simp) (pickI_lt A (q1 + 1) (n := 5) (by omega))
            generalize ([L.getD t [], L.getD t [], L.getD t [], [48], [49]].getD (pickI A (q1 + 1) 5) [] : List UInt8) = v at hb ⊢
            simp -dsimp only [aqT, aqU, aqN, aqS, ↓seqK, ↓blkK, ↓loopK, step, stepBin, Nat.add_assoc nid, ↓reduceIte, Option.toList, ← Int.ofNat_tmod, ← Int.ofNat_tdiv, simprocAttr, BEq.rfl, LN_succ, e1, e2, e3, e4, e5, e6, e7, e8, e9, strmC_low]
            rw [sT_app S t v, sR_app S t v]
            have hl1 : (S ++ [((t : Int), v)]).length = S.length + 1 := by simp
            have hS1 : SnB (t + 1) (S ++ [((t : Int), v)]) := hS.snoc (by omega) hb
            generalize S ++ [((t : Int), v)] = S1 at *
            refine ⟨by omega, ⟨(S1, q1 + 1 + 1), hS1, by simp only; omega⟩, Cov.go [(nid + 16, nid + 424)] [] ?_⟩
            simp [cvT, step, res, e1, e2, e3, e4, e5, e6, e7, e8, e9, boxP2, strmC, litS, arrSn, hl1, ColsEq.refl, -List.getD_eq_getElem?_getD]
          · refine ⟨⟨(S, q1 + 1), hS.more (by omega), by simp only; omega⟩, Cov.go [] [] ?_⟩
            simp [cvT, step, res, e1, e2, e3, e4, e5, e6, e7, e8, e9, boxP2, strmC, litS, arrSn, ColsEq.refl, -List.getD_eq_getElem?_getD]
        · refine ⟨⟨(S, q1 + 1), hS.more (by omega), by simp only; omega⟩, Cov.go [] [] ?_⟩
          simp [cvT, step, res, e1, e2, e3, e4, e5, e6, e7, e8, e9, boxP2, strmC, litS, arrSn, ColsEq.refl, -List.getD_eq_getElem?_getD]
      · refine SR.run (t := .mk) ?_
        simp -dsimp only [aqT, aqU, aqN, aqS, ↓seqK, ↓blkK, ↓loopK, step, stepBin, Nat.add_assoc nid, ↓reduceIte, Option.toList, ← Int.ofNat_tmod, ← Int.ofNat_tdiv, simprocAttr, BEq.rfl, LN_succ, e1, e2, e3, e4, e5, e6, e7, e8, e9]
        refine ⟨by unfold inI64; omega, (t + 1, S2, q2), ⟨⟨by simp only; omega, hS2, hq2⟩, by simp only; omega⟩, Cov.go [] [] ?_⟩
        simp [cvT, step, res, e1, e2, e3, e4, e5, e6, e7, e8, e9, boxP2, strmC, litS, arrSn, ColsEq.refl, -List.getD_eq_getElem?_getD]
    · refine ⟨⟨(S, q1), hS.more ht, by simp only; omega⟩, Cov.go [] [] ?_⟩
      simp [cvT, step, res, e1, e2, e3, e4, e5, e6, e7, e8, e9, boxP2, strmC, litS, arrSn, ColsEq.refl, -List.getD_eq_getElem?_getD]
  simp only at hS hq2 ⊢
  have hSl := hS.l
  refine SR.seqW (ι := {x : SeenL × Nat // SnB G.length x.1 ∧ x.2 ≤ p + 300}) (fun x => ⟨[(5, .sl (nid + 16) 0 x.1.1.length)], [(nid + 16, arrSn x.1.1), (s, strmC nl A x.1.2)], nid + 1000, nid⟩) ?_ (fun ⟨⟨S2, q3⟩, hS2, hq3⟩ => ?_)
  · refine SR.run (t := .mk) ?_
    unfold boxP2 arrSn
    simp -dsimp only [aqT, aqU, aqN, aqS, ↓seqK, ↓blkK, ↓loopK, step, stepBin, Nat.add_assoc nid, ↓reduceIte, Option.toList, ← Int.ofNat_tmod, ← Int.ofNat_tdiv, simprocAttr, BEq.rfl, LN_succ, e1, e2, e3, e4, e5, e6, e7, e8, e9, strmC_low]
    refine S2.dec (fun h1 => ?_) (fun h1 => ?_) <;> simp -dsimp only [aqT, aqU, aqN, aqS, ↓seqK, ↓blkK, ↓loopK, step, stepBin, Nat.add_assoc nid, ↓reduceIte, Option.toList, ← Int.ofNat_tmod, ← Int.ofNat_tdiv, simprocAttr, BEq.rfl, LN_succ, e1, e2, e3, e4, e5, e6, e7, e8, e9, strmC_low]
    · refine CallO.on (flip_c s _ nl A q2 15 (by omega) (by omega) hA (by omega)) (subH_get (by simp only [aqT, aqU, aqN, aqS, ↓seqK, ↓blkK, ↓loopK, step, stepBin, Nat.add_assoc nid, ↓reduceIte, Option.toList, ← Int.ofNat_tmod, ← Int.ofNat_tdiv, simprocAttr, BEq.rfl, LN_succ, e1, e2, e3, e4, e5, e6, e7, e8, e9])) ?_
      simp -dsimp only [aqT, aqU, aqN, aqS, ↓seqK, ↓blkK, ↓loopK, step, stepBin, Nat.add_assoc nid, ↓reduceIte, Option.toList, ← Int.ofNat_tmod, ← Int.ofNat_tdiv, simprocAttr, BEq.rfl, LN_succ, e1, e2, e3, e4, e5, e6, e7, e8, e9, strmC_low]
      cases hf : flipV A q2 15 <;> simp -dsimp only [aqT, aqU, aqN, aqS, ↓seqK, ↓blkK, ↓loopK, step, stepBin, Nat.add_assoc nid, ↓reduceIte, Option.toList, ← Int.ofNat_tmod, ← Int.ofNat_tdiv, simprocAttr, BEq.rfl, LN_succ, e1, e2, e3, e4, e5, e6, e7, e8, e9, strmC_low]
      · refine ⟨⟨(S, q2 + 1), hS, by simp only; omega⟩, Cov.go [] [] ?_⟩
        simp [cvT, step, res, e1, e2, e3, e4, e5, e6, e7, e8, e9, strmC, arrSn, -List.getD_eq_getElem?_getD]
      · have hnd := nextV_bd A (q2 + 1) (n := (S.length : Nat)) (by omega)
        obtain ⟨I, hI⟩ : ∃ I : Nat, nextV A (q2 + 1) ((S.length : Nat) : Int) = I := ⟨_, (Int.toNat_of_nonneg hnd.1).symm⟩
        have hIS : I < S.length := by omega
        obtain ⟨ha1, ha2⟩ := hS.at hIS
        refine CallO.on (next_c s _ nl A (q2 + 1) _ (by omega) (by omega) hA (by omega)) (subH_get (by simp only [aqT, aqU, aqN, aqS, ↓seqK, ↓blkK, ↓loopK, step, stepBin, Nat.add_assoc nid, ↓reduceIte, Option.toList, ← Int.ofNat_tmod, ← Int.ofNat_tdiv, simprocAttr, BEq.rfl, LN_succ, e1, e2, e3, e4, e5, e6, e7, e8, e9])) ?_
        rw [hI]
        simp -dsimp only [aqT, aqU, aqN, aqS, ↓seqK, ↓blkK, ↓loopK, step, stepBin, Nat.add_assoc nid, ↓reduceIte, Option.toList, ← Int.ofNat_tmod, ← Int.ofNat_tdiv, simprocAttr, BEq.rfl, LN_succ, e1, e2, e3, e4, e5, e6, e7, e8, e9, strmC_low]
        refine ⟨⟨by omega, by omega⟩, ?_⟩
        refine CallX.pick_go (T := 3) (nl := nl) (A := A) (p := q2 + 1 + 1) (g := fun i => [sT S I, -1, (G.length : Int), 0].getD i 0) (by simp only [aqT, aqU, aqN, aqS, ↓seqK, ↓blkK, ↓loopK, step, stepBin, Nat.add_assoc nid, ↓reduceIte, Option.toList, ← Int.ofNat_tmod, ← Int.ofNat_tdiv, simprocAttr, BEq.rfl, LN_succ, e1, e2, e3, e4, e5, e6, e7, e8, e9]) (by simp only [aqT, aqU, aqN, aqS, ↓seqK, ↓blkK, ↓loopK, step, stepBin, Nat.add_assoc nid, ↓reduceIte, Option.toList, ← Int.ofNat_tmod, ← Int.ofNat_tdiv, simprocAttr, BEq.rfl, LN_succ, e1, e2, e3, e4, e5, e6, e7, e8, e9]) (by simp only [aqT, aqU, aqN, aqS, ↓seqK, ↓blkK, ↓loopK, step, stepBin, Nat.add_assoc nid, ↓reduceIte, Option.toList, ← Int.ofNat_tmod, ← Int.ofNat_tdiv, simprocAttr, BEq.rfl, LN_succ, e1, e2, e3, e4, e5, e6, e7, e8, e9]) (by omega) (by omega) hA (by omega) (by omega) ?_
        have hb := getD_all (P := fun x : Int => -1 ≤ x ∧ x ≤ 1000000) (l := [sT S I, -1, (G.length : Int), 0]) (d := 0) (by intro x hx; simp only [List.mem_cons, List.not_mem_nil, or_false] at hx; rcases hx with rfl | rfl | rfl | rfl <;> omega) (pickI_lt A (q2 + 1 + 1) (n := 4) (by omega))
        generalize ([sT S I, -1, (G.length : Int), 0].getD (pickI A (q2 + 1 + 1) 4) 0 : Int) = v at hb ⊢
        simp -dsimp only [aqT, aqU, aqN, aqS, ↓seqK, ↓blkK, ↓loopK, step, stepBin, Nat.add_assoc nid, ↓reduceIte, Option.toList, ← Int.ofNat_tmod, ← Int.ofNat_tdiv, simprocAttr, BEq.rfl, LN_succ, e1, e2, e3, e4, e5, e6, e7, e8, e9, strmC_low]
        refine CallX.some_go (T := 9) (nl := nl) (A := A) (p := q2 + 1 + 1 + 1) (g := fun i => [sR S I, [], [32]].getD i []) (by simp only [aqT, aqU, aqN, aqS, ↓seqK, ↓blkK, ↓loopK, step, stepBin, Nat.add_assoc nid, ↓reduceIte, Option.toList, ← Int.ofNat_tmod, ← Int.ofNat_tdiv, simprocAttr, BEq.rfl, LN_succ, e1, e2, e3, e4, e5, e6, e7, e8, e9]) (by simp only [aqT, aqU, aqN, aqS, ↓seqK, ↓blkK, ↓loopK, step, stepBin, Nat.add_assoc nid, ↓reduceIte, Option.toList, ← Int.ofNat_tmod, ← Int.ofNat_tdiv, simprocAttr, BEq.rfl, LN_succ, e1, e2, e3, e4, e5, e6, e7, e8, e9]) (by simp only [aqT, aqU, aqN, aqS, ↓seqK, ↓blkK, ↓loopK, step, stepBin, Nat.add_assoc nid, ↓reduceIte, Option.toList, ← Int.ofNat_tmod, ← Int.ofNat_tdiv, simprocAttr, BEq.rfl, LN_succ, e1, e2, e3, e4, e5, e6, e7, e8, e9]) (by omega) (by omega) hA (by omega) (by omega) ?_
        have hb2 := getD_all (P := fun x : List UInt8 => x.length ≤ 101) (l := [sR S I, [], [32]]) (d := []) (by intro x hx; simp only [List.mem_cons, List.not_mem_nil, or_false] at hx; rcases hx with rfl | rfl | rfl <;> first | assumption | simp) (pickI_lt A (q2 + 1 + 1 + 1) (n := 3) (by omega))
        generalize ([sR S I, [], [32]].getD (pickI A (q2 + 1 + 1 + 1) 3) [] : List UInt8) = r at hb2 ⊢
        simp -dsimp only [aqT, aqU, aqN, aqS, ↓seqK, ↓blkK, ↓loopK, step, stepBin, Nat.add_assoc nid, ↓reduceIte, Option.toList, ← Int.ofNat_tmod, ← Int.ofNat_tdiv, simprocAttr, BEq.rfl, LN_succ, e1, e2, e3, e4, e5, e6, e7, e8, e9, strmC_low]
        rw [sT_set v r hIS, sR_set v r hIS]
        have hl1 : (S.set I (v, r)).length = S.length := List.length_set
        have hS1 : SnB G.length (S.set I (v, r)) := hS.put hb hb2 I
        generalize S.set I (v, r) = S1 at *
        refine ⟨⟨(S1, q2 + 1 + 1 + 1 + 1), hS1, by simp only; omega⟩, Cov.go [] [] ?_⟩
        simp [cvT, step, res, e1, e2, e3, e4, e5, e6, e7, e8, e9, strmC, arrSn, hl1, -List.getD_eq_getElem?_getD]
    · refine ⟨⟨(S, q2), hS, by simp only; omega⟩, Cov.go [] [] ?_⟩
      simp [cvT, step, res, e1, e2, e3, e4, e5, e6, e7, e8, e9, strmC, arrSn, -List.getD_eq_getElem?_getD]
  · refine SR.run (t := .mk) ?_
    unfold arrSn
    simp -dsimp only [aqT, aqU, aqN, aqS, ↓seqK, ↓blkK, ↓loopK, step, stepBin, Nat.add_assoc nid, ↓reduceIte, Option.toList, ← Int.ofNat_tmod, ← Int.ofNat_tdiv, simprocAttr, BEq.rfl, LN_succ, e1, e2, e3, e4, e5, e6, e7, e8, e9, strmC_low]
    refine ⟨(S2, q3), ⟨hS2, hq3⟩, RetOK.go [(nid, nid + 16)] [] (.inl rfl) ?_⟩
    simp [a46, cvT, step, res, e1, e2, e3, e4, e5, e6, e7, e8, e9, strmC, arrSn, -List.getD_eq_getElem?_getD]
end Go.Proofs.YtpifoghhaohhaaaGreatDoor
namespace Go.Proofs.YtpifoghhaohhaaaGreatDoor
open Go.RowKit Go.Shelf Go.Lib
set_option maxHeartbeats 1000000 in
theorem seenR_c (g0 r0 : Bool) (b : Nat → Bool) (G : List (List UInt8)) (R : RowL) (nl : Bool) (S : SeenL) (nid : Nat) (hB : DictW G R) (hS : SnW S) : ACall Tryz.prog 47 [dictP g0 r0 b G R, litSn nl S] [] nid (.int .i64 (seenV G R S)) [] := by
  have hgl := hB.gl
  have hsl := hS.l
  have hd := fun m => dictR_c g0 r0 b G R m hB
  refine acall_sr c47 (by simp [a47]) ?_
  unfold a47
  refine SR.seq ?_
  unfold dictP litSn at *
  simp -dsimp only [aqT, aqU, aqN, aqS, ↓seqK, ↓blkK, ↓loopK, step, stepBin, Nat.add_assoc nid, ↓reduceIte, Option.toList, ← Int.ofNat_tmod, ← Int.ofNat_tdiv, simprocAttr, BEq.rfl, LN_succ]
  refine SR.seqW (ι := {_u : Unit // dictV G R = 0}) (fun _ => ⟨[(2, .ptr nid 0), (1, litSn nl S)], [(nid, boxP2 g0 r0 b G R)], nid + 100, nid⟩) ?_ (fun ⟨_, h1⟩ => ?_)
  · refine SR.run (t := .mk) ?_
    simp -dsimp only [aqT, aqU, aqN, aqS, ↓seqK, ↓blkK, ↓loopK, step, stepBin, Nat.add_assoc nid, ↓reduceIte, Option.toList, ← Int.ofNat_tmod, ← Int.ofNat_tdiv, simprocAttr, BEq.rfl, LN_succ]
    refine CallO.pure (hd _) ?_
    simp -dsimp only [aqT, aqU, aqN, aqS, ↓seqK, ↓blkK, ↓loopK, step, stepBin, Nat.add_assoc nid, ↓reduceIte, Option.toList, ← Int.ofNat_tmod, ← Int.ofNat_tdiv, simprocAttr, BEq.rfl, LN_succ]
    refine S2.intro (fun h1 => ?_) (fun h1 => ?_) <;> simp -dsimp only [aqT, aqU, aqN, aqS, ↓seqK, ↓blkK, ↓loopK, step, stepBin, Nat.add_assoc nid, ↓reduceIte, Option.toList, ← Int.ofNat_tmod, ← Int.ofNat_tdiv, simprocAttr, BEq.rfl, LN_succ]
    · have e : seenV G R S = dictV G R := by unfold seenV; rw [if_pos (by simpa using h1)]
      rw [e]
      refine RetOK.pure (.inl rfl) rfl ?_
      simp [cvT, step, res]
    · refine ⟨⟨(), by simpa using h1⟩, Cov.go [] [] ?_⟩
      simp [cvT, step, res, boxP2, litSn, ColsEq.refl, -List.getD_eq_getElem?_getD]
  refine SR.seqW (ι := {_u : Unit // ¬ 100 < S.length}) (fun _ => ⟨[(2, .ptr nid 0), (1, litSn nl S)], [(nid, boxP2 g0 r0 b G R)], nid + 150, nid⟩) ?_ (fun ⟨_, h2⟩ => ?_)
  · unfold litSn
    refine SR.run (t := .mk) ?_
    simp -dsimp only [aqT, aqU, aqN, aqS, ↓seqK, ↓blkK, ↓loopK, step, stepBin, Nat.add_assoc nid, ↓reduceIte, Option.toList, ← Int.ofNat_tmod, ← Int.ofNat_tdiv, simprocAttr, BEq.rfl, LN_succ]
    refine S2.dec (fun h2 => ?_) (fun h2 => ?_) <;> simp -dsimp only [aqT, aqU, aqN, aqS, ↓seqK, ↓blkK, ↓loopK, step, stepBin, Nat.add_assoc nid, ↓reduceIte, Option.toList, ← Int.ofNat_tmod, ← Int.ofNat_tdiv, simprocAttr, BEq.rfl, LN_succ]
    · have e : seenV G R S = 2 := by unfold seenV; rw [if_neg (by simp [h1]), if_pos (by omega)]
      rw [e]
      refine RetOK.pure (.inl rfl) rfl ?_
      simp [cvT, step, res]
    · refine ⟨⟨(), by omega⟩, Cov.go [] [] ?_⟩
      simp [cvT, step, res, boxP2, litSn, ColsEq.refl, -List.getD_eq_getElem?_getD]
  refine SR.seqW (ι := {_u : Unit // ∀ j, j < S.length → seenBad G.length S j = 0}) (fun _ => ⟨[], [], nid + 2000, nid⟩) ?_ (fun ⟨_, h5⟩ => ?_)
  · unfold boxP2 litSn
    refine SR.seqTo ⟨[(18, .int .i64 0), (17, .int .i64 S.length), (16, litSn nl S), (2, .ptr nid 0), (1, litSn nl S)], [(nid, boxP2 g0 r0 b G R)], nid + 200, nid⟩ ?_ ?_
    · simp -dsimp only [aqT, aqU, aqN, aqS, ↓seqK, ↓blkK, ↓loopK, step, stepBin, Nat.add_assoc nid, ↓reduceIte, Option.toList, ← Int.ofNat_tmod, ← Int.ofNat_tdiv, simprocAttr, BEq.rfl, LN_succ]
      refine Cov.go [] [] ?_
      simp [cvT, step, res, boxP2, litSn, ColsEq.refl, -List.getD_eq_getElem?_getD]
    refine SR.block ?_
    refine SR.loopP (fun k : Nat => k ≤ S.length ∧ ∀ j, j < k → seenBad G.length S j = 0) (fun k : Nat => ⟨[(18, .int .i64 k), (17, .int .i64 S.length), (16, litSn nl S), (2, .ptr nid 0), (1, litSn nl S)], [(nid, boxP2 g0 r0 b G R)], nid + 200, nid⟩) (fun k => S.length + 1 - k) 0 ⟨by omega, fun j hj => by omega⟩ (Cov.drop (by omega) ?_) (fun k hk => ?_)
    · simp only [SlotsIn, aqT, aqU, aqN, ↓seqK, ↓blkK, ↓loopK, step, stepBin, Nat.reduceBEq, Nat.reduceBeqDiff, Nat.add_assoc nid, Nat.reduceAdd, reduceCtorEq, ↓reduceIte, Nat.reduceLeDiff, Nat.reduceBneDiff, Option.toList, ← Int.ofNat_tmod, ← Int.ofNat_tdiv, Nat.reduceLT]
      try simp
    obtain ⟨hk, hall⟩ := hk
    refine SR.seq ?_
    simp -dsimp only [aqT, aqU, aqN, aqS, ↓seqK, ↓blkK, ↓loopK, step, stepBin, Nat.add_assoc nid, ↓reduceIte, Option.toList, ← Int.ofNat_tmod, ← Int.ofNat_tdiv, simprocAttr, BEq.rfl, LN_succ]
    refine SR.seq ?_
    simp -dsimp only [aqT, aqU, aqN, aqS, ↓seqK, ↓blkK, ↓loopK, step, stepBin, Nat.add_assoc nid, ↓reduceIte, Option.toList, ← Int.ofNat_tmod, ← Int.ofNat_tdiv, simprocAttr, BEq.rfl, LN_succ]
    refine S2.dec (fun h4 => ?_) (fun h4 => ?_) <;> simp -dsimp only [aqT, aqU, aqN, aqS, ↓seqK, ↓blkK, ↓loopK, step, stepBin, Nat.add_assoc nid, ↓reduceIte, Option.toList, ← Int.ofNat_tmod, ← Int.ofNat_tdiv, simprocAttr, BEq.rfl, LN_succ]
    · have hkl : k < S.length := by omega
      have hbad := fun e => seenV_row (e := e) h1 h2 hkl hall
      have hr1 := hS.r k
      refine SR.seqW (ι := {_u : Unit // seenBad G.length S k = 0}) (fun _ => ⟨[(18, .int .i64 k), (17, .int .i64 S.length), (16, litSn nl S), (2, .ptr nid 0), (1, litSn nl S)], [(nid, boxP2 g0 r0 b G R)], nid + 900, nid⟩) ?_ (fun ⟨_, h6⟩ => ?_)
      · refine SR.block ?_
        unfold litSn
        refine SR.seqTo ⟨[(7, .ptr (nid + 300) 0), (6, .int .i64 k), (18, .int .i64 k), (17, .int .i64 S.length), (16, litSn nl S), (2, .ptr nid 0), (1, litSn nl S)], [(nid + 300, some (.box 69 [.int .i64 (sT S k), .str (sR S k)])), (nid, boxP2 g0 r0 b G R)], nid + 400, nid⟩ ?_ ?_
        · simp -dsimp only [aqT, aqU, aqN, aqS, ↓seqK, ↓blkK, ↓loopK, step, stepBin, Nat.add_assoc nid, ↓reduceIte, Option.toList, ← Int.ofNat_tmod, ← Int.ofNat_tdiv, simprocAttr, BEq.rfl, LN_succ]
          refine ⟨by omega, Cov.go [(nid + 300, nid + 216)] [] ?_⟩
          simp [cvT, step, res, boxP2, litSn, ColsEq.refl, -List.getD_eq_getElem?_getD]
        unfold boxP2 litSn
        refine SR.block ?_
        refine SR.seq ?_
        simp -dsimp only [aqT, aqU, aqN, aqS, ↓seqK, ↓blkK, ↓loopK, step, stepBin, Nat.add_assoc nid, ↓reduceIte, Option.toList, ← Int.ofNat_tmod, ← Int.ofNat_tdiv, simprocAttr, BEq.rfl, LN_succ]
        refine ⟨by unfold inI64; omega, CallO.pure (in_c _ _ _ _) ?_⟩
        simp -dsimp only [aqT, aqU, aqN, aqS, ↓seqK, ↓blkK, ↓loopK, step, stepBin, Nat.add_assoc nid, ↓reduceIte, Option.toList, ← Int.ofNat_tmod, ← Int.ofNat_tdiv, simprocAttr, BEq.rfl, LN_succ, Bool.not_not]
        refine SR.cond (b := outB (sT S k) 0 ((G.length : Int) - 1)) (by simp [AX.val, getS]) (fun h => ?_) (fun h => ?_)
        · rw [hbad 1 (by unfold seenBad; rw [if_pos h]) (by decide)]
          refine SR.run (t := .mk) ?_
          simp -dsimp only [aqT, aqU, aqN, aqS, ↓seqK, ↓blkK, ↓loopK, step, stepBin, Nat.add_assoc nid, ↓reduceIte, Option.toList, ← Int.ofNat_tmod, ← Int.ofNat_tdiv, simprocAttr, BEq.rfl, LN_succ]
          refine RetOK.pure (.inl rfl) rfl ?_
          simp [cvT, step, res]
        have hk1 : ¬ outB (sT S k) 0 ((G.length : Int) - 1) = true := by simp [h]
        refine SR.seq ?_
        simp -dsimp only [aqT, aqU, aqN, aqS, ↓seqK, ↓blkK, ↓loopK, step, stepBin, Nat.add_assoc nid, ↓reduceIte, Option.toList, ← Int.ofNat_tmod, ← Int.ofNat_tdiv, simprocAttr, BEq.rfl, LN_succ]
        refine CallO.pure (respR_c _ _) ?_
        simp -dsimp only [aqT, aqU, aqN, aqS, ↓seqK, ↓blkK, ↓loopK, step, stepBin, Nat.add_assoc nid, ↓reduceIte, Option.toList, ← Int.ofNat_tmod, ← Int.ofNat_tdiv, simprocAttr, BEq.rfl, LN_succ]
        refine SR.cond (b := !respB (sR S k)) (by simp [AX.val, getS]) (fun h => ?_) (fun h => ?_)
        · rw [hbad 9 (by unfold seenBad; rw [if_neg hk1, if_pos (show oddS (sR S k) = true from h)]) (by decide)]
          refine SR.run (t := .mk) ?_
          simp -dsimp only [aqT, aqU, aqN, aqS, ↓seqK, ↓blkK, ↓loopK, step, stepBin, Nat.add_assoc nid, ↓reduceIte, Option.toList, ← Int.ofNat_tmod, ← Int.ofNat_tdiv, simprocAttr, BEq.rfl, LN_succ]
          refine RetOK.pure (.inl rfl) rfl ?_
          simp [cvT, step, res]
        have hk2 : ¬ oddS (sR S k) = true := by unfold oddS; simpa using h
        refine SR.seqTo ⟨[(37, .bool (decide ((0 : Int) < k) && decide (sT S k ≤ sT S (k - 1)))), (18, .int .i64 k), (17, .int .i64 S.length), (16, litSn nl S), (2, .ptr nid 0), (1, litSn nl S)], [(nid, boxP2 g0 r0 b G R)], nid + 700, nid⟩ ?_ ?_
        · simp -dsimp only [aqT, aqU, aqN, aqS, ↓seqK, ↓blkK, ↓loopK, step, stepBin, Nat.add_assoc nid, ↓reduceIte, Option.toList, ← Int.ofNat_tmod, ← Int.ofNat_tdiv, simprocAttr, BEq.rfl, LN_succ]
          refine S2.dec (fun h0 => ?_) (fun h0 => ?_) <;> simp -dsimp only [aqT, aqU, aqN, aqS, ↓seqK, ↓blkK, ↓loopK, step, stepBin, Nat.add_assoc nid, ↓reduceIte, Option.toList, ← Int.ofNat_tmod, ← Int.ofNat_tdiv, simprocAttr, BEq.rfl, LN_succ]
          · have e : ((k : Int) - 1).toNat = k - 1 := by omega
            rw [e]
            refine ⟨by unfold inI64; omega, by omega, Cov.go [] [] ?_⟩
            simp [cvT, step, res, boxP2, litSn, ColsEq.refl, decide_eq_true h0, -List.getD_eq_getElem?_getD]
            try omega
          · refine Cov.go [] [] ?_
            simp [cvT, step, res, boxP2, litSn, ColsEq.refl, decide_eq_false h0, -List.getD_eq_getElem?_getD]
            try omega
        refine SR.cond (b := decide ((0 : Int) < k) && decide (sT S k ≤ sT S (k - 1))) (by simp [AX.val, getS]) (fun h => ?_) (fun h => ?_)
        · simp only [Bool.and_eq_true, decide_eq_true_eq] at h
          rw [hbad 7 (by unfold seenBad; rw [if_neg hk1, if_neg hk2, if_pos ⟨by omega, h.2⟩]) (by decide)]
          refine SR.run (t := .mk) ?_
          simp -dsimp only [aqT, aqU, aqN, aqS, ↓seqK, ↓blkK, ↓loopK, step, stepBin, Nat.add_assoc nid, ↓reduceIte, Option.toList, ← Int.ofNat_tmod, ← Int.ofNat_tdiv, simprocAttr, BEq.rfl, LN_succ]
          refine RetOK.pure (.inl rfl) rfl ?_
          simp [cvT, step, res]
        have hk4 : ¬ (0 < k ∧ sT S k ≤ sT S (k - 1)) := fun ⟨e1, e2⟩ => by
          rw [decide_eq_true e2, decide_eq_true (by omega)] at h
          simp at h
        refine SR.run (t := .mk) ?_
        simp -dsimp only [aqT, aqU, aqN, aqS, ↓seqK, ↓blkK, ↓loopK, step, stepBin, Nat.add_assoc nid, ↓reduceIte, Option.toList, ← Int.ofNat_tmod, ← Int.ofNat_tdiv, simprocAttr, BEq.rfl, LN_succ]
        refine ⟨⟨(), by unfold seenBad; rw [if_neg hk1, if_neg hk2, if_neg hk4]⟩, Cov.go [] [] ?_⟩
        simp [cvT, step, res, boxP2, litSn, ColsEq.refl, -List.getD_eq_getElem?_getD]
      refine SR.run (t := .mk) ?_
      simp -dsimp only [aqT, aqU, aqN, aqS, ↓seqK, ↓blkK, ↓loopK, step, stepBin, Nat.add_assoc nid, ↓reduceIte, Option.toList, ← Int.ofNat_tmod, ← Int.ofNat_tdiv, simprocAttr, BEq.rfl, LN_succ]
      refine ⟨by unfold inI64; omega, k + 1, ⟨⟨by omega, fun j hj => ?_⟩, by omega⟩, Cov.go [] [] ?_⟩
      · rcases (by omega : j < k ∨ j = k) with hj | hj
        · exact hall j hj
        · rw [hj]; exact h6
      simp [cvT, step, res, boxP2, litSn, ColsEq.refl, -List.getD_eq_getElem?_getD]
    · refine ⟨⟨(), fun j hj => hall j (by omega)⟩, Cov.go [] [] ?_⟩
      simp [cvT, step, res, boxP2, -List.getD_eq_getElem?_getD]
  · rw [seenV_good h1 h2 h5]
    refine SR.run (t := .mk) ?_
    simp -dsimp only [aqT, aqU, aqN, aqS, ↓seqK, ↓blkK, ↓loopK, step, stepBin, Nat.add_assoc nid, ↓reduceIte, Option.toList, ← Int.ofNat_tmod, ← Int.ofNat_tdiv, simprocAttr, BEq.rfl, LN_succ]
    refine RetOK.pure (.inl rfl) rfl ?_
    simp [cvT, step, res]
theorem candBad_c (g0 r0 : Bool) (b : Nat → Bool) (G : List (List UInt8)) (R : RowL) (nl : Bool) (S : SeenL) (nid : Nat) (hB : DictW G R) (hS : SnW S) (hV : seenV G R S ≠ 0) :
    ACall Tryz.prog 36 [dictP g0 r0 b G R, litSn nl S] [] nid (.tup [.lit true 0 [], .bool false, .int .i64 (seenV G R S)]) [] := by
  have hd := fun m => seenD_c g0 r0 b G R nl S m hB hS
  refine acall_sr c36 (by simp [a36]) ?_
  unfold a36 dictP litSn at *
  refine SR.run (t := .mk) ?_
  simp -dsimp only [aqT, aqU, aqN, aqS, ↓seqK, ↓blkK, ↓loopK, step, stepBin, Nat.add_assoc nid, ↓reduceIte, Option.toList, ← Int.ofNat_tmod, ← Int.ofNat_tdiv, simprocAttr, BEq.rfl, LN_succ]
  refine CallO.pure (hd _) ?_
  simp -dsimp only [aqT, aqU, aqN, aqS, ↓seqK, ↓blkK, ↓loopK, step, stepBin, Nat.add_assoc nid, ↓reduceIte, Option.toList, ← Int.ofNat_tmod, ← Int.ofNat_tdiv, simprocAttr, BEq.rfl, LN_succ]
  refine S2.yes (by simpa using hV) ?_
  simp -dsimp only [aqT, aqU, aqN, aqS, ↓seqK, ↓blkK, ↓loopK, step, stepBin, Nat.add_assoc nid, ↓reduceIte, Option.toList, ← Int.ofNat_tmod, ← Int.ofNat_tdiv, simprocAttr, BEq.rfl, LN_succ]
  refine RetOK.pure (.inl rfl) rfl ?_
  simp [cvT, step, res]
theorem nearBad_c (g0 r0 : Bool) (b : Nat → Bool) (G : List (List UInt8)) (R : RowL) (nl : Bool) (S : SeenL) (nid : Nat) (hB : DictW G R) (hS : SnW S) (hV : seenV G R S ≠ 0) :
    ACall Tryz.prog 45 [dictP g0 r0 b G R, litSn nl S] [] nid (.tup [.lit true 0 [], .int .i64 0, .int .i64 (seenV G R S)]) [] := by
  have hd := fun m => seenD_c g0 r0 b G R nl S m hB hS
  refine acall_sr c45 (by simp [a45]) ?_
  unfold a45 dictP litSn at *
  refine SR.run (t := .mk) ?_
  simp -dsimp only [aqT, aqU, aqN, aqS, ↓seqK, ↓blkK, ↓loopK, step, stepBin, Nat.add_assoc nid, ↓reduceIte, Option.toList, ← Int.ofNat_tmod, ← Int.ofNat_tdiv, simprocAttr, BEq.rfl, LN_succ]
  refine CallO.pure (hd _) ?_
  simp -dsimp only [aqT, aqU, aqN, aqS, ↓seqK, ↓blkK, ↓loopK, step, stepBin, Nat.add_assoc nid, ↓reduceIte, Option.toList, ← Int.ofNat_tmod, ← Int.ofNat_tdiv, simprocAttr, BEq.rfl, LN_succ]
  refine S2.yes (by simpa using hV) ?_
  simp -dsimp only [aqT, aqU, aqN, aqS, ↓seqK, ↓blkK, ↓loopK, step, stepBin, Nat.add_assoc nid, ↓reduceIte, Option.toList, ← Int.ofNat_tmod, ← Int.ofNat_tdiv, simprocAttr, BEq.rfl, LN_succ]
  refine RetOK.pure (.inl rfl) rfl ?_
  simp [cvT, step, res]
theorem explBad_c (g0 r0 : Bool) (b : Nat → Bool) (G : List (List UInt8)) (R : RowL) (nl : Bool) (S : SeenL) (nid : Nat) (hB : DictW G R) (hS : SnW S) (hV : seenV G R S ≠ 0) :
    ACall Tryz.prog 48 [dictP g0 r0 b G R, litSn nl S] [] nid (.tup [.lit true 0 [], .bool false, .int .i64 (seenV G R S)]) [] := by
  have hd := fun m => seenD_c g0 r0 b G R nl S m hB hS
  refine acall_sr c48 (by simp [a48]) ?_
  unfold a48 dictP litSn at *
  refine SR.run (t := .mk) ?_
  simp -dsimp only [aqT, aqU, aqN, aqS, ↓seqK, ↓blkK, ↓loopK, step, stepBin, Nat.add_assoc nid, ↓reduceIte, Option.toList, ← Int.ofNat_tmod, ← Int.ofNat_tdiv, simprocAttr, BEq.rfl, LN_succ]
  refine CallO.pure (hd _) ?_
  simp -dsimp only [aqT, aqU, aqN, aqS, ↓seqK, ↓blkK, ↓loopK, step, stepBin, Nat.add_assoc nid, ↓reduceIte, Option.toList, ← Int.ofNat_tmod, ← Int.ofNat_tdiv, simprocAttr, BEq.rfl, LN_succ]
  refine S2.yes (by simpa using hV) ?_
  simp -dsimp only [aqT, aqU, aqN, aqS, ↓seqK, ↓blkK, ↓loopK, step, stepBin, Nat.add_assoc nid, ↓reduceIte, Option.toList, ← Int.ofNat_tmod, ← Int.ofNat_tdiv, simprocAttr, BEq.rfl, LN_succ]
  refine RetOK.pure (.inl rfl) rfl ?_
  simp [cvT, step, res]
theorem bestBad_c (g0 r0 : Bool) (b : Nat → Bool) (G : List (List UInt8)) (R : RowL) (nl : Bool) (S : SeenL) (nid : Nat) (hB : DictW G R) (hS : SnW S) (hV : seenV G R S ≠ 0) :
    ACall Tryz.prog 49 [dictP g0 r0 b G R, litSn nl S] [] nid (.tup [.int .i64 0, .int .i64 0, .bool false, .int .i64 (seenV G R S)]) [] := by
  have hd := fun m => seenD_c g0 r0 b G R nl S m hB hS
  refine acall_sr c49 (by simp [a49]) ?_
  unfold a49 dictP litSn at *
  refine SR.run (t := .mk) ?_
  simp -dsimp only [aqT, aqU, aqN, aqS, ↓seqK, ↓blkK, ↓loopK, step, stepBin, Nat.add_assoc nid, ↓reduceIte, Option.toList, ← Int.ofNat_tmod, ← Int.ofNat_tdiv, simprocAttr, BEq.rfl, LN_succ]
  refine CallO.pure (hd _) ?_
  simp -dsimp only [aqT, aqU, aqN, aqS, ↓seqK, ↓blkK, ↓loopK, step, stepBin, Nat.add_assoc nid, ↓reduceIte, Option.toList, ← Int.ofNat_tmod, ← Int.ofNat_tdiv, simprocAttr, BEq.rfl, LN_succ]
  refine S2.yes (by simpa using hV) ?_
  simp -dsimp only [aqT, aqU, aqN, aqS, ↓seqK, ↓blkK, ↓loopK, step, stepBin, Nat.add_assoc nid, ↓reduceIte, Option.toList, ← Int.ofNat_tmod, ← Int.ofNat_tdiv, simprocAttr, BEq.rfl, LN_succ]
  refine RetOK.pure (.inl rfl) rfl ?_
  simp [cvT, step, res]
end Go.Proofs.YtpifoghhaohhaaaGreatDoor
