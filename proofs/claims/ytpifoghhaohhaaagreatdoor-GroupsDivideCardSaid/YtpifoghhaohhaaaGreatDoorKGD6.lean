/-
  Dictionaries that the stream makes, by the abstract machine.
-/
import Derived.Test.YtpifoghhaohhaaaGreatDoorKGD5
import Derived.Test.YtpifoghhaohhaaaGreatDoorKGD3
import Derived.Test.YtpifoghhaohhaaaGreatDoorKGD1
import Derived.Lib.Bytealg
import Derived.Laws.Externs
import Derived.Test.YtpifoghhaohhaaaGreatDoorKGD4
import Derived.Sort.EncStr
import Derived.Test.YtpifoghhaohhaaaGreatDoorProg
import Derived.RangeFuncBox
import Derived.RangeFuncWrites
import Derived.RangeFuncLeaves
import Derived.Shelf.Abstract
import Derived.WalkKit
import Derived.OwnWalkIn
import Derived.TacticsInMore
import Derived.LoopNIn
import Derived.LoopIn
import Derived.Maps.AppendAt
import Derived.Ground.NamesProg
import Derived.Shelf.Spec.SlicesGrow
set_option linter.unusedVariables false
set_option linter.unusedSimpArgs false
set_option maxRecDepth 100000
namespace Go.Proofs.YtpifoghhaohhaaaGreatDoor
open Go.RowKit Go.Shelf Go.Lib
set_option maxHeartbeats 8000000 in
theorem dict_I (s nid : Nat) (nl : Bool) (A : List Int) (p faults tests : Nat) (h : s < nid) (hp : p ≤ 1099500000000) (hA : A.length ≤ 17592186044416) (hf : faults ≤ 7) (ht1 : 1 ≤ tests) (ht : tests ≤ 6) :
    ACallI Tryz.prog 14 [.ptr s 0, .int .i64 (faults : Nat), .int .i64 (tests : Nat)] [(s, strmC nl A p)] nid (fun x : DictX => DictB tests x.G x.R ∧ x.q ≤ p + 1000) (fun x => dictP x.g0 x.r0 x.b x.G x.R) (fun x => [(s, strmC nl A x.q)]) := by
  obtain ⟨e1, e2, e3, e4, e5, e6, e7, e8, e9⟩ := id_all h
  refine acallI_sr c14 (by simp [a14]) ?_
  unfold a14
  refine SR.seq ?_
  simp -dsimp only [aqT, aqU, aqN, aqS, ↓seqK, ↓blkK, ↓loopK, step, stepBin, Nat.add_assoc nid, ↓reduceIte, Option.toList, ← Int.ofNat_tmod, ← Int.ofNat_tdiv, simprocAttr, BEq.rfl, LN_succ, e1, e2, e3, e4, e5, e6, e7, e8, e9]
  refine SR.seq ?_
  simp -dsimp only [aqT, aqU, aqN, aqS, ↓seqK, ↓blkK, ↓loopK, step, stepBin, Nat.add_assoc nid, ↓reduceIte, Option.toList, ← Int.ofNat_tmod, ← Int.ofNat_tdiv, simprocAttr, BEq.rfl, LN_succ, e1, e2, e3, e4, e5, e6, e7, e8, e9]
  refine SR.seq ?_
  simp -dsimp only [aqT, aqU, aqN, aqS, ↓seqK, ↓blkK, ↓loopK, step, stepBin, Nat.add_assoc nid, ↓reduceIte, Option.toList, ← Int.ofNat_tmod, ← Int.ofNat_tdiv, simprocAttr, BEq.rfl, LN_succ, e1, e2, e3, e4, e5, e6, e7, e8, e9]
  have hmd := rangeV_bd A p (lo := 1) (hi := (tests : Int)) (by omega)
  obtain ⟨m, hm⟩ : ∃ m : Nat, rangeV A p 1 tests = m := ⟨_, (Int.toNat_of_nonneg (by omega)).symm⟩
  refine SR.seqW (ι := {G : List (List UInt8) // G.length = m ∧ ShortRows 2 G}) (fun G => ⟨[(8, .fn 82 [.ptr nid 0]), (7, .ptr (nid + 8) 0), (6, .ptr (nid + 4) 0), (3, .ptr nid 0), (1, .int .i64 (faults : Nat))], [(nid, boxP s), (nid + 4, some (.box 29 [.lit true 0 [], .lit true 0 []])), (nid + 8, some (.box 29 [.sl (nid + 20) 0 G.1.length, .lit true 0 []])), (nid + 20, arrS G.1), (s, strmC nl A (p + 1 + m))], nid + 1000, nid⟩) ?_ (fun ⟨G, hG1, hG2⟩ => ?_)
  · refine SR.seqTo ⟨[(17, .int .i64 0), (16, .int .i64 (m : Nat)), (8, .fn 82 [.ptr nid 0]), (7, .ptr (nid + 8) 0), (6, .ptr (nid + 4) 0), (3, .ptr nid 0), (1, .int .i64 (faults : Nat))], [(nid, boxP s), (nid + 4, some (.box 29 [.lit true 0 [], .lit true 0 []])), (nid + 8, some (.box 29 [.lit true 0 [], .lit true 0 []])), (s, strmC nl A (p + 1))], nid + 100, nid⟩ ?_ ?_
    · simp -dsimp only [aqT, aqU, aqN, ↓seqK, ↓blkK, ↓loopK, step, stepBin, Nat.reduceBEq, Nat.reduceBeqDiff, Nat.add_assoc nid, Nat.reduceAdd, reduceCtorEq, ↓reduceIte, Nat.reduceLeDiff, Nat.reduceBneDiff, Option.toList, ← Int.ofNat_tmod, ← Int.ofNat_tdiv, Nat.reduceLT, e1, e2, e3, e4, e5, e6, e7, e8, e9]
      refine CallO.on (range_c s _ nl A p 1 tests (by omega) (by omega) hA (by omega) (by omega) (by omega)) (subH_get (by simp only [aqT, aqU, aqN, ↓seqK, ↓blkK, ↓loopK, step, stepBin, Nat.reduceBEq, Nat.reduceBeqDiff, Nat.add_assoc nid, Nat.reduceAdd, reduceCtorEq, ↓reduceIte, Nat.reduceLeDiff, Nat.reduceBneDiff, Option.toList, ← Int.ofNat_tmod, ← Int.ofNat_tdiv, Nat.reduceLT, e1, e2, e3, e4, e5, e6, e7, e8, e9])) ?_
      rw [hm]
      simp -dsimp only [aqT, aqU, aqN, ↓seqK, ↓blkK, ↓loopK, step, stepBin, Nat.reduceBEq, Nat.reduceBeqDiff, Nat.add_assoc nid, Nat.reduceAdd, reduceCtorEq, ↓reduceIte, Nat.reduceLeDiff, Nat.reduceBneDiff, Option.toList, ← Int.ofNat_tmod, ← Int.ofNat_tdiv, Nat.reduceLT, e1, e2, e3, e4, e5, e6, e7, e8, e9, strmC_low]
      refine Cov.go [] [] ?_
      simp [retPV, over, keys, List.map_nil, List.map_cons, List.contains_cons, List.contains_nil, Bool.or_false, Bool.or_true, Bool.true_or, Bool.false_or, beq_self_eq_true, cond_true, cond_false, HeapCov, orNil, nilSz, onBlk, srcOf, getH_hit, getH_miss, getH.eq_1, getS_hit, getS_miss, getS.eq_1, BlkCov, PVCovs, PVCov, ColsEq, AColsEq, ACEq, ColEq.refl, liveIds, SlotsCov, List.all_nil, List.all_cons, List.any_nil, List.any_cons, List.nil_append, List.cons_append, inRange, apart, nilBlk, idS1, idS2, readAll, readRes, onAll, step, res, AX.val, List.drop_zero, List.drop_succ_cons, List.take_succ_cons, List.take_zero, e1, e2, e3, e4, e5, e6, e7, e8, e9, boxP, strmC]
    refine SR.run (t := .mk) ?_
    unfold boxP
    simp -dsimp only [aqT, aqU, aqN, ↓seqK, ↓blkK, ↓loopK, step, stepBin, Nat.reduceBEq, Nat.reduceBeqDiff, Nat.add_assoc nid, Nat.reduceAdd, reduceCtorEq, ↓reduceIte, Nat.reduceLeDiff, Nat.reduceBneDiff, Option.toList, ← Int.ofNat_tmod, ← Int.ofNat_tdiv, Nat.reduceLT, e1, e2, e3, e4, e5, e6, e7, e8, e9, strmC_low]
    refine LP.mkP (fun G : List (List UInt8) => G.length ≤ m ∧ ShortRows 2 G) (fun G => ⟨[(17, .int .i64 G.length), (16, .int .i64 (m : Nat)), (8, .fn 82 [.ptr nid 0]), (7, .ptr (nid + 8) 0), (6, .ptr (nid + 4) 0), (3, .ptr nid 0), (1, .int .i64 (faults : Nat))], [(nid, boxP s), (nid + 4, some (.box 29 [.lit true 0 [], .lit true 0 []])), (nid + 8, some (.box 29 [.sl (nid + 20) 0 G.length, .lit true 0 []])), (nid + 20, arrS G), (s, strmC nl A (p + 1 + G.length))], nid + 200, nid⟩) (fun G => m + 1 - G.length) [] ⟨by simp, fun r hr => by simp at hr⟩ (Cov.go [] [(nid + 20, 1)] ?_) (fun G hG => ?_)
    · simp [retPV, over, keys, List.map_nil, List.map_cons, List.contains_cons, List.contains_nil, Bool.or_false, Bool.or_true, Bool.true_or, Bool.false_or, beq_self_eq_true, cond_true, cond_false, HeapCov, orNil, nilSz, onBlk, srcOf, getH_hit, getH_miss, getH.eq_1, getS_hit, getS_miss, getS.eq_1, BlkCov, PVCovs, PVCov, ColsEq, AColsEq, ACEq, ColEq.refl, liveIds, SlotsCov, List.all_nil, List.all_cons, List.any_nil, List.any_cons, List.nil_append, List.cons_append, inRange, apart, nilBlk, idS1, idS2, readAll, readRes, onAll, step, res, AX.val, List.drop_zero, List.drop_succ_cons, List.take_succ_cons, List.take_zero, e1, e2, e3, e4, e5, e6, e7, e8, e9, boxP, arrS, strmC]
    obtain ⟨hG1, hG2⟩ := hG
    have hal := ansV_len A (p + 1 + G.length)
    unfold boxP arrS
    simp -dsimp only [aqT, aqU, aqN, ↓seqK, ↓blkK, ↓loopK, step, stepBin, Nat.reduceBEq, Nat.reduceBeqDiff, Nat.add_assoc nid, Nat.reduceAdd, reduceCtorEq, ↓reduceIte, Nat.reduceLeDiff, Nat.reduceBneDiff, Option.toList, ← Int.ofNat_tmod, ← Int.ofNat_tdiv, Nat.reduceLT, e1, e2, e3, e4, e5, e6, e7, e8, e9, strmC_low]
    refine S2.dec (fun h3 => ?_) (fun h3 => ?_) <;> simp -dsimp only [aqT, aqU, aqN, aqS, ↓seqK, ↓blkK, ↓loopK, step, stepBin, Nat.add_assoc nid, ↓reduceIte, Option.toList, ← Int.ofNat_tmod, ← Int.ofNat_tdiv, simprocAttr, BEq.rfl, LN_succ, e1, e2, e3, e4, e5, e6, e7, e8, e9, strmC_low]
    · refine CallX.on (ans_c s nid _ nl A (p + 1 + G.length) h (by omega) (by omega) hA) (subH_cons (by simp only [aqT, aqU, aqN, ↓seqK, ↓blkK, ↓loopK, step, stepBin, Nat.reduceBEq, Nat.reduceBeqDiff, Nat.add_assoc nid, Nat.reduceAdd, reduceCtorEq, ↓reduceIte, Nat.reduceLeDiff, Nat.reduceBneDiff, Option.toList, ← Int.ofNat_tmod, ← Int.ofNat_tdiv, Nat.reduceLT, e1, e2, e3, e4, e5, e6, e7, e8, e9, Int.cast_ofNat_Int, Int.reduceBEq, Int.reduceBNe, Int.reduceLT, Int.reduceLE, Int.reduceAdd, Int.reduceSub, Int.reduceMul, Int.reduceToNat, Int.reduceNeg, Int.reduceTMod, Int.reduceEq, not_false_eq_true, Int.reducePow, Int.reduceFDiv, Nat.reducePow, Nat.reduceSub, Nat.reduceMul, Nat.min_eq_left, Nat.reduceEqDiff, BEq.rfl, Int.tdiv_one, LN_succ, boxP]) (subH_get (by simp only [aqT, aqU, aqN, aqS, ↓seqK, ↓blkK, ↓loopK, step, stepBin, Nat.add_assoc nid, ↓reduceIte, Option.toList, ← Int.ofNat_tmod, ← Int.ofNat_tdiv, simprocAttr, BEq.rfl, LN_succ, e1, e2, e3, e4, e5, e6, e7, e8, e9]))) ?_
      simp -dsimp only [aqT, aqU, aqN, ↓seqK, ↓blkK, ↓loopK, step, stepBin, Nat.reduceBEq, Nat.reduceBeqDiff, Nat.add_assoc nid, Nat.reduceAdd, reduceCtorEq, ↓reduceIte, Nat.reduceLeDiff, Nat.reduceBneDiff, Option.toList, ← Int.ofNat_tmod, ← Int.ofNat_tdiv, Nat.reduceLT, e1, e2, e3, e4, e5, e6, e7, e8, e9, strmC_low]
      rw [getD_app1 G (ansV A (p + 1 + G.length)) rfl]
      have hl : (G ++ [ansV A (p + 1 + G.length)]).length = G.length + 1 := by simp
      refine ⟨?_, by omega, by unfold inI64; omega, G ++ [ansV A (p + 1 + G.length)], ⟨⟨by omega, hG2.snoc (by omega)⟩, by omega⟩, Cov.go [(nid + 20, nid + 224)] [] ?_⟩
      · simp
      simp [retPV, over, keys, List.map_nil, List.map_cons, List.contains_cons, List.contains_nil, Bool.or_false, Bool.or_true, Bool.true_or, Bool.false_or, beq_self_eq_true, cond_true, cond_false, HeapCov, orNil, nilSz, onBlk, srcOf, getH_hit, getH_miss, getH.eq_1, getS_hit, getS_miss, getS.eq_1, BlkCov, PVCovs, PVCov, ColsEq, AColsEq, ACEq, ColEq.refl, liveIds, SlotsCov, List.all_nil, List.all_cons, List.any_nil, List.any_cons, List.nil_append, List.cons_append, inRange, apart, nilBlk, idS1, idS2, readAll, readRes, onAll, step, res, AX.val, List.drop_zero, List.drop_succ_cons, List.take_succ_cons, List.take_zero, e1, e2, e3, e4, e5, e6, e7, e8, e9, boxP, arrS, strmC, hl, -List.length_append, -List.getD_eq_getElem?_getD]
      omega
    · have hGm : G.length = m := by omega
      refine ⟨⟨G, hGm, hG2⟩, Cov.go [] [] ?_⟩
      simp [retPV, over, keys, List.map_nil, List.map_cons, List.contains_cons, List.contains_nil, Bool.or_false, Bool.or_true, Bool.true_or, Bool.false_or, beq_self_eq_true, cond_true, cond_false, HeapCov, orNil, nilSz, onBlk, srcOf, getH_hit, getH_miss, getH.eq_1, getS_hit, getS_miss, getS.eq_1, BlkCov, PVCovs, PVCov, ColsEq, AColsEq, ACEq, ColEq.refl, liveIds, SlotsCov, List.all_nil, List.all_cons, List.any_nil, List.any_cons, List.nil_append, List.cons_append, inRange, apart, nilBlk, idS1, idS2, readAll, readRes, onAll, step, res, AX.val, List.drop_zero, List.drop_succ_cons, List.take_succ_cons, List.take_zero, e1, e2, e3, e4, e5, e6, e7, e8, e9, boxP, arrS, strmC, hGm, -List.getD_eq_getElem?_getD]
  have hnd := rangeV_bd A (p + 1 + m) (lo := 0) (hi := (faults : Int)) (by omega)
  obtain ⟨n, hn⟩ : ∃ n : Nat, rangeV A (p + 1 + m) 0 faults = n := ⟨_, (Int.toNat_of_nonneg (by omega)).symm⟩
  simp only
  refine SR.seqW (ι := {x : RowL × Nat // x.1.length = n ∧ x.2 ≤ p + 100 ∧ ∀ y ∈ x.1, y.1 ∈ namesL ∧ y.2.length = m ∧ ShortRows 101 y.2}) (fun x => ⟨[(7, .ptr (nid + 8) 0), (6, .ptr (nid + 4) 0), (3, .ptr nid 0)], [(nid, boxP s), (nid + 4, some (.box 29 [.lit true 0 [], .lit true 0 []])), (nid + 8, boxD (nid + 20) G.length (nid + 24) x.1.1.length), (nid + 20, arrS G), (s, strmC nl A x.1.2), (nid + 24, arrR nid x.1.1)] ++ famR nid x.1.1, nid + 4000, nid⟩) ?_ (fun ⟨⟨R, q⟩, hR1, hq, hR2⟩ => ?_)
  · unfold boxP arrS
    refine SR.seqTo ⟨[(30, .int .i64 0), (29, .int .i64 (n : Nat)), (8, .fn 82 [.ptr nid 0]), (7, .ptr (nid + 8) 0), (6, .ptr (nid + 4) 0), (3, .ptr nid 0)], [(nid, boxP s), (nid + 4, some (.box 29 [.lit true 0 [], .lit true 0 []])), (nid + 8, some (.box 29 [.sl (nid + 20) 0 G.length, .lit true 0 []])), (nid + 20, arrS G), (s, strmC nl A (p + 1 + m + 1))], nid + 1100, nid⟩ ?_ ?_
    · simp -dsimp only [aqT, aqU, aqN, ↓seqK, ↓blkK, ↓loopK, step, stepBin, Nat.reduceBEq, Nat.reduceBeqDiff, Nat.add_assoc nid, Nat.reduceAdd, reduceCtorEq, ↓reduceIte, Nat.reduceLeDiff, Nat.reduceBneDiff, Option.toList, ← Int.ofNat_tmod, ← Int.ofNat_tdiv, Nat.reduceLT, e1, e2, e3, e4, e5, e6, e7, e8, e9, strmC_low]
      refine CallO.on (range_c s _ nl A (p + 1 + m) 0 faults (by omega) (by omega) hA (by omega) (by omega) (by omega)) (subH_get (by simp only [aqT, aqU, aqN, ↓seqK, ↓blkK, ↓loopK, step, stepBin, Nat.reduceBEq, Nat.reduceBeqDiff, Nat.add_assoc nid, Nat.reduceAdd, reduceCtorEq, ↓reduceIte, Nat.reduceLeDiff, Nat.reduceBneDiff, Option.toList, ← Int.ofNat_tmod, ← Int.ofNat_tdiv, Nat.reduceLT, e1, e2, e3, e4, e5, e6, e7, e8, e9])) ?_
      rw [hn]
      simp -dsimp only [aqT, aqU, aqN, ↓seqK, ↓blkK, ↓loopK, step, stepBin, Nat.reduceBEq, Nat.reduceBeqDiff, Nat.add_assoc nid, Nat.reduceAdd, reduceCtorEq, ↓reduceIte, Nat.reduceLeDiff, Nat.reduceBneDiff, Option.toList, ← Int.ofNat_tmod, ← Int.ofNat_tdiv, Nat.reduceLT, e1, e2, e3, e4, e5, e6, e7, e8, e9, strmC_low]
      refine Cov.go [] [] ?_
      simp [retPV, over, keys, List.map_nil, List.map_cons, List.contains_cons, List.contains_nil, Bool.or_false, Bool.or_true, Bool.true_or, Bool.false_or, beq_self_eq_true, cond_true, cond_false, HeapCov, orNil, nilSz, onBlk, srcOf, getH_hit, getH_miss, getH.eq_1, getS_hit, getS_miss, getS.eq_1, BlkCov, PVCovs, PVCov, ColsEq, AColsEq, ACEq, ColEq.refl, liveIds, SlotsCov, List.all_nil, List.all_cons, List.any_nil, List.any_cons, List.nil_append, List.cons_append, inRange, apart, nilBlk, idS1, idS2, readAll, readRes, onAll, step, res, AX.val, List.drop_zero, List.drop_succ_cons, List.take_succ_cons, List.take_zero, e1, e2, e3, e4, e5, e6, e7, e8, e9, boxP, arrS, strmC, -List.getD_eq_getElem?_getD]
    refine SR.block ?_
    refine SR.loopP (fun R : RowL => R.length ≤ n ∧ ∀ y ∈ R, y.1 ∈ namesL ∧ y.2.length = m ∧ ShortRows 101 y.2) (fun R => ⟨[(30, .int .i64 R.length), (29, .int .i64 (n : Nat)), (8, .fn 82 [.ptr nid 0]), (7, .ptr (nid + 8) 0), (6, .ptr (nid + 4) 0), (3, .ptr nid 0)], [(nid, boxP s), (nid + 4, some (.box 29 [.lit true 0 [], .lit true 0 []])), (nid + 8, boxD (nid + 20) G.length (nid + 24) R.length), (nid + 20, arrS G), (s, strmC nl A (p + 1 + m + 1 + 2 * m * R.length)), (nid + 24, arrR nid R)] ++ famR nid R, nid + 1196, nid⟩) (fun R => n + 1 - R.length) [] ⟨by simp, by simp⟩ (Cov.go [] [(nid + 24, 2)] ?_) (fun R hR => ?_)
    · simp [retPV, over, keys, List.map_nil, List.map_cons, List.contains_cons, List.contains_nil, Bool.or_false, Bool.or_true, Bool.true_or, Bool.false_or, beq_self_eq_true, cond_true, cond_false, HeapCov, orNil, nilSz, onBlk, srcOf, getH_hit, getH_miss, getH.eq_1, getS_hit, getS_miss, getS.eq_1, BlkCov, PVCovs, PVCov, ColsEq, AColsEq, ACEq, ColEq.refl, liveIds, SlotsCov, List.all_nil, List.all_cons, List.any_nil, List.any_cons, List.nil_append, List.cons_append, inRange, apart, nilBlk, idS1, idS2, readAll, readRes, onAll, step, res, AX.val, List.drop_zero, List.drop_succ_cons, List.take_succ_cons, List.take_zero, e1, e2, e3, e4, e5, e6, e7, e8, e9, strmC, famR, famC, inR, boxP, boxD, arrS, arrR, -List.getD_eq_getElem?_getD]
    obtain ⟨hRl, hRs⟩ := hR
    refine SR.seq ?_
    unfold boxP boxD arrS
    simp -dsimp only [aqT, aqU, aqN, aqS, ↓seqK, ↓blkK, ↓loopK, step, stepBin, Nat.add_assoc nid, ↓reduceIte, Option.toList, ← Int.ofNat_tmod, ← Int.ofNat_tdiv, simprocAttr, BEq.rfl, LN_succ, e1, e2, e3, e4, e5, e6, e7, e8, e9, strmC_low]
    refine SR.seq ?_
    simp -dsimp only [aqT, aqU, aqN, aqS, ↓seqK, ↓blkK, ↓loopK, step, stepBin, Nat.add_assoc nid, ↓reduceIte, Option.toList, ← Int.ofNat_tmod, ← Int.ofNat_tdiv, simprocAttr, BEq.rfl, LN_succ, e1, e2, e3, e4, e5, e6, e7, e8, e9, strmC_low]
    refine S2.dec (fun h3 => ?_) (fun h3 => ?_) <;> simp -dsimp only [aqT, aqU, aqN, aqS, ↓seqK, ↓blkK, ↓loopK, step, stepBin, Nat.add_assoc nid, ↓reduceIte, Option.toList, ← Int.ofNat_tmod, ← Int.ofNat_tdiv, simprocAttr, BEq.rfl, LN_succ, e1, e2, e3, e4, e5, e6, e7, e8, e9, strmC_low]
    · have hi : R.length = 0 ∨ R.length = 1 ∨ R.length = 2 ∨ R.length = 3 ∨ R.length = 4 ∨ R.length = 5 ∨ R.length = 6 := by omega
      rw [decide_eq_true h3]
      refine SR.seqW _ (dict_round s nid nl A (p + 1 + m + 1 + 2 * m * R.length) m n G R h (by have : 2 * m * R.length ≤ 2 * 6 * 7 := Nat.mul_le_mul (by omega) (by omega); omega) hA hG1 (by omega) (by omega) hG2 hi _) (fun ⟨L, hL1, hL2⟩ => ?_)
      simp only
      have hll : (R ++ [(faultN R.length, L)]).length = R.length + 1 := by simp
      have hq2 : p + 1 + m + 1 + 2 * m * R.length + 2 * m = p + 1 + m + 1 + 2 * m * (R ++ [(faultN R.length, L)]).length := by
        have e := congrArg (fun x => p + 1 + m + 1 + 2 * m * x) hll
        rw [e, Nat.mul_succ]
        omega
      rw [hq2, ← hll]
      refine SR.run (t := .mk) ?_
      simp -dsimp only [aqT, aqU, aqN, aqS, ↓seqK, ↓blkK, ↓loopK, step, stepBin, Nat.add_assoc nid, ↓reduceIte, Option.toList, ← Int.ofNat_tmod, ← Int.ofNat_tdiv, simprocAttr, BEq.rfl, LN_succ, e1, e2, e3, e4, e5, e6, e7, e8, e9, strmC_low]
      refine ⟨by unfold inI64; omega, R ++ [(faultN R.length, L)], ⟨⟨by rw [hll]; omega, fun y hy => ?_⟩, by rw [hll]; omega⟩, Cov.drop (by omega) ?_⟩
      · rcases List.mem_append.1 hy with hy | hy
        · exact hRs y hy
        · simp only [List.mem_singleton] at hy
          subst hy
          refine ⟨?_, hL1, hL2.mono (by omega)⟩
          exact faultN_mem (by omega)
      · simp only [SlotsIn, aqT, aqU, aqN, ↓seqK, ↓blkK, ↓loopK, step, stepBin, Nat.reduceBEq, Nat.reduceBeqDiff, Nat.add_assoc nid, Nat.reduceAdd, reduceCtorEq, ↓reduceIte, Nat.reduceLeDiff, Nat.reduceBneDiff, Option.toList, ← Int.ofNat_tmod, ← Int.ofNat_tdiv, Nat.reduceLT, hll]
        try simp
    · have hRn : R.length = n := by omega
      refine ⟨⟨(R, p + 1 + m + 1 + 2 * m * R.length), hRn, ?_, hRs⟩, Cov.drop (by omega) ?_⟩
      · have : 2 * m * R.length ≤ 2 * 6 * 7 := Nat.mul_le_mul (by omega) (by omega)
        simp only
        omega
      · simp only [SlotsIn, aqT, aqU, aqN, ↓seqK, ↓blkK, ↓loopK, step, stepBin, Nat.reduceBEq, Nat.reduceBeqDiff, Nat.add_assoc nid, Nat.reduceAdd, reduceCtorEq, ↓reduceIte, Nat.reduceLeDiff, Nat.reduceBneDiff, Option.toList, ← Int.ofNat_tmod, ← Int.ofNat_tdiv, Nat.reduceLT]
        try simp
  simp only at hR1 hq hR2 ⊢
  have hmemB : ∀ y ∈ R, 1 ≤ y.2.length ∧ y.2.length ≤ tests := fun y hy => by have := (hR2 y hy).2.1; omega
  have hB : DictB tests G R := ⟨by omega, hG2.mono (by omega), by omega, fun y hy => by
    obtain ⟨g1, g2, g3⟩ := hR2 y hy
    exact ⟨g1, by omega, g3⟩⟩
  have hq9 : q ≤ p + 100 := hq
  clear hR2 hq hG2
  refine SR.seqW (ι := {x : SpX // DictB tests x.G x.R ∧ x.q ≤ p + 1000}) (fun x => ⟨[(7, .ptr (nid + 8) 0), (6, .ptr (nid + 4) 0)], dictH s nid nl A x.1.q x.1.G x.1.R, nid + 5000, nid⟩) ?_ (fun ⟨x, hx1, hx2⟩ => dict_end s nid p x.q (p + 1000) tests nl A x.G x.R h hx1 hx2)
  have hf0 : ∀ c, R.length = c → famR nid R = famC nid R c := fun c hc => by rw [← hc]; rfl
  have hrl := hB.rl
  have hi : R.length = 0 ∨ R.length = 1 ∨ R.length = 2 ∨ R.length = 3 ∨ R.length = 4 ∨ R.length = 5 ∨ R.length = 6 ∨ R.length = 7 := by omega
  refine SR.seqTo ⟨[(65, .bool (flipV A q 12)), (7, .ptr (nid + 8) 0), (6, .ptr (nid + 4) 0), (3, .ptr nid 0)], dictH s nid nl A (q + 1) G R, nid + 4100, nid⟩ ?_ ?_
  · unfold boxP
    simp -dsimp only [aqT, aqU, aqN, aqS, ↓seqK, ↓blkK, ↓loopK, step, stepBin, Nat.add_assoc nid, ↓reduceIte, Option.toList, ← Int.ofNat_tmod, ← Int.ofNat_tdiv, simprocAttr, BEq.rfl, LN_succ, e1, e2, e3, e4, e5, e6, e7, e8, e9, strmC_low]
    refine CallO.on (flip_c s _ nl A q 12 (by omega) (by omega) hA (by omega)) (subH_get (by simp only [aqT, aqU, aqN, ↓seqK, ↓blkK, ↓loopK, step, stepBin, Nat.reduceBEq, Nat.reduceBeqDiff, Nat.add_assoc nid, Nat.reduceAdd, reduceCtorEq, ↓reduceIte, Nat.reduceLeDiff, Nat.reduceBneDiff, Option.toList, ← Int.ofNat_tmod, ← Int.ofNat_tdiv, Nat.reduceLT, e1, e2, e3, e4, e5, e6, e7, e8, e9, Int.cast_ofNat_Int, Int.reduceBEq, Int.reduceBNe, Int.reduceLT, Int.reduceLE, Int.reduceAdd, Int.reduceSub, Int.reduceMul, Int.reduceToNat, Int.reduceNeg, Int.reduceTMod, Int.reduceEq, not_false_eq_true, Int.reducePow, Int.reduceFDiv, Nat.reducePow, Nat.reduceSub, Nat.reduceMul, Nat.min_eq_left, Nat.reduceEqDiff, BEq.rfl, Int.tdiv_one, LN_succ])) ?_
    simp -dsimp only [aqT, aqU, aqN, aqS, ↓seqK, ↓blkK, ↓loopK, step, stepBin, Nat.add_assoc nid, ↓reduceIte, Option.toList, ← Int.ofNat_tmod, ← Int.ofNat_tdiv, simprocAttr, BEq.rfl, LN_succ, e1, e2, e3, e4, e5, e6, e7, e8, e9, strmC_low]
    refine Cov.go [] [] ?_
    simp only [dictH]
    rcases hi with hi | hi | hi | hi | hi | hi | hi | hi
    all_goals
      rw [hf0 _ hi]
      simp [retPV, over, keys, List.map_nil, List.map_cons, List.contains_cons, List.contains_nil, Bool.or_false, Bool.or_true, Bool.true_or, Bool.false_or, beq_self_eq_true, cond_true, cond_false, HeapCov, orNil, nilSz, onBlk, srcOf, getH_hit, getH_miss, getH.eq_1, getS_hit, getS_miss, getS.eq_1, BlkCov, PVCovs, PVCov, ColsEq, AColsEq, ACEq, ColEq.refl, liveIds, SlotsCov, List.all_nil, List.all_cons, List.any_nil, List.any_cons, List.nil_append, List.cons_append, inRange, apart, nilBlk, idS1, idS2, readAll, readRes, onAll, step, res, AX.val, List.drop_zero, List.drop_succ_cons, List.take_succ_cons, List.take_zero, e1, e2, e3, e4, e5, e6, e7, e8, e9, strmC, famC, inR, boxP, boxD, arrS, arrR, -List.getD_eq_getElem?_getD]
      exact fun j hj => by omega
  refine SR.cond (b := flipV A q 12) (by simp [AX.val, getS]) (fun hf => ?_) (fun hf => ?_)
  · have hsp := spoil_I s nid (q + 1) (p + 1000) tests nl A G R h hB (by omega) hmemB (by omega) (by omega) (by omega) hA
    refine SR.run (t := .mk) ?_
    unfold dictH boxP
    simp -dsimp only [aqT, aqU, aqN, aqS, ↓seqK, ↓blkK, ↓loopK, step, stepBin, Nat.add_assoc nid, ↓reduceIte, Option.toList, ← Int.ofNat_tmod, ← Int.ofNat_tdiv, simprocAttr, BEq.rfl, LN_succ, e1, e2, e3, e4, e5, e6, e7, e8, e9, strmC_low]
    refine CallO.any hsp (fun id b hb => hb) (fun x hx => ?_)
    obtain ⟨hx1, hx2, hx3⟩ := hx
    obtain ⟨xG, xR, xq, xo⟩ := x
    simp only at hx1 hx2 hx3 ⊢
    have hxl := hx1.rl
    have hf2 : ∀ c, xR.length = c → famR nid xR = famC nid xR c := fun c hc => by rw [← hc]; rfl
    cases xo with
    | none =>
      simp only [spU]
      refine ⟨⟨⟨xG, xR, xq, none⟩, hx1, hx2⟩, Cov.go [] [] ?_⟩
      simp only [dictH]
      have hi2 : xR.length = 0 ∨ xR.length = 1 ∨ xR.length = 2 ∨ xR.length = 3 ∨ xR.length = 4 ∨ xR.length = 5 ∨ xR.length = 6 ∨ xR.length = 7 := by omega
      clear hi hx3 hsp
      rcases hi2 with hi | hi | hi | hi | hi | hi | hi | hi
      all_goals
        rw [hf2 _ hi]
        simp [retPV, over, keys, List.map_nil, List.map_cons, List.contains_cons, List.contains_nil, Bool.or_false, Bool.or_true, Bool.true_or, Bool.false_or, beq_self_eq_true, cond_true, cond_false, HeapCov, orNil, nilSz, onBlk, srcOf, getH_hit, getH_miss, getH.eq_1, getS_hit, getS_miss, getS.eq_1, BlkCov, PVCovs, PVCov, ColsEq, AColsEq, ACEq, ColEq.refl, liveIds, SlotsCov, List.all_nil, List.all_cons, List.any_nil, List.any_cons, List.nil_append, List.cons_append, inRange, apart, nilBlk, idS1, idS2, readAll, readRes, onAll, step, res, AX.val, List.drop_zero, List.drop_succ_cons, List.take_succ_cons, List.take_zero, e1, e2, e3, e4, e5, e6, e7, e8, e9, putS, strmC, famC, inR, boxP, boxD, arrS, arrR, -List.getD_eq_getElem?_getD]
        exact fun j hj => by omega
    | some I =>
      obtain ⟨hIR, rfl, hR'⟩ := hx3 I rfl
      simp only [spU]
      have hll : xR.length = R.length := by rw [hR', List.length_set]
      have fO : ∀ j, j ≠ I → rowR xR j = rowR R j := fun j hj => by rw [hR', rowR_set _ hIR, if_neg hj]
      clear hR' hx3 hsp
      refine ⟨⟨⟨xG, xR, xq, none⟩, hx1, hx2⟩, Cov.go [(nid + (100 + I), nid + 4104)] [] ?_⟩
      simp only [dictH]
      have hI6 : I = 0 ∨ I = 1 ∨ I = 2 ∨ I = 3 ∨ I = 4 ∨ I = 5 ∨ I = 6 := by omega
      rcases hi with hi | hi | hi | hi | hi | hi | hi | hi <;> rcases hI6 with rfl | rfl | rfl | rfl | rfl | rfl | rfl
      all_goals try (exfalso; omega)
      all_goals
        rw [hf0 _ hi, hf2 _ (hll.trans hi)]
        simp [retPV, over, keys, List.map_nil, List.map_cons, List.contains_cons, List.contains_nil, Bool.or_false, Bool.or_true, Bool.true_or, Bool.false_or, beq_self_eq_true, cond_true, cond_false, HeapCov, orNil, nilSz, onBlk, srcOf, getH_hit, getH_miss, getH.eq_1, getS_hit, getS_miss, getS.eq_1, BlkCov, PVCovs, PVCov, ColsEq, AColsEq, ACEq, ColEq.refl, liveIds, SlotsCov, List.all_nil, List.all_cons, List.any_nil, List.any_cons, List.nil_append, List.cons_append, inRange, apart, nilBlk, idS1, idS2, readAll, readRes, onAll, step, res, AX.val, List.drop_zero, List.drop_succ_cons, List.take_succ_cons, List.take_zero, e1, e2, e3, e4, e5, e6, e7, e8, e9, putS, strmC, famC, inR, boxP, boxD, arrS, arrR, fO, hll, -List.getD_eq_getElem?_getD]
        first
          | exact fun j hj => by omega
          | exact fun j hj => ⟨by split <;> split <;> first | rfl | omega, by omega⟩
  · refine SR.run (t := .mk) ?_
    simp -dsimp only [aqT, aqU, aqN, aqS, ↓seqK, ↓blkK, ↓loopK, step, stepBin, Nat.add_assoc nid, ↓reduceIte, Option.toList, ← Int.ofNat_tmod, ← Int.ofNat_tdiv, simprocAttr, BEq.rfl, LN_succ, e1, e2, e3, e4, e5, e6, e7, e8, e9, strmC_low]
    refine ⟨⟨⟨G, R, q + 1, none⟩, hB, by simp only; omega⟩, Cov.drop (by omega) ?_⟩
    simp only [SlotsIn, aqT, aqU, aqN, ↓seqK, ↓blkK, ↓loopK, step, stepBin, Nat.reduceBEq, Nat.reduceBeqDiff, Nat.add_assoc nid, Nat.reduceAdd, reduceCtorEq, ↓reduceIte, Nat.reduceLeDiff, Nat.reduceBneDiff, Option.toList, ← Int.ofNat_tmod, ← Int.ofNat_tdiv, Nat.reduceLT]
    try simp
end Go.Proofs.YtpifoghhaohhaaaGreatDoor
namespace Go.Proofs.YtpifoghhaohhaaaGreatDoor
open Go.RowKit
def arrI (l : List Int) : Option ABlk := some (.arr 3 l.length [.i .i64 fun i => l.getD i 0])
def litI (nl : Bool) (l : List Int) : PV := .lit nl l.length [.i .i64 fun i => l.getD i 0]
theorem out_c (x lo hi : Int) (nid : Nat) : ACall Tryz.prog 155 [.int .i64 x, .int .i64 lo, .int .i64 hi] [] nid (.bool (outB x lo hi)) [] := by
  refine acall_run c155 (by simp [a155]) ?_
  simp -dsimp only [a155, aqT, aqU, aqN, ↓seqK, ↓blkK, ↓loopK, step, stepBin, Nat.reduceBEq, Nat.reduceBeqDiff, Nat.add_assoc nid, Nat.reduceAdd, reduceCtorEq, ↓reduceIte, Nat.reduceLeDiff, Nat.reduceBneDiff, Option.toList, ← Int.ofNat_tmod, ← Int.ofNat_tdiv, Nat.reduceLT]
  refine S2.dec (fun h => ?_) (fun h => ?_) <;> simp -dsimp only [aqT, aqU, aqN, ↓seqK, ↓blkK, ↓loopK, step, stepBin, Nat.reduceBEq, Nat.reduceBeqDiff, Nat.add_assoc nid, Nat.reduceAdd, reduceCtorEq, ↓reduceIte, Nat.reduceLeDiff, Nat.reduceBneDiff, Option.toList, ← Int.ofNat_tmod, ← Int.ofNat_tdiv, Nat.reduceLT] <;> refine RetOK.pure (.inl rfl) rfl ?_ <;> simp [cvT, step, res, outB] <;> omega
theorem in_c (x lo hi : Int) (nid : Nat) : ACall Tryz.prog 98 [.int .i64 x, .int .i64 lo, .int .i64 hi] [] nid (.bool (!outB x lo hi)) [] := by
  refine acall_run c98 (by simp [a98]) ?_
  simp -dsimp only [a98, aqT, aqU, aqN, ↓seqK, ↓blkK, ↓loopK, step, stepBin, Nat.reduceBEq, Nat.reduceBeqDiff, Nat.add_assoc nid, Nat.reduceAdd, reduceCtorEq, ↓reduceIte, Nat.reduceLeDiff, Nat.reduceBneDiff, Option.toList, ← Int.ofNat_tmod, ← Int.ofNat_tdiv, Nat.reduceLT]
  refine S2.dec (fun h => ?_) (fun h => ?_) <;> simp -dsimp only [aqT, aqU, aqN, ↓seqK, ↓blkK, ↓loopK, step, stepBin, Nat.reduceBEq, Nat.reduceBeqDiff, Nat.add_assoc nid, Nat.reduceAdd, reduceCtorEq, ↓reduceIte, Nat.reduceLeDiff, Nat.reduceBneDiff, Option.toList, ← Int.ofNat_tmod, ← Int.ofNat_tdiv, Nat.reduceLT] <;> refine RetOK.pure (.inl rfl) rfl ?_ <;> simp [cvT, step, res, outB] <;> first | omega | (rw [Bool.eq_iff_iff]; simp; omega)
theorem index_c (nl : Bool) (l : List Int) (x : Int) (nid : Nat) (hl : l.length ≤ 1000000000) : ∃ r : Int, (0 ≤ r ↔ x ∈ l) ∧ ACall Tryz.prog 186 [litI nl l, .int .i64 x] [] nid (.int .i64 r) [] := by
  refine ⟨match l.findIdx? (· == x) with | some k => (k : Int) | none => -1, ?_, ?_⟩
  · cases h : l.findIdx? (· == x) with
    | none =>
      rw [List.findIdx?_eq_none_iff] at h
      simp only [Int.reduceNeg, Int.reduceLE, false_iff]
      exact fun hx => by simpa using h x hx
    | some k =>
      simp only [Int.natCast_nonneg, true_iff]
      obtain ⟨hk, h1, _⟩ := List.findIdx?_eq_some_iff_getElem.1 h
      have : l[k] = x := by simpa using h1
      rw [← this]; exact List.getElem_mem hk
  refine acall_run c186 (by simp [a186]) ?_
  unfold litI
  simp -dsimp only [aqT, aqU, aqN, ↓seqK, ↓blkK, ↓loopK, step, stepBin, Nat.reduceBEq, Nat.reduceBeqDiff, Nat.add_assoc nid, Nat.reduceAdd, reduceCtorEq, ↓reduceIte, Nat.reduceLeDiff, Nat.reduceBneDiff, Option.toList, ← Int.ofNat_tmod, ← Int.ofNat_tdiv, Nat.reduceLT, a186]
  refine LP.mkP (fun k : Nat => k ≤ l.length ∧ ∀ i, i < k → l.getD i 0 ≠ x) (fun k : Nat => ⟨[(8, .int .i64 k), (7, .int .i64 l.length), (0, litI nl l), (1, .int .i64 x)], [], nid + 1000, nid⟩) (fun k => l.length + 1 - k) 0 ?_ (Cov.go [] [] ?_) (fun k hk => ?_)
  · exact ⟨by omega, fun i hi => by omega⟩
  · simp [cvT, step, res, litI]
  unfold litI
  obtain ⟨hk, hno⟩ := hk
  have get : ∀ i (hi : i < l.length), l.getD i 0 = l[i] := fun i hi => by rw [List.getD_eq_getElem?_getD, List.getElem?_eq_getElem hi]; rfl
  simp -dsimp only [aqT, aqU, aqN, ↓seqK, ↓blkK, ↓loopK, step, stepBin, Nat.reduceBEq, Nat.reduceBeqDiff, Nat.add_assoc nid, Nat.reduceAdd, reduceCtorEq, ↓reduceIte, Nat.reduceLeDiff, Nat.reduceBneDiff, Option.toList, ← Int.ofNat_tmod, ← Int.ofNat_tdiv, Nat.reduceLT]
  refine S2.dec (fun h3 => ?_) (fun h3 => ?_) <;> simp -dsimp only [aqT, aqU, aqN, ↓seqK, ↓blkK, ↓loopK, step, stepBin, Nat.reduceBEq, Nat.reduceBeqDiff, Nat.add_assoc nid, Nat.reduceAdd, reduceCtorEq, ↓reduceIte, Nat.reduceLeDiff, Nat.reduceBneDiff, Option.toList, ← Int.ofNat_tmod, ← Int.ofNat_tdiv, Nat.reduceLT]
  · have hkl : k < l.length := by omega
    refine ⟨by omega, S2.intro (fun h4 => ?_) (fun h4 => ?_)⟩ <;> simp -dsimp only [aqT, aqU, aqN, ↓seqK, ↓blkK, ↓loopK, step, stepBin, Nat.reduceBEq, Nat.reduceBeqDiff, Nat.add_assoc nid, Nat.reduceAdd, reduceCtorEq, ↓reduceIte, Nat.reduceLeDiff, Nat.reduceBneDiff, Option.toList, ← Int.ofNat_tmod, ← Int.ofNat_tdiv, Nat.reduceLT]
    · have h5 : x = l.getD k 0 := by simpa using h4
      have : l.findIdx? (· == x) = some k := by
        rw [List.findIdx?_eq_some_iff_getElem]
        refine ⟨hkl, by rw [← get k hkl, ← h5]; simp, fun i hi => ?_⟩
        have := hno i hi
        rw [get i (by omega)] at this
        simpa using this
      rw [this]
      refine RetOK.pure (.inl rfl) rfl ?_
      simp [cvT, step, res]
    · have h5 : x ≠ l.getD k 0 := by simpa using h4
      refine ⟨by unfold inI64; omega, k + 1, ⟨⟨by omega, fun i hi => ?_⟩, by omega⟩, Cov.go [] [] ?_⟩
      · by_cases e : i = k
        · subst e; exact fun h => h5 h.symm
        · exact hno i (by omega)
      · simp [cvT, step, res, litI]
  · have : l.findIdx? (· == x) = none := by
      rw [List.findIdx?_eq_none_iff]
      intro y hy
      obtain ⟨i, hi, rfl⟩ := List.mem_iff_getElem.1 hy
      have := hno i (by omega)
      rw [get i hi] at this
      simpa using this
    rw [this]
    refine RetOK.pure (.inl rfl) rfl ?_
    simp [cvT, step, res]
theorem contains_c (nl : Bool) (l : List Int) (x : Int) (nid : Nat) (hl : l.length ≤ 1000000000) : ACall Tryz.prog 99 [litI nl l, .int .i64 x] [] nid (.bool (l.contains x)) [] := by
  refine acall_run c99 (by simp [a99]) ?_
  simp -dsimp only [a99, aqT, aqU, aqN, ↓seqK, ↓blkK, ↓loopK, step, stepBin, Nat.reduceBEq, Nat.reduceBeqDiff, Nat.add_assoc nid, Nat.reduceAdd, reduceCtorEq, ↓reduceIte, Nat.reduceLeDiff, Nat.reduceBneDiff, Option.toList, ← Int.ofNat_tmod, ← Int.ofNat_tdiv, Nat.reduceLT]
  obtain ⟨r, h1, h2⟩ := index_c nl l x (nid + 12) hl
  refine CallO.pure (h2) ?_
  simp -dsimp only [aqT, aqU, aqN, ↓seqK, ↓blkK, ↓loopK, step, stepBin, Nat.reduceBEq, Nat.reduceBeqDiff, Nat.add_assoc nid, Nat.reduceAdd, reduceCtorEq, ↓reduceIte, Nat.reduceLeDiff, Nat.reduceBneDiff, Option.toList, ← Int.ofNat_tmod, ← Int.ofNat_tdiv, Nat.reduceLT]
  have : decide (0 ≤ r) = l.contains x := by
    rw [Bool.eq_iff_iff]
    simp [h1]
  rw [this]
  refine RetOK.pure (.inl rfl) rfl ?_
  simp [cvT, step, res]
end Go.Proofs.YtpifoghhaohhaaaGreatDoor
namespace Go.Proofs.YtpifoghhaohhaaaGreatDoor
open Go.RowKit Go.Shelf Go.Lib
theorem indexKS_c (s : List UInt8) (c : Int) (nid : Nat) : ACall Tryz.prog 279 [.str s, .int .u8 c] [] nid (.int .i64 (Lib.indexByte s c.toNat.toUInt8)) [] := by
  intro C vs hb hl hr hs
  obtain ⟨v0, v1, rfl⟩ : ∃ a b, vs = [a, b] := by
    rcases vs with _ | ⟨a, _ | ⟨b, _ | ⟨c, r⟩⟩⟩
    · simp at hl
    · simp at hl
    · exact ⟨a, b, rfl⟩
    · simp at hl
  have r0 := (hr 0 _ v0 rfl rfl).str_inv
  have r1 := (hr 1 _ v1 rfl rfl).int_inv
  subst r0; subst r1
  refine .inr ⟨.int .i64 (Lib.indexByte s c.toNat.toUInt8), C.w0, ?_, C.Y0, C.m0, .int, by simpa using hs.next (show nid ≤ nid + 4 by omega), Ev.refl _ _ _⟩
  rw [run_callFunc_extern (P := Tryz.prog) (f := 279) (fn := Tryz.f279) (e := Extern.BytealgIndexByte.indexByte) Tryz.func279 (by kernel_rfl) (by kernel_rfl) (by kernel_rfl) (by kernel_rfl)]
  have h := Lib.run_indexByteString (P := Tryz.prog) ⟨s.toArray⟩ c C.w0
  show ((Extern.BytealgIndexByte.indexByte #[.string ⟨s.toArray⟩, .int .u8 c]).run Tryz.prog C.w0).andThen _ = _
  rw [h]
  rfl
theorem indexK_c (s : List UInt8) (c : Int) (nid : Nat) : ACall Tryz.prog 181 [.str s, .int .u8 c] [] nid (.int .i64 (Lib.indexByte s c.toNat.toUInt8)) [] := by
  have h1 : ∀ nid, ACall Tryz.prog 237 [.str s, .int .u8 c] [] nid (.int .i64 (Lib.indexByte s c.toNat.toUInt8)) [] := fun nid => by
    refine acall_run c237 (by simp [a237]) ?_
    simp -dsimp only [a237, aqT, aqU, aqN, ↓seqK, ↓blkK, ↓loopK, step, stepBin, Nat.reduceBEq, Nat.reduceBeqDiff, Nat.add_assoc nid, Nat.reduceAdd, reduceCtorEq, ↓reduceIte, Nat.reduceLeDiff, Nat.reduceBneDiff, Option.toList, ← Int.ofNat_tmod, ← Int.ofNat_tdiv, Nat.reduceLT]
    refine CallO.pure (indexKS_c s c _) ?_
    simp -dsimp only [aqT, aqU, aqN, ↓seqK, ↓blkK, ↓loopK, step, stepBin, Nat.reduceBEq, Nat.reduceBeqDiff, Nat.add_assoc nid, Nat.reduceAdd, reduceCtorEq, ↓reduceIte, Nat.reduceLeDiff, Nat.reduceBneDiff, Option.toList, ← Int.ofNat_tmod, ← Int.ofNat_tdiv, Nat.reduceLT]
    refine RetOK.pure (.inl rfl) rfl ?_
    simp [cvT, step, res]
  refine acall_run c181 (by simp [a181]) ?_
  simp -dsimp only [a181, aqT, aqU, aqN, ↓seqK, ↓blkK, ↓loopK, step, stepBin, Nat.reduceBEq, Nat.reduceBeqDiff, Nat.add_assoc nid, Nat.reduceAdd, reduceCtorEq, ↓reduceIte, Nat.reduceLeDiff, Nat.reduceBneDiff, Option.toList, ← Int.ofNat_tmod, ← Int.ofNat_tdiv, Nat.reduceLT]
  refine CallO.pure (h1 _) ?_
  simp -dsimp only [aqT, aqU, aqN, ↓seqK, ↓blkK, ↓loopK, step, stepBin, Nat.reduceBEq, Nat.reduceBeqDiff, Nat.add_assoc nid, Nat.reduceAdd, reduceCtorEq, ↓reduceIte, Nat.reduceLeDiff, Nat.reduceBneDiff, Option.toList, ← Int.ofNat_tmod, ← Int.ofNat_tdiv, Nat.reduceLT]
  refine RetOK.pure (.inl rfl) rfl ?_
  simp [cvT, step, res]
theorem any_range {s : List UInt8} {F : UInt8 → Bool} : (List.range s.length).any (fun i => F (s.getD i 0)) = s.any F := by
  rw [Bool.eq_iff_iff, List.any_eq_true, List.any_eq_true]
  constructor
  · rintro ⟨i, hi, h⟩
    have hi' := List.mem_range.1 hi
    refine ⟨s[i], List.getElem_mem _, ?_⟩
    rwa [List.getD_eq_getElem?_getD, List.getElem?_eq_getElem hi'] at h
  · rintro ⟨x, hx, h⟩
    obtain ⟨i, hi, rfl⟩ := List.getElem_of_mem hx
    refine ⟨i, List.mem_range.2 hi, ?_⟩
    rw [List.getD_eq_getElem?_getD, List.getElem?_eq_getElem hi]
    exact h
theorem indexFB (f : Nat) (F : UInt8 → Bool) (hf : ∀ (b : UInt8) nid, ACall Tryz.prog f [.int .u8 ((b.toNat : Nat))] [] nid (.bool (F b)) []) (nl : Bool) (n : Nat) (g : Nat → UInt8) (nid : Nat) (hn : n ≤ 1000000000) :
    ∃ r : Int, (-1 ≤ r ∧ (0 ≤ r ↔ (List.range n).any (fun i => F (g i)) = true)) ∧ ACall Tryz.prog 229 [.lit nl n [.i .u8 fun i => ((g i).toNat : Nat)], .fn f []] [] nid (.int .i64 r) [] := by
  refine acall_ex c229 (by simp [a229]) ?_
  simp -dsimp only [aqT0, ROp0, aqT, aqU, aqN, aqS, ↓seqK, ↓blkK, ↓loopK, step, stepBin, Nat.add_assoc nid, ↓reduceIte, Option.toList, ← Int.ofNat_tmod, ← Int.ofNat_tdiv, simprocAttr, BEq.rfl, LN_succ, a229]
  refine LP0.mkP (fun k : Nat => k ≤ n ∧ ∀ j, j < k → F (g j) = false) (fun k : Nat => ⟨[(8, .int .i64 k), (7, .int .i64 n), (0, .lit nl n [.i .u8 fun i => ((g i).toNat : Nat)]), (1, .fn f [])], [], nid + 100, nid⟩) (fun k => n + 1 - k) 0 ⟨by omega, fun j hj => by omega⟩ (Cov.go [] [] ?_) (fun k hk => ?_)
  · simp [cvT, step, res]
  obtain ⟨hk, hall⟩ := hk
  simp -dsimp only [aqT0, ROp0, aqT, aqU, aqN, aqS, ↓seqK, ↓blkK, ↓loopK, step, stepBin, Nat.add_assoc nid, ↓reduceIte, Option.toList, ← Int.ofNat_tmod, ← Int.ofNat_tdiv, simprocAttr, BEq.rfl, LN_succ]
  refine S2.dec (fun h3 => ?_) (fun h3 => ?_) <;> simp -dsimp only [aqT0, ROp0, aqT, aqU, aqN, aqS, ↓seqK, ↓blkK, ↓loopK, step, stepBin, Nat.add_assoc nid, ↓reduceIte, Option.toList, ← Int.ofNat_tmod, ← Int.ofNat_tdiv, simprocAttr, BEq.rfl, LN_succ]
  · have hkl : k < n := by omega
    refine ⟨by omega, CallX.pure (hf _ _) ?_⟩
    simp -dsimp only [aqT0, ROp0, aqT, aqU, aqN, aqS, ↓seqK, ↓blkK, ↓loopK, step, stepBin, Nat.add_assoc nid, ↓reduceIte, Option.toList, ← Int.ofNat_tmod, ← Int.ofNat_tdiv, simprocAttr, BEq.rfl, LN_succ]
    refine S2.intro (fun h4 => ?_) (fun h4 => ?_) <;> simp -dsimp only [aqT0, ROp0, aqT, aqU, aqN, aqS, ↓seqK, ↓blkK, ↓loopK, step, stepBin, Nat.add_assoc nid, ↓reduceIte, Option.toList, ← Int.ofNat_tmod, ← Int.ofNat_tdiv, simprocAttr, BEq.rfl, LN_succ]
    · refine EndOK.mk (k : Int) ⟨by omega, ⟨fun _ => List.any_eq_true.2 ⟨k, List.mem_range.2 hkl, h4⟩, fun _ => by omega⟩⟩ ?_
      refine RetOK.pure (.inl rfl) rfl ?_
      simp [cvT, step, res]
    · refine ⟨by unfold inI64; omega, k + 1, ⟨⟨by omega, fun j hj => ?_⟩, by omega⟩, Cov.go [] [] ?_⟩
      · rcases (by omega : j < k ∨ j = k) with hj | hj
        · exact hall j hj
        · rw [hj]; exact h4
      · simp [cvT, step, res]
  · have hkn : k = n := by omega
    subst hkn
    refine EndOK.mk (-1 : Int) ⟨by omega, ⟨fun h => by omega, fun h => ?_⟩⟩ ?_
    · obtain ⟨i, hi, h⟩ := List.any_eq_true.1 h
      rw [hall i (List.mem_range.1 hi)] at h
      cases h
    · refine RetOK.pure (.inl rfl) rfl ?_
      simp [cvT, step, res]
theorem containsFB (f : Nat) (F : UInt8 → Bool) (hf : ∀ (b : UInt8) nid, ACall Tryz.prog f [.int .u8 ((b.toNat : Nat))] [] nid (.bool (F b)) []) (nl : Bool) (n : Nat) (g : Nat → UInt8) (nid : Nat) (hn : n ≤ 1000000000) :
    ACall Tryz.prog 178 [.lit nl n [.i .u8 fun i => ((g i).toNat : Nat)], .fn f []] [] nid (.bool ((List.range n).any (fun i => F (g i)))) [] := by
  refine acall_run c178 (by simp [a178]) ?_
  simp -dsimp only [aqT, aqU, aqN, ↓seqK, ↓blkK, ↓loopK, step, stepBin, Nat.reduceBEq, Nat.reduceBeqDiff, Nat.add_assoc nid, Nat.reduceAdd, reduceCtorEq, ↓reduceIte, Nat.reduceLeDiff, Nat.reduceBneDiff, Option.toList, ← Int.ofNat_tmod, ← Int.ofNat_tdiv, Nat.reduceLT, a178]
  refine CallO.onE (Hs := []) (indexFB f F hf nl n g _ hn) (subH_nil _) (fun r hr => ?_)
  simp -dsimp only [aqT, aqU, aqN, aqS, ↓seqK, ↓blkK, ↓loopK, step, stepBin, Nat.add_assoc nid, ↓reduceIte, Option.toList, ← Int.ofNat_tmod, ← Int.ofNat_tdiv, simprocAttr, BEq.rfl, LN_succ]
  have e : decide (0 ≤ r) = (List.range n).any (fun i => F (g i)) := by
    rw [Bool.eq_iff_iff, decide_eq_true_eq]; exact hr.2
  rw [e]
  refine RetOK.pure (.inl rfl) rfl ?_
  simp [cvT, step, res]
def oddC (b : UInt8) : Bool := outB ((b.toNat : Nat) : Int) 33 126
def respB (s : List UInt8) : Bool := !outB s.length 1 100 && !s.any oddC
theorem oddC_c (b : UInt8) (nid : Nat) : ACall Tryz.prog 179 [.int .u8 ((b.toNat : Nat))] [] nid (.bool (oddC b)) [] := by
  refine acall_run c179 (by simp [a179]) ?_
  simp -dsimp only [aqT, aqU, aqN, aqS, ↓seqK, ↓blkK, ↓loopK, step, stepBin, Nat.add_assoc nid, ↓reduceIte, Option.toList, ← Int.ofNat_tmod, ← Int.ofNat_tdiv, simprocAttr, BEq.rfl, LN_succ, a179]
  refine S2.dec (fun h => ?_) (fun h => ?_) <;> simp -dsimp only [aqT, aqU, aqN, aqS, ↓seqK, ↓blkK, ↓loopK, step, stepBin, Nat.add_assoc nid, ↓reduceIte, Option.toList, ← Int.ofNat_tmod, ← Int.ofNat_tdiv, simprocAttr, BEq.rfl, LN_succ] <;> refine RetOK.pure (.inl rfl) rfl ?_ <;> simp [cvT, step, res, oddC, outB] <;> omega
theorem respR_c (s : List UInt8) (nid : Nat) : ACall Tryz.prog 87 [.str s] [] nid (.bool (respB s)) [] := by
  refine acall_run c87 (by simp [a87]) ?_
  simp -dsimp only [aqT, aqU, aqN, ↓seqK, ↓blkK, ↓loopK, step, stepBin, Nat.reduceBEq, Nat.reduceBeqDiff, Nat.add_assoc nid, Nat.reduceAdd, reduceCtorEq, ↓reduceIte, Nat.reduceLeDiff, Nat.reduceBneDiff, Option.toList, ← Int.ofNat_tmod, ← Int.ofNat_tdiv, Nat.reduceLT, a87]
  refine CallO.pure (in_c _ _ _ _) ?_
  simp -dsimp only [aqT, aqU, aqN, ↓seqK, ↓blkK, ↓loopK, step, stepBin, Nat.reduceBEq, Nat.reduceBeqDiff, Nat.add_assoc nid, Nat.reduceAdd, reduceCtorEq, ↓reduceIte, Nat.reduceLeDiff, Nat.reduceBneDiff, Option.toList, ← Int.ofNat_tmod, ← Int.ofNat_tdiv, Nat.reduceLT]
  unfold respB
  cases h : outB s.length 1 100 <;> simp -dsimp only [aqT, aqU, aqN, aqS, ↓seqK, ↓blkK, ↓loopK, step, stepBin, Nat.add_assoc nid, ↓reduceIte, Option.toList, ← Int.ofNat_tmod, ← Int.ofNat_tdiv, simprocAttr, BEq.rfl, LN_succ, Bool.not_false, Bool.not_true]
  · have hl : s.length ≤ 100 := by unfold outB at h; have := of_decide_eq_false h; omega
    refine CallO.pure (containsFB _ oddC oddC_c _ s.length (fun i => s.getD i 0) _ (by omega)) ?_
    rw [any_range]
    simp -dsimp only [aqT, aqU, aqN, aqS, ↓seqK, ↓blkK, ↓loopK, step, stepBin, Nat.add_assoc nid, ↓reduceIte, Option.toList, ← Int.ofNat_tmod, ← Int.ofNat_tdiv, simprocAttr, BEq.rfl, LN_succ]
    refine RetOK.pure (.inl rfl) rfl ?_
    simp [cvT, step, res]
  · refine RetOK.pure (.inl rfl) rfl ?_
    simp [cvT, step, res]
theorem respD_c (s : List UInt8) (nid : Nat) (hs : s.length ≤ 1000000) : ACall Tryz.prog 153 [.str s] [] nid (.bool (respB s)) [] := by
  refine acall_run c153 (by simp [a153]) ?_
  simp -dsimp only [aqT, aqU, aqN, ↓seqK, ↓blkK, ↓loopK, step, stepBin, Nat.reduceBEq, Nat.reduceBeqDiff, Nat.add_assoc nid, Nat.reduceAdd, reduceCtorEq, ↓reduceIte, Nat.reduceLeDiff, Nat.reduceBneDiff, Option.toList, ← Int.ofNat_tmod, ← Int.ofNat_tdiv, Nat.reduceLT, a153]
  refine LP.mkP (fun k : Nat => k ≤ s.length ∧ ∀ j, j < k → oddC (s.getD j 0) = false) (fun k : Nat => ⟨[(6, .int .i64 k), (5, .int .i64 s.length), (0, .str s)], [], nid + 100, nid⟩) (fun k => s.length + 1 - k) 0 ⟨by omega, fun j hj => by omega⟩ (Cov.go [] [] ?_) (fun k hk => ?_)
  · simp [cvT, step, res]
  obtain ⟨hk, hall⟩ := hk
  simp -dsimp only [aqT, aqU, aqN, aqS, ↓seqK, ↓blkK, ↓loopK, step, stepBin, Nat.add_assoc nid, ↓reduceIte, Option.toList, ← Int.ofNat_tmod, ← Int.ofNat_tdiv, simprocAttr, BEq.rfl, LN_succ]
  refine S2.dec (fun h3 => ?_) (fun h3 => ?_) <;> simp -dsimp only [aqT, aqU, aqN, aqS, ↓seqK, ↓blkK, ↓loopK, step, stepBin, Nat.add_assoc nid, ↓reduceIte, Option.toList, ← Int.ofNat_tmod, ← Int.ofNat_tdiv, simprocAttr, BEq.rfl, LN_succ]
  · have hkl : k < s.length := by omega
    have hw : IntKind.i64.wrap (((s.getD k 0).toNat : Nat) : Int) = (((s.getD k 0).toNat : Nat) : Int) := IntWalk.i64_in _ (by have := (s.getD k 0).toNat_lt; omega)
    refine ⟨by omega, CallO.pure (out_c _ _ _ _) ?_⟩
    rw [hw]
    simp -dsimp only [aqT, aqU, aqN, aqS, ↓seqK, ↓blkK, ↓loopK, step, stepBin, Nat.add_assoc nid, ↓reduceIte, Option.toList, ← Int.ofNat_tmod, ← Int.ofNat_tdiv, simprocAttr, BEq.rfl, LN_succ]
    refine S2.intro (fun h4 => ?_) (fun h4 => ?_) <;> simp -dsimp only [aqT, aqU, aqN, aqS, ↓seqK, ↓blkK, ↓loopK, step, stepBin, Nat.add_assoc nid, ↓reduceIte, Option.toList, ← Int.ofNat_tmod, ← Int.ofNat_tdiv, simprocAttr, BEq.rfl, LN_succ]
    · have e : respB s = false := by
        unfold respB
        rw [← any_range, show (List.range s.length).any (fun i => oddC (s.getD i 0)) = true from List.any_eq_true.2 ⟨k, List.mem_range.2 hkl, h4⟩]
        simp
      rw [e]
      refine RetOK.pure (.inl rfl) rfl ?_
      simp [cvT, step, res]
    · refine ⟨by unfold inI64; omega, k + 1, ⟨⟨by omega, fun j hj => ?_⟩, by omega⟩, Cov.go [] [] ?_⟩
      · rcases (by omega : j < k ∨ j = k) with hj | hj
        · exact hall j hj
        · rw [hj]; exact h4
      · simp [cvT, step, res]
  · have e : respB s = !outB s.length 1 100 := by
      unfold respB
      have : (List.range s.length).any (fun i => oddC (s.getD i 0)) = false := by
        rw [List.any_eq_false]
        intro i hi
        rw [hall i (by have := List.mem_range.1 hi; omega)]
        simp
      rw [← any_range, this]
      simp
    refine CallO.pure (out_c _ _ _ _) ?_
    simp -dsimp only [aqT, aqU, aqN, ↓seqK, ↓blkK, ↓loopK, step, stepBin, Nat.reduceBEq, Nat.reduceBeqDiff, Nat.add_assoc nid, Nat.reduceAdd, reduceCtorEq, ↓reduceIte, Nat.reduceLeDiff, Nat.reduceBneDiff, Option.toList, ← Int.ofNat_tmod, ← Int.ofNat_tdiv, Nat.reduceLT]
    rw [e]
    refine RetOK.pure (.inl rfl) rfl ?_
    simp [cvT, step, res]
end Go.Proofs.YtpifoghhaohhaaaGreatDoor
namespace Go.Proofs.YtpifoghhaohhaaaGreatDoor
open Go.RowKit Go.Shelf Go.Lib
theorem trim_none (s cs : List UInt8) : (Lib.trimS s cs == []) = s.all cs.contains := by
  have key : Lib.trimS s cs = [] ↔ s.all cs.contains = true := by
    unfold Lib.trimS Lib.trimLeftS
    rw [dropW_nil]
    unfold Lib.trimRightS
    constructor
    · intro h
      cases hd : s.reverse.dropWhile cs.contains with
      | nil =>
        rw [dropW_nil, List.all_reverse] at hd
        exact hd
      | cons a r =>
        have hne : s.reverse.dropWhile cs.contains ≠ [] := by rw [hd]; simp
        have hh := List.head_dropWhile_not cs.contains hne
        have hm : ((s.reverse.dropWhile cs.contains).head hne) ∈ (s.reverse.dropWhile cs.contains).reverse := List.mem_reverse.2 (List.head_mem _)
        have := List.all_eq_true.1 h _ hm
        rw [this] at hh
        cases hh
    · intro h
      have : s.reverse.dropWhile cs.contains = [] := by rw [dropW_nil, List.all_reverse]; exact h
      rw [this]
      rfl
  rw [Bool.eq_iff_iff, beq_iff_eq]
  exact key
def keyL : List UInt8 := [97, 98, 99, 100, 101, 102, 103, 104, 105, 106, 107, 108, 109, 110, 111, 112, 113, 114, 115, 116, 117, 118, 119, 120, 121, 122, 48, 49, 50, 51, 52, 53, 54, 55, 56, 57, 45, 95]
def lowL : List UInt8 := [97, 98, 99, 100, 101, 102, 103, 104, 105, 106, 107, 108, 109, 110, 111, 112, 113, 114, 115, 116, 117, 118, 119, 120, 121, 122]
def lowI (c : Int) : Bool := decide (97 ≤ c) && decide (c ≤ 122)
def keyI (c : Int) : Bool := lowI c || (decide (48 ≤ c) && decide (c ≤ 57)) || c == 45 || c == 95
def keyC (b : UInt8) : Bool := keyI ((b.toNat : Nat) : Int)
theorem keyC_in (b : UInt8) : keyL.contains b = keyC b := by
  have h : ∀ n : Nat, n < 256 → keyL.contains n.toUInt8 = keyI (n : Int) := by decide +kernel
  have := h b.toNat (UInt8.toNat_lt b)
  rwa [show b.toNat.toUInt8 = b by simp] at this
theorem lowC_in (b : UInt8) : decide (0 ≤ Lib.indexByte lowL b) = lowI ((b.toNat : Nat) : Int) := by
  have h : ∀ n : Nat, n < 256 → decide (0 ≤ Lib.indexByte lowL n.toUInt8) = lowI (n : Int) := by decide +kernel
  have := h b.toNat (UInt8.toNat_lt b)
  rwa [show b.toNat.toUInt8 = b by simp] at this
def keyB (s : List UInt8) : Bool := !outB s.length 1 40 && s.all keyC && lowI (((s.getD 0 0).toNat : Nat) : Int)
theorem keyR_c (s : List UInt8) (nid : Nat) : ACall Tryz.prog 88 [.str s] [] nid (.bool (keyB s)) [] := by
  refine acall_run c88 (by simp [a88]) ?_
  simp -dsimp only [aqT, aqU, aqN, ↓seqK, ↓blkK, ↓loopK, step, stepBin, Nat.reduceBEq, Nat.reduceBeqDiff, Nat.add_assoc nid, Nat.reduceAdd, reduceCtorEq, ↓reduceIte, Nat.reduceLeDiff, Nat.reduceBneDiff, Option.toList, ← Int.ofNat_tmod, ← Int.ofNat_tdiv, Nat.reduceLT, a88]
  refine CallO.pure (in_c _ _ _ _) ?_
  simp -dsimp only [aqT, aqU, aqN, ↓seqK, ↓blkK, ↓loopK, step, stepBin, Nat.reduceBEq, Nat.reduceBeqDiff, Nat.add_assoc nid, Nat.reduceAdd, reduceCtorEq, ↓reduceIte, Nat.reduceLeDiff, Nat.reduceBneDiff, Option.toList, ← Int.ofNat_tmod, ← Int.ofNat_tdiv, Nat.reduceLT]
  have ht : (Lib.trimS s keyL == []) = s.all keyC := by rw [trim_none]; congr 1; funext b; exact keyC_in b
  unfold keyL at ht
  have hi := lowC_in (s.getD 0 0)
  unfold lowL at hi
  unfold keyB
  cases h : outB s.length 1 40 <;> simp -dsimp only [aqT, aqU, aqN, aqS, ↓seqK, ↓blkK, ↓loopK, step, stepBin, Nat.add_assoc nid, ↓reduceIte, Option.toList, ← Int.ofNat_tmod, ← Int.ofNat_tdiv, simprocAttr, BEq.rfl, LN_succ, Bool.not_false, Bool.not_true]
  · have hl : 1 ≤ s.length ∧ s.length ≤ 40 := by unfold outB at h; have := of_decide_eq_false h; omega
    refine CallO.pure (trim_cc s _ _ (by omega) (by decide) (by decide)) ?_
    simp -dsimp only [aqT, aqU, aqN, aqS, ↓seqK, ↓blkK, ↓loopK, step, stepBin, Nat.add_assoc nid, ↓reduceIte, Option.toList, ← Int.ofNat_tmod, ← Int.ofNat_tdiv, simprocAttr, BEq.rfl, LN_succ]
    rw [ht]
    cases h2 : s.all keyC <;> simp -dsimp only [aqT, aqU, aqN, aqS, ↓seqK, ↓blkK, ↓loopK, step, stepBin, Nat.add_assoc nid, ↓reduceIte, Option.toList, ← Int.ofNat_tmod, ← Int.ofNat_tdiv, simprocAttr, BEq.rfl, LN_succ, Bool.not_false, Bool.not_true]
    · refine RetOK.pure (.inl rfl) rfl ?_
      simp [cvT, step, res]
    · refine ⟨by omega, ?_⟩
      refine CallO.pure (indexK_c _ _ _) ?_
      simp -dsimp only [aqT, aqU, aqN, aqS, ↓seqK, ↓blkK, ↓loopK, step, stepBin, Nat.add_assoc nid, ↓reduceIte, Option.toList, ← Int.ofNat_tmod, ← Int.ofNat_tdiv, simprocAttr, BEq.rfl, LN_succ]
      rw [show (s.getD 0 0).toNat.toUInt8 = s.getD 0 0 by simp, hi]
      refine RetOK.pure (.inl rfl) rfl ?_
      simp [cvT, step, res]
  · refine RetOK.pure (.inl rfl) rfl ?_
    simp [cvT, step, res]
theorem keyI_iff {c : Int} : keyI c = true ↔ (97 ≤ c ∧ c ≤ 122) ∨ (48 ≤ c ∧ c ≤ 57) ∨ c = 45 ∨ c = 95 := by
  unfold keyI lowI
  simp only [Bool.or_eq_true, Bool.and_eq_true, decide_eq_true_eq, beq_iff_eq]
  omega
theorem keyI_no {c : Int} (h : ¬ ((97 ≤ c ∧ c ≤ 122) ∨ (48 ≤ c ∧ c ≤ 57) ∨ c = 45 ∨ c = 95)) : keyI c = false := by
  have := mt keyI_iff.1 h
  simpa using this
theorem keyB_bad {s : List UInt8} (h : s.length < 1 ∨ 40 < s.length ∨ (((s.getD 0 0).toNat : Nat) : Int) < 97 ∨ (122 : Int) < ((s.getD 0 0).toNat : Nat)) : keyB s = false := by
  have : ¬ keyB s = true := fun e => by
    unfold keyB outB lowI at e
    simp only [Bool.and_eq_true, Bool.not_eq_true', decide_eq_true_eq, decide_eq_false_iff_not] at e
    omega
  simpa using this
theorem keyB_good {s : List UInt8} (h1 : 1 ≤ s.length) (h2 : s.length ≤ 40) (h3 : (97 : Int) ≤ ((s.getD 0 0).toNat : Nat)) (h4 : (((s.getD 0 0).toNat : Nat) : Int) ≤ 122) : keyB s = s.all keyC := by
  have a : outB s.length 1 40 = false := by unfold outB; exact decide_eq_false (by omega)
  have b : lowI (((s.getD 0 0).toNat : Nat) : Int) = true := by unfold lowI; rw [decide_eq_true h3, decide_eq_true h4]; rfl
  unfold keyB
  rw [a, b, Bool.and_true, Bool.not_false, Bool.true_and]
theorem keyC_all {s : List UInt8} (h : ∀ j, j < s.length → keyC (s.getD j 0) = true) : s.all keyC = true := by
  rw [List.all_eq_true]
  intro x hx
  obtain ⟨j, hj, rfl⟩ := List.getElem_of_mem hx
  have := h j hj
  rwa [List.getD_eq_getElem?_getD, List.getElem?_eq_getElem hj] at this
theorem keyC_not {s : List UInt8} {k : Nat} (hk : k < s.length) (h : keyC (s.getD k 0) = false) : s.all keyC = false := by
  rw [List.all_eq_false]
  refine ⟨s[k], List.getElem_mem _, ?_⟩
  rw [List.getD_eq_getElem?_getD, List.getElem?_eq_getElem hk] at h
  rw [show s[k] = (some s[k]).getD 0 from rfl, h]
  simp
set_option maxHeartbeats 1000000 in
theorem keyD_c (s : List UInt8) (nid : Nat) (hs : s.length ≤ 1000000) : ACall Tryz.prog 154 [.str s] [] nid (.bool (keyB s)) [] := by
  refine acall_sr c154 (by simp [a154]) ?_
  unfold a154
  refine SR.seq ?_
  simp -dsimp only [aqT, aqU, aqN, aqS, ↓seqK, ↓blkK, ↓loopK, step, stepBin, Nat.add_assoc nid, ↓reduceIte, Option.toList, ← Int.ofNat_tmod, ← Int.ofNat_tdiv, simprocAttr, BEq.rfl, LN_succ]
  refine SR.seqW (ι := {_u : Unit // (1 ≤ s.length ∧ s.length ≤ 40) ∧ (97 : Int) ≤ ((s.getD 0 0).toNat : Nat) ∧ (((s.getD 0 0).toNat : Nat) : Int) ≤ 122}) (fun _ => ⟨[(0, .str s)], [], nid + 80, nid⟩) ?_ (fun ⟨_, ⟨h1, h2⟩, h3, h4⟩ => ?_)
  · refine SR.run (t := .mk) ?_
    simp -dsimp only [aqT, aqU, aqN, aqS, ↓seqK, ↓blkK, ↓loopK, step, stepBin, Nat.add_assoc nid, ↓reduceIte, Option.toList, ← Int.ofNat_tmod, ← Int.ofNat_tdiv, simprocAttr, BEq.rfl, LN_succ]
    refine S2.intro (fun h1 => ?_) (fun h1 => ?_) <;> simp -dsimp only [aqT, aqU, aqN, aqS, ↓seqK, ↓blkK, ↓loopK, step, stepBin, Nat.add_assoc nid, ↓reduceIte, Option.toList, ← Int.ofNat_tmod, ← Int.ofNat_tdiv, simprocAttr, BEq.rfl, LN_succ]
    · rw [keyB_bad (.inl (by simp at h1; subst h1; simp))]
      refine RetOK.pure (.inl rfl) rfl ?_
      simp [cvT, step, res]
    have h1 : 1 ≤ s.length := by have : s ≠ [] := by simpa using h1
                                 have := List.length_pos_iff.2 this
                                 omega
    refine S2.dec (fun h2 => ?_) (fun h2 => ?_) <;> simp -dsimp only [aqT, aqU, aqN, aqS, ↓seqK, ↓blkK, ↓loopK, step, stepBin, Nat.add_assoc nid, ↓reduceIte, Option.toList, ← Int.ofNat_tmod, ← Int.ofNat_tdiv, simprocAttr, BEq.rfl, LN_succ]
    · rw [keyB_bad (.inr (.inl (by omega)))]
      refine RetOK.pure (.inl rfl) rfl ?_
      simp [cvT, step, res]
    refine ⟨by omega, ?_⟩
    refine S2.dec (fun h3 => ?_) (fun h3 => ?_) <;> simp -dsimp only [aqT, aqU, aqN, aqS, ↓seqK, ↓blkK, ↓loopK, step, stepBin, Nat.add_assoc nid, ↓reduceIte, Option.toList, ← Int.ofNat_tmod, ← Int.ofNat_tdiv, simprocAttr, BEq.rfl, LN_succ]
    · rw [keyB_bad (.inr (.inr (.inl (by omega))))]
      refine RetOK.pure (.inl rfl) rfl ?_
      simp [cvT, step, res]
    refine ⟨by omega, ?_⟩
    refine S2.dec (fun h4 => ?_) (fun h4 => ?_) <;> simp -dsimp only [aqT, aqU, aqN, aqS, ↓seqK, ↓blkK, ↓loopK, step, stepBin, Nat.add_assoc nid, ↓reduceIte, Option.toList, ← Int.ofNat_tmod, ← Int.ofNat_tdiv, simprocAttr, BEq.rfl, LN_succ]
    · rw [keyB_bad (.inr (.inr (.inr (by omega))))]
      refine RetOK.pure (.inl rfl) rfl ?_
      simp [cvT, step, res]
    refine ⟨⟨(), ⟨h1, by omega⟩, by omega, by omega⟩, Cov.drop (by omega) ?_⟩
    simp only [SlotsIn, aqT, aqU, aqN, ↓seqK, ↓blkK, ↓loopK, step, stepBin, Nat.reduceBEq, Nat.reduceBeqDiff, Nat.add_assoc nid, Nat.reduceAdd, reduceCtorEq, ↓reduceIte, Nat.reduceLeDiff, Nat.reduceBneDiff, Option.toList, ← Int.ofNat_tmod, ← Int.ofNat_tdiv, Nat.reduceLT]
    try simp
  rw [keyB_good h1 h2 h3 h4]
  clear h3 h4
  refine SR.seqW (ι := {_u : Unit // s.all keyC = true}) (fun _ => ⟨[(0, .str s)], [], nid + 400, nid⟩) ?_ (fun ⟨_, h5⟩ => ?_)
  · refine SR.seqTo ⟨[(24, .int .i64 0), (23, .int .i64 s.length), (0, .str s)], [], nid + 100, nid⟩ ?_ ?_
    · simp -dsimp only [aqT, aqU, aqN, aqS, ↓seqK, ↓blkK, ↓loopK, step, stepBin, Nat.add_assoc nid, ↓reduceIte, Option.toList, ← Int.ofNat_tmod, ← Int.ofNat_tdiv, simprocAttr, BEq.rfl, LN_succ]
      refine Cov.drop (by omega) ?_
      simp only [SlotsIn, aqT, aqU, aqN, ↓seqK, ↓blkK, ↓loopK, step, stepBin, Nat.reduceBEq, Nat.reduceBeqDiff, Nat.add_assoc nid, Nat.reduceAdd, reduceCtorEq, ↓reduceIte, Nat.reduceLeDiff, Nat.reduceBneDiff, Option.toList, ← Int.ofNat_tmod, ← Int.ofNat_tdiv, Nat.reduceLT]
      try simp
    refine SR.block ?_
    refine SR.loopP (fun k : Nat => k ≤ s.length ∧ ∀ j, j < k → keyC (s.getD j 0) = true) (fun k : Nat => ⟨[(24, .int .i64 k), (23, .int .i64 s.length), (0, .str s)], [], nid + 100, nid⟩) (fun k => s.length + 1 - k) 0 ⟨by omega, fun j hj => by omega⟩ (Cov.drop (by omega) ?_) (fun k hk => ?_)
    · simp only [SlotsIn, aqT, aqU, aqN, ↓seqK, ↓blkK, ↓loopK, step, stepBin, Nat.reduceBEq, Nat.reduceBeqDiff, Nat.add_assoc nid, Nat.reduceAdd, reduceCtorEq, ↓reduceIte, Nat.reduceLeDiff, Nat.reduceBneDiff, Option.toList, ← Int.ofNat_tmod, ← Int.ofNat_tdiv, Nat.reduceLT]
      try simp
    obtain ⟨hk, hall⟩ := hk
    refine SR.seq ?_
    simp -dsimp only [aqT, aqU, aqN, aqS, ↓seqK, ↓blkK, ↓loopK, step, stepBin, Nat.add_assoc nid, ↓reduceIte, Option.toList, ← Int.ofNat_tmod, ← Int.ofNat_tdiv, simprocAttr, BEq.rfl, LN_succ]
    refine SR.seq ?_
    simp -dsimp only [aqT, aqU, aqN, aqS, ↓seqK, ↓blkK, ↓loopK, step, stepBin, Nat.add_assoc nid, ↓reduceIte, Option.toList, ← Int.ofNat_tmod, ← Int.ofNat_tdiv, simprocAttr, BEq.rfl, LN_succ]
    refine S2.dec (fun h3 => ?_) (fun h3 => ?_) <;> simp -dsimp only [aqT, aqU, aqN, aqS, ↓seqK, ↓blkK, ↓loopK, step, stepBin, Nat.add_assoc nid, ↓reduceIte, Option.toList, ← Int.ofNat_tmod, ← Int.ofNat_tdiv, simprocAttr, BEq.rfl, LN_succ]
    · have hkl : k < s.length := by omega
      have hno := keyC_not hkl
      have hyes : keyC (s.getD k 0) = true → ∀ j, j < k + 1 → keyC (s.getD j 0) = true := fun h j hj => by
        rcases (by omega : j < k ∨ j = k) with hj | hj
        · exact hall j hj
        · rw [hj]; exact h
      have ek : keyC (s.getD k 0) = keyI (((s.getD k 0).toNat : Nat) : Int) := rfl
      rw [ek] at hno hyes
      clear ek hall h3
      refine SR.seqW (ι := {_u : Unit // keyI (((s.getD k 0).toNat : Nat) : Int) = true}) (fun _ => ⟨[(24, .int .i64 k), (23, .int .i64 s.length), (0, .str s)], [], nid + 400, nid⟩) ?_ (fun ⟨_, h6⟩ => ?_)
      · refine SR.block ?_
        refine SR.seq ?_
        simp -dsimp only [aqT, aqU, aqN, aqS, ↓seqK, ↓blkK, ↓loopK, step, stepBin, Nat.add_assoc nid, ↓reduceIte, Option.toList, ← Int.ofNat_tmod, ← Int.ofNat_tdiv, simprocAttr, BEq.rfl, LN_succ]
        refine SR.seqTo ⟨[(4, .int .u8 (((s.getD k 0).toNat : Nat) : Int)), (24, .int .i64 k), (23, .int .i64 s.length), (0, .str s)], [], nid + 200, nid⟩ ?_ ?_
        · simp -dsimp only [aqT, aqU, aqN, aqS, ↓seqK, ↓blkK, ↓loopK, step, stepBin, Nat.add_assoc nid, ↓reduceIte, Option.toList, ← Int.ofNat_tmod, ← Int.ofNat_tdiv, simprocAttr, BEq.rfl, LN_succ]
          refine ⟨by omega, Cov.drop (by omega) ?_⟩
          simp only [SlotsIn, aqT, aqU, aqN, ↓seqK, ↓blkK, ↓loopK, step, stepBin, Nat.reduceBEq, Nat.reduceBeqDiff, Nat.add_assoc nid, Nat.reduceAdd, reduceCtorEq, ↓reduceIte, Nat.reduceLeDiff, Nat.reduceBneDiff, Option.toList, ← Int.ofNat_tmod, ← Int.ofNat_tdiv, Nat.reduceLT]
          try simp
        clear hyes
        generalize (((s.getD k 0).toNat : Nat) : Int) = c at *
        refine SR.seqTo ⟨[(52, .bool (!keyI c)), (24, .int .i64 k), (23, .int .i64 s.length), (0, .str s)], [], nid + 300, nid⟩ ?_ ?_
        · have cls : (97 ≤ c ∧ c ≤ 122) ∨ (48 ≤ c ∧ c ≤ 57) ∨ c = 45 ∨ c = 95 ∨ 122 < c ∨ (57 < c ∧ c < 97 ∧ c ≠ 95) ∨ (c < 48 ∧ c ≠ 45) := by omega
          clear hno
          rcases cls with hc | hc | hc | hc | hc | hc | hc
          · rw [keyI_iff.2 (by omega)]
            simp -dsimp only [aqT, aqU, aqN, aqS, ↓seqK, ↓blkK, ↓loopK, step, stepBin, Nat.add_assoc nid, ↓reduceIte, Option.toList, ← Int.ofNat_tmod, ← Int.ofNat_tdiv, simprocAttr, BEq.rfl, LN_succ, decide_eq_true hc.1, decide_eq_true hc.2]
            exact Cov.drop (by omega) (by simp only [SlotsIn, aqT, aqU, aqN, ↓seqK, ↓blkK, ↓loopK, step, stepBin, Nat.reduceBEq, Nat.reduceBeqDiff, Nat.add_assoc nid, Nat.reduceAdd, reduceCtorEq, ↓reduceIte, Nat.reduceLeDiff, Nat.reduceBneDiff, Option.toList, ← Int.ofNat_tmod, ← Int.ofNat_tdiv, Nat.reduceLT])
          · rw [keyI_iff.2 (by omega)]
            simp -dsimp only [aqT, aqU, aqN, aqS, ↓seqK, ↓blkK, ↓loopK, step, stepBin, Nat.add_assoc nid, ↓reduceIte, Option.toList, ← Int.ofNat_tmod, ← Int.ofNat_tdiv, simprocAttr, BEq.rfl, LN_succ, decide_eq_false (show ¬ (97 : Int) ≤ c by omega), decide_eq_true hc.1, decide_eq_true hc.2]
            exact Cov.drop (by omega) (by simp only [SlotsIn, aqT, aqU, aqN, ↓seqK, ↓blkK, ↓loopK, step, stepBin, Nat.reduceBEq, Nat.reduceBeqDiff, Nat.add_assoc nid, Nat.reduceAdd, reduceCtorEq, ↓reduceIte, Nat.reduceLeDiff, Nat.reduceBneDiff, Option.toList, ← Int.ofNat_tmod, ← Int.ofNat_tdiv, Nat.reduceLT])
          · rw [keyI_iff.2 (by omega)]
            simp -dsimp only [aqT, aqU, aqN, aqS, ↓seqK, ↓blkK, ↓loopK, step, stepBin, Nat.add_assoc nid, ↓reduceIte, Option.toList, ← Int.ofNat_tmod, ← Int.ofNat_tdiv, simprocAttr, BEq.rfl, LN_succ, decide_eq_false (show ¬ (97 : Int) ≤ c by omega), decide_eq_false (show ¬ (48 : Int) ≤ c by omega), show (c == 45) = true by simp [hc]]
            exact Cov.drop (by omega) (by simp only [SlotsIn, aqT, aqU, aqN, ↓seqK, ↓blkK, ↓loopK, step, stepBin, Nat.reduceBEq, Nat.reduceBeqDiff, Nat.add_assoc nid, Nat.reduceAdd, reduceCtorEq, ↓reduceIte, Nat.reduceLeDiff, Nat.reduceBneDiff, Option.toList, ← Int.ofNat_tmod, ← Int.ofNat_tdiv, Nat.reduceLT])
          · rw [keyI_iff.2 (by omega)]
            simp -dsimp only [aqT, aqU, aqN, aqS, ↓seqK, ↓blkK, ↓loopK, step, stepBin, Nat.add_assoc nid, ↓reduceIte, Option.toList, ← Int.ofNat_tmod, ← Int.ofNat_tdiv, simprocAttr, BEq.rfl, LN_succ, decide_eq_false (show ¬ (97 : Int) ≤ c by omega), decide_eq_true (show (48 : Int) ≤ c by omega), decide_eq_false (show ¬ c ≤ (57 : Int) by omega), show (c == 45) = false by simp [hc], show (c == 95) = true by simp [hc]]
            exact Cov.drop (by omega) (by simp only [SlotsIn, aqT, aqU, aqN, ↓seqK, ↓blkK, ↓loopK, step, stepBin, Nat.reduceBEq, Nat.reduceBeqDiff, Nat.add_assoc nid, Nat.reduceAdd, reduceCtorEq, ↓reduceIte, Nat.reduceLeDiff, Nat.reduceBneDiff, Option.toList, ← Int.ofNat_tmod, ← Int.ofNat_tdiv, Nat.reduceLT])
          · rw [keyI_no (by omega)]
            simp -dsimp only [aqT, aqU, aqN, aqS, ↓seqK, ↓blkK, ↓loopK, step, stepBin, Nat.add_assoc nid, ↓reduceIte, Option.toList, ← Int.ofNat_tmod, ← Int.ofNat_tdiv, simprocAttr, BEq.rfl, LN_succ, decide_eq_true (show (97 : Int) ≤ c by omega), decide_eq_false (show ¬ c ≤ (122 : Int) by omega), decide_eq_true (show (48 : Int) ≤ c by omega), decide_eq_false (show ¬ c ≤ (57 : Int) by omega), show (c == 45) = false by simp; omega, show (c == 95) = false by simp; omega]
            exact Cov.drop (by omega) (by simp only [SlotsIn, aqT, aqU, aqN, ↓seqK, ↓blkK, ↓loopK, step, stepBin, Nat.reduceBEq, Nat.reduceBeqDiff, Nat.add_assoc nid, Nat.reduceAdd, reduceCtorEq, ↓reduceIte, Nat.reduceLeDiff, Nat.reduceBneDiff, Option.toList, ← Int.ofNat_tmod, ← Int.ofNat_tdiv, Nat.reduceLT])
          · rw [keyI_no (by omega)]
            simp -dsimp only [aqT, aqU, aqN, aqS, ↓seqK, ↓blkK, ↓loopK, step, stepBin, Nat.add_assoc nid, ↓reduceIte, Option.toList, ← Int.ofNat_tmod, ← Int.ofNat_tdiv, simprocAttr, BEq.rfl, LN_succ, decide_eq_false (show ¬ (97 : Int) ≤ c by omega), decide_eq_true (show (48 : Int) ≤ c by omega), decide_eq_false (show ¬ c ≤ (57 : Int) by omega), show (c == 45) = false by simp; omega, show (c == 95) = false by simp; omega]
            exact Cov.drop (by omega) (by simp only [SlotsIn, aqT, aqU, aqN, ↓seqK, ↓blkK, ↓loopK, step, stepBin, Nat.reduceBEq, Nat.reduceBeqDiff, Nat.add_assoc nid, Nat.reduceAdd, reduceCtorEq, ↓reduceIte, Nat.reduceLeDiff, Nat.reduceBneDiff, Option.toList, ← Int.ofNat_tmod, ← Int.ofNat_tdiv, Nat.reduceLT])
          · rw [keyI_no (by omega)]
            simp -dsimp only [aqT, aqU, aqN, aqS, ↓seqK, ↓blkK, ↓loopK, step, stepBin, Nat.add_assoc nid, ↓reduceIte, Option.toList, ← Int.ofNat_tmod, ← Int.ofNat_tdiv, simprocAttr, BEq.rfl, LN_succ, decide_eq_false (show ¬ (97 : Int) ≤ c by omega), decide_eq_false (show ¬ (48 : Int) ≤ c by omega), show (c == 45) = false by simp; omega, show (c == 95) = false by simp; omega]
            exact Cov.drop (by omega) (by simp only [SlotsIn, aqT, aqU, aqN, ↓seqK, ↓blkK, ↓loopK, step, stepBin, Nat.reduceBEq, Nat.reduceBeqDiff, Nat.add_assoc nid, Nat.reduceAdd, reduceCtorEq, ↓reduceIte, Nat.reduceLeDiff, Nat.reduceBneDiff, Option.toList, ← Int.ofNat_tmod, ← Int.ofNat_tdiv, Nat.reduceLT])
        refine SR.run (t := .mk) ?_
        cases hb : keyI c
        · rw [hno hb]
          simp -dsimp only [aqT, aqU, aqN, aqS, ↓seqK, ↓blkK, ↓loopK, step, stepBin, Nat.add_assoc nid, ↓reduceIte, Option.toList, ← Int.ofNat_tmod, ← Int.ofNat_tdiv, simprocAttr, BEq.rfl, LN_succ]
          refine RetOK.pure (.inl rfl) rfl ?_
          simp [cvT, step, res]
        · simp -dsimp only [aqT, aqU, aqN, aqS, ↓seqK, ↓blkK, ↓loopK, step, stepBin, Nat.add_assoc nid, ↓reduceIte, Option.toList, ← Int.ofNat_tmod, ← Int.ofNat_tdiv, simprocAttr, BEq.rfl, LN_succ]
          refine ⟨⟨(), rfl⟩, Cov.drop (by omega) ?_⟩
          simp only [SlotsIn, aqT, aqU, aqN, ↓seqK, ↓blkK, ↓loopK, step, stepBin, Nat.reduceBEq, Nat.reduceBeqDiff, Nat.add_assoc nid, Nat.reduceAdd, reduceCtorEq, ↓reduceIte, Nat.reduceLeDiff, Nat.reduceBneDiff, Option.toList, ← Int.ofNat_tmod, ← Int.ofNat_tdiv, Nat.reduceLT]
          try simp
      refine SR.run (t := .mk) ?_
      simp -dsimp only [aqT, aqU, aqN, aqS, ↓seqK, ↓blkK, ↓loopK, step, stepBin, Nat.add_assoc nid, ↓reduceIte, Option.toList, ← Int.ofNat_tmod, ← Int.ofNat_tdiv, simprocAttr, BEq.rfl, LN_succ]
      refine ⟨by unfold inI64; omega, k + 1, ⟨⟨by omega, hyes h6⟩, by omega⟩, Cov.go [] [] ?_⟩
      simp [cvT, step, res]
    · refine ⟨⟨(), keyC_all (fun j hj => hall j (by omega))⟩, Cov.drop (by omega) ?_⟩
      simp only [SlotsIn, aqT, aqU, aqN, ↓seqK, ↓blkK, ↓loopK, step, stepBin, Nat.reduceBEq, Nat.reduceBeqDiff, Nat.add_assoc nid, Nat.reduceAdd, reduceCtorEq, ↓reduceIte, Nat.reduceLeDiff, Nat.reduceBneDiff, Option.toList, ← Int.ofNat_tmod, ← Int.ofNat_tdiv, Nat.reduceLT]
      try simp
  · rw [h5]
    refine SR.run (t := .mk) ?_
    simp -dsimp only [aqT, aqU, aqN, aqS, ↓seqK, ↓blkK, ↓loopK, step, stepBin, Nat.add_assoc nid, ↓reduceIte, Option.toList, ← Int.ofNat_tmod, ← Int.ofNat_tdiv, simprocAttr, BEq.rfl, LN_succ]
    refine RetOK.pure (.inl rfl) rfl ?_
    simp [cvT, step, res]
end Go.Proofs.YtpifoghhaohhaaaGreatDoor
namespace Go.Proofs.YtpifoghhaohhaaaGreatDoor
open Go.RowKit Go.Shelf Go.Lib
theorem getD_lt {l : List (List UInt8)} {k : Nat} (hk : k < l.length) : l.getD k [] = l[k] := by rw [List.getD_eq_getElem?_getD, List.getElem?_eq_getElem hk]; rfl
def idxF (F : List UInt8 → Bool) (l : List (List UInt8)) : Int := if l.any F = true then ((l.findIdx F : Nat) : Int) else -1
theorem idxF_at {F : List UInt8 → Bool} {l : List (List UInt8)} {k : Nat} (hk : k < l.length) (h : F (l.getD k []) = true) (h0 : ∀ j, j < k → F (l.getD j []) = false) : idxF F l = (k : Nat) := by
  have e : l.findIdx F = k := (List.findIdx_eq hk).2 ⟨by rw [getD_lt hk] at h; exact h, fun j hj => by have := h0 j hj; rw [getD_lt (by omega)] at this; exact this⟩
  unfold idxF
  rw [if_pos, e]
  refine List.any_eq_true.2 ⟨l[k], List.getElem_mem hk, ?_⟩
  rw [getD_lt hk] at h; exact h
theorem idxF_no {F : List UInt8 → Bool} {l : List (List UInt8)} (h0 : ∀ j, j < l.length → F (l.getD j []) = false) : idxF F l = -1 := by
  unfold idxF
  rw [if_neg]
  intro h
  obtain ⟨x, hx, hf⟩ := List.any_eq_true.1 h
  obtain ⟨j, hj, rfl⟩ := List.getElem_of_mem hx
  have := h0 j hj
  rw [getD_lt hj, hf] at this; cases this
theorem indexM_c (f : Nat) (F : List UInt8 → Bool) (nl : Bool) (l : List (List UInt8)) (nid : Nat) (hl : l.length ≤ 1000000) (hs : ShortRows 1000000 l) (hf : ∀ x m, x.length ≤ 1000000 → ACall Tryz.prog f [.str x] [] m (.bool (F x)) []) :
    ACall Tryz.prog 151 [litS nl l, .fn f []] [] nid (.int .i64 (idxF F l)) [] := by
  refine acall_run c151 (by simp [a151]) ?_
  unfold litS
  simp -dsimp only [aqT, aqU, aqN, aqS, ↓seqK, ↓blkK, ↓loopK, step, stepBin, Nat.add_assoc nid, ↓reduceIte, Option.toList, ← Int.ofNat_tmod, ← Int.ofNat_tdiv, simprocAttr, BEq.rfl, LN_succ, a151]
  refine LP.mkP (fun k : Nat => k ≤ l.length ∧ ∀ j, j < k → F (l.getD j []) = false) (fun k : Nat => ⟨[(8, .int .i64 k), (7, .int .i64 l.length), (0, litS nl l), (1, .fn f [])], [], nid + 100, nid⟩) (fun k => l.length + 1 - k) 0 ⟨by omega, fun j hj => by omega⟩ (Cov.go [] [] ?_) (fun k hk => ?_)
  · simp [cvT, step, res, litS]
  obtain ⟨hk, hb⟩ := hk
  unfold litS
  simp -dsimp only [aqT, aqU, aqN, aqS, ↓seqK, ↓blkK, ↓loopK, step, stepBin, Nat.add_assoc nid, ↓reduceIte, Option.toList, ← Int.ofNat_tmod, ← Int.ofNat_tdiv, simprocAttr, BEq.rfl, LN_succ]
  refine S2.dec (fun h3 => ?_) (fun h3 => ?_) <;> simp -dsimp only [aqT, aqU, aqN, aqS, ↓seqK, ↓blkK, ↓loopK, step, stepBin, Nat.add_assoc nid, ↓reduceIte, Option.toList, ← Int.ofNat_tmod, ← Int.ofNat_tdiv, simprocAttr, BEq.rfl, LN_succ]
  · have hkl : k < l.length := by omega
    have hat := fun h => idxF_at (F := F) hkl h hb
    have hnx : F (l.getD k []) = false → ∀ j, j < k + 1 → F (l.getD j []) = false := fun h j hj => by
      by_cases e : j = k
      · rw [e]; exact h
      · exact hb j (by omega)
    have hx := hs.at k
    generalize l.getD k [] = x at *
    refine ⟨by omega, CallO.pure (hf x _ hx) ?_⟩
    simp -dsimp only [aqT, aqU, aqN, aqS, ↓seqK, ↓blkK, ↓loopK, step, stepBin, Nat.add_assoc nid, ↓reduceIte, Option.toList, ← Int.ofNat_tmod, ← Int.ofNat_tdiv, simprocAttr, BEq.rfl, LN_succ]
    cases hx : F x <;> simp -dsimp only [aqT, aqU, aqN, aqS, ↓seqK, ↓blkK, ↓loopK, step, stepBin, Nat.add_assoc nid, ↓reduceIte, Option.toList, ← Int.ofNat_tmod, ← Int.ofNat_tdiv, simprocAttr, BEq.rfl, LN_succ]
    · refine ⟨by unfold inI64; omega, k + 1, ⟨⟨by omega, hnx hx⟩, by omega⟩, Cov.go [] [] ?_⟩
      simp [cvT, step, res, litS]
    · rw [hat hx]
      refine RetOK.pure (.inl rfl) rfl ?_
      simp [cvT, step, res]
  · have hkn : k = l.length := by omega
    subst hkn
    rw [idxF_no hb]
    refine RetOK.pure (.inl rfl) rfl ?_
    simp [cvT, step, res]
theorem containsM_c (f : Nat) (F : List UInt8 → Bool) (nl : Bool) (l : List (List UInt8)) (nid : Nat) (hl : l.length ≤ 1000000) (hs : ShortRows 1000000 l) (hf : ∀ x m, x.length ≤ 1000000 → ACall Tryz.prog f [.str x] [] m (.bool (F x)) []) :
    ACall Tryz.prog 61 [litS nl l, .fn f []] [] nid (.bool (l.any F)) [] := by
  have e : decide (0 ≤ idxF F l) = l.any F := by
    unfold idxF
    cases h : l.any F <;> simp
  refine acall_run c61 (by simp [a61]) ?_
  simp -dsimp only [aqT, aqU, aqN, aqS, ↓seqK, ↓blkK, ↓loopK, step, stepBin, Nat.add_assoc nid, ↓reduceIte, Option.toList, ← Int.ofNat_tmod, ← Int.ofNat_tdiv, simprocAttr, BEq.rfl, LN_succ, a61]
  refine CallO.pure (indexM_c f F nl l _ hl hs hf) ?_
  simp -dsimp only [aqT, aqU, aqN, aqS, ↓seqK, ↓blkK, ↓loopK, step, stepBin, Nat.add_assoc nid, ↓reduceIte, Option.toList, ← Int.ofNat_tmod, ← Int.ofNat_tdiv, simprocAttr, BEq.rfl, LN_succ]
  rw [e]
  refine RetOK.pure (.inl rfl) rfl ?_
  simp [cvT, step, res]
def oddS (s : List UInt8) : Bool := !respB s
theorem oddR_c (s : List UInt8) (nid : Nat) (hs : s.length ≤ 1000000) : ACall Tryz.prog 86 [.str s] [] nid (.bool (oddS s)) [] := by
  refine acall_run c86 (by simp [a86]) ?_
  simp -dsimp only [aqT, aqU, aqN, aqS, ↓seqK, ↓blkK, ↓loopK, step, stepBin, Nat.add_assoc nid, ↓reduceIte, Option.toList, ← Int.ofNat_tmod, ← Int.ofNat_tdiv, simprocAttr, BEq.rfl, LN_succ, a86]
  refine CallO.pure (respR_c _ _) ?_
  simp -dsimp only [aqT, aqU, aqN, ↓seqK, ↓blkK, ↓loopK, step, stepBin, Nat.reduceBEq, Nat.reduceBeqDiff, Nat.add_assoc nid, Nat.reduceAdd, reduceCtorEq, ↓reduceIte, Nat.reduceLeDiff, Nat.reduceBneDiff, Option.toList, ← Int.ofNat_tmod, ← Int.ofNat_tdiv, Nat.reduceLT]
  refine RetOK.pure (.inl rfl) rfl ?_
  simp [cvT, step, res, oddS]
theorem oddD_c (s : List UInt8) (nid : Nat) (hs : s.length ≤ 1000000) : ACall Tryz.prog 152 [.str s] [] nid (.bool (oddS s)) [] := by
  refine acall_run c152 (by simp [a152]) ?_
  simp -dsimp only [aqT, aqU, aqN, aqS, ↓seqK, ↓blkK, ↓loopK, step, stepBin, Nat.add_assoc nid, ↓reduceIte, Option.toList, ← Int.ofNat_tmod, ← Int.ofNat_tdiv, simprocAttr, BEq.rfl, LN_succ, a152]
  refine CallO.pure (respD_c _ _ hs) ?_
  simp -dsimp only [aqT, aqU, aqN, ↓seqK, ↓blkK, ↓loopK, step, stepBin, Nat.reduceBEq, Nat.reduceBeqDiff, Nat.add_assoc nid, Nat.reduceAdd, reduceCtorEq, ↓reduceIte, Nat.reduceLeDiff, Nat.reduceBneDiff, Option.toList, ← Int.ofNat_tmod, ← Int.ofNat_tdiv, Nat.reduceLT]
  refine RetOK.pure (.inl rfl) rfl ?_
  simp [cvT, step, res, oddS]
def rowBad (n : Nat) (R : RowL) (k : Nat) : Int :=
  if keyB (rowF R k) = false then 5 else if (rowR R k).length ≠ n then 3 else if (rowR R k).any oddS = true then 9 else if 0 < k ∧ (Op.bytesLess (rowF R k) (rowF R (k - 1)) || rowF R k == rowF R (k - 1)) = true then 7 else 0
def dictV (G : List (List UInt8)) (R : RowL) : Int :=
  if G.length = 0 then 8 else if 100 < G.length ∨ 300 < R.length then 2 else if G.any oddS = true then 9 else firstBad (rowBad G.length R) (List.range R.length)
structure DictW (G : List (List UInt8)) (R : RowL) : Prop where
  gl : G.length ≤ 1000000
  gs : ShortRows 1000000 G
  rl : R.length ≤ 1000000
  rs : ∀ k, (rowF R k).length ≤ 1000000 ∧ (rowR R k).length ≤ 1000000 ∧ ShortRows 1000000 (rowR R k)
theorem firstR_hit {f : Nat → Int} {n k : Nat} (hk : k < n) (h0 : ∀ j, j < k → f j = 0) (h : f k ≠ 0) : firstBad f (List.range n) = f k := by
  have e : List.range n = List.range k ++ (List.range' k (n - k)) := by
    rw [List.range_eq_range', List.range_eq_range', show List.range' 0 n = List.range' 0 (k + (n - k)) by congr 1; omega, ← List.range'_append_1]
    simp
  rw [e, firstBad_append]
  · rw [show n - k = (n - k - 1) + 1 by omega, List.range'_succ]
    simp [firstBad, h]
  · have : ∀ l : List Nat, (∀ j ∈ l, f j = 0) → firstBad f l = 0 := fun l => by
      induction l with
      | nil => intro _; rfl
      | cons a l ih => intro hl; simp only [firstBad]; rw [if_pos (hl a (by simp))]; exact ih (fun j hj => hl j (by simp [hj]))
    exact this _ (fun j hj => h0 j (List.mem_range.1 hj))
theorem firstR_none {f : Nat → Int} {n : Nat} (h0 : ∀ j, j < n → f j = 0) : firstBad f (List.range n) = 0 := by
  have : ∀ l : List Nat, (∀ j ∈ l, f j = 0) → firstBad f l = 0 := fun l => by
    induction l with
    | nil => intro _; rfl
    | cons a l ih => intro hl; simp only [firstBad]; rw [if_pos (hl a (by simp))]; exact ih (fun j hj => hl j (by simp [hj]))
  exact this _ (fun j hj => h0 j (List.mem_range.1 hj))
theorem dictV_row {G : List (List UInt8)} {R : RowL} {k : Nat} {e : Int} (h1 : G.length ≠ 0) (h2 : ¬ (100 < G.length ∨ 300 < R.length)) (h3 : G.any oddS = false) (hk : k < R.length) (h0 : ∀ j, j < k → rowBad G.length R j = 0) (h : rowBad G.length R k = e) (he : e ≠ 0) : dictV G R = e := by
  unfold dictV
  rw [if_neg h1, if_neg h2, if_neg (by simp [h3]), firstR_hit hk h0 (by rw [h]; exact he), h]
theorem dictV_good {G : List (List UInt8)} {R : RowL} (h1 : G.length ≠ 0) (h2 : ¬ (100 < G.length ∨ 300 < R.length)) (h3 : G.any oddS = false) (h0 : ∀ j, j < R.length → rowBad G.length R j = 0) : dictV G R = 0 := by
  unfold dictV
  rw [if_neg h1, if_neg h2, if_neg (by simp [h3]), firstR_none h0]
end Go.Proofs.YtpifoghhaohhaaaGreatDoor
namespace Go.Proofs.YtpifoghhaohhaaaGreatDoor
open Go.RowKit Go.Shelf Go.Lib
def boxP2 (g0 r0 : Bool) (b : Nat → Bool) (G : List (List UInt8)) (R : RowL) : Option ABlk := some (.box 29 [.lit g0 G.length [.s fun k => G.getD k []], .lit r0 R.length [.s fun k => rowF R k, .l b (fun k => (rowR R k).length) (fun k => [.s fun j => (rowR R k).getD j []])]])
set_option maxHeartbeats 1000000 in
theorem dictR_c (g0 r0 : Bool) (b : Nat → Bool) (G : List (List UInt8)) (R : RowL) (nid : Nat) (hB : DictW G R) : ACall Tryz.prog 17 [dictP g0 r0 b G R] [] nid (.int .i64 (dictV G R)) [] := by
  have hgl := hB.gl
  have hrl := hB.rl
  refine acall_sr c17 (by simp [a17]) ?_
  unfold a17
  refine SR.seq ?_
  unfold dictP
  simp -dsimp only [aqT, aqU, aqN, aqS, ↓seqK, ↓blkK, ↓loopK, step, stepBin, Nat.add_assoc nid, ↓reduceIte, Option.toList, ← Int.ofNat_tmod, ← Int.ofNat_tdiv, simprocAttr, BEq.rfl, LN_succ]
  refine SR.seq ?_
  simp -dsimp only [aqT, aqU, aqN, aqS, ↓seqK, ↓blkK, ↓loopK, step, stepBin, Nat.add_assoc nid, ↓reduceIte, Option.toList, ← Int.ofNat_tmod, ← Int.ofNat_tdiv, simprocAttr, BEq.rfl, LN_succ]
  refine SR.seqW (ι := {_u : Unit // (G.length ≠ 0 ∧ ¬ (100 < G.length ∨ 300 < R.length)) ∧ G.any oddS = false}) (fun _ => ⟨[(3, .fn 86 []), (1, .ptr nid 0)], [(nid, boxP2 g0 r0 b G R)], nid + 100, nid⟩) ?_ (fun ⟨_, ⟨h1, h2⟩, h3⟩ => ?_)
  · refine SR.run (t := .mk) ?_
    simp -dsimp only [aqT, aqU, aqN, aqS, ↓seqK, ↓blkK, ↓loopK, step, stepBin, Nat.add_assoc nid, ↓reduceIte, Option.toList, ← Int.ofNat_tmod, ← Int.ofNat_tdiv, simprocAttr, BEq.rfl, LN_succ]
    refine S2.intro (fun h1 => ?_) (fun h1 => ?_) <;> simp -dsimp only [aqT, aqU, aqN, aqS, ↓seqK, ↓blkK, ↓loopK, step, stepBin, Nat.add_assoc nid, ↓reduceIte, Option.toList, ← Int.ofNat_tmod, ← Int.ofNat_tdiv, simprocAttr, BEq.rfl, LN_succ]
    · have e : dictV G R = 8 := by unfold dictV; rw [if_pos (by simp at h1; exact congrArg List.length h1)]
      rw [e]
      refine RetOK.pure (.inl rfl) rfl ?_
      simp [cvT, step, res]
    have h1' : G.length ≠ 0 := by simp at h1; exact fun e => h1 (List.eq_nil_of_length_eq_zero e)
    refine S2.dec (fun h2 => ?_) (fun h2 => ?_) <;> simp -dsimp only [aqT, aqU, aqN, aqS, ↓seqK, ↓blkK, ↓loopK, step, stepBin, Nat.add_assoc nid, ↓reduceIte, Option.toList, ← Int.ofNat_tmod, ← Int.ofNat_tdiv, simprocAttr, BEq.rfl, LN_succ]
    · have e : dictV G R = 2 := by unfold dictV; rw [if_neg h1', if_pos (.inl (by omega))]
      rw [e]
      refine RetOK.pure (.inl rfl) rfl ?_
      simp [cvT, step, res]
    refine S2.dec (fun h4 => ?_) (fun h4 => ?_) <;> simp -dsimp only [aqT, aqU, aqN, aqS, ↓seqK, ↓blkK, ↓loopK, step, stepBin, Nat.add_assoc nid, ↓reduceIte, Option.toList, ← Int.ofNat_tmod, ← Int.ofNat_tdiv, simprocAttr, BEq.rfl, LN_succ]
    · have e : dictV G R = 2 := by unfold dictV; rw [if_neg h1', if_pos (.inr (by omega))]
      rw [e]
      refine RetOK.pure (.inl rfl) rfl ?_
      simp [cvT, step, res]
    have h2' : ¬ (100 < G.length ∨ 300 < R.length) := by omega
    refine CallO.pure (containsM_c 86 oddS g0 G _ hB.gl hB.gs (fun x m hx => oddR_c x m hx)) ?_
    simp -dsimp only [aqT, aqU, aqN, aqS, ↓seqK, ↓blkK, ↓loopK, step, stepBin, Nat.add_assoc nid, ↓reduceIte, Option.toList, ← Int.ofNat_tmod, ← Int.ofNat_tdiv, simprocAttr, BEq.rfl, LN_succ]
    refine S2.intro (fun h5 => ?_) (fun h5 => ?_) <;> simp -dsimp only [aqT, aqU, aqN, aqS, ↓seqK, ↓blkK, ↓loopK, step, stepBin, Nat.add_assoc nid, ↓reduceIte, Option.toList, ← Int.ofNat_tmod, ← Int.ofNat_tdiv, simprocAttr, BEq.rfl, LN_succ]
    · have e : dictV G R = 9 := by unfold dictV; rw [if_neg h1', if_neg h2', if_pos h5]
      rw [e]
      refine RetOK.pure (.inl rfl) rfl ?_
      simp [cvT, step, res]
    refine ⟨⟨(), ⟨h1', h2'⟩, h5⟩, Cov.go [] [] ?_⟩
    simp [cvT, step, res, boxP2]
  refine SR.seqW (ι := {_u : Unit // ∀ j, j < R.length → rowBad G.length R j = 0}) (fun _ => ⟨[], [], nid + 2000, nid⟩) ?_ (fun ⟨_, h5⟩ => ?_)
  · unfold boxP2
    refine SR.seqTo ⟨[(30, .int .i64 0), (29, .int .i64 R.length), (28, .lit r0 R.length [.s fun k => rowF R k, .l b (fun k => (rowR R k).length) (fun k => [.s fun j => (rowR R k).getD j []])]), (3, .fn 86 []), (1, .ptr nid 0)], [(nid, boxP2 g0 r0 b G R)], nid + 200, nid⟩ ?_ ?_
    · simp -dsimp only [aqT, aqU, aqN, aqS, ↓seqK, ↓blkK, ↓loopK, step, stepBin, Nat.add_assoc nid, ↓reduceIte, Option.toList, ← Int.ofNat_tmod, ← Int.ofNat_tdiv, simprocAttr, BEq.rfl, LN_succ]
      refine Cov.go [] [] ?_
      simp [cvT, step, res, boxP2, -List.getD_eq_getElem?_getD]
    refine SR.block ?_
    refine SR.loopP (fun k : Nat => k ≤ R.length ∧ ∀ j, j < k → rowBad G.length R j = 0) (fun k : Nat => ⟨[(30, .int .i64 k), (29, .int .i64 R.length), (28, .lit r0 R.length [.s fun k => rowF R k, .l b (fun k => (rowR R k).length) (fun k => [.s fun j => (rowR R k).getD j []])]), (3, .fn 86 []), (1, .ptr nid 0)], [(nid, boxP2 g0 r0 b G R)], nid + 200, nid⟩) (fun k => R.length + 1 - k) 0 ⟨by omega, fun j hj => by omega⟩ (Cov.drop (by omega) ?_) (fun k hk => ?_)
    · simp only [SlotsIn, aqT, aqU, aqN, ↓seqK, ↓blkK, ↓loopK, step, stepBin, Nat.reduceBEq, Nat.reduceBeqDiff, Nat.add_assoc nid, Nat.reduceAdd, reduceCtorEq, ↓reduceIte, Nat.reduceLeDiff, Nat.reduceBneDiff, Option.toList, ← Int.ofNat_tmod, ← Int.ofNat_tdiv, Nat.reduceLT]
      try simp
    obtain ⟨hk, hall⟩ := hk
    refine SR.seq ?_
    simp -dsimp only [aqT, aqU, aqN, aqS, ↓seqK, ↓blkK, ↓loopK, step, stepBin, Nat.add_assoc nid, ↓reduceIte, Option.toList, ← Int.ofNat_tmod, ← Int.ofNat_tdiv, simprocAttr, BEq.rfl, LN_succ]
    refine SR.seq ?_
    simp -dsimp only [aqT, aqU, aqN, aqS, ↓seqK, ↓blkK, ↓loopK, step, stepBin, Nat.add_assoc nid, ↓reduceIte, Option.toList, ← Int.ofNat_tmod, ← Int.ofNat_tdiv, simprocAttr, BEq.rfl, LN_succ]
    refine S2.dec (fun h4 => ?_) (fun h4 => ?_) <;> simp -dsimp only [aqT, aqU, aqN, aqS, ↓seqK, ↓blkK, ↓loopK, step, stepBin, Nat.add_assoc nid, ↓reduceIte, Option.toList, ← Int.ofNat_tmod, ← Int.ofNat_tdiv, simprocAttr, BEq.rfl, LN_succ]
    · have hkl : k < R.length := by omega
      have hbad := fun e => dictV_row (e := e) h1 h2 h3 hkl hall
      obtain ⟨hf1, hr1, hs1⟩ := hB.rs k
      refine SR.seqW (ι := {_u : Unit // rowBad G.length R k = 0}) (fun _ => ⟨[(30, .int .i64 k), (29, .int .i64 R.length), (28, .lit r0 R.length [.s fun k => rowF R k, .l b (fun k => (rowR R k).length) (fun k => [.s fun j => (rowR R k).getD j []])]), (3, .fn 86 []), (1, .ptr nid 0)], [(nid, boxP2 g0 r0 b G R)], nid + 900, nid⟩) ?_ (fun ⟨_, h6⟩ => ?_)
      · refine SR.block ?_
        refine SR.seqTo ⟨[(5, .ptr (nid + 300) 0), (4, .int .i64 k), (30, .int .i64 k), (29, .int .i64 R.length), (28, .lit r0 R.length [.s fun k => rowF R k, .l b (fun k => (rowR R k).length) (fun k => [.s fun j => (rowR R k).getD j []])]), (3, .fn 86 []), (1, .ptr nid 0)], [(nid + 300, some (.box 67 [.str (rowF R k), .lit (b k) (rowR R k).length [.s fun j => (rowR R k).getD j []]])), (nid, boxP2 g0 r0 b G R)], nid + 400, nid⟩ ?_ ?_
        · simp -dsimp only [aqT, aqU, aqN, aqS, ↓seqK, ↓blkK, ↓loopK, step, stepBin, Nat.add_assoc nid, ↓reduceIte, Option.toList, ← Int.ofNat_tmod, ← Int.ofNat_tdiv, simprocAttr, BEq.rfl, LN_succ]
          refine ⟨by omega, Cov.go [(nid + 300, nid + 216)] [] ?_⟩
          simp [cvT, step, res, boxP2, -List.getD_eq_getElem?_getD]
        refine SR.block ?_
        refine SR.seq ?_
        simp -dsimp only [aqT, aqU, aqN, aqS, ↓seqK, ↓blkK, ↓loopK, step, stepBin, Nat.add_assoc nid, ↓reduceIte, Option.toList, ← Int.ofNat_tmod, ← Int.ofNat_tdiv, simprocAttr, BEq.rfl, LN_succ]
        refine CallO.pure (keyR_c _ _) ?_
        simp -dsimp only [aqT, aqU, aqN, aqS, ↓seqK, ↓blkK, ↓loopK, step, stepBin, Nat.add_assoc nid, ↓reduceIte, Option.toList, ← Int.ofNat_tmod, ← Int.ofNat_tdiv, simprocAttr, BEq.rfl, LN_succ]
        refine SR.cond (b := !keyB (rowF R k)) (by simp [AX.val, getS]) (fun h => ?_) (fun h => ?_)
        · have hk : keyB (rowF R k) = false := by simpa using h
          rw [hbad 5 (by unfold rowBad; rw [if_pos hk]) (by decide)]
          refine SR.run (t := .mk) ?_
          simp -dsimp only [aqT, aqU, aqN, aqS, ↓seqK, ↓blkK, ↓loopK, step, stepBin, Nat.add_assoc nid, ↓reduceIte, Option.toList, ← Int.ofNat_tmod, ← Int.ofNat_tdiv, simprocAttr, BEq.rfl, LN_succ]
          refine RetOK.pure (.inl rfl) rfl ?_
          simp [cvT, step, res]
        have hk1 : ¬ keyB (rowF R k) = false := by simpa using h
        unfold boxP2
        refine SR.seq ?_
        simp -dsimp only [aqT, aqU, aqN, aqS, ↓seqK, ↓blkK, ↓loopK, step, stepBin, Nat.add_assoc nid, ↓reduceIte, Option.toList, ← Int.ofNat_tmod, ← Int.ofNat_tdiv, simprocAttr, BEq.rfl, LN_succ]
        refine SR.cond (b := (((rowR R k).length : Nat) : Int) != (G.length : Nat)) (by simp [AX.val, getS]) (fun h => ?_) (fun h => ?_)
        · have hk : (rowR R k).length ≠ G.length := fun e => by rw [e] at h; simp at h
          rw [hbad 3 (by unfold rowBad; rw [if_neg hk1, if_pos hk]) (by decide)]
          refine SR.run (t := .mk) ?_
          simp -dsimp only [aqT, aqU, aqN, aqS, ↓seqK, ↓blkK, ↓loopK, step, stepBin, Nat.add_assoc nid, ↓reduceIte, Option.toList, ← Int.ofNat_tmod, ← Int.ofNat_tdiv, simprocAttr, BEq.rfl, LN_succ]
          refine RetOK.pure (.inl rfl) rfl ?_
          simp [cvT, step, res]
        have hk2 : ¬ (rowR R k).length ≠ G.length := by
          have : (((rowR R k).length : Nat) : Int) = (G.length : Nat) := by simpa only [bne_eq_false_iff_eq] using h
          omega
        refine SR.seq ?_
        simp -dsimp only [aqT, aqU, aqN, aqS, ↓seqK, ↓blkK, ↓loopK, step, stepBin, Nat.add_assoc nid, ↓reduceIte, Option.toList, ← Int.ofNat_tmod, ← Int.ofNat_tdiv, simprocAttr, BEq.rfl, LN_succ]
        refine CallO.pure (containsM_c 86 oddS (b k) (rowR R k) _ hr1 hs1 (fun x m hx => oddR_c x m hx)) ?_
        simp -dsimp only [aqT, aqU, aqN, aqS, ↓seqK, ↓blkK, ↓loopK, step, stepBin, Nat.add_assoc nid, ↓reduceIte, Option.toList, ← Int.ofNat_tmod, ← Int.ofNat_tdiv, simprocAttr, BEq.rfl, LN_succ]
        refine SR.cond (b := (rowR R k).any oddS) (by simp [AX.val, getS]) (fun h => ?_) (fun h => ?_)
        · rw [hbad 9 (by unfold rowBad; rw [if_neg hk1, if_neg hk2, if_pos h]) (by decide)]
          refine SR.run (t := .mk) ?_
          simp -dsimp only [aqT, aqU, aqN, aqS, ↓seqK, ↓blkK, ↓loopK, step, stepBin, Nat.add_assoc nid, ↓reduceIte, Option.toList, ← Int.ofNat_tmod, ← Int.ofNat_tdiv, simprocAttr, BEq.rfl, LN_succ]
          refine RetOK.pure (.inl rfl) rfl ?_
          simp [cvT, step, res]
        have hk3 : ¬ (rowR R k).any oddS = true := by simp [h]
        refine SR.seqTo ⟨[(53, .bool (decide ((0 : Int) < k) && (Op.bytesLess (rowF R k) (rowF R (k - 1)) || rowF R k == rowF R (k - 1)))), (30, .int .i64 k), (29, .int .i64 R.length), (28, .lit r0 R.length [.s fun k => rowF R k, .l b (fun k => (rowR R k).length) (fun k => [.s fun j => (rowR R k).getD j []])]), (3, .fn 86 []), (1, .ptr nid 0)], [(nid, boxP2 g0 r0 b G R)], nid + 700, nid⟩ ?_ ?_
        · simp -dsimp only [aqT, aqU, aqN, aqS, ↓seqK, ↓blkK, ↓loopK, step, stepBin, Nat.add_assoc nid, ↓reduceIte, Option.toList, ← Int.ofNat_tmod, ← Int.ofNat_tdiv, simprocAttr, BEq.rfl, LN_succ]
          refine S2.dec (fun h0 => ?_) (fun h0 => ?_) <;> simp -dsimp only [aqT, aqU, aqN, aqS, ↓seqK, ↓blkK, ↓loopK, step, stepBin, Nat.add_assoc nid, ↓reduceIte, Option.toList, ← Int.ofNat_tmod, ← Int.ofNat_tdiv, simprocAttr, BEq.rfl, LN_succ]
          · have e : ((k : Int) - 1).toNat = k - 1 := by omega
            rw [e]
            refine ⟨by unfold inI64; omega, by omega, Cov.go [] [] ?_⟩
            simp [cvT, step, res, boxP2, decide_eq_true h0, -List.getD_eq_getElem?_getD]
            try omega
          · refine Cov.go [] [] ?_
            simp [cvT, step, res, boxP2, decide_eq_false h0, -List.getD_eq_getElem?_getD]
            try omega
        refine SR.cond (b := decide ((0 : Int) < k) && (Op.bytesLess (rowF R k) (rowF R (k - 1)) || rowF R k == rowF R (k - 1))) (by simp [AX.val, getS]) (fun h => ?_) (fun h => ?_)
        · simp only [Bool.and_eq_true, decide_eq_true_eq] at h
          rw [hbad 7 (by unfold rowBad; rw [if_neg hk1, if_neg hk2, if_neg hk3, if_pos ⟨by omega, h.2⟩]) (by decide)]
          refine SR.run (t := .mk) ?_
          simp -dsimp only [aqT, aqU, aqN, aqS, ↓seqK, ↓blkK, ↓loopK, step, stepBin, Nat.add_assoc nid, ↓reduceIte, Option.toList, ← Int.ofNat_tmod, ← Int.ofNat_tdiv, simprocAttr, BEq.rfl, LN_succ]
          refine RetOK.pure (.inl rfl) rfl ?_
          simp [cvT, step, res]
        have hk4 : ¬ (0 < k ∧ (Op.bytesLess (rowF R k) (rowF R (k - 1)) || rowF R k == rowF R (k - 1)) = true) := fun ⟨e1, e2⟩ => by
          rw [e2, decide_eq_true (by omega)] at h
          simp at h
        refine SR.run (t := .mk) ?_
        simp -dsimp only [aqT, aqU, aqN, aqS, ↓seqK, ↓blkK, ↓loopK, step, stepBin, Nat.add_assoc nid, ↓reduceIte, Option.toList, ← Int.ofNat_tmod, ← Int.ofNat_tdiv, simprocAttr, BEq.rfl, LN_succ]
        refine ⟨⟨(), by unfold rowBad; rw [if_neg hk1, if_neg hk2, if_neg hk3, if_neg hk4]⟩, Cov.go [] [] ?_⟩
        simp [cvT, step, res, boxP2, -List.getD_eq_getElem?_getD]
      refine SR.run (t := .mk) ?_
      simp -dsimp only [aqT, aqU, aqN, aqS, ↓seqK, ↓blkK, ↓loopK, step, stepBin, Nat.add_assoc nid, ↓reduceIte, Option.toList, ← Int.ofNat_tmod, ← Int.ofNat_tdiv, simprocAttr, BEq.rfl, LN_succ]
      refine ⟨by unfold inI64; omega, k + 1, ⟨⟨by omega, fun j hj => ?_⟩, by omega⟩, Cov.go [] [] ?_⟩
      · rcases (by omega : j < k ∨ j = k) with hj | hj
        · exact hall j hj
        · rw [hj]; exact h6
      simp [cvT, step, res, boxP2, -List.getD_eq_getElem?_getD]
    · refine ⟨⟨(), fun j hj => hall j (by omega)⟩, Cov.go [] [] ?_⟩
      simp [cvT, step, res, boxP2, -List.getD_eq_getElem?_getD]
  · rw [dictV_good h1 h2 h3 h5]
    refine SR.run (t := .mk) ?_
    simp -dsimp only [aqT, aqU, aqN, aqS, ↓seqK, ↓blkK, ↓loopK, step, stepBin, Nat.add_assoc nid, ↓reduceIte, Option.toList, ← Int.ofNat_tmod, ← Int.ofNat_tdiv, simprocAttr, BEq.rfl, LN_succ]
    refine RetOK.pure (.inl rfl) rfl ?_
    simp [cvT, step, res]
set_option maxHeartbeats 1000000 in
theorem dictD_c (g0 r0 : Bool) (b : Nat → Bool) (G : List (List UInt8)) (R : RowL) (nid : Nat) (hB : DictW G R) : ACall Tryz.prog 63 [dictP g0 r0 b G R] [] nid (.int .i64 (dictV G R)) [] := by
  have hgl := hB.gl
  have hrl := hB.rl
  refine acall_sr c63 (by simp [a63]) ?_
  unfold a63
  refine SR.seq ?_
  unfold dictP
  simp -dsimp only [aqT, aqU, aqN, aqS, ↓seqK, ↓blkK, ↓loopK, step, stepBin, Nat.add_assoc nid, ↓reduceIte, Option.toList, ← Int.ofNat_tmod, ← Int.ofNat_tdiv, simprocAttr, BEq.rfl, LN_succ]
  refine SR.seqW (ι := {_u : Unit // G.length ≠ 0 ∧ ¬ (100 < G.length ∨ 300 < R.length)}) (fun _ => ⟨[(1, .ptr nid 0)], [(nid, boxP2 g0 r0 b G R)], nid + 100, nid⟩) ?_ (fun ⟨_, h1, h2⟩ => ?_)
  · refine SR.run (t := .mk) ?_
    simp -dsimp only [aqT, aqU, aqN, aqS, ↓seqK, ↓blkK, ↓loopK, step, stepBin, Nat.add_assoc nid, ↓reduceIte, Option.toList, ← Int.ofNat_tmod, ← Int.ofNat_tdiv, simprocAttr, BEq.rfl, LN_succ]
    refine S2.intro (fun h1 => ?_) (fun h1 => ?_) <;> simp -dsimp only [aqT, aqU, aqN, aqS, ↓seqK, ↓blkK, ↓loopK, step, stepBin, Nat.add_assoc nid, ↓reduceIte, Option.toList, ← Int.ofNat_tmod, ← Int.ofNat_tdiv, simprocAttr, BEq.rfl, LN_succ]
    · have e : dictV G R = 8 := by unfold dictV; rw [if_pos (by simp at h1; exact congrArg List.length h1)]
      rw [e]
      refine RetOK.pure (.inl rfl) rfl ?_
      simp [cvT, step, res]
    have h1' : G.length ≠ 0 := by simp at h1; exact fun e => h1 (List.eq_nil_of_length_eq_zero e)
    refine S2.dec (fun h2 => ?_) (fun h2 => ?_) <;> simp -dsimp only [aqT, aqU, aqN, aqS, ↓seqK, ↓blkK, ↓loopK, step, stepBin, Nat.add_assoc nid, ↓reduceIte, Option.toList, ← Int.ofNat_tmod, ← Int.ofNat_tdiv, simprocAttr, BEq.rfl, LN_succ]
    · have e : dictV G R = 2 := by unfold dictV; rw [if_neg h1', if_pos (.inl (by omega))]
      rw [e]
      refine RetOK.pure (.inl rfl) rfl ?_
      simp [cvT, step, res]
    refine S2.dec (fun h4 => ?_) (fun h4 => ?_) <;> simp -dsimp only [aqT, aqU, aqN, aqS, ↓seqK, ↓blkK, ↓loopK, step, stepBin, Nat.add_assoc nid, ↓reduceIte, Option.toList, ← Int.ofNat_tmod, ← Int.ofNat_tdiv, simprocAttr, BEq.rfl, LN_succ]
    · have e : dictV G R = 2 := by unfold dictV; rw [if_neg h1', if_pos (.inr (by omega))]
      rw [e]
      refine RetOK.pure (.inl rfl) rfl ?_
      simp [cvT, step, res]
    have h2' : ¬ (100 < G.length ∨ 300 < R.length) := by omega
    refine ⟨⟨(), h1', h2'⟩, Cov.go [] [] ?_⟩
    simp [cvT, step, res, boxP2]
  refine SR.seq ?_
  simp -dsimp only [aqT, aqU, aqN, aqS, ↓seqK, ↓blkK, ↓loopK, step, stepBin, Nat.add_assoc nid, ↓reduceIte, Option.toList, ← Int.ofNat_tmod, ← Int.ofNat_tdiv, simprocAttr, BEq.rfl, LN_succ]
  refine SR.seqW (ι := {_u : Unit // G.any oddS = false}) (fun _ => ⟨[(3, .fn 152 []), (1, .ptr nid 0)], [(nid, boxP2 g0 r0 b G R)], nid + 150, nid⟩) ?_ (fun ⟨_, h3⟩ => ?_)
  · unfold boxP2
    refine SR.run (t := .mk) ?_
    simp -dsimp only [aqT, aqU, aqN, aqS, ↓seqK, ↓blkK, ↓loopK, step, stepBin, Nat.add_assoc nid, ↓reduceIte, Option.toList, ← Int.ofNat_tmod, ← Int.ofNat_tdiv, simprocAttr, BEq.rfl, LN_succ]
    refine CallO.pure (containsM_c 152 oddS g0 G _ hB.gl hB.gs (fun x m hx => oddD_c x m hx)) ?_
    simp -dsimp only [aqT, aqU, aqN, aqS, ↓seqK, ↓blkK, ↓loopK, step, stepBin, Nat.add_assoc nid, ↓reduceIte, Option.toList, ← Int.ofNat_tmod, ← Int.ofNat_tdiv, simprocAttr, BEq.rfl, LN_succ]
    refine S2.intro (fun h5 => ?_) (fun h5 => ?_) <;> simp -dsimp only [aqT, aqU, aqN, aqS, ↓seqK, ↓blkK, ↓loopK, step, stepBin, Nat.add_assoc nid, ↓reduceIte, Option.toList, ← Int.ofNat_tmod, ← Int.ofNat_tdiv, simprocAttr, BEq.rfl, LN_succ]
    · have e : dictV G R = 9 := by unfold dictV; rw [if_neg h1, if_neg h2, if_pos h5]
      rw [e]
      refine RetOK.pure (.inl rfl) rfl ?_
      simp [cvT, step, res]
    refine ⟨⟨(), h5⟩, Cov.go [] [] ?_⟩
    simp [cvT, step, res, boxP2]
  refine SR.seqW (ι := {_u : Unit // ∀ j, j < R.length → rowBad G.length R j = 0}) (fun _ => ⟨[], [], nid + 2000, nid⟩) ?_ (fun ⟨_, h5⟩ => ?_)
  · unfold boxP2
    refine SR.seqTo ⟨[(29, .int .i64 0), (28, .int .i64 R.length), (27, .lit r0 R.length [.s fun k => rowF R k, .l b (fun k => (rowR R k).length) (fun k => [.s fun j => (rowR R k).getD j []])]), (3, .fn 152 []), (1, .ptr nid 0)], [(nid, boxP2 g0 r0 b G R)], nid + 200, nid⟩ ?_ ?_
    · simp -dsimp only [aqT, aqU, aqN, aqS, ↓seqK, ↓blkK, ↓loopK, step, stepBin, Nat.add_assoc nid, ↓reduceIte, Option.toList, ← Int.ofNat_tmod, ← Int.ofNat_tdiv, simprocAttr, BEq.rfl, LN_succ]
      refine Cov.go [] [] ?_
      simp [cvT, step, res, boxP2, -List.getD_eq_getElem?_getD]
    refine SR.block ?_
    refine SR.loopP (fun k : Nat => k ≤ R.length ∧ ∀ j, j < k → rowBad G.length R j = 0) (fun k : Nat => ⟨[(29, .int .i64 k), (28, .int .i64 R.length), (27, .lit r0 R.length [.s fun k => rowF R k, .l b (fun k => (rowR R k).length) (fun k => [.s fun j => (rowR R k).getD j []])]), (3, .fn 152 []), (1, .ptr nid 0)], [(nid, boxP2 g0 r0 b G R)], nid + 200, nid⟩) (fun k => R.length + 1 - k) 0 ⟨by omega, fun j hj => by omega⟩ (Cov.drop (by omega) ?_) (fun k hk => ?_)
    · simp only [SlotsIn, aqT, aqU, aqN, ↓seqK, ↓blkK, ↓loopK, step, stepBin, Nat.reduceBEq, Nat.reduceBeqDiff, Nat.add_assoc nid, Nat.reduceAdd, reduceCtorEq, ↓reduceIte, Nat.reduceLeDiff, Nat.reduceBneDiff, Option.toList, ← Int.ofNat_tmod, ← Int.ofNat_tdiv, Nat.reduceLT]
      try simp
    obtain ⟨hk, hall⟩ := hk
    refine SR.seq ?_
    simp -dsimp only [aqT, aqU, aqN, aqS, ↓seqK, ↓blkK, ↓loopK, step, stepBin, Nat.add_assoc nid, ↓reduceIte, Option.toList, ← Int.ofNat_tmod, ← Int.ofNat_tdiv, simprocAttr, BEq.rfl, LN_succ]
    refine SR.seq ?_
    simp -dsimp only [aqT, aqU, aqN, aqS, ↓seqK, ↓blkK, ↓loopK, step, stepBin, Nat.add_assoc nid, ↓reduceIte, Option.toList, ← Int.ofNat_tmod, ← Int.ofNat_tdiv, simprocAttr, BEq.rfl, LN_succ]
    refine S2.dec (fun h4 => ?_) (fun h4 => ?_) <;> simp -dsimp only [aqT, aqU, aqN, aqS, ↓seqK, ↓blkK, ↓loopK, step, stepBin, Nat.add_assoc nid, ↓reduceIte, Option.toList, ← Int.ofNat_tmod, ← Int.ofNat_tdiv, simprocAttr, BEq.rfl, LN_succ]
    · have hkl : k < R.length := by omega
      have hbad := fun e => dictV_row (e := e) h1 h2 h3 hkl hall
      obtain ⟨hf1, hr1, hs1⟩ := hB.rs k
      refine SR.seqW (ι := {_u : Unit // rowBad G.length R k = 0}) (fun _ => ⟨[(29, .int .i64 k), (28, .int .i64 R.length), (27, .lit r0 R.length [.s fun k => rowF R k, .l b (fun k => (rowR R k).length) (fun k => [.s fun j => (rowR R k).getD j []])]), (3, .fn 152 []), (1, .ptr nid 0)], [(nid, boxP2 g0 r0 b G R)], nid + 900, nid⟩) ?_ (fun ⟨_, h6⟩ => ?_)
      · refine SR.block ?_
        refine SR.seqTo ⟨[(5, .ptr (nid + 300) 0), (4, .int .i64 k), (29, .int .i64 k), (28, .int .i64 R.length), (27, .lit r0 R.length [.s fun k => rowF R k, .l b (fun k => (rowR R k).length) (fun k => [.s fun j => (rowR R k).getD j []])]), (3, .fn 152 []), (1, .ptr nid 0)], [(nid + 300, some (.box 67 [.str (rowF R k), .lit (b k) (rowR R k).length [.s fun j => (rowR R k).getD j []]])), (nid, boxP2 g0 r0 b G R)], nid + 400, nid⟩ ?_ ?_
        · simp -dsimp only [aqT, aqU, aqN, aqS, ↓seqK, ↓blkK, ↓loopK, step, stepBin, Nat.add_assoc nid, ↓reduceIte, Option.toList, ← Int.ofNat_tmod, ← Int.ofNat_tdiv, simprocAttr, BEq.rfl, LN_succ]
          refine ⟨by omega, Cov.go [(nid + 300, nid + 216)] [] ?_⟩
          simp [cvT, step, res, boxP2, -List.getD_eq_getElem?_getD]
        refine SR.block ?_
        refine SR.seq ?_
        simp -dsimp only [aqT, aqU, aqN, aqS, ↓seqK, ↓blkK, ↓loopK, step, stepBin, Nat.add_assoc nid, ↓reduceIte, Option.toList, ← Int.ofNat_tmod, ← Int.ofNat_tdiv, simprocAttr, BEq.rfl, LN_succ]
        refine CallO.pure (keyD_c _ _ hf1) ?_
        simp -dsimp only [aqT, aqU, aqN, aqS, ↓seqK, ↓blkK, ↓loopK, step, stepBin, Nat.add_assoc nid, ↓reduceIte, Option.toList, ← Int.ofNat_tmod, ← Int.ofNat_tdiv, simprocAttr, BEq.rfl, LN_succ]
        refine SR.cond (b := !keyB (rowF R k)) (by simp [AX.val, getS]) (fun h => ?_) (fun h => ?_)
        · have hk : keyB (rowF R k) = false := by simpa using h
          rw [hbad 5 (by unfold rowBad; rw [if_pos hk]) (by decide)]
          refine SR.run (t := .mk) ?_
          simp -dsimp only [aqT, aqU, aqN, aqS, ↓seqK, ↓blkK, ↓loopK, step, stepBin, Nat.add_assoc nid, ↓reduceIte, Option.toList, ← Int.ofNat_tmod, ← Int.ofNat_tdiv, simprocAttr, BEq.rfl, LN_succ]
          refine RetOK.pure (.inl rfl) rfl ?_
          simp [cvT, step, res]
        have hk1 : ¬ keyB (rowF R k) = false := by simpa using h
        unfold boxP2
        refine SR.seq ?_
        simp -dsimp only [aqT, aqU, aqN, aqS, ↓seqK, ↓blkK, ↓loopK, step, stepBin, Nat.add_assoc nid, ↓reduceIte, Option.toList, ← Int.ofNat_tmod, ← Int.ofNat_tdiv, simprocAttr, BEq.rfl, LN_succ]
        refine SR.cond (b := (((rowR R k).length : Nat) : Int) != (G.length : Nat)) (by simp [AX.val, getS]) (fun h => ?_) (fun h => ?_)
        · have hk : (rowR R k).length ≠ G.length := fun e => by rw [e] at h; simp at h
          rw [hbad 3 (by unfold rowBad; rw [if_neg hk1, if_pos hk]) (by decide)]
          refine SR.run (t := .mk) ?_
          simp -dsimp only [aqT, aqU, aqN, aqS, ↓seqK, ↓blkK, ↓loopK, step, stepBin, Nat.add_assoc nid, ↓reduceIte, Option.toList, ← Int.ofNat_tmod, ← Int.ofNat_tdiv, simprocAttr, BEq.rfl, LN_succ]
          refine RetOK.pure (.inl rfl) rfl ?_
          simp [cvT, step, res]
        have hk2 : ¬ (rowR R k).length ≠ G.length := by
          have : (((rowR R k).length : Nat) : Int) = (G.length : Nat) := by simpa only [bne_eq_false_iff_eq] using h
          omega
        refine SR.seq ?_
        simp -dsimp only [aqT, aqU, aqN, aqS, ↓seqK, ↓blkK, ↓loopK, step, stepBin, Nat.add_assoc nid, ↓reduceIte, Option.toList, ← Int.ofNat_tmod, ← Int.ofNat_tdiv, simprocAttr, BEq.rfl, LN_succ]
        refine CallO.pure (containsM_c 152 oddS (b k) (rowR R k) _ hr1 hs1 (fun x m hx => oddD_c x m hx)) ?_
        simp -dsimp only [aqT, aqU, aqN, aqS, ↓seqK, ↓blkK, ↓loopK, step, stepBin, Nat.add_assoc nid, ↓reduceIte, Option.toList, ← Int.ofNat_tmod, ← Int.ofNat_tdiv, simprocAttr, BEq.rfl, LN_succ]
        refine SR.cond (b := (rowR R k).any oddS) (by simp [AX.val, getS]) (fun h => ?_) (fun h => ?_)
        · rw [hbad 9 (by unfold rowBad; rw [if_neg hk1, if_neg hk2, if_pos h]) (by decide)]
          refine SR.run (t := .mk) ?_
          simp -dsimp only [aqT, aqU, aqN, aqS, ↓seqK, ↓blkK, ↓loopK, step, stepBin, Nat.add_assoc nid, ↓reduceIte, Option.toList, ← Int.ofNat_tmod, ← Int.ofNat_tdiv, simprocAttr, BEq.rfl, LN_succ]
          refine RetOK.pure (.inl rfl) rfl ?_
          simp [cvT, step, res]
        have hk3 : ¬ (rowR R k).any oddS = true := by simp [h]
        refine SR.seqTo ⟨[(52, .bool (decide ((0 : Int) < k) && (Op.bytesLess (rowF R k) (rowF R (k - 1)) || rowF R k == rowF R (k - 1)))), (29, .int .i64 k), (28, .int .i64 R.length), (27, .lit r0 R.length [.s fun k => rowF R k, .l b (fun k => (rowR R k).length) (fun k => [.s fun j => (rowR R k).getD j []])]), (3, .fn 152 []), (1, .ptr nid 0)], [(nid, boxP2 g0 r0 b G R)], nid + 700, nid⟩ ?_ ?_
        · simp -dsimp only [aqT, aqU, aqN, aqS, ↓seqK, ↓blkK, ↓loopK, step, stepBin, Nat.add_assoc nid, ↓reduceIte, Option.toList, ← Int.ofNat_tmod, ← Int.ofNat_tdiv, simprocAttr, BEq.rfl, LN_succ]
          refine S2.dec (fun h0 => ?_) (fun h0 => ?_) <;> simp -dsimp only [aqT, aqU, aqN, aqS, ↓seqK, ↓blkK, ↓loopK, step, stepBin, Nat.add_assoc nid, ↓reduceIte, Option.toList, ← Int.ofNat_tmod, ← Int.ofNat_tdiv, simprocAttr, BEq.rfl, LN_succ]
          · have e : ((k : Int) - 1).toNat = k - 1 := by omega
            rw [e]
            refine ⟨by unfold inI64; omega, by omega, Cov.go [] [] ?_⟩
            simp [cvT, step, res, boxP2, decide_eq_true h0, -List.getD_eq_getElem?_getD]
            try omega
          · refine Cov.go [] [] ?_
            simp [cvT, step, res, boxP2, decide_eq_false h0, -List.getD_eq_getElem?_getD]
            try omega
        refine SR.cond (b := decide ((0 : Int) < k) && (Op.bytesLess (rowF R k) (rowF R (k - 1)) || rowF R k == rowF R (k - 1))) (by simp [AX.val, getS]) (fun h => ?_) (fun h => ?_)
        · simp only [Bool.and_eq_true, decide_eq_true_eq] at h
          rw [hbad 7 (by unfold rowBad; rw [if_neg hk1, if_neg hk2, if_neg hk3, if_pos ⟨by omega, h.2⟩]) (by decide)]
          refine SR.run (t := .mk) ?_
          simp -dsimp only [aqT, aqU, aqN, aqS, ↓seqK, ↓blkK, ↓loopK, step, stepBin, Nat.add_assoc nid, ↓reduceIte, Option.toList, ← Int.ofNat_tmod, ← Int.ofNat_tdiv, simprocAttr, BEq.rfl, LN_succ]
          refine RetOK.pure (.inl rfl) rfl ?_
          simp [cvT, step, res]
        have hk4 : ¬ (0 < k ∧ (Op.bytesLess (rowF R k) (rowF R (k - 1)) || rowF R k == rowF R (k - 1)) = true) := fun ⟨e1, e2⟩ => by
          rw [e2, decide_eq_true (by omega)] at h
          simp at h
        refine SR.run (t := .mk) ?_
        simp -dsimp only [aqT, aqU, aqN, aqS, ↓seqK, ↓blkK, ↓loopK, step, stepBin, Nat.add_assoc nid, ↓reduceIte, Option.toList, ← Int.ofNat_tmod, ← Int.ofNat_tdiv, simprocAttr, BEq.rfl, LN_succ]
        refine ⟨⟨(), by unfold rowBad; rw [if_neg hk1, if_neg hk2, if_neg hk3, if_neg hk4]⟩, Cov.go [] [] ?_⟩
        simp [cvT, step, res, boxP2, -List.getD_eq_getElem?_getD]
      refine SR.run (t := .mk) ?_
      simp -dsimp only [aqT, aqU, aqN, aqS, ↓seqK, ↓blkK, ↓loopK, step, stepBin, Nat.add_assoc nid, ↓reduceIte, Option.toList, ← Int.ofNat_tmod, ← Int.ofNat_tdiv, simprocAttr, BEq.rfl, LN_succ]
      refine ⟨by unfold inI64; omega, k + 1, ⟨⟨by omega, fun j hj => ?_⟩, by omega⟩, Cov.go [] [] ?_⟩
      · rcases (by omega : j < k ∨ j = k) with hj | hj
        · exact hall j hj
        · rw [hj]; exact h6
      simp [cvT, step, res, boxP2, -List.getD_eq_getElem?_getD]
    · refine ⟨⟨(), fun j hj => hall j (by omega)⟩, Cov.go [] [] ?_⟩
      simp [cvT, step, res, boxP2, -List.getD_eq_getElem?_getD]
  · rw [dictV_good h1 h2 h3 h5]
    refine SR.run (t := .mk) ?_
    simp -dsimp only [aqT, aqU, aqN, aqS, ↓seqK, ↓blkK, ↓loopK, step, stepBin, Nat.add_assoc nid, ↓reduceIte, Option.toList, ← Int.ofNat_tmod, ← Int.ofNat_tdiv, simprocAttr, BEq.rfl, LN_succ]
    refine RetOK.pure (.inl rfl) rfl ?_
    simp [cvT, step, res]
end Go.Proofs.YtpifoghhaohhaaaGreatDoor
namespace Go.Proofs.YtpifoghhaohhaaaGreatDoor
open Go.RowKit Go.Shelf Go.Lib
theorem namesL_len {x : List UInt8} (h : x ∈ namesL) : x.length ≤ 2 := by
  unfold namesL at h
  simp only [List.mem_cons, List.not_mem_nil, or_false] at h
  rcases h with rfl | rfl | rfl | rfl | rfl | rfl | rfl | rfl | rfl <;> decide
theorem rowF_out {R : RowL} {k : Nat} (h : ¬ k < R.length) : rowF R k = [] := by unfold rowF; rw [List.getD_eq_getElem?_getD, List.getElem?_eq_none (by omega)]; rfl
theorem rowR_out {R : RowL} {k : Nat} (h : ¬ k < R.length) : rowR R k = [] := by unfold rowR; rw [List.getD_eq_getElem?_getD, List.getElem?_eq_none (by omega)]; rfl
theorem row_mem {R : RowL} {k : Nat} (h : k < R.length) : (rowF R k, rowR R k) ∈ R := by
  unfold rowF rowR
  rw [List.getD_eq_getElem?_getD, List.getElem?_eq_getElem h]
  exact List.getElem_mem h
theorem DictB.w {m : Nat} {G : List (List UInt8)} {R : RowL} (h : DictB m G R) (hm : m ≤ 100) : DictW G R :=
  ⟨by have := h.gl; omega, h.gs.mono (by omega), by have := h.rl; omega, fun k => by
    by_cases hk : k < R.length
    · obtain ⟨a, b, c⟩ := h.rs _ (row_mem hk)
      have := namesL_len a
      exact ⟨by simp only at this; omega, by simp only at b; omega, c.mono (by omega)⟩
    · rw [rowF_out hk, rowR_out hk]
      exact ⟨by simp, by simp, fun r hr => by simp at hr⟩⟩
set_option maxHeartbeats 1000000 in
theorem rightDict_I (s nid : Nat) (nl : Bool) (A : List Int) (p faults tests : Nat) (h : s < nid) (hp : p ≤ 1099400000000) (hA : A.length ≤ 17592186044416) (hf : faults ≤ 7) (ht1 : 1 ≤ tests) (ht : tests ≤ 6) :
    ACallI Tryz.prog 42 [.ptr s 0, .int .i64 (faults : Nat), .int .i64 (tests : Nat)] [(s, strmC nl A p)] nid (fun x : DictX => (DictB tests x.G x.R ∧ dictV x.G x.R = 0) ∧ x.q ≤ p + 6000) (fun x => dictP x.g0 x.r0 x.b x.G x.R) (fun x => [(s, strmC nl A x.q)]) := by
  obtain ⟨e1, e2, e3, e4, e5, e6, e7, e8, e9⟩ := id_all h
  refine acallI_sr c42 (by simp [a42]) ?_
  unfold a42
  refine SR.seq ?_
  simp -dsimp only [aqT, aqU, aqN, aqS, ↓seqK, ↓blkK, ↓loopK, step, stepBin, Nat.add_assoc nid, ↓reduceIte, Option.toList, ← Int.ofNat_tmod, ← Int.ofNat_tdiv, simprocAttr, BEq.rfl, LN_succ, e1, e2, e3, e4, e5, e6, e7, e8, e9]
  refine SR.seqW (ι := {q : Nat // q ≤ p + 6000}) (fun q => ⟨[(6, .ptr (nid + 4) 0)], [(nid + 4, some (.box 29 [.lit true 0 [], .lit true 0 []])), (s, strmC nl A q)], nid + 2000, nid⟩) ?_ (fun ⟨q, hq⟩ => ?_)
  · refine SR.seq ?_
    simp -dsimp only [aqT, aqU, aqN, aqS, ↓seqK, ↓blkK, ↓loopK, step, stepBin, Nat.add_assoc nid, ↓reduceIte, Option.toList, ← Int.ofNat_tmod, ← Int.ofNat_tdiv, simprocAttr, BEq.rfl, LN_succ, e1, e2, e3, e4, e5, e6, e7, e8, e9]
    refine SR.block ?_
    refine SR.loopP (fun x : Nat × Nat => x.1 ≤ 6 ∧ x.2 ≤ p + 1000 * x.1) (fun x => ⟨[(8, .int .i64 x.1), (6, .ptr (nid + 4) 0), (0, .ptr s 0), (1, .int .i64 (faults : Nat)), (2, .int .i64 (tests : Nat))], [(nid + 4, some (.box 29 [.lit true 0 [], .lit true 0 []])), (s, strmC nl A x.2)], nid + 100, nid⟩) (fun x => 7 - x.1) (0, p) ⟨by simp, by simp⟩ (Cov.go [(nid + 4, nid)] [] ?_) (fun x hx => ?_)
    · simp [cvT, step, res, e1, e2, e3, e4, e5, e6, e7, e8, e9, strmC]
    obtain ⟨i, q⟩ := x
    obtain ⟨hi, hq⟩ := hx
    simp only at hi hq ⊢
    refine SR.seq ?_
    simp -dsimp only [aqT, aqU, aqN, aqS, ↓seqK, ↓blkK, ↓loopK, step, stepBin, Nat.add_assoc nid, ↓reduceIte, Option.toList, ← Int.ofNat_tmod, ← Int.ofNat_tdiv, simprocAttr, BEq.rfl, LN_succ, e1, e2, e3, e4, e5, e6, e7, e8, e9]
    refine SR.seq ?_
    simp -dsimp only [aqT, aqU, aqN, aqS, ↓seqK, ↓blkK, ↓loopK, step, stepBin, Nat.add_assoc nid, ↓reduceIte, Option.toList, ← Int.ofNat_tmod, ← Int.ofNat_tdiv, simprocAttr, BEq.rfl, LN_succ, e1, e2, e3, e4, e5, e6, e7, e8, e9]
    refine S2.dec (fun h4 => ?_) (fun h4 => ?_) <;> simp -dsimp only [aqT, aqU, aqN, aqS, ↓seqK, ↓blkK, ↓loopK, step, stepBin, Nat.add_assoc nid, ↓reduceIte, Option.toList, ← Int.ofNat_tmod, ← Int.ofNat_tdiv, simprocAttr, BEq.rfl, LN_succ]
    · refine SR.seqW (ι := {q2 : Nat // q2 ≤ q + 1000}) (fun q2 => ⟨[(8, .int .i64 i), (6, .ptr (nid + 4) 0), (0, .ptr s 0), (1, .int .i64 (faults : Nat)), (2, .int .i64 (tests : Nat))], [(nid + 4, some (.box 29 [.lit true 0 [], .lit true 0 []])), (s, strmC nl A q2)], nid + 900, nid⟩) ?_ (fun ⟨q2, hq2⟩ => ?_)
      · refine SR.block ?_
        refine SR.seqW (ι := {x : DictX // DictB tests x.G x.R ∧ x.q ≤ q + 1000}) (fun x => ⟨[(7, .ptr (nid + 300) 0), (8, .int .i64 i), (6, .ptr (nid + 4) 0), (0, .ptr s 0), (1, .int .i64 (faults : Nat)), (2, .int .i64 (tests : Nat))], [(nid + 300, boxP2 x.1.g0 x.1.r0 x.1.b x.1.G x.1.R), (nid + 4, some (.box 29 [.lit true 0 [], .lit true 0 []])), (s, strmC nl A x.1.q)], nid + 400, nid⟩) ?_ (fun ⟨x, hx1, hx2⟩ => ?_)
        · refine SR.run (t := .mk) ?_
          simp -dsimp only [aqT, aqU, aqN, aqS, ↓seqK, ↓blkK, ↓loopK, step, stepBin, Nat.add_assoc nid, ↓reduceIte, Option.toList, ← Int.ofNat_tmod, ← Int.ofNat_tdiv, simprocAttr, BEq.rfl, LN_succ, e1, e2, e3, e4, e5, e6, e7, e8, e9]
          refine CallO.any (dict_I s _ nl A q faults tests (by omega) (by omega) hA hf ht1 ht) (subH_get (by simp only [aqT, aqU, aqN, ↓seqK, ↓blkK, ↓loopK, step, stepBin, Nat.reduceBEq, Nat.reduceBeqDiff, Nat.add_assoc nid, Nat.reduceAdd, reduceCtorEq, ↓reduceIte, Nat.reduceLeDiff, Nat.reduceBneDiff, Option.toList, ← Int.ofNat_tmod, ← Int.ofNat_tdiv, Nat.reduceLT, e1, e2, e3, e4, e5, e6, e7, e8, e9, Int.cast_ofNat_Int, Int.reduceBEq, Int.reduceBNe, Int.reduceLT, Int.reduceLE, Int.reduceAdd, Int.reduceSub, Int.reduceMul, Int.reduceToNat, Int.reduceNeg, Int.reduceTMod, Int.reduceEq, not_false_eq_true, Int.reducePow, Int.reduceFDiv, Nat.reducePow, Nat.reduceSub, Nat.reduceMul, Nat.min_eq_left, Nat.reduceEqDiff, BEq.rfl, Int.tdiv_one, LN_succ])) (fun x hx => ?_)
          unfold dictP
          simp -dsimp only [aqT, aqU, aqN, aqS, ↓seqK, ↓blkK, ↓loopK, step, stepBin, Nat.add_assoc nid, ↓reduceIte, Option.toList, ← Int.ofNat_tmod, ← Int.ofNat_tdiv, simprocAttr, BEq.rfl, LN_succ, e1, e2, e3, e4, e5, e6, e7, e8, e9]
          refine ⟨⟨x, hx⟩, Cov.go [(nid + 300, nid + 120)] [] ?_⟩
          simp [cvT, step, res, e1, e2, e3, e4, e5, e6, e7, e8, e9, strmC, boxP2, ColsEq.refl, -List.getD_eq_getElem?_getD]
        · unfold boxP2
          have hr := fun m => dictR_c x.g0 x.r0 x.b x.G x.R m (hx1.w (by omega))
          unfold dictP at hr
          refine SR.run (t := .mk) ?_
          simp -dsimp only [aqT, aqU, aqN, aqS, ↓seqK, ↓blkK, ↓loopK, step, stepBin, Nat.add_assoc nid, ↓reduceIte, Option.toList, ← Int.ofNat_tmod, ← Int.ofNat_tdiv, simprocAttr, BEq.rfl, LN_succ, e1, e2, e3, e4, e5, e6, e7, e8, e9]
          refine CallO.pure (hr _) ?_
          simp -dsimp only [aqT, aqU, aqN, aqS, ↓seqK, ↓blkK, ↓loopK, step, stepBin, Nat.add_assoc nid, ↓reduceIte, Option.toList, ← Int.ofNat_tmod, ← Int.ofNat_tdiv, simprocAttr, BEq.rfl, LN_succ, e1, e2, e3, e4, e5, e6, e7, e8, e9]
          refine S2.intro (fun h5 => ?_) (fun h5 => ?_) <;> simp -dsimp only [aqT, aqU, aqN, aqS, ↓seqK, ↓blkK, ↓loopK, step, stepBin, Nat.add_assoc nid, ↓reduceIte, Option.toList, ← Int.ofNat_tmod, ← Int.ofNat_tdiv, simprocAttr, BEq.rfl, LN_succ, e1, e2, e3, e4, e5, e6, e7, e8, e9]
          · refine ⟨x, ⟨⟨hx1, by simpa using h5⟩, by omega⟩, RetOK.go [] [] (.inl rfl) ?_⟩
            simp [cvT, step, res, e1, e2, e3, e4, e5, e6, e7, e8, e9, a42, strmC, dictP, ColsEq.refl, -List.getD_eq_getElem?_getD]
          · refine ⟨⟨x.q, by omega⟩, Cov.go [] [] ?_⟩
            simp [cvT, step, res, e1, e2, e3, e4, e5, e6, e7, e8, e9, strmC, -List.getD_eq_getElem?_getD]
      refine SR.run (t := .mk) ?_
      simp -dsimp only [aqT, aqU, aqN, aqS, ↓seqK, ↓blkK, ↓loopK, step, stepBin, Nat.add_assoc nid, ↓reduceIte, Option.toList, ← Int.ofNat_tmod, ← Int.ofNat_tdiv, simprocAttr, BEq.rfl, LN_succ, e1, e2, e3, e4, e5, e6, e7, e8, e9]
      refine ⟨by unfold inI64; omega, (i + 1, q2), ⟨⟨by simp only; omega, by simp only; omega⟩, by simp only; omega⟩, Cov.go [] [] ?_⟩
      simp [cvT, step, res, e1, e2, e3, e4, e5, e6, e7, e8, e9, strmC, -List.getD_eq_getElem?_getD]
    · refine ⟨⟨q, by omega⟩, Cov.go [] [] ?_⟩
      simp [cvT, step, res, e1, e2, e3, e4, e5, e6, e7, e8, e9, strmC, -List.getD_eq_getElem?_getD]
  · refine SR.seqTo ⟨[(6, .ptr (nid + 4) 0)], [(nid + 4, boxD (nid + 2500) 1 (nid + 2504) 0), (nid + 2500, arrS [[48]]), (nid + 2504, some (.arr 67 0 [.s fun k => rowF [] k, .l (fun _ => false) (fun k => (rowR [] k).length) (fun k => [.s fun j => (rowR [] k).getD j []])])), (s, strmC nl A q)], nid + 3000, nid⟩ ?_ ?_
    · simp -dsimp only [aqT, aqU, aqN, aqS, ↓seqK, ↓blkK, ↓loopK, step, stepBin, Nat.add_assoc nid, ↓reduceIte, Option.toList, ← Int.ofNat_tmod, ← Int.ofNat_tdiv, simprocAttr, BEq.rfl, LN_succ, e1, e2, e3, e4, e5, e6, e7, e8, e9]
      refine Cov.go [(nid + 2500, nid + 2000)] [(nid + 2504, 2)] ?_
      simp [cvT, step, res, e1, e2, e3, e4, e5, e6, e7, e8, e9, strmC, boxD, arrS, -List.getD_eq_getElem?_getD]
    unfold boxD arrS
    refine SR.freezeB [nid + 2500, nid + 2504] (fun n2 => ?_)
    simp only [frzS, frzH, frzBlk, lends, lend, kill, strmC, noOs, aqT, aqU, aqN, aqS, ↓seqK, ↓blkK, ↓loopK, step, stepBin, Nat.add_assoc nid, ↓reduceIte, Option.toList, ← Int.ofNat_tmod, ← Int.ofNat_tdiv, simprocAttr, BEq.rfl, LN_succ, e1, e2, e3, e4, e5, e6, e7, e8, e9]
    refine SR.run (t := .mk) ?_
    simp -dsimp only [aqT, aqU, aqN, aqS, ↓seqK, ↓blkK, ↓loopK, step, stepBin, Nat.add_assoc nid, ↓reduceIte, Option.toList, ← Int.ofNat_tmod, ← Int.ofNat_tdiv, simprocAttr, BEq.rfl, LN_succ, e1, e2, e3, e4, e5, e6, e7, e8, e9]
    refine ⟨⟨n2 (nid + 2500), n2 (nid + 2504), fun _ => false, [[48]], [], q⟩, ⟨⟨⟨by simpa using ht1, ?_, by simp, by simp⟩, by rfl⟩, by simp only; omega⟩, RetOK.go [] [] (.inl rfl) ?_⟩
    · intro r hr
      simp only [List.mem_singleton] at hr
      subst hr
      decide
    simp [cvT, step, res, e1, e2, e3, e4, e5, e6, e7, e8, e9, a42, strmC, dictP, ColsEq.refl, -List.getD_eq_getElem?_getD]
end Go.Proofs.YtpifoghhaohhaaaGreatDoor
namespace Go.Proofs.YtpifoghhaohhaaaGreatDoor
open Go.RowKit Go.Shelf Go.Lib
abbrev SeenL := List (Int × List UInt8)
def sT (S : SeenL) (k : Nat) : Int := (S.getD k (0, [])).1
def sR (S : SeenL) (k : Nat) : List UInt8 := (S.getD k (0, [])).2
def boxRw (f : List UInt8) (b : Bool) (L : List (List UInt8)) : Option ABlk := some (.box 67 [.str f, .lit b L.length [.s fun j => L.getD j []]])
def offB (L : List (List UInt8)) (t : Int) (r : List UInt8) : Bool := !(L.getD t.toNat [] == r)
def idxR (F : Nat → Bool) (n : Nat) : Int := if (List.range n).any F = true then (((List.range n).findIdx F : Nat) : Int) else -1
theorem idxR_at {F : Nat → Bool} {n k : Nat} (hk : k < n) (h : F k = true) (h0 : ∀ j, j < k → F j = false) : idxR F n = (k : Nat) := by
  have e : (List.range n).findIdx F = k := (List.findIdx_eq (by simpa using hk)).2 ⟨by simpa using h, fun j hj => by simpa using h0 j hj⟩
  unfold idxR
  rw [if_pos, e]
  exact List.any_eq_true.2 ⟨k, List.mem_range.2 hk, h⟩
theorem idxR_no {F : Nat → Bool} {n : Nat} (h0 : ∀ j, j < n → F j = false) : idxR F n = -1 := by
  unfold idxR
  rw [if_neg]
  intro h
  obtain ⟨x, hx, hf⟩ := List.any_eq_true.1 h
  rw [h0 x (List.mem_range.1 hx)] at hf; cases hf
theorem idxR_any (F : Nat → Bool) (n : Nat) : decide (0 ≤ idxR F n) = (List.range n).any F := by
  unfold idxR
  cases h : (List.range n).any F <;> simp
def consB (L : List (List UInt8)) (S : SeenL) : Bool := !(List.range S.length).any (fun k => offB L (sT S k) (sR S k))
end Go.Proofs.YtpifoghhaohhaaaGreatDoor
namespace Go.Proofs.YtpifoghhaohhaaaGreatDoor
open Go.RowKit Go.Shelf Go.Lib
end Go.Proofs.YtpifoghhaohhaaaGreatDoor
namespace Go.Proofs.YtpifoghhaohhaaaGreatDoor
open Go.RowKit Go.Shelf Go.Lib
abbrev Rw := List UInt8 × Bool × List (List UInt8)
def z0 : Rw := ([], true, [])
def colsRw (l : List Rw) : List Col := [.s fun k => (l.getD k z0).1, .l (fun k => (l.getD k z0).2.1) (fun k => (l.getD k z0).2.2.length) (fun k => [.s fun j => (l.getD k z0).2.2.getD j []])]
def arrRw (l : List Rw) : Option ABlk := some (.arr 67 l.length (colsRw l))
end Go.Proofs.YtpifoghhaohhaaaGreatDoor
namespace Go.Proofs.YtpifoghhaohhaaaGreatDoor
open Go.RowKit Go.Shelf Go.Lib
def seenBad (n : Nat) (S : SeenL) (k : Nat) : Int :=
  if outB (sT S k) 0 ((n : Int) - 1) = true then 1 else if oddS (sR S k) = true then 9 else if 0 < k ∧ sT S k ≤ sT S (k - 1) then 7 else 0
structure SnW (S : SeenL) : Prop where
  l : S.length ≤ 1000000
  r : ∀ k, (sR S k).length ≤ 1000000
end Go.Proofs.YtpifoghhaohhaaaGreatDoor
namespace Go.Proofs.YtpifoghhaohhaaaGreatDoor
open Go.RowKit Go.Shelf Go.Lib
theorem firstBad_all0 {f : Nat → Int} {n : Nat} (h : firstBad f (List.range n) = 0) : ∀ j, j < n → f j = 0 := fun j hj => firstBad_all h j (List.mem_range.2 hj)
theorem dictV_rows {G : List (List UInt8)} {R : RowL} (h : dictV G R = 0) : ∀ j, j < R.length → (rowR R j).length = G.length := fun j hj => by
  unfold dictV at h
  split at h
  · omega
  split at h
  · omega
  split at h
  · omega
  have := firstBad_all0 h j hj
  unfold rowBad at this
  split at this
  · omega
  split at this
  · omega
  omega
def rowsP (r0 : Bool) (b : Nat → Bool) (R : RowL) : PV := .lit r0 R.length [.s fun k => rowF R k, .l b (fun k => (rowR R k).length) (fun k => [.s fun j => (rowR R k).getD j []])]
end Go.Proofs.YtpifoghhaohhaaaGreatDoor
namespace Go.Proofs.YtpifoghhaohhaaaGreatDoor
theorem sT_old {S : SeenL} {y : Int × List UInt8} {k : Nat} (h : k < S.length) : sT (S ++ [y]) k = sT S k := by unfold sT; rw [List.getD_eq_getElem?_getD, List.getElem?_append_left h, ← List.getD_eq_getElem?_getD]
theorem sR_old {S : SeenL} {y : Int × List UInt8} {k : Nat} (h : k < S.length) : sR (S ++ [y]) k = sR S k := by unfold sR; rw [List.getD_eq_getElem?_getD, List.getElem?_append_left h, ← List.getD_eq_getElem?_getD]
theorem sT_new {S : SeenL} {y : Int × List UInt8} {k : Nat} (h : k = S.length) : sT (S ++ [y]) k = y.1 := by unfold sT; subst h; simp
theorem sR_new {S : SeenL} {y : Int × List UInt8} {k : Nat} (h : k = S.length) : sR (S ++ [y]) k = y.2 := by unfold sR; subst h; simp
theorem consB_iff {L : List (List UInt8)} {S : SeenL} : consB L S = true ↔ ∀ k, k < S.length → L.getD (sT S k).toNat [] = sR S k := by
  unfold consB offB
  simp only [Bool.not_eq_true', List.any_eq_false, List.mem_range, Bool.not_eq_false, beq_iff_eq]
structure SeenOk (G L : List (List UInt8)) (S : SeenL) (m : Nat) : Prop where
  i : ∀ k, k < S.length → 0 ≤ sT S k ∧ sT S k < m
  o : ∀ k, k + 1 < S.length → sT S k < sT S (k + 1)
  r : ∀ k, k < S.length → sR S k = L.getD (sT S k).toNat []
theorem SeenOk.skip {G L : List (List UInt8)} {S : SeenL} {m : Nat} (h : SeenOk G L S m) : SeenOk G L S (m + 1) := ⟨fun k hk => by have := h.i k hk; omega, h.o, h.r⟩
theorem SeenOk.more {G L : List (List UInt8)} {S : SeenL} {m : Nat} (h : SeenOk G L S m) : SeenOk G L (S ++ [((m : Int), L.getD m [])]) (m + 1) := by
  have hl : (S ++ [((m : Int), L.getD m [])]).length = S.length + 1 := by simp
  refine ⟨fun k hk => ?_, fun k hk => ?_, fun k hk => ?_⟩
  · rw [hl] at hk
    by_cases e : k < S.length
    · rw [sT_old e]; have := h.i k e; omega
    · rw [sT_new (by omega)]; simp only; omega
  · rw [hl] at hk
    by_cases e : k + 1 < S.length
    · rw [sT_old e, sT_old (by omega)]; exact h.o k e
    · rw [sT_old (by omega), sT_new (by omega)]; exact (h.i k (by omega)).2
  · rw [hl] at hk
    by_cases e : k < S.length
    · rw [sT_old e, sR_old e]; exact h.r k e
    · rw [sT_new (by omega), sR_new (by omega)]; simp
theorem SeenOk.len {G L : List (List UInt8)} {S : SeenL} {m : Nat} (h : SeenOk G L S m) : S.length ≤ m := by
  have : ∀ k, k < S.length → (k : Int) ≤ sT S k := fun k => by
    induction k with
    | zero => intro hk; exact (h.i 0 hk).1
    | succ k ih => intro hk; have := ih (by omega); have := h.o k hk; omega
  by_cases e : S.length = 0
  · omega
  · have h1 := this (S.length - 1) (by omega)
    have h2 := (h.i (S.length - 1) (by omega)).2
    omega
theorem SeenOk.w {G L : List (List UInt8)} {S : SeenL} {m : Nat} (h : SeenOk G L S m) (hm : m ≤ 1000000) (hL : ShortRows 1000000 L) (hl : S.length ≤ m) : SnW S := ⟨by omega, fun k => by
  by_cases hk : k < S.length
  · rw [h.r k hk]; exact hL.at _
  · unfold sR; rw [List.getD_eq_getElem?_getD, List.getElem?_eq_none (by omega)]; simp⟩
theorem SeenOk.cons {G L : List (List UInt8)} {S : SeenL} {m : Nat} (h : SeenOk G L S m) : consB L S = true := consB_iff.2 fun k hk => (h.r k hk).symm
theorem SeenOk.bad {G L : List (List UInt8)} {S : SeenL} {m : Nat} (h : SeenOk G L S m) (hm : m ≤ G.length) (hL : L.length = G.length) (hr : L.any oddS = false) : ∀ k, k < S.length → seenBad G.length S k = 0 := fun k hk => by
  have hi := h.i k hk
  unfold seenBad outB
  rw [if_neg (by simp only [decide_eq_true_eq]; omega)]
  have hno : ¬ oddS (sR S k) = true := by
    rw [h.r k hk]
    have hlt : (sT S k).toNat < L.length := by omega
    rw [List.getD_eq_getElem?_getD, List.getElem?_eq_getElem hlt]
    have := List.any_eq_false.1 hr _ (List.getElem_mem hlt)
    exact this
  rw [if_neg hno, if_neg]
  rintro ⟨h1, h2⟩
  have := h.o (k - 1) (by omega)
  rw [show k - 1 + 1 = k by omega] at this
  omega
end Go.Proofs.YtpifoghhaohhaaaGreatDoor
namespace Go.Proofs.YtpifoghhaohhaaaGreatDoor
open Go.RowKit Go.Shelf Go.Lib
structure SnB (m : Nat) (S : SeenL) : Prop where
  l : S.length ≤ m
  r : ∀ x ∈ S, (-1 ≤ x.1 ∧ x.1 ≤ 1000000) ∧ x.2.length ≤ 101
theorem SnB.w {m : Nat} {S : SeenL} (h : SnB m S) (hm : m ≤ 1000000) : SnW S := ⟨by have := h.l; omega, fun k => by
  unfold sR
  rw [List.getD_eq_getElem?_getD]
  cases e : S[k]? with
  | none => simp
  | some x => have := (h.r x (List.mem_of_getElem? e)).2; simp only [Option.getD_some]; omega⟩
theorem SnB.at {m : Nat} {S : SeenL} (h : SnB m S) {k : Nat} (hk : k < S.length) : (-1 ≤ sT S k ∧ sT S k ≤ 1000000) ∧ (sR S k).length ≤ 101 := by
  have := h.r _ (List.getElem_mem hk)
  unfold sT sR
  rw [List.getD_eq_getElem?_getD, List.getElem?_eq_getElem hk]
  exact this
theorem SnB.snoc {m : Nat} {S : SeenL} (h : SnB m S) {t : Int} {r : List UInt8} (ht : -1 ≤ t ∧ t ≤ 1000000) (hr : r.length ≤ 101) : SnB (m + 1) (S ++ [(t, r)]) := ⟨by have := h.l; simp; omega, fun x hx => by
  rcases List.mem_append.1 hx with hx | hx
  · exact h.r x hx
  · simp only [List.mem_singleton] at hx; subst hx; exact ⟨ht, hr⟩⟩
theorem SnB.more {m m' : Nat} {S : SeenL} (h : SnB m S) (hm : m ≤ m') : SnB m' S := ⟨by have := h.l; omega, h.r⟩
theorem SnB.put {m : Nat} {S : SeenL} (h : SnB m S) {t : Int} {r : List UInt8} (ht : -1 ≤ t ∧ t ≤ 1000000) (hr : r.length ≤ 101) (I : Nat) : SnB m (S.set I (t, r)) := ⟨by rw [List.length_set]; exact h.l, fun x hx => by
  rcases List.mem_or_eq_of_mem_set hx with hx | rfl
  · exact h.r x hx
  · exact ⟨ht, hr⟩⟩
end Go.Proofs.YtpifoghhaohhaaaGreatDoor
namespace Go.Proofs.YtpifoghhaohhaaaGreatDoor
open Go.RowKit Go.Shelf Go.Lib
end Go.Proofs.YtpifoghhaohhaaaGreatDoor
namespace Go.Proofs.YtpifoghhaohhaaaGreatDoor
open Go.RowKit Go.Shelf Go.Lib
end Go.Proofs.YtpifoghhaohhaaaGreatDoor
namespace Go.Proofs.YtpifoghhaohhaaaGreatDoor
open Go.RowKit Go.Shelf Go.Lib
def rowsB (b : Nat → Bool) (R : RowL) : List Rw := (List.range R.length).map fun k => (rowF R k, b k, rowR R k)
theorem rowsB_len (b : Nat → Bool) (R : RowL) : (rowsB b R).length = R.length := by simp [rowsB]
theorem rowsB_at (b : Nat → Bool) (R : RowL) {k : Nat} (hk : k < R.length) : (rowsB b R).getD k z0 = (rowF R k, b k, rowR R k) := by
  unfold rowsB
  rw [List.getD_eq_getElem?_getD, List.getElem?_map, List.getElem?_range hk]
  rfl
theorem allCols_eq (n : Nat) (b0 : Bool) (b : Nat → Bool) (G : List (List UInt8)) (R : RowL) (hn : n = R.length + 1) :
    ColEq n (.s fun i => if i = 0 then ([([] : List UInt8)] : List (List UInt8)).getD i [] else rowF R (i - 1)) (.s fun k => ((([], b0, G) :: rowsB b R : List Rw).getD k z0).1) := ColEq.s fun j hj => by
  rcases j with _ | j
  · rfl
  · rw [if_neg (by omega), List.getD_cons_succ, Nat.add_sub_cancel, rowsB_at b R (by omega)]
theorem allColl_eq (n : Nat) (b0 : Bool) (b : Nat → Bool) (G : List (List UInt8)) (R : RowL) (hn : n = R.length + 1) (a : Nat → Bool) (g : Nat → Nat) (c : Nat → List Col) (h0 : a 0 = b0 ∧ g 0 = G.length ∧ c 0 = [.s fun j => G.getD j []]) :
    ColEq n (.l (fun i => if i = 0 then a i else b (i - 1)) (fun i => if i = 0 then g i else (rowR R (i - 1)).length) (fun i => if i = 0 then c i else [.s fun j => (rowR R (i - 1)).getD j []]))
      (.l (fun k => ((([], b0, G) :: rowsB b R : List Rw).getD k z0).2.1) (fun k => ((([], b0, G) :: rowsB b R : List Rw).getD k z0).2.2.length) (fun k => [.s fun j => ((([], b0, G) :: rowsB b R : List Rw).getD k z0).2.2.getD j []])) := ColEq.l fun j hj => by
  rcases j with _ | j
  · obtain ⟨h1, h2, h3⟩ := h0
    rw [if_pos rfl, if_pos rfl, if_pos rfl, List.getD_cons_zero]
    exact ⟨h1, h2, colsEq_of h3⟩
  · rw [if_neg (by omega), if_neg (by omega), if_neg (by omega), List.getD_cons_succ, Nat.add_sub_cancel, rowsB_at b R (by omega)]
    exact ⟨rfl, rfl, ColsEq.refl _ _⟩
theorem allD_c (g0 r0 : Bool) (b : Nat → Bool) (G : List (List UInt8)) (R : RowL) (nid : Nat) (hR : R.length ≤ 1000000) :
    ACall Tryz.prog 129 [dictP g0 r0 b G R] [] nid (.sl nid 0 (R.length + 1)) [(nid, arrRw (([], g0, G) :: rowsB b R))] := by
  have hl := rowsB_len b R
  refine acall_run c129 (by simp [a129]) ?_
  unfold dictP
  simp -dsimp only [aqT, aqU, aqN, aqS, ↓seqK, ↓blkK, ↓loopK, step, stepBin, Nat.add_assoc nid, ↓reduceIte, Option.toList, ← Int.ofNat_tmod, ← Int.ofNat_tdiv, simprocAttr, BEq.rfl, LN_succ, a129]
  refine ⟨⟨by omega, by omega⟩, RetOK.go [(nid, nid + 32)] [] (.inl rfl) ?_⟩
  simp only [a129, cvT, step, res, arrRw, colsRw, List.length_cons, hl]
  simp [cvT, step, res, Nat.add_comm, -List.getD_eq_getElem?_getD]
  exact ⟨allCols_eq _ g0 b G R (by omega), allColl_eq _ g0 b G R (by omega) _ _ _ ⟨rfl, rfl, rfl⟩⟩
theorem keyFact {b : Nat} {Hs : Heap} (hs : Scoped b Hs) {i : Nat} {x : ABlk} (h : getH Hs i = some x) : (b == i) = false ∧ (∀ k, (b + k == i) = false) ∧ i < b := by
  have hlt := hs.lt i (by simpa using getH_key h)
  refine ⟨?_, fun k => ?_, hlt⟩
  · simp; omega
  · simp; omega
end Go.Proofs.YtpifoghhaohhaaaGreatDoor
namespace Go.Proofs.YtpifoghhaohhaaaGreatDoor
open Go.RowKit Go.Shelf Go.Lib
end Go.Proofs.YtpifoghhaohhaaaGreatDoor
namespace Go.Proofs.YtpifoghhaohhaaaGreatDoor
open Go.RowKit Go.Shelf Go.Lib
end Go.Proofs.YtpifoghhaohhaaaGreatDoor
namespace Go.Proofs.YtpifoghhaohhaaaGreatDoor
open Go.RowKit Go.Shelf Go.Lib
end Go.Proofs.YtpifoghhaohhaaaGreatDoor
namespace Go.Proofs.YtpifoghhaohhaaaGreatDoor
open Go.RowKit Go.Shelf Go.Lib
end Go.Proofs.YtpifoghhaohhaaaGreatDoor
namespace Go.Proofs.YtpifoghhaohhaaaGreatDoor
open Go.RowKit Go.Shelf Go.Lib
theorem getD_appI (l : List Int) (x : Int) : (fun i => if i < l.length then l.getD i 0 else [x].getD (i - l.length) 0) = fun i => (l ++ [x]).getD i 0 := by
  funext i
  simp only [List.getD_eq_getElem?_getD, List.getElem?_append]
  by_cases h : i < l.length
  · rw [if_pos h, if_pos h]
  · rw [if_neg h, if_neg h]
theorem Scoped.cons {b b' i : Nat} {x : ABlk} {Hs : Heap} (hs : Scoped b Hs) (hb : b ≤ i) (hi : i < b') (hx : lowBlk b' (some x) = true) : Scoped b' ((i, some x) :: Hs) := by
  have hs' := hs.mono (b' := b') (by omega)
  refine ⟨fun j hj => ?_, fun j y hy => ?_⟩
  · simp only [keys, List.map_cons, List.mem_cons] at hj
    rcases hj with rfl | hj
    · exact hi
    · exact hs'.lt j hj
  · simp only [getH] at hy
    by_cases e : (i == j) = true
    · simp only [e, cond_true, Option.some.injEq] at hy; subst hy; exact hx
    · simp only [Bool.not_eq_true] at e; simp only [e, cond_false] at hy
      exact hs'.blk j y hy
def detB (G L : List (List UInt8)) (t : Int) : Bool := !(L.getD t.toNat [] == G.getD t.toNat [])
end Go.Proofs.YtpifoghhaohhaaaGreatDoor
namespace Go.Proofs.YtpifoghhaohhaaaGreatDoor
open Go.RowKit Go.Shelf Go.Lib
def wL (L : List (List UInt8)) (T : List Int) (k : Nat) : List (List UInt8) := (T.take k).map fun t => L.getD t.toNat []
theorem wL_succ (L : List (List UInt8)) (T : List Int) {k : Nat} (hk : k < T.length) : wL L T (k + 1) = wL L T k ++ [L.getD (T.getD k 0).toNat []] := by
  unfold wL
  rw [List.take_succ_eq_append_getElem hk, List.map_append, List.getD_eq_getElem?_getD (l := T), List.getElem?_eq_getElem hk]
  rfl
theorem wL_all (L : List (List UInt8)) (T : List Int) : joinW (wL L T T.length) = toldV L T := by unfold wL toldV; rw [List.take_length]
theorem wL_len (L : List (List UInt8)) (T : List Int) {k : Nat} (hk : k ≤ T.length) : (wL L T k).length = k := by unfold wL; rw [List.length_map, List.length_take]; omega
theorem wL_short {L : List (List UInt8)} {m : Nat} (h : ShortRows m L) (T : List Int) (k : Nat) : ∀ x ∈ wL L T k, x.length ≤ m := fun x hx => by
  unfold wL at hx
  obtain ⟨t, _, rfl⟩ := List.mem_map.1 hx
  exact h.at _
set_option maxHeartbeats 2000000 in
theorem told_c (f : List UInt8) (bl : Bool) (L : List (List UInt8)) (nl : Bool) (T : List Int) (nid : Nat) (hT : T.length ≤ 1000) (hI : ∀ t ∈ T, 0 ≤ t ∧ t < L.length) (hL : L.length ≤ 1000000) (hs : ShortRows 1000000 L) :
    ACall Tryz.prog 183 [.agg [.str f, litS bl L], litI nl T] [] nid (.str (toldV L T)) [] := by
  refine acall_run c183 (by simp [a183]) ?_
  unfold litS litI
  simp -dsimp only [aqT, aqU, aqN, aqS, ↓seqK, ↓blkK, ↓loopK, step, stepBin, Nat.add_assoc nid, ↓reduceIte, Option.toList, ← Int.ofNat_tmod, ← Int.ofNat_tdiv, simprocAttr, BEq.rfl, LN_succ, a183]
  refine LP.mkP (fun k : Nat => k ≤ T.length) (fun k => ⟨[(10, .int .i64 k), (9, .int .i64 T.length), (8, litI nl T), (5, .sl (nid + 8) 0 (wL L T k).length), (2, .ptr nid 0)], [(nid + 8, arrS (wL L T k)), (nid, boxRw f bl L)], nid + 100, nid⟩) (fun k => T.length + 1 - k) 0 (by omega) (Cov.go [] [(nid + 8, 1)] ?_) (fun k hk => ?_)
  · simp [cvT, step, res, boxRw, arrS, litI, wL, ColsEq.refl, -List.getD_eq_getElem?_getD]
  have hsu := fun h => wL_succ L T (k := k) h
  have hll := wL_len L T hk
  have hsh := wL_short hs T k
  have hend : k = T.length → joinW (wL L T k) = toldV L T := fun e => by rw [e]; exact wL_all L T
  generalize wL L T k = V at *
  unfold boxRw arrS litI
  simp -dsimp only [aqT, aqU, aqN, aqS, ↓seqK, ↓blkK, ↓loopK, step, stepBin, Nat.add_assoc nid, ↓reduceIte, Option.toList, ← Int.ofNat_tmod, ← Int.ofNat_tdiv, simprocAttr, BEq.rfl, LN_succ]
  refine S2.dec (fun h3 => ?_) (fun h3 => ?_) <;> simp -dsimp only [aqT, aqU, aqN, aqS, ↓seqK, ↓blkK, ↓loopK, step, stepBin, Nat.add_assoc nid, ↓reduceIte, Option.toList, ← Int.ofNat_tmod, ← Int.ofNat_tdiv, simprocAttr, BEq.rfl, LN_succ]
  · have hkl : k < T.length := by omega
    have hsu := hsu hkl
    obtain ⟨i1, i2⟩ := hI (T.getD k 0) (by rw [List.getD_eq_getElem?_getD, List.getElem?_eq_getElem hkl]; exact List.getElem_mem hkl)
    rw [getD_app1 V _ rfl]
    refine ⟨by omega, ⟨by omega, by omega⟩, ⟨by omega, by omega⟩, by unfold inI64; omega, k + 1, ⟨by omega, by omega⟩, Cov.go [(nid + 8, nid + 144)] [] ?_⟩
    simp only [hsu]
    simp [cvT, step, res, boxRw, arrS, litI, ColsEq.refl, -List.getD_eq_getElem?_getD, -List.length_append]
    try simp
  · have hkT : k = T.length := by omega
    rw [← hend hkT]
    have hjl := joinW_len V 1000000 hsh
    have : V.length * (1000000 + 1) ≤ 1000 * (1000000 + 1) := Nat.mul_le_mul_right _ (by omega)
    refine CallO.lent [nid + 8] (fun nl' => by
      simp only [lends, lend, noOs, aqT, aqU, aqN, aqS, ↓seqK, ↓blkK, ↓loopK, step, stepBin, Nat.add_assoc nid, ↓reduceIte, Option.toList, ← Int.ofNat_tmod, ← Int.ofNat_tdiv, simprocAttr, BEq.rfl, LN_succ]
      exact join_cc _ V [32] _ (by omega) (by rw [join_joinW]; omega)) rfl rfl (by simp only [List.mem_singleton, forall_eq, aqT, aqU, aqN, aqS, ↓seqK, ↓blkK, ↓loopK, step, stepBin, Nat.add_assoc nid, ↓reduceIte, Option.toList, ← Int.ofNat_tmod, ← Int.ofNat_tdiv, simprocAttr, BEq.rfl, LN_succ]) ?_
    rw [join_joinW]
    simp -dsimp only [aqT, aqU, aqN, aqS, ↓seqK, ↓blkK, ↓loopK, step, stepBin, Nat.add_assoc nid, ↓reduceIte, Option.toList, ← Int.ofNat_tmod, ← Int.ofNat_tdiv, simprocAttr, BEq.rfl, LN_succ]
    refine RetOK.go [] [] (.inl rfl) ?_
    simp [a183, cvT, step, res]
def gB (l : List (List UInt8)) : ABlk := .arr 9 l.length [.s fun i => l.getD i []]
theorem gB_self {hi : Nat} {ren nils : List (Nat × Nat)} (l : List (List UInt8)) : BlkCov hi ren nils (gB l) (gB l) := And.intro rfl (And.intro rfl (AColsEq.self _ rfl))
def outG (b m : Nat) (g : Nat → List (List UInt8)) : Option ABlk := some (.arr 26 m [.o (fun j => b + (100 + j)) (fun j => (g j).length)])
def domK (K : Nat → List UInt8) (i : Nat) (q : MK) : Bool := (List.range i).any fun j => decide (q = .s (K j))
def valK (K : Nat → List UInt8) (i : Nat) : MK → Int
  | .s s => ((posK K i s : Nat) : Int)
  | _ => 0
theorem valK_s (K : Nat → List UInt8) (i : Nat) (s : List UInt8) : valK K i (.s s) = ((posK K i s : Nat) : Int) := rfl
def mapK (K : Nat → List UInt8) (i : Nat) : Option ABlk := some (.map .s (domK K i) (.i .i64 (valK K i)))
theorem domK_iff {K : Nat → List UInt8} {i : Nat} {s : List UInt8} : domK K i (.s s) = true ↔ ∃ j, j < i ∧ K j = s := by
  unfold domK
  rw [List.any_eq_true]
  constructor
  · rintro ⟨j, hj, h⟩
    have h := of_decide_eq_true h
    injection h with h
    exact ⟨j, List.mem_range.1 hj, h.symm⟩
  · rintro ⟨j, hj, h⟩
    exact ⟨j, List.mem_range.2 hj, by rw [h]; simp⟩
theorem domK_new {K : Nat → List UInt8} {i : Nat} : domK K i (.s (K i)) = !newK K i := by
  rw [Bool.eq_iff_iff, domK_iff, Bool.not_eq_true', new_iff]
theorem mapK_old {hi : Nat} {ren nils : List (Nat × Nat)} {K : Nat → List UInt8} {i : Nat} (h : newK K i = false) : BlkCov hi ren nils (.map .s (domK K i) (.i .i64 (valK K i))) (.map .s (domK K (i + 1)) (.i .i64 (valK K (i + 1)))) := by
  refine And.intro rfl fun q hq => ?_
  cases q with
  | s s =>
    obtain ⟨j, hj, e⟩ := new_iff.1 h
    have hd : domK K i (.s s) = domK K (i + 1) (.s s) := by
      rw [Bool.eq_iff_iff, domK_iff, domK_iff]
      constructor
      · rintro ⟨a, ha, e2⟩; exact ⟨a, by omega, e2⟩
      · rintro ⟨a, ha, e2⟩
        rcases (by omega : a < i ∨ a = i) with h1 | h1
        · exact ⟨a, h1, e2⟩
        · subst h1; exact ⟨j, hj, e.trans e2⟩
    refine ⟨hd, fun _ => ?_⟩
    show Value.int .i64 (valK K i (.s s)) = Value.int .i64 (valK K (i + 1) (.s s))
    rw [valK_s, valK_s]
    unfold posK
    rw [fsts_old h]
  | i n => cases hq
  | p a b => cases hq
theorem mapK_new {hi : Nat} {ren nils : List (Nat × Nat)} {K : Nat → List UInt8} {i : Nat} (h : newK K i = true) :
    BlkCov hi ren nils (.map .s (fun p => if p = MK.s (K i) then true else domK K i p) (.i .i64 fun p => if p = MK.s (K i) then (((fsts K i).length : Nat) : Int) else valK K i p)) (.map .s (domK K (i + 1)) (.i .i64 (valK K (i + 1)))) := by
  refine And.intro rfl fun q hq => ?_
  cases q with
  | s s =>
    by_cases e : s = K i
    · subst e
      have hno : ¬ ∃ j, j < i ∧ K j = K i := fun ⟨j, hj, e⟩ => newK_ne h hj e
      refine ⟨?_, fun _ => ?_⟩
      · show (if MK.s (K i) = MK.s (K i) then true else domK K i (.s (K i))) = _
        rw [if_pos rfl]
        exact (domK_iff.2 ⟨i, by omega, rfl⟩).symm
      · show Value.int .i64 (if MK.s (K i) = MK.s (K i) then _ else _) = Value.int .i64 (valK K (i + 1) (.s (K i)))
        rw [if_pos rfl, valK_s, posK_new h, if_neg hno, if_pos rfl]
    · have ne : ¬ (MK.s s = MK.s (K i)) := fun h => e (by injection h)
      have hd : domK K i (.s s) = domK K (i + 1) (.s s) := by
        rw [Bool.eq_iff_iff, domK_iff, domK_iff]
        constructor
        · rintro ⟨a, ha, e2⟩; exact ⟨a, by omega, e2⟩
        · rintro ⟨a, ha, e2⟩
          rcases (by omega : a < i ∨ a = i) with h1 | h1
          · exact ⟨a, h1, e2⟩
          · subst h1; exact absurd e2.symm e
      refine ⟨by show (if MK.s s = MK.s (K i) then true else domK K i (.s s)) = _; rw [if_neg ne]; exact hd, fun hh => ?_⟩
      replace hh : (if MK.s s = MK.s (K i) then true else domK K i (.s s)) = true := hh
      rw [if_neg ne] at hh
      show Value.int .i64 (if MK.s s = MK.s (K i) then _ else _) = Value.int .i64 (valK K (i + 1) (.s s))
      rw [if_neg ne, valK_s, valK_s, posK_new h, if_pos (domK_iff.1 hh)]
  | i n => cases hq
  | p a b => cases hq
end Go.Proofs.YtpifoghhaohhaaaGreatDoor
namespace Go.Proofs.YtpifoghhaohhaaaGreatDoor
open Go.RowKit Go.Shelf Go.Lib
def rowD (G : List (List UInt8)) (R : RowL) : RowL := ([], G) :: R
def keyD (G : List (List UInt8)) (R : RowL) (T : List Int) (j : Nat) : List UInt8 := toldV ((rowD G R).getD j ([], [])).2 T
def nameD (G : List (List UInt8)) (R : RowL) (j : Nat) : List UInt8 := ((rowD G R).getD j ([], [])).1
def grpD (G : List (List UInt8)) (R : RowL) (T : List Int) : List (List (List UInt8)) := grps (keyD G R T) (nameD G R) (R.length + 1)
theorem rowX_at (g0 : Bool) (b : Nat → Bool) (G : List (List UInt8)) (R : RowL) (j : Nat) : ((([], g0, G) :: rowsB b R).getD j z0).1 = nameD G R j ∧ ((([], g0, G) :: rowsB b R).getD j z0).2.2 = ((rowD G R).getD j ([], [])).2 := by
  unfold nameD rowD
  cases j with
  | zero => exact ⟨rfl, rfl⟩
  | succ j =>
    simp only [List.getD_cons_succ]
    by_cases h : j < R.length
    · rw [rowsB_at b R h]
      exact ⟨rfl, rfl⟩
    · rw [List.getD_eq_getElem?_getD, List.getElem?_eq_none (by rw [rowsB_len]; omega), List.getD_eq_getElem?_getD, List.getElem?_eq_none (by omega)]
      exact ⟨rfl, rfl⟩
def noG (_ : Nat) : Bool := false
def arrG (gs : List (List (List UInt8))) : Option ABlk := some (.arr 26 gs.length [.l noG (fun k => (gs.getD k []).length) (fun k => [.s fun j => (gs.getD k []).getD j []])])
def litG (nl : Bool) (gs : List (List (List UInt8))) : PV := .lit nl gs.length [.l noG (fun k => (gs.getD k []).length) (fun k => [.s fun j => (gs.getD k []).getD j []])]
set_option maxHeartbeats 16000000 in
theorem groups_c (g0 r0 : Bool) (b : Nat → Bool) (G : List (List UInt8)) (R : RowL) (nl : Bool) (T : List Int) (nid : Nat) (hB : DictW G R) (hD : dictV G R = 0) (hr : R.length ≤ 7) (hT : T.length ≤ 1000) (hI : ∀ t ∈ T, 0 ≤ t ∧ t < G.length) :
    ACall Tryz.prog 93 [dictP g0 r0 b G R, litI nl T] [] nid (.sl nid 0 (grpD G R T).length) [(nid, arrG (grpD G R T))] := by
  have hgl := hB.gl
  have hlen := dictV_rows hD
  have hall := fun m => allD_c g0 r0 b G R m hB.rl
  have hXl : (([], g0, G) :: rowsB b R).length = R.length + 1 := by rw [List.length_cons, rowsB_len]
  have hXr : ∀ k, k < R.length + 1 → ((([], g0, G) :: rowsB b R).getD k z0).2.2.length = G.length ∧ ShortRows 1000000 ((([], g0, G) :: rowsB b R).getD k z0).2.2 := fun k hk => by
    cases k with
    | zero => exact ⟨rfl, hB.gs⟩
    | succ k =>
      rw [List.getD_cons_succ, rowsB_at b R (by omega)]
      exact ⟨hlen k (by omega), (hB.rs k).2.2⟩
  have hK : keyD G R T = fun j => toldV ((([], g0, G) :: rowsB b R).getD j z0).2.2 T := by
    funext j; unfold keyD; rw [(rowX_at g0 b G R j).2]
  have hN : nameD G R = fun j => ((([], g0, G) :: rowsB b R).getD j z0).1 := by
    funext j; rw [(rowX_at g0 b G R j).1]
  unfold grpD
  generalize hKK : keyD G R T = K at *
  generalize hNN : nameD G R = N at *
  generalize (([], g0, G) :: rowsB b R) = X at *
  have hKX : ∀ j, toldV (X.getD j z0).2.2 T = K j := fun j => by rw [hK]
  have hNX : ∀ j, (X.getD j z0).1 = N j := fun j => by rw [hN]
  clear hK hN hKK hNN
  refine acall_sr c93 (by simp [a93]) ?_
  unfold a93 dictP litI at *
  refine SR.seq ?_
  simp -dsimp only [aqT, aqU, aqN, aqS, ↓seqK, ↓blkK, ↓loopK, step, stepBin, Nat.add_assoc nid, ↓reduceIte, Option.toList, ← Int.ofNat_tmod, ← Int.ofNat_tdiv, simprocAttr, BEq.rfl, LN_succ]
  refine SR.seq ?_
  simp -dsimp only [aqT, aqU, aqN, aqS, ↓seqK, ↓blkK, ↓loopK, step, stepBin, Nat.add_assoc nid, ↓reduceIte, Option.toList, ← Int.ofNat_tmod, ← Int.ofNat_tdiv, simprocAttr, BEq.rfl, LN_succ]
  refine SR.seq ?_
  simp -dsimp only [aqT, aqU, aqN, aqS, ↓seqK, ↓blkK, ↓loopK, step, stepBin, Nat.add_assoc nid, ↓reduceIte, Option.toList, ← Int.ofNat_tmod, ← Int.ofNat_tdiv, simprocAttr, BEq.rfl, LN_succ]
  refine SR.seqW (ι := Unit) (fun _ => ⟨[(6, .sl (nid + 16) 0 (fsts K (R.length + 1)).length)], [(nid + 8, mapK K (R.length + 1)), (nid + 16, outG nid (fsts K (R.length + 1)).length (fun j => (grps K N (R.length + 1)).getD j [])), (nid, boxP2 g0 r0 b G R)] ++ famN (nid + 100) (fun j => gB ((grps K N (R.length + 1)).getD j [])) (fsts K (R.length + 1)).length, nid + 5000, nid⟩) ?_ (fun _ => ?_)
  · refine SR.seqTo ⟨[(16, .int .i64 0), (15, .int .i64 ((R.length + 1 : Nat) : Int)), (14, .sl (nid + 20) 0 (R.length + 1)), (5, .mp (nid + 8)), (6, .lit true 0 []), (1, litI nl T), (2, .ptr nid 0)], [(nid + 20, arrRw X), (nid + 8, mapK K 0), (nid, boxP2 g0 r0 b G R)], nid + 200, nid⟩ ?_ ?_
    · simp -dsimp only [aqT, aqU, aqN, aqS, ↓seqK, ↓blkK, ↓loopK, step, stepBin, Nat.add_assoc nid, ↓reduceIte, Option.toList, ← Int.ofNat_tmod, ← Int.ofNat_tdiv, simprocAttr, BEq.rfl, LN_succ]
      refine CallO.pure (hall _) ?_
      unfold arrRw colsRw
      simp -dsimp only [aqT, aqU, aqN, aqS, ↓seqK, ↓blkK, ↓loopK, step, stepBin, Nat.add_assoc nid, ↓reduceIte, Option.toList, ← Int.ofNat_tmod, ← Int.ofNat_tdiv, simprocAttr, BEq.rfl, LN_succ]
      refine Cov.go [(nid + 20, nid + 24)] [] ?_
      simp [cvT, step, res, boxP2, litI, mapK, domK, arrRw, colsRw, ColsEq.refl, -List.getD_eq_getElem?_getD]
    unfold arrRw mapK boxP2 litI
    have hno : noOs (colsRw X) = true := rfl
    refine SR.freezeB [nid + 20] (fun n2 => ?_)
    simp only [frzS, frzH, frzBlk, lends, lend, kill, hno, noOs, aqT, aqU, aqN, aqS, ↓seqK, ↓blkK, ↓loopK, step, stepBin, Nat.add_assoc nid, ↓reduceIte, Option.toList, ← Int.ofNat_tmod, ← Int.ofNat_tdiv, simprocAttr, BEq.rfl, LN_succ]
    clear hno
    generalize n2 (nid + 20) = nx
    refine SR.block ?_
    refine SR.loopP (fun k : Nat => k ≤ R.length + 1) (fun k => ⟨[(16, .int .i64 k), (15, .int .i64 ((R.length + 1 : Nat) : Int)), (14, .lit nx (R.length + 1) (colsRw X)), (5, .mp (nid + 8)), (6, .sl (nid + 16) 0 (fsts K k).length), (1, litI nl T), (2, .ptr nid 0)], [(nid + 8, mapK K k), (nid + 16, outG nid (fsts K k).length (fun j => (grps K N k).getD j [])), (nid, boxP2 g0 r0 b G R)] ++ famN (nid + 100) (fun j => gB ((grps K N k).getD j [])) (fsts K k).length, nid + 300, nid⟩) (fun k => R.length + 2 - k) 0 (by omega) (Cov.go [] [(nid + 16, 1)] ?_) (fun k hk => ?_)
    · simp [cvT, step, res, boxP2, litI, mapK, outG, famN, fsts, colsRw, ColsEq.refl, -List.getD_eq_getElem?_getD]
    have hfl := fsts_len (K := K) k
    have hfl1 := fsts_len (K := K) (k + 1)
    refine SR.run (t := .mk) ?_
    unfold mapK outG boxP2 litI colsRw
    simp -dsimp only [aqT, aqU, aqN, aqS, ↓seqK, ↓blkK, ↓loopK, step, stepBin, Nat.add_assoc nid, ↓reduceIte, Option.toList, ← Int.ofNat_tmod, ← Int.ofNat_tdiv, simprocAttr, BEq.rfl, LN_succ]
    refine S2.dec (fun h3 => ?_) (fun h3 => ?_) <;> simp -dsimp only [aqT, aqU, aqN, aqS, ↓seqK, ↓blkK, ↓loopK, step, stepBin, Nat.add_assoc nid, ↓reduceIte, Option.toList, ← Int.ofNat_tmod, ← Int.ofNat_tdiv, simprocAttr, BEq.rfl, LN_succ]
    · have hkl : k < R.length + 1 := by omega
      obtain ⟨hx1, hx2⟩ := hXr k hkl
      have htd := fun m => told_c (X.getD k z0).1 (X.getD k z0).2.1 (X.getD k z0).2.2 nl T m hT (by rw [hx1]; exact hI) (by omega) hx2
      rw [hKX k] at htd
      unfold litS litI at htd
      refine ⟨by omega, CallO.pure (htd _) ?_⟩
      simp -dsimp only [aqT, aqU, aqN, aqS, ↓seqK, ↓blkK, ↓loopK, step, stepBin, Nat.add_assoc nid, ↓reduceIte, Option.toList, ← Int.ofNat_tmod, ← Int.ofNat_tdiv, simprocAttr, BEq.rfl, LN_succ]
      rw [domK_new, Bool.not_not]
      cases hnew : newK K k
      · obtain ⟨j, hj, e⟩ := new_iff.1 hnew
        have hp : posK K k (K k) < (fsts K k).length := by rw [← e]; exact posK_lt hj
        have hgo := fun q hq => grps_old (N := N) hnew (p := q) hq
        have hfo := fsts_old hnew
        simp -dsimp only [aqT, aqU, aqN, aqS, ↓seqK, ↓blkK, ↓loopK, step, stepBin, Nat.add_assoc nid, ↓reduceIte, Option.toList, ← Int.ofNat_tmod, ← Int.ofNat_tdiv, simprocAttr, BEq.rfl, LN_succ, Bool.not_true, Bool.not_false, cond_true, cond_false, valK_s]
        generalize posK K k (K k) = p at *
        have hfp : getH (famN (nid + 100) (fun j => gB ((grps K N k).getD j [])) (fsts K k).length) (nid + (100 + p)) = some (.arr 9 ((grps K N k).getD p []).length [.s fun i => ((grps K N k).getD p []).getD i []]) := by rw [← Nat.add_assoc]; exact famN_at _ hp
        have hq0 : ∀ c, (c < 100 ∨ 108 ≤ c) → (nid + c == nid + (100 + p)) = false := fun c hc => by simp; omega
        have hq1 : ∀ c, (c < 100 ∨ 108 ≤ c) → (nid + (100 + p) == nid + c) = false := fun c hc => by simp; omega
        have hq2 : (nid == nid + (100 + p)) = false := by simp
        have hq3 : (nid + (100 + p) == nid) = false := by simp
        have hgl2 := grps_short (K := K) (N := N) k p
        simp -dsimp only [aqT, aqU, aqN, aqS, ↓seqK, ↓blkK, ↓loopK, step, stepBin, Nat.add_assoc nid, ↓reduceIte, Option.toList, ← Int.ofNat_tmod, ← Int.ofNat_tdiv, simprocAttr, BEq.rfl, LN_succ, hfp, hq0, hq1, hq2, hq3, or_true, true_or]
        rw [getD_app1 ((grps K N k).getD p []) _ rfl, hNX]
        refine ⟨⟨by omega, by omega⟩, ⟨by omega, by omega⟩, ⟨by omega, by omega⟩, by unfold inI64; omega, k + 1, ⟨by omega, by omega⟩, ?_⟩
        rw [hfo]
        generalize hrn : ((nid + 100 + p, nid + 412) :: [] : List (Nat × Nat)) = rn
        have s0 : srcOf rn nid = nid := by rw [← hrn]; exact srcOf_off (by intro x hx; simp at hx; subst hx; simp only; omega)
        have s8 : srcOf rn (nid + 8) = nid + 8 := by rw [← hrn]; exact srcOf_off (by intro x hx; simp at hx; subst hx; simp only; omega)
        have s16 : srcOf rn (nid + 16) = nid + 16 := by rw [← hrn]; exact srcOf_off (by intro x hx; simp at hx; subst hx; simp only; omega)
        have sj : ∀ j, j < (fsts K k).length → srcOf rn (nid + (100 + j)) = if j = p then nid + 412 else nid + (100 + j) := fun j hj => by
          rw [← hrn]
          by_cases e : j = p
          · subst e; rw [if_pos rfl, ← Nat.add_assoc]; simp [srcOf]
          · rw [if_neg e]; exact srcOf_off (by intro x hx; simp at hx; subst hx; simp only; omega)
        refine Cov.famSet' [_, _, _, _, _, _, _, _, _] [_, _, _] (nid + 100) _ _ p (nid + 412) _ _ rn [] [] hrn.symm (.arr 9 (((grps K N k).getD p []).length + 1) [.s fun i => ((grps K N k).getD p [] ++ [N k]).getD i []]) (by omega) ?_ rfl ?_ ?_ (by omega) hp ?_ (by simp) (by simp) ?_ (by omega) ?_ (fun j hj hne => ⟨hj, ?_⟩) ?_ ?_ ?_
        · rw [← hrn]; simp [inRange]; omega
        · simp [apart, liveIds, nilSz, s0, s8, s16]
        · simp [liveIds]
        · intro id hid
          simp only [keys, List.map_cons, List.map_nil, List.mem_cons, List.not_mem_nil, or_false] at hid
          omega
        · rw [getH_ne (by omega), getH_ne (by omega)]
          simp only [getH_hit]
        · rw [hgo p hp, if_pos rfl]
          exact And.intro rfl (And.intro (by simp) (AColsEq.self _ rfl))
        · rw [hgo j hj, if_neg hne]
          exact gB_self _
        · refine ⟨?_, ?_, ?_, trivial⟩
          · show onBlk (getH _ (srcOf rn (nid + 8))) _
            rw [s8]
            simp only [List.cons_append, List.nil_append]
            repeat rw [getH_ne (by omega)]
            simp only [getH_hit]
            exact mapK_old (hi := nid + 300) (ren := rn) (nils := []) hnew
          · show onBlk (getH _ (srcOf rn (nid + 16))) _
            rw [s16]
            simp only [List.cons_append, List.nil_append, getH_hit]
            refine And.intro rfl (And.intro rfl ⟨fun j hj => ?_, trivial⟩)
            refine ⟨sj j hj, rfl, by show nid + (100 + j) < nid + 300; omega, ?_⟩
            show (if j = p then ((grps K N k).getD p []).length + 1 else ((grps K N k).getD j []).length) = ((grps K N (k + 1)).getD j []).length
            rw [hgo j hj]
            split
            · rename_i e2; subst e2; simp
            · rfl
          · show onBlk (getH _ (srcOf rn nid)) _
            rw [s0]
            simp only [List.cons_append, List.nil_append]
            repeat rw [getH_ne (by omega)]
            simp only [getH_hit]
            exact And.intro rfl (by simp [PVCovs, PVCov, ColsEq.refl])
        · intro id hid _
          simp only [liveIds, List.mem_cons, List.not_mem_nil, or_false] at hid
          rcases hid with rfl | rfl | rfl
          · rw [s8]; omega
          · rw [s16]; omega
          · rw [s0]; omega
        · simp [cvT, step, res, s0, s8, s16, ColsEq.refl, -List.getD_eq_getElem?_getD]
      · have hirr : ((fsts K k).length < (fsts K k).length) = False := by simp
        have hfn := fsts_new hnew
        have hgn := grps_new (N := N) hnew
        have hgll := grps_len (K := K) (N := N) k
        simp -dsimp only [aqT, aqU, aqN, aqS, ↓seqK, ↓blkK, ↓loopK, step, stepBin, Nat.add_assoc nid, ↓reduceIte, Option.toList, ← Int.ofNat_tmod, ← Int.ofNat_tdiv, simprocAttr, BEq.rfl, LN_succ, Bool.not_true, Bool.not_false, cond_true, cond_false, hirr]
        have hfl2 : (fsts K (k + 1)).length = (fsts K k).length + 1 := by rw [hfn]; simp
        have hgo : ∀ j, j < (fsts K k).length + 1 → (grps K N (k + 1)).getD j [] = if j = (fsts K k).length then [N k] else (grps K N k).getD j [] := fun j hj => by
          rw [hgn]
          by_cases e : j = (fsts K k).length
          · rw [if_pos e, e, ← hgll]; simp
          · rw [if_neg e, List.getD_eq_getElem?_getD, List.getElem?_append_left (by omega), ← List.getD_eq_getElem?_getD]
        refine ⟨⟨by omega, by omega⟩, ⟨by omega, by omega⟩, ⟨by omega, by omega⟩, by unfold inI64; omega, k + 1, ⟨by omega, by omega⟩, ?_⟩
        rw [hfl2]
        generalize hm0 : (fsts K k).length = m at *
        rw [hNX]
        generalize hrn : ((nid + 100 + m, nid + 456) :: [(nid + 16, nid + 412)] : List (Nat × Nat)) = rn
        have s0 : srcOf rn nid = nid := by rw [← hrn]; exact srcOf_off (by intro x hx; simp at hx; rcases hx with rfl | rfl <;> simp only <;> omega)
        have s8 : srcOf rn (nid + 8) = nid + 8 := by rw [← hrn]; exact srcOf_off (by intro x hx; simp at hx; rcases hx with rfl | rfl <;> simp only <;> omega)
        have s16 : srcOf rn (nid + 16) = nid + 412 := by
          rw [← hrn]
          have e1 : (nid + 100 + m == nid + 16) = false := by simp; omega
          simp only [srcOf, e1, cond_false, beq_self_eq_true, cond_true]
        have sj : ∀ j, j < m + 1 → srcOf rn (nid + (100 + j)) = if j = m then nid + 456 else nid + (100 + j) := fun j hj => by
          rw [← hrn]
          by_cases e : j = m
          · subst e; rw [if_pos rfl, ← Nat.add_assoc]; simp [srcOf]
          · rw [if_neg e]; exact srcOf_off (by intro x hx; simp at hx; rcases hx with rfl | rfl <;> simp only <;> omega)
        refine Cov.famSet' [_, _, _, _, _, _, _, _, _, _, _, _, _, _] [_, _, _] (nid + 100) _ _ m (nid + 456) _ _ rn [(nid + 16, nid + 412)] [] hrn.symm (.arr 9 1 [.s fun i => if i < 0 then ([[]] : List (List UInt8)).getD i [] else [N k].getD (i - 0) []]) (by omega) ?_ rfl ?_ ?_ (by omega) (by omega) ?_ (by intro x hx; simp at hx; subst hx; simp only; omega) (by simp) ?_ (by omega) ?_ (fun j hj hne => ⟨by omega, ?_⟩) ?_ ?_ ?_
        · rw [← hrn]; simp [inRange]; omega
        · simp [apart, liveIds, nilSz, s0, s8, s16]
        · simp [liveIds]
        · intro id hid
          simp only [keys, List.map_cons, List.map_nil, List.mem_cons, List.not_mem_nil, or_false] at hid
          omega
        · rw [getH_ne (by omega), getH_ne (by omega)]
          simp only [getH_hit]
        · rw [hgo m (by omega), if_pos rfl]
          exact And.intro rfl (And.intro rfl ⟨ColEq.s fun j hj => by simp, trivial⟩)
        · rw [hgo j hj, if_neg hne]
          exact gB_self _
        · refine ⟨?_, ?_, ?_, trivial⟩
          · show onBlk (getH _ (srcOf rn (nid + 8))) _
            rw [s8]
            simp only [List.cons_append, List.nil_append]
            repeat rw [getH_ne (by omega)]
            simp only [getH_hit]
            have hmn := mapK_new (hi := nid + 300) (ren := rn) (nils := []) hnew
            rw [hm0] at hmn
            exact hmn
          · show onBlk (getH _ (srcOf rn (nid + 16))) _
            rw [s16]
            simp only [List.cons_append, List.nil_append, getH_hit]
            refine And.intro rfl (And.intro rfl ⟨fun j hj => ?_, trivial⟩)
            refine ⟨?_, rfl, by show nid + (100 + j) < nid + 300; omega, ?_⟩
            · show srcOf rn (nid + (100 + j)) = if j = m then nid + 456 else if j < m then nid + (100 + j) else nid + 409
              rw [sj j hj]
              by_cases e : j = m
              · rw [if_pos e, if_pos e]
              · rw [if_neg e, if_neg e, if_pos (by omega)]
            · show (if j = m then 1 else if j < m then ((grps K N k).getD j []).length else 0) = ((grps K N (k + 1)).getD j []).length
              rw [hgo j hj]
              by_cases e : j = m
              · rw [if_pos e, if_pos e]; rfl
              · rw [if_neg e, if_neg e, if_pos (by omega)]
          · show onBlk (getH _ (srcOf rn nid)) _
            rw [s0]
            simp only [List.cons_append, List.nil_append]
            repeat rw [getH_ne (by omega)]
            simp only [getH_hit]
            exact And.intro rfl (by simp [PVCovs, PVCov, ColsEq.refl])
        · intro id hid _
          simp only [liveIds, List.mem_cons, List.not_mem_nil, or_false] at hid
          rcases hid with rfl | rfl | rfl
          · rw [s8]; omega
          · rw [s16]; omega
          · rw [s0]; omega
        · simp [cvT, step, res, s0, s8, s16, ColsEq.refl, -List.getD_eq_getElem?_getD]
    · obtain rfl : k = R.length + 1 := by omega
      refine ⟨(), Cov.drop (by omega) ?_⟩
      simp only [SlotsIn, aqT, aqU, aqN, ↓seqK, ↓blkK, ↓loopK, step, stepBin, Nat.reduceBEq, Nat.reduceBeqDiff, Nat.add_assoc nid, Nat.reduceAdd, reduceCtorEq, ↓reduceIte, Nat.reduceLeDiff, Nat.reduceBneDiff, Option.toList, ← Int.ofNat_tmod, ← Int.ofNat_tdiv, Nat.reduceLT]
      try simp
  have hM := fsts_len (K := K) (R.length + 1)
  have hpos : ∀ j, j < (fsts K (R.length + 1)).length → 0 < ((grps K N (R.length + 1)).getD j []).length := fun j hj => by
    have hj2 : j < (grps K N (R.length + 1)).length := by rw [grps_len]; exact hj
    rw [List.getD_eq_getElem?_getD, List.getElem?_eq_getElem hj2]
    exact List.length_pos_iff.2 (grps_full (K := K) (N := N) (R.length + 1) _ (List.getElem_mem hj2))
  have hgl3 := grps_len (K := K) (N := N) (R.length + 1)
  clear hall hXr hKX hNX
  generalize (fsts K (R.length + 1)).length = M at *
  generalize grps K N (R.length + 1) = gs at *
  have hgat : ∀ j, j < M → getH ([(nid + 8, mapK K (R.length + 1)), (nid + 16, outG nid M (fun j => gs.getD j [])), (nid, boxP2 g0 r0 b G R)] ++ famN (nid + 100) (fun j => gB (gs.getD j [])) M) (nid + (100 + j)) = some (gB (gs.getD j [])) := fun j hj => by
    rw [getH_skip (by intro k hk; simp only [keys, List.map_cons, List.map_nil, List.mem_cons, List.not_mem_nil, or_false] at hk; omega), ← Nat.add_assoc]
    exact famN_at _ hj
  have hid0 : ((List.range M).map fun j => nid + (100 + j)).contains (nid + 16) = false := by
    rw [Bool.eq_false_iff]
    intro h
    have h : (nid + 16) ∈ (List.range M).map fun j => nid + (100 + j) := by simpa using h
    obtain ⟨j, _, e⟩ := List.mem_map.1 h
    omega
  have hb0 : getH ([(nid + 8, mapK K (R.length + 1)), (nid + 16, outG nid M (fun j => gs.getD j [])), (nid, boxP2 g0 r0 b G R)] ++ famN (nid + 100) (fun j => gB (gs.getD j [])) M) (nid + 16) = some (.arr 26 M [.o (fun j => nid + (100 + j)) (fun j => (gs.getD j []).length)]) := by
    simp only [List.cons_append, List.nil_append]
    rw [getH_ne (by omega)]
    simp only [getH_hit]
    rfl
  generalize [(nid + 8, mapK K (R.length + 1)), (nid + 16, outG nid M (fun j => gs.getD j [])), (nid, boxP2 g0 r0 b G R)] ++ famN (nid + 100) (fun j => gB (gs.getD j [])) M = H at *
  refine SR.freezeO ((List.range M).map fun j => nid + (100 + j)) (nid + 16) 26 M [.o (fun j => nid + (100 + j)) (fun j => (gs.getD j []).length)] hb0 hid0 (fun c hc => ?_) (fun n2 hnn => ?_)
  · simp only [List.mem_singleton] at hc
    subst hc
    intro j hj
    refine ⟨?_, _, _, _, hgat j hj, rfl⟩
    simp only [List.contains_iff_mem, List.mem_map, List.mem_range]
    exact ⟨j, hj, rfl⟩
  have hfs : frzS H ((List.range M).map fun j => nid + (100 + j)) n2 [(6, .sl (nid + 16) 0 M)] = [(6, .sl (nid + 16) 0 M)] := by
    simp only [frzS, List.map_cons, List.map_nil, lend, hid0, Bool.false_and, cond_false]
  rw [hfs]
  refine SR.cov (t' := .mk) (st' := ⟨[(6, .sl (nid + 16) 0 gs.length)], [(nid + 16, arrG gs)], nid + 6000, nid⟩) (Cov.go [] [] ⟨by omega, rfl, rfl, by simp [apart, liveIds, arrG], by simp [liveIds, arrG], ⟨?_, trivial⟩, ?_⟩) ?_
  · show onBlk (getH (_ :: _) (nid + 16)) _
    rw [getH_hit]
    refine And.intro rfl (And.intro hgl3.symm ⟨ColEq.l fun j hj => ⟨hnn _ _ _ _ (hgat j hj) (hpos j hj), rfl, ?_⟩, trivial⟩)
    have e : colsAt H (nid + (100 + j)) = [.s fun i => (gs.getD j []).getD i []] := by
      unfold colsAt
      rw [hgat j hj]
      rfl
    show ColsEq _ (colsAt H (nid + (100 + j))) _
    rw [e]
    exact ColsEq.refl _ _
  · simp [cvT, step, res, hgl3]
  refine SR.run (t := .mk) ?_
  unfold arrG
  simp -dsimp only [aqT, aqU, aqN, aqS, ↓seqK, ↓blkK, ↓loopK, step, stepBin, Nat.add_assoc nid, ↓reduceIte, Option.toList, ← Int.ofNat_tmod, ← Int.ofNat_tdiv, simprocAttr, BEq.rfl, LN_succ]
  refine RetOK.go [(nid, nid + 16)] [] (.inl rfl) ?_
  simp [a93, cvT, step, res, ColsEq.refl, -List.getD_eq_getElem?_getD]
end Go.Proofs.YtpifoghhaohhaaaGreatDoor
namespace Go.Proofs.YtpifoghhaohhaaaGreatDoor
open Go.RowKit Go.Shelf Go.Lib
theorem scoped2 {b i j : Nat} {x y : ABlk} (hi : i < b) (hj : j < b) (hx : lowBlk b (some x) = true) (hy : lowBlk b (some y) = true) : Scoped b [(i, some x), (j, some y)] := by
  refine ⟨fun k hk => ?_, fun k z hz => ?_⟩
  · simp [keys] at hk; omega
  · simp only [getH] at hz
    by_cases e : (i == k) = true
    · simp only [e, cond_true, Option.some.injEq] at hz; subst hz; exact hx
    · simp only [Bool.not_eq_true] at e
      by_cases e2 : (j == k) = true
      · simp only [e, e2, cond_true, cond_false, Option.some.injEq] at hz; subst hz; exact hy
      · simp only [Bool.not_eq_true] at e2; simp [e, e2] at hz
end Go.Proofs.YtpifoghhaohhaaaGreatDoor
namespace Go.Proofs.YtpifoghhaohhaaaGreatDoor
theorem resp_no {s : List UInt8} (h : respB s = true) : s ≠ [] ∧ (10 : UInt8) ∉ s ∧ (32 : UInt8) ∉ s ∧ s.length ≤ 100 := by
  unfold respB at h
  simp only [Bool.and_eq_true, Bool.not_eq_true'] at h
  obtain ⟨h1, h2⟩ := h
  unfold outB at h1
  have h1 := of_decide_eq_false h1
  have hno : ∀ c : UInt8, oddC c = true → c ∉ s := fun c hc hm => by
    have := List.any_eq_false.1 h2 c hm
    rw [hc] at this
    exact absurd rfl this
  refine ⟨fun e => ?_, hno 10 (by decide), hno 32 (by decide), by omega⟩
  subst e
  simp at h1
theorem key_no {s : List UInt8} (h : keyB s = true) : s ≠ [] ∧ (10 : UInt8) ∉ s ∧ (32 : UInt8) ∉ s ∧ s.length ≤ 40 := by
  unfold keyB at h
  simp only [Bool.and_eq_true, Bool.not_eq_true'] at h
  obtain ⟨⟨h1, h2⟩, _⟩ := h
  unfold outB at h1
  have h1 := of_decide_eq_false h1
  have hno : ∀ c : UInt8, keyC c = false → c ∉ s := fun c hc hm => by
    have := List.all_eq_true.1 h2 c hm
    rw [hc] at this
    cases this
  refine ⟨fun e => ?_, hno 10 (by decide), hno 32 (by decide), by omega⟩
  subst e
  simp at h1
theorem rowBad_at {G : List (List UInt8)} {R : RowL} (h : dictV G R = 0) {k : Nat} (hk : k < R.length) : rowBad G.length R k = 0 := by
  unfold dictV at h
  split at h
  · omega
  split at h
  · omega
  split at h
  · omega
  exact firstBad_all h k (List.mem_range.2 hk)
structure DictOk (G : List (List UInt8)) (R : RowL) : Prop where
  lo : 0 < G.length
  hi : G.length ≤ 100
  rl : R.length ≤ 300
  g : ∀ x ∈ G, respB x = true
  r : ∀ x ∈ R, keyB x.1 = true ∧ x.2.length = G.length ∧ ∀ y ∈ x.2, respB y = true
theorem oddS_no {l : List (List UInt8)} (h : l.any oddS = false) : ∀ x ∈ l, respB x = true := fun x hx => by
  have := List.any_eq_false.1 h x hx
  unfold oddS at this
  simpa using this
theorem row_at {R : RowL} {k : Nat} (hk : k < R.length) : rowF R k = R[k].1 ∧ rowR R k = R[k].2 := by
  constructor
  · unfold rowF; rw [List.getD_eq_getElem?_getD, List.getElem?_eq_getElem hk]; rfl
  · unfold rowR; rw [List.getD_eq_getElem?_getD, List.getElem?_eq_getElem hk]; rfl
theorem dict_ok {G : List (List UInt8)} {R : RowL} (h : dictV G R = 0) : DictOk G R := by
  have hb := fun k (hk : k < R.length) => rowBad_at h hk
  unfold dictV at h
  split at h
  · omega
  rename_i h1
  split at h
  · omega
  rename_i h2
  split at h
  · omega
  rename_i h3
  refine ⟨by omega, by omega, by omega, oddS_no (by simpa using h3), fun x hx => ?_⟩
  obtain ⟨k, hk, rfl⟩ := List.getElem_of_mem hx
  obtain ⟨e1, e2⟩ := row_at hk
  have := hb k hk
  unfold rowBad at this
  rw [e1, e2] at this
  split at this
  · omega
  rename_i g1
  split at this
  · omega
  rename_i g2
  split at this
  · omega
  rename_i g3
  exact ⟨by simpa using g1, by simpa using g2, oddS_no (by simpa using g3)⟩
end Go.Proofs.YtpifoghhaohhaaaGreatDoor
namespace Go.Proofs.YtpifoghhaohhaaaGreatDoor
open Go.RowKit Go.Shelf Go.Lib
end Go.Proofs.YtpifoghhaohhaaaGreatDoor
namespace Go.Proofs.YtpifoghhaohhaaaGreatDoor
open Go.RowKit Go.Shelf Go.Lib
end Go.Proofs.YtpifoghhaohhaaaGreatDoor
namespace Go.Proofs.YtpifoghhaohhaaaGreatDoor
open Go.RowKit
end Go.Proofs.YtpifoghhaohhaaaGreatDoor
namespace Go.Proofs.YtpifoghhaohhaaaGreatDoor
open Go.RowKit
end Go.Proofs.YtpifoghhaohhaaaGreatDoor
namespace Go.Proofs.YtpifoghhaohhaaaGreatDoor
open Go.RowKit Go.Shelf Go.Lib
def tstBad (n : Nat) (T : List Int) (k : Nat) : Int := if outB (T.getD k 0) 0 ((n : Int) - 1) = true then 1 else if (T.take k).contains (T.getD k 0) = true then 6 else 0
def tstV (n : Nat) (T : List Int) : Int := if 100 < T.length then 2 else firstBad (tstBad n T) (List.range T.length)
theorem tstV_row {n : Nat} {T : List Int} {k : Nat} {e : Int} (h2 : ¬ 100 < T.length) (hk : k < T.length) (h0 : ∀ j, j < k → tstBad n T j = 0) (h : tstBad n T k = e) (he : e ≠ 0) : tstV n T = e := by
  unfold tstV
  rw [if_neg h2, firstR_hit hk h0 (by rw [h]; exact he), h]
theorem tstV_good {n : Nat} {T : List Int} (h2 : ¬ 100 < T.length) (h0 : ∀ j, j < T.length → tstBad n T j = 0) : tstV n T = 0 := by
  unfold tstV
  rw [if_neg h2, firstR_none h0]
theorem tstV_in {n : Nat} {T : List Int} (h : tstV n T = 0) : T.length ≤ 100 ∧ ∀ t ∈ T, 0 ≤ t ∧ t < n := by
  unfold tstV at h
  by_cases h2 : 100 < T.length
  · rw [if_pos h2] at h; omega
  · rw [if_neg h2] at h
    refine ⟨by omega, fun t ht => ?_⟩
    obtain ⟨k, hk, rfl⟩ := List.getElem_of_mem ht
    have := firstBad_all0 h k hk
    unfold tstBad at this
    split at this
    · omega
    · rename_i h1
      rw [List.getD_eq_getElem?_getD, List.getElem?_eq_getElem hk] at h1
      unfold outB at h1
      simp only [Option.getD_some, decide_eq_true_eq] at h1
      omega
def bothTV (G : List (List UInt8)) (R : RowL) (T : List Int) : Int := if dictV G R ≠ 0 then dictV G R else tstV G.length T
theorem takeC (T : List Int) {k : Nat} (hk : k ≤ T.length) : ColsEq k [.i .i64 fun i => T.getD i 0] [.i .i64 fun i => (T.take k).getD i 0] := by
  refine ⟨ColEq.i fun j hj => ?_, trivial⟩
  rw [List.getD_eq_getElem?_getD, List.getD_eq_getElem?_getD, List.getElem?_take, if_pos hj]
theorem contTake_c (nl : Bool) (T : List Int) (k : Nat) (x : Int) (nid : Nat) (hk : k ≤ T.length) (hT : T.length ≤ 1000000) : ACall Tryz.prog 99 [.lit nl k [.i .i64 fun i => T.getD i 0], .int .i64 x] [] nid (.bool ((T.take k).contains x)) [] := by
  have h := contains_c nl (T.take k) x nid (by rw [List.length_take]; omega)
  unfold litI at h
  rw [show (T.take k).length = k by rw [List.length_take]; omega] at h
  refine ACall.args h ?_
  simp only [ArgEqs, ArgEq, and_true, true_and]
  exact takeC T hk
set_option maxHeartbeats 1000000 in
theorem tstD_c (g0 r0 : Bool) (b : Nat → Bool) (G : List (List UInt8)) (R : RowL) (nl : Bool) (T : List Int) (nid : Nat) (hB : DictW G R) (hT : T.length ≤ 1000000) : ACall Tryz.prog 89 [dictP g0 r0 b G R, litI nl T] [] nid (.int .i64 (bothTV G R T)) [] := by
  have hgl := hB.gl
  have hd := fun m => dictD_c g0 r0 b G R m hB
  refine acall_sr c89 (by simp [a89]) ?_
  unfold a89
  refine SR.seq ?_
  unfold dictP litI at *
  simp -dsimp only [aqT, aqU, aqN, aqS, ↓seqK, ↓blkK, ↓loopK, step, stepBin, Nat.add_assoc nid, ↓reduceIte, Option.toList, ← Int.ofNat_tmod, ← Int.ofNat_tdiv, simprocAttr, BEq.rfl, LN_succ]
  refine SR.seqW (ι := {_u : Unit // dictV G R = 0}) (fun _ => ⟨[(2, .ptr nid 0), (1, litI nl T)], [(nid, boxP2 g0 r0 b G R)], nid + 100, nid⟩) ?_ (fun ⟨_, h1⟩ => ?_)
  · refine SR.run (t := .mk) ?_
    simp -dsimp only [aqT, aqU, aqN, aqS, ↓seqK, ↓blkK, ↓loopK, step, stepBin, Nat.add_assoc nid, ↓reduceIte, Option.toList, ← Int.ofNat_tmod, ← Int.ofNat_tdiv, simprocAttr, BEq.rfl, LN_succ]
    refine CallO.pure (hd _) ?_
    simp -dsimp only [aqT, aqU, aqN, aqS, ↓seqK, ↓blkK, ↓loopK, step, stepBin, Nat.add_assoc nid, ↓reduceIte, Option.toList, ← Int.ofNat_tmod, ← Int.ofNat_tdiv, simprocAttr, BEq.rfl, LN_succ]
    refine S2.intro (fun h1 => ?_) (fun h1 => ?_) <;> simp -dsimp only [aqT, aqU, aqN, aqS, ↓seqK, ↓blkK, ↓loopK, step, stepBin, Nat.add_assoc nid, ↓reduceIte, Option.toList, ← Int.ofNat_tmod, ← Int.ofNat_tdiv, simprocAttr, BEq.rfl, LN_succ]
    · have e : bothTV G R T = dictV G R := by unfold bothTV; rw [if_pos (by simpa using h1)]
      rw [e]
      refine RetOK.pure (.inl rfl) rfl ?_
      simp [cvT, step, res]
    · refine ⟨⟨(), by simpa using h1⟩, Cov.go [] [] ?_⟩
      simp [cvT, step, res, boxP2, litI, ColsEq.refl, -List.getD_eq_getElem?_getD]
  have e0 : bothTV G R T = tstV G.length T := by unfold bothTV; rw [if_neg (by simp [h1])]
  rw [e0]
  refine SR.seqW (ι := {_u : Unit // ¬ 100 < T.length}) (fun _ => ⟨[(2, .ptr nid 0), (1, litI nl T)], [(nid, boxP2 g0 r0 b G R)], nid + 150, nid⟩) ?_ (fun ⟨_, h2⟩ => ?_)
  · unfold litI
    refine SR.run (t := .mk) ?_
    simp -dsimp only [aqT, aqU, aqN, aqS, ↓seqK, ↓blkK, ↓loopK, step, stepBin, Nat.add_assoc nid, ↓reduceIte, Option.toList, ← Int.ofNat_tmod, ← Int.ofNat_tdiv, simprocAttr, BEq.rfl, LN_succ]
    refine S2.dec (fun h2 => ?_) (fun h2 => ?_) <;> simp -dsimp only [aqT, aqU, aqN, aqS, ↓seqK, ↓blkK, ↓loopK, step, stepBin, Nat.add_assoc nid, ↓reduceIte, Option.toList, ← Int.ofNat_tmod, ← Int.ofNat_tdiv, simprocAttr, BEq.rfl, LN_succ]
    · have e : tstV G.length T = 2 := by unfold tstV; rw [if_pos (by omega)]
      rw [e]
      refine RetOK.pure (.inl rfl) rfl ?_
      simp [cvT, step, res]
    · refine ⟨⟨(), by omega⟩, Cov.go [] [] ?_⟩
      simp [cvT, step, res, boxP2, litI, ColsEq.refl, -List.getD_eq_getElem?_getD]
  refine SR.seqW (ι := {_u : Unit // ∀ j, j < T.length → tstBad G.length T j = 0}) (fun _ => ⟨[], [], nid + 2000, nid⟩) ?_ (fun ⟨_, h5⟩ => ?_)
  · unfold boxP2 litI
    refine SR.seqTo ⟨[(18, .int .i64 0), (17, .int .i64 T.length), (16, litI nl T), (2, .ptr nid 0), (1, litI nl T)], [(nid, boxP2 g0 r0 b G R)], nid + 200, nid⟩ ?_ ?_
    · simp -dsimp only [aqT, aqU, aqN, aqS, ↓seqK, ↓blkK, ↓loopK, step, stepBin, Nat.add_assoc nid, ↓reduceIte, Option.toList, ← Int.ofNat_tmod, ← Int.ofNat_tdiv, simprocAttr, BEq.rfl, LN_succ]
      refine Cov.go [] [] ?_
      simp [cvT, step, res, boxP2, litI, ColsEq.refl, -List.getD_eq_getElem?_getD]
    refine SR.block ?_
    refine SR.loopP (fun k : Nat => k ≤ T.length ∧ ∀ j, j < k → tstBad G.length T j = 0) (fun k : Nat => ⟨[(18, .int .i64 k), (17, .int .i64 T.length), (16, litI nl T), (2, .ptr nid 0), (1, litI nl T)], [(nid, boxP2 g0 r0 b G R)], nid + 200, nid⟩) (fun k => T.length + 1 - k) 0 ⟨by omega, fun j hj => by omega⟩ (Cov.go [] [] ?_) (fun k hk => ?_)
    · simp [cvT, step, res, boxP2, litI, ColsEq.refl, -List.getD_eq_getElem?_getD]
    obtain ⟨hk, hall⟩ := hk
    refine SR.run (t := .mk) ?_
    have hct := fun m => contTake_c nl T k (T.getD k 0) m hk hT
    have hbad := fun e (hkl : k < T.length) => tstV_row (n := G.length) (e := e) h2 hkl hall
    have hdef : tstBad G.length T k = if outB (T.getD k 0) 0 ((G.length : Int) - 1) = true then 1 else if (T.take k).contains (T.getD k 0) = true then 6 else 0 := rfl
    unfold litI boxP2
    simp -dsimp only [aqT, aqU, aqN, aqS, ↓seqK, ↓blkK, ↓loopK, step, stepBin, Nat.add_assoc nid, ↓reduceIte, Option.toList, ← Int.ofNat_tmod, ← Int.ofNat_tdiv, simprocAttr, BEq.rfl, LN_succ]
    refine S2.dec (fun h4 => ?_) (fun h4 => ?_) <;> simp -dsimp only [aqT, aqU, aqN, aqS, ↓seqK, ↓blkK, ↓loopK, step, stepBin, Nat.add_assoc nid, ↓reduceIte, Option.toList, ← Int.ofNat_tmod, ← Int.ofNat_tdiv, simprocAttr, BEq.rfl, LN_succ]
    · have hkl : k < T.length := by omega
      refine ⟨by omega, by unfold inI64; omega, CallO.pure (out_c _ _ _ _) ?_⟩
      simp -dsimp only [aqT, aqU, aqN, aqS, ↓seqK, ↓blkK, ↓loopK, step, stepBin, Nat.add_assoc nid, ↓reduceIte, Option.toList, ← Int.ofNat_tmod, ← Int.ofNat_tdiv, simprocAttr, BEq.rfl, LN_succ]
      cases h6 : outB (T.getD k 0) 0 ((G.length : Int) - 1) <;> rw [h6] at hdef <;> simp -dsimp only [aqT, aqU, aqN, aqS, ↓seqK, ↓blkK, ↓loopK, step, stepBin, Nat.add_assoc nid, ↓reduceIte, Option.toList, ← Int.ofNat_tmod, ← Int.ofNat_tdiv, simprocAttr, BEq.rfl, LN_succ]
      · rw [if_neg (by simp)] at hdef
        refine ⟨by omega, ?_⟩
        refine CallO.pure (hct _) ?_
        simp -dsimp only [aqT, aqU, aqN, aqS, ↓seqK, ↓blkK, ↓loopK, step, stepBin, Nat.add_assoc nid, ↓reduceIte, Option.toList, ← Int.ofNat_tmod, ← Int.ofNat_tdiv, simprocAttr, BEq.rfl, LN_succ]
        cases h7 : (T.take k).contains (T.getD k 0) <;> rw [h7] at hdef <;> simp -dsimp only [aqT, aqU, aqN, aqS, ↓seqK, ↓blkK, ↓loopK, step, stepBin, Nat.add_assoc nid, ↓reduceIte, Option.toList, ← Int.ofNat_tmod, ← Int.ofNat_tdiv, simprocAttr, BEq.rfl, LN_succ]
        · rw [if_neg (by simp)] at hdef
          refine ⟨by unfold inI64; omega, k + 1, ⟨⟨by omega, fun j hj => ?_⟩, by omega⟩, Cov.go [] [] ?_⟩
          · rcases (by omega : j < k ∨ j = k) with hj | hj
            · exact hall j hj
            · rw [hj]; exact hdef
          simp [cvT, step, res, boxP2, litI, ColsEq.refl, -List.getD_eq_getElem?_getD]
        · rw [if_pos rfl] at hdef
          rw [hbad 6 hkl hdef (by decide)]
          refine RetOK.pure (.inl rfl) rfl ?_
          simp [cvT, step, res]
      · rw [if_pos rfl] at hdef
        rw [hbad 1 hkl hdef (by decide)]
        refine RetOK.pure (.inl rfl) rfl ?_
        simp [cvT, step, res]
    · refine ⟨⟨(), fun j hj => hall j (by omega)⟩, Cov.go [] [] ?_⟩
      simp [cvT, step, res, boxP2, -List.getD_eq_getElem?_getD]
  · rw [tstV_good h2 h5]
    refine SR.run (t := .mk) ?_
    simp -dsimp only [aqT, aqU, aqN, aqS, ↓seqK, ↓blkK, ↓loopK, step, stepBin, Nat.add_assoc nid, ↓reduceIte, Option.toList, ← Int.ofNat_tmod, ← Int.ofNat_tdiv, simprocAttr, BEq.rfl, LN_succ]
    refine RetOK.pure (.inl rfl) rfl ?_
    simp [cvT, step, res]
end Go.Proofs.YtpifoghhaohhaaaGreatDoor
namespace Go.Proofs.YtpifoghhaohhaaaGreatDoor
open Go.RowKit Go.Shelf Go.Lib
end Go.Proofs.YtpifoghhaohhaaaGreatDoor
namespace Go.Proofs.YtpifoghhaohhaaaGreatDoor
open Go.RowKit Go.Shelf Go.Lib
theorem grpD_len {G : List (List UInt8)} {R : RowL} {T : List Int} : 1 ≤ (grpD G R T).length ∧ (grpD G R T).length ≤ R.length + 1 := by
  unfold grpD
  rw [grps_len]
  refine ⟨?_, fsts_len _⟩
  obtain ⟨f, hf, _⟩ := fsts_has (K := keyD G R T) (R.length + 1) 0 (by omega)
  exact List.length_pos_of_mem hf
theorem bothT_zero {G : List (List UInt8)} {R : RowL} {T : List Int} (hD : dictV G R = 0) (hT : tstV G.length T = 0) : bothTV G R T = 0 := by
  unfold bothTV; rw [if_neg (by simp [hD]), hT]
theorem groupsOk_c (g0 r0 : Bool) (b : Nat → Bool) (G : List (List UInt8)) (R : RowL) (nl : Bool) (T : List Int) (nid : Nat) (hB : DictW G R) (hr : R.length ≤ 7) (hD : dictV G R = 0) (hT : tstV G.length T = 0) :
    ACall Tryz.prog 19 [dictP g0 r0 b G R, litI nl T] [] nid (.tup [.sl nid 0 (grpD G R T).length, .int .i64 0]) [(nid, arrG (grpD G R T))] := by
  obtain ⟨hTl, hTi⟩ := tstV_in hT
  have hd := fun m => tstD_c g0 r0 b G R nl T m hB (by omega)
  rw [bothT_zero hD hT] at hd
  have hg := fun m => groups_c g0 r0 b G R nl T m hB hD hr (by omega) hTi
  generalize grpD G R T = gs at *
  refine acall_sr c19 (by simp [a19]) ?_
  unfold a19 dictP litI at *
  unfold arrG at *
  refine SR.run (t := .mk) ?_
  simp -dsimp only [aqT, aqU, aqN, aqS, ↓seqK, ↓blkK, ↓loopK, step, stepBin, Nat.add_assoc nid, ↓reduceIte, Option.toList, ← Int.ofNat_tmod, ← Int.ofNat_tdiv, simprocAttr, BEq.rfl, LN_succ]
  refine CallO.pure (hd _) ?_
  simp -dsimp only [aqT, aqU, aqN, aqS, ↓seqK, ↓blkK, ↓loopK, step, stepBin, Nat.add_assoc nid, ↓reduceIte, Option.toList, ← Int.ofNat_tmod, ← Int.ofNat_tdiv, simprocAttr, BEq.rfl, LN_succ]
  refine CallO.pure (hg _) ?_
  simp -dsimp only [aqT, aqU, aqN, aqS, ↓seqK, ↓blkK, ↓loopK, step, stepBin, Nat.add_assoc nid, ↓reduceIte, Option.toList, ← Int.ofNat_tmod, ← Int.ofNat_tdiv, simprocAttr, BEq.rfl, LN_succ]
  refine RetOK.go [(nid, nid + 44)] [] (.inl rfl) ?_
  simp [a19, cvT, step, res, ColsEq.refl, -List.getD_eq_getElem?_getD]
end Go.Proofs.YtpifoghhaohhaaaGreatDoor
namespace Go.Proofs.YtpifoghhaohhaaaGreatDoor
open Go.RowKit Go.Shelf Go.Lib
def detL (G L : List (List UInt8)) (n : Nat) : List Int := ((List.range n).filter fun t => detB G L (t : Nat)).map fun t => ((t : Nat) : Int)
theorem detL_succ (G L : List (List UInt8)) (n : Nat) : detL G L (n + 1) = if detB G L (n : Nat) = true then detL G L n ++ [((n : Nat) : Int)] else detL G L n := by
  unfold detL
  rw [List.range_succ, List.filter_append, List.map_append]
  cases h : detB G L (n : Nat) <;> simp [h]
theorem detL_len (G L : List (List UInt8)) (n : Nat) : (detL G L n).length ≤ n := by
  unfold detL
  rw [List.length_map]
  have := List.length_filter_le (fun t => detB G L (t : Nat)) (List.range n)
  rwa [List.length_range] at this
end Go.Proofs.YtpifoghhaohhaaaGreatDoor
namespace Go.Proofs.YtpifoghhaohhaaaGreatDoor
open Go.RowKit Go.Shelf Go.Lib
end Go.Proofs.YtpifoghhaohhaaaGreatDoor
namespace Go.Proofs.YtpifoghhaohhaaaGreatDoor
open Go.RowKit Go.Shelf Go.Lib
theorem dictNN {f : Nat} {az : List PV} {Hs : Heap} {nid : Nat} {r : PV} {u : Heap} (i : Nat) {g0 r0 : Bool} {b : Nat → Bool} {G : List (List UInt8)} {R : RowL} (hi : az[i]? = some (dictP g0 r0 b G R))
    (h : (∀ k, k < R.length → 0 < (rowR R k).length → b k = false) → ACall Tryz.prog f az Hs nid r u) : ACall Tryz.prog f az Hs nid r u := fun C vs hb hl hr hs => by
  have hlt : i < vs.length := by rw [hl]; exact (List.getElem?_eq_some_iff.1 hi).1
  have hrep := hr i _ vs[i] hi (List.getElem?_eq_getElem hlt)
  unfold dictP at hrep
  refine h (fun k hk hp => ?_) C vs hb hl hr hs
  generalize vs[i] = v at hrep
  cases hrep with
  | agg hl2 h2 h3 =>
    rename_i ws
    have hw : 1 < ws.length := by rw [hl2]; simp
    obtain ⟨A, cap, uu, e1, e2, e3, e4, e5, e6⟩ := (h2 1 _ ws[1] rfl (List.getElem?_eq_getElem hw)).lit_inv
    have hc := e6 k 1 _ hk rfl
    generalize uu k 1 = x at hc
    cases hc with
    | l u2 hnl hn0 hle hcc hrr =>
      rename_i A2 cap2
      cases A2 with
      | none =>
        have h0 : (rowR R k).length = 0 := (hn0 rfl).1
        omega
      | some a => rw [hnl]; rfl
def ixR (R : RowL) (f : List UInt8) : Option Nat := (List.range R.length).find? fun k => rowF R k == f
theorem ixR_hit {R : RowL} {f : List UInt8} {k : Nat} (hk : k < R.length) (h0 : ∀ j, j < k → (rowF R j == f) = false) (h : (rowF R k == f) = true) : ixR R f = some k := by
  unfold ixR
  rw [List.find?_range_eq_some]
  exact ⟨h, List.mem_range.2 hk, fun j hj => by rw [h0 j hj]; rfl⟩
theorem ixR_none {R : RowL} {f : List UInt8} (h0 : ∀ j, j < R.length → (rowF R j == f) = false) : ixR R f = none := by
  unfold ixR
  rw [List.find?_eq_none]
  intro j hj
  rw [h0 j (List.mem_range.1 hj)]
  simp
theorem ixR_lt {R : RowL} {f : List UInt8} {k : Nat} (h : ixR R f = some k) : k < R.length := by
  unfold ixR at h
  exact List.mem_range.1 (List.find?_range_eq_some.1 h).2.1
def rowPV (b : Nat → Bool) (R : RowL) : Option Nat → PV
  | some k => .lit (b k) (rowR R k).length [.s fun j => (rowR R k).getD j []]
  | none => .lit true 0 []
theorem row_c (g0 r0 : Bool) (b : Nat → Bool) (G : List (List UInt8)) (R : RowL) (f : List UInt8) (nid : Nat) (hR : R.length ≤ 1000000) : ACall Tryz.prog 95 [dictP g0 r0 b G R, .str f] [] nid (rowPV b R (ixR R f)) [] := by
  refine acall_run c95 (by simp [a95]) ?_
  unfold dictP
  simp -dsimp only [aqT, aqU, aqN, aqS, ↓seqK, ↓blkK, ↓loopK, step, stepBin, Nat.add_assoc nid, ↓reduceIte, Option.toList, ← Int.ofNat_tmod, ← Int.ofNat_tdiv, simprocAttr, BEq.rfl, LN_succ, a95]
  refine LP.mkP (fun k : Nat => k ≤ R.length ∧ ∀ j, j < k → (rowF R j == f) = false) (fun k => ⟨[(10, .int .i64 k), (9, .int .i64 R.length), (8, rowsP r0 b R), (1, .str f)], [], nid + 100, nid⟩) (fun k => R.length + 1 - k) 0 ⟨by omega, fun j hj => by omega⟩ (Cov.go [] [] ?_) (fun k hk => ?_)
  · simp [cvT, step, res, rowsP, ColsEq.refl, -List.getD_eq_getElem?_getD]
  obtain ⟨hk, hall⟩ := hk
  unfold rowsP
  simp -dsimp only [aqT, aqU, aqN, aqS, ↓seqK, ↓blkK, ↓loopK, step, stepBin, Nat.add_assoc nid, ↓reduceIte, Option.toList, ← Int.ofNat_tmod, ← Int.ofNat_tdiv, simprocAttr, BEq.rfl, LN_succ]
  refine S2.dec (fun h3 => ?_) (fun h3 => ?_) <;> simp -dsimp only [aqT, aqU, aqN, aqS, ↓seqK, ↓blkK, ↓loopK, step, stepBin, Nat.add_assoc nid, ↓reduceIte, Option.toList, ← Int.ofNat_tmod, ← Int.ofNat_tdiv, simprocAttr, BEq.rfl, LN_succ]
  · have hkl : k < R.length := by omega
    refine ⟨by omega, S2.intro (fun h4 => ?_) (fun h4 => ?_)⟩ <;> simp -dsimp only [aqT, aqU, aqN, aqS, ↓seqK, ↓blkK, ↓loopK, step, stepBin, Nat.add_assoc nid, ↓reduceIte, Option.toList, ← Int.ofNat_tmod, ← Int.ofNat_tdiv, simprocAttr, BEq.rfl, LN_succ]
    · rw [ixR_hit hkl hall h4]
      refine RetOK.go [] [] (.inl rfl) ?_
      simp [a95, cvT, step, res, rowPV, ColsEq.refl, -List.getD_eq_getElem?_getD]
    · refine ⟨by unfold inI64; omega, k + 1, ⟨⟨by omega, fun j hj => ?_⟩, by omega⟩, Cov.go [] [] ?_⟩
      · rcases (by omega : j < k ∨ j = k) with hj | hj
        · exact hall j hj
        · rw [hj]; exact h4
      simp [cvT, step, res, rowsP, ColsEq.refl, -List.getD_eq_getElem?_getD]
  · rw [ixR_none (fun j hj => hall j (by omega))]
    refine RetOK.go [] [] (.inl rfl) ?_
    simp [a95, cvT, step, res, rowPV]
def dsP (R : RowL) (n nid : Nat) : Option Nat → Option Nat → PV
  | some i, some j => .tup [.sl nid 0 (detL (rowR R j) (rowR R i) n).length, .int .i64 0]
  | _, _ => .tup [.lit true 0 [], .int .i64 8]
def dsU (R : RowL) (n nid : Nat) : Option Nat → Option Nat → Heap
  | some i, some j => [(nid, arrI (detL (rowR R j) (rowR R i) n))]
  | _, _ => []
set_option maxHeartbeats 4000000 in
theorem dist_c (g0 r0 : Bool) (b : Nat → Bool) (G : List (List UInt8)) (R : RowL) (x y : List UInt8) (nid : Nat) (hB : DictW G R) (hD : dictV G R = 0) :
    ACall Tryz.prog 21 [dictP g0 r0 b G R, .str x, .str y] [] nid (dsP R G.length nid (ixR R x) (ixR R y)) (dsU R G.length nid (ixR R x) (ixR R y)) := dictNN 0 rfl (fun hnn => by
  have hgl := hB.gl
  have hok := dict_ok hD
  have hlo := hok.lo
  have hlen := dictV_rows hD
  have hd := fun m => dictD_c g0 r0 b G R m hB
  rw [hD] at hd
  have hrx := fun m => row_c g0 r0 b G R x m hB.rl
  have hry := fun m => row_c g0 r0 b G R y m hB.rl
  have hix := fun i (h : ixR R x = some i) => ixR_lt h
  have hiy := fun i (h : ixR R y = some i) => ixR_lt h
  refine acall_sr c21 (by simp [a21]) ?_
  unfold a21 dictP at *
  refine SR.seq ?_
  simp -dsimp only [aqT, aqU, aqN, aqS, ↓seqK, ↓blkK, ↓loopK, step, stepBin, Nat.add_assoc nid, ↓reduceIte, Option.toList, ← Int.ofNat_tmod, ← Int.ofNat_tdiv, simprocAttr, BEq.rfl, LN_succ]
  refine SR.seqTo ⟨[(1, .str x), (2, .str y), (3, .ptr nid 0)], [(nid, boxP2 g0 r0 b G R)], nid + 100, nid⟩ ?_ ?_
  · simp -dsimp only [aqT, aqU, aqN, aqS, ↓seqK, ↓blkK, ↓loopK, step, stepBin, Nat.add_assoc nid, ↓reduceIte, Option.toList, ← Int.ofNat_tmod, ← Int.ofNat_tdiv, simprocAttr, BEq.rfl, LN_succ]
    refine CallO.pure (hd _) ?_
    simp -dsimp only [aqT, aqU, aqN, aqS, ↓seqK, ↓blkK, ↓loopK, step, stepBin, Nat.add_assoc nid, ↓reduceIte, Option.toList, ← Int.ofNat_tmod, ← Int.ofNat_tdiv, simprocAttr, BEq.rfl, LN_succ]
    refine Cov.go [] [] ?_
    simp [cvT, step, res, boxP2, ColsEq.refl, -List.getD_eq_getElem?_getD]
  unfold boxP2
  refine SR.seqTo ⟨[(9, rowPV b R (ixR R x)), (10, rowPV b R (ixR R y))], [], nid + 200, nid⟩ ?_ ?_
  · simp -dsimp only [aqT, aqU, aqN, aqS, ↓seqK, ↓blkK, ↓loopK, step, stepBin, Nat.add_assoc nid, ↓reduceIte, Option.toList, ← Int.ofNat_tmod, ← Int.ofNat_tdiv, simprocAttr, BEq.rfl, LN_succ]
    refine CallX.pure (hrx _) ?_
    simp -dsimp only [aqT, aqU, aqN, aqS, ↓seqK, ↓blkK, ↓loopK, step, stepBin, Nat.add_assoc nid, ↓reduceIte, Option.toList, ← Int.ofNat_tmod, ← Int.ofNat_tdiv, simprocAttr, BEq.rfl, LN_succ]
    refine CallX.pure (hry _) ?_
    simp -dsimp only [aqT, aqU, aqN, aqS, ↓seqK, ↓blkK, ↓loopK, step, stepBin, Nat.add_assoc nid, ↓reduceIte, Option.toList, ← Int.ofNat_tmod, ← Int.ofNat_tdiv, simprocAttr, BEq.rfl, LN_succ]
    refine Cov.go [] [] ?_
    cases ixR R x <;> cases ixR R y <;> simp [cvT, step, res, rowPV, ColsEq.refl, -List.getD_eq_getElem?_getD]
  clear hrx hry hd
  cases hx : ixR R x with
  | none =>
    simp only [rowPV, dsP, dsU]
    refine SR.run (t := .mk) ?_
    simp -dsimp only [aqT, aqU, aqN, aqS, ↓seqK, ↓blkK, ↓loopK, step, stepBin, Nat.add_assoc nid, ↓reduceIte, Option.toList, ← Int.ofNat_tmod, ← Int.ofNat_tdiv, simprocAttr, BEq.rfl, LN_succ]
    refine RetOK.go [] [] (.inl rfl) ?_
    simp [a21, cvT, step, res]
  | some i =>
    have hi := hix i hx
    have hbi := hnn i hi (by rw [hlen i hi]; exact hlo)
    cases hy : ixR R y with
    | none =>
      simp only [rowPV, dsP, dsU, hbi]
      refine SR.run (t := .mk) ?_
      simp -dsimp only [aqT, aqU, aqN, aqS, ↓seqK, ↓blkK, ↓loopK, step, stepBin, Nat.add_assoc nid, ↓reduceIte, Option.toList, ← Int.ofNat_tmod, ← Int.ofNat_tdiv, simprocAttr, BEq.rfl, LN_succ]
      refine RetOK.go [] [] (.inl rfl) ?_
      simp [a21, cvT, step, res]
    | some j =>
      have hj := hiy j hy
      have hbj := hnn j hj (by rw [hlen j hj]; exact hlo)
      have hli := hlen i hi
      have hlj := hlen j hj
      simp only [rowPV, dsP, dsU, hbi, hbj]
      rw [← hli]
      generalize hA : rowR R i = A at *
      generalize hBB : rowR R j = B at *
      refine SR.seqTo ⟨[(9, .lit false A.length [.s fun j => A.getD j []]), (10, .lit false B.length [.s fun j => B.getD j []])], [], nid + 300, nid⟩ ?_ ?_
      · simp -dsimp only [aqT, aqU, aqN, aqS, ↓seqK, ↓blkK, ↓loopK, step, stepBin, Nat.add_assoc nid, ↓reduceIte, Option.toList, ← Int.ofNat_tmod, ← Int.ofNat_tdiv, simprocAttr, BEq.rfl, LN_succ]
        refine Cov.go [] [] ?_
        simp [cvT, step, res, ColsEq.refl, -List.getD_eq_getElem?_getD]
      refine SR.seq ?_
      simp -dsimp only [aqT, aqU, aqN, aqS, ↓seqK, ↓blkK, ↓loopK, step, stepBin, Nat.add_assoc nid, ↓reduceIte, Option.toList, ← Int.ofNat_tmod, ← Int.ofNat_tdiv, simprocAttr, BEq.rfl, LN_succ]
      refine SR.run (t := .mk) ?_
      simp -dsimp only [aqT, aqU, aqN, aqS, ↓seqK, ↓blkK, ↓loopK, step, stepBin, Nat.add_assoc nid, ↓reduceIte, Option.toList, ← Int.ofNat_tmod, ← Int.ofNat_tdiv, simprocAttr, BEq.rfl, LN_succ]
      refine LP.mkP (fun k : Nat => k ≤ A.length) (fun k => ⟨[(32, .int .i64 k), (31, .int .i64 A.length), (9, .lit false A.length [.s fun j => A.getD j []]), (10, .lit false B.length [.s fun j => B.getD j []]), (11, .sl (nid + 8) 0 (detL B A k).length)], [(nid + 8, arrI (detL B A k))], nid + 400, nid⟩) (fun k => A.length + 1 - k) 0 (by omega) (Cov.go [] [(nid + 8, 1)] ?_) (fun k hk => ?_)
      · simp [cvT, step, res, arrI, detL, ColsEq.refl, -List.getD_eq_getElem?_getD]
      have hsu := detL_succ B A k
      have hle := detL_len B A k
      have hen : k = A.length → detL B A A.length = detL B A k := fun e => by rw [e]
      generalize detL B A k = V at *
      unfold arrI
      simp -dsimp only [aqT, aqU, aqN, aqS, ↓seqK, ↓blkK, ↓loopK, step, stepBin, Nat.add_assoc nid, ↓reduceIte, Option.toList, ← Int.ofNat_tmod, ← Int.ofNat_tdiv, simprocAttr, BEq.rfl, LN_succ]
      refine S2.dec (fun h3 => ?_) (fun h3 => ?_) <;> simp -dsimp only [aqT, aqU, aqN, aqS, ↓seqK, ↓blkK, ↓loopK, step, stepBin, Nat.add_assoc nid, ↓reduceIte, Option.toList, ← Int.ofNat_tmod, ← Int.ofNat_tdiv, simprocAttr, BEq.rfl, LN_succ]
      · have hkl : k < A.length := by omega
        refine ⟨by omega, by omega, ?_⟩
        have eo : (!(A.getD k [] == B.getD k [])) = detB B A (k : Nat) := rfl
        rw [eo]
        cases h6 : detB B A (k : Nat) <;> rw [h6] at hsu <;> simp -dsimp only [aqT, aqU, aqN, aqS, ↓seqK, ↓blkK, ↓loopK, step, stepBin, Nat.add_assoc nid, ↓reduceIte, Option.toList, ← Int.ofNat_tmod, ← Int.ofNat_tdiv, simprocAttr, BEq.rfl, LN_succ]
        · rw [if_neg (by simp)] at hsu
          refine ⟨by unfold inI64; omega, k + 1, ⟨by omega, by omega⟩, Cov.go [] [] ?_⟩
          rw [hsu]
          simp [cvT, step, res, arrI, ColsEq.refl, -List.getD_eq_getElem?_getD]
        · rw [if_pos rfl] at hsu
          rw [getD_appI]
          refine ⟨⟨by omega, by omega⟩, by unfold inI64; omega, k + 1, ⟨by omega, by omega⟩, Cov.go [(nid + 8, nid + 460)] [] ?_⟩
          simp only [hsu]
          simp [cvT, step, res, arrI, ColsEq.refl, -List.getD_eq_getElem?_getD, -List.length_append]
          try simp
      · rw [hen (by omega)]
        refine RetOK.go [(nid, nid + 8)] [] (.inl rfl) ?_
        simp [a21, cvT, step, res, arrI, ColsEq.refl, -List.getD_eq_getElem?_getD])
end Go.Proofs.YtpifoghhaohhaaaGreatDoor
namespace Go.Proofs.YtpifoghhaohhaaaGreatDoor
open Go.RowKit Go.Shelf Go.Lib
end Go.Proofs.YtpifoghhaohhaaaGreatDoor
namespace Go.Proofs.YtpifoghhaohhaaaGreatDoor
open Go.RowKit Go.Shelf Go.Lib
end Go.Proofs.YtpifoghhaohhaaaGreatDoor
namespace Go.Proofs.YtpifoghhaohhaaaGreatDoor
open Go.RowKit Go.Shelf Go.Lib
end Go.Proofs.YtpifoghhaohhaaaGreatDoor
namespace Go.Proofs.YtpifoghhaohhaaaGreatDoor
open Go.RowKit Go.Shelf Go.Lib
structure SeenG (G : List (List UInt8)) (R : RowL) (S : SeenL) : Prop where
  d : dictV G R = 0
  l : S.length ≤ 100
  b : ∀ j, j < S.length → seenBad G.length S j = 0
theorem SeenG.bad {G : List (List UInt8)} {R : RowL} {S : SeenL} (h : SeenG G R S) {k : Nat} (hk : k < S.length) : (0 ≤ sT S k ∧ sT S k < G.length) ∧ ¬ (0 < k ∧ sT S k ≤ sT S (k - 1)) := by
  have := h.b k hk
  unfold seenBad at this
  split at this
  · omega
  · rename_i h1
    split at this
    · omega
    · split at this
      · omega
      · rename_i h3
        refine ⟨?_, h3⟩
        unfold outB at h1
        simp only [decide_eq_true_eq] at h1
        omega
theorem SeenG.up {G : List (List UInt8)} {R : RowL} {S : SeenL} (h : SeenG G R S) : ∀ k j, j < k → k < S.length → sT S j < sT S k
  | 0, j, hj, _ => by omega
  | k + 1, j, hj, hk => by
    have h1 := (h.bad hk).2
    rw [Nat.add_sub_cancel] at h1
    rcases (by omega : j = k ∨ j < k) with e | e
    · subst e; omega
    · have := SeenG.up h k j e (by omega)
      omega
theorem SeenG.inj {G : List (List UInt8)} {R : RowL} {S : SeenL} (h : SeenG G R S) {j k : Nat} (hj : j < S.length) (hk : k < S.length) (e : sT S j = sT S k) : j = k := by
  rcases Nat.lt_trichotomy j k with h1 | h1 | h1
  · have := h.up k j h1 hk; omega
  · exact h1
  · have := h.up j k h1 hj; omega
end Go.Proofs.YtpifoghhaohhaaaGreatDoor
namespace Go.Proofs.YtpifoghhaohhaaaGreatDoor
open Go.RowKit Go.Shelf Go.Lib
theorem less_lex : ∀ (x y : List UInt8), Op.bytesLess x y = decide (x < y)
  | [], [] => by simp [Op.bytesLess]
  | _ :: _, [] => by simp [Op.bytesLess]
  | [], _ :: _ => by simp [Op.bytesLess]
  | a :: x, b :: y => by
    rw [Op.bytesLess, less_lex x y]
    simp only [List.cons_lt_cons_iff]
    by_cases h1 : a < b <;> by_cases h2 : a = b <;> by_cases h3 : x < y <;> simp [h1, h2, h3]
theorem rowBad_get {G : List (List UInt8)} {R : RowL} (h : dictV G R = 0) {k : Nat} (hk : k < R.length) : rowBad G.length R k = 0 := by
  unfold dictV at h
  split at h
  · omega
  split at h
  · omega
  split at h
  · omega
  exact firstBad_all0 h k hk
theorem names_up1 {G : List (List UInt8)} {R : RowL} (h : dictV G R = 0) {k : Nat} (hk : k + 1 < R.length) : rowF R k < rowF R (k + 1) := by
  have hb := rowBad_get h hk
  unfold rowBad at hb
  split at hb
  · omega
  split at hb
  · omega
  split at hb
  · omega
  split at hb
  · omega
  rename_i h4
  rw [Nat.add_sub_cancel, less_lex] at h4
  have h5 : ¬ (rowF R (k + 1) < rowF R k) ∧ ¬ rowF R (k + 1) = rowF R k := by
    constructor
    · intro e
      exact h4 ⟨by omega, by rw [decide_eq_true e]; rfl⟩
    · intro e
      exact h4 ⟨by omega, by rw [e]; simp⟩
  rcases List.le_iff_lt_or_eq.1 (List.not_lt.1 h5.1) with h6 | h6
  · exact h6
  · exact absurd h6.symm h5.2
theorem names_up {G : List (List UInt8)} {R : RowL} (h : dictV G R = 0) : ∀ k j, j < k → k < R.length → rowF R j < rowF R k
  | 0, j, hj, _ => by omega
  | k + 1, j, hj, hk => by
    have h1 := names_up1 h hk
    rcases (by omega : j = k ∨ j < k) with e | e
    · subst e; exact h1
    · exact List.lt_trans (names_up h k j e (by omega)) h1
theorem names_inj {G : List (List UInt8)} {R : RowL} (h : dictV G R = 0) {j k : Nat} (hj : j < R.length) (hk : k < R.length) (e : rowF R j = rowF R k) : j = k := by
  rcases Nat.lt_trichotomy j k with h1 | h1 | h1
  · have := names_up h k j h1 hk
    rw [e] at this
    exact absurd this (List.lt_irrefl _)
  · exact h1
  · have := names_up h j k h1 hj
    rw [e] at this
    exact absurd this (List.lt_irrefl _)
end Go.Proofs.YtpifoghhaohhaaaGreatDoor
namespace Go.Proofs.YtpifoghhaohhaaaGreatDoor
open Go.RowKit Go.Lib
theorem getD_swp {l : List Int} {i k : Nat} (hi : i < l.length) (hk : k < l.length) :
    (fun j => if j = k then l.getD i 0 else if j = i then l.getD k 0 else l.getD j 0) = fun j => (swpL l i k).getD j 0 := by
  funext j
  unfold swpL
  simp only [List.getD_eq_getElem?_getD]
  by_cases h1 : j = k
  · subst h1
    rw [if_pos rfl, List.getElem?_set_self (by simpa using hk)]
    rfl
  · rw [if_neg h1, List.getElem?_set_ne (fun e => h1 e.symm)]
    by_cases h2 : j = i
    · subst h2
      rw [if_pos rfl, List.getElem?_set_self hi]
      rfl
    · rw [if_neg h2, List.getElem?_set_ne (fun e => h2 e.symm)]
theorem getD_appO (l : List Int) (x : Int) : (fun i => if i < l.length then l.getD i 0 else [x].getD (i - l.length) 0) = fun i => (l ++ [x]).getD i 0 := by
  funext i
  rw [List.getD_eq_getElem?_getD, List.getD_eq_getElem?_getD, List.getD_eq_getElem?_getD, List.getElem?_append]
  split <;> rfl
set_option maxHeartbeats 2000000 in
theorem order_c (s nid : Nat) (nl : Bool) (A : List Int) (p n : Nat) (h : s < nid) (hp : p ≤ 1099400000000) (hA : A.length ≤ 17592186044416) (hn : n ≤ 1000000) :
    ACall Tryz.prog 74 [.ptr s 0, .int .i64 (n : Nat)] [(s, strmC nl A p)] nid (.sl nid 0 n) [(nid, arrI (orderV A p n)), (s, strmC nl A (p + (n - 1)))] := by
  obtain ⟨e1, e2, e3, e4, e5, e6, e7, e8, e9⟩ := id_all h
  refine acall_sr c74 (by simp [a74]) ?_
  unfold a74
  refine SR.seq ?_
  simp -dsimp only [aqT, aqU, aqN, aqS, ↓seqK, ↓blkK, ↓loopK, step, stepBin, Nat.add_assoc nid, ↓reduceIte, Option.toList, ← Int.ofNat_tmod, ← Int.ofNat_tdiv, simprocAttr, BEq.rfl, LN_succ, e1, e2, e3, e4, e5, e6, e7, e8, e9]
  refine SR.seq ?_
  simp -dsimp only [aqT, aqU, aqN, aqS, ↓seqK, ↓blkK, ↓loopK, step, stepBin, Nat.add_assoc nid, ↓reduceIte, Option.toList, ← Int.ofNat_tmod, ← Int.ofNat_tdiv, simprocAttr, BEq.rfl, LN_succ, e1, e2, e3, e4, e5, e6, e7, e8, e9]
  refine SR.seqTo ⟨[(5, .sl (nid + 8) 0 n), (0, .ptr s 0), (1, .int .i64 (n : Nat))], [(nid + 8, arrI (rngL n)), (s, strmC nl A p)], nid + 200, nid⟩ ?_ ?_
  · simp -dsimp only [aqT, aqU, aqN, aqS, ↓seqK, ↓blkK, ↓loopK, step, stepBin, Nat.add_assoc nid, ↓reduceIte, Option.toList, ← Int.ofNat_tmod, ← Int.ofNat_tdiv, simprocAttr, BEq.rfl, LN_succ, e1, e2, e3, e4, e5, e6, e7, e8, e9]
    refine LP.mkP (fun k : Nat => k ≤ n) (fun k => ⟨[(10, .int .i64 k), (9, .int .i64 (n : Nat)), (5, .sl (nid + 8) 0 k), (0, .ptr s 0), (1, .int .i64 (n : Nat))], [(nid + 8, arrI (rngL k)), (s, strmC nl A p)], nid + 100, nid⟩) (fun k => n + 1 - k) 0 (by omega) (Cov.go [] [(nid + 8, 1)] ?_) (fun k hk => ?_)
    · simp [cvT, step, res, e1, e2, e3, e4, e5, e6, e7, e8, e9, strmC, arrI, rngL, -List.getD_eq_getElem?_getD]
    have hrl := rng_len k
    have happ := getD_appO (rngL k) (k : Int)
    rw [hrl, ← rng_succ] at happ
    unfold arrI
    simp -dsimp only [aqT, aqU, aqN, aqS, ↓seqK, ↓blkK, ↓loopK, step, stepBin, Nat.add_assoc nid, ↓reduceIte, Option.toList, ← Int.ofNat_tmod, ← Int.ofNat_tdiv, simprocAttr, BEq.rfl, LN_succ, e1, e2, e3, e4, e5, e6, e7, e8, e9]
    refine S2.dec (fun h3 => ?_) (fun h3 => ?_) <;> simp -dsimp only [aqT, aqU, aqN, aqS, ↓seqK, ↓blkK, ↓loopK, step, stepBin, Nat.add_assoc nid, ↓reduceIte, Option.toList, ← Int.ofNat_tmod, ← Int.ofNat_tdiv, simprocAttr, BEq.rfl, LN_succ, e1, e2, e3, e4, e5, e6, e7, e8, e9]
    · rw [happ]
      refine ⟨by omega, by unfold inI64; omega, k + 1, ⟨by omega, by omega⟩, Cov.go [(nid + 8, nid + 124)] [] ?_⟩
      simp [cvT, step, res, e1, e2, e3, e4, e5, e6, e7, e8, e9, strmC, arrI, rng_len, ColsEq.refl, -List.getD_eq_getElem?_getD]
    · obtain rfl : k = n := by omega
      refine Cov.go [] [] ?_
      simp [cvT, step, res, e1, e2, e3, e4, e5, e6, e7, e8, e9, strmC, arrI, rng_len, ColsEq.refl, -List.getD_eq_getElem?_getD]
  refine SR.seqTo ⟨[(5, .sl (nid + 8) 0 n)], [(nid + 8, arrI (orderV A p n)), (s, strmC nl A (p + (n - 1)))], nid + 600, nid⟩ ?_ ?_
  · unfold arrI
    simp -dsimp only [aqT, aqU, aqN, aqS, ↓seqK, ↓blkK, ↓loopK, step, stepBin, Nat.add_assoc nid, ↓reduceIte, Option.toList, ← Int.ofNat_tmod, ← Int.ofNat_tdiv, simprocAttr, BEq.rfl, LN_succ, e1, e2, e3, e4, e5, e6, e7, e8, e9]
    refine ⟨by unfold inI64; omega, ?_⟩
    refine LP.mkP (fun x : Nat × List Int => x.1 ≤ n - 1 ∧ x.2.length = n ∧ ordV A (n - 1 - x.1) (p + x.1) x.2 = orderV A p n) (fun x => ⟨[(7, .int .i64 ((n : Int) - 1 - (x.1 : Nat))), (5, .sl (nid + 8) 0 n), (0, .ptr s 0)], [(nid + 8, arrI x.2), (s, strmC nl A (p + x.1))], nid + 300, nid⟩) (fun x => n - x.1) (0, rngL n) ⟨by simp, rng_len n, by simp [orderV]⟩ (Cov.go [] [] ?_) (fun x hx => ?_)
    · simp [cvT, step, res, e1, e2, e3, e4, e5, e6, e7, e8, e9, strmC, arrI, rng_len, ColsEq.refl, -List.getD_eq_getElem?_getD]
    obtain ⟨k, l⟩ := x
    obtain ⟨hk, hl, ho⟩ := hx
    simp only at hk hl ho ⊢
    unfold arrI
    simp -dsimp only [aqT, aqU, aqN, aqS, ↓seqK, ↓blkK, ↓loopK, step, stepBin, Nat.add_assoc nid, ↓reduceIte, Option.toList, ← Int.ofNat_tmod, ← Int.ofNat_tdiv, simprocAttr, BEq.rfl, LN_succ, e1, e2, e3, e4, e5, e6, e7, e8, e9]
    refine S2.dec (fun h3 => ?_) (fun h3 => ?_) <;> simp -dsimp only [aqT, aqU, aqN, aqS, ↓seqK, ↓blkK, ↓loopK, step, stepBin, Nat.add_assoc nid, ↓reduceIte, Option.toList, ← Int.ofNat_tmod, ← Int.ofNat_tdiv, simprocAttr, BEq.rfl, LN_succ, e1, e2, e3, e4, e5, e6, e7, e8, e9]
    · obtain ⟨j, hj⟩ : ∃ j, n - 1 - k = j + 1 := ⟨n - 1 - k - 1, by omega⟩
      have ej : ((n : Int) - 1 - (k : Nat)) = ((j + 1 : Nat) : Int) := by omega
      have hnd := nextV_bd A (p + k) (n := ((j : Nat) : Int) + 2) (by omega)
      rw [ej]
      have e2' : (((j + 1 : Nat) : Int) + 1) = ((j : Nat) : Int) + 2 := by omega
      rw [e2']
      refine ⟨by unfold inI64; omega, ?_⟩
      refine CallO.on (next_c s _ nl A (p + k) _ (by omega) (by omega) hA (by omega)) (subH_get (by simp only [aqT, aqU, aqN, aqS, ↓seqK, ↓blkK, ↓loopK, step, stepBin, Nat.add_assoc nid, ↓reduceIte, Option.toList, ← Int.ofNat_tmod, ← Int.ofNat_tdiv, simprocAttr, BEq.rfl, LN_succ, e1, e2, e3, e4, e5, e6, e7, e8, e9])) ?_
      obtain ⟨I, hI⟩ : ∃ I : Nat, nextV A (p + k) (((j : Nat) : Int) + 2) = I := ⟨_, (Int.toNat_of_nonneg hnd.1).symm⟩
      rw [hI]
      simp -dsimp only [aqT, aqU, aqN, aqS, ↓seqK, ↓blkK, ↓loopK, step, stepBin, Nat.add_assoc nid, ↓reduceIte, Option.toList, ← Int.ofNat_tmod, ← Int.ofNat_tdiv, simprocAttr, BEq.rfl, LN_succ, e1, e2, e3, e4, e5, e6, e7, e8, e9, strmC_low]
      have hsw := getD_swp (l := l) (i := j + 1) (k := I) (by omega) (by omega)
      rw [hj] at ho
      unfold ordV at ho
      rw [hI, Int.toNat_natCast] at ho
      refine ⟨⟨by omega, by omega⟩, ⟨by omega, by omega⟩, ⟨by omega, by omega⟩, ⟨by omega, by omega⟩, ?_⟩
      rw [hsw]
      refine ⟨by unfold inI64; omega, (k + 1, swpL l (j + 1) I), ⟨⟨by simp only; omega, by simp only; rw [swp_len]; exact hl, ?_⟩, by simp only; omega⟩, Cov.go [] [] ?_⟩
      · simp only
        rw [show n - 1 - (k + 1) = j by omega]
        exact ho
      simp [cvT, step, res, e1, e2, e3, e4, e5, e6, e7, e8, e9, strmC, arrI, swp_len, ColsEq.refl, -List.getD_eq_getElem?_getD]
      omega
    · have e0 : n - 1 - k = 0 := by omega
      rw [e0] at ho
      unfold ordV at ho
      have ek : p + (n - 1) = p + k := by omega
      rw [ek, ← ho]
      refine Cov.go [] [] ?_
      simp [cvT, step, res, e1, e2, e3, e4, e5, e6, e7, e8, e9, strmC, arrI, hl, ColsEq.refl, -List.getD_eq_getElem?_getD]
  · refine SR.run (t := .mk) ?_
    have hol := order_len A p n
    unfold arrI
    simp -dsimp only [aqT, aqU, aqN, aqS, ↓seqK, ↓blkK, ↓loopK, step, stepBin, Nat.add_assoc nid, ↓reduceIte, Option.toList, ← Int.ofNat_tmod, ← Int.ofNat_tdiv, simprocAttr, BEq.rfl, LN_succ, e1, e2, e3, e4, e5, e6, e7, e8, e9]
    refine RetOK.go [(nid, nid + 8)] [] (.inl rfl) ?_
    simp [a74, cvT, step, res, e1, e2, e3, e4, e5, e6, e7, e8, e9, strmC, arrI, ColsEq.refl, -List.getD_eq_getElem?_getD]
end Go.Proofs.YtpifoghhaohhaaaGreatDoor
namespace Go.Proofs.YtpifoghhaohhaaaGreatDoor
theorem rowD_at {G : List (List UInt8)} {R : RowL} (h : dictV G R = 0) {j : Nat} (hj : j < R.length + 1) : ((rowD G R).getD j ([], [])).2.length = G.length ∧ ∀ x ∈ ((rowD G R).getD j ([], [])).2, (32 : UInt8) ∉ x := by
  have hok := dict_ok h
  cases j with
  | zero => exact ⟨rfl, fun x hx => (resp_no (hok.g x hx)).2.2.1⟩
  | succ k =>
    have hk : k < R.length := by omega
    have e : (rowD G R).getD (k + 1) ([], []) = R[k] := by
      unfold rowD
      rw [List.getD_eq_getElem?_getD, List.getElem?_cons_succ, List.getElem?_eq_getElem hk]
      rfl
    rw [e]
    obtain ⟨_, b, c⟩ := hok.r _ (List.getElem_mem hk)
    exact ⟨b, fun x hx => (resp_no (c x hx)).2.2.1⟩
theorem rowD_no32 {G : List (List UInt8)} {R : RowL} (h : dictV G R = 0) {j : Nat} (hj : j < R.length + 1) (i : Nat) : (32 : UInt8) ∉ ((rowD G R).getD j ([], [])).2.getD i [] := by
  have := (rowD_at h hj).2
  rw [List.getD_eq_getElem?_getD]
  cases e : ((rowD G R).getD j ([], [])).2[i]? with
  | none => simp
  | some x => exact this x (List.mem_of_getElem? e)
theorem keyD_eq {G : List (List UInt8)} {R : RowL} (h : dictV G R = 0) {i j : Nat} (hi : i < R.length + 1) (hj : j < R.length + 1) (T : List Int) : keyD G R T i = keyD G R T j ↔ ∀ t ∈ T, ((rowD G R).getD i ([], [])).2.getD t.toNat [] = ((rowD G R).getD j ([], [])).2.getD t.toNat [] :=
  told_eq (fun t _ => rowD_no32 h hi _) (fun t _ => rowD_no32 h hj _)
theorem grpD_more {G : List (List UInt8)} {R : RowL} (h : dictV G R = 0) (T : List Int) (k : Nat) : (grpD G R (T.take k)).length ≤ (grpD G R (T.take (k + 1))).length := by
  unfold grpD
  rw [grps_len, grps_len]
  refine fsts_fine fun i j hi hj e => ?_
  rw [keyD_eq h hi hj] at e ⊢
  exact fun t ht => e t ((List.take_sublist_take_left (Nat.le_succ k)).subset ht)
theorem nameD_inj {G : List (List UInt8)} {R : RowL} (h : dictV G R = 0) : ∀ i j, i < R.length + 1 → j < R.length + 1 → nameD G R i = nameD G R j → i = j := by
  have hok := dict_ok h
  have h0 : ∀ k, k < R.length → rowF R k ≠ [] := fun k hk => by
    have := hok.r _ (List.getElem_mem hk)
    rw [(row_at hk).1]
    exact (key_no this.1).1
  have e0 : nameD G R 0 = [] := rfl
  have e1 : ∀ k, nameD G R (k + 1) = rowF R k := fun k => by
    unfold nameD rowD rowF
    rw [List.getD_eq_getElem?_getD, List.getElem?_cons_succ, ← List.getD_eq_getElem?_getD]
  intro i j hi hj e
  rcases i with _ | i <;> rcases j with _ | j
  · rfl
  · rw [e0, e1] at e; exact absurd e.symm (h0 j (by omega))
  · rw [e0, e1] at e; exact absurd e (h0 i (by omega))
  · rw [e1, e1] at e
    rw [names_inj h (by omega) (by omega) e]
theorem map_nodup {α β : Type} (f : α → β) : ∀ (l : List α), l.Nodup → (∀ x ∈ l, ∀ y ∈ l, f x = f y → x = y) → (l.map f).Nodup
  | [], _, _ => by simp
  | a :: l, hn, h => by
    rw [List.map_cons, List.nodup_cons]
    obtain ⟨h1, h2⟩ := List.nodup_cons.1 hn
    refine ⟨fun hm => ?_, map_nodup f l h2 fun x hx y hy => h x (List.mem_cons_of_mem _ hx) y (List.mem_cons_of_mem _ hy)⟩
    obtain ⟨x, hx, e⟩ := List.mem_map.1 hm
    have := h x (List.mem_cons_of_mem _ hx) a (by simp) e
    subst this
    exact h1 hx
theorem grpD_flat {G : List (List UInt8)} {R : RowL} (h : dictV G R = 0) (T : List Int) : (grpD G R T).flatten.length = R.length + 1 ∧ (grpD G R T).flatten.Nodup := by
  have hp := flat_perm (K := keyD G R T) (N := nameD G R) (R.length + 1)
  refine ⟨by unfold grpD; rw [hp.length_eq]; simp, hp.symm.nodup (map_nodup _ _ List.nodup_range fun x hx y hy e => nameD_inj h x y (List.mem_range.1 hx) (List.mem_range.1 hy) e)⟩
theorem grpD_one {G : List (List UInt8)} {R : RowL} (h : dictV G R = 0) {T : List Int} (hT : T.Perm (rngL G.length)) {i j : Nat} (hi : i < R.length) (hj : j < R.length) :
    ((grpD G R T).any fun l => l.contains (rowF R i) && l.contains (rowF R j)) = ((detL (rowR R j) (rowR R i) G.length).length == 0) := by
  have e1 : ∀ k, nameD G R (k + 1) = rowF R k := fun k => by
    unfold nameD rowD rowF
    rw [List.getD_eq_getElem?_getD, List.getElem?_cons_succ, ← List.getD_eq_getElem?_getD]
  have e2 : ∀ k, ((rowD G R).getD (k + 1) ([], [])).2 = rowR R k := fun k => by
    unfold rowD rowR
    rw [List.getD_eq_getElem?_getD, List.getElem?_cons_succ, ← List.getD_eq_getElem?_getD]
  have ho := one_iff (K := keyD G R T) (N := nameD G R) (n := R.length + 1) (a := i + 1) (b := j + 1) (by omega) (by omega) (nameD_inj h)
  rw [e1, e1] at ho
  unfold grpD
  rw [ho, Bool.eq_iff_iff, beq_iff_eq, beq_iff_eq, keyD_eq h (by omega) (by omega), e2, e2]
  constructor
  · intro hk
    refine List.length_eq_zero_iff.2 ?_
    unfold detL
    rw [List.map_eq_nil_iff, List.filter_eq_nil_iff]
    intro t ht
    have := hk (t : Nat) (hT.mem_iff.2 (rng_mem.2 ⟨by omega, by have := List.mem_range.1 ht; omega⟩))
    unfold detB
    rw [Int.toNat_natCast] at this ⊢
    rw [this]
    simp
  · intro hk t ht
    obtain ⟨t0, t1⟩ := rng_mem.1 (hT.mem_iff.1 ht)
    have hk := List.length_eq_zero_iff.1 hk
    unfold detL at hk
    rw [List.map_eq_nil_iff, List.filter_eq_nil_iff] at hk
    have := hk t.toNat (List.mem_range.2 (by omega))
    unfold detB at this
    rw [Int.toNat_natCast] at this
    simpa using this
end Go.Proofs.YtpifoghhaohhaaaGreatDoor
namespace Go.Proofs.YtpifoghhaohhaaaGreatDoor
open Go.RowKit Go.Shelf Go.Sort
attribute [local go_sem] Oper.semAt_some
def comeU {α : Type} (f : Nat → α) (k : Nat) : List α := (List.range k).map f
theorem comeU_succ {α : Type} (f : Nat → α) (k : Nat) : comeU f (k + 1) = comeU f k ++ [f k] := by simp [comeU, List.range_succ]
theorem comeU_length {α : Type} (f : Nat → α) (k : Nat) : (comeU f k).length = k := by simp [comeU]
set_option maxRecDepth 100000 in
set_option maxHeartbeats 2000000 in
theorem values1_in (F : Fence) (n : Nat) (h7 : F.fn 174) (hro : F.round = none) (hn : 1 ≤ n) (l Bs Os n₀ b off len cap : Nat) (g : Nat → List UInt8) (hreach : len * 16 ≤ 140737488351232) (hb : b < n₀) (J Jx : List (List UInt8) → World → Prop)
    (hY : ∀ pre x W, J pre W → pre.length < len → YieldAt F (n - 1) Tryz.prog l #[encStr x] W fun e W' =>
      (e = .returned (.bool true) ∧ J (pre ++ [x]) W' ∧ Below n₀ W W') ∨ (e = .returned (.bool false) ∧ Jx (pre ++ [x]) W'))
    (W : World) (hBs : W.cell? ⟨Bs, Os, none⟩ = some (.slice (some ⟨b, off, none⟩) len cap)) (hc : ∀ j, j < len → W.cell? ⟨b, off + j, none⟩ = some (encStr (g j))) (h0 : J [] W) :
    CallsIn F n Tryz.prog 174 #[.func (.yield l) #[] #[], .pointer (some ⟨Bs, Os, none⟩)] W fun e W' => (∃ v, e = .returned v) ∧
      ((∃ ys, ys = comeU g len ∧ J ys W') ∨ (∃ pre, (∃ k, k ≤ len ∧ pre = comeU g k) ∧ Jx pre W')) := by
  refine callsIn_of_wp Tryz.func174 rfl h7 ?_ hro
  simp only [Tryz.ntmps174, List.size_toArray, List.length_cons, List.length_nil, Nat.reduceAdd, Nat.reduceSub, Array.replicate_succ, Array.replicate_zero, List.push_toArray, List.append_toArray, List.nil_append, List.cons_append]
  gi_wp2
  gi_loopw [7] (fun i wr => ∃ k : Nat, k ≤ len ∧ i = .int .i64 k ∧ J (comeU g k) wr ∧ Below n₀ W wr)
    (fun i _ => len - (intOf i).toNat)
  case atStart => exact ⟨0, Nat.zero_le _, rfl, h0, Below.refl _ _⟩
  case round =>
    obtain ⟨k, hk, rfl, hJs, hnx⟩ := hrel
    have hcx : k < len → wr.cell? ⟨b, off + k, none⟩ = some (encStr (g k)) := fun h => (hnx.cell (p := ⟨b, off + k, none⟩) hb).trans (hc k h)
    by_cases hlt : k < len
    · obtain ⟨fn, tmps, assign, body, hy, hR⟩ := hY _ (g k) wr hJs (by rw [comeU_length]; exact hlt)
      have hcx' := hcx hlt
      gi_wp2
      refine hR.mono ?_
      rintro e W3 (⟨rfl, hJ3, hk3⟩ | ⟨rfl, hJx3⟩)
      · gi_wp2
        go_roundw
        case rel => exact ⟨k + 1, by omega, by simp, by rw [comeU_succ]; exact hJ3, hnx.trans hk3⟩
        case measure => simp [intOf]; omega
      · gi_wp2
        refine bodyPost_ret (results_none rfl _ _ _) rfl ?_
        exact ⟨⟨_, rfl⟩, .inr ⟨_, ⟨k + 1, by omega, (comeU_succ _ _).symm⟩, hJx3⟩⟩
    · obtain rfl : k = len := by omega
      gi_wp2
      go_end0
      exact ⟨⟨_, rfl⟩, .inl ⟨_, rfl, hJs⟩⟩
set_option maxRecDepth 100000 in
set_option maxHeartbeats 1000000 in
theorem values1_nil_in (F : Fence) (n : Nat) (h7 : F.fn 174) (hro : F.round = none) (l Bs Os : Nat) (J : List (List UInt8) → World → Prop) (W : World) (A : Option Addr) (cap : Nat) (hBs : W.cell? ⟨Bs, Os, none⟩ = some (.slice A 0 cap)) (h0 : J [] W) :
    CallsIn F n Tryz.prog 174 #[.func (.yield l) #[] #[], .pointer (some ⟨Bs, Os, none⟩)] W fun e W' => (∃ v, e = .returned v) ∧ J [] W' := by
  refine callsIn_of_wp Tryz.func174 rfl h7 ?_ hro
  simp only [Tryz.ntmps174, List.size_toArray, List.length_cons, List.length_nil, Nat.reduceAdd, Nat.reduceSub, Array.replicate_succ, Array.replicate_zero, List.push_toArray, List.append_toArray, List.nil_append, List.cons_append]
  gi_wp2
  gi_loopw [7] (fun i wr => i = .int .i64 0 ∧ J [] wr) (fun _ _ => 0)
  case atStart => exact ⟨rfl, h0⟩
  case round =>
    obtain ⟨rfl, hJs⟩ := hrel
    gi_wp2
    go_end0
    exact ⟨⟨_, rfl⟩, hJs⟩
def Strs (n₀ : Nat) (W : World) (sv : Value) (n : Nat) (g : Nat → List UInt8) : Prop := ∃ A cap, sv = .slice A n cap ∧ (0 < n → ∃ b o, A = some ⟨b, o, none⟩ ∧ b < n₀ ∧ ∀ j, j < n → W.cell? ⟨b, o + j, none⟩ = some (encStr (g j)))
theorem Strs.below {n₀ : Nat} {A B : World} (h : Below n₀ A B) {sv : Value} {n : Nat} {g : Nat → List UInt8} : Strs n₀ A sv n g → Strs n₀ B sv n g
  | ⟨a, cap, e, hs⟩ => ⟨a, cap, e, fun hn => by
    obtain ⟨b, o, e1, hb, hc⟩ := hs hn
    exact ⟨b, o, e1, hb, fun j hj => (h.cell (p := ⟨b, o + j, none⟩) hb).trans (hc j hj)⟩⟩
theorem values_stops (F : Fence) (n : Nat) (h7 : F.fn 174) (hro : F.round = none) (hn : 1 ≤ n) (Bs Os n₀ : Nat) (sv : Value) (m : Nat) (g : Nat → List UInt8) (hreach : m * 16 ≤ 140737488351232) (w : World) (hBs : Bs < w.heap.size) (hn₀ : n₀ ≤ w.heap.size)
    (hc : w.cell? ⟨Bs, Os, none⟩ = some sv) (hI : Strs n₀ w sv m g) :
    SeqStopsK F n Tryz.prog 174 #[.pointer (some ⟨Bs, Os, none⟩)] (fun x : List UInt8 => #[encStr x]) (Below n₀) (fun ys => ys = comeU g m) (fun pre => ∃ k, k ≤ m ∧ pre = comeU g k) m w := fun l J Jx W hW _ _ hY h0 => by
  have hc' := (hW.cell (p := ⟨Bs, Os, none⟩) hBs).trans hc
  obtain ⟨A, cap, rfl, hs⟩ := hI.below (hW.mono hn₀)
  by_cases hm : 0 < m
  · obtain ⟨b, o, rfl, hb, hcs⟩ := hs hm
    exact values1_in F n h7 hro hn l Bs Os n₀ b o m cap g hreach hb J Jx hY W hc' hcs h0
  · obtain rfl : m = 0 := by omega
    exact (values1_nil_in F n h7 hro l Bs Os J W A cap hc' h0).mono fun e W' ⟨he, hj⟩ => ⟨he, .inl ⟨_, rfl, hj⟩⟩
end Go.Proofs.YtpifoghhaohhaaaGreatDoor
namespace Go.Proofs.YtpifoghhaohhaaaGreatDoor
open Go.RowKit Go.Shelf Go.Sort
attribute [local go_sem] Oper.semAt_some
set_option maxRecDepth 100000 in
set_option maxHeartbeats 2000000 in
theorem appendSeq_in (F : Fence) (n : Nat) (hA : F.fn 223) (h7 : F.fn 174) (hro : F.round = none) (hn : 2 ≤ n) (Bs Os m : Nat) (sv : Value) (g : Nat → List UInt8) (hreach : m * 16 ≤ 140737488351232) (w : World) (hBs : Bs < w.heap.size) (hc : w.cell? ⟨Bs, Os, none⟩ = some sv) (hI : Strs w.heap.size w sv m g) :
    CallsIn F n Tryz.prog 223 #[.slice none 0 0, .func (.func 174) #[] #[.pointer (some ⟨Bs, Os, none⟩)]] w fun e w' => ∃ v, e = .returned v ∧ w'.ownsRow w.heap.size 9 1 v m ((comeU g m).map encStr) ∧ Below w.heap.size w w' := by
  have h1 : 1 ≤ n := by omega
  obtain ⟨i0, hi, hz0, hz1, hz2⟩ := info_parts (P := Tryz.prog) (e := 9) (z := .string ⟨#[]⟩) (size := 1) (bytes := 16) (by kernel_rfl)
  refine callsIn_of_wp_marks Tryz.func223 rfl hA ?_ hro
  simp only [Tryz.ntmps223, List.size_toArray, List.length_cons, List.length_nil, Nat.reduceAdd, Nat.reduceSub, Array.replicate_succ, Array.replicate_zero, List.push_toArray, List.append_toArray, List.nil_append, List.cons_append]
  gi_wp2
  have bO := Boxed.new w 26 (.slice none 0 0)
  have hB0 : Below w.heap.size w (w.alloc (.cells #[.slice none 0 0] 26)) := (Below.refl _ w).alloc (Nat.le_refl _) _
  refine wpIn_rangeFunc_ownG hro h1 (gf := 174) (lb := #[.pointer (some ⟨Bs, Os, none⟩)]) rfl h7 (enters_of Tryz.func174 (by kernel_rfl) rfl)
    (values_stops F (n - 1) h7 hro (by omega) Bs Os w.heap.size sv m g hreach _ (by simp; omega) (by simp) ((hB0.cell (p := ⟨Bs, Os, none⟩) hBs).trans hc) (hI.below hB0)) belowK_t (belowK_b (by simp)) (Below.refl _ _) (fun _ => rfl)
    (fun (pre : List (List UInt8)) W => (∃ v, Boxed W w.heap.size 26 v ∧ W.ownsRow w.heap.size 9 1 v pre.length (pre.map encStr) ∧ True) ∧ Below w.heap.size w W)
    (fun _ _ _ => False)
    (OwnFrom.and (Own.from (holdsRow_own w.heap.size w.heap.size 26 9 1 (fun pre : List (List UInt8) => pre.length) (fun pre => pre.map encStr) (fun _ _ => True)) _) (ownFrom_below (Nat.le_refl _) (by simp)))
    (fun _ _ _ _ _ hs _ _ => hs)
    ⟨⟨_, bO, World.ownsRow_nil _ _ _ _, trivial⟩, hB0⟩
    (fun x => { tmps := #[.slice none 0 0, .func (.func 174) #[] #[.pointer (some ⟨Bs, Os, none⟩)], .pointer (some ⟨w.heap.size, 0, none⟩), undef, .slice none 0 0, encStr x, .func (.func 174) #[] #[.pointer (some ⟨Bs, Os, none⟩)], encStr x, undef, undef, undef, undef, undef], defers := [] }) ?assign ?body ?done ?stop
  case assign =>
    intro l x W K hK
    gi_wp2
    exact hK
  case body =>
    rintro l pre x W ⟨⟨v, hv, hrow, -⟩, hB⟩ hlt
    have hc := hv.cell
    have b1 : pre.length + 1 ≤ maxLen := by unfold maxLen; omega
    have b2 : (pre.length + 1) * 16 ≤ 140737488355328 := by omega
    have b3 : w.heap.size ≤ (W.alloc (.cells #[encStr x] 9)).heap.size := by have := hB.size; simp; omega
    have hu := Tryz.underlying26
    have h1c : ∀ u ∈ [encStr x], u.oneCell' = true := by simp [Value.oneCell', encStr]
    gi_wp2_with (gi_at_builtin; refine wpListIn_append_own _ rfl _ _ 26 rfl w.heap.size 9 i0 (.string ⟨#[]⟩) 1 16 hu hi hz0 hz1 hz2 rfl (by decide) _ _ _ rfl (hrow.alloc _) ⟨W.heap.size, 0, none⟩ 1 1 [encStr x] rfl rfl (cell_one_new _ _ _) h1c b1 b2 b3 ?_; intro v' w1 hown' hgrow _; obtain ⟨g', cap', rfl⟩ := ownsRow_succ hown'; obtain ⟨hv1, hv2, hr2, hk2, hb2⟩ := hv.appended (by decide) hrow hB.size (Nat.le_refl _) hown' hgrow; have hc1 := hv1.cell; have hf1 := hv1.frozen)
    exact ⟨hk2.from _, hb2, ⟨_, hv2, by simpa using hr2, trivial⟩, hB.trans hb2⟩
  case done =>
    rintro D ys W hD rfl ⟨⟨v, hv, hrow, -⟩, hB⟩ hK
    have hc := hv.cell
    gi_wp2
    refine ⟨by simp, .inl ⟨_, _, rfl, run_takeDeferred hK, ?_⟩⟩
    rw [comeU_length] at hrow
    exact ⟨_, results_tmp rfl _ _ _, v, rfl, ownsRow_putObj hrow _ hK rfl, hB.trans (belowK_b (w := w) (Nat.le_refl _) W D _ _ (by simp at hD; omega) hK rfl rfl)⟩
  case stop =>
    rintro D c pre W _ _ h _
    exact h.elim
end Go.Proofs.YtpifoghhaohhaaaGreatDoor
namespace Go.Proofs.YtpifoghhaohhaaaGreatDoor
open Go.RowKit Go.Shelf Go.Sort
attribute [local go_sem] Oper.semAt_some
set_option maxHeartbeats 1000000 in
theorem collect_in (F : Fence) (n : Nat) (hC : F.fn 172) (hA : F.fn 223) (h7 : F.fn 174) (hro : F.round = none) (hn : 3 ≤ n) (Bs Os m : Nat) (sv : Value) (g : Nat → List UInt8) (hreach : m * 16 ≤ 140737488351232) (w : World) (hBs : Bs < w.heap.size) (hc : w.cell? ⟨Bs, Os, none⟩ = some sv) (hI : Strs w.heap.size w sv m g) :
    CallsIn F n Tryz.prog 172 #[.func (.func 174) #[] #[.pointer (some ⟨Bs, Os, none⟩)]] w fun e w' => ∃ v, e = .returned v ∧ w'.ownsRow w.heap.size 9 1 v m ((comeU g m).map encStr) ∧ Below w.heap.size w w' := by
  have h1 : 1 ≤ n := by omega
  refine callsIn_of_wp Tryz.func172 rfl hC ?_ hro
  simp only [Tryz.ntmps172, List.size_toArray, List.length_cons, List.length_nil, Nat.reduceAdd, Nat.reduceSub, Array.replicate_succ, Array.replicate_zero, List.push_toArray, List.append_toArray, List.nil_append, List.cons_append]
  gi_wp2_with (gi_at_call 223; refine (appendSeq_in F (n - 1) hA h7 hro (by omega) Bs Os m sv g hreach _ hBs hc hI).mono ?_; rintro e w' ⟨v, rfl, hrow, hb⟩)
  go_ret
  exact ⟨v, rfl, hrow, hb⟩
end Go.Proofs.YtpifoghhaohhaaaGreatDoor
namespace Go.Proofs.YtpifoghhaohhaaaGreatDoor
open Go.RowKit Go.Shelf Go.Sort
def sortS (l : List (List UInt8)) : List (List UInt8) := l.mergeSort fun x y => decide (x ≤ y)
theorem sortS_perm (l : List (List UInt8)) : (sortS l).Perm l := List.mergeSort_perm _ _
theorem sortS_len (l : List (List UInt8)) : (sortS l).length = l.length := (sortS_perm l).length_eq
theorem sortS_c (ix : Nat) (l : List (List UInt8)) (nid : Nat) (hpos : 0 < l.length) (hl : l.length < 4611686018427387904) :
    ACall Tryz.prog 173 [.sl ix 0 l.length] [(ix, arrS l)] nid (.tup []) [(ix, arrS (sortS l))] :=
  acall_sortedS (T := 9) ix nid Tryz.func173 (by kernel_rfl) (by kernel_rfl) (by decide) hpos (sortS_len l) (fun w blk off cap hH hblk => by
    have h := Any.slices_Sort_string Tryz.lays190 blk off cap l w hH hblk hl
    have hf : Tryz.lays190_ren.f 190 = 173 := by kernel_rfl
    rw [hf] at h
    exact h)
theorem getD_ltS {s : List (List UInt8)} {i : Nat} (h : i < s.length) : s.getD i [] = s[i] := by
  simp [List.getD_eq_getElem?_getD, h]
def adjOk (s : List (List UInt8)) : Prop := ∀ i, i + 1 < s.length → s.getD (i + 1) [] ≠ s.getD i []
theorem sortS_le (l : List (List UInt8)) : (sortS l).Pairwise fun a b => a ≤ b := by
  have h := List.pairwise_mergeSort (le := fun x y : List UInt8 => decide (x ≤ y)) (fun a b c h1 h2 => by
      simp only [decide_eq_true_eq] at *
      exact List.le_trans h1 h2) (fun a b => by
      simp only [Bool.or_eq_true, decide_eq_true_eq]
      exact List.le_total a b) l
  exact h.imp fun h => by simpa using h
theorem sortS_nodup (l : List (List UInt8)) : adjOk (sortS l) ↔ l.Nodup := by
  rw [← (sortS_perm l).nodup_iff]
  constructor
  · intro h
    have hs := List.pairwise_iff_getElem.1 (sortS_le l)
    rw [List.nodup_iff_pairwise_ne, List.pairwise_iff_getElem]
    intro i j hi hj hij e
    have h1 := h i (by omega)
    rw [getD_ltS (by omega), getD_ltS hi] at h1
    apply h1
    have a1 := hs i (i + 1) hi (by omega) (by omega)
    by_cases hji : j = i + 1
    · subst hji; exact e.symm
    · have a2 := hs (i + 1) j (by omega) hj (by omega)
      rw [← e] at a2
      exact List.le_antisymm a2 a1
  · intro h i hi
    rw [List.nodup_iff_pairwise_ne, List.pairwise_iff_getElem] at h
    rw [getD_ltS hi, getD_ltS (by omega)]
    exact fun e => h i (i + 1) (by omega) hi (by omega) e.symm
set_option maxHeartbeats 4000000 in
theorem compact_no (ix : Nat) (l : List (List UInt8)) (nid : Nat) (h : ix < nid) (hl : l.length ≤ 1000000) (ha : adjOk l) : ACall Tryz.prog 77 [.sl ix 0 l.length] [(ix, arrS l)] nid (.sl ix 0 l.length) [(ix, arrS l)] := by
  obtain ⟨e1, e2, e3, e4, e5, e6, e7, e8, e9⟩ := id_all h
  refine acall_run c77 (by simp [a77]) ?_
  unfold arrS
  simp -dsimp only [a77, aqT, aqU, aqN, aqS, ↓seqK, ↓blkK, ↓loopK, step, stepBin, Nat.add_assoc nid, ↓reduceIte, Option.toList, ← Int.ofNat_tmod, ← Int.ofNat_tdiv, simprocAttr, BEq.rfl, LN_succ, e1, e2, e3, e4, e5, e6, e7, e8, e9]
  refine S2.dec (fun h3 => ?_) (fun h3 => ?_) <;> simp -dsimp only [aqT, aqU, aqN, aqS, ↓seqK, ↓blkK, ↓loopK, step, stepBin, Nat.add_assoc nid, ↓reduceIte, Option.toList, ← Int.ofNat_tmod, ← Int.ofNat_tdiv, simprocAttr, BEq.rfl, LN_succ, e1, e2, e3, e4, e5, e6, e7, e8, e9]
  · refine RetOK.go [] [] (.inl rfl) ?_
    simp [a77, cvT, step, res, e1, e2, e3, e4, e5, e6, e7, e8, e9, arrS, -List.getD_eq_getElem?_getD]
  refine LP.mkP (fun k : Nat => 1 ≤ k ∧ k ≤ l.length) (fun k : Nat => ⟨[(3, .int .i64 k), (0, .sl ix 0 l.length)], [(ix, arrS l)], nid + 100, nid⟩) (fun k => l.length + 1 - k) 1 ⟨by omega, by omega⟩ (Cov.go [] [] ?_) (fun k hk => ?_)
  · simp [cvT, step, res, e1, e2, e3, e4, e5, e6, e7, e8, e9, arrS]
  obtain ⟨hk0, hk⟩ := hk
  unfold arrS
  simp -dsimp only [aqT, aqU, aqN, aqS, ↓seqK, ↓blkK, ↓loopK, step, stepBin, Nat.add_assoc nid, ↓reduceIte, Option.toList, ← Int.ofNat_tmod, ← Int.ofNat_tdiv, simprocAttr, BEq.rfl, LN_succ, e1, e2, e3, e4, e5, e6, e7, e8, e9]
  refine S2.dec (fun h4 => ?_) (fun h4 => ?_) <;> simp -dsimp only [aqT, aqU, aqN, aqS, ↓seqK, ↓blkK, ↓loopK, step, stepBin, Nat.add_assoc nid, ↓reduceIte, Option.toList, ← Int.ofNat_tmod, ← Int.ofNat_tdiv, simprocAttr, BEq.rfl, LN_succ, e1, e2, e3, e4, e5, e6, e7, e8, e9]
  · have hkl : k < l.length := by omega
    have e : ((k : Nat) : Int) - 1 = ((k - 1 : Nat) : Int) := by omega
    have hne := ha (k - 1) (by omega)
    rw [show k - 1 + 1 = k by omega] at hne
    have hf : (l.getD k [] == l.getD (k - 1) []) = false := by simpa using hne
    rw [e]
    refine ⟨by omega, by unfold inI64; omega, by omega, ?_⟩
    rw [Int.toNat_natCast, hf]
    simp -dsimp only [aqT, aqU, aqN, aqS, ↓seqK, ↓blkK, ↓loopK, step, stepBin, Nat.add_assoc nid, ↓reduceIte, Option.toList, ← Int.ofNat_tmod, ← Int.ofNat_tdiv, simprocAttr, BEq.rfl, LN_succ, e1, e2, e3, e4, e5, e6, e7, e8, e9]
    refine ⟨by unfold inI64; omega, k + 1, ⟨⟨by omega, by omega⟩, by omega⟩, Cov.go [] [] ?_⟩
    simp [cvT, step, res, e1, e2, e3, e4, e5, e6, e7, e8, e9, arrS, -List.getD_eq_getElem?_getD]
  · refine RetOK.go [] [] (.inl rfl) ?_
    simp [a77, cvT, step, res, e1, e2, e3, e4, e5, e6, e7, e8, e9, arrS, -List.getD_eq_getElem?_getD]
end Go.Proofs.YtpifoghhaohhaaaGreatDoor
namespace Go.Proofs.YtpifoghhaohhaaaGreatDoor
open Go.RowKit Go.Shelf Go.Sort
theorem acall_own {P : Program} {f : Nat} {fn : Func} {args : List PV} {T n : Nat} {cols : List Col} (nid : Nat) (xs : List Value) (hf : P.funcs[f]? = some fn) (h1 : (fn.name == "runtime.NumGoroutine") = false) (h2 : fn.body.isNone = false)
    (h1c : ∀ v ∈ xs, v.oneCell' = true) (hc : ∀ (i j : Nat) c, i < n → cols[j]? = some c → ∃ v, xs[i * cols.length + j]? = some v ∧ ∀ Y w, ColRep Y w c i v)
    (h : ∀ (Y : Nat → Prop) (m : Names) (w : World) (vs : List Value), vs.length = args.length → (∀ (i : Nat) p v, args[i]? = some p → vs[i]? = some v → Rep Y m w p v) → GW w → (∀ b, Y b → b < w.heap.size) →
      Calls P f vs.toArray w fun e w' => ∃ v, e = .returned v ∧ w'.ownsRow w.heap.size T cols.length v n xs ∧ Below w.heap.size w w') : ACall P f args [] nid (.sl nid 0 n) [(nid, some (.arr T n cols))] := by
  intro C vs hb hl hrep hs
  refine .inl ⟨fn, hf, h1, h2, (h C.Y0 C.m0 C.w0 vs hl hrep (GW.of hs.gl) hs.ylt).mono fun e w' ⟨v, he, hown, hB⟩ => ⟨v, he, ?_⟩⟩
  have hg : C.w0.grownBy w' none := ⟨hB.os, hB.tape, hB.output, hB.size, fun k hk _ => hB.block k hk⟩
  obtain ⟨A, cap, rfl, hA⟩ : ∃ A cap, v = .slice A n cap ∧ ∀ g, ablk A = some g → C.w0.heap.size ≤ g := by
    rcases hown.2 with ⟨rfl, h0⟩ | ⟨g, cap, cur, rfl, hbase, _⟩
    · exact ⟨none, 0, by rw [h0], fun g hg => by cases hg⟩
    · exact ⟨_, cap, rfl, fun g' hg' => by simp [ablk] at hg'; omega⟩
  obtain ⟨Y', m', hr, hH, hev⟩ := HSF.newArr (next := nid) hs (fun id h _ => h) T n cap cols A 0 xs hg (fun g e => by cases e) (ownsAt.of hown) (.inr hA) h1c
    (fun m' _ i j c hi hc' => by obtain ⟨v, e1, e2⟩ := hc i j c hi hc'; exact ⟨v, e1, (e2 _ _).acr⟩) (fun _ => false) (fun id b pl _ hg => by simp [getH] at hg) [(nid, some (.arr T n cols))] (fun id => by
      by_cases e : id = nid
      · subst e; simp [getH]
      · have e1 : (nid == id) = false := by simpa using fun h => e h.symm
        simp only [getH, e1, cond_false, if_neg e, Bool.false_eq_true, if_false])
  exact ⟨Y', m', hr, by simpa using hH.mono (fun id hid => ⟨by omega, by omega⟩), hev⟩
theorem Ev.ofBelow {Y : Nat → Prop} {m : Names} {w w' : World} (hB : Below w.heap.size w w') : Ev Y m w Y m w' := ⟨hB.size, fun b hlt _ => hB.block b hlt, fun _ hY => .inl hY, fun _ _ e => e⟩
def boxSv (nl : Bool) (l : List (List UInt8)) : PV := .elp [.l (fun _ => nl) (fun _ => l.length) (fun _ => [.s fun i => l.getD i []])] 0
theorem comeU_getD (l : List (List UInt8)) : comeU (fun i => l.getD i []) l.length = l := by
  apply List.ext_getElem
  · simp [comeU]
  · intro i h1 h2
    simp [comeU, h2]
set_option maxHeartbeats 1000000 in
theorem values_in (F : Fence) (n : Nat) (h5 : F.fn 79) (hro : F.round = none) (a : Option Addr) (len cap : Nat) (w : World) :
    CallsIn F n Tryz.prog 79 #[.slice a len cap] w fun e w' => e = .returned (.func (.func 174) #[] #[.pointer (some ⟨w.heap.size, 0, none⟩)]) ∧ w' = w.alloc (.cells #[.slice a len cap] 26) := by
  refine callsIn_of_wp Tryz.func79 rfl h5 ?_ hro
  simp only [Tryz.ntmps79, List.size_toArray, List.length_cons, List.length_nil, Nat.reduceAdd, Nat.reduceSub, Array.replicate_succ, Array.replicate_zero, List.push_toArray, List.append_toArray, List.nil_append, List.cons_append]
  gi_wp2
  go_ret
  exact ⟨rfl, rfl⟩
theorem values_c (nl : Bool) (l : List (List UInt8)) (nid : Nat) : ACall Tryz.prog 79 [litS nl l] [] nid (.fn 174 [boxSv nl l]) [] :=
  acall_lib nid Tryz.func79 (by kernel_rfl) (by kernel_rfl) (fun Y m w vs hvl hrep hG hY => by
    obtain ⟨v0, rfl⟩ : ∃ v0, vs = [v0] := by
      match vs, hvl with
      | [a], _ => exact ⟨a, rfl⟩
    have r0 := hrep 0 _ _ rfl rfl
    unfold litS at r0
    cases r0 with
    | lit hcr =>
      obtain ⟨A, cap, rfl⟩ : ∃ A cap, v0 = .slice A l.length cap := by cases hcr; exact ⟨_, _, rfl⟩
      rw [← callsIn_wide (n := 1)]
      refine (values_in Fence.wide 1 trivial rfl A l.length cap w).mono ?_
      rintro e w' ⟨rfl, rfl⟩
      have hB : Below w.heap.size w (w.alloc (.cells #[.slice A l.length cap] 26)) := (Below.refl _ w).alloc (Nat.le_refl _) _
      refine ⟨_, rfl, ?_, hB⟩
      refine Rep.fn (vs := [.pointer (some ⟨w.heap.size, 0, none⟩)]) rfl (fun i p v hp hv => ?_)
      match i, hp, hv with
      | 0, hp, hv =>
        injection hp with hp; injection hv with hv
        subst hp; subst hv
        refine Rep.elp (fun _ hYb => absurd (hY _ hYb) (Nat.lt_irrefl _)) (fun _ => .slice A l.length cap) (fun j c hj => ?_)
        match j, hj with
        | 0, hj =>
          injection hj with hj; subst hj
          exact ⟨by simp, hcr.ev (Ev.ofBelow (m := m) hB)⟩)
theorem collect_c (nl : Bool) (l : List (List UInt8)) (nid : Nat) (hl : l.length ≤ 1000000) : ACall Tryz.prog 172 [.fn 174 [boxSv nl l]] [] nid (.sl nid 0 l.length) [(nid, arrS l)] :=
  acall_own nid (l.map encStr) Tryz.func172 (by kernel_rfl) (by kernel_rfl) (fun v hv => by obtain ⟨x, _, rfl⟩ := List.mem_map.1 hv; rfl)
    (fun i j c hi hj => by
      match j, hj with
      | 0, hj =>
        injection hj with hj; subst hj
        refine ⟨encStr (l.getD i []), by simp [List.getElem?_eq_getElem hi], fun Y w => .s⟩)
    (fun Y m w vs hvl hrep hG hY => by
      obtain ⟨v0, rfl⟩ : ∃ v0, vs = [v0] := by
        match vs, hvl with
        | [a], _ => exact ⟨a, rfl⟩
      obtain ⟨us, rfl, hul, hur⟩ := (hrep 0 _ _ rfl rfl).fn_inv
      obtain ⟨u0, rfl⟩ : ∃ u0, us = [u0] := by
        match us, hul with
        | [a], _ => exact ⟨a, rfl⟩
      have r0 := hur 0 _ _ rfl rfl
      unfold boxSv at r0
      obtain ⟨b, o, u, rfl, hYb, hcr⟩ := r0.elp_inv
      obtain ⟨hcell, hrep1⟩ := hcr 0 _ rfl
      rw [Nat.add_zero] at hcell
      generalize u 0 = sv at hcell hrep1
      have hst : Strs w.heap.size w sv l.length (fun i => l.getD i []) := by
        have hr2 : Rep Y m w (.lit nl l.length [.s fun i => l.getD i []]) sv := .lit hrep1
        obtain ⟨A, cap, rfl, _, hs⟩ := hr2.strs_inv
        exact ⟨A, cap, rfl, fun hn => by
          obtain ⟨b, o, e, hb, hc⟩ := hs hn
          exact ⟨b, o, e, hb, hc⟩⟩
      rw [← callsIn_wide (n := 3)]
      have h := collect_in Fence.wide 3 trivial trivial trivial rfl (by omega) b o l.length sv (fun i => l.getD i []) (by omega) w (World.block_lt_of_cell? w _ hcell) hcell hst
      rw [comeU_getD] at h
      exact h)
theorem sorted_c (nl : Bool) (l : List (List UInt8)) (nid : Nat) (h0 : 0 < l.length) (hl : l.length ≤ 1000000) : ACall Tryz.prog 78 [.fn 174 [boxSv nl l]] [] nid (.sl nid 0 l.length) [(nid, arrS (sortS l))] := by
  have hsl := sortS_len l
  refine acall_run c78 (by simp [a78]) ?_
  simp -dsimp only [aqT, aqU, aqN, aqS, ↓seqK, ↓blkK, ↓loopK, step, stepBin, Nat.add_assoc nid, ↓reduceIte, Option.toList, ← Int.ofNat_tmod, ← Int.ofNat_tdiv, simprocAttr, BEq.rfl, LN_succ, a78]
  refine CallO.pure (collect_c nl l _ hl) ?_
  simp -dsimp only [aqT, aqU, aqN, aqS, ↓seqK, ↓blkK, ↓loopK, step, stepBin, Nat.add_assoc nid, ↓reduceIte, Option.toList, ← Int.ofNat_tmod, ← Int.ofNat_tdiv, simprocAttr, BEq.rfl, LN_succ]
  refine CallO.on (sortS_c _ l _ h0 (by omega)) (subH_get (by simp only [aqT, aqU, aqN, aqS, ↓seqK, ↓blkK, ↓loopK, step, stepBin, Nat.add_assoc nid, ↓reduceIte, Option.toList, ← Int.ofNat_tmod, ← Int.ofNat_tdiv, simprocAttr, BEq.rfl, LN_succ])) ?_
  unfold arrS
  simp -dsimp only [aqT, aqU, aqN, aqS, ↓seqK, ↓blkK, ↓loopK, step, stepBin, Nat.add_assoc nid, ↓reduceIte, Option.toList, ← Int.ofNat_tmod, ← Int.ofNat_tdiv, simprocAttr, BEq.rfl, LN_succ]
  refine RetOK.go [(nid, nid + 8)] [] (.inl rfl) ?_
  simp [a78, cvT, step, res, arrS, hsl, -List.getD_eq_getElem?_getD]
end Go.Proofs.YtpifoghhaohhaaaGreatDoor
namespace Go.Proofs
open Go.Shelf
def Tryz.growS_ren : Go.Shelf.Ren := ⟨fun | 4 => 171 | n => n, fun | 22 => 26 | 25 => 9 | 3 => 3 | 4 => 4 | 9 => 9 | 20 => 20 | 0 => 0 | n => n, fun | n => n⟩
theorem Tryz.growS : Go.Proofs.Lays8.n4 Tryz.prog Tryz.growS_ren := {
  mixed := by kernel_rfl
  f4 := ⟨Tryz.f171.name, by decide, Tryz.func171.trans (congrArg some (by kernel_rfl))⟩
  t0 := Tryz.underlying0
  a0 := Tryz.isAgg0
  z0 := Tryz.sizeOf0
  v0 := Tryz.zeroValue0
  t3 := Tryz.underlying3
  a3 := Tryz.isAgg3
  z3 := Tryz.sizeOf3
  v3 := Tryz.zeroValue3
  t4 := Tryz.underlying4
  a4 := Tryz.isAgg4
  z4 := Tryz.sizeOf4
  v4 := Tryz.zeroValue4
  t9 := Tryz.underlying9
  a9 := Tryz.isAgg9
  z9 := Tryz.sizeOf9
  v9 := Tryz.zeroValue9
  t20 := Tryz.underlying20
  a20 := Tryz.isAgg20
  z20 := Tryz.sizeOf20
  v20 := Tryz.zeroValue20
  t22 := Tryz.underlying26
  a22 := Tryz.isAgg26
  z22 := Tryz.sizeOf26
  v22 := Tryz.zeroValue26 }
end Go.Proofs
namespace Go.Proofs.YtpifoghhaohhaaaGreatDoor
open Go.RowKit Go.Shelf Go.Sort
theorem growS_c (n nid : Nat) (hn : n ≤ 1000000000) : ACall Tryz.prog 171 [.lit true 0 [], .int .i64 (n : Nat)] [] nid (.sl nid 0 0) [(nid, some (.arr 9 0 [.s fun _ => []]))] :=
  acall_own nid [] Tryz.func171 (by kernel_rfl) (by kernel_rfl) (fun v hv => by cases hv) (fun i j c hi hj => absurd hi (Nat.not_lt_zero i))
    (fun Y m w vs hvl hrep hG hY => by
      obtain ⟨v0, v1, rfl⟩ : ∃ v0 v1, vs = [v0, v1] := by
        match vs, hvl with
        | [a, b], _ => exact ⟨a, b, rfl⟩
      obtain rfl : v1 = .int .i64 (n : Nat) := (hrep 1 _ _ rfl rfl).int_inv
      have r0 := hrep 0 _ _ rfl rfl
      obtain rfl : v0 = .slice none 0 0 := by
        cases r0 with
        | lit h =>
          cases h with
          | @l _ _ _ _ A cap u hnl hn0 hle hc hr =>
            cases A with
            | none => rw [(hn0 rfl).2]
            | some a => cases hnl
      have hf : Tryz.growS_ren.f 4 = 171 := by kernel_rfl
      have ht : Tryz.growS_ren.t 25 = 9 := by kernel_rfl
      obtain ⟨i0, hi, hz0, hz1, hz2⟩ := info_parts (P := Tryz.prog) (e := 9) (z := .string ⟨#[]⟩) (size := 1) (bytes := 16) (by kernel_rfl)
      by_cases h0 : n = 0
      · subst h0
        have h := Any8.slices_Grow_room Tryz.growS none 0 0 0 w (by omega) (by omega) (by omega) (by omega)
        rw [hf] at h
        refine h.mono ?_
        rintro e w' ⟨rfl, rfl⟩
        exact ⟨_, rfl, World.ownsRow_nil _ _ _ _, Below.refl _ _⟩
      · have h := Any8.slices_Grow_grow Tryz.growS i0 (.string ⟨#[]⟩) (by rw [ht]; exact hi) hz0 (by omega) none 0 0 n [] w (by omega) (by omega) (by rw [hz2]; omega) (by omega) (by simp) (fun _ => rfl) (fun a ha => by cases ha)
        rw [hf, ht] at h
        refine h.mono ?_
        rintro e w' ⟨rfl, rfl⟩
        refine ⟨_, rfl, ?_, ?_⟩
        · have hge := grownCap_ge w (0 + n) 0 9
          have hge2 := grownCap_ge w n 0 9
          refine ⟨rfl, .inr ⟨w.heap.size, _, _, rfl, Nat.le_refl _, by rw [show w.heap.size = w.drew.heap.size from rfl]; exact World.alloc_heap_new _ _, Nat.zero_le _, grownCap_le_maxLen _ _ _ _ (by unfold maxLen; omega), ?_, by simp⟩⟩
          simp only [Array.size_append, List.size_toArray, List.length_nil, Nat.mul_one]
          simp [Builtin.zeroCells, Value.cells]
          omega
        · exact ((Below.refl _ w).drew).alloc (Nat.le_refl _) _)
theorem getD_appL (l m : List (List UInt8)) : (fun i => if i < l.length then l.getD i [] else m.getD (i - l.length) []) = fun i => (l ++ m).getD i [] := by
  funext i
  rw [List.getD_eq_getElem?_getD, List.getD_eq_getElem?_getD, List.getD_eq_getElem?_getD, List.getElem?_append]
  split <;> rfl
def sumG (gs : List (List (List UInt8))) (k : Nat) : Nat := (gs.take k).flatten.length
theorem flat_succ (gs : List (List (List UInt8))) {k : Nat} (hk : k < gs.length) : (gs.take (k + 1)).flatten = (gs.take k).flatten ++ gs.getD k [] := by
  rw [List.take_add_one, List.flatten_append, List.getElem?_eq_getElem hk, List.getD_eq_getElem?_getD, List.getElem?_eq_getElem hk]
  simp
theorem sumG_succ (gs : List (List (List UInt8))) {k : Nat} (hk : k < gs.length) : sumG gs (k + 1) = sumG gs k + (gs.getD k []).length := by
  unfold sumG
  rw [flat_succ gs hk, List.length_append]
theorem sumG_le (gs : List (List (List UInt8))) (k : Nat) : sumG gs k ≤ gs.flatten.length := by
  have h : gs.flatten.length = sumG gs k + (gs.drop k).flatten.length := by
    unfold sumG
    rw [← List.length_append, ← List.flatten_append, List.take_append_drop]
  omega
set_option maxHeartbeats 2000000 in
theorem concat_c (nl : Bool) (gs : List (List (List UInt8))) (nid : Nat) (hg : gs.length ≤ 1000000) (hf : gs.flatten.length ≤ 1000000) :
    ACall Tryz.prog 76 [litG nl gs] [] nid (.sl nid 0 gs.flatten.length) [(nid, arrS gs.flatten)] := by
  refine acall_sr c76 (by simp [a76]) ?_
  unfold a76 litG
  refine SR.seq ?_
  simp -dsimp only [aqT, aqU, aqN, aqS, ↓seqK, ↓blkK, ↓loopK, step, stepBin, Nat.add_assoc nid, ↓reduceIte, Option.toList, ← Int.ofNat_tmod, ← Int.ofNat_tdiv, simprocAttr, BEq.rfl, LN_succ]
  refine SR.seq ?_
  simp -dsimp only [aqT, aqU, aqN, aqS, ↓seqK, ↓blkK, ↓loopK, step, stepBin, Nat.add_assoc nid, ↓reduceIte, Option.toList, ← Int.ofNat_tmod, ← Int.ofNat_tdiv, simprocAttr, BEq.rfl, LN_succ]
  refine SR.seqTo ⟨[(3, .int .i64 (sumG gs gs.length : Nat)), (0, litG nl gs)], [], nid + 200, nid⟩ ?_ ?_
  · simp -dsimp only [aqT, aqU, aqN, aqS, ↓seqK, ↓blkK, ↓loopK, step, stepBin, Nat.add_assoc nid, ↓reduceIte, Option.toList, ← Int.ofNat_tmod, ← Int.ofNat_tdiv, simprocAttr, BEq.rfl, LN_succ]
    refine LP.mkP (fun k : Nat => k ≤ gs.length) (fun k => ⟨[(11, .int .i64 k), (10, .int .i64 gs.length), (9, litG nl gs), (3, .int .i64 (sumG gs k : Nat)), (0, litG nl gs)], [], nid + 100, nid⟩) (fun k => gs.length + 1 - k) 0 (by omega) (Cov.go [] [] ?_) (fun k hk => ?_)
    · simp [cvT, step, res, litG, sumG, ColsEq.refl, -List.getD_eq_getElem?_getD]
    have hs := fun h => sumG_succ gs (k := k) h
    have hle := sumG_le gs (k + 1)
    unfold litG
    simp -dsimp only [aqT, aqU, aqN, aqS, ↓seqK, ↓blkK, ↓loopK, step, stepBin, Nat.add_assoc nid, ↓reduceIte, Option.toList, ← Int.ofNat_tmod, ← Int.ofNat_tdiv, simprocAttr, BEq.rfl, LN_succ]
    refine S2.dec (fun h3 => ?_) (fun h3 => ?_) <;> simp -dsimp only [aqT, aqU, aqN, aqS, ↓seqK, ↓blkK, ↓loopK, step, stepBin, Nat.add_assoc nid, ↓reduceIte, Option.toList, ← Int.ofNat_tmod, ← Int.ofNat_tdiv, simprocAttr, BEq.rfl, LN_succ]
    · have hkl : k < gs.length := by omega
      have hsk := hs hkl
      refine ⟨by omega, by unfold inI64; omega, ?_⟩
      refine S2.dec (fun h4 => by omega) (fun h4 => ?_)
      simp -dsimp only [aqT, aqU, aqN, aqS, ↓seqK, ↓blkK, ↓loopK, step, stepBin, Nat.add_assoc nid, ↓reduceIte, Option.toList, ← Int.ofNat_tmod, ← Int.ofNat_tdiv, simprocAttr, BEq.rfl, LN_succ]
      refine ⟨by unfold inI64; omega, k + 1, ⟨by omega, by omega⟩, Cov.go [] [] ?_⟩
      simp [cvT, step, res, litG, hsk, ColsEq.refl, -List.getD_eq_getElem?_getD]
    · obtain rfl : k = gs.length := by omega
      refine Cov.go [] [] ?_
      simp [cvT, step, res, litG, ColsEq.refl, -List.getD_eq_getElem?_getD]
  have hall : sumG gs gs.length = gs.flatten.length := by unfold sumG; rw [List.take_length]
  rw [hall]
  unfold litG
  refine SR.seqTo ⟨[(6, .sl (nid + 8) 0 0), (0, litG nl gs)], [(nid + 8, arrS [])], nid + 300, nid⟩ ?_ ?_
  · simp -dsimp only [aqT, aqU, aqN, aqS, ↓seqK, ↓blkK, ↓loopK, step, stepBin, Nat.add_assoc nid, ↓reduceIte, Option.toList, ← Int.ofNat_tmod, ← Int.ofNat_tdiv, simprocAttr, BEq.rfl, LN_succ]
    refine CallO.pure (growS_c _ _ (by omega)) ?_
    simp -dsimp only [aqT, aqU, aqN, aqS, ↓seqK, ↓blkK, ↓loopK, step, stepBin, Nat.add_assoc nid, ↓reduceIte, Option.toList, ← Int.ofNat_tmod, ← Int.ofNat_tdiv, simprocAttr, BEq.rfl, LN_succ]
    refine Cov.go [(nid + 8, nid + 204)] [] ?_
    simp [cvT, step, res, litG, arrS, ColsEq.refl, -List.getD_eq_getElem?_getD]
  unfold litG
  refine SR.seqTo ⟨[(6, .sl (nid + 8) 0 gs.flatten.length)], [(nid + 8, arrS gs.flatten)], nid + 600, nid⟩ ?_ ?_
  · simp -dsimp only [aqT, aqU, aqN, aqS, ↓seqK, ↓blkK, ↓loopK, step, stepBin, Nat.add_assoc nid, ↓reduceIte, Option.toList, ← Int.ofNat_tmod, ← Int.ofNat_tdiv, simprocAttr, BEq.rfl, LN_succ]
    refine LP.mkP (fun k : Nat => k ≤ gs.length) (fun k => ⟨[(27, .int .i64 k), (26, .int .i64 gs.length), (25, litG nl gs), (6, .sl (nid + 8) 0 (gs.take k).flatten.length)], [(nid + 8, arrS (gs.take k).flatten)], nid + 400, nid⟩) (fun k => gs.length + 1 - k) 0 (by omega) (Cov.go [] [] ?_) (fun k hk => ?_)
    · simp [cvT, step, res, litG, arrS, ColsEq.refl, -List.getD_eq_getElem?_getD]
    have hs := fun h => flat_succ gs (k := k) h
    have hle := sumG_le gs (k + 1)
    have hle0 := sumG_le gs k
    unfold sumG at hle hle0
    have hend : k = gs.length → (gs.take k).flatten = gs.flatten := fun e => by rw [e, List.take_length]
    generalize (gs.take k).flatten = L at *
    unfold litG arrS
    simp -dsimp only [aqT, aqU, aqN, aqS, ↓seqK, ↓blkK, ↓loopK, step, stepBin, Nat.add_assoc nid, ↓reduceIte, Option.toList, ← Int.ofNat_tmod, ← Int.ofNat_tdiv, simprocAttr, BEq.rfl, LN_succ]
    refine S2.dec (fun h3 => ?_) (fun h3 => ?_) <;> simp -dsimp only [aqT, aqU, aqN, aqS, ↓seqK, ↓blkK, ↓loopK, step, stepBin, Nat.add_assoc nid, ↓reduceIte, Option.toList, ← Int.ofNat_tmod, ← Int.ofNat_tdiv, simprocAttr, BEq.rfl, LN_succ]
    · have hkl : k < gs.length := by omega
      have hsk := hs hkl
      rw [hsk, List.length_append] at hle
      rw [getD_appL]
      refine ⟨by omega, ⟨by omega, by omega⟩, by unfold inI64; omega, k + 1, ⟨by omega, by omega⟩, Cov.go [(nid + 8, nid + 424)] [] ?_⟩
      rw [hsk]
      simp [cvT, step, res, litG, arrS, ColsEq.refl, -List.getD_eq_getElem?_getD]
    · rw [← hend (by omega)]
      refine Cov.go [] [] ?_
      simp [cvT, step, res, arrS, ColsEq.refl, -List.getD_eq_getElem?_getD]
  · refine SR.run (t := .mk) ?_
    unfold arrS
    simp -dsimp only [aqT, aqU, aqN, aqS, ↓seqK, ↓blkK, ↓loopK, step, stepBin, Nat.add_assoc nid, ↓reduceIte, Option.toList, ← Int.ofNat_tmod, ← Int.ofNat_tdiv, simprocAttr, BEq.rfl, LN_succ]
    refine RetOK.go [(nid, nid + 8)] [] (.inl rfl) ?_
    simp [a76, cvT, step, res, arrS, ColsEq.refl, -List.getD_eq_getElem?_getD]
end Go.Proofs.YtpifoghhaohhaaaGreatDoor
