/-
  Dictionaries that the stream makes, by the abstract machine.
-/
import Derived.Test.YtpifoghhaohhaaaGreatDoorKDK5
import Derived.Test.YtpifoghhaohhaaaGreatDoorKDK3
import Derived.Lib.Bytealg
import Derived.Laws.Externs
import Derived.Test.YtpifoghhaohhaaaGreatDoorProg
import Derived.WalkKit
import Derived.Ground.NamesProg
import Derived.Shelf.Strings.OnBuilder
import Derived.Test.YtpifoghhaohhaaaGreatDoorKDK4
import Derived.Shelf.Strings.Split
import Derived.Shelf.Strings.Cut
import Derived.Lib.IndexBytes
import Derived.Lib.Agree
set_option linter.unusedVariables false
set_option linter.unusedSimpArgs false
set_option maxRecDepth 100000
namespace Go.Proofs.YtpifoghhaohhaaaGreatDoor
open Go.RowKit Go.Shelf Go.Lib
set_option maxHeartbeats 8000000 in
theorem dict_I (s nid : Nat) (nl : Bool) (A : List Int) (p faults tests : Nat) (h : s < nid) (hp : p ≤ 1099500000000) (hA : A.length ≤ 17592186044416) (hf : faults ≤ 7) (ht1 : 1 ≤ tests) (ht : tests ≤ 6) :
    ACallI Tryz.prog 14 [.ptr s 0, .int .i64 (faults : Nat), .int .i64 (tests : Nat)] [(s, strmC nl A p)] nid (fun x : DictX => DictB tests x.G x.R ∧ x.q ≤ p + 1000) (fun x => dictP x.g0 x.r0 x.b x.G x.R) (fun x => [(s, strmC nl A x.q)]) := by
  obtain ⟨e1, e2, e3, e4, e5, e6, e7, e8, e9⟩ := id_all h
  refine acallI_sr c14 (by simp [a14]) ?_
  unfold a14
  refine SR.seq ?_
  simp -dsimp only [aqT, aqU, aqN, aqS, ↓seqK, ↓blkK, ↓loopK, step, stepBin, Nat.add_assoc nid, ↓reduceIte, Option.toList, ← Int.ofNat_tmod, ← Int.ofNat_tdiv, simprocAttr, BEq.rfl, LN_succ, e1, e2, e3, e4, e5, e6, e7, e8, e9]
  refine SR.seq ?_
  simp -dsimp only [aqT, aqU, aqN, aqS, ↓seqK, ↓blkK, ↓loopK, step, stepBin, Nat.add_assoc nid, ↓reduceIte, Option.toList, ← Int.ofNat_tmod, ← Int.ofNat_tdiv, simprocAttr, BEq.rfl, LN_succ, e1, e2, e3, e4, e5, e6, e7, e8, e9]
  refine SR.seq ?_
  simp -dsimp only [aqT, aqU, aqN, aqS, ↓seqK, ↓blkK, ↓loopK, step, stepBin, Nat.add_assoc nid, ↓reduceIte, Option.toList, ← Int.ofNat_tmod, ← Int.ofNat_tdiv, simprocAttr, BEq.rfl, LN_succ, e1, e2, e3, e4, e5, e6, e7, e8, e9]
  have hmd := rangeV_bd A p (lo := 1) (hi := (tests : Int)) (by omega)
  obtain ⟨m, hm⟩ : ∃ m : Nat, rangeV A p 1 tests = m := ⟨_, (Int.toNat_of_nonneg (by omega)).symm⟩
  refine SR.seqW (ι := {G : List (List UInt8) // G.length = m ∧ ShortRows 2 G}) (fun G => ⟨[(8, .fn 82 [.ptr nid 0]), (7, .ptr (nid + 8) 0), (6, .ptr (nid + 4) 0), (3, .ptr nid 0), (1, .int .i64 (faults : Nat))], [(nid, boxP s), (nid + 4, some (.box 29 [.lit true 0 [], .lit true 0 []])), (nid + 8, some (.box 29 [.sl (nid + 20) 0 G.1.length, .lit true 0 []])), (nid + 20, arrS G.1), (s, strmC nl A (p + 1 + m))], nid + 1000, nid⟩) ?_ (fun ⟨G, hG1, hG2⟩ => ?_)
  · refine SR.seqTo ⟨[(17, .int .i64 0), (16, .int .i64 (m : Nat)), (8, .fn 82 [.ptr nid 0]), (7, .ptr (nid + 8) 0), (6, .ptr (nid + 4) 0), (3, .ptr nid 0), (1, .int .i64 (faults : Nat))], [(nid, boxP s), (nid + 4, some (.box 29 [.lit true 0 [], .lit true 0 []])), (nid + 8, some (.box 29 [.lit true 0 [], .lit true 0 []])), (s, strmC nl A (p + 1))], nid + 100, nid⟩ ?_ ?_
    · simp -dsimp only [aqT, aqU, aqN, ↓seqK, ↓blkK, ↓loopK, step, stepBin, Nat.reduceBEq, Nat.reduceBeqDiff, Nat.add_assoc nid, Nat.reduceAdd, reduceCtorEq, ↓reduceIte, Nat.reduceLeDiff, Nat.reduceBneDiff, Option.toList, ← Int.ofNat_tmod, ← Int.ofNat_tdiv, Nat.reduceLT, e1, e2, e3, e4, e5, e6, e7, e8, e9]
      refine CallO.on (range_c s _ nl A p 1 tests (by omega) (by omega) hA (by omega) (by omega) (by omega)) (subH_get (by simp only [aqT, aqU, aqN, ↓seqK, ↓blkK, ↓loopK, step, stepBin, Nat.reduceBEq, Nat.reduceBeqDiff, Nat.add_assoc nid, Nat.reduceAdd, reduceCtorEq, ↓reduceIte, Nat.reduceLeDiff, Nat.reduceBneDiff, Option.toList, ← Int.ofNat_tmod, ← Int.ofNat_tdiv, Nat.reduceLT, e1, e2, e3, e4, e5, e6, e7, e8, e9])) ?_
      rw [hm]
      simp -dsimp only [aqT, aqU, aqN, ↓seqK, ↓blkK, ↓loopK, step, stepBin, Nat.reduceBEq, Nat.reduceBeqDiff, Nat.add_assoc nid, Nat.reduceAdd, reduceCtorEq, ↓reduceIte, Nat.reduceLeDiff, Nat.reduceBneDiff, Option.toList, ← Int.ofNat_tmod, ← Int.ofNat_tdiv, Nat.reduceLT, e1, e2, e3, e4, e5, e6, e7, e8, e9, strmC_low]
      refine Cov.go [] [] ?_
      simp [retPV, over, keys, List.map_nil, List.map_cons, List.contains_cons, List.contains_nil, Bool.or_false, Bool.or_true, Bool.true_or, Bool.false_or, beq_self_eq_true, cond_true, cond_false, HeapCov, orNil, nilSz, onBlk, srcOf, getH_hit, getH_miss, getH.eq_1, getS_hit, getS_miss, getS.eq_1, BlkCov, PVCovs, PVCov, ColsEq, AColsEq, ACEq, ColEq.refl, liveIds, SlotsCov, List.all_nil, List.all_cons, List.any_nil, List.any_cons, List.nil_append, List.cons_append, inRange, apart, nilBlk, idS1, idS2, readAll, readRes, onAll, step, res, AX.val, List.drop_zero, List.drop_succ_cons, List.take_succ_cons, List.take_zero, e1, e2, e3, e4, e5, e6, e7, e8, e9, boxP, strmC]
    refine SR.run (t := .mk) ?_
    unfold boxP
    simp -dsimp only [aqT, aqU, aqN, ↓seqK, ↓blkK, ↓loopK, step, stepBin, Nat.reduceBEq, Nat.reduceBeqDiff, Nat.add_assoc nid, Nat.reduceAdd, reduceCtorEq, ↓reduceIte, Nat.reduceLeDiff, Nat.reduceBneDiff, Option.toList, ← Int.ofNat_tmod, ← Int.ofNat_tdiv, Nat.reduceLT, e1, e2, e3, e4, e5, e6, e7, e8, e9, strmC_low]
    refine LP.mkP (fun G : List (List UInt8) => G.length ≤ m ∧ ShortRows 2 G) (fun G => ⟨[(17, .int .i64 G.length), (16, .int .i64 (m : Nat)), (8, .fn 82 [.ptr nid 0]), (7, .ptr (nid + 8) 0), (6, .ptr (nid + 4) 0), (3, .ptr nid 0), (1, .int .i64 (faults : Nat))], [(nid, boxP s), (nid + 4, some (.box 29 [.lit true 0 [], .lit true 0 []])), (nid + 8, some (.box 29 [.sl (nid + 20) 0 G.length, .lit true 0 []])), (nid + 20, arrS G), (s, strmC nl A (p + 1 + G.length))], nid + 200, nid⟩) (fun G => m + 1 - G.length) [] ⟨by simp, fun r hr => by simp at hr⟩ (Cov.go [] [(nid + 20, 1)] ?_) (fun G hG => ?_)
    · simp [retPV, over, keys, List.map_nil, List.map_cons, List.contains_cons, List.contains_nil, Bool.or_false, Bool.or_true, Bool.true_or, Bool.false_or, beq_self_eq_true, cond_true, cond_false, HeapCov, orNil, nilSz, onBlk, srcOf, getH_hit, getH_miss, getH.eq_1, getS_hit, getS_miss, getS.eq_1, BlkCov, PVCovs, PVCov, ColsEq, AColsEq, ACEq, ColEq.refl, liveIds, SlotsCov, List.all_nil, List.all_cons, List.any_nil, List.any_cons, List.nil_append, List.cons_append, inRange, apart, nilBlk, idS1, idS2, readAll, readRes, onAll, step, res, AX.val, List.drop_zero, List.drop_succ_cons, List.take_succ_cons, List.take_zero, e1, e2, e3, e4, e5, e6, e7, e8, e9, boxP, arrS, strmC]
    obtain ⟨hG1, hG2⟩ := hG
    have hal := ansV_len A (p + 1 + G.length)
    unfold boxP arrS
    simp -dsimp only [aqT, aqU, aqN, ↓seqK, ↓blkK, ↓loopK, step, stepBin, Nat.reduceBEq, Nat.reduceBeqDiff, Nat.add_assoc nid, Nat.reduceAdd, reduceCtorEq, ↓reduceIte, Nat.reduceLeDiff, Nat.reduceBneDiff, Option.toList, ← Int.ofNat_tmod, ← Int.ofNat_tdiv, Nat.reduceLT, e1, e2, e3, e4, e5, e6, e7, e8, e9, strmC_low]
    refine S2.dec (fun h3 => ?_) (fun h3 => ?_) <;> simp -dsimp only [aqT, aqU, aqN, aqS, ↓seqK, ↓blkK, ↓loopK, step, stepBin, Nat.add_assoc nid, ↓reduceIte, Option.toList, ← Int.ofNat_tmod, ← Int.ofNat_tdiv, simprocAttr, BEq.rfl, LN_succ, e1, e2, e3, e4, e5, e6, e7, e8, e9, strmC_low]
    · refine CallX.on (ans_c s nid _ nl A (p + 1 + G.length) h (by omega) (by omega) hA) (subH_cons (by simp only [aqT, aqU, aqN, ↓seqK, ↓blkK, ↓loopK, step, stepBin, Nat.reduceBEq, Nat.reduceBeqDiff, Nat.add_assoc nid, Nat.reduceAdd, reduceCtorEq, ↓reduceIte, Nat.reduceLeDiff, Nat.reduceBneDiff, Option.toList, ← Int.ofNat_tmod, ← Int.ofNat_tdiv, Nat.reduceLT, e1, e2, e3, e4, e5, e6, e7, e8, e9, Int.cast_ofNat_Int, Int.reduceBEq, Int.reduceBNe, Int.reduceLT, Int.reduceLE, Int.reduceAdd, Int.reduceSub, Int.reduceMul, Int.reduceToNat, Int.reduceNeg, Int.reduceTMod, Int.reduceEq, not_false_eq_true, Int.reducePow, Int.reduceFDiv, Nat.reducePow, Nat.reduceSub, Nat.reduceMul, Nat.min_eq_left, Nat.reduceEqDiff, BEq.rfl, Int.tdiv_one, LN_succ, boxP]) (subH_get (by simp only [aqT, aqU, aqN, aqS, ↓seqK, ↓blkK, ↓loopK, step, stepBin, Nat.add_assoc nid, ↓reduceIte, Option.toList, ← Int.ofNat_tmod, ← Int.ofNat_tdiv, simprocAttr, BEq.rfl, LN_succ, e1, e2, e3, e4, e5, e6, e7, e8, e9]))) ?_
      simp -dsimp only [aqT, aqU, aqN, ↓seqK, ↓blkK, ↓loopK, step, stepBin, Nat.reduceBEq, Nat.reduceBeqDiff, Nat.add_assoc nid, Nat.reduceAdd, reduceCtorEq, ↓reduceIte, Nat.reduceLeDiff, Nat.reduceBneDiff, Option.toList, ← Int.ofNat_tmod, ← Int.ofNat_tdiv, Nat.reduceLT, e1, e2, e3, e4, e5, e6, e7, e8, e9, strmC_low]
      rw [getD_app1 G (ansV A (p + 1 + G.length)) rfl]
      have hl : (G ++ [ansV A (p + 1 + G.length)]).length = G.length + 1 := by simp
      refine ⟨?_, by omega, by unfold inI64; omega, G ++ [ansV A (p + 1 + G.length)], ⟨⟨by omega, hG2.snoc (by omega)⟩, by omega⟩, Cov.go [(nid + 20, nid + 224)] [] ?_⟩
      · simp
      simp [retPV, over, keys, List.map_nil, List.map_cons, List.contains_cons, List.contains_nil, Bool.or_false, Bool.or_true, Bool.true_or, Bool.false_or, beq_self_eq_true, cond_true, cond_false, HeapCov, orNil, nilSz, onBlk, srcOf, getH_hit, getH_miss, getH.eq_1, getS_hit, getS_miss, getS.eq_1, BlkCov, PVCovs, PVCov, ColsEq, AColsEq, ACEq, ColEq.refl, liveIds, SlotsCov, List.all_nil, List.all_cons, List.any_nil, List.any_cons, List.nil_append, List.cons_append, inRange, apart, nilBlk, idS1, idS2, readAll, readRes, onAll, step, res, AX.val, List.drop_zero, List.drop_succ_cons, List.take_succ_cons, List.take_zero, e1, e2, e3, e4, e5, e6, e7, e8, e9, boxP, arrS, strmC, hl, -List.length_append, -List.getD_eq_getElem?_getD]
      omega
    · have hGm : G.length = m := by omega
      refine ⟨⟨G, hGm, hG2⟩, Cov.go [] [] ?_⟩
      simp [retPV, over, keys, List.map_nil, List.map_cons, List.contains_cons, List.contains_nil, Bool.or_false, Bool.or_true, Bool.true_or, Bool.false_or, beq_self_eq_true, cond_true, cond_false, HeapCov, orNil, nilSz, onBlk, srcOf, getH_hit, getH_miss, getH.eq_1, getS_hit, getS_miss, getS.eq_1, BlkCov, PVCovs, PVCov, ColsEq, AColsEq, ACEq, ColEq.refl, liveIds, SlotsCov, List.all_nil, List.all_cons, List.any_nil, List.any_cons, List.nil_append, List.cons_append, inRange, apart, nilBlk, idS1, idS2, readAll, readRes, onAll, step, res, AX.val, List.drop_zero, List.drop_succ_cons, List.take_succ_cons, List.take_zero, e1, e2, e3, e4, e5, e6, e7, e8, e9, boxP, arrS, strmC, hGm, -List.getD_eq_getElem?_getD]
  have hnd := rangeV_bd A (p + 1 + m) (lo := 0) (hi := (faults : Int)) (by omega)
  obtain ⟨n, hn⟩ : ∃ n : Nat, rangeV A (p + 1 + m) 0 faults = n := ⟨_, (Int.toNat_of_nonneg (by omega)).symm⟩
  simp only
  refine SR.seqW (ι := {x : RowL × Nat // x.1.length = n ∧ x.2 ≤ p + 100 ∧ ∀ y ∈ x.1, y.1 ∈ namesL ∧ y.2.length = m ∧ ShortRows 101 y.2}) (fun x => ⟨[(7, .ptr (nid + 8) 0), (6, .ptr (nid + 4) 0), (3, .ptr nid 0)], [(nid, boxP s), (nid + 4, some (.box 29 [.lit true 0 [], .lit true 0 []])), (nid + 8, boxD (nid + 20) G.length (nid + 24) x.1.1.length), (nid + 20, arrS G), (s, strmC nl A x.1.2), (nid + 24, arrR nid x.1.1)] ++ famR nid x.1.1, nid + 4000, nid⟩) ?_ (fun ⟨⟨R, q⟩, hR1, hq, hR2⟩ => ?_)
  · unfold boxP arrS
    refine SR.seqTo ⟨[(30, .int .i64 0), (29, .int .i64 (n : Nat)), (8, .fn 82 [.ptr nid 0]), (7, .ptr (nid + 8) 0), (6, .ptr (nid + 4) 0), (3, .ptr nid 0)], [(nid, boxP s), (nid + 4, some (.box 29 [.lit true 0 [], .lit true 0 []])), (nid + 8, some (.box 29 [.sl (nid + 20) 0 G.length, .lit true 0 []])), (nid + 20, arrS G), (s, strmC nl A (p + 1 + m + 1))], nid + 1100, nid⟩ ?_ ?_
    · simp -dsimp only [aqT, aqU, aqN, ↓seqK, ↓blkK, ↓loopK, step, stepBin, Nat.reduceBEq, Nat.reduceBeqDiff, Nat.add_assoc nid, Nat.reduceAdd, reduceCtorEq, ↓reduceIte, Nat.reduceLeDiff, Nat.reduceBneDiff, Option.toList, ← Int.ofNat_tmod, ← Int.ofNat_tdiv, Nat.reduceLT, e1, e2, e3, e4, e5, e6, e7, e8, e9, strmC_low]
      refine CallO.on (range_c s _ nl A (p + 1 + m) 0 faults (by omega) (by omega) hA (by omega) (by omega) (by omega)) (subH_get (by simp only [aqT, aqU, aqN, ↓seqK, ↓blkK, ↓loopK, step, stepBin, Nat.reduceBEq, Nat.reduceBeqDiff, Nat.add_assoc nid, Nat.reduceAdd, reduceCtorEq, ↓reduceIte, Nat.reduceLeDiff, Nat.reduceBneDiff, Option.toList, ← Int.ofNat_tmod, ← Int.ofNat_tdiv, Nat.reduceLT, e1, e2, e3, e4, e5, e6, e7, e8, e9])) ?_
      rw [hn]
      simp -dsimp only [aqT, aqU, aqN, ↓seqK, ↓blkK, ↓loopK, step, stepBin, Nat.reduceBEq, Nat.reduceBeqDiff, Nat.add_assoc nid, Nat.reduceAdd, reduceCtorEq, ↓reduceIte, Nat.reduceLeDiff, Nat.reduceBneDiff, Option.toList, ← Int.ofNat_tmod, ← Int.ofNat_tdiv, Nat.reduceLT, e1, e2, e3, e4, e5, e6, e7, e8, e9, strmC_low]
      refine Cov.go [] [] ?_
      simp [retPV, over, keys, List.map_nil, List.map_cons, List.contains_cons, List.contains_nil, Bool.or_false, Bool.or_true, Bool.true_or, Bool.false_or, beq_self_eq_true, cond_true, cond_false, HeapCov, orNil, nilSz, onBlk, srcOf, getH_hit, getH_miss, getH.eq_1, getS_hit, getS_miss, getS.eq_1, BlkCov, PVCovs, PVCov, ColsEq, AColsEq, ACEq, ColEq.refl, liveIds, SlotsCov, List.all_nil, List.all_cons, List.any_nil, List.any_cons, List.nil_append, List.cons_append, inRange, apart, nilBlk, idS1, idS2, readAll, readRes, onAll, step, res, AX.val, List.drop_zero, List.drop_succ_cons, List.take_succ_cons, List.take_zero, e1, e2, e3, e4, e5, e6, e7, e8, e9, boxP, arrS, strmC, -List.getD_eq_getElem?_getD]
    refine SR.block ?_
    refine SR.loopP (fun R : RowL => R.length ≤ n ∧ ∀ y ∈ R, y.1 ∈ namesL ∧ y.2.length = m ∧ ShortRows 101 y.2) (fun R => ⟨[(30, .int .i64 R.length), (29, .int .i64 (n : Nat)), (8, .fn 82 [.ptr nid 0]), (7, .ptr (nid + 8) 0), (6, .ptr (nid + 4) 0), (3, .ptr nid 0)], [(nid, boxP s), (nid + 4, some (.box 29 [.lit true 0 [], .lit true 0 []])), (nid + 8, boxD (nid + 20) G.length (nid + 24) R.length), (nid + 20, arrS G), (s, strmC nl A (p + 1 + m + 1 + 2 * m * R.length)), (nid + 24, arrR nid R)] ++ famR nid R, nid + 1196, nid⟩) (fun R => n + 1 - R.length) [] ⟨by simp, by simp⟩ (Cov.go [] [(nid + 24, 2)] ?_) (fun R hR => ?_)
    · simp [retPV, over, keys, List.map_nil, List.map_cons, List.contains_cons, List.contains_nil, Bool.or_false, Bool.or_true, Bool.true_or, Bool.false_or, beq_self_eq_true, cond_true, cond_false, HeapCov, orNil, nilSz, onBlk, srcOf, getH_hit, getH_miss, getH.eq_1, getS_hit, getS_miss, getS.eq_1, BlkCov, PVCovs, PVCov, ColsEq, AColsEq, ACEq, ColEq.refl, liveIds, SlotsCov, List.all_nil, List.all_cons, List.any_nil, List.any_cons, List.nil_append, List.cons_append, inRange, apart, nilBlk, idS1, idS2, readAll, readRes, onAll, step, res, AX.val, List.drop_zero, List.drop_succ_cons, List.take_succ_cons, List.take_zero, e1, e2, e3, e4, e5, e6, e7, e8, e9, strmC, famR, famC, inR, boxP, boxD, arrS, arrR, -List.getD_eq_getElem?_getD]
    obtain ⟨hRl, hRs⟩ := hR
    refine SR.seq ?_
    unfold boxP boxD arrS
    simp -dsimp only [aqT, aqU, aqN, aqS, ↓seqK, ↓blkK, ↓loopK, step, stepBin, Nat.add_assoc nid, ↓reduceIte, Option.toList, ← Int.ofNat_tmod, ← Int.ofNat_tdiv, simprocAttr, BEq.rfl, LN_succ, e1, e2, e3, e4, e5, e6, e7, e8, e9, strmC_low]
    refine SR.seq ?_
    simp -dsimp only [aqT, aqU, aqN, aqS, ↓seqK, ↓blkK, ↓loopK, step, stepBin, Nat.add_assoc nid, ↓reduceIte, Option.toList, ← Int.ofNat_tmod, ← Int.ofNat_tdiv, simprocAttr, BEq.rfl, LN_succ, e1, e2, e3, e4, e5, e6, e7, e8, e9, strmC_low]
    refine S2.dec (fun h3 => ?_) (fun h3 => ?_) <;> simp -dsimp only [aqT, aqU, aqN, aqS, ↓seqK, ↓blkK, ↓loopK, step, stepBin, Nat.add_assoc nid, ↓reduceIte, Option.toList, ← Int.ofNat_tmod, ← Int.ofNat_tdiv, simprocAttr, BEq.rfl, LN_succ, e1, e2, e3, e4, e5, e6, e7, e8, e9, strmC_low]
    · have hi : R.length = 0 ∨ R.length = 1 ∨ R.length = 2 ∨ R.length = 3 ∨ R.length = 4 ∨ R.length = 5 ∨ R.length = 6 := by omega
      rw [decide_eq_true h3]
      refine SR.seqW _ (dict_round s nid nl A (p + 1 + m + 1 + 2 * m * R.length) m n G R h (by have : 2 * m * R.length ≤ 2 * 6 * 7 := Nat.mul_le_mul (by omega) (by omega); omega) hA hG1 (by omega) (by omega) hG2 hi _) (fun ⟨L, hL1, hL2⟩ => ?_)
      simp only
      have hll : (R ++ [(faultN R.length, L)]).length = R.length + 1 := by simp
      have hq2 : p + 1 + m + 1 + 2 * m * R.length + 2 * m = p + 1 + m + 1 + 2 * m * (R ++ [(faultN R.length, L)]).length := by
        have e := congrArg (fun x => p + 1 + m + 1 + 2 * m * x) hll
        rw [e, Nat.mul_succ]
        omega
      rw [hq2, ← hll]
      refine SR.run (t := .mk) ?_
      simp -dsimp only [aqT, aqU, aqN, aqS, ↓seqK, ↓blkK, ↓loopK, step, stepBin, Nat.add_assoc nid, ↓reduceIte, Option.toList, ← Int.ofNat_tmod, ← Int.ofNat_tdiv, simprocAttr, BEq.rfl, LN_succ, e1, e2, e3, e4, e5, e6, e7, e8, e9, strmC_low]
      refine ⟨by unfold inI64; omega, R ++ [(faultN R.length, L)], ⟨⟨by rw [hll]; omega, fun y hy => ?_⟩, by rw [hll]; omega⟩, Cov.drop (by omega) ?_⟩
      · rcases List.mem_append.1 hy with hy | hy
        · exact hRs y hy
        · simp only [List.mem_singleton] at hy
          subst hy
          refine ⟨?_, hL1, hL2.mono (by omega)⟩
          exact faultN_mem (by omega)
      · simp only [SlotsIn, aqT, aqU, aqN, ↓seqK, ↓blkK, ↓loopK, step, stepBin, Nat.reduceBEq, Nat.reduceBeqDiff, Nat.add_assoc nid, Nat.reduceAdd, reduceCtorEq, ↓reduceIte, Nat.reduceLeDiff, Nat.reduceBneDiff, Option.toList, ← Int.ofNat_tmod, ← Int.ofNat_tdiv, Nat.reduceLT, hll]
        try simp
    · have hRn : R.length = n := by omega
      refine ⟨⟨(R, p + 1 + m + 1 + 2 * m * R.length), hRn, ?_, hRs⟩, Cov.drop (by omega) ?_⟩
      · have : 2 * m * R.length ≤ 2 * 6 * 7 := Nat.mul_le_mul (by omega) (by omega)
        simp only
        omega
      · simp only [SlotsIn, aqT, aqU, aqN, ↓seqK, ↓blkK, ↓loopK, step, stepBin, Nat.reduceBEq, Nat.reduceBeqDiff, Nat.add_assoc nid, Nat.reduceAdd, reduceCtorEq, ↓reduceIte, Nat.reduceLeDiff, Nat.reduceBneDiff, Option.toList, ← Int.ofNat_tmod, ← Int.ofNat_tdiv, Nat.reduceLT]
        try simp
  simp only at hR1 hq hR2 ⊢
  have hmemB : ∀ y ∈ R, 1 ≤ y.2.length ∧ y.2.length ≤ tests := fun y hy => by have := (hR2 y hy).2.1; omega
  have hB : DictB tests G R := ⟨by omega, hG2.mono (by omega), by omega, fun y hy => by
    obtain ⟨g1, g2, g3⟩ := hR2 y hy
    exact ⟨g1, by omega, g3⟩⟩
  have hq9 : q ≤ p + 100 := hq
  clear hR2 hq hG2
  refine SR.seqW (ι := {x : SpX // DictB tests x.G x.R ∧ x.q ≤ p + 1000}) (fun x => ⟨[(7, .ptr (nid + 8) 0), (6, .ptr (nid + 4) 0)], dictH s nid nl A x.1.q x.1.G x.1.R, nid + 5000, nid⟩) ?_ (fun ⟨x, hx1, hx2⟩ => dict_end s nid p x.q (p + 1000) tests nl A x.G x.R h hx1 hx2)
  have hf0 : ∀ c, R.length = c → famR nid R = famC nid R c := fun c hc => by rw [← hc]; rfl
  have hrl := hB.rl
  have hi : R.length = 0 ∨ R.length = 1 ∨ R.length = 2 ∨ R.length = 3 ∨ R.length = 4 ∨ R.length = 5 ∨ R.length = 6 ∨ R.length = 7 := by omega
  refine SR.seqTo ⟨[(65, .bool (flipV A q 12)), (7, .ptr (nid + 8) 0), (6, .ptr (nid + 4) 0), (3, .ptr nid 0)], dictH s nid nl A (q + 1) G R, nid + 4100, nid⟩ ?_ ?_
  · unfold boxP
    simp -dsimp only [aqT, aqU, aqN, aqS, ↓seqK, ↓blkK, ↓loopK, step, stepBin, Nat.add_assoc nid, ↓reduceIte, Option.toList, ← Int.ofNat_tmod, ← Int.ofNat_tdiv, simprocAttr, BEq.rfl, LN_succ, e1, e2, e3, e4, e5, e6, e7, e8, e9, strmC_low]
    refine CallO.on (flip_c s _ nl A q 12 (by omega) (by omega) hA (by omega)) (subH_get (by simp only [aqT, aqU, aqN, ↓seqK, ↓blkK, ↓loopK, step, stepBin, Nat.reduceBEq, Nat.reduceBeqDiff, Nat.add_assoc nid, Nat.reduceAdd, reduceCtorEq, ↓reduceIte, Nat.reduceLeDiff, Nat.reduceBneDiff, Option.toList, ← Int.ofNat_tmod, ← Int.ofNat_tdiv, Nat.reduceLT, e1, e2, e3, e4, e5, e6, e7, e8, e9, Int.cast_ofNat_Int, Int.reduceBEq, Int.reduceBNe, Int.reduceLT, Int.reduceLE, Int.reduceAdd, Int.reduceSub, Int.reduceMul, Int.reduceToNat, Int.reduceNeg, Int.reduceTMod, Int.reduceEq, not_false_eq_true, Int.reducePow, Int.reduceFDiv, Nat.reducePow, Nat.reduceSub, Nat.reduceMul, Nat.min_eq_left, Nat.reduceEqDiff, BEq.rfl, Int.tdiv_one, LN_succ])) ?_
    simp -dsimp only [aqT, aqU, aqN, aqS, ↓seqK, ↓blkK, ↓loopK, step, stepBin, Nat.add_assoc nid, ↓reduceIte, Option.toList, ← Int.ofNat_tmod, ← Int.ofNat_tdiv, simprocAttr, BEq.rfl, LN_succ, e1, e2, e3, e4, e5, e6, e7, e8, e9, strmC_low]
    refine Cov.go [] [] ?_
    simp only [dictH]
    rcases hi with hi | hi | hi | hi | hi | hi | hi | hi
    all_goals
      rw [hf0 _ hi]
      simp [retPV, over, keys, List.map_nil, List.map_cons, List.contains_cons, List.contains_nil, Bool.or_false, Bool.or_true, Bool.true_or, Bool.false_or, beq_self_eq_true, cond_true, cond_false, HeapCov, orNil, nilSz, onBlk, srcOf, getH_hit, getH_miss, getH.eq_1, getS_hit, getS_miss, getS.eq_1, BlkCov, PVCovs, PVCov, ColsEq, AColsEq, ACEq, ColEq.refl, liveIds, SlotsCov, List.all_nil, List.all_cons, List.any_nil, List.any_cons, List.nil_append, List.cons_append, inRange, apart, nilBlk, idS1, idS2, readAll, readRes, onAll, step, res, AX.val, List.drop_zero, List.drop_succ_cons, List.take_succ_cons, List.take_zero, e1, e2, e3, e4, e5, e6, e7, e8, e9, strmC, famC, inR, boxP, boxD, arrS, arrR, -List.getD_eq_getElem?_getD]
      exact fun j hj => by omega
  refine SR.cond (b := flipV A q 12) (by simp [AX.val, getS]) (fun hf => ?_) (fun hf => ?_)
  · have hsp := spoil_I s nid (q + 1) (p + 1000) tests nl A G R h hB (by omega) hmemB (by omega) (by omega) (by omega) hA
    refine SR.run (t := .mk) ?_
    unfold dictH boxP
    simp -dsimp only [aqT, aqU, aqN, aqS, ↓seqK, ↓blkK, ↓loopK, step, stepBin, Nat.add_assoc nid, ↓reduceIte, Option.toList, ← Int.ofNat_tmod, ← Int.ofNat_tdiv, simprocAttr, BEq.rfl, LN_succ, e1, e2, e3, e4, e5, e6, e7, e8, e9, strmC_low]
    refine CallO.any hsp (fun id b hb => hb) (fun x hx => ?_)
    obtain ⟨hx1, hx2, hx3⟩ := hx
    obtain ⟨xG, xR, xq, xo⟩ := x
    simp only at hx1 hx2 hx3 ⊢
    have hxl := hx1.rl
    have hf2 : ∀ c, xR.length = c → famR nid xR = famC nid xR c := fun c hc => by rw [← hc]; rfl
    cases xo with
    | none =>
      simp only [spU]
      refine ⟨⟨⟨xG, xR, xq, none⟩, hx1, hx2⟩, Cov.go [] [] ?_⟩
      simp only [dictH]
      have hi2 : xR.length = 0 ∨ xR.length = 1 ∨ xR.length = 2 ∨ xR.length = 3 ∨ xR.length = 4 ∨ xR.length = 5 ∨ xR.length = 6 ∨ xR.length = 7 := by omega
      clear hi hx3 hsp
      rcases hi2 with hi | hi | hi | hi | hi | hi | hi | hi
      all_goals
        rw [hf2 _ hi]
        simp [retPV, over, keys, List.map_nil, List.map_cons, List.contains_cons, List.contains_nil, Bool.or_false, Bool.or_true, Bool.true_or, Bool.false_or, beq_self_eq_true, cond_true, cond_false, HeapCov, orNil, nilSz, onBlk, srcOf, getH_hit, getH_miss, getH.eq_1, getS_hit, getS_miss, getS.eq_1, BlkCov, PVCovs, PVCov, ColsEq, AColsEq, ACEq, ColEq.refl, liveIds, SlotsCov, List.all_nil, List.all_cons, List.any_nil, List.any_cons, List.nil_append, List.cons_append, inRange, apart, nilBlk, idS1, idS2, readAll, readRes, onAll, step, res, AX.val, List.drop_zero, List.drop_succ_cons, List.take_succ_cons, List.take_zero, e1, e2, e3, e4, e5, e6, e7, e8, e9, putS, strmC, famC, inR, boxP, boxD, arrS, arrR, -List.getD_eq_getElem?_getD]
        exact fun j hj => by omega
    | some I =>
      obtain ⟨hIR, rfl, hR'⟩ := hx3 I rfl
      simp only [spU]
      have hll : xR.length = R.length := by rw [hR', List.length_set]
      have fO : ∀ j, j ≠ I → rowR xR j = rowR R j := fun j hj => by rw [hR', rowR_set _ hIR, if_neg hj]
      clear hR' hx3 hsp
      refine ⟨⟨⟨xG, xR, xq, none⟩, hx1, hx2⟩, Cov.go [(nid + (100 + I), nid + 4104)] [] ?_⟩
      simp only [dictH]
      have hI6 : I = 0 ∨ I = 1 ∨ I = 2 ∨ I = 3 ∨ I = 4 ∨ I = 5 ∨ I = 6 := by omega
      rcases hi with hi | hi | hi | hi | hi | hi | hi | hi <;> rcases hI6 with rfl | rfl | rfl | rfl | rfl | rfl | rfl
      all_goals try (exfalso; omega)
      all_goals
        rw [hf0 _ hi, hf2 _ (hll.trans hi)]
        simp [retPV, over, keys, List.map_nil, List.map_cons, List.contains_cons, List.contains_nil, Bool.or_false, Bool.or_true, Bool.true_or, Bool.false_or, beq_self_eq_true, cond_true, cond_false, HeapCov, orNil, nilSz, onBlk, srcOf, getH_hit, getH_miss, getH.eq_1, getS_hit, getS_miss, getS.eq_1, BlkCov, PVCovs, PVCov, ColsEq, AColsEq, ACEq, ColEq.refl, liveIds, SlotsCov, List.all_nil, List.all_cons, List.any_nil, List.any_cons, List.nil_append, List.cons_append, inRange, apart, nilBlk, idS1, idS2, readAll, readRes, onAll, step, res, AX.val, List.drop_zero, List.drop_succ_cons, List.take_succ_cons, List.take_zero, e1, e2, e3, e4, e5, e6, e7, e8, e9, putS, strmC, famC, inR, boxP, boxD, arrS, arrR, fO, hll, -List.getD_eq_getElem?_getD]
        first
          | exact fun j hj => by omega
          | exact fun j hj => ⟨by split <;> split <;> first | rfl | omega, by omega⟩
  · refine SR.run (t := .mk) ?_
    simp -dsimp only [aqT, aqU, aqN, aqS, ↓seqK, ↓blkK, ↓loopK, step, stepBin, Nat.add_assoc nid, ↓reduceIte, Option.toList, ← Int.ofNat_tmod, ← Int.ofNat_tdiv, simprocAttr, BEq.rfl, LN_succ, e1, e2, e3, e4, e5, e6, e7, e8, e9, strmC_low]
    refine ⟨⟨⟨G, R, q + 1, none⟩, hB, by simp only; omega⟩, Cov.drop (by omega) ?_⟩
    simp only [SlotsIn, aqT, aqU, aqN, ↓seqK, ↓blkK, ↓loopK, step, stepBin, Nat.reduceBEq, Nat.reduceBeqDiff, Nat.add_assoc nid, Nat.reduceAdd, reduceCtorEq, ↓reduceIte, Nat.reduceLeDiff, Nat.reduceBneDiff, Option.toList, ← Int.ofNat_tmod, ← Int.ofNat_tdiv, Nat.reduceLT]
    try simp
end Go.Proofs.YtpifoghhaohhaaaGreatDoor
namespace Go.Proofs.YtpifoghhaohhaaaGreatDoor
open Go.RowKit
def arrI (l : List Int) : Option ABlk := some (.arr 3 l.length [.i .i64 fun i => l.getD i 0])
def litI (nl : Bool) (l : List Int) : PV := .lit nl l.length [.i .i64 fun i => l.getD i 0]
theorem out_c (x lo hi : Int) (nid : Nat) : ACall Tryz.prog 155 [.int .i64 x, .int .i64 lo, .int .i64 hi] [] nid (.bool (outB x lo hi)) [] := by
  refine acall_run c155 (by simp [a155]) ?_
  simp -dsimp only [a155, aqT, aqU, aqN, ↓seqK, ↓blkK, ↓loopK, step, stepBin, Nat.reduceBEq, Nat.reduceBeqDiff, Nat.add_assoc nid, Nat.reduceAdd, reduceCtorEq, ↓reduceIte, Nat.reduceLeDiff, Nat.reduceBneDiff, Option.toList, ← Int.ofNat_tmod, ← Int.ofNat_tdiv, Nat.reduceLT]
  refine S2.dec (fun h => ?_) (fun h => ?_) <;> simp -dsimp only [aqT, aqU, aqN, ↓seqK, ↓blkK, ↓loopK, step, stepBin, Nat.reduceBEq, Nat.reduceBeqDiff, Nat.add_assoc nid, Nat.reduceAdd, reduceCtorEq, ↓reduceIte, Nat.reduceLeDiff, Nat.reduceBneDiff, Option.toList, ← Int.ofNat_tmod, ← Int.ofNat_tdiv, Nat.reduceLT] <;> refine RetOK.pure (.inl rfl) rfl ?_ <;> simp [cvT, step, res, outB] <;> omega
theorem in_c (x lo hi : Int) (nid : Nat) : ACall Tryz.prog 98 [.int .i64 x, .int .i64 lo, .int .i64 hi] [] nid (.bool (!outB x lo hi)) [] := by
  refine acall_run c98 (by simp [a98]) ?_
  simp -dsimp only [a98, aqT, aqU, aqN, ↓seqK, ↓blkK, ↓loopK, step, stepBin, Nat.reduceBEq, Nat.reduceBeqDiff, Nat.add_assoc nid, Nat.reduceAdd, reduceCtorEq, ↓reduceIte, Nat.reduceLeDiff, Nat.reduceBneDiff, Option.toList, ← Int.ofNat_tmod, ← Int.ofNat_tdiv, Nat.reduceLT]
  refine S2.dec (fun h => ?_) (fun h => ?_) <;> simp -dsimp only [aqT, aqU, aqN, ↓seqK, ↓blkK, ↓loopK, step, stepBin, Nat.reduceBEq, Nat.reduceBeqDiff, Nat.add_assoc nid, Nat.reduceAdd, reduceCtorEq, ↓reduceIte, Nat.reduceLeDiff, Nat.reduceBneDiff, Option.toList, ← Int.ofNat_tmod, ← Int.ofNat_tdiv, Nat.reduceLT] <;> refine RetOK.pure (.inl rfl) rfl ?_ <;> simp [cvT, step, res, outB] <;> first | omega | (rw [Bool.eq_iff_iff]; simp; omega)
theorem index_c (nl : Bool) (l : List Int) (x : Int) (nid : Nat) (hl : l.length ≤ 1000000000) : ∃ r : Int, (0 ≤ r ↔ x ∈ l) ∧ ACall Tryz.prog 186 [litI nl l, .int .i64 x] [] nid (.int .i64 r) [] := by
  refine ⟨match l.findIdx? (· == x) with | some k => (k : Int) | none => -1, ?_, ?_⟩
  · cases h : l.findIdx? (· == x) with
    | none =>
      rw [List.findIdx?_eq_none_iff] at h
      simp only [Int.reduceNeg, Int.reduceLE, false_iff]
      exact fun hx => by simpa using h x hx
    | some k =>
      simp only [Int.natCast_nonneg, true_iff]
      obtain ⟨hk, h1, _⟩ := List.findIdx?_eq_some_iff_getElem.1 h
      have : l[k] = x := by simpa using h1
      rw [← this]; exact List.getElem_mem hk
  refine acall_run c186 (by simp [a186]) ?_
  unfold litI
  simp -dsimp only [aqT, aqU, aqN, ↓seqK, ↓blkK, ↓loopK, step, stepBin, Nat.reduceBEq, Nat.reduceBeqDiff, Nat.add_assoc nid, Nat.reduceAdd, reduceCtorEq, ↓reduceIte, Nat.reduceLeDiff, Nat.reduceBneDiff, Option.toList, ← Int.ofNat_tmod, ← Int.ofNat_tdiv, Nat.reduceLT, a186]
  refine LP.mkP (fun k : Nat => k ≤ l.length ∧ ∀ i, i < k → l.getD i 0 ≠ x) (fun k : Nat => ⟨[(8, .int .i64 k), (7, .int .i64 l.length), (0, litI nl l), (1, .int .i64 x)], [], nid + 1000, nid⟩) (fun k => l.length + 1 - k) 0 ?_ (Cov.go [] [] ?_) (fun k hk => ?_)
  · exact ⟨by omega, fun i hi => by omega⟩
  · simp [cvT, step, res, litI]
  unfold litI
  obtain ⟨hk, hno⟩ := hk
  have get : ∀ i (hi : i < l.length), l.getD i 0 = l[i] := fun i hi => by rw [List.getD_eq_getElem?_getD, List.getElem?_eq_getElem hi]; rfl
  simp -dsimp only [aqT, aqU, aqN, ↓seqK, ↓blkK, ↓loopK, step, stepBin, Nat.reduceBEq, Nat.reduceBeqDiff, Nat.add_assoc nid, Nat.reduceAdd, reduceCtorEq, ↓reduceIte, Nat.reduceLeDiff, Nat.reduceBneDiff, Option.toList, ← Int.ofNat_tmod, ← Int.ofNat_tdiv, Nat.reduceLT]
  refine S2.dec (fun h3 => ?_) (fun h3 => ?_) <;> simp -dsimp only [aqT, aqU, aqN, ↓seqK, ↓blkK, ↓loopK, step, stepBin, Nat.reduceBEq, Nat.reduceBeqDiff, Nat.add_assoc nid, Nat.reduceAdd, reduceCtorEq, ↓reduceIte, Nat.reduceLeDiff, Nat.reduceBneDiff, Option.toList, ← Int.ofNat_tmod, ← Int.ofNat_tdiv, Nat.reduceLT]
  · have hkl : k < l.length := by omega
    refine ⟨by omega, S2.intro (fun h4 => ?_) (fun h4 => ?_)⟩ <;> simp -dsimp only [aqT, aqU, aqN, ↓seqK, ↓blkK, ↓loopK, step, stepBin, Nat.reduceBEq, Nat.reduceBeqDiff, Nat.add_assoc nid, Nat.reduceAdd, reduceCtorEq, ↓reduceIte, Nat.reduceLeDiff, Nat.reduceBneDiff, Option.toList, ← Int.ofNat_tmod, ← Int.ofNat_tdiv, Nat.reduceLT]
    · have h5 : x = l.getD k 0 := by simpa using h4
      have : l.findIdx? (· == x) = some k := by
        rw [List.findIdx?_eq_some_iff_getElem]
        refine ⟨hkl, by rw [← get k hkl, ← h5]; simp, fun i hi => ?_⟩
        have := hno i hi
        rw [get i (by omega)] at this
        simpa using this
      rw [this]
      refine RetOK.pure (.inl rfl) rfl ?_
      simp [cvT, step, res]
    · have h5 : x ≠ l.getD k 0 := by simpa using h4
      refine ⟨by unfold inI64; omega, k + 1, ⟨⟨by omega, fun i hi => ?_⟩, by omega⟩, Cov.go [] [] ?_⟩
      · by_cases e : i = k
        · subst e; exact fun h => h5 h.symm
        · exact hno i (by omega)
      · simp [cvT, step, res, litI]
  · have : l.findIdx? (· == x) = none := by
      rw [List.findIdx?_eq_none_iff]
      intro y hy
      obtain ⟨i, hi, rfl⟩ := List.mem_iff_getElem.1 hy
      have := hno i (by omega)
      rw [get i hi] at this
      simpa using this
    rw [this]
    refine RetOK.pure (.inl rfl) rfl ?_
    simp [cvT, step, res]
theorem contains_c (nl : Bool) (l : List Int) (x : Int) (nid : Nat) (hl : l.length ≤ 1000000000) : ACall Tryz.prog 99 [litI nl l, .int .i64 x] [] nid (.bool (l.contains x)) [] := by
  refine acall_run c99 (by simp [a99]) ?_
  simp -dsimp only [a99, aqT, aqU, aqN, ↓seqK, ↓blkK, ↓loopK, step, stepBin, Nat.reduceBEq, Nat.reduceBeqDiff, Nat.add_assoc nid, Nat.reduceAdd, reduceCtorEq, ↓reduceIte, Nat.reduceLeDiff, Nat.reduceBneDiff, Option.toList, ← Int.ofNat_tmod, ← Int.ofNat_tdiv, Nat.reduceLT]
  obtain ⟨r, h1, h2⟩ := index_c nl l x (nid + 12) hl
  refine CallO.pure (h2) ?_
  simp -dsimp only [aqT, aqU, aqN, ↓seqK, ↓blkK, ↓loopK, step, stepBin, Nat.reduceBEq, Nat.reduceBeqDiff, Nat.add_assoc nid, Nat.reduceAdd, reduceCtorEq, ↓reduceIte, Nat.reduceLeDiff, Nat.reduceBneDiff, Option.toList, ← Int.ofNat_tmod, ← Int.ofNat_tdiv, Nat.reduceLT]
  have : decide (0 ≤ r) = l.contains x := by
    rw [Bool.eq_iff_iff]
    simp [h1]
  rw [this]
  refine RetOK.pure (.inl rfl) rfl ?_
  simp [cvT, step, res]
end Go.Proofs.YtpifoghhaohhaaaGreatDoor
namespace Go.Proofs.YtpifoghhaohhaaaGreatDoor
open Go.RowKit Go.Shelf Go.Lib
theorem indexKS_c (s : List UInt8) (c : Int) (nid : Nat) : ACall Tryz.prog 279 [.str s, .int .u8 c] [] nid (.int .i64 (Lib.indexByte s c.toNat.toUInt8)) [] := by
  intro C vs hb hl hr hs
  obtain ⟨v0, v1, rfl⟩ : ∃ a b, vs = [a, b] := by
    rcases vs with _ | ⟨a, _ | ⟨b, _ | ⟨c, r⟩⟩⟩
    · simp at hl
    · simp at hl
    · exact ⟨a, b, rfl⟩
    · simp at hl
  have r0 := (hr 0 _ v0 rfl rfl).str_inv
  have r1 := (hr 1 _ v1 rfl rfl).int_inv
  subst r0; subst r1
  refine .inr ⟨.int .i64 (Lib.indexByte s c.toNat.toUInt8), C.w0, ?_, C.Y0, C.m0, .int, by simpa using hs.next (show nid ≤ nid + 4 by omega), Ev.refl _ _ _⟩
  rw [run_callFunc_extern (P := Tryz.prog) (f := 279) (fn := Tryz.f279) (e := Extern.BytealgIndexByte.indexByte) Tryz.func279 (by kernel_rfl) (by kernel_rfl) (by kernel_rfl) (by kernel_rfl)]
  have h := Lib.run_indexByteString (P := Tryz.prog) ⟨s.toArray⟩ c C.w0
  show ((Extern.BytealgIndexByte.indexByte #[.string ⟨s.toArray⟩, .int .u8 c]).run Tryz.prog C.w0).andThen _ = _
  rw [h]
  rfl
theorem indexK_c (s : List UInt8) (c : Int) (nid : Nat) : ACall Tryz.prog 181 [.str s, .int .u8 c] [] nid (.int .i64 (Lib.indexByte s c.toNat.toUInt8)) [] := by
  have h1 : ∀ nid, ACall Tryz.prog 237 [.str s, .int .u8 c] [] nid (.int .i64 (Lib.indexByte s c.toNat.toUInt8)) [] := fun nid => by
    refine acall_run c237 (by simp [a237]) ?_
    simp -dsimp only [a237, aqT, aqU, aqN, ↓seqK, ↓blkK, ↓loopK, step, stepBin, Nat.reduceBEq, Nat.reduceBeqDiff, Nat.add_assoc nid, Nat.reduceAdd, reduceCtorEq, ↓reduceIte, Nat.reduceLeDiff, Nat.reduceBneDiff, Option.toList, ← Int.ofNat_tmod, ← Int.ofNat_tdiv, Nat.reduceLT]
    refine CallO.pure (indexKS_c s c _) ?_
    simp -dsimp only [aqT, aqU, aqN, ↓seqK, ↓blkK, ↓loopK, step, stepBin, Nat.reduceBEq, Nat.reduceBeqDiff, Nat.add_assoc nid, Nat.reduceAdd, reduceCtorEq, ↓reduceIte, Nat.reduceLeDiff, Nat.reduceBneDiff, Option.toList, ← Int.ofNat_tmod, ← Int.ofNat_tdiv, Nat.reduceLT]
    refine RetOK.pure (.inl rfl) rfl ?_
    simp [cvT, step, res]
  refine acall_run c181 (by simp [a181]) ?_
  simp -dsimp only [a181, aqT, aqU, aqN, ↓seqK, ↓blkK, ↓loopK, step, stepBin, Nat.reduceBEq, Nat.reduceBeqDiff, Nat.add_assoc nid, Nat.reduceAdd, reduceCtorEq, ↓reduceIte, Nat.reduceLeDiff, Nat.reduceBneDiff, Option.toList, ← Int.ofNat_tmod, ← Int.ofNat_tdiv, Nat.reduceLT]
  refine CallO.pure (h1 _) ?_
  simp -dsimp only [aqT, aqU, aqN, ↓seqK, ↓blkK, ↓loopK, step, stepBin, Nat.reduceBEq, Nat.reduceBeqDiff, Nat.add_assoc nid, Nat.reduceAdd, reduceCtorEq, ↓reduceIte, Nat.reduceLeDiff, Nat.reduceBneDiff, Option.toList, ← Int.ofNat_tmod, ← Int.ofNat_tdiv, Nat.reduceLT]
  refine RetOK.pure (.inl rfl) rfl ?_
  simp [cvT, step, res]
theorem any_range {s : List UInt8} {F : UInt8 → Bool} : (List.range s.length).any (fun i => F (s.getD i 0)) = s.any F := by
  rw [Bool.eq_iff_iff, List.any_eq_true, List.any_eq_true]
  constructor
  · rintro ⟨i, hi, h⟩
    have hi' := List.mem_range.1 hi
    refine ⟨s[i], List.getElem_mem _, ?_⟩
    rwa [List.getD_eq_getElem?_getD, List.getElem?_eq_getElem hi'] at h
  · rintro ⟨x, hx, h⟩
    obtain ⟨i, hi, rfl⟩ := List.getElem_of_mem hx
    refine ⟨i, List.mem_range.2 hi, ?_⟩
    rw [List.getD_eq_getElem?_getD, List.getElem?_eq_getElem hi]
    exact h
theorem indexFB (f : Nat) (F : UInt8 → Bool) (hf : ∀ (b : UInt8) nid, ACall Tryz.prog f [.int .u8 ((b.toNat : Nat))] [] nid (.bool (F b)) []) (nl : Bool) (n : Nat) (g : Nat → UInt8) (nid : Nat) (hn : n ≤ 1000000000) :
    ∃ r : Int, (-1 ≤ r ∧ (0 ≤ r ↔ (List.range n).any (fun i => F (g i)) = true)) ∧ ACall Tryz.prog 229 [.lit nl n [.i .u8 fun i => ((g i).toNat : Nat)], .fn f []] [] nid (.int .i64 r) [] := by
  refine acall_ex c229 (by simp [a229]) ?_
  simp -dsimp only [aqT0, ROp0, aqT, aqU, aqN, aqS, ↓seqK, ↓blkK, ↓loopK, step, stepBin, Nat.add_assoc nid, ↓reduceIte, Option.toList, ← Int.ofNat_tmod, ← Int.ofNat_tdiv, simprocAttr, BEq.rfl, LN_succ, a229]
  refine LP0.mkP (fun k : Nat => k ≤ n ∧ ∀ j, j < k → F (g j) = false) (fun k : Nat => ⟨[(8, .int .i64 k), (7, .int .i64 n), (0, .lit nl n [.i .u8 fun i => ((g i).toNat : Nat)]), (1, .fn f [])], [], nid + 100, nid⟩) (fun k => n + 1 - k) 0 ⟨by omega, fun j hj => by omega⟩ (Cov.go [] [] ?_) (fun k hk => ?_)
  · simp [cvT, step, res]
  obtain ⟨hk, hall⟩ := hk
  simp -dsimp only [aqT0, ROp0, aqT, aqU, aqN, aqS, ↓seqK, ↓blkK, ↓loopK, step, stepBin, Nat.add_assoc nid, ↓reduceIte, Option.toList, ← Int.ofNat_tmod, ← Int.ofNat_tdiv, simprocAttr, BEq.rfl, LN_succ]
  refine S2.dec (fun h3 => ?_) (fun h3 => ?_) <;> simp -dsimp only [aqT0, ROp0, aqT, aqU, aqN, aqS, ↓seqK, ↓blkK, ↓loopK, step, stepBin, Nat.add_assoc nid, ↓reduceIte, Option.toList, ← Int.ofNat_tmod, ← Int.ofNat_tdiv, simprocAttr, BEq.rfl, LN_succ]
  · have hkl : k < n := by omega
    refine ⟨by omega, CallX.pure (hf _ _) ?_⟩
    simp -dsimp only [aqT0, ROp0, aqT, aqU, aqN, aqS, ↓seqK, ↓blkK, ↓loopK, step, stepBin, Nat.add_assoc nid, ↓reduceIte, Option.toList, ← Int.ofNat_tmod, ← Int.ofNat_tdiv, simprocAttr, BEq.rfl, LN_succ]
    refine S2.intro (fun h4 => ?_) (fun h4 => ?_) <;> simp -dsimp only [aqT0, ROp0, aqT, aqU, aqN, aqS, ↓seqK, ↓blkK, ↓loopK, step, stepBin, Nat.add_assoc nid, ↓reduceIte, Option.toList, ← Int.ofNat_tmod, ← Int.ofNat_tdiv, simprocAttr, BEq.rfl, LN_succ]
    · refine EndOK.mk (k : Int) ⟨by omega, ⟨fun _ => List.any_eq_true.2 ⟨k, List.mem_range.2 hkl, h4⟩, fun _ => by omega⟩⟩ ?_
      refine RetOK.pure (.inl rfl) rfl ?_
      simp [cvT, step, res]
    · refine ⟨by unfold inI64; omega, k + 1, ⟨⟨by omega, fun j hj => ?_⟩, by omega⟩, Cov.go [] [] ?_⟩
      · rcases (by omega : j < k ∨ j = k) with hj | hj
        · exact hall j hj
        · rw [hj]; exact h4
      · simp [cvT, step, res]
  · have hkn : k = n := by omega
    subst hkn
    refine EndOK.mk (-1 : Int) ⟨by omega, ⟨fun h => by omega, fun h => ?_⟩⟩ ?_
    · obtain ⟨i, hi, h⟩ := List.any_eq_true.1 h
      rw [hall i (List.mem_range.1 hi)] at h
      cases h
    · refine RetOK.pure (.inl rfl) rfl ?_
      simp [cvT, step, res]
theorem containsFB (f : Nat) (F : UInt8 → Bool) (hf : ∀ (b : UInt8) nid, ACall Tryz.prog f [.int .u8 ((b.toNat : Nat))] [] nid (.bool (F b)) []) (nl : Bool) (n : Nat) (g : Nat → UInt8) (nid : Nat) (hn : n ≤ 1000000000) :
    ACall Tryz.prog 178 [.lit nl n [.i .u8 fun i => ((g i).toNat : Nat)], .fn f []] [] nid (.bool ((List.range n).any (fun i => F (g i)))) [] := by
  refine acall_run c178 (by simp [a178]) ?_
  simp -dsimp only [aqT, aqU, aqN, ↓seqK, ↓blkK, ↓loopK, step, stepBin, Nat.reduceBEq, Nat.reduceBeqDiff, Nat.add_assoc nid, Nat.reduceAdd, reduceCtorEq, ↓reduceIte, Nat.reduceLeDiff, Nat.reduceBneDiff, Option.toList, ← Int.ofNat_tmod, ← Int.ofNat_tdiv, Nat.reduceLT, a178]
  refine CallO.onE (Hs := []) (indexFB f F hf nl n g _ hn) (subH_nil _) (fun r hr => ?_)
  simp -dsimp only [aqT, aqU, aqN, aqS, ↓seqK, ↓blkK, ↓loopK, step, stepBin, Nat.add_assoc nid, ↓reduceIte, Option.toList, ← Int.ofNat_tmod, ← Int.ofNat_tdiv, simprocAttr, BEq.rfl, LN_succ]
  have e : decide (0 ≤ r) = (List.range n).any (fun i => F (g i)) := by
    rw [Bool.eq_iff_iff, decide_eq_true_eq]; exact hr.2
  rw [e]
  refine RetOK.pure (.inl rfl) rfl ?_
  simp [cvT, step, res]
def oddC (b : UInt8) : Bool := outB ((b.toNat : Nat) : Int) 33 126
def respB (s : List UInt8) : Bool := !outB s.length 1 100 && !s.any oddC
theorem oddC_c (b : UInt8) (nid : Nat) : ACall Tryz.prog 179 [.int .u8 ((b.toNat : Nat))] [] nid (.bool (oddC b)) [] := by
  refine acall_run c179 (by simp [a179]) ?_
  simp -dsimp only [aqT, aqU, aqN, aqS, ↓seqK, ↓blkK, ↓loopK, step, stepBin, Nat.add_assoc nid, ↓reduceIte, Option.toList, ← Int.ofNat_tmod, ← Int.ofNat_tdiv, simprocAttr, BEq.rfl, LN_succ, a179]
  refine S2.dec (fun h => ?_) (fun h => ?_) <;> simp -dsimp only [aqT, aqU, aqN, aqS, ↓seqK, ↓blkK, ↓loopK, step, stepBin, Nat.add_assoc nid, ↓reduceIte, Option.toList, ← Int.ofNat_tmod, ← Int.ofNat_tdiv, simprocAttr, BEq.rfl, LN_succ] <;> refine RetOK.pure (.inl rfl) rfl ?_ <;> simp [cvT, step, res, oddC, outB] <;> omega
theorem respR_c (s : List UInt8) (nid : Nat) : ACall Tryz.prog 87 [.str s] [] nid (.bool (respB s)) [] := by
  refine acall_run c87 (by simp [a87]) ?_
  simp -dsimp only [aqT, aqU, aqN, ↓seqK, ↓blkK, ↓loopK, step, stepBin, Nat.reduceBEq, Nat.reduceBeqDiff, Nat.add_assoc nid, Nat.reduceAdd, reduceCtorEq, ↓reduceIte, Nat.reduceLeDiff, Nat.reduceBneDiff, Option.toList, ← Int.ofNat_tmod, ← Int.ofNat_tdiv, Nat.reduceLT, a87]
  refine CallO.pure (in_c _ _ _ _) ?_
  simp -dsimp only [aqT, aqU, aqN, ↓seqK, ↓blkK, ↓loopK, step, stepBin, Nat.reduceBEq, Nat.reduceBeqDiff, Nat.add_assoc nid, Nat.reduceAdd, reduceCtorEq, ↓reduceIte, Nat.reduceLeDiff, Nat.reduceBneDiff, Option.toList, ← Int.ofNat_tmod, ← Int.ofNat_tdiv, Nat.reduceLT]
  unfold respB
  cases h : outB s.length 1 100 <;> simp -dsimp only [aqT, aqU, aqN, aqS, ↓seqK, ↓blkK, ↓loopK, step, stepBin, Nat.add_assoc nid, ↓reduceIte, Option.toList, ← Int.ofNat_tmod, ← Int.ofNat_tdiv, simprocAttr, BEq.rfl, LN_succ, Bool.not_false, Bool.not_true]
  · have hl : s.length ≤ 100 := by unfold outB at h; have := of_decide_eq_false h; omega
    refine CallO.pure (containsFB _ oddC oddC_c _ s.length (fun i => s.getD i 0) _ (by omega)) ?_
    rw [any_range]
    simp -dsimp only [aqT, aqU, aqN, aqS, ↓seqK, ↓blkK, ↓loopK, step, stepBin, Nat.add_assoc nid, ↓reduceIte, Option.toList, ← Int.ofNat_tmod, ← Int.ofNat_tdiv, simprocAttr, BEq.rfl, LN_succ]
    refine RetOK.pure (.inl rfl) rfl ?_
    simp [cvT, step, res]
  · refine RetOK.pure (.inl rfl) rfl ?_
    simp [cvT, step, res]
theorem respD_c (s : List UInt8) (nid : Nat) (hs : s.length ≤ 1000000) : ACall Tryz.prog 153 [.str s] [] nid (.bool (respB s)) [] := by
  refine acall_run c153 (by simp [a153]) ?_
  simp -dsimp only [aqT, aqU, aqN, ↓seqK, ↓blkK, ↓loopK, step, stepBin, Nat.reduceBEq, Nat.reduceBeqDiff, Nat.add_assoc nid, Nat.reduceAdd, reduceCtorEq, ↓reduceIte, Nat.reduceLeDiff, Nat.reduceBneDiff, Option.toList, ← Int.ofNat_tmod, ← Int.ofNat_tdiv, Nat.reduceLT, a153]
  refine LP.mkP (fun k : Nat => k ≤ s.length ∧ ∀ j, j < k → oddC (s.getD j 0) = false) (fun k : Nat => ⟨[(6, .int .i64 k), (5, .int .i64 s.length), (0, .str s)], [], nid + 100, nid⟩) (fun k => s.length + 1 - k) 0 ⟨by omega, fun j hj => by omega⟩ (Cov.go [] [] ?_) (fun k hk => ?_)
  · simp [cvT, step, res]
  obtain ⟨hk, hall⟩ := hk
  simp -dsimp only [aqT, aqU, aqN, aqS, ↓seqK, ↓blkK, ↓loopK, step, stepBin, Nat.add_assoc nid, ↓reduceIte, Option.toList, ← Int.ofNat_tmod, ← Int.ofNat_tdiv, simprocAttr, BEq.rfl, LN_succ]
  refine S2.dec (fun h3 => ?_) (fun h3 => ?_) <;> simp -dsimp only [aqT, aqU, aqN, aqS, ↓seqK, ↓blkK, ↓loopK, step, stepBin, Nat.add_assoc nid, ↓reduceIte, Option.toList, ← Int.ofNat_tmod, ← Int.ofNat_tdiv, simprocAttr, BEq.rfl, LN_succ]
  · have hkl : k < s.length := by omega
    have hw : IntKind.i64.wrap (((s.getD k 0).toNat : Nat) : Int) = (((s.getD k 0).toNat : Nat) : Int) := IntWalk.i64_in _ (by have := (s.getD k 0).toNat_lt; omega)
    refine ⟨by omega, CallO.pure (out_c _ _ _ _) ?_⟩
    rw [hw]
    simp -dsimp only [aqT, aqU, aqN, aqS, ↓seqK, ↓blkK, ↓loopK, step, stepBin, Nat.add_assoc nid, ↓reduceIte, Option.toList, ← Int.ofNat_tmod, ← Int.ofNat_tdiv, simprocAttr, BEq.rfl, LN_succ]
    refine S2.intro (fun h4 => ?_) (fun h4 => ?_) <;> simp -dsimp only [aqT, aqU, aqN, aqS, ↓seqK, ↓blkK, ↓loopK, step, stepBin, Nat.add_assoc nid, ↓reduceIte, Option.toList, ← Int.ofNat_tmod, ← Int.ofNat_tdiv, simprocAttr, BEq.rfl, LN_succ]
    · have e : respB s = false := by
        unfold respB
        rw [← any_range, show (List.range s.length).any (fun i => oddC (s.getD i 0)) = true from List.any_eq_true.2 ⟨k, List.mem_range.2 hkl, h4⟩]
        simp
      rw [e]
      refine RetOK.pure (.inl rfl) rfl ?_
      simp [cvT, step, res]
    · refine ⟨by unfold inI64; omega, k + 1, ⟨⟨by omega, fun j hj => ?_⟩, by omega⟩, Cov.go [] [] ?_⟩
      · rcases (by omega : j < k ∨ j = k) with hj | hj
        · exact hall j hj
        · rw [hj]; exact h4
      · simp [cvT, step, res]
  · have e : respB s = !outB s.length 1 100 := by
      unfold respB
      have : (List.range s.length).any (fun i => oddC (s.getD i 0)) = false := by
        rw [List.any_eq_false]
        intro i hi
        rw [hall i (by have := List.mem_range.1 hi; omega)]
        simp
      rw [← any_range, this]
      simp
    refine CallO.pure (out_c _ _ _ _) ?_
    simp -dsimp only [aqT, aqU, aqN, ↓seqK, ↓blkK, ↓loopK, step, stepBin, Nat.reduceBEq, Nat.reduceBeqDiff, Nat.add_assoc nid, Nat.reduceAdd, reduceCtorEq, ↓reduceIte, Nat.reduceLeDiff, Nat.reduceBneDiff, Option.toList, ← Int.ofNat_tmod, ← Int.ofNat_tdiv, Nat.reduceLT]
    rw [e]
    refine RetOK.pure (.inl rfl) rfl ?_
    simp [cvT, step, res]
end Go.Proofs.YtpifoghhaohhaaaGreatDoor
namespace Go.Proofs.YtpifoghhaohhaaaGreatDoor
open Go.RowKit Go.Shelf Go.Lib
theorem trim_none (s cs : List UInt8) : (Lib.trimS s cs == []) = s.all cs.contains := by
  have key : Lib.trimS s cs = [] ↔ s.all cs.contains = true := by
    unfold Lib.trimS Lib.trimLeftS
    rw [dropW_nil]
    unfold Lib.trimRightS
    constructor
    · intro h
      cases hd : s.reverse.dropWhile cs.contains with
      | nil =>
        rw [dropW_nil, List.all_reverse] at hd
        exact hd
      | cons a r =>
        have hne : s.reverse.dropWhile cs.contains ≠ [] := by rw [hd]; simp
        have hh := List.head_dropWhile_not cs.contains hne
        have hm : ((s.reverse.dropWhile cs.contains).head hne) ∈ (s.reverse.dropWhile cs.contains).reverse := List.mem_reverse.2 (List.head_mem _)
        have := List.all_eq_true.1 h _ hm
        rw [this] at hh
        cases hh
    · intro h
      have : s.reverse.dropWhile cs.contains = [] := by rw [dropW_nil, List.all_reverse]; exact h
      rw [this]
      rfl
  rw [Bool.eq_iff_iff, beq_iff_eq]
  exact key
def keyL : List UInt8 := [97, 98, 99, 100, 101, 102, 103, 104, 105, 106, 107, 108, 109, 110, 111, 112, 113, 114, 115, 116, 117, 118, 119, 120, 121, 122, 48, 49, 50, 51, 52, 53, 54, 55, 56, 57, 45, 95]
def lowL : List UInt8 := [97, 98, 99, 100, 101, 102, 103, 104, 105, 106, 107, 108, 109, 110, 111, 112, 113, 114, 115, 116, 117, 118, 119, 120, 121, 122]
def lowI (c : Int) : Bool := decide (97 ≤ c) && decide (c ≤ 122)
def keyI (c : Int) : Bool := lowI c || (decide (48 ≤ c) && decide (c ≤ 57)) || c == 45 || c == 95
def keyC (b : UInt8) : Bool := keyI ((b.toNat : Nat) : Int)
theorem keyC_in (b : UInt8) : keyL.contains b = keyC b := by
  have h : ∀ n : Nat, n < 256 → keyL.contains n.toUInt8 = keyI (n : Int) := by decide +kernel
  have := h b.toNat (UInt8.toNat_lt b)
  rwa [show b.toNat.toUInt8 = b by simp] at this
theorem lowC_in (b : UInt8) : decide (0 ≤ Lib.indexByte lowL b) = lowI ((b.toNat : Nat) : Int) := by
  have h : ∀ n : Nat, n < 256 → decide (0 ≤ Lib.indexByte lowL n.toUInt8) = lowI (n : Int) := by decide +kernel
  have := h b.toNat (UInt8.toNat_lt b)
  rwa [show b.toNat.toUInt8 = b by simp] at this
def keyB (s : List UInt8) : Bool := !outB s.length 1 40 && s.all keyC && lowI (((s.getD 0 0).toNat : Nat) : Int)
theorem keyR_c (s : List UInt8) (nid : Nat) : ACall Tryz.prog 88 [.str s] [] nid (.bool (keyB s)) [] := by
  refine acall_run c88 (by simp [a88]) ?_
  simp -dsimp only [aqT, aqU, aqN, ↓seqK, ↓blkK, ↓loopK, step, stepBin, Nat.reduceBEq, Nat.reduceBeqDiff, Nat.add_assoc nid, Nat.reduceAdd, reduceCtorEq, ↓reduceIte, Nat.reduceLeDiff, Nat.reduceBneDiff, Option.toList, ← Int.ofNat_tmod, ← Int.ofNat_tdiv, Nat.reduceLT, a88]
  refine CallO.pure (in_c _ _ _ _) ?_
  simp -dsimp only [aqT, aqU, aqN, ↓seqK, ↓blkK, ↓loopK, step, stepBin, Nat.reduceBEq, Nat.reduceBeqDiff, Nat.add_assoc nid, Nat.reduceAdd, reduceCtorEq, ↓reduceIte, Nat.reduceLeDiff, Nat.reduceBneDiff, Option.toList, ← Int.ofNat_tmod, ← Int.ofNat_tdiv, Nat.reduceLT]
  have ht : (Lib.trimS s keyL == []) = s.all keyC := by rw [trim_none]; congr 1; funext b; exact keyC_in b
  unfold keyL at ht
  have hi := lowC_in (s.getD 0 0)
  unfold lowL at hi
  unfold keyB
  cases h : outB s.length 1 40 <;> simp -dsimp only [aqT, aqU, aqN, aqS, ↓seqK, ↓blkK, ↓loopK, step, stepBin, Nat.add_assoc nid, ↓reduceIte, Option.toList, ← Int.ofNat_tmod, ← Int.ofNat_tdiv, simprocAttr, BEq.rfl, LN_succ, Bool.not_false, Bool.not_true]
  · have hl : 1 ≤ s.length ∧ s.length ≤ 40 := by unfold outB at h; have := of_decide_eq_false h; omega
    refine CallO.pure (trim_cc s _ _ (by omega) (by decide) (by decide)) ?_
    simp -dsimp only [aqT, aqU, aqN, aqS, ↓seqK, ↓blkK, ↓loopK, step, stepBin, Nat.add_assoc nid, ↓reduceIte, Option.toList, ← Int.ofNat_tmod, ← Int.ofNat_tdiv, simprocAttr, BEq.rfl, LN_succ]
    rw [ht]
    cases h2 : s.all keyC <;> simp -dsimp only [aqT, aqU, aqN, aqS, ↓seqK, ↓blkK, ↓loopK, step, stepBin, Nat.add_assoc nid, ↓reduceIte, Option.toList, ← Int.ofNat_tmod, ← Int.ofNat_tdiv, simprocAttr, BEq.rfl, LN_succ, Bool.not_false, Bool.not_true]
    · refine RetOK.pure (.inl rfl) rfl ?_
      simp [cvT, step, res]
    · refine ⟨by omega, ?_⟩
      refine CallO.pure (indexK_c _ _ _) ?_
      simp -dsimp only [aqT, aqU, aqN, aqS, ↓seqK, ↓blkK, ↓loopK, step, stepBin, Nat.add_assoc nid, ↓reduceIte, Option.toList, ← Int.ofNat_tmod, ← Int.ofNat_tdiv, simprocAttr, BEq.rfl, LN_succ]
      rw [show (s.getD 0 0).toNat.toUInt8 = s.getD 0 0 by simp, hi]
      refine RetOK.pure (.inl rfl) rfl ?_
      simp [cvT, step, res]
  · refine RetOK.pure (.inl rfl) rfl ?_
    simp [cvT, step, res]
theorem keyI_iff {c : Int} : keyI c = true ↔ (97 ≤ c ∧ c ≤ 122) ∨ (48 ≤ c ∧ c ≤ 57) ∨ c = 45 ∨ c = 95 := by
  unfold keyI lowI
  simp only [Bool.or_eq_true, Bool.and_eq_true, decide_eq_true_eq, beq_iff_eq]
  omega
theorem keyI_no {c : Int} (h : ¬ ((97 ≤ c ∧ c ≤ 122) ∨ (48 ≤ c ∧ c ≤ 57) ∨ c = 45 ∨ c = 95)) : keyI c = false := by
  have := mt keyI_iff.1 h
  simpa using this
theorem keyB_bad {s : List UInt8} (h : s.length < 1 ∨ 40 < s.length ∨ (((s.getD 0 0).toNat : Nat) : Int) < 97 ∨ (122 : Int) < ((s.getD 0 0).toNat : Nat)) : keyB s = false := by
  have : ¬ keyB s = true := fun e => by
    unfold keyB outB lowI at e
    simp only [Bool.and_eq_true, Bool.not_eq_true', decide_eq_true_eq, decide_eq_false_iff_not] at e
    omega
  simpa using this
theorem keyB_good {s : List UInt8} (h1 : 1 ≤ s.length) (h2 : s.length ≤ 40) (h3 : (97 : Int) ≤ ((s.getD 0 0).toNat : Nat)) (h4 : (((s.getD 0 0).toNat : Nat) : Int) ≤ 122) : keyB s = s.all keyC := by
  have a : outB s.length 1 40 = false := by unfold outB; exact decide_eq_false (by omega)
  have b : lowI (((s.getD 0 0).toNat : Nat) : Int) = true := by unfold lowI; rw [decide_eq_true h3, decide_eq_true h4]; rfl
  unfold keyB
  rw [a, b, Bool.and_true, Bool.not_false, Bool.true_and]
theorem keyC_all {s : List UInt8} (h : ∀ j, j < s.length → keyC (s.getD j 0) = true) : s.all keyC = true := by
  rw [List.all_eq_true]
  intro x hx
  obtain ⟨j, hj, rfl⟩ := List.getElem_of_mem hx
  have := h j hj
  rwa [List.getD_eq_getElem?_getD, List.getElem?_eq_getElem hj] at this
theorem keyC_not {s : List UInt8} {k : Nat} (hk : k < s.length) (h : keyC (s.getD k 0) = false) : s.all keyC = false := by
  rw [List.all_eq_false]
  refine ⟨s[k], List.getElem_mem _, ?_⟩
  rw [List.getD_eq_getElem?_getD, List.getElem?_eq_getElem hk] at h
  rw [show s[k] = (some s[k]).getD 0 from rfl, h]
  simp
set_option maxHeartbeats 1000000 in
theorem keyD_c (s : List UInt8) (nid : Nat) (hs : s.length ≤ 1000000) : ACall Tryz.prog 154 [.str s] [] nid (.bool (keyB s)) [] := by
  refine acall_sr c154 (by simp [a154]) ?_
  unfold a154
  refine SR.seq ?_
  simp -dsimp only [aqT, aqU, aqN, aqS, ↓seqK, ↓blkK, ↓loopK, step, stepBin, Nat.add_assoc nid, ↓reduceIte, Option.toList, ← Int.ofNat_tmod, ← Int.ofNat_tdiv, simprocAttr, BEq.rfl, LN_succ]
  refine SR.seqW (ι := {_u : Unit // (1 ≤ s.length ∧ s.length ≤ 40) ∧ (97 : Int) ≤ ((s.getD 0 0).toNat : Nat) ∧ (((s.getD 0 0).toNat : Nat) : Int) ≤ 122}) (fun _ => ⟨[(0, .str s)], [], nid + 80, nid⟩) ?_ (fun ⟨_, ⟨h1, h2⟩, h3, h4⟩ => ?_)
  · refine SR.run (t := .mk) ?_
    simp -dsimp only [aqT, aqU, aqN, aqS, ↓seqK, ↓blkK, ↓loopK, step, stepBin, Nat.add_assoc nid, ↓reduceIte, Option.toList, ← Int.ofNat_tmod, ← Int.ofNat_tdiv, simprocAttr, BEq.rfl, LN_succ]
    refine S2.intro (fun h1 => ?_) (fun h1 => ?_) <;> simp -dsimp only [aqT, aqU, aqN, aqS, ↓seqK, ↓blkK, ↓loopK, step, stepBin, Nat.add_assoc nid, ↓reduceIte, Option.toList, ← Int.ofNat_tmod, ← Int.ofNat_tdiv, simprocAttr, BEq.rfl, LN_succ]
    · rw [keyB_bad (.inl (by simp at h1; subst h1; simp))]
      refine RetOK.pure (.inl rfl) rfl ?_
      simp [cvT, step, res]
    have h1 : 1 ≤ s.length := by have : s ≠ [] := by simpa using h1
                                 have := List.length_pos_iff.2 this
                                 omega
    refine S2.dec (fun h2 => ?_) (fun h2 => ?_) <;> simp -dsimp only [aqT, aqU, aqN, aqS, ↓seqK, ↓blkK, ↓loopK, step, stepBin, Nat.add_assoc nid, ↓reduceIte, Option.toList, ← Int.ofNat_tmod, ← Int.ofNat_tdiv, simprocAttr, BEq.rfl, LN_succ]
    · rw [keyB_bad (.inr (.inl (by omega)))]
      refine RetOK.pure (.inl rfl) rfl ?_
      simp [cvT, step, res]
    refine ⟨by omega, ?_⟩
    refine S2.dec (fun h3 => ?_) (fun h3 => ?_) <;> simp -dsimp only [aqT, aqU, aqN, aqS, ↓seqK, ↓blkK, ↓loopK, step, stepBin, Nat.add_assoc nid, ↓reduceIte, Option.toList, ← Int.ofNat_tmod, ← Int.ofNat_tdiv, simprocAttr, BEq.rfl, LN_succ]
    · rw [keyB_bad (.inr (.inr (.inl (by omega))))]
      refine RetOK.pure (.inl rfl) rfl ?_
      simp [cvT, step, res]
    refine ⟨by omega, ?_⟩
    refine S2.dec (fun h4 => ?_) (fun h4 => ?_) <;> simp -dsimp only [aqT, aqU, aqN, aqS, ↓seqK, ↓blkK, ↓loopK, step, stepBin, Nat.add_assoc nid, ↓reduceIte, Option.toList, ← Int.ofNat_tmod, ← Int.ofNat_tdiv, simprocAttr, BEq.rfl, LN_succ]
    · rw [keyB_bad (.inr (.inr (.inr (by omega))))]
      refine RetOK.pure (.inl rfl) rfl ?_
      simp [cvT, step, res]
    refine ⟨⟨(), ⟨h1, by omega⟩, by omega, by omega⟩, Cov.drop (by omega) ?_⟩
    simp only [SlotsIn, aqT, aqU, aqN, ↓seqK, ↓blkK, ↓loopK, step, stepBin, Nat.reduceBEq, Nat.reduceBeqDiff, Nat.add_assoc nid, Nat.reduceAdd, reduceCtorEq, ↓reduceIte, Nat.reduceLeDiff, Nat.reduceBneDiff, Option.toList, ← Int.ofNat_tmod, ← Int.ofNat_tdiv, Nat.reduceLT]
    try simp
  rw [keyB_good h1 h2 h3 h4]
  clear h3 h4
  refine SR.seqW (ι := {_u : Unit // s.all keyC = true}) (fun _ => ⟨[(0, .str s)], [], nid + 400, nid⟩) ?_ (fun ⟨_, h5⟩ => ?_)
  · refine SR.seqTo ⟨[(24, .int .i64 0), (23, .int .i64 s.length), (0, .str s)], [], nid + 100, nid⟩ ?_ ?_
    · simp -dsimp only [aqT, aqU, aqN, aqS, ↓seqK, ↓blkK, ↓loopK, step, stepBin, Nat.add_assoc nid, ↓reduceIte, Option.toList, ← Int.ofNat_tmod, ← Int.ofNat_tdiv, simprocAttr, BEq.rfl, LN_succ]
      refine Cov.drop (by omega) ?_
      simp only [SlotsIn, aqT, aqU, aqN, ↓seqK, ↓blkK, ↓loopK, step, stepBin, Nat.reduceBEq, Nat.reduceBeqDiff, Nat.add_assoc nid, Nat.reduceAdd, reduceCtorEq, ↓reduceIte, Nat.reduceLeDiff, Nat.reduceBneDiff, Option.toList, ← Int.ofNat_tmod, ← Int.ofNat_tdiv, Nat.reduceLT]
      try simp
    refine SR.block ?_
    refine SR.loopP (fun k : Nat => k ≤ s.length ∧ ∀ j, j < k → keyC (s.getD j 0) = true) (fun k : Nat => ⟨[(24, .int .i64 k), (23, .int .i64 s.length), (0, .str s)], [], nid + 100, nid⟩) (fun k => s.length + 1 - k) 0 ⟨by omega, fun j hj => by omega⟩ (Cov.drop (by omega) ?_) (fun k hk => ?_)
    · simp only [SlotsIn, aqT, aqU, aqN, ↓seqK, ↓blkK, ↓loopK, step, stepBin, Nat.reduceBEq, Nat.reduceBeqDiff, Nat.add_assoc nid, Nat.reduceAdd, reduceCtorEq, ↓reduceIte, Nat.reduceLeDiff, Nat.reduceBneDiff, Option.toList, ← Int.ofNat_tmod, ← Int.ofNat_tdiv, Nat.reduceLT]
      try simp
    obtain ⟨hk, hall⟩ := hk
    refine SR.seq ?_
    simp -dsimp only [aqT, aqU, aqN, aqS, ↓seqK, ↓blkK, ↓loopK, step, stepBin, Nat.add_assoc nid, ↓reduceIte, Option.toList, ← Int.ofNat_tmod, ← Int.ofNat_tdiv, simprocAttr, BEq.rfl, LN_succ]
    refine SR.seq ?_
    simp -dsimp only [aqT, aqU, aqN, aqS, ↓seqK, ↓blkK, ↓loopK, step, stepBin, Nat.add_assoc nid, ↓reduceIte, Option.toList, ← Int.ofNat_tmod, ← Int.ofNat_tdiv, simprocAttr, BEq.rfl, LN_succ]
    refine S2.dec (fun h3 => ?_) (fun h3 => ?_) <;> simp -dsimp only [aqT, aqU, aqN, aqS, ↓seqK, ↓blkK, ↓loopK, step, stepBin, Nat.add_assoc nid, ↓reduceIte, Option.toList, ← Int.ofNat_tmod, ← Int.ofNat_tdiv, simprocAttr, BEq.rfl, LN_succ]
    · have hkl : k < s.length := by omega
      have hno := keyC_not hkl
      have hyes : keyC (s.getD k 0) = true → ∀ j, j < k + 1 → keyC (s.getD j 0) = true := fun h j hj => by
        rcases (by omega : j < k ∨ j = k) with hj | hj
        · exact hall j hj
        · rw [hj]; exact h
      have ek : keyC (s.getD k 0) = keyI (((s.getD k 0).toNat : Nat) : Int) := rfl
      rw [ek] at hno hyes
      clear ek hall h3
      refine SR.seqW (ι := {_u : Unit // keyI (((s.getD k 0).toNat : Nat) : Int) = true}) (fun _ => ⟨[(24, .int .i64 k), (23, .int .i64 s.length), (0, .str s)], [], nid + 400, nid⟩) ?_ (fun ⟨_, h6⟩ => ?_)
      · refine SR.block ?_
        refine SR.seq ?_
        simp -dsimp only [aqT, aqU, aqN, aqS, ↓seqK, ↓blkK, ↓loopK, step, stepBin, Nat.add_assoc nid, ↓reduceIte, Option.toList, ← Int.ofNat_tmod, ← Int.ofNat_tdiv, simprocAttr, BEq.rfl, LN_succ]
        refine SR.seqTo ⟨[(4, .int .u8 (((s.getD k 0).toNat : Nat) : Int)), (24, .int .i64 k), (23, .int .i64 s.length), (0, .str s)], [], nid + 200, nid⟩ ?_ ?_
        · simp -dsimp only [aqT, aqU, aqN, aqS, ↓seqK, ↓blkK, ↓loopK, step, stepBin, Nat.add_assoc nid, ↓reduceIte, Option.toList, ← Int.ofNat_tmod, ← Int.ofNat_tdiv, simprocAttr, BEq.rfl, LN_succ]
          refine ⟨by omega, Cov.drop (by omega) ?_⟩
          simp only [SlotsIn, aqT, aqU, aqN, ↓seqK, ↓blkK, ↓loopK, step, stepBin, Nat.reduceBEq, Nat.reduceBeqDiff, Nat.add_assoc nid, Nat.reduceAdd, reduceCtorEq, ↓reduceIte, Nat.reduceLeDiff, Nat.reduceBneDiff, Option.toList, ← Int.ofNat_tmod, ← Int.ofNat_tdiv, Nat.reduceLT]
          try simp
        clear hyes
        generalize (((s.getD k 0).toNat : Nat) : Int) = c at *
        refine SR.seqTo ⟨[(52, .bool (!keyI c)), (24, .int .i64 k), (23, .int .i64 s.length), (0, .str s)], [], nid + 300, nid⟩ ?_ ?_
        · have cls : (97 ≤ c ∧ c ≤ 122) ∨ (48 ≤ c ∧ c ≤ 57) ∨ c = 45 ∨ c = 95 ∨ 122 < c ∨ (57 < c ∧ c < 97 ∧ c ≠ 95) ∨ (c < 48 ∧ c ≠ 45) := by omega
          clear hno
          rcases cls with hc | hc | hc | hc | hc | hc | hc
          · rw [keyI_iff.2 (by omega)]
            simp -dsimp only [aqT, aqU, aqN, aqS, ↓seqK, ↓blkK, ↓loopK, step, stepBin, Nat.add_assoc nid, ↓reduceIte, Option.toList, ← Int.ofNat_tmod, ← Int.ofNat_tdiv, simprocAttr, BEq.rfl, LN_succ, decide_eq_true hc.1, decide_eq_true hc.2]
            exact Cov.drop (by omega) (by simp only [SlotsIn, aqT, aqU, aqN, ↓seqK, ↓blkK, ↓loopK, step, stepBin, Nat.reduceBEq, Nat.reduceBeqDiff, Nat.add_assoc nid, Nat.reduceAdd, reduceCtorEq, ↓reduceIte, Nat.reduceLeDiff, Nat.reduceBneDiff, Option.toList, ← Int.ofNat_tmod, ← Int.ofNat_tdiv, Nat.reduceLT])
          · rw [keyI_iff.2 (by omega)]
            simp -dsimp only [aqT, aqU, aqN, aqS, ↓seqK, ↓blkK, ↓loopK, step, stepBin, Nat.add_assoc nid, ↓reduceIte, Option.toList, ← Int.ofNat_tmod, ← Int.ofNat_tdiv, simprocAttr, BEq.rfl, LN_succ, decide_eq_false (show ¬ (97 : Int) ≤ c by omega), decide_eq_true hc.1, decide_eq_true hc.2]
            exact Cov.drop (by omega) (by simp only [SlotsIn, aqT, aqU, aqN, ↓seqK, ↓blkK, ↓loopK, step, stepBin, Nat.reduceBEq, Nat.reduceBeqDiff, Nat.add_assoc nid, Nat.reduceAdd, reduceCtorEq, ↓reduceIte, Nat.reduceLeDiff, Nat.reduceBneDiff, Option.toList, ← Int.ofNat_tmod, ← Int.ofNat_tdiv, Nat.reduceLT])
          · rw [keyI_iff.2 (by omega)]
            simp -dsimp only [aqT, aqU, aqN, aqS, ↓seqK, ↓blkK, ↓loopK, step, stepBin, Nat.add_assoc nid, ↓reduceIte, Option.toList, ← Int.ofNat_tmod, ← Int.ofNat_tdiv, simprocAttr, BEq.rfl, LN_succ, decide_eq_false (show ¬ (97 : Int) ≤ c by omega), decide_eq_false (show ¬ (48 : Int) ≤ c by omega), show (c == 45) = true by simp [hc]]
            exact Cov.drop (by omega) (by simp only [SlotsIn, aqT, aqU, aqN, ↓seqK, ↓blkK, ↓loopK, step, stepBin, Nat.reduceBEq, Nat.reduceBeqDiff, Nat.add_assoc nid, Nat.reduceAdd, reduceCtorEq, ↓reduceIte, Nat.reduceLeDiff, Nat.reduceBneDiff, Option.toList, ← Int.ofNat_tmod, ← Int.ofNat_tdiv, Nat.reduceLT])
          · rw [keyI_iff.2 (by omega)]
            simp -dsimp only [aqT, aqU, aqN, aqS, ↓seqK, ↓blkK, ↓loopK, step, stepBin, Nat.add_assoc nid, ↓reduceIte, Option.toList, ← Int.ofNat_tmod, ← Int.ofNat_tdiv, simprocAttr, BEq.rfl, LN_succ, decide_eq_false (show ¬ (97 : Int) ≤ c by omega), decide_eq_true (show (48 : Int) ≤ c by omega), decide_eq_false (show ¬ c ≤ (57 : Int) by omega), show (c == 45) = false by simp [hc], show (c == 95) = true by simp [hc]]
            exact Cov.drop (by omega) (by simp only [SlotsIn, aqT, aqU, aqN, ↓seqK, ↓blkK, ↓loopK, step, stepBin, Nat.reduceBEq, Nat.reduceBeqDiff, Nat.add_assoc nid, Nat.reduceAdd, reduceCtorEq, ↓reduceIte, Nat.reduceLeDiff, Nat.reduceBneDiff, Option.toList, ← Int.ofNat_tmod, ← Int.ofNat_tdiv, Nat.reduceLT])
          · rw [keyI_no (by omega)]
            simp -dsimp only [aqT, aqU, aqN, aqS, ↓seqK, ↓blkK, ↓loopK, step, stepBin, Nat.add_assoc nid, ↓reduceIte, Option.toList, ← Int.ofNat_tmod, ← Int.ofNat_tdiv, simprocAttr, BEq.rfl, LN_succ, decide_eq_true (show (97 : Int) ≤ c by omega), decide_eq_false (show ¬ c ≤ (122 : Int) by omega), decide_eq_true (show (48 : Int) ≤ c by omega), decide_eq_false (show ¬ c ≤ (57 : Int) by omega), show (c == 45) = false by simp; omega, show (c == 95) = false by simp; omega]
            exact Cov.drop (by omega) (by simp only [SlotsIn, aqT, aqU, aqN, ↓seqK, ↓blkK, ↓loopK, step, stepBin, Nat.reduceBEq, Nat.reduceBeqDiff, Nat.add_assoc nid, Nat.reduceAdd, reduceCtorEq, ↓reduceIte, Nat.reduceLeDiff, Nat.reduceBneDiff, Option.toList, ← Int.ofNat_tmod, ← Int.ofNat_tdiv, Nat.reduceLT])
          · rw [keyI_no (by omega)]
            simp -dsimp only [aqT, aqU, aqN, aqS, ↓seqK, ↓blkK, ↓loopK, step, stepBin, Nat.add_assoc nid, ↓reduceIte, Option.toList, ← Int.ofNat_tmod, ← Int.ofNat_tdiv, simprocAttr, BEq.rfl, LN_succ, decide_eq_false (show ¬ (97 : Int) ≤ c by omega), decide_eq_true (show (48 : Int) ≤ c by omega), decide_eq_false (show ¬ c ≤ (57 : Int) by omega), show (c == 45) = false by simp; omega, show (c == 95) = false by simp; omega]
            exact Cov.drop (by omega) (by simp only [SlotsIn, aqT, aqU, aqN, ↓seqK, ↓blkK, ↓loopK, step, stepBin, Nat.reduceBEq, Nat.reduceBeqDiff, Nat.add_assoc nid, Nat.reduceAdd, reduceCtorEq, ↓reduceIte, Nat.reduceLeDiff, Nat.reduceBneDiff, Option.toList, ← Int.ofNat_tmod, ← Int.ofNat_tdiv, Nat.reduceLT])
          · rw [keyI_no (by omega)]
            simp -dsimp only [aqT, aqU, aqN, aqS, ↓seqK, ↓blkK, ↓loopK, step, stepBin, Nat.add_assoc nid, ↓reduceIte, Option.toList, ← Int.ofNat_tmod, ← Int.ofNat_tdiv, simprocAttr, BEq.rfl, LN_succ, decide_eq_false (show ¬ (97 : Int) ≤ c by omega), decide_eq_false (show ¬ (48 : Int) ≤ c by omega), show (c == 45) = false by simp; omega, show (c == 95) = false by simp; omega]
            exact Cov.drop (by omega) (by simp only [SlotsIn, aqT, aqU, aqN, ↓seqK, ↓blkK, ↓loopK, step, stepBin, Nat.reduceBEq, Nat.reduceBeqDiff, Nat.add_assoc nid, Nat.reduceAdd, reduceCtorEq, ↓reduceIte, Nat.reduceLeDiff, Nat.reduceBneDiff, Option.toList, ← Int.ofNat_tmod, ← Int.ofNat_tdiv, Nat.reduceLT])
        refine SR.run (t := .mk) ?_
        cases hb : keyI c
        · rw [hno hb]
          simp -dsimp only [aqT, aqU, aqN, aqS, ↓seqK, ↓blkK, ↓loopK, step, stepBin, Nat.add_assoc nid, ↓reduceIte, Option.toList, ← Int.ofNat_tmod, ← Int.ofNat_tdiv, simprocAttr, BEq.rfl, LN_succ]
          refine RetOK.pure (.inl rfl) rfl ?_
          simp [cvT, step, res]
        · simp -dsimp only [aqT, aqU, aqN, aqS, ↓seqK, ↓blkK, ↓loopK, step, stepBin, Nat.add_assoc nid, ↓reduceIte, Option.toList, ← Int.ofNat_tmod, ← Int.ofNat_tdiv, simprocAttr, BEq.rfl, LN_succ]
          refine ⟨⟨(), rfl⟩, Cov.drop (by omega) ?_⟩
          simp only [SlotsIn, aqT, aqU, aqN, ↓seqK, ↓blkK, ↓loopK, step, stepBin, Nat.reduceBEq, Nat.reduceBeqDiff, Nat.add_assoc nid, Nat.reduceAdd, reduceCtorEq, ↓reduceIte, Nat.reduceLeDiff, Nat.reduceBneDiff, Option.toList, ← Int.ofNat_tmod, ← Int.ofNat_tdiv, Nat.reduceLT]
          try simp
      refine SR.run (t := .mk) ?_
      simp -dsimp only [aqT, aqU, aqN, aqS, ↓seqK, ↓blkK, ↓loopK, step, stepBin, Nat.add_assoc nid, ↓reduceIte, Option.toList, ← Int.ofNat_tmod, ← Int.ofNat_tdiv, simprocAttr, BEq.rfl, LN_succ]
      refine ⟨by unfold inI64; omega, k + 1, ⟨⟨by omega, hyes h6⟩, by omega⟩, Cov.go [] [] ?_⟩
      simp [cvT, step, res]
    · refine ⟨⟨(), keyC_all (fun j hj => hall j (by omega))⟩, Cov.drop (by omega) ?_⟩
      simp only [SlotsIn, aqT, aqU, aqN, ↓seqK, ↓blkK, ↓loopK, step, stepBin, Nat.reduceBEq, Nat.reduceBeqDiff, Nat.add_assoc nid, Nat.reduceAdd, reduceCtorEq, ↓reduceIte, Nat.reduceLeDiff, Nat.reduceBneDiff, Option.toList, ← Int.ofNat_tmod, ← Int.ofNat_tdiv, Nat.reduceLT]
      try simp
  · rw [h5]
    refine SR.run (t := .mk) ?_
    simp -dsimp only [aqT, aqU, aqN, aqS, ↓seqK, ↓blkK, ↓loopK, step, stepBin, Nat.add_assoc nid, ↓reduceIte, Option.toList, ← Int.ofNat_tmod, ← Int.ofNat_tdiv, simprocAttr, BEq.rfl, LN_succ]
    refine RetOK.pure (.inl rfl) rfl ?_
    simp [cvT, step, res]
end Go.Proofs.YtpifoghhaohhaaaGreatDoor
namespace Go.Proofs.YtpifoghhaohhaaaGreatDoor
open Go.RowKit Go.Shelf Go.Lib
theorem getD_lt {l : List (List UInt8)} {k : Nat} (hk : k < l.length) : l.getD k [] = l[k] := by rw [List.getD_eq_getElem?_getD, List.getElem?_eq_getElem hk]; rfl
def idxF (F : List UInt8 → Bool) (l : List (List UInt8)) : Int := if l.any F = true then ((l.findIdx F : Nat) : Int) else -1
theorem idxF_at {F : List UInt8 → Bool} {l : List (List UInt8)} {k : Nat} (hk : k < l.length) (h : F (l.getD k []) = true) (h0 : ∀ j, j < k → F (l.getD j []) = false) : idxF F l = (k : Nat) := by
  have e : l.findIdx F = k := (List.findIdx_eq hk).2 ⟨by rw [getD_lt hk] at h; exact h, fun j hj => by have := h0 j hj; rw [getD_lt (by omega)] at this; exact this⟩
  unfold idxF
  rw [if_pos, e]
  refine List.any_eq_true.2 ⟨l[k], List.getElem_mem hk, ?_⟩
  rw [getD_lt hk] at h; exact h
theorem idxF_no {F : List UInt8 → Bool} {l : List (List UInt8)} (h0 : ∀ j, j < l.length → F (l.getD j []) = false) : idxF F l = -1 := by
  unfold idxF
  rw [if_neg]
  intro h
  obtain ⟨x, hx, hf⟩ := List.any_eq_true.1 h
  obtain ⟨j, hj, rfl⟩ := List.getElem_of_mem hx
  have := h0 j hj
  rw [getD_lt hj, hf] at this; cases this
theorem indexM_c (f : Nat) (F : List UInt8 → Bool) (nl : Bool) (l : List (List UInt8)) (nid : Nat) (hl : l.length ≤ 1000000) (hs : ShortRows 1000000 l) (hf : ∀ x m, x.length ≤ 1000000 → ACall Tryz.prog f [.str x] [] m (.bool (F x)) []) :
    ACall Tryz.prog 151 [litS nl l, .fn f []] [] nid (.int .i64 (idxF F l)) [] := by
  refine acall_run c151 (by simp [a151]) ?_
  unfold litS
  simp -dsimp only [aqT, aqU, aqN, aqS, ↓seqK, ↓blkK, ↓loopK, step, stepBin, Nat.add_assoc nid, ↓reduceIte, Option.toList, ← Int.ofNat_tmod, ← Int.ofNat_tdiv, simprocAttr, BEq.rfl, LN_succ, a151]
  refine LP.mkP (fun k : Nat => k ≤ l.length ∧ ∀ j, j < k → F (l.getD j []) = false) (fun k : Nat => ⟨[(8, .int .i64 k), (7, .int .i64 l.length), (0, litS nl l), (1, .fn f [])], [], nid + 100, nid⟩) (fun k => l.length + 1 - k) 0 ⟨by omega, fun j hj => by omega⟩ (Cov.go [] [] ?_) (fun k hk => ?_)
  · simp [cvT, step, res, litS]
  obtain ⟨hk, hb⟩ := hk
  unfold litS
  simp -dsimp only [aqT, aqU, aqN, aqS, ↓seqK, ↓blkK, ↓loopK, step, stepBin, Nat.add_assoc nid, ↓reduceIte, Option.toList, ← Int.ofNat_tmod, ← Int.ofNat_tdiv, simprocAttr, BEq.rfl, LN_succ]
  refine S2.dec (fun h3 => ?_) (fun h3 => ?_) <;> simp -dsimp only [aqT, aqU, aqN, aqS, ↓seqK, ↓blkK, ↓loopK, step, stepBin, Nat.add_assoc nid, ↓reduceIte, Option.toList, ← Int.ofNat_tmod, ← Int.ofNat_tdiv, simprocAttr, BEq.rfl, LN_succ]
  · have hkl : k < l.length := by omega
    have hat := fun h => idxF_at (F := F) hkl h hb
    have hnx : F (l.getD k []) = false → ∀ j, j < k + 1 → F (l.getD j []) = false := fun h j hj => by
      by_cases e : j = k
      · rw [e]; exact h
      · exact hb j (by omega)
    have hx := hs.at k
    generalize l.getD k [] = x at *
    refine ⟨by omega, CallO.pure (hf x _ hx) ?_⟩
    simp -dsimp only [aqT, aqU, aqN, aqS, ↓seqK, ↓blkK, ↓loopK, step, stepBin, Nat.add_assoc nid, ↓reduceIte, Option.toList, ← Int.ofNat_tmod, ← Int.ofNat_tdiv, simprocAttr, BEq.rfl, LN_succ]
    cases hx : F x <;> simp -dsimp only [aqT, aqU, aqN, aqS, ↓seqK, ↓blkK, ↓loopK, step, stepBin, Nat.add_assoc nid, ↓reduceIte, Option.toList, ← Int.ofNat_tmod, ← Int.ofNat_tdiv, simprocAttr, BEq.rfl, LN_succ]
    · refine ⟨by unfold inI64; omega, k + 1, ⟨⟨by omega, hnx hx⟩, by omega⟩, Cov.go [] [] ?_⟩
      simp [cvT, step, res, litS]
    · rw [hat hx]
      refine RetOK.pure (.inl rfl) rfl ?_
      simp [cvT, step, res]
  · have hkn : k = l.length := by omega
    subst hkn
    rw [idxF_no hb]
    refine RetOK.pure (.inl rfl) rfl ?_
    simp [cvT, step, res]
theorem containsM_c (f : Nat) (F : List UInt8 → Bool) (nl : Bool) (l : List (List UInt8)) (nid : Nat) (hl : l.length ≤ 1000000) (hs : ShortRows 1000000 l) (hf : ∀ x m, x.length ≤ 1000000 → ACall Tryz.prog f [.str x] [] m (.bool (F x)) []) :
    ACall Tryz.prog 61 [litS nl l, .fn f []] [] nid (.bool (l.any F)) [] := by
  have e : decide (0 ≤ idxF F l) = l.any F := by
    unfold idxF
    cases h : l.any F <;> simp
  refine acall_run c61 (by simp [a61]) ?_
  simp -dsimp only [aqT, aqU, aqN, aqS, ↓seqK, ↓blkK, ↓loopK, step, stepBin, Nat.add_assoc nid, ↓reduceIte, Option.toList, ← Int.ofNat_tmod, ← Int.ofNat_tdiv, simprocAttr, BEq.rfl, LN_succ, a61]
  refine CallO.pure (indexM_c f F nl l _ hl hs hf) ?_
  simp -dsimp only [aqT, aqU, aqN, aqS, ↓seqK, ↓blkK, ↓loopK, step, stepBin, Nat.add_assoc nid, ↓reduceIte, Option.toList, ← Int.ofNat_tmod, ← Int.ofNat_tdiv, simprocAttr, BEq.rfl, LN_succ]
  rw [e]
  refine RetOK.pure (.inl rfl) rfl ?_
  simp [cvT, step, res]
def oddS (s : List UInt8) : Bool := !respB s
theorem oddR_c (s : List UInt8) (nid : Nat) (hs : s.length ≤ 1000000) : ACall Tryz.prog 86 [.str s] [] nid (.bool (oddS s)) [] := by
  refine acall_run c86 (by simp [a86]) ?_
  simp -dsimp only [aqT, aqU, aqN, aqS, ↓seqK, ↓blkK, ↓loopK, step, stepBin, Nat.add_assoc nid, ↓reduceIte, Option.toList, ← Int.ofNat_tmod, ← Int.ofNat_tdiv, simprocAttr, BEq.rfl, LN_succ, a86]
  refine CallO.pure (respR_c _ _) ?_
  simp -dsimp only [aqT, aqU, aqN, ↓seqK, ↓blkK, ↓loopK, step, stepBin, Nat.reduceBEq, Nat.reduceBeqDiff, Nat.add_assoc nid, Nat.reduceAdd, reduceCtorEq, ↓reduceIte, Nat.reduceLeDiff, Nat.reduceBneDiff, Option.toList, ← Int.ofNat_tmod, ← Int.ofNat_tdiv, Nat.reduceLT]
  refine RetOK.pure (.inl rfl) rfl ?_
  simp [cvT, step, res, oddS]
theorem oddD_c (s : List UInt8) (nid : Nat) (hs : s.length ≤ 1000000) : ACall Tryz.prog 152 [.str s] [] nid (.bool (oddS s)) [] := by
  refine acall_run c152 (by simp [a152]) ?_
  simp -dsimp only [aqT, aqU, aqN, aqS, ↓seqK, ↓blkK, ↓loopK, step, stepBin, Nat.add_assoc nid, ↓reduceIte, Option.toList, ← Int.ofNat_tmod, ← Int.ofNat_tdiv, simprocAttr, BEq.rfl, LN_succ, a152]
  refine CallO.pure (respD_c _ _ hs) ?_
  simp -dsimp only [aqT, aqU, aqN, ↓seqK, ↓blkK, ↓loopK, step, stepBin, Nat.reduceBEq, Nat.reduceBeqDiff, Nat.add_assoc nid, Nat.reduceAdd, reduceCtorEq, ↓reduceIte, Nat.reduceLeDiff, Nat.reduceBneDiff, Option.toList, ← Int.ofNat_tmod, ← Int.ofNat_tdiv, Nat.reduceLT]
  refine RetOK.pure (.inl rfl) rfl ?_
  simp [cvT, step, res, oddS]
def rowBad (n : Nat) (R : RowL) (k : Nat) : Int :=
  if keyB (rowF R k) = false then 5 else if (rowR R k).length ≠ n then 3 else if (rowR R k).any oddS = true then 9 else if 0 < k ∧ (Op.bytesLess (rowF R k) (rowF R (k - 1)) || rowF R k == rowF R (k - 1)) = true then 7 else 0
def dictV (G : List (List UInt8)) (R : RowL) : Int :=
  if G.length = 0 then 8 else if 100 < G.length ∨ 300 < R.length then 2 else if G.any oddS = true then 9 else firstBad (rowBad G.length R) (List.range R.length)
structure DictW (G : List (List UInt8)) (R : RowL) : Prop where
  gl : G.length ≤ 1000000
  gs : ShortRows 1000000 G
  rl : R.length ≤ 1000000
  rs : ∀ k, (rowF R k).length ≤ 1000000 ∧ (rowR R k).length ≤ 1000000 ∧ ShortRows 1000000 (rowR R k)
theorem firstR_hit {f : Nat → Int} {n k : Nat} (hk : k < n) (h0 : ∀ j, j < k → f j = 0) (h : f k ≠ 0) : firstBad f (List.range n) = f k := by
  have e : List.range n = List.range k ++ (List.range' k (n - k)) := by
    rw [List.range_eq_range', List.range_eq_range', show List.range' 0 n = List.range' 0 (k + (n - k)) by congr 1; omega, ← List.range'_append_1]
    simp
  rw [e, firstBad_append]
  · rw [show n - k = (n - k - 1) + 1 by omega, List.range'_succ]
    simp [firstBad, h]
  · have : ∀ l : List Nat, (∀ j ∈ l, f j = 0) → firstBad f l = 0 := fun l => by
      induction l with
      | nil => intro _; rfl
      | cons a l ih => intro hl; simp only [firstBad]; rw [if_pos (hl a (by simp))]; exact ih (fun j hj => hl j (by simp [hj]))
    exact this _ (fun j hj => h0 j (List.mem_range.1 hj))
theorem firstR_none {f : Nat → Int} {n : Nat} (h0 : ∀ j, j < n → f j = 0) : firstBad f (List.range n) = 0 := by
  have : ∀ l : List Nat, (∀ j ∈ l, f j = 0) → firstBad f l = 0 := fun l => by
    induction l with
    | nil => intro _; rfl
    | cons a l ih => intro hl; simp only [firstBad]; rw [if_pos (hl a (by simp))]; exact ih (fun j hj => hl j (by simp [hj]))
  exact this _ (fun j hj => h0 j (List.mem_range.1 hj))
theorem dictV_row {G : List (List UInt8)} {R : RowL} {k : Nat} {e : Int} (h1 : G.length ≠ 0) (h2 : ¬ (100 < G.length ∨ 300 < R.length)) (h3 : G.any oddS = false) (hk : k < R.length) (h0 : ∀ j, j < k → rowBad G.length R j = 0) (h : rowBad G.length R k = e) (he : e ≠ 0) : dictV G R = e := by
  unfold dictV
  rw [if_neg h1, if_neg h2, if_neg (by simp [h3]), firstR_hit hk h0 (by rw [h]; exact he), h]
theorem dictV_good {G : List (List UInt8)} {R : RowL} (h1 : G.length ≠ 0) (h2 : ¬ (100 < G.length ∨ 300 < R.length)) (h3 : G.any oddS = false) (h0 : ∀ j, j < R.length → rowBad G.length R j = 0) : dictV G R = 0 := by
  unfold dictV
  rw [if_neg h1, if_neg h2, if_neg (by simp [h3]), firstR_none h0]
end Go.Proofs.YtpifoghhaohhaaaGreatDoor
namespace Go.Proofs.YtpifoghhaohhaaaGreatDoor
open Go.RowKit Go.Shelf Go.Lib
def boxP2 (g0 r0 : Bool) (b : Nat → Bool) (G : List (List UInt8)) (R : RowL) : Option ABlk := some (.box 29 [.lit g0 G.length [.s fun k => G.getD k []], .lit r0 R.length [.s fun k => rowF R k, .l b (fun k => (rowR R k).length) (fun k => [.s fun j => (rowR R k).getD j []])]])
set_option maxHeartbeats 1000000 in
theorem dictR_c (g0 r0 : Bool) (b : Nat → Bool) (G : List (List UInt8)) (R : RowL) (nid : Nat) (hB : DictW G R) : ACall Tryz.prog 17 [dictP g0 r0 b G R] [] nid (.int .i64 (dictV G R)) [] := by
  have hgl := hB.gl
  have hrl := hB.rl
  refine acall_sr c17 (by simp [a17]) ?_
  unfold a17
  refine SR.seq ?_
  unfold dictP
  simp -dsimp only [aqT, aqU, aqN, aqS, ↓seqK, ↓blkK, ↓loopK, step, stepBin, Nat.add_assoc nid, ↓reduceIte, Option.toList, ← Int.ofNat_tmod, ← Int.ofNat_tdiv, simprocAttr, BEq.rfl, LN_succ]
  refine SR.seq ?_
  simp -dsimp only [aqT, aqU, aqN, aqS, ↓seqK, ↓blkK, ↓loopK, step, stepBin, Nat.add_assoc nid, ↓reduceIte, Option.toList, ← Int.ofNat_tmod, ← Int.ofNat_tdiv, simprocAttr, BEq.rfl, LN_succ]
  refine SR.seqW (ι := {_u : Unit // (G.length ≠ 0 ∧ ¬ (100 < G.length ∨ 300 < R.length)) ∧ G.any oddS = false}) (fun _ => ⟨[(3, .fn 86 []), (1, .ptr nid 0)], [(nid, boxP2 g0 r0 b G R)], nid + 100, nid⟩) ?_ (fun ⟨_, ⟨h1, h2⟩, h3⟩ => ?_)
  · refine SR.run (t := .mk) ?_
    simp -dsimp only [aqT, aqU, aqN, aqS, ↓seqK, ↓blkK, ↓loopK, step, stepBin, Nat.add_assoc nid, ↓reduceIte, Option.toList, ← Int.ofNat_tmod, ← Int.ofNat_tdiv, simprocAttr, BEq.rfl, LN_succ]
    refine S2.intro (fun h1 => ?_) (fun h1 => ?_) <;> simp -dsimp only [aqT, aqU, aqN, aqS, ↓seqK, ↓blkK, ↓loopK, step, stepBin, Nat.add_assoc nid, ↓reduceIte, Option.toList, ← Int.ofNat_tmod, ← Int.ofNat_tdiv, simprocAttr, BEq.rfl, LN_succ]
    · have e : dictV G R = 8 := by unfold dictV; rw [if_pos (by simp at h1; exact congrArg List.length h1)]
      rw [e]
      refine RetOK.pure (.inl rfl) rfl ?_
      simp [cvT, step, res]
    have h1' : G.length ≠ 0 := by simp at h1; exact fun e => h1 (List.eq_nil_of_length_eq_zero e)
    refine S2.dec (fun h2 => ?_) (fun h2 => ?_) <;> simp -dsimp only [aqT, aqU, aqN, aqS, ↓seqK, ↓blkK, ↓loopK, step, stepBin, Nat.add_assoc nid, ↓reduceIte, Option.toList, ← Int.ofNat_tmod, ← Int.ofNat_tdiv, simprocAttr, BEq.rfl, LN_succ]
    · have e : dictV G R = 2 := by unfold dictV; rw [if_neg h1', if_pos (.inl (by omega))]
      rw [e]
      refine RetOK.pure (.inl rfl) rfl ?_
      simp [cvT, step, res]
    refine S2.dec (fun h4 => ?_) (fun h4 => ?_) <;> simp -dsimp only [aqT, aqU, aqN, aqS, ↓seqK, ↓blkK, ↓loopK, step, stepBin, Nat.add_assoc nid, ↓reduceIte, Option.toList, ← Int.ofNat_tmod, ← Int.ofNat_tdiv, simprocAttr, BEq.rfl, LN_succ]
    · have e : dictV G R = 2 := by unfold dictV; rw [if_neg h1', if_pos (.inr (by omega))]
      rw [e]
      refine RetOK.pure (.inl rfl) rfl ?_
      simp [cvT, step, res]
    have h2' : ¬ (100 < G.length ∨ 300 < R.length) := by omega
    refine CallO.pure (containsM_c 86 oddS g0 G _ hB.gl hB.gs (fun x m hx => oddR_c x m hx)) ?_
    simp -dsimp only [aqT, aqU, aqN, aqS, ↓seqK, ↓blkK, ↓loopK, step, stepBin, Nat.add_assoc nid, ↓reduceIte, Option.toList, ← Int.ofNat_tmod, ← Int.ofNat_tdiv, simprocAttr, BEq.rfl, LN_succ]
    refine S2.intro (fun h5 => ?_) (fun h5 => ?_) <;> simp -dsimp only [aqT, aqU, aqN, aqS, ↓seqK, ↓blkK, ↓loopK, step, stepBin, Nat.add_assoc nid, ↓reduceIte, Option.toList, ← Int.ofNat_tmod, ← Int.ofNat_tdiv, simprocAttr, BEq.rfl, LN_succ]
    · have e : dictV G R = 9 := by unfold dictV; rw [if_neg h1', if_neg h2', if_pos h5]
      rw [e]
      refine RetOK.pure (.inl rfl) rfl ?_
      simp [cvT, step, res]
    refine ⟨⟨(), ⟨h1', h2'⟩, h5⟩, Cov.go [] [] ?_⟩
    simp [cvT, step, res, boxP2]
  refine SR.seqW (ι := {_u : Unit // ∀ j, j < R.length → rowBad G.length R j = 0}) (fun _ => ⟨[], [], nid + 2000, nid⟩) ?_ (fun ⟨_, h5⟩ => ?_)
  · unfold boxP2
    refine SR.seqTo ⟨[(30, .int .i64 0), (29, .int .i64 R.length), (28, .lit r0 R.length [.s fun k => rowF R k, .l b (fun k => (rowR R k).length) (fun k => [.s fun j => (rowR R k).getD j []])]), (3, .fn 86 []), (1, .ptr nid 0)], [(nid, boxP2 g0 r0 b G R)], nid + 200, nid⟩ ?_ ?_
    · simp -dsimp only [aqT, aqU, aqN, aqS, ↓seqK, ↓blkK, ↓loopK, step, stepBin, Nat.add_assoc nid, ↓reduceIte, Option.toList, ← Int.ofNat_tmod, ← Int.ofNat_tdiv, simprocAttr, BEq.rfl, LN_succ]
      refine Cov.go [] [] ?_
      simp [cvT, step, res, boxP2, -List.getD_eq_getElem?_getD]
    refine SR.block ?_
    refine SR.loopP (fun k : Nat => k ≤ R.length ∧ ∀ j, j < k → rowBad G.length R j = 0) (fun k : Nat => ⟨[(30, .int .i64 k), (29, .int .i64 R.length), (28, .lit r0 R.length [.s fun k => rowF R k, .l b (fun k => (rowR R k).length) (fun k => [.s fun j => (rowR R k).getD j []])]), (3, .fn 86 []), (1, .ptr nid 0)], [(nid, boxP2 g0 r0 b G R)], nid + 200, nid⟩) (fun k => R.length + 1 - k) 0 ⟨by omega, fun j hj => by omega⟩ (Cov.drop (by omega) ?_) (fun k hk => ?_)
    · simp only [SlotsIn, aqT, aqU, aqN, ↓seqK, ↓blkK, ↓loopK, step, stepBin, Nat.reduceBEq, Nat.reduceBeqDiff, Nat.add_assoc nid, Nat.reduceAdd, reduceCtorEq, ↓reduceIte, Nat.reduceLeDiff, Nat.reduceBneDiff, Option.toList, ← Int.ofNat_tmod, ← Int.ofNat_tdiv, Nat.reduceLT]
      try simp
    obtain ⟨hk, hall⟩ := hk
    refine SR.seq ?_
    simp -dsimp only [aqT, aqU, aqN, aqS, ↓seqK, ↓blkK, ↓loopK, step, stepBin, Nat.add_assoc nid, ↓reduceIte, Option.toList, ← Int.ofNat_tmod, ← Int.ofNat_tdiv, simprocAttr, BEq.rfl, LN_succ]
    refine SR.seq ?_
    simp -dsimp only [aqT, aqU, aqN, aqS, ↓seqK, ↓blkK, ↓loopK, step, stepBin, Nat.add_assoc nid, ↓reduceIte, Option.toList, ← Int.ofNat_tmod, ← Int.ofNat_tdiv, simprocAttr, BEq.rfl, LN_succ]
    refine S2.dec (fun h4 => ?_) (fun h4 => ?_) <;> simp -dsimp only [aqT, aqU, aqN, aqS, ↓seqK, ↓blkK, ↓loopK, step, stepBin, Nat.add_assoc nid, ↓reduceIte, Option.toList, ← Int.ofNat_tmod, ← Int.ofNat_tdiv, simprocAttr, BEq.rfl, LN_succ]
    · have hkl : k < R.length := by omega
      have hbad := fun e => dictV_row (e := e) h1 h2 h3 hkl hall
      obtain ⟨hf1, hr1, hs1⟩ := hB.rs k
      refine SR.seqW (ι := {_u : Unit // rowBad G.length R k = 0}) (fun _ => ⟨[(30, .int .i64 k), (29, .int .i64 R.length), (28, .lit r0 R.length [.s fun k => rowF R k, .l b (fun k => (rowR R k).length) (fun k => [.s fun j => (rowR R k).getD j []])]), (3, .fn 86 []), (1, .ptr nid 0)], [(nid, boxP2 g0 r0 b G R)], nid + 900, nid⟩) ?_ (fun ⟨_, h6⟩ => ?_)
      · refine SR.block ?_
        refine SR.seqTo ⟨[(5, .ptr (nid + 300) 0), (4, .int .i64 k), (30, .int .i64 k), (29, .int .i64 R.length), (28, .lit r0 R.length [.s fun k => rowF R k, .l b (fun k => (rowR R k).length) (fun k => [.s fun j => (rowR R k).getD j []])]), (3, .fn 86 []), (1, .ptr nid 0)], [(nid + 300, some (.box 67 [.str (rowF R k), .lit (b k) (rowR R k).length [.s fun j => (rowR R k).getD j []]])), (nid, boxP2 g0 r0 b G R)], nid + 400, nid⟩ ?_ ?_
        · simp -dsimp only [aqT, aqU, aqN, aqS, ↓seqK, ↓blkK, ↓loopK, step, stepBin, Nat.add_assoc nid, ↓reduceIte, Option.toList, ← Int.ofNat_tmod, ← Int.ofNat_tdiv, simprocAttr, BEq.rfl, LN_succ]
          refine ⟨by omega, Cov.go [(nid + 300, nid + 216)] [] ?_⟩
          simp [cvT, step, res, boxP2, -List.getD_eq_getElem?_getD]
        refine SR.block ?_
        refine SR.seq ?_
        simp -dsimp only [aqT, aqU, aqN, aqS, ↓seqK, ↓blkK, ↓loopK, step, stepBin, Nat.add_assoc nid, ↓reduceIte, Option.toList, ← Int.ofNat_tmod, ← Int.ofNat_tdiv, simprocAttr, BEq.rfl, LN_succ]
        refine CallO.pure (keyR_c _ _) ?_
        simp -dsimp only [aqT, aqU, aqN, aqS, ↓seqK, ↓blkK, ↓loopK, step, stepBin, Nat.add_assoc nid, ↓reduceIte, Option.toList, ← Int.ofNat_tmod, ← Int.ofNat_tdiv, simprocAttr, BEq.rfl, LN_succ]
        refine SR.cond (b := !keyB (rowF R k)) (by simp [AX.val, getS]) (fun h => ?_) (fun h => ?_)
        · have hk : keyB (rowF R k) = false := by simpa using h
          rw [hbad 5 (by unfold rowBad; rw [if_pos hk]) (by decide)]
          refine SR.run (t := .mk) ?_
          simp -dsimp only [aqT, aqU, aqN, aqS, ↓seqK, ↓blkK, ↓loopK, step, stepBin, Nat.add_assoc nid, ↓reduceIte, Option.toList, ← Int.ofNat_tmod, ← Int.ofNat_tdiv, simprocAttr, BEq.rfl, LN_succ]
          refine RetOK.pure (.inl rfl) rfl ?_
          simp [cvT, step, res]
        have hk1 : ¬ keyB (rowF R k) = false := by simpa using h
        unfold boxP2
        refine SR.seq ?_
        simp -dsimp only [aqT, aqU, aqN, aqS, ↓seqK, ↓blkK, ↓loopK, step, stepBin, Nat.add_assoc nid, ↓reduceIte, Option.toList, ← Int.ofNat_tmod, ← Int.ofNat_tdiv, simprocAttr, BEq.rfl, LN_succ]
        refine SR.cond (b := (((rowR R k).length : Nat) : Int) != (G.length : Nat)) (by simp [AX.val, getS]) (fun h => ?_) (fun h => ?_)
        · have hk : (rowR R k).length ≠ G.length := fun e => by rw [e] at h; simp at h
          rw [hbad 3 (by unfold rowBad; rw [if_neg hk1, if_pos hk]) (by decide)]
          refine SR.run (t := .mk) ?_
          simp -dsimp only [aqT, aqU, aqN, aqS, ↓seqK, ↓blkK, ↓loopK, step, stepBin, Nat.add_assoc nid, ↓reduceIte, Option.toList, ← Int.ofNat_tmod, ← Int.ofNat_tdiv, simprocAttr, BEq.rfl, LN_succ]
          refine RetOK.pure (.inl rfl) rfl ?_
          simp [cvT, step, res]
        have hk2 : ¬ (rowR R k).length ≠ G.length := by
          have : (((rowR R k).length : Nat) : Int) = (G.length : Nat) := by simpa only [bne_eq_false_iff_eq] using h
          omega
        refine SR.seq ?_
        simp -dsimp only [aqT, aqU, aqN, aqS, ↓seqK, ↓blkK, ↓loopK, step, stepBin, Nat.add_assoc nid, ↓reduceIte, Option.toList, ← Int.ofNat_tmod, ← Int.ofNat_tdiv, simprocAttr, BEq.rfl, LN_succ]
        refine CallO.pure (containsM_c 86 oddS (b k) (rowR R k) _ hr1 hs1 (fun x m hx => oddR_c x m hx)) ?_
        simp -dsimp only [aqT, aqU, aqN, aqS, ↓seqK, ↓blkK, ↓loopK, step, stepBin, Nat.add_assoc nid, ↓reduceIte, Option.toList, ← Int.ofNat_tmod, ← Int.ofNat_tdiv, simprocAttr, BEq.rfl, LN_succ]
        refine SR.cond (b := (rowR R k).any oddS) (by simp [AX.val, getS]) (fun h => ?_) (fun h => ?_)
        · rw [hbad 9 (by unfold rowBad; rw [if_neg hk1, if_neg hk2, if_pos h]) (by decide)]
          refine SR.run (t := .mk) ?_
          simp -dsimp only [aqT, aqU, aqN, aqS, ↓seqK, ↓blkK, ↓loopK, step, stepBin, Nat.add_assoc nid, ↓reduceIte, Option.toList, ← Int.ofNat_tmod, ← Int.ofNat_tdiv, simprocAttr, BEq.rfl, LN_succ]
          refine RetOK.pure (.inl rfl) rfl ?_
          simp [cvT, step, res]
        have hk3 : ¬ (rowR R k).any oddS = true := by simp [h]
        refine SR.seqTo ⟨[(53, .bool (decide ((0 : Int) < k) && (Op.bytesLess (rowF R k) (rowF R (k - 1)) || rowF R k == rowF R (k - 1)))), (30, .int .i64 k), (29, .int .i64 R.length), (28, .lit r0 R.length [.s fun k => rowF R k, .l b (fun k => (rowR R k).length) (fun k => [.s fun j => (rowR R k).getD j []])]), (3, .fn 86 []), (1, .ptr nid 0)], [(nid, boxP2 g0 r0 b G R)], nid + 700, nid⟩ ?_ ?_
        · simp -dsimp only [aqT, aqU, aqN, aqS, ↓seqK, ↓blkK, ↓loopK, step, stepBin, Nat.add_assoc nid, ↓reduceIte, Option.toList, ← Int.ofNat_tmod, ← Int.ofNat_tdiv, simprocAttr, BEq.rfl, LN_succ]
          refine S2.dec (fun h0 => ?_) (fun h0 => ?_) <;> simp -dsimp only [aqT, aqU, aqN, aqS, ↓seqK, ↓blkK, ↓loopK, step, stepBin, Nat.add_assoc nid, ↓reduceIte, Option.toList, ← Int.ofNat_tmod, ← Int.ofNat_tdiv, simprocAttr, BEq.rfl, LN_succ]
          · have e : ((k : Int) - 1).toNat = k - 1 := by omega
            rw [e]
            refine ⟨by unfold inI64; omega, by omega, Cov.go [] [] ?_⟩
            simp [cvT, step, res, boxP2, decide_eq_true h0, -List.getD_eq_getElem?_getD]
            try omega
          · refine Cov.go [] [] ?_
            simp [cvT, step, res, boxP2, decide_eq_false h0, -List.getD_eq_getElem?_getD]
            try omega
        refine SR.cond (b := decide ((0 : Int) < k) && (Op.bytesLess (rowF R k) (rowF R (k - 1)) || rowF R k == rowF R (k - 1))) (by simp [AX.val, getS]) (fun h => ?_) (fun h => ?_)
        · simp only [Bool.and_eq_true, decide_eq_true_eq] at h
          rw [hbad 7 (by unfold rowBad; rw [if_neg hk1, if_neg hk2, if_neg hk3, if_pos ⟨by omega, h.2⟩]) (by decide)]
          refine SR.run (t := .mk) ?_
          simp -dsimp only [aqT, aqU, aqN, aqS, ↓seqK, ↓blkK, ↓loopK, step, stepBin, Nat.add_assoc nid, ↓reduceIte, Option.toList, ← Int.ofNat_tmod, ← Int.ofNat_tdiv, simprocAttr, BEq.rfl, LN_succ]
          refine RetOK.pure (.inl rfl) rfl ?_
          simp [cvT, step, res]
        have hk4 : ¬ (0 < k ∧ (Op.bytesLess (rowF R k) (rowF R (k - 1)) || rowF R k == rowF R (k - 1)) = true) := fun ⟨e1, e2⟩ => by
          rw [e2, decide_eq_true (by omega)] at h
          simp at h
        refine SR.run (t := .mk) ?_
        simp -dsimp only [aqT, aqU, aqN, aqS, ↓seqK, ↓blkK, ↓loopK, step, stepBin, Nat.add_assoc nid, ↓reduceIte, Option.toList, ← Int.ofNat_tmod, ← Int.ofNat_tdiv, simprocAttr, BEq.rfl, LN_succ]
        refine ⟨⟨(), by unfold rowBad; rw [if_neg hk1, if_neg hk2, if_neg hk3, if_neg hk4]⟩, Cov.go [] [] ?_⟩
        simp [cvT, step, res, boxP2, -List.getD_eq_getElem?_getD]
      refine SR.run (t := .mk) ?_
      simp -dsimp only [aqT, aqU, aqN, aqS, ↓seqK, ↓blkK, ↓loopK, step, stepBin, Nat.add_assoc nid, ↓reduceIte, Option.toList, ← Int.ofNat_tmod, ← Int.ofNat_tdiv, simprocAttr, BEq.rfl, LN_succ]
      refine ⟨by unfold inI64; omega, k + 1, ⟨⟨by omega, fun j hj => ?_⟩, by omega⟩, Cov.go [] [] ?_⟩
      · rcases (by omega : j < k ∨ j = k) with hj | hj
        · exact hall j hj
        · rw [hj]; exact h6
      simp [cvT, step, res, boxP2, -List.getD_eq_getElem?_getD]
    · refine ⟨⟨(), fun j hj => hall j (by omega)⟩, Cov.go [] [] ?_⟩
      simp [cvT, step, res, boxP2, -List.getD_eq_getElem?_getD]
  · rw [dictV_good h1 h2 h3 h5]
    refine SR.run (t := .mk) ?_
    simp -dsimp only [aqT, aqU, aqN, aqS, ↓seqK, ↓blkK, ↓loopK, step, stepBin, Nat.add_assoc nid, ↓reduceIte, Option.toList, ← Int.ofNat_tmod, ← Int.ofNat_tdiv, simprocAttr, BEq.rfl, LN_succ]
    refine RetOK.pure (.inl rfl) rfl ?_
    simp [cvT, step, res]
set_option maxHeartbeats 1000000 in
theorem dictD_c (g0 r0 : Bool) (b : Nat → Bool) (G : List (List UInt8)) (R : RowL) (nid : Nat) (hB : DictW G R) : ACall Tryz.prog 63 [dictP g0 r0 b G R] [] nid (.int .i64 (dictV G R)) [] := by
  have hgl := hB.gl
  have hrl := hB.rl
  refine acall_sr c63 (by simp [a63]) ?_
  unfold a63
  refine SR.seq ?_
  unfold dictP
  simp -dsimp only [aqT, aqU, aqN, aqS, ↓seqK, ↓blkK, ↓loopK, step, stepBin, Nat.add_assoc nid, ↓reduceIte, Option.toList, ← Int.ofNat_tmod, ← Int.ofNat_tdiv, simprocAttr, BEq.rfl, LN_succ]
  refine SR.seqW (ι := {_u : Unit // G.length ≠ 0 ∧ ¬ (100 < G.length ∨ 300 < R.length)}) (fun _ => ⟨[(1, .ptr nid 0)], [(nid, boxP2 g0 r0 b G R)], nid + 100, nid⟩) ?_ (fun ⟨_, h1, h2⟩ => ?_)
  · refine SR.run (t := .mk) ?_
    simp -dsimp only [aqT, aqU, aqN, aqS, ↓seqK, ↓blkK, ↓loopK, step, stepBin, Nat.add_assoc nid, ↓reduceIte, Option.toList, ← Int.ofNat_tmod, ← Int.ofNat_tdiv, simprocAttr, BEq.rfl, LN_succ]
    refine S2.intro (fun h1 => ?_) (fun h1 => ?_) <;> simp -dsimp only [aqT, aqU, aqN, aqS, ↓seqK, ↓blkK, ↓loopK, step, stepBin, Nat.add_assoc nid, ↓reduceIte, Option.toList, ← Int.ofNat_tmod, ← Int.ofNat_tdiv, simprocAttr, BEq.rfl, LN_succ]
    · have e : dictV G R = 8 := by unfold dictV; rw [if_pos (by simp at h1; exact congrArg List.length h1)]
      rw [e]
      refine RetOK.pure (.inl rfl) rfl ?_
      simp [cvT, step, res]
    have h1' : G.length ≠ 0 := by simp at h1; exact fun e => h1 (List.eq_nil_of_length_eq_zero e)
    refine S2.dec (fun h2 => ?_) (fun h2 => ?_) <;> simp -dsimp only [aqT, aqU, aqN, aqS, ↓seqK, ↓blkK, ↓loopK, step, stepBin, Nat.add_assoc nid, ↓reduceIte, Option.toList, ← Int.ofNat_tmod, ← Int.ofNat_tdiv, simprocAttr, BEq.rfl, LN_succ]
    · have e : dictV G R = 2 := by unfold dictV; rw [if_neg h1', if_pos (.inl (by omega))]
      rw [e]
      refine RetOK.pure (.inl rfl) rfl ?_
      simp [cvT, step, res]
    refine S2.dec (fun h4 => ?_) (fun h4 => ?_) <;> simp -dsimp only [aqT, aqU, aqN, aqS, ↓seqK, ↓blkK, ↓loopK, step, stepBin, Nat.add_assoc nid, ↓reduceIte, Option.toList, ← Int.ofNat_tmod, ← Int.ofNat_tdiv, simprocAttr, BEq.rfl, LN_succ]
    · have e : dictV G R = 2 := by unfold dictV; rw [if_neg h1', if_pos (.inr (by omega))]
      rw [e]
      refine RetOK.pure (.inl rfl) rfl ?_
      simp [cvT, step, res]
    have h2' : ¬ (100 < G.length ∨ 300 < R.length) := by omega
    refine ⟨⟨(), h1', h2'⟩, Cov.go [] [] ?_⟩
    simp [cvT, step, res, boxP2]
  refine SR.seq ?_
  simp -dsimp only [aqT, aqU, aqN, aqS, ↓seqK, ↓blkK, ↓loopK, step, stepBin, Nat.add_assoc nid, ↓reduceIte, Option.toList, ← Int.ofNat_tmod, ← Int.ofNat_tdiv, simprocAttr, BEq.rfl, LN_succ]
  refine SR.seqW (ι := {_u : Unit // G.any oddS = false}) (fun _ => ⟨[(3, .fn 152 []), (1, .ptr nid 0)], [(nid, boxP2 g0 r0 b G R)], nid + 150, nid⟩) ?_ (fun ⟨_, h3⟩ => ?_)
  · unfold boxP2
    refine SR.run (t := .mk) ?_
    simp -dsimp only [aqT, aqU, aqN, aqS, ↓seqK, ↓blkK, ↓loopK, step, stepBin, Nat.add_assoc nid, ↓reduceIte, Option.toList, ← Int.ofNat_tmod, ← Int.ofNat_tdiv, simprocAttr, BEq.rfl, LN_succ]
    refine CallO.pure (containsM_c 152 oddS g0 G _ hB.gl hB.gs (fun x m hx => oddD_c x m hx)) ?_
    simp -dsimp only [aqT, aqU, aqN, aqS, ↓seqK, ↓blkK, ↓loopK, step, stepBin, Nat.add_assoc nid, ↓reduceIte, Option.toList, ← Int.ofNat_tmod, ← Int.ofNat_tdiv, simprocAttr, BEq.rfl, LN_succ]
    refine S2.intro (fun h5 => ?_) (fun h5 => ?_) <;> simp -dsimp only [aqT, aqU, aqN, aqS, ↓seqK, ↓blkK, ↓loopK, step, stepBin, Nat.add_assoc nid, ↓reduceIte, Option.toList, ← Int.ofNat_tmod, ← Int.ofNat_tdiv, simprocAttr, BEq.rfl, LN_succ]
    · have e : dictV G R = 9 := by unfold dictV; rw [if_neg h1, if_neg h2, if_pos h5]
      rw [e]
      refine RetOK.pure (.inl rfl) rfl ?_
      simp [cvT, step, res]
    refine ⟨⟨(), h5⟩, Cov.go [] [] ?_⟩
    simp [cvT, step, res, boxP2]
  refine SR.seqW (ι := {_u : Unit // ∀ j, j < R.length → rowBad G.length R j = 0}) (fun _ => ⟨[], [], nid + 2000, nid⟩) ?_ (fun ⟨_, h5⟩ => ?_)
  · unfold boxP2
    refine SR.seqTo ⟨[(29, .int .i64 0), (28, .int .i64 R.length), (27, .lit r0 R.length [.s fun k => rowF R k, .l b (fun k => (rowR R k).length) (fun k => [.s fun j => (rowR R k).getD j []])]), (3, .fn 152 []), (1, .ptr nid 0)], [(nid, boxP2 g0 r0 b G R)], nid + 200, nid⟩ ?_ ?_
    · simp -dsimp only [aqT, aqU, aqN, aqS, ↓seqK, ↓blkK, ↓loopK, step, stepBin, Nat.add_assoc nid, ↓reduceIte, Option.toList, ← Int.ofNat_tmod, ← Int.ofNat_tdiv, simprocAttr, BEq.rfl, LN_succ]
      refine Cov.go [] [] ?_
      simp [cvT, step, res, boxP2, -List.getD_eq_getElem?_getD]
    refine SR.block ?_
    refine SR.loopP (fun k : Nat => k ≤ R.length ∧ ∀ j, j < k → rowBad G.length R j = 0) (fun k : Nat => ⟨[(29, .int .i64 k), (28, .int .i64 R.length), (27, .lit r0 R.length [.s fun k => rowF R k, .l b (fun k => (rowR R k).length) (fun k => [.s fun j => (rowR R k).getD j []])]), (3, .fn 152 []), (1, .ptr nid 0)], [(nid, boxP2 g0 r0 b G R)], nid + 200, nid⟩) (fun k => R.length + 1 - k) 0 ⟨by omega, fun j hj => by omega⟩ (Cov.drop (by omega) ?_) (fun k hk => ?_)
    · simp only [SlotsIn, aqT, aqU, aqN, ↓seqK, ↓blkK, ↓loopK, step, stepBin, Nat.reduceBEq, Nat.reduceBeqDiff, Nat.add_assoc nid, Nat.reduceAdd, reduceCtorEq, ↓reduceIte, Nat.reduceLeDiff, Nat.reduceBneDiff, Option.toList, ← Int.ofNat_tmod, ← Int.ofNat_tdiv, Nat.reduceLT]
      try simp
    obtain ⟨hk, hall⟩ := hk
    refine SR.seq ?_
    simp -dsimp only [aqT, aqU, aqN, aqS, ↓seqK, ↓blkK, ↓loopK, step, stepBin, Nat.add_assoc nid, ↓reduceIte, Option.toList, ← Int.ofNat_tmod, ← Int.ofNat_tdiv, simprocAttr, BEq.rfl, LN_succ]
    refine SR.seq ?_
    simp -dsimp only [aqT, aqU, aqN, aqS, ↓seqK, ↓blkK, ↓loopK, step, stepBin, Nat.add_assoc nid, ↓reduceIte, Option.toList, ← Int.ofNat_tmod, ← Int.ofNat_tdiv, simprocAttr, BEq.rfl, LN_succ]
    refine S2.dec (fun h4 => ?_) (fun h4 => ?_) <;> simp -dsimp only [aqT, aqU, aqN, aqS, ↓seqK, ↓blkK, ↓loopK, step, stepBin, Nat.add_assoc nid, ↓reduceIte, Option.toList, ← Int.ofNat_tmod, ← Int.ofNat_tdiv, simprocAttr, BEq.rfl, LN_succ]
    · have hkl : k < R.length := by omega
      have hbad := fun e => dictV_row (e := e) h1 h2 h3 hkl hall
      obtain ⟨hf1, hr1, hs1⟩ := hB.rs k
      refine SR.seqW (ι := {_u : Unit // rowBad G.length R k = 0}) (fun _ => ⟨[(29, .int .i64 k), (28, .int .i64 R.length), (27, .lit r0 R.length [.s fun k => rowF R k, .l b (fun k => (rowR R k).length) (fun k => [.s fun j => (rowR R k).getD j []])]), (3, .fn 152 []), (1, .ptr nid 0)], [(nid, boxP2 g0 r0 b G R)], nid + 900, nid⟩) ?_ (fun ⟨_, h6⟩ => ?_)
      · refine SR.block ?_
        refine SR.seqTo ⟨[(5, .ptr (nid + 300) 0), (4, .int .i64 k), (29, .int .i64 k), (28, .int .i64 R.length), (27, .lit r0 R.length [.s fun k => rowF R k, .l b (fun k => (rowR R k).length) (fun k => [.s fun j => (rowR R k).getD j []])]), (3, .fn 152 []), (1, .ptr nid 0)], [(nid + 300, some (.box 67 [.str (rowF R k), .lit (b k) (rowR R k).length [.s fun j => (rowR R k).getD j []]])), (nid, boxP2 g0 r0 b G R)], nid + 400, nid⟩ ?_ ?_
        · simp -dsimp only [aqT, aqU, aqN, aqS, ↓seqK, ↓blkK, ↓loopK, step, stepBin, Nat.add_assoc nid, ↓reduceIte, Option.toList, ← Int.ofNat_tmod, ← Int.ofNat_tdiv, simprocAttr, BEq.rfl, LN_succ]
          refine ⟨by omega, Cov.go [(nid + 300, nid + 216)] [] ?_⟩
          simp [cvT, step, res, boxP2, -List.getD_eq_getElem?_getD]
        refine SR.block ?_
        refine SR.seq ?_
        simp -dsimp only [aqT, aqU, aqN, aqS, ↓seqK, ↓blkK, ↓loopK, step, stepBin, Nat.add_assoc nid, ↓reduceIte, Option.toList, ← Int.ofNat_tmod, ← Int.ofNat_tdiv, simprocAttr, BEq.rfl, LN_succ]
        refine CallO.pure (keyD_c _ _ hf1) ?_
        simp -dsimp only [aqT, aqU, aqN, aqS, ↓seqK, ↓blkK, ↓loopK, step, stepBin, Nat.add_assoc nid, ↓reduceIte, Option.toList, ← Int.ofNat_tmod, ← Int.ofNat_tdiv, simprocAttr, BEq.rfl, LN_succ]
        refine SR.cond (b := !keyB (rowF R k)) (by simp [AX.val, getS]) (fun h => ?_) (fun h => ?_)
        · have hk : keyB (rowF R k) = false := by simpa using h
          rw [hbad 5 (by unfold rowBad; rw [if_pos hk]) (by decide)]
          refine SR.run (t := .mk) ?_
          simp -dsimp only [aqT, aqU, aqN, aqS, ↓seqK, ↓blkK, ↓loopK, step, stepBin, Nat.add_assoc nid, ↓reduceIte, Option.toList, ← Int.ofNat_tmod, ← Int.ofNat_tdiv, simprocAttr, BEq.rfl, LN_succ]
          refine RetOK.pure (.inl rfl) rfl ?_
          simp [cvT, step, res]
        have hk1 : ¬ keyB (rowF R k) = false := by simpa using h
        unfold boxP2
        refine SR.seq ?_
        simp -dsimp only [aqT, aqU, aqN, aqS, ↓seqK, ↓blkK, ↓loopK, step, stepBin, Nat.add_assoc nid, ↓reduceIte, Option.toList, ← Int.ofNat_tmod, ← Int.ofNat_tdiv, simprocAttr, BEq.rfl, LN_succ]
        refine SR.cond (b := (((rowR R k).length : Nat) : Int) != (G.length : Nat)) (by simp [AX.val, getS]) (fun h => ?_) (fun h => ?_)
        · have hk : (rowR R k).length ≠ G.length := fun e => by rw [e] at h; simp at h
          rw [hbad 3 (by unfold rowBad; rw [if_neg hk1, if_pos hk]) (by decide)]
          refine SR.run (t := .mk) ?_
          simp -dsimp only [aqT, aqU, aqN, aqS, ↓seqK, ↓blkK, ↓loopK, step, stepBin, Nat.add_assoc nid, ↓reduceIte, Option.toList, ← Int.ofNat_tmod, ← Int.ofNat_tdiv, simprocAttr, BEq.rfl, LN_succ]
          refine RetOK.pure (.inl rfl) rfl ?_
          simp [cvT, step, res]
        have hk2 : ¬ (rowR R k).length ≠ G.length := by
          have : (((rowR R k).length : Nat) : Int) = (G.length : Nat) := by simpa only [bne_eq_false_iff_eq] using h
          omega
        refine SR.seq ?_
        simp -dsimp only [aqT, aqU, aqN, aqS, ↓seqK, ↓blkK, ↓loopK, step, stepBin, Nat.add_assoc nid, ↓reduceIte, Option.toList, ← Int.ofNat_tmod, ← Int.ofNat_tdiv, simprocAttr, BEq.rfl, LN_succ]
        refine CallO.pure (containsM_c 152 oddS (b k) (rowR R k) _ hr1 hs1 (fun x m hx => oddD_c x m hx)) ?_
        simp -dsimp only [aqT, aqU, aqN, aqS, ↓seqK, ↓blkK, ↓loopK, step, stepBin, Nat.add_assoc nid, ↓reduceIte, Option.toList, ← Int.ofNat_tmod, ← Int.ofNat_tdiv, simprocAttr, BEq.rfl, LN_succ]
        refine SR.cond (b := (rowR R k).any oddS) (by simp [AX.val, getS]) (fun h => ?_) (fun h => ?_)
        · rw [hbad 9 (by unfold rowBad; rw [if_neg hk1, if_neg hk2, if_pos h]) (by decide)]
          refine SR.run (t := .mk) ?_
          simp -dsimp only [aqT, aqU, aqN, aqS, ↓seqK, ↓blkK, ↓loopK, step, stepBin, Nat.add_assoc nid, ↓reduceIte, Option.toList, ← Int.ofNat_tmod, ← Int.ofNat_tdiv, simprocAttr, BEq.rfl, LN_succ]
          refine RetOK.pure (.inl rfl) rfl ?_
          simp [cvT, step, res]
        have hk3 : ¬ (rowR R k).any oddS = true := by simp [h]
        refine SR.seqTo ⟨[(52, .bool (decide ((0 : Int) < k) && (Op.bytesLess (rowF R k) (rowF R (k - 1)) || rowF R k == rowF R (k - 1)))), (29, .int .i64 k), (28, .int .i64 R.length), (27, .lit r0 R.length [.s fun k => rowF R k, .l b (fun k => (rowR R k).length) (fun k => [.s fun j => (rowR R k).getD j []])]), (3, .fn 152 []), (1, .ptr nid 0)], [(nid, boxP2 g0 r0 b G R)], nid + 700, nid⟩ ?_ ?_
        · simp -dsimp only [aqT, aqU, aqN, aqS, ↓seqK, ↓blkK, ↓loopK, step, stepBin, Nat.add_assoc nid, ↓reduceIte, Option.toList, ← Int.ofNat_tmod, ← Int.ofNat_tdiv, simprocAttr, BEq.rfl, LN_succ]
          refine S2.dec (fun h0 => ?_) (fun h0 => ?_) <;> simp -dsimp only [aqT, aqU, aqN, aqS, ↓seqK, ↓blkK, ↓loopK, step, stepBin, Nat.add_assoc nid, ↓reduceIte, Option.toList, ← Int.ofNat_tmod, ← Int.ofNat_tdiv, simprocAttr, BEq.rfl, LN_succ]
          · have e : ((k : Int) - 1).toNat = k - 1 := by omega
            rw [e]
            refine ⟨by unfold inI64; omega, by omega, Cov.go [] [] ?_⟩
            simp [cvT, step, res, boxP2, decide_eq_true h0, -List.getD_eq_getElem?_getD]
            try omega
          · refine Cov.go [] [] ?_
            simp [cvT, step, res, boxP2, decide_eq_false h0, -List.getD_eq_getElem?_getD]
            try omega
        refine SR.cond (b := decide ((0 : Int) < k) && (Op.bytesLess (rowF R k) (rowF R (k - 1)) || rowF R k == rowF R (k - 1))) (by simp [AX.val, getS]) (fun h => ?_) (fun h => ?_)
        · simp only [Bool.and_eq_true, decide_eq_true_eq] at h
          rw [hbad 7 (by unfold rowBad; rw [if_neg hk1, if_neg hk2, if_neg hk3, if_pos ⟨by omega, h.2⟩]) (by decide)]
          refine SR.run (t := .mk) ?_
          simp -dsimp only [aqT, aqU, aqN, aqS, ↓seqK, ↓blkK, ↓loopK, step, stepBin, Nat.add_assoc nid, ↓reduceIte, Option.toList, ← Int.ofNat_tmod, ← Int.ofNat_tdiv, simprocAttr, BEq.rfl, LN_succ]
          refine RetOK.pure (.inl rfl) rfl ?_
          simp [cvT, step, res]
        have hk4 : ¬ (0 < k ∧ (Op.bytesLess (rowF R k) (rowF R (k - 1)) || rowF R k == rowF R (k - 1)) = true) := fun ⟨e1, e2⟩ => by
          rw [e2, decide_eq_true (by omega)] at h
          simp at h
        refine SR.run (t := .mk) ?_
        simp -dsimp only [aqT, aqU, aqN, aqS, ↓seqK, ↓blkK, ↓loopK, step, stepBin, Nat.add_assoc nid, ↓reduceIte, Option.toList, ← Int.ofNat_tmod, ← Int.ofNat_tdiv, simprocAttr, BEq.rfl, LN_succ]
        refine ⟨⟨(), by unfold rowBad; rw [if_neg hk1, if_neg hk2, if_neg hk3, if_neg hk4]⟩, Cov.go [] [] ?_⟩
        simp [cvT, step, res, boxP2, -List.getD_eq_getElem?_getD]
      refine SR.run (t := .mk) ?_
      simp -dsimp only [aqT, aqU, aqN, aqS, ↓seqK, ↓blkK, ↓loopK, step, stepBin, Nat.add_assoc nid, ↓reduceIte, Option.toList, ← Int.ofNat_tmod, ← Int.ofNat_tdiv, simprocAttr, BEq.rfl, LN_succ]
      refine ⟨by unfold inI64; omega, k + 1, ⟨⟨by omega, fun j hj => ?_⟩, by omega⟩, Cov.go [] [] ?_⟩
      · rcases (by omega : j < k ∨ j = k) with hj | hj
        · exact hall j hj
        · rw [hj]; exact h6
      simp [cvT, step, res, boxP2, -List.getD_eq_getElem?_getD]
    · refine ⟨⟨(), fun j hj => hall j (by omega)⟩, Cov.go [] [] ?_⟩
      simp [cvT, step, res, boxP2, -List.getD_eq_getElem?_getD]
  · rw [dictV_good h1 h2 h3 h5]
    refine SR.run (t := .mk) ?_
    simp -dsimp only [aqT, aqU, aqN, aqS, ↓seqK, ↓blkK, ↓loopK, step, stepBin, Nat.add_assoc nid, ↓reduceIte, Option.toList, ← Int.ofNat_tmod, ← Int.ofNat_tdiv, simprocAttr, BEq.rfl, LN_succ]
    refine RetOK.pure (.inl rfl) rfl ?_
    simp [cvT, step, res]
end Go.Proofs.YtpifoghhaohhaaaGreatDoor
namespace Go.Proofs.YtpifoghhaohhaaaGreatDoor
open Go.RowKit Go.Shelf Go.Lib
theorem namesL_len {x : List UInt8} (h : x ∈ namesL) : x.length ≤ 2 := by
  unfold namesL at h
  simp only [List.mem_cons, List.not_mem_nil, or_false] at h
  rcases h with rfl | rfl | rfl | rfl | rfl | rfl | rfl | rfl | rfl <;> decide
theorem rowF_out {R : RowL} {k : Nat} (h : ¬ k < R.length) : rowF R k = [] := by unfold rowF; rw [List.getD_eq_getElem?_getD, List.getElem?_eq_none (by omega)]; rfl
theorem rowR_out {R : RowL} {k : Nat} (h : ¬ k < R.length) : rowR R k = [] := by unfold rowR; rw [List.getD_eq_getElem?_getD, List.getElem?_eq_none (by omega)]; rfl
theorem row_mem {R : RowL} {k : Nat} (h : k < R.length) : (rowF R k, rowR R k) ∈ R := by
  unfold rowF rowR
  rw [List.getD_eq_getElem?_getD, List.getElem?_eq_getElem h]
  exact List.getElem_mem h
theorem DictB.w {m : Nat} {G : List (List UInt8)} {R : RowL} (h : DictB m G R) (hm : m ≤ 100) : DictW G R :=
  ⟨by have := h.gl; omega, h.gs.mono (by omega), by have := h.rl; omega, fun k => by
    by_cases hk : k < R.length
    · obtain ⟨a, b, c⟩ := h.rs _ (row_mem hk)
      have := namesL_len a
      exact ⟨by simp only at this; omega, by simp only at b; omega, c.mono (by omega)⟩
    · rw [rowF_out hk, rowR_out hk]
      exact ⟨by simp, by simp, fun r hr => by simp at hr⟩⟩
set_option maxHeartbeats 1000000 in
theorem rightDict_I (s nid : Nat) (nl : Bool) (A : List Int) (p faults tests : Nat) (h : s < nid) (hp : p ≤ 1099400000000) (hA : A.length ≤ 17592186044416) (hf : faults ≤ 7) (ht1 : 1 ≤ tests) (ht : tests ≤ 6) :
    ACallI Tryz.prog 42 [.ptr s 0, .int .i64 (faults : Nat), .int .i64 (tests : Nat)] [(s, strmC nl A p)] nid (fun x : DictX => (DictB tests x.G x.R ∧ dictV x.G x.R = 0) ∧ x.q ≤ p + 6000) (fun x => dictP x.g0 x.r0 x.b x.G x.R) (fun x => [(s, strmC nl A x.q)]) := by
  obtain ⟨e1, e2, e3, e4, e5, e6, e7, e8, e9⟩ := id_all h
  refine acallI_sr c42 (by simp [a42]) ?_
  unfold a42
  refine SR.seq ?_
  simp -dsimp only [aqT, aqU, aqN, aqS, ↓seqK, ↓blkK, ↓loopK, step, stepBin, Nat.add_assoc nid, ↓reduceIte, Option.toList, ← Int.ofNat_tmod, ← Int.ofNat_tdiv, simprocAttr, BEq.rfl, LN_succ, e1, e2, e3, e4, e5, e6, e7, e8, e9]
  refine SR.seqW (ι := {q : Nat // q ≤ p + 6000}) (fun q => ⟨[(6, .ptr (nid + 4) 0)], [(nid + 4, some (.box 29 [.lit true 0 [], .lit true 0 []])), (s, strmC nl A q)], nid + 2000, nid⟩) ?_ (fun ⟨q, hq⟩ => ?_)
  · refine SR.seq ?_
    simp -dsimp only [aqT, aqU, aqN, aqS, ↓seqK, ↓blkK, ↓loopK, step, stepBin, Nat.add_assoc nid, ↓reduceIte, Option.toList, ← Int.ofNat_tmod, ← Int.ofNat_tdiv, simprocAttr, BEq.rfl, LN_succ, e1, e2, e3, e4, e5, e6, e7, e8, e9]
    refine SR.block ?_
    refine SR.loopP (fun x : Nat × Nat => x.1 ≤ 6 ∧ x.2 ≤ p + 1000 * x.1) (fun x => ⟨[(8, .int .i64 x.1), (6, .ptr (nid + 4) 0), (0, .ptr s 0), (1, .int .i64 (faults : Nat)), (2, .int .i64 (tests : Nat))], [(nid + 4, some (.box 29 [.lit true 0 [], .lit true 0 []])), (s, strmC nl A x.2)], nid + 100, nid⟩) (fun x => 7 - x.1) (0, p) ⟨by simp, by simp⟩ (Cov.go [(nid + 4, nid)] [] ?_) (fun x hx => ?_)
    · simp [cvT, step, res, e1, e2, e3, e4, e5, e6, e7, e8, e9, strmC]
    obtain ⟨i, q⟩ := x
    obtain ⟨hi, hq⟩ := hx
    simp only at hi hq ⊢
    refine SR.seq ?_
    simp -dsimp only [aqT, aqU, aqN, aqS, ↓seqK, ↓blkK, ↓loopK, step, stepBin, Nat.add_assoc nid, ↓reduceIte, Option.toList, ← Int.ofNat_tmod, ← Int.ofNat_tdiv, simprocAttr, BEq.rfl, LN_succ, e1, e2, e3, e4, e5, e6, e7, e8, e9]
    refine SR.seq ?_
    simp -dsimp only [aqT, aqU, aqN, aqS, ↓seqK, ↓blkK, ↓loopK, step, stepBin, Nat.add_assoc nid, ↓reduceIte, Option.toList, ← Int.ofNat_tmod, ← Int.ofNat_tdiv, simprocAttr, BEq.rfl, LN_succ, e1, e2, e3, e4, e5, e6, e7, e8, e9]
    refine S2.dec (fun h4 => ?_) (fun h4 => ?_) <;> simp -dsimp only [aqT, aqU, aqN, aqS, ↓seqK, ↓blkK, ↓loopK, step, stepBin, Nat.add_assoc nid, ↓reduceIte, Option.toList, ← Int.ofNat_tmod, ← Int.ofNat_tdiv, simprocAttr, BEq.rfl, LN_succ]
    · refine SR.seqW (ι := {q2 : Nat // q2 ≤ q + 1000}) (fun q2 => ⟨[(8, .int .i64 i), (6, .ptr (nid + 4) 0), (0, .ptr s 0), (1, .int .i64 (faults : Nat)), (2, .int .i64 (tests : Nat))], [(nid + 4, some (.box 29 [.lit true 0 [], .lit true 0 []])), (s, strmC nl A q2)], nid + 900, nid⟩) ?_ (fun ⟨q2, hq2⟩ => ?_)
      · refine SR.block ?_
        refine SR.seqW (ι := {x : DictX // DictB tests x.G x.R ∧ x.q ≤ q + 1000}) (fun x => ⟨[(7, .ptr (nid + 300) 0), (8, .int .i64 i), (6, .ptr (nid + 4) 0), (0, .ptr s 0), (1, .int .i64 (faults : Nat)), (2, .int .i64 (tests : Nat))], [(nid + 300, boxP2 x.1.g0 x.1.r0 x.1.b x.1.G x.1.R), (nid + 4, some (.box 29 [.lit true 0 [], .lit true 0 []])), (s, strmC nl A x.1.q)], nid + 400, nid⟩) ?_ (fun ⟨x, hx1, hx2⟩ => ?_)
        · refine SR.run (t := .mk) ?_
          simp -dsimp only [aqT, aqU, aqN, aqS, ↓seqK, ↓blkK, ↓loopK, step, stepBin, Nat.add_assoc nid, ↓reduceIte, Option.toList, ← Int.ofNat_tmod, ← Int.ofNat_tdiv, simprocAttr, BEq.rfl, LN_succ, e1, e2, e3, e4, e5, e6, e7, e8, e9]
          refine CallO.any (dict_I s _ nl A q faults tests (by omega) (by omega) hA hf ht1 ht) (subH_get (by simp only [aqT, aqU, aqN, ↓seqK, ↓blkK, ↓loopK, step, stepBin, Nat.reduceBEq, Nat.reduceBeqDiff, Nat.add_assoc nid, Nat.reduceAdd, reduceCtorEq, ↓reduceIte, Nat.reduceLeDiff, Nat.reduceBneDiff, Option.toList, ← Int.ofNat_tmod, ← Int.ofNat_tdiv, Nat.reduceLT, e1, e2, e3, e4, e5, e6, e7, e8, e9, Int.cast_ofNat_Int, Int.reduceBEq, Int.reduceBNe, Int.reduceLT, Int.reduceLE, Int.reduceAdd, Int.reduceSub, Int.reduceMul, Int.reduceToNat, Int.reduceNeg, Int.reduceTMod, Int.reduceEq, not_false_eq_true, Int.reducePow, Int.reduceFDiv, Nat.reducePow, Nat.reduceSub, Nat.reduceMul, Nat.min_eq_left, Nat.reduceEqDiff, BEq.rfl, Int.tdiv_one, LN_succ])) (fun x hx => ?_)
          unfold dictP
          simp -dsimp only [aqT, aqU, aqN, aqS, ↓seqK, ↓blkK, ↓loopK, step, stepBin, Nat.add_assoc nid, ↓reduceIte, Option.toList, ← Int.ofNat_tmod, ← Int.ofNat_tdiv, simprocAttr, BEq.rfl, LN_succ, e1, e2, e3, e4, e5, e6, e7, e8, e9]
          refine ⟨⟨x, hx⟩, Cov.go [(nid + 300, nid + 120)] [] ?_⟩
          simp [cvT, step, res, e1, e2, e3, e4, e5, e6, e7, e8, e9, strmC, boxP2, ColsEq.refl, -List.getD_eq_getElem?_getD]
        · unfold boxP2
          have hr := fun m => dictR_c x.g0 x.r0 x.b x.G x.R m (hx1.w (by omega))
          unfold dictP at hr
          refine SR.run (t := .mk) ?_
          simp -dsimp only [aqT, aqU, aqN, aqS, ↓seqK, ↓blkK, ↓loopK, step, stepBin, Nat.add_assoc nid, ↓reduceIte, Option.toList, ← Int.ofNat_tmod, ← Int.ofNat_tdiv, simprocAttr, BEq.rfl, LN_succ, e1, e2, e3, e4, e5, e6, e7, e8, e9]
          refine CallO.pure (hr _) ?_
          simp -dsimp only [aqT, aqU, aqN, aqS, ↓seqK, ↓blkK, ↓loopK, step, stepBin, Nat.add_assoc nid, ↓reduceIte, Option.toList, ← Int.ofNat_tmod, ← Int.ofNat_tdiv, simprocAttr, BEq.rfl, LN_succ, e1, e2, e3, e4, e5, e6, e7, e8, e9]
          refine S2.intro (fun h5 => ?_) (fun h5 => ?_) <;> simp -dsimp only [aqT, aqU, aqN, aqS, ↓seqK, ↓blkK, ↓loopK, step, stepBin, Nat.add_assoc nid, ↓reduceIte, Option.toList, ← Int.ofNat_tmod, ← Int.ofNat_tdiv, simprocAttr, BEq.rfl, LN_succ, e1, e2, e3, e4, e5, e6, e7, e8, e9]
          · refine ⟨x, ⟨⟨hx1, by simpa using h5⟩, by omega⟩, RetOK.go [] [] (.inl rfl) ?_⟩
            simp [cvT, step, res, e1, e2, e3, e4, e5, e6, e7, e8, e9, a42, strmC, dictP, ColsEq.refl, -List.getD_eq_getElem?_getD]
          · refine ⟨⟨x.q, by omega⟩, Cov.go [] [] ?_⟩
            simp [cvT, step, res, e1, e2, e3, e4, e5, e6, e7, e8, e9, strmC, -List.getD_eq_getElem?_getD]
      refine SR.run (t := .mk) ?_
      simp -dsimp only [aqT, aqU, aqN, aqS, ↓seqK, ↓blkK, ↓loopK, step, stepBin, Nat.add_assoc nid, ↓reduceIte, Option.toList, ← Int.ofNat_tmod, ← Int.ofNat_tdiv, simprocAttr, BEq.rfl, LN_succ, e1, e2, e3, e4, e5, e6, e7, e8, e9]
      refine ⟨by unfold inI64; omega, (i + 1, q2), ⟨⟨by simp only; omega, by simp only; omega⟩, by simp only; omega⟩, Cov.go [] [] ?_⟩
      simp [cvT, step, res, e1, e2, e3, e4, e5, e6, e7, e8, e9, strmC, -List.getD_eq_getElem?_getD]
    · refine ⟨⟨q, by omega⟩, Cov.go [] [] ?_⟩
      simp [cvT, step, res, e1, e2, e3, e4, e5, e6, e7, e8, e9, strmC, -List.getD_eq_getElem?_getD]
  · refine SR.seqTo ⟨[(6, .ptr (nid + 4) 0)], [(nid + 4, boxD (nid + 2500) 1 (nid + 2504) 0), (nid + 2500, arrS [[48]]), (nid + 2504, some (.arr 67 0 [.s fun k => rowF [] k, .l (fun _ => false) (fun k => (rowR [] k).length) (fun k => [.s fun j => (rowR [] k).getD j []])])), (s, strmC nl A q)], nid + 3000, nid⟩ ?_ ?_
    · simp -dsimp only [aqT, aqU, aqN, aqS, ↓seqK, ↓blkK, ↓loopK, step, stepBin, Nat.add_assoc nid, ↓reduceIte, Option.toList, ← Int.ofNat_tmod, ← Int.ofNat_tdiv, simprocAttr, BEq.rfl, LN_succ, e1, e2, e3, e4, e5, e6, e7, e8, e9]
      refine Cov.go [(nid + 2500, nid + 2000)] [(nid + 2504, 2)] ?_
      simp [cvT, step, res, e1, e2, e3, e4, e5, e6, e7, e8, e9, strmC, boxD, arrS, -List.getD_eq_getElem?_getD]
    unfold boxD arrS
    refine SR.freezeB [nid + 2500, nid + 2504] (fun n2 => ?_)
    simp only [frzS, frzH, frzBlk, lends, lend, kill, strmC, noOs, aqT, aqU, aqN, aqS, ↓seqK, ↓blkK, ↓loopK, step, stepBin, Nat.add_assoc nid, ↓reduceIte, Option.toList, ← Int.ofNat_tmod, ← Int.ofNat_tdiv, simprocAttr, BEq.rfl, LN_succ, e1, e2, e3, e4, e5, e6, e7, e8, e9]
    refine SR.run (t := .mk) ?_
    simp -dsimp only [aqT, aqU, aqN, aqS, ↓seqK, ↓blkK, ↓loopK, step, stepBin, Nat.add_assoc nid, ↓reduceIte, Option.toList, ← Int.ofNat_tmod, ← Int.ofNat_tdiv, simprocAttr, BEq.rfl, LN_succ, e1, e2, e3, e4, e5, e6, e7, e8, e9]
    refine ⟨⟨n2 (nid + 2500), n2 (nid + 2504), fun _ => false, [[48]], [], q⟩, ⟨⟨⟨by simpa using ht1, ?_, by simp, by simp⟩, by rfl⟩, by simp only; omega⟩, RetOK.go [] [] (.inl rfl) ?_⟩
    · intro r hr
      simp only [List.mem_singleton] at hr
      subst hr
      decide
    simp [cvT, step, res, e1, e2, e3, e4, e5, e6, e7, e8, e9, a42, strmC, dictP, ColsEq.refl, -List.getD_eq_getElem?_getD]
end Go.Proofs.YtpifoghhaohhaaaGreatDoor
namespace Go.Proofs.YtpifoghhaohhaaaGreatDoor
theorem rowBad_at {G : List (List UInt8)} {R : RowL} (h : dictV G R = 0) {k : Nat} (hk : k < R.length) : rowBad G.length R k = 0 := by
  unfold dictV at h
  split at h
  · omega
  split at h
  · omega
  split at h
  · omega
  exact firstBad_all h k (List.mem_range.2 hk)
structure DictOk (G : List (List UInt8)) (R : RowL) : Prop where
  lo : 0 < G.length
  hi : G.length ≤ 100
  rl : R.length ≤ 300
  g : ∀ x ∈ G, respB x = true
  r : ∀ x ∈ R, keyB x.1 = true ∧ x.2.length = G.length ∧ ∀ y ∈ x.2, respB y = true
theorem oddS_no {l : List (List UInt8)} (h : l.any oddS = false) : ∀ x ∈ l, respB x = true := fun x hx => by
  have := List.any_eq_false.1 h x hx
  unfold oddS at this
  simpa using this
theorem row_at {R : RowL} {k : Nat} (hk : k < R.length) : rowF R k = R[k].1 ∧ rowR R k = R[k].2 := by
  constructor
  · unfold rowF; rw [List.getD_eq_getElem?_getD, List.getElem?_eq_getElem hk]; rfl
  · unfold rowR; rw [List.getD_eq_getElem?_getD, List.getElem?_eq_getElem hk]; rfl
theorem dict_ok {G : List (List UInt8)} {R : RowL} (h : dictV G R = 0) : DictOk G R := by
  have hb := fun k (hk : k < R.length) => rowBad_at h hk
  unfold dictV at h
  split at h
  · omega
  rename_i h1
  split at h
  · omega
  rename_i h2
  split at h
  · omega
  rename_i h3
  refine ⟨by omega, by omega, by omega, oddS_no (by simpa using h3), fun x hx => ?_⟩
  obtain ⟨k, hk, rfl⟩ := List.getElem_of_mem hx
  obtain ⟨e1, e2⟩ := row_at hk
  have := hb k hk
  unfold rowBad at this
  rw [e1, e2] at this
  split at this
  · omega
  rename_i g1
  split at this
  · omega
  rename_i g2
  split at this
  · omega
  rename_i g3
  exact ⟨by simpa using g1, by simpa using g2, oddS_no (by simpa using g3)⟩
def goodN : List UInt8 := [103, 111, 111, 100]
def rowLn (x : List UInt8 × List (List UInt8)) : List UInt8 := x.1 ++ 32 :: joinW x.2
def dictLn (G : List (List UInt8)) (R : RowL) : List (List UInt8) := rowLn (goodN, G) :: R.map rowLn
def dictT (G : List (List UInt8)) (R : RowL) : List UInt8 := linesV (dictLn G R)
def lnOk (k : Nat) (r : List UInt8) : Bool := !((wrd r).contains []) && (decide (0 < k) || (wrd r).getD 0 [] == goodN)
def lnR (r : List UInt8) : List UInt8 × List (List UInt8) := ((wrd r).getD 0 [], (wrd r).drop 1)
def dG (L : List (List UInt8)) : List (List UInt8) := (wrd (L.getD 0 [])).drop 1
def dR (L : List (List UInt8)) : RowL := (L.drop 1).map lnR
def readD (t : List UInt8) : (List (List UInt8) × RowL) × Nat × Int :=
  if 200000 < t.length then (([], []), 0, 2) else if t = [] then (([], []), 0, 9) else if (eachW lnOk t).2 = false then (([], []), (eachW lnOk t).1, 9) else if dictV (dG (spl t).1) (dR (spl t).1) = 0 then ((dG (spl t).1, dR (spl t).1), 0, 0) else (([], []), 0, dictV (dG (spl t).1) (dR (spl t).1))
theorem len_ne_nil {α : Type} {l : List α} (h : 0 < l.length) : l ≠ [] := fun e => by subst e; simp at h
theorem dictT_len {G : List (List UInt8)} {R : RowL} {m n : Nat} (hG : G.length ≤ m) (hGs : ShortRows 101 G) (hR : R.length ≤ n) (hRs : ∀ x ∈ R, x.1.length ≤ 101 ∧ x.2.length ≤ m + 1 ∧ ShortRows 101 x.2) : (dictT G R).length ≤ (n + 1) * (104 + (m + 1) * 102) := by
  have h1 : ∀ l ∈ dictLn G R, l.length ≤ 103 + (m + 1) * 102 := fun l hl => by
    have key : ∀ x : List UInt8 × List (List UInt8), x.1.length ≤ 101 → x.2.length ≤ m + 1 → ShortRows 101 x.2 → (rowLn x).length ≤ 103 + (m + 1) * 102 := fun x a b c => by
      have h2 := joinW_len x.2 101 c
      have h3 : x.2.length * (101 + 1) ≤ (m + 1) * 102 := Nat.mul_le_mul_right _ b
      unfold rowLn
      rw [List.length_append, List.length_cons]
      omega
    unfold dictLn at hl
    rcases List.mem_cons.1 hl with rfl | hl
    · exact key (goodN, G) (show goodN.length ≤ 101 by decide) (by simp only; omega) hGs
    · obtain ⟨x, hx, rfl⟩ := List.mem_map.1 hl
      obtain ⟨a, b, c⟩ := hRs x hx
      exact key x a b c
  have h2 : ∀ L : List (List UInt8), (∀ l ∈ L, l.length ≤ 103 + (m + 1) * 102) → (linesV L).length ≤ L.length * (104 + (m + 1) * 102) := fun L => by
    induction L with
    | nil => intro _; simp [linesV]
    | cons l L ih =>
      intro h
      have := ih fun x hx => h x (by simp [hx])
      have := h l (by simp)
      have e : linesV (l :: L) = l ++ [10] ++ linesV L := by simp [linesV]
      rw [e, List.length_append, List.length_append, List.length_singleton, List.length_cons, Nat.succ_mul]
      omega
  have h3 := h2 _ h1
  have h4 : (dictLn G R).length ≤ n + 1 := by unfold dictLn; rw [List.length_cons, List.length_map]; omega
  exact Nat.le_trans h3 (Nat.mul_le_mul_right _ h4)
end Go.Proofs.YtpifoghhaohhaaaGreatDoor
namespace Go.Proofs.YtpifoghhaohhaaaGreatDoor
open Go.RowKit Go.Shelf Go.Lib
theorem extra156 : Builder.Extra Tryz.prog Tryz.lays156_ren where
  sizeBuilder := by kernel_rfl
  liesBuilder := by kernel_rfl
  t5 := Tryz.underlying5
  a5 := Tryz.isAgg5
  z5 := Tryz.sizeOf5
  v5 := Tryz.zeroValue5
  infoByte := by kernel_rfl
  cellsByte := by kernel_rfl
  sizeByte := by kernel_rfl
  neB5 := by decide
theorem join_cc (nl : Bool) (l : List (List UInt8)) (sep : List UInt8) (nid : Nat) (hl : l.length ≤ 1000000) (hj : (Lib.join l sep).length ≤ 140737488355328) : ACall Tryz.prog 160 [.lit nl l.length [.s fun i => l.getD i []], .str sep] [] nid (.str (Lib.join l sep)) [] :=
  acall_lib nid Tryz.func160 (by kernel_rfl) (by kernel_rfl) (fun Y m w vs hvl hrep hG hY => by
    obtain ⟨v0, v1, rfl⟩ : ∃ v0 v1, vs = [v0, v1] := by
      match vs, hvl with
      | [a, b], _ => exact ⟨a, b, rfl⟩
    have r0 := hrep 0 _ _ rfl rfl
    have r1 := (hrep 1 _ _ rfl rfl).str_inv
    subst r1
    obtain ⟨A, cap, rfl, hle, hcells⟩ := r0.strs_inv
    have hf : Tryz.lays156_ren.f 156 = 160 := by kernel_rfl
    rcases Nat.eq_zero_or_pos l.length with h0 | h0
    · have hl0 : l = [] := List.eq_nil_of_length_eq_zero h0
      subst hl0
      have h := Any.strings_Join_none Tryz.lays156 extra156 A cap ⟨sep.toArray⟩ w
      rw [hf] at h
      exact h.mono fun e w' ⟨he, hw⟩ => ⟨_, he, .str, hw ▸ Below.refl _ _⟩
    · obtain ⟨b, o, rfl, hb, hc⟩ := hcells h0
      have hmap : (l.map fun s => (⟨s.toArray⟩ : ByteArray)).map (·.data.toList) = l := by
        rw [List.map_map]
        conv => rhs; rw [← List.map_id l]
        refine List.map_congr_left fun s _ => by simp
      have h := Any.strings_Join Tryz.lays156 extra156 b o cap (l.map fun s => ⟨s.toArray⟩) ⟨sep.toArray⟩ w (fun j x hx => by
        rw [List.getElem?_map] at hx
        rcases Nat.lt_or_ge j l.length with hj | hj
        · rw [List.getElem?_eq_getElem hj] at hx
          simp only [Option.map_some, Option.some.injEq] at hx
          subst hx
          have := hc j hj
          rw [List.getD_eq_getElem?_getD, List.getElem?_eq_getElem hj] at this
          exact this
        · rw [List.getElem?_eq_none hj] at hx; cases hx) hb (by rw [List.length_map]; omega) (by rw [List.length_map]; exact hle) (by rw [hmap]; simpa using hj)
      rw [hf, hmap, List.length_map] at h
      exact h.mono fun e w' ⟨he, hB⟩ => ⟨_, he, by simpa using Rep.str, hB⟩)
end Go.Proofs.YtpifoghhaohhaaaGreatDoor
namespace Go.Proofs.YtpifoghhaohhaaaGreatDoor
open Go.RowKit Go.Shelf Go.Lib
theorem lays166 : Lays.n166 Tryz.prog Tryz.lays105_ren := { Tryz.lays105 with }
theorem lays169 : Lays.n169 Tryz.prog Tryz.lays105_ren := { Tryz.lays105 with }
def bld0 : Option ABlk := some (.box 186 [.nilp, .lit true 0 []])
def bld (id ob : Nat) (l : List UInt8) : Option ABlk := some (.box 186 [.ptr id 0, .sl ob 0 l.length])
def arrBy (l : List UInt8) : Option ABlk := some (.arr 5 l.length (byteC l))
theorem wr0_c (id nid : Nat) (hid : id < nid) (s : List UInt8) (hlen : s.length ≤ 140737488355328) :
    ACall Tryz.prog 159 [.ptr id 0, .str s] [(id, bld0)] nid (.tup [.int .i64 s.length, .any]) [(id, bld id nid s), (nid, arrBy s)] :=
  acall_wr0 lays166 extra105 (by decide) (by kernel_rfl) (by kernel_rfl) (by kernel_rfl) Tryz.func159 (by kernel_rfl) (by kernel_rfl) id nid hid s hlen
theorem wr_c (id ob nid : Nat) (hid : id < nid) (hob : ob < nid) (hne : (id == ob) = false) (l s : List UInt8) (hlen : l.length + s.length ≤ 140737488355328) :
    ACall Tryz.prog 159 [.ptr id 0, .str s] [(id, bld id ob l), (ob, arrBy l)] nid (.tup [.int .i64 s.length, .any]) [(id, bld id nid (l ++ s)), (nid, arrBy (l ++ s)), (ob, none)] :=
  acall_wr lays166 extra105 (by decide) (by kernel_rfl) (by kernel_rfl) (by kernel_rfl) Tryz.func159 (by kernel_rfl) (by kernel_rfl) id ob nid hid hob hne l s hlen
theorem bstr_c (id ob nid : Nat) (hne : (id == ob) = false) (l : List UInt8) (h0 : l ≠ []) : ACall Tryz.prog 162 [.ptr id 0] [(id, bld id ob l), (ob, arrBy l)] nid (.str l) [(id, none), (ob, none)] :=
  acall_str lays169 extra105 (by decide) (by kernel_rfl) (by kernel_rfl) (by kernel_rfl) Tryz.func162 (by kernel_rfl) (by kernel_rfl) id ob nid hne l h0
end Go.Proofs.YtpifoghhaohhaaaGreatDoor
namespace Go.Proofs.YtpifoghhaohhaaaGreatDoor
open Go.RowKit Go.Shelf Go.Lib
abbrev SeenL := List (Int × List UInt8)
def sT (S : SeenL) (k : Nat) : Int := (S.getD k (0, [])).1
def sR (S : SeenL) (k : Nat) : List UInt8 := (S.getD k (0, [])).2
def arrSn (S : SeenL) : Option ABlk := some (.arr 69 S.length [.i .i64 fun k => sT S k, .s fun k => sR S k])
def litSn (nl : Bool) (S : SeenL) : PV := .lit nl S.length [.i .i64 fun k => sT S k, .s fun k => sR S k]
def boxRw (f : List UInt8) (b : Bool) (L : List (List UInt8)) : Option ABlk := some (.box 67 [.str f, .lit b L.length [.s fun j => L.getD j []]])
def offB (L : List (List UInt8)) (t : Int) (r : List UInt8) : Bool := !(L.getD t.toNat [] == r)
def SnIn (n : Nat) (S : SeenL) : Prop := ∀ k, k < S.length → 0 ≤ sT S k ∧ sT S k < n
theorem consF_c (f : List UInt8) (b : Bool) (L : List (List UInt8)) (t : Int) (r : List UInt8) (ia nid : Nat) (hia : ia < nid) (h0 : 0 ≤ t) (h1 : t < L.length) (hL : L.length ≤ 1000000) :
    ACall Tryz.prog 190 [.agg [.int .i64 t, .str r], .ptr ia 0] [(ia, boxRw f b L)] nid (.bool (offB L t r)) [] := by
  obtain ⟨a1, a2, a3, a4, a5, a6, a7, a8, a9⟩ := id_all hia
  refine acall_run c190 (by simp [a190]) ?_
  unfold boxRw
  simp -dsimp only [a190, aqT, aqU, aqN, aqS, ↓seqK, ↓blkK, ↓loopK, step, stepBin, Nat.add_assoc nid, ↓reduceIte, Option.toList, ← Int.ofNat_tmod, ← Int.ofNat_tdiv, simprocAttr, BEq.rfl, LN_succ, a1, a2, a3, a4, a5, a6, a7, a8, a9]
  refine ⟨⟨by omega, by omega⟩, ?_⟩
  refine RetOK.go [] [] (.inl rfl) ?_
  simp [a190, cvT, step, res, a1, a2, a3, a4, a5, a6, a7, a8, a9, offB, boxRw, -List.getD_eq_getElem?_getD]
def idxR (F : Nat → Bool) (n : Nat) : Int := if (List.range n).any F = true then (((List.range n).findIdx F : Nat) : Int) else -1
theorem idxR_at {F : Nat → Bool} {n k : Nat} (hk : k < n) (h : F k = true) (h0 : ∀ j, j < k → F j = false) : idxR F n = (k : Nat) := by
  have e : (List.range n).findIdx F = k := (List.findIdx_eq (by simpa using hk)).2 ⟨by simpa using h, fun j hj => by simpa using h0 j hj⟩
  unfold idxR
  rw [if_pos, e]
  exact List.any_eq_true.2 ⟨k, List.mem_range.2 hk, h⟩
theorem idxR_no {F : Nat → Bool} {n : Nat} (h0 : ∀ j, j < n → F j = false) : idxR F n = -1 := by
  unfold idxR
  rw [if_neg]
  intro h
  obtain ⟨x, hx, hf⟩ := List.any_eq_true.1 h
  rw [h0 x (List.mem_range.1 hx)] at hf; cases hf
theorem idxR_any (F : Nat → Bool) (n : Nat) : decide (0 ≤ idxR F n) = (List.range n).any F := by
  unfold idxR
  cases h : (List.range n).any F <;> simp
theorem indexSn_c (f : Nat) (F : Nat → Bool) (nl : Bool) (S : SeenL) (g : List UInt8) (b : Bool) (L : List (List UInt8)) (ia nid : Nat) (hia : ia < nid) (hl : S.length ≤ 1000000)
    (hf : ∀ k, k < S.length → ∀ nid', ia < nid' → ACall Tryz.prog f [.agg [.int .i64 (sT S k), .str (sR S k)], .ptr ia 0] [(ia, boxRw g b L)] nid' (.bool (F k)) []) :
    ACall Tryz.prog 205 [litSn nl S, .fn f [.ptr ia 0]] [(ia, boxRw g b L)] nid (.int .i64 (idxR F S.length)) [] := by
  obtain ⟨a1, a2, a3, a4, a5, a6, a7, a8, a9⟩ := id_all hia
  refine acall_run c205 (by simp [a205]) ?_
  unfold litSn
  simp -dsimp only [a205, aqT, aqU, aqN, aqS, ↓seqK, ↓blkK, ↓loopK, step, stepBin, Nat.add_assoc nid, ↓reduceIte, Option.toList, ← Int.ofNat_tmod, ← Int.ofNat_tdiv, simprocAttr, BEq.rfl, LN_succ, a1, a2, a3, a4, a5, a6, a7, a8, a9]
  refine LP.mkP (fun k : Nat => k ≤ S.length ∧ ∀ j, j < k → F j = false) (fun k : Nat => ⟨[(8, .int .i64 k), (7, .int .i64 S.length), (0, litSn nl S), (1, .fn f [.ptr ia 0])], [(ia, boxRw g b L)], nid + 100, nid⟩) (fun k => S.length + 1 - k) 0 ⟨by omega, fun j hj => by omega⟩ (Cov.go [] [] ?_) (fun k hk => ?_)
  · simp [cvT, step, res, litSn, boxRw, a1, a2, a3, a4, a5, a6, a7, a8, a9, -List.getD_eq_getElem?_getD]
  obtain ⟨hk, hb⟩ := hk
  unfold litSn
  simp -dsimp only [aqT, aqU, aqN, aqS, ↓seqK, ↓blkK, ↓loopK, step, stepBin, Nat.add_assoc nid, ↓reduceIte, Option.toList, ← Int.ofNat_tmod, ← Int.ofNat_tdiv, simprocAttr, BEq.rfl, LN_succ, a1, a2, a3, a4, a5, a6, a7, a8, a9]
  refine S2.dec (fun h3 => ?_) (fun h3 => ?_) <;> simp -dsimp only [aqT, aqU, aqN, aqS, ↓seqK, ↓blkK, ↓loopK, step, stepBin, Nat.add_assoc nid, ↓reduceIte, Option.toList, ← Int.ofNat_tmod, ← Int.ofNat_tdiv, simprocAttr, BEq.rfl, LN_succ, a1, a2, a3, a4, a5, a6, a7, a8, a9]
  · have hkl : k < S.length := by omega
    refine ⟨by omega, CallO.on (hf k hkl _ (by omega)) (subH_get (by simp only [aqT, aqU, aqN, aqS, ↓seqK, ↓blkK, ↓loopK, step, stepBin, Nat.add_assoc nid, ↓reduceIte, Option.toList, ← Int.ofNat_tmod, ← Int.ofNat_tdiv, simprocAttr, BEq.rfl, LN_succ, a1, a2, a3, a4, a5, a6, a7, a8, a9])) ?_⟩
    simp -dsimp only [aqT, aqU, aqN, aqS, ↓seqK, ↓blkK, ↓loopK, step, stepBin, Nat.add_assoc nid, ↓reduceIte, Option.toList, ← Int.ofNat_tmod, ← Int.ofNat_tdiv, simprocAttr, BEq.rfl, LN_succ, a1, a2, a3, a4, a5, a6, a7, a8, a9]
    refine S2.intro (fun h4 => ?_) (fun h4 => ?_) <;> simp -dsimp only [aqT, aqU, aqN, aqS, ↓seqK, ↓blkK, ↓loopK, step, stepBin, Nat.add_assoc nid, ↓reduceIte, Option.toList, ← Int.ofNat_tmod, ← Int.ofNat_tdiv, simprocAttr, BEq.rfl, LN_succ, a1, a2, a3, a4, a5, a6, a7, a8, a9]
    · rw [idxR_at hkl h4 hb]
      refine RetOK.go [] [] (.inl rfl) ?_
      simp [a205, cvT, step, res, boxRw, a1, a2, a3, a4, a5, a6, a7, a8, a9, -List.getD_eq_getElem?_getD]
    · refine ⟨by unfold inI64; omega, k + 1, ⟨⟨by omega, fun j hj => ?_⟩, by omega⟩, Cov.go [] [] ?_⟩
      · rcases (by omega : j < k ∨ j = k) with hj | hj
        · exact hb j hj
        · rw [hj]; exact h4
      · simp [cvT, step, res, litSn, boxRw, a1, a2, a3, a4, a5, a6, a7, a8, a9, -List.getD_eq_getElem?_getD]
  · have hkn : k = S.length := by omega
    subst hkn
    rw [idxR_no hb]
    refine RetOK.go [] [] (.inl rfl) ?_
    simp [a205, cvT, step, res, boxRw, a1, a2, a3, a4, a5, a6, a7, a8, a9, -List.getD_eq_getElem?_getD]
theorem containsSn_c (f : Nat) (F : Nat → Bool) (nl : Bool) (S : SeenL) (g : List UInt8) (b : Bool) (L : List (List UInt8)) (ia nid : Nat) (hia : ia < nid) (hl : S.length ≤ 1000000)
    (hf : ∀ k, k < S.length → ∀ nid', ia < nid' → ACall Tryz.prog f [.agg [.int .i64 (sT S k), .str (sR S k)], .ptr ia 0] [(ia, boxRw g b L)] nid' (.bool (F k)) []) :
    ACall Tryz.prog 125 [litSn nl S, .fn f [.ptr ia 0]] [(ia, boxRw g b L)] nid (.bool ((List.range S.length).any F)) [] := by
  obtain ⟨a1, a2, a3, a4, a5, a6, a7, a8, a9⟩ := id_all hia
  refine acall_run c125 (by simp [a125]) ?_
  simp -dsimp only [a125, aqT, aqU, aqN, aqS, ↓seqK, ↓blkK, ↓loopK, step, stepBin, Nat.add_assoc nid, ↓reduceIte, Option.toList, ← Int.ofNat_tmod, ← Int.ofNat_tdiv, simprocAttr, BEq.rfl, LN_succ, a1, a2, a3, a4, a5, a6, a7, a8, a9]
  refine CallO.on (indexSn_c f F nl S g b L ia _ (by omega) hl hf) (fun _ _ h => h) ?_
  simp -dsimp only [aqT, aqU, aqN, aqS, ↓seqK, ↓blkK, ↓loopK, step, stepBin, Nat.add_assoc nid, ↓reduceIte, Option.toList, ← Int.ofNat_tmod, ← Int.ofNat_tdiv, simprocAttr, BEq.rfl, LN_succ, a1, a2, a3, a4, a5, a6, a7, a8, a9]
  have e := idxR_any F S.length
  generalize idxR F S.length = i at *
  rw [← e]
  refine RetOK.go [] [] (.inl rfl) ?_
  simp [a125, cvT, step, res, boxRw, a1, a2, a3, a4, a5, a6, a7, a8, a9, -List.getD_eq_getElem?_getD]
def consB (L : List (List UInt8)) (S : SeenL) : Bool := !(List.range S.length).any (fun k => offB L (sT S k) (sR S k))
theorem cons_c (f : List UInt8) (b : Bool) (L : List (List UInt8)) (nl : Bool) (S : SeenL) (nid : Nat) (hl : S.length ≤ 1000000) (hL : L.length ≤ 1000000) (hS : SnIn L.length S) :
    ACall Tryz.prog 111 [.agg [.str f, litS b L], litSn nl S] [] nid (.bool (consB L S)) [] := by
  refine acall_run c111 (by simp [a111]) ?_
  unfold litS
  simp -dsimp only [aqT, aqU, aqN, aqS, ↓seqK, ↓blkK, ↓loopK, step, stepBin, Nat.add_assoc nid, ↓reduceIte, Option.toList, ← Int.ofNat_tmod, ← Int.ofNat_tdiv, simprocAttr, BEq.rfl, LN_succ, a111]
  refine CallO.on (containsSn_c 190 (fun k => offB L (sT S k) (sR S k)) nl S f b L nid _ (by omega) hl (fun k hk nid' h' => consF_c f b L _ _ nid nid' h' (hS k hk).1 (hS k hk).2 hL)) (subH_get (by simp only [aqT, aqU, aqN, aqS, ↓seqK, ↓blkK, ↓loopK, step, stepBin, Nat.add_assoc nid, ↓reduceIte, Option.toList, ← Int.ofNat_tmod, ← Int.ofNat_tdiv, simprocAttr, BEq.rfl, LN_succ, boxRw])) ?_
  simp -dsimp only [aqT, aqU, aqN, aqS, ↓seqK, ↓blkK, ↓loopK, step, stepBin, Nat.add_assoc nid, ↓reduceIte, Option.toList, ← Int.ofNat_tmod, ← Int.ofNat_tdiv, simprocAttr, BEq.rfl, LN_succ]
  unfold consB
  refine RetOK.go [] [] (.inl rfl) ?_
  simp [a111, cvT, step, res, -List.getD_eq_getElem?_getD]
end Go.Proofs.YtpifoghhaohhaaaGreatDoor
namespace Go.Proofs.YtpifoghhaohhaaaGreatDoor
open Go.RowKit Go.Shelf Go.Lib
def seenBad (n : Nat) (S : SeenL) (k : Nat) : Int :=
  if outB (sT S k) 0 ((n : Int) - 1) = true then 1 else if oddS (sR S k) = true then 9 else if 0 < k ∧ sT S k ≤ sT S (k - 1) then 7 else 0
def seenV (G : List (List UInt8)) (R : RowL) (S : SeenL) : Int :=
  if dictV G R ≠ 0 then dictV G R else if 100 < S.length then 2 else firstBad (seenBad G.length S) (List.range S.length)
structure SnW (S : SeenL) : Prop where
  l : S.length ≤ 1000000
  r : ∀ k, (sR S k).length ≤ 1000000
theorem seenV_row {G : List (List UInt8)} {R : RowL} {S : SeenL} {k : Nat} {e : Int} (h1 : dictV G R = 0) (h2 : ¬ 100 < S.length) (hk : k < S.length) (h0 : ∀ j, j < k → seenBad G.length S j = 0) (h : seenBad G.length S k = e) (he : e ≠ 0) : seenV G R S = e := by
  unfold seenV
  rw [if_neg (by simp [h1]), if_neg h2, firstR_hit hk h0 (by rw [h]; exact he), h]
theorem seenV_good {G : List (List UInt8)} {R : RowL} {S : SeenL} (h1 : dictV G R = 0) (h2 : ¬ 100 < S.length) (h0 : ∀ j, j < S.length → seenBad G.length S j = 0) : seenV G R S = 0 := by
  unfold seenV
  rw [if_neg (by simp [h1]), if_neg h2, firstR_none h0]
set_option maxHeartbeats 1000000 in
theorem seenD_c (g0 r0 : Bool) (b : Nat → Bool) (G : List (List UInt8)) (R : RowL) (nl : Bool) (S : SeenL) (nid : Nat) (hB : DictW G R) (hS : SnW S) : ACall Tryz.prog 64 [dictP g0 r0 b G R, litSn nl S] [] nid (.int .i64 (seenV G R S)) [] := by
  have hgl := hB.gl
  have hsl := hS.l
  have hd := fun m => dictD_c g0 r0 b G R m hB
  refine acall_sr c64 (by simp [a64]) ?_
  unfold a64
  refine SR.seq ?_
  unfold dictP litSn at *
  simp -dsimp only [aqT, aqU, aqN, aqS, ↓seqK, ↓blkK, ↓loopK, step, stepBin, Nat.add_assoc nid, ↓reduceIte, Option.toList, ← Int.ofNat_tmod, ← Int.ofNat_tdiv, simprocAttr, BEq.rfl, LN_succ]
  refine SR.seqW (ι := {_u : Unit // dictV G R = 0}) (fun _ => ⟨[(2, .ptr nid 0), (1, litSn nl S)], [(nid, boxP2 g0 r0 b G R)], nid + 100, nid⟩) ?_ (fun ⟨_, h1⟩ => ?_)
  · refine SR.run (t := .mk) ?_
    simp -dsimp only [aqT, aqU, aqN, aqS, ↓seqK, ↓blkK, ↓loopK, step, stepBin, Nat.add_assoc nid, ↓reduceIte, Option.toList, ← Int.ofNat_tmod, ← Int.ofNat_tdiv, simprocAttr, BEq.rfl, LN_succ]
    refine CallO.pure (hd _) ?_
    simp -dsimp only [aqT, aqU, aqN, aqS, ↓seqK, ↓blkK, ↓loopK, step, stepBin, Nat.add_assoc nid, ↓reduceIte, Option.toList, ← Int.ofNat_tmod, ← Int.ofNat_tdiv, simprocAttr, BEq.rfl, LN_succ]
    refine S2.intro (fun h1 => ?_) (fun h1 => ?_) <;> simp -dsimp only [aqT, aqU, aqN, aqS, ↓seqK, ↓blkK, ↓loopK, step, stepBin, Nat.add_assoc nid, ↓reduceIte, Option.toList, ← Int.ofNat_tmod, ← Int.ofNat_tdiv, simprocAttr, BEq.rfl, LN_succ]
    · have e : seenV G R S = dictV G R := by unfold seenV; rw [if_pos (by simpa using h1)]
      rw [e]
      refine RetOK.pure (.inl rfl) rfl ?_
      simp [cvT, step, res]
    · refine ⟨⟨(), by simpa using h1⟩, Cov.go [] [] ?_⟩
      simp [cvT, step, res, boxP2, litSn, ColsEq.refl, -List.getD_eq_getElem?_getD]
  refine SR.seqW (ι := {_u : Unit // ¬ 100 < S.length}) (fun _ => ⟨[(2, .ptr nid 0), (1, litSn nl S)], [(nid, boxP2 g0 r0 b G R)], nid + 150, nid⟩) ?_ (fun ⟨_, h2⟩ => ?_)
  · unfold litSn
    refine SR.run (t := .mk) ?_
    simp -dsimp only [aqT, aqU, aqN, aqS, ↓seqK, ↓blkK, ↓loopK, step, stepBin, Nat.add_assoc nid, ↓reduceIte, Option.toList, ← Int.ofNat_tmod, ← Int.ofNat_tdiv, simprocAttr, BEq.rfl, LN_succ]
    refine S2.dec (fun h2 => ?_) (fun h2 => ?_) <;> simp -dsimp only [aqT, aqU, aqN, aqS, ↓seqK, ↓blkK, ↓loopK, step, stepBin, Nat.add_assoc nid, ↓reduceIte, Option.toList, ← Int.ofNat_tmod, ← Int.ofNat_tdiv, simprocAttr, BEq.rfl, LN_succ]
    · have e : seenV G R S = 2 := by unfold seenV; rw [if_neg (by simp [h1]), if_pos (by omega)]
      rw [e]
      refine RetOK.pure (.inl rfl) rfl ?_
      simp [cvT, step, res]
    · refine ⟨⟨(), by omega⟩, Cov.go [] [] ?_⟩
      simp [cvT, step, res, boxP2, litSn, ColsEq.refl, -List.getD_eq_getElem?_getD]
  refine SR.seqW (ι := {_u : Unit // ∀ j, j < S.length → seenBad G.length S j = 0}) (fun _ => ⟨[], [], nid + 2000, nid⟩) ?_ (fun ⟨_, h5⟩ => ?_)
  · unfold boxP2 litSn
    refine SR.seqTo ⟨[(18, .int .i64 0), (17, .int .i64 S.length), (16, litSn nl S), (2, .ptr nid 0), (1, litSn nl S)], [(nid, boxP2 g0 r0 b G R)], nid + 200, nid⟩ ?_ ?_
    · simp -dsimp only [aqT, aqU, aqN, aqS, ↓seqK, ↓blkK, ↓loopK, step, stepBin, Nat.add_assoc nid, ↓reduceIte, Option.toList, ← Int.ofNat_tmod, ← Int.ofNat_tdiv, simprocAttr, BEq.rfl, LN_succ]
      refine Cov.go [] [] ?_
      simp [cvT, step, res, boxP2, litSn, ColsEq.refl, -List.getD_eq_getElem?_getD]
    refine SR.block ?_
    refine SR.loopP (fun k : Nat => k ≤ S.length ∧ ∀ j, j < k → seenBad G.length S j = 0) (fun k : Nat => ⟨[(18, .int .i64 k), (17, .int .i64 S.length), (16, litSn nl S), (2, .ptr nid 0), (1, litSn nl S)], [(nid, boxP2 g0 r0 b G R)], nid + 200, nid⟩) (fun k => S.length + 1 - k) 0 ⟨by omega, fun j hj => by omega⟩ (Cov.drop (by omega) ?_) (fun k hk => ?_)
    · simp only [SlotsIn, aqT, aqU, aqN, ↓seqK, ↓blkK, ↓loopK, step, stepBin, Nat.reduceBEq, Nat.reduceBeqDiff, Nat.add_assoc nid, Nat.reduceAdd, reduceCtorEq, ↓reduceIte, Nat.reduceLeDiff, Nat.reduceBneDiff, Option.toList, ← Int.ofNat_tmod, ← Int.ofNat_tdiv, Nat.reduceLT]
      try simp
    obtain ⟨hk, hall⟩ := hk
    refine SR.seq ?_
    simp -dsimp only [aqT, aqU, aqN, aqS, ↓seqK, ↓blkK, ↓loopK, step, stepBin, Nat.add_assoc nid, ↓reduceIte, Option.toList, ← Int.ofNat_tmod, ← Int.ofNat_tdiv, simprocAttr, BEq.rfl, LN_succ]
    refine SR.seq ?_
    simp -dsimp only [aqT, aqU, aqN, aqS, ↓seqK, ↓blkK, ↓loopK, step, stepBin, Nat.add_assoc nid, ↓reduceIte, Option.toList, ← Int.ofNat_tmod, ← Int.ofNat_tdiv, simprocAttr, BEq.rfl, LN_succ]
    refine S2.dec (fun h4 => ?_) (fun h4 => ?_) <;> simp -dsimp only [aqT, aqU, aqN, aqS, ↓seqK, ↓blkK, ↓loopK, step, stepBin, Nat.add_assoc nid, ↓reduceIte, Option.toList, ← Int.ofNat_tmod, ← Int.ofNat_tdiv, simprocAttr, BEq.rfl, LN_succ]
    · have hkl : k < S.length := by omega
      have hbad := fun e => seenV_row (e := e) h1 h2 hkl hall
      have hr1 := hS.r k
      refine SR.seqW (ι := {_u : Unit // seenBad G.length S k = 0}) (fun _ => ⟨[(18, .int .i64 k), (17, .int .i64 S.length), (16, litSn nl S), (2, .ptr nid 0), (1, litSn nl S)], [(nid, boxP2 g0 r0 b G R)], nid + 900, nid⟩) ?_ (fun ⟨_, h6⟩ => ?_)
      · refine SR.block ?_
        unfold litSn
        refine SR.seqTo ⟨[(7, .ptr (nid + 300) 0), (6, .int .i64 k), (18, .int .i64 k), (17, .int .i64 S.length), (16, litSn nl S), (2, .ptr nid 0), (1, litSn nl S)], [(nid + 300, some (.box 69 [.int .i64 (sT S k), .str (sR S k)])), (nid, boxP2 g0 r0 b G R)], nid + 400, nid⟩ ?_ ?_
        · simp -dsimp only [aqT, aqU, aqN, aqS, ↓seqK, ↓blkK, ↓loopK, step, stepBin, Nat.add_assoc nid, ↓reduceIte, Option.toList, ← Int.ofNat_tmod, ← Int.ofNat_tdiv, simprocAttr, BEq.rfl, LN_succ]
          refine ⟨by omega, Cov.go [(nid + 300, nid + 216)] [] ?_⟩
          simp [cvT, step, res, boxP2, litSn, ColsEq.refl, -List.getD_eq_getElem?_getD]
        unfold boxP2 litSn
        refine SR.block ?_
        refine SR.seq ?_
        simp -dsimp only [aqT, aqU, aqN, aqS, ↓seqK, ↓blkK, ↓loopK, step, stepBin, Nat.add_assoc nid, ↓reduceIte, Option.toList, ← Int.ofNat_tmod, ← Int.ofNat_tdiv, simprocAttr, BEq.rfl, LN_succ]
        refine ⟨by unfold inI64; omega, CallO.pure (out_c _ _ _ _) ?_⟩
        simp -dsimp only [aqT, aqU, aqN, aqS, ↓seqK, ↓blkK, ↓loopK, step, stepBin, Nat.add_assoc nid, ↓reduceIte, Option.toList, ← Int.ofNat_tmod, ← Int.ofNat_tdiv, simprocAttr, BEq.rfl, LN_succ]
        refine SR.cond (b := outB (sT S k) 0 ((G.length : Int) - 1)) (by simp [AX.val, getS]) (fun h => ?_) (fun h => ?_)
        · rw [hbad 1 (by unfold seenBad; rw [if_pos h]) (by decide)]
          refine SR.run (t := .mk) ?_
          simp -dsimp only [aqT, aqU, aqN, aqS, ↓seqK, ↓blkK, ↓loopK, step, stepBin, Nat.add_assoc nid, ↓reduceIte, Option.toList, ← Int.ofNat_tmod, ← Int.ofNat_tdiv, simprocAttr, BEq.rfl, LN_succ]
          refine RetOK.pure (.inl rfl) rfl ?_
          simp [cvT, step, res]
        have hk1 : ¬ outB (sT S k) 0 ((G.length : Int) - 1) = true := by simp [h]
        refine SR.seq ?_
        simp -dsimp only [aqT, aqU, aqN, aqS, ↓seqK, ↓blkK, ↓loopK, step, stepBin, Nat.add_assoc nid, ↓reduceIte, Option.toList, ← Int.ofNat_tmod, ← Int.ofNat_tdiv, simprocAttr, BEq.rfl, LN_succ]
        refine CallO.pure (respD_c _ _ hr1) ?_
        simp -dsimp only [aqT, aqU, aqN, aqS, ↓seqK, ↓blkK, ↓loopK, step, stepBin, Nat.add_assoc nid, ↓reduceIte, Option.toList, ← Int.ofNat_tmod, ← Int.ofNat_tdiv, simprocAttr, BEq.rfl, LN_succ]
        refine SR.cond (b := !respB (sR S k)) (by simp [AX.val, getS]) (fun h => ?_) (fun h => ?_)
        · rw [hbad 9 (by unfold seenBad; rw [if_neg hk1, if_pos (show oddS (sR S k) = true from h)]) (by decide)]
          refine SR.run (t := .mk) ?_
          simp -dsimp only [aqT, aqU, aqN, aqS, ↓seqK, ↓blkK, ↓loopK, step, stepBin, Nat.add_assoc nid, ↓reduceIte, Option.toList, ← Int.ofNat_tmod, ← Int.ofNat_tdiv, simprocAttr, BEq.rfl, LN_succ]
          refine RetOK.pure (.inl rfl) rfl ?_
          simp [cvT, step, res]
        have hk2 : ¬ oddS (sR S k) = true := by unfold oddS; simpa using h
        refine SR.seqTo ⟨[(36, .bool (decide ((0 : Int) < k) && decide (sT S k ≤ sT S (k - 1)))), (18, .int .i64 k), (17, .int .i64 S.length), (16, litSn nl S), (2, .ptr nid 0), (1, litSn nl S)], [(nid, boxP2 g0 r0 b G R)], nid + 700, nid⟩ ?_ ?_
        · simp -dsimp only [aqT, aqU, aqN, aqS, ↓seqK, ↓blkK, ↓loopK, step, stepBin, Nat.add_assoc nid, ↓reduceIte, Option.toList, ← Int.ofNat_tmod, ← Int.ofNat_tdiv, simprocAttr, BEq.rfl, LN_succ]
          refine S2.dec (fun h0 => ?_) (fun h0 => ?_) <;> simp -dsimp only [aqT, aqU, aqN, aqS, ↓seqK, ↓blkK, ↓loopK, step, stepBin, Nat.add_assoc nid, ↓reduceIte, Option.toList, ← Int.ofNat_tmod, ← Int.ofNat_tdiv, simprocAttr, BEq.rfl, LN_succ]
          · have e : ((k : Int) - 1).toNat = k - 1 := by omega
            rw [e]
            refine ⟨by unfold inI64; omega, by omega, Cov.go [] [] ?_⟩
            simp [cvT, step, res, boxP2, litSn, ColsEq.refl, decide_eq_true h0, -List.getD_eq_getElem?_getD]
            try omega
          · refine Cov.go [] [] ?_
            simp [cvT, step, res, boxP2, litSn, ColsEq.refl, decide_eq_false h0, -List.getD_eq_getElem?_getD]
            try omega
        refine SR.cond (b := decide ((0 : Int) < k) && decide (sT S k ≤ sT S (k - 1))) (by simp [AX.val, getS]) (fun h => ?_) (fun h => ?_)
        · simp only [Bool.and_eq_true, decide_eq_true_eq] at h
          rw [hbad 7 (by unfold seenBad; rw [if_neg hk1, if_neg hk2, if_pos ⟨by omega, h.2⟩]) (by decide)]
          refine SR.run (t := .mk) ?_
          simp -dsimp only [aqT, aqU, aqN, aqS, ↓seqK, ↓blkK, ↓loopK, step, stepBin, Nat.add_assoc nid, ↓reduceIte, Option.toList, ← Int.ofNat_tmod, ← Int.ofNat_tdiv, simprocAttr, BEq.rfl, LN_succ]
          refine RetOK.pure (.inl rfl) rfl ?_
          simp [cvT, step, res]
        have hk4 : ¬ (0 < k ∧ sT S k ≤ sT S (k - 1)) := fun ⟨e1, e2⟩ => by
          rw [decide_eq_true e2, decide_eq_true (by omega)] at h
          simp at h
        refine SR.run (t := .mk) ?_
        simp -dsimp only [aqT, aqU, aqN, aqS, ↓seqK, ↓blkK, ↓loopK, step, stepBin, Nat.add_assoc nid, ↓reduceIte, Option.toList, ← Int.ofNat_tmod, ← Int.ofNat_tdiv, simprocAttr, BEq.rfl, LN_succ]
        refine ⟨⟨(), by unfold seenBad; rw [if_neg hk1, if_neg hk2, if_neg hk4]⟩, Cov.go [] [] ?_⟩
        simp [cvT, step, res, boxP2, litSn, ColsEq.refl, -List.getD_eq_getElem?_getD]
      refine SR.run (t := .mk) ?_
      simp -dsimp only [aqT, aqU, aqN, aqS, ↓seqK, ↓blkK, ↓loopK, step, stepBin, Nat.add_assoc nid, ↓reduceIte, Option.toList, ← Int.ofNat_tmod, ← Int.ofNat_tdiv, simprocAttr, BEq.rfl, LN_succ]
      refine ⟨by unfold inI64; omega, k + 1, ⟨⟨by omega, fun j hj => ?_⟩, by omega⟩, Cov.go [] [] ?_⟩
      · rcases (by omega : j < k ∨ j = k) with hj | hj
        · exact hall j hj
        · rw [hj]; exact h6
      simp [cvT, step, res, boxP2, litSn, ColsEq.refl, -List.getD_eq_getElem?_getD]
    · refine ⟨⟨(), fun j hj => hall j (by omega)⟩, Cov.go [] [] ?_⟩
      simp [cvT, step, res, boxP2, -List.getD_eq_getElem?_getD]
  · rw [seenV_good h1 h2 h5]
    refine SR.run (t := .mk) ?_
    simp -dsimp only [aqT, aqU, aqN, aqS, ↓seqK, ↓blkK, ↓loopK, step, stepBin, Nat.add_assoc nid, ↓reduceIte, Option.toList, ← Int.ofNat_tmod, ← Int.ofNat_tdiv, simprocAttr, BEq.rfl, LN_succ]
    refine RetOK.pure (.inl rfl) rfl ?_
    simp [cvT, step, res]
end Go.Proofs.YtpifoghhaohhaaaGreatDoor
namespace Go.Proofs.YtpifoghhaohhaaaGreatDoor
open Go.RowKit Go.Shelf Go.Lib
theorem firstBad_all0 {f : Nat → Int} {n : Nat} (h : firstBad f (List.range n) = 0) : ∀ j, j < n → f j = 0 := fun j hj => firstBad_all h j (List.mem_range.2 hj)
theorem dictV_rows {G : List (List UInt8)} {R : RowL} (h : dictV G R = 0) : ∀ j, j < R.length → (rowR R j).length = G.length := fun j hj => by
  unfold dictV at h
  split at h
  · omega
  split at h
  · omega
  split at h
  · omega
  have := firstBad_all0 h j hj
  unfold rowBad at this
  split at this
  · omega
  split at this
  · omega
  omega
def candL (R : RowL) (S : SeenL) : List (List UInt8) := (R.filter fun x => consB x.2 S).map (·.1)
theorem candL_snoc (R : RowL) (S : SeenL) {k : Nat} (hk : k < R.length) : candL (R.take (k + 1)) S = if consB (rowR R k) S = true then candL (R.take k) S ++ [rowF R k] else candL (R.take k) S := by
  have e : R.take (k + 1) = R.take k ++ [(rowF R k, rowR R k)] := by
    unfold rowF rowR
    rw [List.getD_eq_getElem?_getD, List.getElem?_eq_getElem hk]
    exact List.take_succ_eq_append_getElem hk
  unfold candL
  rw [e, List.filter_append, List.map_append]
  cases h : consB (rowR R k) S <;> simp [h]
theorem candL_len (R : RowL) (S : SeenL) : (candL R S).length ≤ R.length := by
  unfold candL
  rw [List.length_map]
  exact List.length_filter_le _ _
theorem candidates_c (g0 r0 : Bool) (b : Nat → Bool) (G : List (List UInt8)) (R : RowL) (nl : Bool) (S : SeenL) (nid : Nat) (hB : DictW G R) (hS : SnW S) (hD : dictV G R = 0) (hV : seenV G R S = 0) (hI : SnIn G.length S) :
    ACall Tryz.prog 36 [dictP g0 r0 b G R, litSn nl S] [] nid (.tup [.sl nid 0 (candL R S).length, .bool (consB G S), .int .i64 0]) [(nid, arrS (candL R S))] := by
  have hgl := hB.gl
  have hrl := hB.rl
  have hsl := hS.l
  have hd := fun m => seenD_c g0 r0 b G R nl S m hB hS
  rw [hV] at hd
  have hlen := dictV_rows hD
  have hG := fun m => cons_c [] g0 G nl S m hsl hgl hI
  refine acall_sr c36 (by simp [a36]) ?_
  unfold a36
  refine SR.seq ?_
  unfold dictP litSn at *
  simp -dsimp only [aqT, aqU, aqN, aqS, ↓seqK, ↓blkK, ↓loopK, step, stepBin, Nat.add_assoc nid, ↓reduceIte, Option.toList, ← Int.ofNat_tmod, ← Int.ofNat_tdiv, simprocAttr, BEq.rfl, LN_succ]
  refine SR.seqTo ⟨[(2, .ptr nid 0), (1, litSn nl S)], [(nid, boxP2 g0 r0 b G R)], nid + 100, nid⟩ ?_ ?_
  · simp -dsimp only [aqT, aqU, aqN, aqS, ↓seqK, ↓blkK, ↓loopK, step, stepBin, Nat.add_assoc nid, ↓reduceIte, Option.toList, ← Int.ofNat_tmod, ← Int.ofNat_tdiv, simprocAttr, BEq.rfl, LN_succ]
    refine CallO.pure (hd _) ?_
    simp -dsimp only [aqT, aqU, aqN, aqS, ↓seqK, ↓blkK, ↓loopK, step, stepBin, Nat.add_assoc nid, ↓reduceIte, Option.toList, ← Int.ofNat_tmod, ← Int.ofNat_tdiv, simprocAttr, BEq.rfl, LN_succ]
    refine Cov.go [] [] ?_
    simp [cvT, step, res, boxP2, litSn, ColsEq.refl, -List.getD_eq_getElem?_getD]
  refine SR.seq ?_
  simp -dsimp only [aqT, aqU, aqN, aqS, ↓seqK, ↓blkK, ↓loopK, step, stepBin, Nat.add_assoc nid, ↓reduceIte, Option.toList, ← Int.ofNat_tmod, ← Int.ofNat_tdiv, simprocAttr, BEq.rfl, LN_succ]
  refine SR.seqTo ⟨[(8, .sl (nid + 180) 0 (candL R S).length), (2, .ptr nid 0), (1, litSn nl S)], [(nid + 180, arrS (candL R S)), (nid, boxP2 g0 r0 b G R)], nid + 2000, nid⟩ ?_ ?_
  · unfold boxP2 litSn
    simp -dsimp only [aqT, aqU, aqN, aqS, ↓seqK, ↓blkK, ↓loopK, step, stepBin, Nat.add_assoc nid, ↓reduceIte, Option.toList, ← Int.ofNat_tmod, ← Int.ofNat_tdiv, simprocAttr, BEq.rfl, LN_succ]
    refine LP.mkP (fun k : Nat => k ≤ R.length) (fun k : Nat => ⟨[(20, .int .i64 k), (19, .int .i64 R.length), (18, .lit r0 R.length [.s fun k => rowF R k, .l b (fun k => (rowR R k).length) (fun k => [.s fun j => (rowR R k).getD j []])]), (8, .sl (nid + 180) 0 (candL (R.take k) S).length), (2, .ptr nid 0), (1, litSn nl S)], [(nid + 180, arrS (candL (R.take k) S)), (nid, boxP2 g0 r0 b G R)], nid + 200, nid⟩) (fun k => R.length + 1 - k) 0 (by omega) (Cov.go [] [(nid + 180, 1)] ?_) (fun k hk => ?_)
    · simp [cvT, step, res, boxP2, litSn, arrS, candL, ColsEq.refl, -List.getD_eq_getElem?_getD]
    unfold boxP2 litSn arrS
    simp -dsimp only [aqT, aqU, aqN, aqS, ↓seqK, ↓blkK, ↓loopK, step, stepBin, Nat.add_assoc nid, ↓reduceIte, Option.toList, ← Int.ofNat_tmod, ← Int.ofNat_tdiv, simprocAttr, BEq.rfl, LN_succ]
    refine S2.dec (fun h4 => ?_) (fun h4 => ?_) <;> simp -dsimp only [aqT, aqU, aqN, aqS, ↓seqK, ↓blkK, ↓loopK, step, stepBin, Nat.add_assoc nid, ↓reduceIte, Option.toList, ← Int.ofNat_tmod, ← Int.ofNat_tdiv, simprocAttr, BEq.rfl, LN_succ]
    · have hkl : k < R.length := by omega
      obtain ⟨hf1, hr1, hs1⟩ := hB.rs k
      have hc := fun m => cons_c (rowF R k) (b k) (rowR R k) nl S m hsl hr1 (by rw [hlen k hkl]; exact hI)
      unfold litS litSn at hc
      refine ⟨by omega, CallO.pure (hc _) ?_⟩
      simp -dsimp only [aqT, aqU, aqN, aqS, ↓seqK, ↓blkK, ↓loopK, step, stepBin, Nat.add_assoc nid, ↓reduceIte, Option.toList, ← Int.ofNat_tmod, ← Int.ofNat_tdiv, simprocAttr, BEq.rfl, LN_succ]
      have hsn := candL_snoc R S hkl
      have hcl : (candL (R.take k) S).length ≤ k := by have := candL_len (R.take k) S; rw [List.length_take] at this; omega
      cases h5 : consB (rowR R k) S <;> rw [h5] at hsn <;> simp -dsimp only [aqT, aqU, aqN, aqS, ↓seqK, ↓blkK, ↓loopK, step, stepBin, Nat.add_assoc nid, ↓reduceIte, Option.toList, ← Int.ofNat_tmod, ← Int.ofNat_tdiv, simprocAttr, BEq.rfl, LN_succ]
      · rw [if_neg (by simp)] at hsn
        refine ⟨by unfold inI64; omega, k + 1, ⟨by omega, by omega⟩, Cov.go [] [] ?_⟩
        rw [hsn]
        simp [cvT, step, res, boxP2, litSn, arrS, ColsEq.refl, -List.getD_eq_getElem?_getD]
      · rw [if_pos rfl] at hsn
        rw [getD_app1 _ (rowF R k) rfl]
        have hl : (candL (R.take (k + 1)) S).length = (candL (R.take k) S).length + 1 := by rw [hsn]; simp
        refine ⟨⟨by omega, by omega⟩, by unfold inI64; omega, k + 1, ⟨by omega, by omega⟩, Cov.go [(nid + 180, nid + 248)] [] ?_⟩
        simp only [hsn]
        simp [cvT, step, res, boxP2, litSn, arrS, ColsEq.refl, -List.getD_eq_getElem?_getD, -List.length_append]
        try simp
    · have hkn : k = R.length := by omega
      subst hkn
      rw [List.take_length]
      refine Cov.go [] [] ?_
      simp [cvT, step, res, boxP2, litSn, arrS, ColsEq.refl, -List.getD_eq_getElem?_getD]
  · unfold litS at hG
    unfold boxP2 litSn arrS
    refine SR.run (t := .mk) ?_
    simp -dsimp only [aqT, aqU, aqN, aqS, ↓seqK, ↓blkK, ↓loopK, step, stepBin, Nat.add_assoc nid, ↓reduceIte, Option.toList, ← Int.ofNat_tmod, ← Int.ofNat_tdiv, simprocAttr, BEq.rfl, LN_succ]
    refine CallO.pure (hG _) ?_
    simp -dsimp only [aqT, aqU, aqN, aqS, ↓seqK, ↓blkK, ↓loopK, step, stepBin, Nat.add_assoc nid, ↓reduceIte, Option.toList, ← Int.ofNat_tmod, ← Int.ofNat_tdiv, simprocAttr, BEq.rfl, LN_succ]
    refine RetOK.go [(nid, nid + 180)] [] (.inl rfl) ?_
    simp [cvT, step, res, ColsEq.refl, -List.getD_eq_getElem?_getD]
def rowsP (r0 : Bool) (b : Nat → Bool) (R : RowL) : PV := .lit r0 R.length [.s fun k => rowF R k, .l b (fun k => (rowR R k).length) (fun k => [.s fun j => (rowR R k).getD j []])]
end Go.Proofs.YtpifoghhaohhaaaGreatDoor
namespace Go.Proofs.YtpifoghhaohhaaaGreatDoor
open Go.RowKit Go.Shelf Go.Lib
theorem lines_part (L : List (List UInt8)) (k : Nat) : (linesV (L.take k)).length ≤ (linesV L).length := by
  have e : linesV L = linesV (L.take k) ++ linesV (L.drop k) := by
    unfold linesV
    rw [← List.flatten_append, ← List.map_append, List.take_append_drop]
  rw [e, List.length_append]
  omega
theorem lines_succ {L : List (List UInt8)} {k : Nat} (h : k < L.length) : linesV (L.take (k + 1)) = linesV (L.take k) ++ (L.getD k [] ++ [10]) := by
  have e : L.take (k + 1) = L.take k ++ [L.getD k []] := take_snoc (by rw [List.getD_eq_getElem?_getD, List.getElem?_eq_getElem h]; rfl)
  rw [e]
  simp [linesV]
theorem dictLn_at (G : List (List UInt8)) {R : RowL} {k : Nat} (hk : k < R.length) : (dictLn G R).getD (k + 1) [] = rowF R k ++ 32 :: joinW (rowR R k) := by
  obtain ⟨e1, e2⟩ := row_at hk
  unfold dictLn
  rw [List.getD_cons_succ, List.getD_eq_getElem?_getD, List.getElem?_map, List.getElem?_eq_getElem hk, e1, e2]
  rfl
theorem dictLn_0 (G : List (List UInt8)) (R : RowL) : linesV ((dictLn G R).take 1) = 103 :: 111 :: 111 :: 100 :: 32 :: (joinW G ++ [10]) := by
  simp [dictLn, linesV, rowLn, goodN]
theorem dictLn_len (G : List (List UInt8)) (R : RowL) : (dictLn G R).length = R.length + 1 := by simp [dictLn]
theorem dict_step {G : List (List UInt8)} {R : RowL} {k : Nat} (hk : k < R.length) : linesV ((dictLn G R).take (k + 1 + 1)) = linesV ((dictLn G R).take (k + 1)) ++ (((rowF R k ++ [32]) ++ joinW (rowR R k)) ++ [10]) := by
  rw [lines_succ (by rw [dictLn_len]; omega), dictLn_at G hk]
  simp
structure TxtW (G : List (List UInt8)) (R : RowL) : Prop where
  all : (dictT G R).length ≤ 200000
theorem TxtW.pre {G : List (List UInt8)} {R : RowL} (h : TxtW G R) (k : Nat) : (linesV ((dictLn G R).take k)).length ≤ 200000 := by
  have := lines_part (dictLn G R) k
  have := h.all
  unfold dictT at this
  omega
theorem TxtW.g {G : List (List UInt8)} {R : RowL} (h : TxtW G R) : (joinW G).length ≤ 200000 := by
  have := h.pre 1
  rw [dictLn_0] at this
  simp only [List.length_append, List.length_cons, List.length_nil] at this
  omega
theorem TxtW.r {G : List (List UInt8)} {R : RowL} (h : TxtW G R) {k : Nat} (hk : k < R.length) : (linesV ((dictLn G R).take (k + 1))).length + ((((rowF R k ++ [32]) ++ joinW (rowR R k)) ++ [10]).length) ≤ 200000 := by
  have := h.pre (k + 2)
  rw [dict_step hk, List.length_append] at this
  exact this
theorem bldLen_c (id ob nid : Nat) (h1 : id < nid) (h2 : ob < nid) (n1 : id ≠ ob) (l : List UInt8) : ACall Tryz.prog 161 [.ptr id 0] [(id, bld id ob l), (ob, arrBy l)] nid (.int .i64 l.length) [] := by
  obtain ⟨a1, a2, a3, a4, a5, a6, a7, a8, a9⟩ := id_all h1; obtain ⟨b1, b2, b3, b4, b5, b6, b7, b8, b9⟩ := id_all h2; have g1 : (id == ob) = false := (by simpa using n1); have g2 : (ob == id) = false := (by simpa using fun h => n1 h.symm); have m1 : ¬ ob = id := fun h => n1 h.symm
  refine acall_run c161 (by simp [a161]) ?_
  unfold bld arrBy
  simp -dsimp only [a161, aqT, aqU, aqN, aqS, ↓seqK, ↓blkK, ↓loopK, step, stepBin, Nat.add_assoc nid, ↓reduceIte, Option.toList, ← Int.ofNat_tmod, ← Int.ofNat_tdiv, simprocAttr, BEq.rfl, LN_succ, a1, a2, a3, a4, a5, a6, a7, a8, a9, b1, b2, b3, b4, b5, b6, b7, b8, b9, g1, g2, n1, m1]
  refine RetOK.go [] [] (.inl rfl) ?_
  simp [a161, cvT, step, res, a1, a2, a3, a4, a5, a6, a7, a8, a9, b1, b2, b3, b4, b5, b6, b7, b8, b9, g1, g2, n1, m1, byteC]
theorem textBad_c (g0 r0 : Bool) (b : Nat → Bool) (G : List (List UInt8)) (R : RowL) (nid : Nat) (hB : DictW G R) (hV : dictV G R ≠ 0) :
    ACall Tryz.prog 68 [dictP g0 r0 b G R] [] nid (.tup [.str [], .int .i64 (dictV G R)]) [] := by
  have hd := fun m => dictD_c g0 r0 b G R m hB
  refine acall_sr c68 (by simp [a68]) ?_
  unfold a68 dictP at *
  refine SR.run (t := .mk) ?_
  simp -dsimp only [aqT, aqU, aqN, aqS, ↓seqK, ↓blkK, ↓loopK, step, stepBin, Nat.add_assoc nid, ↓reduceIte, Option.toList, ← Int.ofNat_tmod, ← Int.ofNat_tdiv, simprocAttr, BEq.rfl, LN_succ]
  refine CallO.pure (hd _) ?_
  simp -dsimp only [aqT, aqU, aqN, aqS, ↓seqK, ↓blkK, ↓loopK, step, stepBin, Nat.add_assoc nid, ↓reduceIte, Option.toList, ← Int.ofNat_tmod, ← Int.ofNat_tdiv, simprocAttr, BEq.rfl, LN_succ]
  refine S2.yes (by simpa using hV) ?_
  simp -dsimp only [aqT, aqU, aqN, aqS, ↓seqK, ↓blkK, ↓loopK, step, stepBin, Nat.add_assoc nid, ↓reduceIte, Option.toList, ← Int.ofNat_tmod, ← Int.ofNat_tdiv, simprocAttr, BEq.rfl, LN_succ]
  refine RetOK.pure (.inl rfl) rfl ?_
  simp [cvT, step, res]
set_option maxHeartbeats 4000000 in
theorem text_c (g0 r0 : Bool) (b : Nat → Bool) (G : List (List UInt8)) (R : RowL) (nid : Nat) (hB : DictW G R) (hD : dictV G R = 0) (hT : TxtW G R) :
    ACall Tryz.prog 68 [dictP g0 r0 b G R] [] nid (.tup [.str (dictT G R), .int .i64 0]) [] := by
  have hd := fun m => dictD_c g0 r0 b G R m hB
  rw [hD] at hd
  have hgl := hB.gl
  have hrl := hB.rl
  have hjg := hT.g
  have hj0 := dictLn_0 G R
  have hne : linesV ((dictLn G R).take (R.length + 1)) ≠ [] := by
    rw [List.take_of_length_le (by rw [dictLn_len]; omega)]
    simp [dictLn, linesV]
  have hpre := hT.pre
  have hrr := fun k hk => hT.r (k := k) hk
  have hst := fun k hk => dict_step (G := G) (R := R) (k := k) hk
  have hend : linesV ((dictLn G R).take (R.length + 1)) = dictT G R := by rw [List.take_of_length_le (by rw [dictLn_len]; omega)]; rfl
  refine acall_sr c68 (by simp [a68]) ?_
  unfold a68 dictP at *
  refine SR.seq ?_
  simp -dsimp only [aqT, aqU, aqN, aqS, ↓seqK, ↓blkK, ↓loopK, step, stepBin, Nat.add_assoc nid, ↓reduceIte, Option.toList, ← Int.ofNat_tmod, ← Int.ofNat_tdiv, simprocAttr, BEq.rfl, LN_succ]
  refine SR.seqTo ⟨[(1, .ptr nid 0)], [(nid, boxP2 g0 r0 b G R)], nid + 100, nid⟩ ?_ ?_
  · simp -dsimp only [aqT, aqU, aqN, aqS, ↓seqK, ↓blkK, ↓loopK, step, stepBin, Nat.add_assoc nid, ↓reduceIte, Option.toList, ← Int.ofNat_tmod, ← Int.ofNat_tdiv, simprocAttr, BEq.rfl, LN_succ]
    refine CallO.pure (hd _) ?_
    simp -dsimp only [aqT, aqU, aqN, aqS, ↓seqK, ↓blkK, ↓loopK, step, stepBin, Nat.add_assoc nid, ↓reduceIte, Option.toList, ← Int.ofNat_tmod, ← Int.ofNat_tdiv, simprocAttr, BEq.rfl, LN_succ]
    refine Cov.go [] [] ?_
    simp [cvT, step, res, boxP2, ColsEq.refl, -List.getD_eq_getElem?_getD]
  clear hd
  unfold boxP2
  refine SR.seq ?_
  simp -dsimp only [aqT, aqU, aqN, aqS, ↓seqK, ↓blkK, ↓loopK, step, stepBin, Nat.add_assoc nid, ↓reduceIte, Option.toList, ← Int.ofNat_tmod, ← Int.ofNat_tdiv, simprocAttr, BEq.rfl, LN_succ]
  refine SR.seqTo ⟨[(5, .ptr (nid + 4) 0), (1, .ptr nid 0)], [(nid + 4, bld (nid + 4) (nid + 8) (linesV ((dictLn G R).take 1))), (nid + 8, arrBy (linesV ((dictLn G R).take 1))), (nid, boxP2 g0 r0 b G R)], nid + 200, nid⟩ ?_ ?_
  · simp -dsimp only [aqT, aqU, aqN, aqS, ↓seqK, ↓blkK, ↓loopK, step, stepBin, Nat.add_assoc nid, ↓reduceIte, Option.toList, ← Int.ofNat_tmod, ← Int.ofNat_tdiv, simprocAttr, BEq.rfl, LN_succ]
    refine CallO.pure (join_cc g0 G [32] _ hgl (by rw [join_joinW]; omega)) ?_
    rw [join_joinW]
    simp -dsimp only [aqT, aqU, aqN, aqS, ↓seqK, ↓blkK, ↓loopK, step, stepBin, Nat.add_assoc nid, ↓reduceIte, Option.toList, ← Int.ofNat_tmod, ← Int.ofNat_tdiv, simprocAttr, BEq.rfl, LN_succ]
    refine ⟨by omega, by omega, ?_⟩
    rw [← hj0]
    have := hpre 1
    refine CallO.on (wr0_c (nid + 100) _ (by omega) _ (by omega)) (subH_get (by simp only [aqT, aqU, aqN, aqS, ↓seqK, ↓blkK, ↓loopK, step, stepBin, Nat.add_assoc nid, ↓reduceIte, Option.toList, ← Int.ofNat_tmod, ← Int.ofNat_tdiv, simprocAttr, BEq.rfl, LN_succ, bld0])) ?_
    generalize linesV ((dictLn G R).take 1) = L at *
    unfold bld arrBy
    simp -dsimp only [aqT, aqU, aqN, aqS, ↓seqK, ↓blkK, ↓loopK, step, stepBin, Nat.add_assoc nid, ↓reduceIte, Option.toList, ← Int.ofNat_tmod, ← Int.ofNat_tdiv, simprocAttr, BEq.rfl, LN_succ]
    refine Cov.go [(nid + 4, nid + 100), (nid + 8, nid + 124)] [] ?_
    simp [cvT, step, res, boxP2, byteC, ColsEq.refl, -List.getD_eq_getElem?_getD]
  unfold bld arrBy boxP2
  refine SR.seqW (ι := Unit) (fun _ => ⟨[(5, .ptr (nid + 4) 0), (1, .ptr nid 0)], [(nid + 4, bld (nid + 4) (nid + 8) (dictT G R)), (nid + 8, arrBy (dictT G R))], nid + 900, nid⟩) ?_ (fun _ => ?_)
  · refine SR.seqTo ⟨[(22, .int .i64 0), (21, .int .i64 R.length), (20, rowsP r0 b R), (5, .ptr (nid + 4) 0), (1, .ptr nid 0)], [(nid + 4, bld (nid + 4) (nid + 8) (linesV ((dictLn G R).take 1))), (nid + 8, arrBy (linesV ((dictLn G R).take 1))), (nid, boxP2 g0 r0 b G R)], nid + 300, nid⟩ ?_ ?_
    · generalize linesV ((dictLn G R).take 1) = L at *
      simp -dsimp only [aqT, aqU, aqN, aqS, ↓seqK, ↓blkK, ↓loopK, step, stepBin, Nat.add_assoc nid, ↓reduceIte, Option.toList, ← Int.ofNat_tmod, ← Int.ofNat_tdiv, simprocAttr, BEq.rfl, LN_succ]
      refine Cov.go [] [] ?_
      simp [cvT, step, res, boxP2, rowsP, bld, arrBy, byteC, ColsEq.refl, -List.getD_eq_getElem?_getD]
    refine SR.block ?_
    refine SR.loopP (fun k : Nat => k ≤ R.length) (fun k => ⟨[(22, .int .i64 k), (21, .int .i64 R.length), (20, rowsP r0 b R), (5, .ptr (nid + 4) 0), (1, .ptr nid 0)], [(nid + 4, bld (nid + 4) (nid + 8) (linesV ((dictLn G R).take (k + 1)))), (nid + 8, arrBy (linesV ((dictLn G R).take (k + 1)))), (nid, boxP2 g0 r0 b G R)], nid + 400, nid⟩) (fun k => R.length + 1 - k) 0 (by omega) (Cov.go [] [] ?_) (fun k hk => ?_)
    · simp [cvT, step, res, boxP2, rowsP, bld, arrBy, byteC, ColsEq.refl, -List.getD_eq_getElem?_getD]
    have hrr := hrr k
    have hst := hst k
    have hend2 : k = R.length → dictT G R = linesV ((dictLn G R).take (k + 1)) := fun e => by rw [e]; exact hend.symm
    generalize linesV ((dictLn G R).take (k + 1)) = L at *
    generalize hL2 : linesV ((dictLn G R).take (k + 1 + 1)) = L2 at *
    refine SR.run (t := .mk) ?_
    unfold rowsP bld arrBy boxP2
    simp -dsimp only [aqT, aqU, aqN, aqS, ↓seqK, ↓blkK, ↓loopK, step, stepBin, Nat.add_assoc nid, ↓reduceIte, Option.toList, ← Int.ofNat_tmod, ← Int.ofNat_tdiv, simprocAttr, BEq.rfl, LN_succ]
    refine S2.dec (fun h3 => ?_) (fun h3 => ?_) <;> simp -dsimp only [aqT, aqU, aqN, aqS, ↓seqK, ↓blkK, ↓loopK, step, stepBin, Nat.add_assoc nid, ↓reduceIte, Option.toList, ← Int.ofNat_tmod, ← Int.ofNat_tdiv, simprocAttr, BEq.rfl, LN_succ]
    · have hkl : k < R.length := by omega
      have hrr := hrr hkl
      have hst := hst hkl
      obtain ⟨hf1, hr1, hs1⟩ := hB.rs k
      have hl1 : ([10] : List UInt8).length = 1 := rfl
      have hl3 : ([32] : List UInt8).length = 1 := rfl
      simp only [List.length_append, hl1, hl3] at hrr
      refine ⟨by omega, by omega, CallX.pure (join_cc (b k) (rowR R k) [32] _ hr1 (by rw [join_joinW]; omega)) ?_⟩
      rw [join_joinW]
      simp -dsimp only [aqT, aqU, aqN, aqS, ↓seqK, ↓blkK, ↓loopK, step, stepBin, Nat.add_assoc nid, ↓reduceIte, Option.toList, ← Int.ofNat_tmod, ← Int.ofNat_tdiv, simprocAttr, BEq.rfl, LN_succ]
      refine ⟨by rw [List.length_append]; omega, by rw [List.length_append, List.length_append]; omega, ?_⟩
      refine CallX.on (wr_c (nid + 4) (nid + 8) _ (by omega) (by omega) (by simp) L _ (by simp only [List.length_append, hl1, hl3]; omega)) (subH_cons (by simp only [aqT, aqU, aqN, aqS, ↓seqK, ↓blkK, ↓loopK, step, stepBin, Nat.add_assoc nid, ↓reduceIte, Option.toList, ← Int.ofNat_tmod, ← Int.ofNat_tdiv, simprocAttr, BEq.rfl, LN_succ, bld]) (subH_get (by simp only [aqT, aqU, aqN, aqS, ↓seqK, ↓blkK, ↓loopK, step, stepBin, Nat.add_assoc nid, ↓reduceIte, Option.toList, ← Int.ofNat_tmod, ← Int.ofNat_tdiv, simprocAttr, BEq.rfl, LN_succ, arrBy]))) ?_
      rw [← hst]
      unfold bld arrBy
      simp -dsimp only [aqT, aqU, aqN, aqS, ↓seqK, ↓blkK, ↓loopK, step, stepBin, Nat.add_assoc nid, ↓reduceIte, Option.toList, ← Int.ofNat_tmod, ← Int.ofNat_tdiv, simprocAttr, BEq.rfl, LN_succ]
      refine ⟨rfl, by unfold inI64; omega, k + 1, ⟨by omega, by omega⟩, Cov.go [(nid + 8, nid + 452)] [] ?_⟩
      simp [hL2, cvT, step, res, boxP2, rowsP, bld, arrBy, byteC, ColsEq.refl, -List.getD_eq_getElem?_getD]
    · rw [hend2 (by omega)]
      refine ⟨(), Cov.go [] [] ?_⟩
      simp [cvT, step, res, bld, arrBy, byteC, ColsEq.refl, -List.getD_eq_getElem?_getD]
  rw [hend] at hne
  have hal := hT.all
  generalize dictT G R = D at *
  refine SR.run (t := .mk) ?_
  unfold bld arrBy
  simp -dsimp only [aqT, aqU, aqN, aqS, ↓seqK, ↓blkK, ↓loopK, step, stepBin, Nat.add_assoc nid, ↓reduceIte, Option.toList, ← Int.ofNat_tmod, ← Int.ofNat_tdiv, simprocAttr, BEq.rfl, LN_succ]
  refine CallO.on (bldLen_c (nid + 4) (nid + 8) _ (by omega) (by omega) (by simp) D) (subH_cons (by simp only [aqT, aqU, aqN, aqS, ↓seqK, ↓blkK, ↓loopK, step, stepBin, Nat.add_assoc nid, ↓reduceIte, Option.toList, ← Int.ofNat_tmod, ← Int.ofNat_tdiv, simprocAttr, BEq.rfl, LN_succ, bld]) (subH_get (by simp only [aqT, aqU, aqN, aqS, ↓seqK, ↓blkK, ↓loopK, step, stepBin, Nat.add_assoc nid, ↓reduceIte, Option.toList, ← Int.ofNat_tmod, ← Int.ofNat_tdiv, simprocAttr, BEq.rfl, LN_succ, arrBy]))) ?_
  simp -dsimp only [aqT, aqU, aqN, aqS, ↓seqK, ↓blkK, ↓loopK, step, stepBin, Nat.add_assoc nid, ↓reduceIte, Option.toList, ← Int.ofNat_tmod, ← Int.ofNat_tdiv, simprocAttr, BEq.rfl, LN_succ]
  refine S2.no (by simp; omega) ?_
  simp -dsimp only [aqT, aqU, aqN, aqS, ↓seqK, ↓blkK, ↓loopK, step, stepBin, Nat.add_assoc nid, ↓reduceIte, Option.toList, ← Int.ofNat_tmod, ← Int.ofNat_tdiv, simprocAttr, BEq.rfl, LN_succ]
  refine CallO.on (bstr_c (nid + 4) (nid + 8) _ (by simp) D hne) (subH_cons (by simp only [aqT, aqU, aqN, aqS, ↓seqK, ↓blkK, ↓loopK, step, stepBin, Nat.add_assoc nid, ↓reduceIte, Option.toList, ← Int.ofNat_tmod, ← Int.ofNat_tdiv, simprocAttr, BEq.rfl, LN_succ, bld]) (subH_get (by simp only [aqT, aqU, aqN, aqS, ↓seqK, ↓blkK, ↓loopK, step, stepBin, Nat.add_assoc nid, ↓reduceIte, Option.toList, ← Int.ofNat_tmod, ← Int.ofNat_tdiv, simprocAttr, BEq.rfl, LN_succ, arrBy]))) ?_
  simp -dsimp only [aqT, aqU, aqN, aqS, ↓seqK, ↓blkK, ↓loopK, step, stepBin, Nat.add_assoc nid, ↓reduceIte, Option.toList, ← Int.ofNat_tmod, ← Int.ofNat_tdiv, simprocAttr, BEq.rfl, LN_succ]
  refine RetOK.pure (.inl rfl) rfl ?_
  simp [cvT, step, res]
end Go.Proofs.YtpifoghhaohhaaaGreatDoor
namespace Go.Proofs.YtpifoghhaohhaaaGreatDoor
open Go.RowKit Go.Shelf Go.Lib
theorem consCol (x : List UInt8) (l : List (List UInt8)) : (fun i => if i < 1 then [x].getD i [] else l.getD (i - 1) []) = fun i => (x :: l).getD i [] := by
  funext i
  cases i with
  | zero => rfl
  | succ i => rw [if_neg (by omega), List.getD_cons_succ, Nat.add_sub_cancel]
set_option maxHeartbeats 4000000 in
theorem dictLines_c (g0 r0 : Bool) (b : Nat → Bool) (G : List (List UInt8)) (R : RowL) (nid : Nat) (hB : DictW G R) (hD : dictV G R = 0) (hT : TxtW G R) :
    ACall Tryz.prog 69 [dictP g0 r0 b G R] [] nid (.str (dictT G R)) [] := by
  have hgl := hB.gl
  have hrl := hB.rl
  have hjg := hT.g
  have hj0 := dictLn_0 G R
  have hok := dict_ok hD
  have hlo := hok.lo
  have hhi := hok.hi
  have hG : G ≠ [] := len_ne_nil hlo
  have hrn : ∀ k, k < R.length → rowR R k ≠ [] := fun k hk => by
    have := dictV_rows hD k hk
    exact len_ne_nil (by omega)
  have hne : linesV ((dictLn G R).take (R.length + 1)) ≠ [] := by
    rw [List.take_of_length_le (by rw [dictLn_len]; omega)]
    simp [dictLn, linesV]
  have hpre := hT.pre
  have hrr := fun k hk => hT.r (k := k) hk
  have hst := fun k hk => dict_step (G := G) (R := R) (k := k) hk
  have hend : linesV ((dictLn G R).take (R.length + 1)) = dictT G R := by rw [List.take_of_length_le (by rw [dictLn_len]; omega)]; rfl
  refine acall_sr c69 (by simp [a69]) ?_
  unfold a69 dictP at *
  refine SR.seq ?_
  simp -dsimp only [aqT, aqU, aqN, aqS, ↓seqK, ↓blkK, ↓loopK, step, stepBin, Nat.add_assoc nid, ↓reduceIte, Option.toList, ← Int.ofNat_tmod, ← Int.ofNat_tdiv, simprocAttr, BEq.rfl, LN_succ]
  refine SR.seq ?_
  simp -dsimp only [aqT, aqU, aqN, aqS, ↓seqK, ↓blkK, ↓loopK, step, stepBin, Nat.add_assoc nid, ↓reduceIte, Option.toList, ← Int.ofNat_tmod, ← Int.ofNat_tdiv, simprocAttr, BEq.rfl, LN_succ]
  refine SR.seqTo ⟨[(3, .ptr (nid + 4) 0), (1, .ptr nid 0)], [(nid + 4, bld (nid + 4) (nid + 8) (linesV ((dictLn G R).take 1))), (nid + 8, arrBy (linesV ((dictLn G R).take 1))), (nid, boxP2 g0 r0 b G R)], nid + 200, nid⟩ ?_ ?_
  · simp -dsimp only [aqT, aqU, aqN, aqS, ↓seqK, ↓blkK, ↓loopK, step, stepBin, Nat.add_assoc nid, ↓reduceIte, Option.toList, ← Int.ofNat_tmod, ← Int.ofNat_tdiv, simprocAttr, BEq.rfl, LN_succ]
    have e0 := consCol [103, 111, 111, 100] G
    refine ⟨⟨by omega, by omega⟩, ?_⟩
    have hl4 : ([103, 111, 111, 100] : List UInt8).length = 4 := rfl
    have hjw : joinW (([103, 111, 111, 100] : List UInt8) :: G) = [103, 111, 111, 100] ++ 32 :: joinW G := joinW_cons _ hG
    have hjl : (joinW (([103, 111, 111, 100] : List UInt8) :: G)).length ≤ 200005 := by rw [hjw]; simp only [List.length_append, List.length_cons, hl4]; omega
    refine CallO.lent [nid + 24] (fun nl' => by
      simp only [lends, lend, noOs, aqT, aqU, aqN, aqS, ↓seqK, ↓blkK, ↓loopK, step, stepBin, Nat.add_assoc nid, ↓reduceIte, Option.toList, ← Int.ofNat_tmod, ← Int.ofNat_tdiv, simprocAttr, BEq.rfl, LN_succ]
      rw [e0]
      have h := join_cc (nl' (nid + 24)) (([103, 111, 111, 100] : List UInt8) :: G) [32] (nid + 28) (by rw [List.length_cons]; omega) (by rw [join_joinW]; omega)
      rw [show (([103, 111, 111, 100] : List UInt8) :: G).length = 1 + G.length by simp [Nat.add_comm]] at h
      exact h) rfl rfl (by simp only [List.mem_singleton, forall_eq, aqT, aqU, aqN, aqS, ↓seqK, ↓blkK, ↓loopK, step, stepBin, Nat.add_assoc nid, ↓reduceIte, Option.toList, ← Int.ofNat_tmod, ← Int.ofNat_tdiv, simprocAttr, BEq.rfl, LN_succ]) ?_
    rw [join_joinW]
    simp -dsimp only [aqT, aqU, aqN, aqS, ↓seqK, ↓blkK, ↓loopK, step, stepBin, Nat.add_assoc nid, ↓reduceIte, Option.toList, ← Int.ofNat_tmod, ← Int.ofNat_tdiv, simprocAttr, BEq.rfl, LN_succ]
    have hl1 : ([10] : List UInt8).length = 1 := rfl
    have e1 : joinW (([103, 111, 111, 100] : List UInt8) :: G) ++ [10] = linesV ((dictLn G R).take 1) := by rw [hj0, hjw]; simp
    refine ⟨by omega, ?_⟩
    rw [e1]
    have := hpre 1
    refine CallO.on (wr0_c (nid + 8) _ (by omega) _ (by omega)) (subH_get (by simp only [aqT, aqU, aqN, aqS, ↓seqK, ↓blkK, ↓loopK, step, stepBin, Nat.add_assoc nid, ↓reduceIte, Option.toList, ← Int.ofNat_tmod, ← Int.ofNat_tdiv, simprocAttr, BEq.rfl, LN_succ, bld0])) ?_
    generalize linesV ((dictLn G R).take 1) = L at *
    unfold bld arrBy
    simp -dsimp only [aqT, aqU, aqN, aqS, ↓seqK, ↓blkK, ↓loopK, step, stepBin, Nat.add_assoc nid, ↓reduceIte, Option.toList, ← Int.ofNat_tmod, ← Int.ofNat_tdiv, simprocAttr, BEq.rfl, LN_succ]
    refine Cov.go [(nid + 4, nid + 8), (nid + 8, nid + 36)] [] ?_
    simp [cvT, step, res, boxP2, byteC, ColsEq.refl, -List.getD_eq_getElem?_getD]
  unfold bld arrBy boxP2
  refine SR.seqW (ι := Unit) (fun _ => ⟨[(3, .ptr (nid + 4) 0), (1, .ptr nid 0)], [(nid + 4, bld (nid + 4) (nid + 8) (dictT G R)), (nid + 8, arrBy (dictT G R))], nid + 900, nid⟩) ?_ (fun _ => ?_)
  · refine SR.seqTo ⟨[(16, .int .i64 0), (15, .int .i64 R.length), (14, rowsP r0 b R), (3, .ptr (nid + 4) 0), (1, .ptr nid 0)], [(nid + 4, bld (nid + 4) (nid + 8) (linesV ((dictLn G R).take 1))), (nid + 8, arrBy (linesV ((dictLn G R).take 1))), (nid, boxP2 g0 r0 b G R)], nid + 300, nid⟩ ?_ ?_
    · generalize linesV ((dictLn G R).take 1) = L at *
      simp -dsimp only [aqT, aqU, aqN, aqS, ↓seqK, ↓blkK, ↓loopK, step, stepBin, Nat.add_assoc nid, ↓reduceIte, Option.toList, ← Int.ofNat_tmod, ← Int.ofNat_tdiv, simprocAttr, BEq.rfl, LN_succ]
      refine Cov.go [] [] ?_
      simp [cvT, step, res, boxP2, rowsP, bld, arrBy, byteC, ColsEq.refl, -List.getD_eq_getElem?_getD]
    refine SR.block ?_
    refine SR.loopP (fun k : Nat => k ≤ R.length) (fun k => ⟨[(16, .int .i64 k), (15, .int .i64 R.length), (14, rowsP r0 b R), (3, .ptr (nid + 4) 0), (1, .ptr nid 0)], [(nid + 4, bld (nid + 4) (nid + 8) (linesV ((dictLn G R).take (k + 1)))), (nid + 8, arrBy (linesV ((dictLn G R).take (k + 1)))), (nid, boxP2 g0 r0 b G R)], nid + 400, nid⟩) (fun k => R.length + 1 - k) 0 (by omega) (Cov.go [] [] ?_) (fun k hk => ?_)
    · simp [cvT, step, res, boxP2, rowsP, bld, arrBy, byteC, ColsEq.refl, -List.getD_eq_getElem?_getD]
    have hrr := hrr k
    have hst := hst k
    have hend2 : k = R.length → dictT G R = linesV ((dictLn G R).take (k + 1)) := fun e => by rw [e]; exact hend.symm
    generalize linesV ((dictLn G R).take (k + 1)) = L at *
    generalize hL2 : linesV ((dictLn G R).take (k + 1 + 1)) = L2 at *
    refine SR.run (t := .mk) ?_
    unfold rowsP bld arrBy boxP2
    simp -dsimp only [aqT, aqU, aqN, aqS, ↓seqK, ↓blkK, ↓loopK, step, stepBin, Nat.add_assoc nid, ↓reduceIte, Option.toList, ← Int.ofNat_tmod, ← Int.ofNat_tdiv, simprocAttr, BEq.rfl, LN_succ]
    refine S2.dec (fun h3 => ?_) (fun h3 => ?_) <;> simp -dsimp only [aqT, aqU, aqN, aqS, ↓seqK, ↓blkK, ↓loopK, step, stepBin, Nat.add_assoc nid, ↓reduceIte, Option.toList, ← Int.ofNat_tmod, ← Int.ofNat_tdiv, simprocAttr, BEq.rfl, LN_succ]
    · have hkl : k < R.length := by omega
      have hrr := hrr hkl
      have hst := hst hkl
      have hrnk := hrn k hkl
      have hrk := dictV_rows hD k hkl
      obtain ⟨hf1, hr1, hs1⟩ := hB.rs k
      have hl1 : ([10] : List UInt8).length = 1 := rfl
      have hl3 : ([32] : List UInt8).length = 1 := rfl
      simp only [List.length_append, hl1, hl3] at hrr
      have e0 := consCol (rowF R k) (rowR R k)
      have hjw : joinW (rowF R k :: rowR R k) = rowF R k ++ 32 :: joinW (rowR R k) := joinW_cons _ hrnk
      have hjl : (joinW (rowF R k :: rowR R k)).length ≤ 200005 := by rw [hjw]; simp only [List.length_append, List.length_cons]; omega
      refine ⟨by omega, ⟨by omega, by omega⟩, ?_⟩
      refine CallO.lent [nid + 440] (fun nl' => by
        simp only [lends, lend, noOs, aqT, aqU, aqN, aqS, ↓seqK, ↓blkK, ↓loopK, step, stepBin, Nat.add_assoc nid, ↓reduceIte, Option.toList, ← Int.ofNat_tmod, ← Int.ofNat_tdiv, simprocAttr, BEq.rfl, LN_succ]
        rw [e0]
        have h := join_cc (nl' (nid + 440)) (rowF R k :: rowR R k) [32] (nid + 444) (by rw [List.length_cons]; omega) (by rw [join_joinW]; omega)
        rw [show (rowF R k :: rowR R k).length = 1 + (rowR R k).length by simp [Nat.add_comm]] at h
        exact h) rfl rfl (by simp only [List.mem_singleton, forall_eq, aqT, aqU, aqN, aqS, ↓seqK, ↓blkK, ↓loopK, step, stepBin, Nat.add_assoc nid, ↓reduceIte, Option.toList, ← Int.ofNat_tmod, ← Int.ofNat_tdiv, simprocAttr, BEq.rfl, LN_succ]) ?_
      rw [join_joinW]
      simp -dsimp only [aqT, aqU, aqN, aqS, ↓seqK, ↓blkK, ↓loopK, step, stepBin, Nat.add_assoc nid, ↓reduceIte, Option.toList, ← Int.ofNat_tmod, ← Int.ofNat_tdiv, simprocAttr, BEq.rfl, LN_succ]
      have e1 : L ++ (joinW (rowF R k :: rowR R k) ++ [10]) = L2 := by rw [hst, hjw]; simp
      refine ⟨by omega, ?_⟩
      refine CallO.on (wr_c (nid + 4) (nid + 8) _ (by omega) (by omega) (by simp) L _ (by rw [hjw]; simp only [List.length_append, List.length_cons, hl1, hl3]; omega)) (subH_cons (by simp only [aqT, aqU, aqN, aqS, ↓seqK, ↓blkK, ↓loopK, step, stepBin, Nat.add_assoc nid, ↓reduceIte, Option.toList, ← Int.ofNat_tmod, ← Int.ofNat_tdiv, simprocAttr, BEq.rfl, LN_succ, bld]) (subH_get (by simp only [aqT, aqU, aqN, aqS, ↓seqK, ↓blkK, ↓loopK, step, stepBin, Nat.add_assoc nid, ↓reduceIte, Option.toList, ← Int.ofNat_tmod, ← Int.ofNat_tdiv, simprocAttr, BEq.rfl, LN_succ, arrBy]))) ?_
      rw [e1]
      unfold bld arrBy
      simp -dsimp only [aqT, aqU, aqN, aqS, ↓seqK, ↓blkK, ↓loopK, step, stepBin, Nat.add_assoc nid, ↓reduceIte, Option.toList, ← Int.ofNat_tmod, ← Int.ofNat_tdiv, simprocAttr, BEq.rfl, LN_succ]
      refine ⟨by unfold inI64; omega, k + 1, ⟨by omega, by omega⟩, Cov.go [(nid + 8, nid + 452)] [] ?_⟩
      simp [hL2, cvT, step, res, boxP2, rowsP, bld, arrBy, byteC, ColsEq.refl, -List.getD_eq_getElem?_getD]
    · rw [hend2 (by omega)]
      refine ⟨(), Cov.go [] [] ?_⟩
      simp [cvT, step, res, bld, arrBy, byteC, ColsEq.refl, -List.getD_eq_getElem?_getD]
  rw [hend] at hne
  generalize dictT G R = D at *
  refine SR.run (t := .mk) ?_
  unfold bld arrBy
  simp -dsimp only [aqT, aqU, aqN, aqS, ↓seqK, ↓blkK, ↓loopK, step, stepBin, Nat.add_assoc nid, ↓reduceIte, Option.toList, ← Int.ofNat_tmod, ← Int.ofNat_tdiv, simprocAttr, BEq.rfl, LN_succ]
  refine CallO.on (bstr_c (nid + 4) (nid + 8) _ (by simp) D hne) (subH_cons (by simp only [aqT, aqU, aqN, aqS, ↓seqK, ↓blkK, ↓loopK, step, stepBin, Nat.add_assoc nid, ↓reduceIte, Option.toList, ← Int.ofNat_tmod, ← Int.ofNat_tdiv, simprocAttr, BEq.rfl, LN_succ, bld]) (subH_get (by simp only [aqT, aqU, aqN, aqS, ↓seqK, ↓blkK, ↓loopK, step, stepBin, Nat.add_assoc nid, ↓reduceIte, Option.toList, ← Int.ofNat_tmod, ← Int.ofNat_tdiv, simprocAttr, BEq.rfl, LN_succ, arrBy]))) ?_
  simp -dsimp only [aqT, aqU, aqN, aqS, ↓seqK, ↓blkK, ↓loopK, step, stepBin, Nat.add_assoc nid, ↓reduceIte, Option.toList, ← Int.ofNat_tmod, ← Int.ofNat_tdiv, simprocAttr, BEq.rfl, LN_succ]
  refine RetOK.pure (.inl rfl) rfl ?_
  simp [cvT, step, res]
end Go.Proofs.YtpifoghhaohhaaaGreatDoor
namespace Go.Proofs.YtpifoghhaohhaaaGreatDoor
open Go.RowKit Go.Shelf Go.Lib
theorem cut_line (t : List UInt8) : (∃ l r, t = l ++ 10 :: r ∧ (10 : UInt8) ∉ l ∧ Lib.cut t [10] = (l, r, true)) ∨ ((10 : UInt8) ∉ t ∧ Lib.cut t [10] = (t, [], false)) := by
  unfold Lib.cut
  rw [index_one]
  rcases Decidable.em (indexByte t 10 = -1) with h | h
  · refine .inr ⟨fun hm => ?_, by rw [h, if_neg (by decide)]⟩
    obtain ⟨k, hk, e⟩ := List.getElem_of_mem hm
    exact indexByte_none h k (by rw [List.getElem?_eq_getElem hk, e])
  · have hge := indexByte_ge t 10
    obtain ⟨o, ho⟩ : ∃ o : Nat, indexByte t 10 = o := ⟨(indexByte t 10).toNat, by omega⟩
    obtain ⟨h1, h2⟩ := indexByte_some ho
    have hlt : o < t.length := (List.getElem?_eq_some_iff.1 h1).1
    have ho' : t[o] = 10 := (List.getElem?_eq_some_iff.1 h1).2
    refine .inl ⟨t.take o, t.drop (o + 1), ?_, fun hm => ?_, by rw [ho, if_pos (by omega)]; simp⟩
    · rw [← ho', ← List.drop_eq_getElem_cons hlt, List.take_append_drop]
    · obtain ⟨k, hk, e⟩ := List.getElem_of_mem hm
      rw [List.length_take] at hk
      refine h2 k (by omega) ?_
      rw [List.getElem?_eq_getElem (by omega)]
      rw [List.getElem_take] at e
      rw [e]
theorem cut_cc (s : List UInt8) (nid : Nat) (hs : s.length < 4294967281) : ACall Tryz.prog 222 [.str s, .str [10]] [] nid (.tup [.str (Lib.cut s [10]).1, .str (Lib.cut s [10]).2.1, .bool (Lib.cut s [10]).2.2]) [] :=
  acall_lib nid Tryz.func222 (by kernel_rfl) (by kernel_rfl) (fun Y m w vs hl hrep hG hY => by
    obtain ⟨v0, v1, rfl⟩ : ∃ v0 v1, vs = [v0, v1] := by
      match vs, hl with
      | [a, b], _ => exact ⟨a, b, rfl⟩
    have r0 := (hrep 0 _ _ rfl rfl).str_inv
    have r1 := (hrep 1 _ _ rfl rfl).str_inv
    subst r0; subst r1
    obtain ⟨mm, hm⟩ := hG.cell
    have h := Any.strings_Cut Tryz.lays145 ⟨s.toArray⟩ ⟨([10] : List UInt8).toArray⟩ mm w (by simpa [ByteArray.size] using hs) hm
    have hf : Tryz.lays145_ren.f 145 = 222 := by kernel_rfl
    rw [hf] at h
    refine h.mono fun e w' ⟨h1, n, h2⟩ => ⟨_, h1, .tup rfl (fun i p v hp hv => ?_), ?_⟩
    · match i, hp, hv with
      | 0, hp, hv => simp at hp hv; subst hp; subst hv; exact .str
      | 1, hp, hv => simp at hp hv; subst hp; subst hv; exact .str
      | 2, hp, hv => simp at hp hv; subst hp; subst hv; exact .bool
    · rw [h2]
      exact ⟨rfl, rfl, rfl, Nat.le_refl _, fun _ _ => rfl⟩)
theorem split_cc (s : List UInt8) (nid : Nat) (hs : s.length < 4294967281) : ACall Tryz.prog 166 [.str s, .str [10]] [] nid (.lit false (pieces s).length [.s fun i => (pieces s).getD i []]) [] :=
  acall_lib nid Tryz.func166 (by kernel_rfl) (by kernel_rfl) (fun Y m w vs hl hrep hG hY => by
    obtain ⟨v0, v1, rfl⟩ : ∃ v0 v1, vs = [v0, v1] := by
      match vs, hl with
      | [a, b], _ => exact ⟨a, b, rfl⟩
    have r0 := (hrep 0 _ _ rfl rfl).str_inv
    have r1 := (hrep 1 _ _ rfl rfl).str_inv
    subst r0; subst r1
    obtain ⟨mm, hm⟩ := hG.cell
    have h := Any.strings_Split Tryz.lays146 (by kernel_rfl) ⟨s.toArray⟩ ⟨([10] : List UInt8).toArray⟩ mm w (by simpa [ByteArray.size] using hs) hm (by decide)
    have hf : Tryz.lays146_ren.f 146 = 166 := by kernel_rfl
    rw [hf] at h
    have hd : (splitB ⟨([10] : List UInt8).toArray⟩ 0 (countB ⟨s.toArray⟩ ⟨([10] : List UInt8).toArray⟩) ⟨s.toArray⟩).map (·.data.toList) = pieces s := by
      rw [splitB_data]
      exact split_pieces s
    have hlen := splitB_all ⟨([10] : List UInt8).toArray⟩ (by decide) 0 _ ⟨s.toArray⟩ rfl
    refine h.mono fun e w' ⟨h1, h2⟩ => ?_
    generalize splitB ⟨([10] : List UInt8).toArray⟩ 0 (countB ⟨s.toArray⟩ ⟨([10] : List UInt8).toArray⟩) ⟨s.toArray⟩ = L at hd hlen h2
    rw [← hlen] at h1
    have hLl : L.length = (pieces s).length := by rw [← hd, List.length_map]
    have hat : ∀ j, j < L.length → L[j]? = some ⟨((pieces s).getD j []).toArray⟩ := fun j hj => by
      rw [← hd, List.getD_eq_getElem?_getD, List.getElem?_map, List.getElem?_eq_getElem hj]
      rfl
    refine ⟨_, h1, ?_, ?_⟩
    · rw [hLl]
      refine .lit (.l (fun j _ => .string ⟨((pieces s).getD j []).toArray⟩) rfl (fun e => by cases e) (Nat.le_refl _) (fun j k hj hk => ⟨w.heap.size, 0, rfl, fun hy => by have := hY _ hy; omega, ?_⟩) (fun j k c hj hk => ?_))
      · have hk0 : k = 0 := by simpa using hk
        subst hk0
        have hj' : j < L.length := by rw [hLl]; exact hj
        rw [h2]
        have := hat j hj'
        simp only [List.length_cons, List.length_nil, Nat.zero_add, Nat.mul_one, Nat.add_zero]
        rw [World.cell?_alloc_new]
        simp [this]
      · match k, hk with
        | 0, hk => simp at hk; subst hk; exact .s
    · rw [h2]
      exact ⟨rfl, rfl, rfl, by simp, fun k hk => by first | exact heap_alloc_old w _ k hk | exact heap_alloc_old w _ hk⟩)
end Go.Proofs.YtpifoghhaohhaaaGreatDoor
namespace Go.Proofs.YtpifoghhaohhaaaGreatDoor
open Go.RowKit Go.Shelf Go.Lib
theorem split32_cc (s : List UInt8) (nid : Nat) (hs : s.length < 4294967281) : ACall Tryz.prog 166 [.str s, .str [32]] [] nid (.lit false (wrd s).length [.s fun i => (wrd s).getD i []]) [] :=
  acall_lib nid Tryz.func166 (by kernel_rfl) (by kernel_rfl) (fun Y m w vs hl hrep hG hY => by
    obtain ⟨v0, v1, rfl⟩ : ∃ v0 v1, vs = [v0, v1] := by
      match vs, hl with
      | [a, b], _ => exact ⟨a, b, rfl⟩
    have r0 := (hrep 0 _ _ rfl rfl).str_inv
    have r1 := (hrep 1 _ _ rfl rfl).str_inv
    subst r0; subst r1
    obtain ⟨mm, hm⟩ := hG.cell
    have h := Any.strings_Split Tryz.lays146 (by kernel_rfl) ⟨s.toArray⟩ ⟨([32] : List UInt8).toArray⟩ mm w (by simpa [ByteArray.size] using hs) hm (by decide)
    have hf : Tryz.lays146_ren.f 146 = 166 := by kernel_rfl
    rw [hf] at h
    have hd : (splitB ⟨([32] : List UInt8).toArray⟩ 0 (countB ⟨s.toArray⟩ ⟨([32] : List UInt8).toArray⟩) ⟨s.toArray⟩).map (·.data.toList) = wrd s := by
      rw [splitB_data]
      exact split_wrd s
    have hlen := splitB_all ⟨([32] : List UInt8).toArray⟩ (by decide) 0 _ ⟨s.toArray⟩ rfl
    refine h.mono fun e w' ⟨h1, h2⟩ => ?_
    generalize splitB ⟨([32] : List UInt8).toArray⟩ 0 (countB ⟨s.toArray⟩ ⟨([32] : List UInt8).toArray⟩) ⟨s.toArray⟩ = L at hd hlen h2
    rw [← hlen] at h1
    have hLl : L.length = (wrd s).length := by rw [← hd, List.length_map]
    have hat : ∀ j, j < L.length → L[j]? = some ⟨((wrd s).getD j []).toArray⟩ := fun j hj => by
      rw [← hd, List.getD_eq_getElem?_getD, List.getElem?_map, List.getElem?_eq_getElem hj]
      rfl
    refine ⟨_, h1, ?_, ?_⟩
    · rw [hLl]
      refine .lit (.l (fun j _ => .string ⟨((wrd s).getD j []).toArray⟩) rfl (fun e => by cases e) (Nat.le_refl _) (fun j k hj hk => ⟨w.heap.size, 0, rfl, fun hy => by have := hY _ hy; omega, ?_⟩) (fun j k c hj hk => ?_))
      · have hk0 : k = 0 := by simpa using hk
        subst hk0
        have hj' : j < L.length := by rw [hLl]; exact hj
        rw [h2]
        have := hat j hj'
        simp only [List.length_cons, List.length_nil, Nat.zero_add, Nat.mul_one, Nat.add_zero]
        rw [World.cell?_alloc_new]
        simp [this]
      · match k, hk with
        | 0, hk => simp at hk; subst hk; exact .s
    · rw [h2]
      exact ⟨rfl, rfl, rfl, by simp, fun k hk => by first | exact heap_alloc_old w _ k hk | exact heap_alloc_old w _ hk⟩)
end Go.Proofs.YtpifoghhaohhaaaGreatDoor
namespace Go.Proofs.YtpifoghhaohhaaaGreatDoor
open Go.RowKit Go.Shelf Go.Lib
theorem dR_snoc {L : List (List UInt8)} (r : List UInt8) (h : L ≠ []) : dR (L ++ [r]) = dR L ++ [lnR r] := by
  cases L with
  | nil => exact absurd rfl h
  | cons a L => simp [dR]
theorem dG_snoc {L : List (List UInt8)} (r : List UInt8) (h : L ≠ []) : dG (L ++ [r]) = dG L := by
  cases L with
  | nil => exact absurd rfl h
  | cons a L => simp [dG]
theorem drop1_getD (l : List (List UInt8)) : Col.shift 1 (.s fun i => l.getD i []) = .s fun i => (l.drop 1).getD i [] := by
  have : (fun i => l.getD (1 + i) []) = fun i => (l.drop 1).getD i [] := by
    funext i
    rw [List.getD_eq_getElem?_getD, List.getD_eq_getElem?_getD, List.getElem?_drop]
  rw [← this]
  rfl
def cntD (k : Nat) : Option ABlk := some (.box 3 [.int .i64 (k : Nat)])
def boxQ0 : Option ABlk := some (.box 29 [.lit true 0 [], .lit true 0 []])
def boxQ (oa : Nat) (L : List (List UInt8)) : Option ABlk := some (.box 29 [.lit false (dG L).length [.s fun i => (dG L).getD i []], .sl oa 0 (dR L).length])
def noB (_ : Nat) : Bool := false
def arrQr (R : RowL) : Option ABlk := some (.arr 67 R.length [.s fun k => rowF R k, .l noB (fun k => (rowR R k).length) (fun k => [.s fun j => (rowR R k).getD j []])])
theorem rqApp_s (V : RowL) (p : List UInt8 × List (List UInt8)) {n : Nat} (hn : n = V.length + 1) : ColEq n (.s fun i => if i < V.length then rowF V i else ([p.1] : List (List UInt8)).getD (i - V.length) []) (.s fun k => rowF (V ++ [p]) k) := ColEq.s fun j hj => by
  by_cases h : j < V.length
  · rw [if_pos h, rowF_old h]
  · have e : j = V.length := by omega
    subst e
    rw [if_neg h, rowF_new rfl, Nat.sub_self]
    rfl
theorem rqApp_l (V : RowL) (p : List UInt8 × List (List UInt8)) (m : Nat) (cs : List Col) (hm : m = p.2.length) (hc : cs = [.s fun j => p.2.getD j []]) {n : Nat} (hn : n = V.length + 1) (xs : List (Bool × Nat × List Col)) (hx : xs = [(false, m, cs)]) :
    ColEq n (.l (fun i => if i < V.length then noB i else (xs.getD (i - V.length) (true, 0, [])).1) (fun i => if i < V.length then (rowR V i).length else (xs.getD (i - V.length) (true, 0, [])).2.1) (fun i => if i < V.length then [.s fun j => (rowR V i).getD j []] else (xs.getD (i - V.length) (true, 0, [])).2.2))
      (.l noB (fun k => (rowR (V ++ [p]) k).length) (fun k => [.s fun j => (rowR (V ++ [p]) k).getD j []])) := ColEq.l fun j hj => by
  subst hx; subst hm; subst hc
  by_cases h : j < V.length
  · rw [if_pos h, if_pos h, if_pos h, rowR_old h]
    exact ⟨rfl, rfl, ColsEq.refl _ _⟩
  · have e : j = V.length := by omega
    subst e
    rw [if_neg h, if_neg h, if_neg h, rowR_new rfl, Nat.sub_self]
    exact ⟨rfl, rfl, ColsEq.refl _ _⟩
theorem indexZ2_c (nl : Bool) (l : List (List UInt8)) (x : List UInt8) (nid : Nat) (hl : l.length ≤ 1000001) :
    ACall Tryz.prog 115 [.lit nl l.length [.s fun i => l.getD i []], .str x] [] nid (.int .i64 (idxF (fun y => x == y) l)) [] := by
  refine acall_run c115 (by simp [a115]) ?_
  simp -dsimp only [aqT, aqU, aqN, aqS, ↓seqK, ↓blkK, ↓loopK, step, stepBin, Nat.add_assoc nid, ↓reduceIte, Option.toList, ← Int.ofNat_tmod, ← Int.ofNat_tdiv, simprocAttr, BEq.rfl, LN_succ, a115]
  refine LP.mkP (fun k : Nat => k ≤ l.length ∧ ∀ j, j < k → (x == l.getD j []) = false) (fun k : Nat => ⟨[(8, .int .i64 k), (7, .int .i64 l.length), (0, .lit nl l.length [.s fun i => l.getD i []]), (1, .str x)], [], nid + 100, nid⟩) (fun k => l.length + 1 - k) 0 ⟨by omega, fun j hj => by omega⟩ (Cov.go [] [] ?_) (fun k hk => ?_)
  · simp [cvT, step, res]
  obtain ⟨hk, hb⟩ := hk
  simp -dsimp only [aqT, aqU, aqN, aqS, ↓seqK, ↓blkK, ↓loopK, step, stepBin, Nat.add_assoc nid, ↓reduceIte, Option.toList, ← Int.ofNat_tmod, ← Int.ofNat_tdiv, simprocAttr, BEq.rfl, LN_succ]
  refine S2.dec (fun h3 => ?_) (fun h3 => ?_) <;> simp -dsimp only [aqT, aqU, aqN, aqS, ↓seqK, ↓blkK, ↓loopK, step, stepBin, Nat.add_assoc nid, ↓reduceIte, Option.toList, ← Int.ofNat_tmod, ← Int.ofNat_tdiv, simprocAttr, BEq.rfl, LN_succ]
  · have hkl : k < l.length := by omega
    have hat := fun h => idxF_at (F := fun y => x == y) hkl h hb
    have hnx : (x == l.getD k []) = false → ∀ j, j < k + 1 → (x == l.getD j []) = false := fun h j hj => by
      by_cases e : j = k
      · rw [e]; exact h
      · exact hb j (by omega)
    generalize l.getD k [] = y at *
    refine ⟨by omega, S2.intro (fun h4 => ?_) (fun h4 => ?_)⟩ <;> simp -dsimp only [aqT, aqU, aqN, aqS, ↓seqK, ↓blkK, ↓loopK, step, stepBin, Nat.add_assoc nid, ↓reduceIte, Option.toList, ← Int.ofNat_tmod, ← Int.ofNat_tdiv, simprocAttr, BEq.rfl, LN_succ]
    · rw [hat h4]
      refine RetOK.pure (.inl rfl) rfl ?_
      simp [cvT, step, res]
    · refine ⟨by unfold inI64; omega, k + 1, ⟨⟨by omega, hnx h4⟩, by omega⟩, Cov.go [] [] ?_⟩
      simp [cvT, step, res]
  · have hkn : k = l.length := by omega
    subst hkn
    rw [idxF_no hb]
    refine RetOK.pure (.inl rfl) rfl ?_
    simp [cvT, step, res]
theorem containsZ2_c (nl : Bool) (l : List (List UInt8)) (x : List UInt8) (nid : Nat) (hl : l.length ≤ 1000001) :
    ACall Tryz.prog 38 [.lit nl l.length [.s fun i => l.getD i []], .str x] [] nid (.bool (l.contains x)) [] := by
  have e : decide (0 ≤ idxF (fun y => x == y) l) = l.contains x := by
    rw [List.contains_eq_any_beq]
    unfold idxF
    cases h : l.any (fun y => x == y) <;> simp
  refine acall_run c38 (by simp [a38]) ?_
  simp -dsimp only [aqT, aqU, aqN, aqS, ↓seqK, ↓blkK, ↓loopK, step, stepBin, Nat.add_assoc nid, ↓reduceIte, Option.toList, ← Int.ofNat_tmod, ← Int.ofNat_tdiv, simprocAttr, BEq.rfl, LN_succ, a38]
  refine CallO.pure (indexZ2_c nl l x _ hl) ?_
  simp -dsimp only [aqT, aqU, aqN, aqS, ↓seqK, ↓blkK, ↓loopK, step, stepBin, Nat.add_assoc nid, ↓reduceIte, Option.toList, ← Int.ofNat_tmod, ← Int.ofNat_tdiv, simprocAttr, BEq.rfl, LN_succ]
  rw [e]
  refine RetOK.pure (.inl rfl) rfl ?_
  simp [cvT, step, res]
set_option maxHeartbeats 2000000 in
theorem rd0_c (s nid : Nat) (r : List UInt8) (hs4 : s + 4 < nid) (hr : r.length ≤ 1000000) (hg : lnOk 0 r = true) :
    ACall Tryz.prog 165 [.str r, .ptr (s + 4) 0, .ptr s 0] [(s, boxQ0), (s + 4, cntD 0)] nid (.bool true) [(s, boxQ nid [r]), (s + 4, cntD 1), (nid, arrQr (dR [r]))] := by
  have hs : s < nid := by omega
  obtain ⟨a1, a2, a3, a4, a5, a6, a7, a8, a9⟩ := id_all hs
  obtain ⟨b1, b2, b3, b4, b5, b6, b7, b8, b9⟩ := id_all hs4
  have x1 : (s == s + 4) = false := by simp
  have x2 : (s + 4 == s) = false := by simp
  have x3 : ¬ s = s + 4 := by omega
  have x4 : ¬ s + 4 = s := by omega
  have hwl := wrd_len r
  have hwp : 0 < (wrd r).length := List.length_pos_iff.2 (wrd_ne r)
  have hsp := fun n => split32_cc r n (by omega)
  have hcz := fun n => containsZ2_c false (wrd r) [] n (by omega)
  unfold lnOk at hg
  simp only [Nat.lt_irrefl, decide_false, Bool.false_or, Bool.and_eq_true, Bool.not_eq_true'] at hg
  obtain ⟨h1, h2⟩ := hg
  have h2' : (!((wrd r).getD 0 [] == [103, 111, 111, 100])) = false := by unfold goodN at h2; rw [h2]; rfl
  have hd := drop1_getD (wrd r)
  have hdl : ((wrd r).drop 1).length = (wrd r).length - 1 := List.length_drop
  have hG : dG [r] = (wrd r).drop 1 := rfl
  have hR : dR [r] = [] := rfl
  rw [h1] at hcz
  refine acall_run c165 (by simp [a165]) ?_
  unfold boxQ0 cntD
  simp -dsimp only [a165, aqT, aqU, aqN, aqS, ↓seqK, ↓blkK, ↓loopK, step, stepBin, Nat.add_assoc nid, ↓reduceIte, Option.toList, ← Int.ofNat_tmod, ← Int.ofNat_tdiv, simprocAttr, BEq.rfl, LN_succ, a1, a2, a3, a4, a5, a6, a7, a8, a9, b1, b2, b3, b4, b5, b6, b7, b8, b9, x1, x2, x3, x4]
  refine CallO.pure (hsp _) ?_
  simp -dsimp only [aqT, aqU, aqN, aqS, ↓seqK, ↓blkK, ↓loopK, step, stepBin, Nat.add_assoc nid, ↓reduceIte, Option.toList, ← Int.ofNat_tmod, ← Int.ofNat_tdiv, simprocAttr, BEq.rfl, LN_succ, a1, a2, a3, a4, a5, a6, a7, a8, a9, b1, b2, b3, b4, b5, b6, b7, b8, b9, x1, x2, x3, x4]
  refine ⟨by unfold inI64; omega, CallO.pure (hcz _) ?_⟩
  simp -dsimp only [aqT, aqU, aqN, aqS, ↓seqK, ↓blkK, ↓loopK, step, stepBin, Nat.add_assoc nid, ↓reduceIte, Option.toList, ← Int.ofNat_tmod, ← Int.ofNat_tdiv, simprocAttr, BEq.rfl, LN_succ, a1, a2, a3, a4, a5, a6, a7, a8, a9, b1, b2, b3, b4, b5, b6, b7, b8, b9, x1, x2, x3, x4]
  refine ⟨by omega, ?_⟩
  rw [h2']
  simp -dsimp only [aqT, aqU, aqN, aqS, ↓seqK, ↓blkK, ↓loopK, step, stepBin, Nat.add_assoc nid, ↓reduceIte, Option.toList, ← Int.ofNat_tmod, ← Int.ofNat_tdiv, simprocAttr, BEq.rfl, LN_succ, a1, a2, a3, a4, a5, a6, a7, a8, a9, b1, b2, b3, b4, b5, b6, b7, b8, b9, x1, x2, x3, x4]
  refine ⟨by omega, ?_⟩
  rw [hd]
  refine RetOK.go [] [(nid, 2)] (.inl rfl) ?_
  simp [a165, cvT, step, res, a1, a2, a3, a4, a5, a6, a7, a8, a9, b1, b2, b3, b4, b5, b6, b7, b8, b9, x1, x2, x3, x4, boxQ, cntD, arrQr, hG, hR, hdl, ColsEq.refl, -List.getD_eq_getElem?_getD]
set_option maxHeartbeats 2000000 in
theorem rdb0_c (s nid : Nat) (r : List UInt8) (hs4 : s + 4 < nid) (hr : r.length ≤ 1000000) (hg : lnOk 0 r = false) :
    ACall Tryz.prog 165 [.str r, .ptr (s + 4) 0, .ptr s 0] [(s, boxQ0), (s + 4, cntD 0)] nid (.bool false) [(s, none), (s + 4, none)] := by
  have hs : s < nid := by omega
  obtain ⟨a1, a2, a3, a4, a5, a6, a7, a8, a9⟩ := id_all hs
  obtain ⟨b1, b2, b3, b4, b5, b6, b7, b8, b9⟩ := id_all hs4
  have x1 : (s == s + 4) = false := by simp
  have x2 : (s + 4 == s) = false := by simp
  have x3 : ¬ s = s + 4 := by omega
  have x4 : ¬ s + 4 = s := by omega
  have hwl := wrd_len r
  have hwp : 0 < (wrd r).length := List.length_pos_iff.2 (wrd_ne r)
  have hsp := fun n => split32_cc r n (by omega)
  have hcz := fun n => containsZ2_c false (wrd r) [] n (by omega)
  unfold lnOk at hg
  simp only [Nat.lt_irrefl, decide_false, Bool.false_or] at hg
  refine acall_run c165 (by simp [a165]) ?_
  unfold boxQ0 cntD
  simp -dsimp only [a165, aqT, aqU, aqN, aqS, ↓seqK, ↓blkK, ↓loopK, step, stepBin, Nat.add_assoc nid, ↓reduceIte, Option.toList, ← Int.ofNat_tmod, ← Int.ofNat_tdiv, simprocAttr, BEq.rfl, LN_succ, a1, a2, a3, a4, a5, a6, a7, a8, a9, b1, b2, b3, b4, b5, b6, b7, b8, b9, x1, x2, x3, x4]
  refine CallO.pure (hsp _) ?_
  simp -dsimp only [aqT, aqU, aqN, aqS, ↓seqK, ↓blkK, ↓loopK, step, stepBin, Nat.add_assoc nid, ↓reduceIte, Option.toList, ← Int.ofNat_tmod, ← Int.ofNat_tdiv, simprocAttr, BEq.rfl, LN_succ, a1, a2, a3, a4, a5, a6, a7, a8, a9, b1, b2, b3, b4, b5, b6, b7, b8, b9, x1, x2, x3, x4]
  refine ⟨by unfold inI64; omega, CallO.pure (hcz _) ?_⟩
  cases h1 : (wrd r).contains [] <;> simp -dsimp only [aqT, aqU, aqN, aqS, ↓seqK, ↓blkK, ↓loopK, step, stepBin, Nat.add_assoc nid, ↓reduceIte, Option.toList, ← Int.ofNat_tmod, ← Int.ofNat_tdiv, simprocAttr, BEq.rfl, LN_succ, a1, a2, a3, a4, a5, a6, a7, a8, a9, b1, b2, b3, b4, b5, b6, b7, b8, b9, x1, x2, x3, x4]
  · rw [h1, Bool.not_false, Bool.true_and] at hg
    have h2' : (!((wrd r).getD 0 [] == [103, 111, 111, 100])) = true := by unfold goodN at hg; rw [hg]; rfl
    refine ⟨by omega, ?_⟩
    rw [h2']
    simp -dsimp only [aqT, aqU, aqN, aqS, ↓seqK, ↓blkK, ↓loopK, step, stepBin, Nat.add_assoc nid, ↓reduceIte, Option.toList, ← Int.ofNat_tmod, ← Int.ofNat_tdiv, simprocAttr, BEq.rfl, LN_succ, a1, a2, a3, a4, a5, a6, a7, a8, a9, b1, b2, b3, b4, b5, b6, b7, b8, b9, x1, x2, x3, x4]
    refine RetOK.go [] [] (.inl rfl) ?_
    simp [a165, cvT, step, res, a1, a2, a3, a4, a5, a6, a7, a8, a9, b1, b2, b3, b4, b5, b6, b7, b8, b9, x1, x2, x3, x4]
  · refine RetOK.go [] [] (.inl rfl) ?_
    simp [a165, cvT, step, res, a1, a2, a3, a4, a5, a6, a7, a8, a9, b1, b2, b3, b4, b5, b6, b7, b8, b9, x1, x2, x3, x4]
set_option maxHeartbeats 2000000 in
theorem rdbk_c (s oa nid : Nat) (L : List (List UInt8)) (r : List UInt8) (hs4 : s + 4 < oa) (hoa : oa < nid) (hL : L ≠ []) (hl : L.length ≤ 1000000) (hr : r.length ≤ 1000000) (hg : lnOk L.length r = false) :
    ACall Tryz.prog 165 [.str r, .ptr (s + 4) 0, .ptr s 0] [(s, boxQ oa L), (s + 4, cntD L.length), (oa, arrQr (dR L))] nid (.bool false) [(s, none), (s + 4, none), (oa, none)] := by
  have hs : s < nid := by omega
  obtain ⟨a1, a2, a3, a4, a5, a6, a7, a8, a9⟩ := id_all hs
  obtain ⟨b1, b2, b3, b4, b5, b6, b7, b8, b9⟩ := id_all (show s + 4 < nid by omega)
  have x1 : (s == s + 4) = false := by simp
  have x2 : (s + 4 == s) = false := by simp
  have x3 : ¬ s = s + 4 := by omega
  have x4 : ¬ s + 4 = s := by omega
  obtain ⟨c1, c2, c3, c4, c5, c6, c7, c8, c9⟩ := id_all hoa
  have g1 : (s == oa) = false := by simp; omega
  have g2 : (oa == s) = false := by simp; omega
  have g3 : (s + 4 == oa) = false := by simp; omega
  have g4 : (oa == s + 4) = false := by simp; omega
  have m1 : ¬ s = oa := by omega
  have m2 : ¬ oa = s := by omega
  have m3 : ¬ s + 4 = oa := by omega
  have m4 : ¬ oa = s + 4 := by omega
  have hwl := wrd_len r
  have hwp : 0 < (wrd r).length := List.length_pos_iff.2 (wrd_ne r)
  have hsp := fun n => split32_cc r n (by omega)
  have hcz := fun n => containsZ2_c false (wrd r) [] n (by omega)
  have hLp : 0 < L.length := List.length_pos_iff.2 hL
  have hg : (wrd r).contains [] = true := by
    unfold lnOk at hg
    rw [decide_eq_true hLp, Bool.true_or, Bool.and_true] at hg
    simpa using hg
  rw [hg] at hcz
  refine acall_run c165 (by simp [a165]) ?_
  unfold boxQ cntD arrQr
  simp -dsimp only [a165, aqT, aqU, aqN, aqS, ↓seqK, ↓blkK, ↓loopK, step, stepBin, Nat.add_assoc nid, ↓reduceIte, Option.toList, ← Int.ofNat_tmod, ← Int.ofNat_tdiv, simprocAttr, BEq.rfl, LN_succ, a1, a2, a3, a4, a5, a6, a7, a8, a9, b1, b2, b3, b4, b5, b6, b7, b8, b9, c1, c2, c3, c4, c5, c6, c7, c8, c9, g1, g2, g3, g4, m1, m2, m3, m4, x1, x2, x3, x4]
  refine CallO.pure (hsp _) ?_
  simp -dsimp only [aqT, aqU, aqN, aqS, ↓seqK, ↓blkK, ↓loopK, step, stepBin, Nat.add_assoc nid, ↓reduceIte, Option.toList, ← Int.ofNat_tmod, ← Int.ofNat_tdiv, simprocAttr, BEq.rfl, LN_succ, a1, a2, a3, a4, a5, a6, a7, a8, a9, b1, b2, b3, b4, b5, b6, b7, b8, b9, c1, c2, c3, c4, c5, c6, c7, c8, c9, g1, g2, g3, g4, m1, m2, m3, m4, x1, x2, x3, x4]
  refine ⟨by unfold inI64; omega, CallO.pure (hcz _) ?_⟩
  simp -dsimp only [aqT, aqU, aqN, aqS, ↓seqK, ↓blkK, ↓loopK, step, stepBin, Nat.add_assoc nid, ↓reduceIte, Option.toList, ← Int.ofNat_tmod, ← Int.ofNat_tdiv, simprocAttr, BEq.rfl, LN_succ, a1, a2, a3, a4, a5, a6, a7, a8, a9, b1, b2, b3, b4, b5, b6, b7, b8, b9, c1, c2, c3, c4, c5, c6, c7, c8, c9, g1, g2, g3, g4, m1, m2, m3, m4, x1, x2, x3, x4]
  refine RetOK.go [] [] (.inl rfl) ?_
  simp [a165, cvT, step, res, a1, a2, a3, a4, a5, a6, a7, a8, a9, b1, b2, b3, b4, b5, b6, b7, b8, b9, c1, c2, c3, c4, c5, c6, c7, c8, c9, g1, g2, g3, g4, m1, m2, m3, m4, x1, x2, x3, x4]
set_option maxHeartbeats 2000000 in
theorem rdk_c (s oa nid : Nat) (L : List (List UInt8)) (r : List UInt8) (hs4 : s + 4 < oa) (hoa : oa < nid) (hL : L ≠ []) (hl : L.length ≤ 1000000) (hr : r.length ≤ 1000000) (hg : lnOk L.length r = true) :
    ACall Tryz.prog 165 [.str r, .ptr (s + 4) 0, .ptr s 0] [(s, boxQ oa L), (s + 4, cntD L.length), (oa, arrQr (dR L))] nid (.bool true) [(s, boxQ nid (L ++ [r])), (s + 4, cntD (L.length + 1)), (nid, arrQr (dR (L ++ [r]))), (oa, none)] := by
  have hs : s < nid := by omega
  obtain ⟨a1, a2, a3, a4, a5, a6, a7, a8, a9⟩ := id_all hs
  obtain ⟨b1, b2, b3, b4, b5, b6, b7, b8, b9⟩ := id_all (show s + 4 < nid by omega)
  have x1 : (s == s + 4) = false := by simp
  have x2 : (s + 4 == s) = false := by simp
  have x3 : ¬ s = s + 4 := by omega
  have x4 : ¬ s + 4 = s := by omega
  obtain ⟨c1, c2, c3, c4, c5, c6, c7, c8, c9⟩ := id_all hoa
  have g1 : (s == oa) = false := by simp; omega
  have g2 : (oa == s) = false := by simp; omega
  have g3 : (s + 4 == oa) = false := by simp; omega
  have g4 : (oa == s + 4) = false := by simp; omega
  have m1 : ¬ s = oa := by omega
  have m2 : ¬ oa = s := by omega
  have m3 : ¬ s + 4 = oa := by omega
  have m4 : ¬ oa = s + 4 := by omega
  have hwl := wrd_len r
  have hwp : 0 < (wrd r).length := List.length_pos_iff.2 (wrd_ne r)
  have hsp := fun n => split32_cc r n (by omega)
  have hcz := fun n => containsZ2_c false (wrd r) [] n (by omega)
  have hLp : 0 < L.length := List.length_pos_iff.2 hL
  have hg : (wrd r).contains [] = false := by
    unfold lnOk at hg
    rw [decide_eq_true hLp, Bool.true_or, Bool.and_true] at hg
    simpa using hg
  rw [hg] at hcz
  have hk1 : ((((L.length : Nat) : Int) + 1) == 1) = false := by simp; omega
  have hrn : (dR L).length ≤ 1000000 := by unfold dR; rw [List.length_map, List.length_drop]; omega
  have hd := drop1_getD (wrd r)
  have hdl : ((wrd r).drop 1).length = (wrd r).length - 1 := List.length_drop
  have hG := dG_snoc r hL
  have hR := dR_snoc r hL
  have hcs := rqApp_s (dR L) (lnR r) rfl
  have hcl := rqApp_l (dR L) (lnR r) ((wrd r).length - 1) [.s fun i => ((wrd r).drop 1).getD i []] hdl.symm rfl rfl [(false, (wrd r).length - 1, [.s fun i => ((wrd r).drop 1).getD i []])] rfl
  have hl1 : (dR (L ++ [r])).length = (dR L).length + 1 := by rw [hR]; simp
  rw [← hR] at hcs hcl
  have e1 : (lnR r).1 = (wrd r).getD 0 [] := rfl
  rw [e1] at hcs
  refine acall_run c165 (by simp [a165]) ?_
  unfold boxQ cntD arrQr
  simp -dsimp only [a165, aqT, aqU, aqN, aqS, ↓seqK, ↓blkK, ↓loopK, step, stepBin, Nat.add_assoc nid, ↓reduceIte, Option.toList, ← Int.ofNat_tmod, ← Int.ofNat_tdiv, simprocAttr, BEq.rfl, LN_succ, a1, a2, a3, a4, a5, a6, a7, a8, a9, b1, b2, b3, b4, b5, b6, b7, b8, b9, c1, c2, c3, c4, c5, c6, c7, c8, c9, g1, g2, g3, g4, m1, m2, m3, m4, x1, x2, x3, x4]
  refine CallO.pure (hsp _) ?_
  simp -dsimp only [aqT, aqU, aqN, aqS, ↓seqK, ↓blkK, ↓loopK, step, stepBin, Nat.add_assoc nid, ↓reduceIte, Option.toList, ← Int.ofNat_tmod, ← Int.ofNat_tdiv, simprocAttr, BEq.rfl, LN_succ, a1, a2, a3, a4, a5, a6, a7, a8, a9, b1, b2, b3, b4, b5, b6, b7, b8, b9, c1, c2, c3, c4, c5, c6, c7, c8, c9, g1, g2, g3, g4, m1, m2, m3, m4, x1, x2, x3, x4]
  refine ⟨by unfold inI64; omega, CallO.pure (hcz _) ?_⟩
  simp -dsimp only [aqT, aqU, aqN, aqS, ↓seqK, ↓blkK, ↓loopK, step, stepBin, Nat.add_assoc nid, ↓reduceIte, Option.toList, ← Int.ofNat_tmod, ← Int.ofNat_tdiv, simprocAttr, BEq.rfl, LN_succ, hk1, a1, a2, a3, a4, a5, a6, a7, a8, a9, b1, b2, b3, b4, b5, b6, b7, b8, b9, c1, c2, c3, c4, c5, c6, c7, c8, c9, g1, g2, g3, g4, m1, m2, m3, m4, x1, x2, x3, x4]
  refine ⟨by omega, by omega, ⟨by omega, by omega⟩, ?_⟩
  rw [hd]
  refine RetOK.go [(nid, nid + 128)] [] (.inl rfl) ?_
  simp [a165, cvT, step, res, a1, a2, a3, a4, a5, a6, a7, a8, a9, b1, b2, b3, b4, b5, b6, b7, b8, b9, c1, c2, c3, c4, c5, c6, c7, c8, c9, g1, g2, g3, g4, m1, m2, m3, m4, x1, x2, x3, x4, hG, hl1, ColsEq.refl, -List.getD_eq_getElem?_getD, -List.drop_one]
  exact ⟨hcs, hcl⟩
end Go.Proofs.YtpifoghhaohhaaaGreatDoor
namespace Go.Proofs.YtpifoghhaohhaaaGreatDoor
open Go.RowKit Go.Shelf Go.Lib
def cntR (z : Bool) : Option ABlk := some (.box 4 [.bool z])
set_option maxHeartbeats 2000000 in
theorem rr0_c (s nid : Nat) (r : List UInt8) (hs4 : s + 4 < nid) (hr : r.length ≤ 1000000) (hg : lnOk 0 r = true) :
    ACall Tryz.prog 168 [.str r, .ptr (s + 4) 0, .ptr s 0] [(s, boxQ0), (s + 4, cntR true)] nid (.bool true) [(s, boxQ nid [r]), (s + 4, cntR false), (nid, arrQr (dR [r]))] := by
  have hs : s < nid := by omega
  obtain ⟨a1, a2, a3, a4, a5, a6, a7, a8, a9⟩ := id_all hs
  obtain ⟨b1, b2, b3, b4, b5, b6, b7, b8, b9⟩ := id_all hs4
  have x1 : (s == s + 4) = false := by simp
  have x2 : (s + 4 == s) = false := by simp
  have x3 : ¬ s = s + 4 := by omega
  have x4 : ¬ s + 4 = s := by omega
  have hwl := wrd_len r
  have hwp : 0 < (wrd r).length := List.length_pos_iff.2 (wrd_ne r)
  have hsp := fun n => split32_cc r n (by omega)
  have hcz := fun n => containsZ2_c false (wrd r) [] n (by omega)
  unfold lnOk at hg
  simp only [Nat.lt_irrefl, decide_false, Bool.false_or, Bool.and_eq_true, Bool.not_eq_true'] at hg
  obtain ⟨h1, h2⟩ := hg
  have h2' : ((wrd r).getD 0 [] == [103, 111, 111, 100]) = true := by unfold goodN at h2; exact h2
  have hd := drop1_getD (wrd r)
  have hdl : ((wrd r).drop 1).length = (wrd r).length - 1 := List.length_drop
  have hG : dG [r] = (wrd r).drop 1 := rfl
  have hR : dR [r] = [] := rfl
  rw [h1] at hcz
  refine acall_run c168 (by simp [a168]) ?_
  unfold boxQ0 cntR
  simp -dsimp only [a168, aqT, aqU, aqN, aqS, ↓seqK, ↓blkK, ↓loopK, step, stepBin, Nat.add_assoc nid, ↓reduceIte, Option.toList, ← Int.ofNat_tmod, ← Int.ofNat_tdiv, simprocAttr, BEq.rfl, LN_succ, a1, a2, a3, a4, a5, a6, a7, a8, a9, b1, b2, b3, b4, b5, b6, b7, b8, b9, x1, x2, x3, x4]
  refine CallO.pure (hsp _) ?_
  simp -dsimp only [aqT, aqU, aqN, aqS, ↓seqK, ↓blkK, ↓loopK, step, stepBin, Nat.add_assoc nid, ↓reduceIte, Option.toList, ← Int.ofNat_tmod, ← Int.ofNat_tdiv, simprocAttr, BEq.rfl, LN_succ, a1, a2, a3, a4, a5, a6, a7, a8, a9, b1, b2, b3, b4, b5, b6, b7, b8, b9, x1, x2, x3, x4]
  refine CallO.pure (hcz _) ?_
  simp -dsimp only [aqT, aqU, aqN, aqS, ↓seqK, ↓blkK, ↓loopK, step, stepBin, Nat.add_assoc nid, ↓reduceIte, Option.toList, ← Int.ofNat_tmod, ← Int.ofNat_tdiv, simprocAttr, BEq.rfl, LN_succ, a1, a2, a3, a4, a5, a6, a7, a8, a9, b1, b2, b3, b4, b5, b6, b7, b8, b9, x1, x2, x3, x4]
  refine ⟨by omega, by omega, ?_⟩
  rw [h2', hd]
  refine RetOK.go [] [(nid, 2)] (.inl rfl) ?_
  simp [a168, cvT, step, res, a1, a2, a3, a4, a5, a6, a7, a8, a9, b1, b2, b3, b4, b5, b6, b7, b8, b9, x1, x2, x3, x4, boxQ, cntR, arrQr, hG, hR, hdl, ColsEq.refl, -List.getD_eq_getElem?_getD]
set_option maxHeartbeats 2000000 in
theorem rrb0_c (s nid : Nat) (r : List UInt8) (hs4 : s + 4 < nid) (hr : r.length ≤ 1000000) (hg : lnOk 0 r = false) :
    ACall Tryz.prog 168 [.str r, .ptr (s + 4) 0, .ptr s 0] [(s, boxQ0), (s + 4, cntR true)] nid (.bool false) [(s, none), (s + 4, none)] := by
  have hs : s < nid := by omega
  obtain ⟨a1, a2, a3, a4, a5, a6, a7, a8, a9⟩ := id_all hs
  obtain ⟨b1, b2, b3, b4, b5, b6, b7, b8, b9⟩ := id_all hs4
  have x1 : (s == s + 4) = false := by simp
  have x2 : (s + 4 == s) = false := by simp
  have x3 : ¬ s = s + 4 := by omega
  have x4 : ¬ s + 4 = s := by omega
  have hwl := wrd_len r
  have hwp : 0 < (wrd r).length := List.length_pos_iff.2 (wrd_ne r)
  have hsp := fun n => split32_cc r n (by omega)
  have hcz := fun n => containsZ2_c false (wrd r) [] n (by omega)
  unfold lnOk at hg
  simp only [Nat.lt_irrefl, decide_false, Bool.false_or] at hg
  refine acall_run c168 (by simp [a168]) ?_
  unfold boxQ0 cntR
  simp -dsimp only [a168, aqT, aqU, aqN, aqS, ↓seqK, ↓blkK, ↓loopK, step, stepBin, Nat.add_assoc nid, ↓reduceIte, Option.toList, ← Int.ofNat_tmod, ← Int.ofNat_tdiv, simprocAttr, BEq.rfl, LN_succ, a1, a2, a3, a4, a5, a6, a7, a8, a9, b1, b2, b3, b4, b5, b6, b7, b8, b9, x1, x2, x3, x4]
  refine CallO.pure (hsp _) ?_
  simp -dsimp only [aqT, aqU, aqN, aqS, ↓seqK, ↓blkK, ↓loopK, step, stepBin, Nat.add_assoc nid, ↓reduceIte, Option.toList, ← Int.ofNat_tmod, ← Int.ofNat_tdiv, simprocAttr, BEq.rfl, LN_succ, a1, a2, a3, a4, a5, a6, a7, a8, a9, b1, b2, b3, b4, b5, b6, b7, b8, b9, x1, x2, x3, x4]
  refine CallO.pure (hcz _) ?_
  cases h1 : (wrd r).contains [] <;> simp -dsimp only [aqT, aqU, aqN, aqS, ↓seqK, ↓blkK, ↓loopK, step, stepBin, Nat.add_assoc nid, ↓reduceIte, Option.toList, ← Int.ofNat_tmod, ← Int.ofNat_tdiv, simprocAttr, BEq.rfl, LN_succ, a1, a2, a3, a4, a5, a6, a7, a8, a9, b1, b2, b3, b4, b5, b6, b7, b8, b9, x1, x2, x3, x4]
  · rw [h1, Bool.not_false, Bool.true_and] at hg
    have h2' : ((wrd r).getD 0 [] == [103, 111, 111, 100]) = false := by unfold goodN at hg; exact hg
    refine ⟨by omega, by omega, ?_⟩
    rw [h2']
    refine RetOK.go [] [] (.inl rfl) ?_
    simp [a168, cvT, step, res, a1, a2, a3, a4, a5, a6, a7, a8, a9, b1, b2, b3, b4, b5, b6, b7, b8, b9, x1, x2, x3, x4]
  · refine RetOK.go [] [] (.inl rfl) ?_
    simp [a168, cvT, step, res, a1, a2, a3, a4, a5, a6, a7, a8, a9, b1, b2, b3, b4, b5, b6, b7, b8, b9, x1, x2, x3, x4]
set_option maxHeartbeats 2000000 in
theorem rrbk_c (s oa nid : Nat) (L : List (List UInt8)) (r : List UInt8) (hs4 : s + 4 < oa) (hoa : oa < nid) (hL : L ≠ []) (hl : L.length ≤ 1000000) (hr : r.length ≤ 1000000) (hg : lnOk L.length r = false) :
    ACall Tryz.prog 168 [.str r, .ptr (s + 4) 0, .ptr s 0] [(s, boxQ oa L), (s + 4, cntR false), (oa, arrQr (dR L))] nid (.bool false) [(s, none), (s + 4, none), (oa, none)] := by
  have hs : s < nid := by omega
  obtain ⟨a1, a2, a3, a4, a5, a6, a7, a8, a9⟩ := id_all hs
  obtain ⟨b1, b2, b3, b4, b5, b6, b7, b8, b9⟩ := id_all (show s + 4 < nid by omega)
  have x1 : (s == s + 4) = false := by simp
  have x2 : (s + 4 == s) = false := by simp
  have x3 : ¬ s = s + 4 := by omega
  have x4 : ¬ s + 4 = s := by omega
  obtain ⟨c1, c2, c3, c4, c5, c6, c7, c8, c9⟩ := id_all hoa
  have g1 : (s == oa) = false := by simp; omega
  have g2 : (oa == s) = false := by simp; omega
  have g3 : (s + 4 == oa) = false := by simp; omega
  have g4 : (oa == s + 4) = false := by simp; omega
  have m1 : ¬ s = oa := by omega
  have m2 : ¬ oa = s := by omega
  have m3 : ¬ s + 4 = oa := by omega
  have m4 : ¬ oa = s + 4 := by omega
  have hwl := wrd_len r
  have hwp : 0 < (wrd r).length := List.length_pos_iff.2 (wrd_ne r)
  have hsp := fun n => split32_cc r n (by omega)
  have hcz := fun n => containsZ2_c false (wrd r) [] n (by omega)
  have hLp : 0 < L.length := List.length_pos_iff.2 hL
  have hg : (wrd r).contains [] = true := by
    unfold lnOk at hg
    rw [decide_eq_true hLp, Bool.true_or, Bool.and_true] at hg
    simpa using hg
  rw [hg] at hcz
  refine acall_run c168 (by simp [a168]) ?_
  unfold boxQ cntR arrQr
  simp -dsimp only [a168, aqT, aqU, aqN, aqS, ↓seqK, ↓blkK, ↓loopK, step, stepBin, Nat.add_assoc nid, ↓reduceIte, Option.toList, ← Int.ofNat_tmod, ← Int.ofNat_tdiv, simprocAttr, BEq.rfl, LN_succ, a1, a2, a3, a4, a5, a6, a7, a8, a9, b1, b2, b3, b4, b5, b6, b7, b8, b9, c1, c2, c3, c4, c5, c6, c7, c8, c9, g1, g2, g3, g4, m1, m2, m3, m4, x1, x2, x3, x4]
  refine CallO.pure (hsp _) ?_
  simp -dsimp only [aqT, aqU, aqN, aqS, ↓seqK, ↓blkK, ↓loopK, step, stepBin, Nat.add_assoc nid, ↓reduceIte, Option.toList, ← Int.ofNat_tmod, ← Int.ofNat_tdiv, simprocAttr, BEq.rfl, LN_succ, a1, a2, a3, a4, a5, a6, a7, a8, a9, b1, b2, b3, b4, b5, b6, b7, b8, b9, c1, c2, c3, c4, c5, c6, c7, c8, c9, g1, g2, g3, g4, m1, m2, m3, m4, x1, x2, x3, x4]
  refine CallO.pure (hcz _) ?_
  simp -dsimp only [aqT, aqU, aqN, aqS, ↓seqK, ↓blkK, ↓loopK, step, stepBin, Nat.add_assoc nid, ↓reduceIte, Option.toList, ← Int.ofNat_tmod, ← Int.ofNat_tdiv, simprocAttr, BEq.rfl, LN_succ, a1, a2, a3, a4, a5, a6, a7, a8, a9, b1, b2, b3, b4, b5, b6, b7, b8, b9, c1, c2, c3, c4, c5, c6, c7, c8, c9, g1, g2, g3, g4, m1, m2, m3, m4, x1, x2, x3, x4]
  refine RetOK.go [] [] (.inl rfl) ?_
  simp [a168, cvT, step, res, a1, a2, a3, a4, a5, a6, a7, a8, a9, b1, b2, b3, b4, b5, b6, b7, b8, b9, c1, c2, c3, c4, c5, c6, c7, c8, c9, g1, g2, g3, g4, m1, m2, m3, m4, x1, x2, x3, x4]
set_option maxHeartbeats 2000000 in
theorem rrk_c (s oa nid : Nat) (L : List (List UInt8)) (r : List UInt8) (hs4 : s + 4 < oa) (hoa : oa < nid) (hL : L ≠ []) (hl : L.length ≤ 1000000) (hr : r.length ≤ 1000000) (hg : lnOk L.length r = true) :
    ACall Tryz.prog 168 [.str r, .ptr (s + 4) 0, .ptr s 0] [(s, boxQ oa L), (s + 4, cntR false), (oa, arrQr (dR L))] nid (.bool true) [(s, boxQ nid (L ++ [r])), (s + 4, cntR false), (nid, arrQr (dR (L ++ [r]))), (oa, none)] := by
  have hs : s < nid := by omega
  obtain ⟨a1, a2, a3, a4, a5, a6, a7, a8, a9⟩ := id_all hs
  obtain ⟨b1, b2, b3, b4, b5, b6, b7, b8, b9⟩ := id_all (show s + 4 < nid by omega)
  have x1 : (s == s + 4) = false := by simp
  have x2 : (s + 4 == s) = false := by simp
  have x3 : ¬ s = s + 4 := by omega
  have x4 : ¬ s + 4 = s := by omega
  obtain ⟨c1, c2, c3, c4, c5, c6, c7, c8, c9⟩ := id_all hoa
  have g1 : (s == oa) = false := by simp; omega
  have g2 : (oa == s) = false := by simp; omega
  have g3 : (s + 4 == oa) = false := by simp; omega
  have g4 : (oa == s + 4) = false := by simp; omega
  have m1 : ¬ s = oa := by omega
  have m2 : ¬ oa = s := by omega
  have m3 : ¬ s + 4 = oa := by omega
  have m4 : ¬ oa = s + 4 := by omega
  have hwl := wrd_len r
  have hwp : 0 < (wrd r).length := List.length_pos_iff.2 (wrd_ne r)
  have hsp := fun n => split32_cc r n (by omega)
  have hcz := fun n => containsZ2_c false (wrd r) [] n (by omega)
  have hLp : 0 < L.length := List.length_pos_iff.2 hL
  have hg : (wrd r).contains [] = false := by
    unfold lnOk at hg
    rw [decide_eq_true hLp, Bool.true_or, Bool.and_true] at hg
    simpa using hg
  rw [hg] at hcz
  have hrn : (dR L).length ≤ 1000000 := by unfold dR; rw [List.length_map, List.length_drop]; omega
  have hd := drop1_getD (wrd r)
  have hdl : ((wrd r).drop 1).length = (wrd r).length - 1 := List.length_drop
  have hG := dG_snoc r hL
  have hR := dR_snoc r hL
  have hcs := rqApp_s (dR L) (lnR r) rfl
  have hcl := rqApp_l (dR L) (lnR r) ((wrd r).length - 1) [.s fun i => ((wrd r).drop 1).getD i []] hdl.symm rfl rfl [(false, (wrd r).length - 1, [.s fun i => ((wrd r).drop 1).getD i []])] rfl
  have hl1 : (dR (L ++ [r])).length = (dR L).length + 1 := by rw [hR]; simp
  rw [← hR] at hcs hcl
  have e1 : (lnR r).1 = (wrd r).getD 0 [] := rfl
  rw [e1] at hcs
  refine acall_run c168 (by simp [a168]) ?_
  unfold boxQ cntR arrQr
  simp -dsimp only [a168, aqT, aqU, aqN, aqS, ↓seqK, ↓blkK, ↓loopK, step, stepBin, Nat.add_assoc nid, ↓reduceIte, Option.toList, ← Int.ofNat_tmod, ← Int.ofNat_tdiv, simprocAttr, BEq.rfl, LN_succ, a1, a2, a3, a4, a5, a6, a7, a8, a9, b1, b2, b3, b4, b5, b6, b7, b8, b9, c1, c2, c3, c4, c5, c6, c7, c8, c9, g1, g2, g3, g4, m1, m2, m3, m4, x1, x2, x3, x4]
  refine CallO.pure (hsp _) ?_
  simp -dsimp only [aqT, aqU, aqN, aqS, ↓seqK, ↓blkK, ↓loopK, step, stepBin, Nat.add_assoc nid, ↓reduceIte, Option.toList, ← Int.ofNat_tmod, ← Int.ofNat_tdiv, simprocAttr, BEq.rfl, LN_succ, a1, a2, a3, a4, a5, a6, a7, a8, a9, b1, b2, b3, b4, b5, b6, b7, b8, b9, c1, c2, c3, c4, c5, c6, c7, c8, c9, g1, g2, g3, g4, m1, m2, m3, m4, x1, x2, x3, x4]
  refine CallO.pure (hcz _) ?_
  simp -dsimp only [aqT, aqU, aqN, aqS, ↓seqK, ↓blkK, ↓loopK, step, stepBin, Nat.add_assoc nid, ↓reduceIte, Option.toList, ← Int.ofNat_tmod, ← Int.ofNat_tdiv, simprocAttr, BEq.rfl, LN_succ, a1, a2, a3, a4, a5, a6, a7, a8, a9, b1, b2, b3, b4, b5, b6, b7, b8, b9, c1, c2, c3, c4, c5, c6, c7, c8, c9, g1, g2, g3, g4, m1, m2, m3, m4, x1, x2, x3, x4]
  refine ⟨by omega, by omega, ⟨by omega, by omega⟩, ?_⟩
  rw [hd]
  refine RetOK.go [(nid, nid + 72)] [] (.inl rfl) ?_
  simp [a168, cvT, step, res, a1, a2, a3, a4, a5, a6, a7, a8, a9, b1, b2, b3, b4, b5, b6, b7, b8, b9, c1, c2, c3, c4, c5, c6, c7, c8, c9, g1, g2, g3, g4, m1, m2, m3, m4, x1, x2, x3, x4, hG, hl1, ColsEq.refl, -List.getD_eq_getElem?_getD, -List.drop_one]
  exact ⟨hcs, hcl⟩
end Go.Proofs.YtpifoghhaohhaaaGreatDoor
namespace Go.Proofs.YtpifoghhaohhaaaGreatDoor
open Go.RowKit Go.Shelf Go.Lib
def rrU (s nid : Nat) (ok : Bool) (L : List (List UInt8)) : Heap := bif ok then [(s, boxQ nid L), (s + 4, cntR false), (nid, arrQr (dR L))] else [(s, none), (s + 4, none)]
def rrH (s oa : Nat) (L : List (List UInt8)) : Nat → Heap
  | 0 => [(s, boxQ0), (s + 4, cntR true)]
  | k + 1 => [(s, boxQ oa (L.take (k + 1))), (s + 4, cntR false), (oa, arrQr (dR (L.take (k + 1))))]
theorem rrH_succ (s oa : Nat) (L : List (List UInt8)) (k : Nat) : rrH s oa L (k + 1) = [(s, boxQ oa (L.take (k + 1))), (s + 4, cntR false), (oa, arrQr (dR (L.take (k + 1))))] := rfl
theorem drop_consG {α : Type} {l : List α} {k : Nat} {d x : α} {r : List α} (h : l.drop k = x :: r) : k < l.length ∧ l.getD k d = x ∧ l.drop (k + 1) = r := by
  have hk : k < l.length := by
    rcases Nat.lt_or_ge k l.length with h1 | h1
    · exact h1
    · rw [List.drop_eq_nil_of_le h1] at h; cases h
  rw [List.drop_eq_getElem_cons hk] at h
  injection h with h1 h2
  exact ⟨hk, by rw [List.getD_eq_getElem?_getD, List.getElem?_eq_getElem hk]; exact h1, h2⟩
set_option maxHeartbeats 8000000 in
theorem linesQ_c (s : Nat) (t : List UInt8) (nid : Nat) (hs4 : s + 4 < nid) (ht : t.length ≤ 1000000) (h0 : t ≠ []) :
    ACall Tryz.prog 167 [.str t, .fn 168 [.ptr (s + 4) 0, .ptr s 0]] [(s, boxQ0), (s + 4, cntR true)] nid (.tup [.int .i64 (eachW lnOk t).1, .bool (eachW lnOk t).2]) (rrU s nid (eachW lnOk t).2 (spl t).1) := by
  have hs : s < nid := by omega
  obtain ⟨a1, a2, a3, a4, a5, a6, a7, a8, a9⟩ := id_all hs
  obtain ⟨b1, b2, b3, b4, b5, b6, b7, b8, b9⟩ := id_all hs4
  have x1 : (s == s + 4) = false := by simp
  have x2 : (s + 4 == s) = false := by simp
  have x3 : ¬ s = s + 4 := by omega
  have x4 : ¬ s + 4 = s := by omega
  have hsl := spl_len t
  have hm := hsl.1
  have hsh : ShortRows 1000000 (spl t).1 := fun r hr => by have := hsl.2 r hr; omega
  have hLn : (spl t).2 = [] → (spl t).1 ≠ [] := fun h e => by
    have := lines_spl t h
    rw [e] at this
    exact h0 this.symm
  generalize hL : (spl t).1 = L at hsl hm hsh hLn ⊢
  refine acall_run c167 (by simp [a167]) ?_
  unfold boxQ0 cntR
  simp -dsimp only [a167, aqT, aqU, aqN, ↓seqK, ↓blkK, ↓loopK, step, stepBin, Nat.reduceBEq, Nat.reduceBeqDiff, Nat.add_assoc nid, Nat.reduceAdd, reduceCtorEq, ↓reduceIte, Nat.reduceLeDiff, Nat.reduceBneDiff, Option.toList, ← Int.ofNat_tmod, ← Int.ofNat_tdiv, Nat.reduceLT, a1, a2, a3, a4, a5, a6, a7, a8, a9, b1, b2, b3, b4, b5, b6, b7, b8, b9, x1, x2, x3, x4]
  refine LP.mkP (fun x : Nat × List UInt8 => x.1 ≤ L.length ∧ (∀ j, j < x.1 → lnOk j (L.getD j []) = true) ∧ (spl x.2).1 = L.drop x.1 ∧ (spl x.2).2 = (spl t).2 ∧ x.2.length ≤ t.length) (fun x => ⟨[(6, .int .i64 x.1), (0, .str x.2), (1, .fn 168 [.ptr (s + 4) 0, .ptr s 0])], rrH s (nid + 8) L x.1, nid + 100, nid⟩) (fun x => L.length + 1 - x.1) (0, t) ⟨by omega, fun j hj => by omega, by rw [hL]; rfl, rfl, Nat.le_refl _⟩ (Cov.go [] [] ?_) (fun x hx => ?_)
  · simp [cvT, step, res, a1, a2, a3, a4, a5, a6, a7, a8, a9, b1, b2, b3, b4, b5, b6, b7, b8, b9, x1, x2, x3, x4, rrH, boxQ0, cntR]
  obtain ⟨k, r⟩ := x
  obtain ⟨hk, hg, hr1, hr2, hr3⟩ := hx
  simp only at hk hg hr1 hr2 hr3 ⊢
  simp -dsimp only [aqT, aqU, aqN, ↓seqK, ↓blkK, ↓loopK, step, stepBin, Nat.reduceBEq, Nat.reduceBeqDiff, Nat.add_assoc nid, Nat.reduceAdd, reduceCtorEq, ↓reduceIte, Nat.reduceLeDiff, Nat.reduceBneDiff, Option.toList, ← Int.ofNat_tmod, ← Int.ofNat_tdiv, Nat.reduceLT, a1, a2, a3, a4, a5, a6, a7, a8, a9, b1, b2, b3, b4, b5, b6, b7, b8, b9, x1, x2, x3, x4]
  cases hrn : (r == []) <;> simp -dsimp only [Bool.not_true, Bool.not_false, aqT, aqU, aqN, ↓seqK, ↓blkK, ↓loopK, step, stepBin, Nat.reduceBEq, Nat.reduceBeqDiff, Nat.add_assoc nid, Nat.reduceAdd, reduceCtorEq, ↓reduceIte, Nat.reduceLeDiff, Nat.reduceBneDiff, Option.toList, ← Int.ofNat_tmod, ← Int.ofNat_tdiv, Nat.reduceLT, a1, a2, a3, a4, a5, a6, a7, a8, a9, b1, b2, b3, b4, b5, b6, b7, b8, b9, x1, x2, x3, x4]
  · have hrne : r ≠ [] := by simpa using hrn
    have hc := fun n => cut_cc r n (by omega)
    rcases cut_line r with ⟨l, r', e0, e1', e2'⟩ | ⟨e1', e2'⟩
    · simp only [e2'] at hc
      have hsp := spl_line l e1' r'
      rw [← e0] at hsp
      have h1 := congrArg Prod.fst hsp
      have h2 := congrArg Prod.snd hsp
      simp only at h1 h2
      rw [hr1] at h1
      obtain ⟨hkl, hlk, hdr⟩ := drop_consG (d := []) h1
      have hr'l : r'.length ≤ t.length := by have := congrArg List.length e0; rw [List.length_append, List.length_cons] at this; omega
      have hrk := hsh.at k
      rw [← hlk] at hc
      refine CallO.pure (hc _) ?_
      simp -dsimp only [Bool.not_true, Bool.not_false, aqT, aqU, aqN, ↓seqK, ↓blkK, ↓loopK, step, stepBin, Nat.reduceBEq, Nat.reduceBeqDiff, Nat.add_assoc nid, Nat.reduceAdd, reduceCtorEq, ↓reduceIte, Nat.reduceLeDiff, Nat.reduceBneDiff, Option.toList, ← Int.ofNat_tmod, ← Int.ofNat_tdiv, Nat.reduceLT, a1, a2, a3, a4, a5, a6, a7, a8, a9, b1, b2, b3, b4, b5, b6, b7, b8, b9, x1, x2, x3, x4]
      have hr2' : (spl r').2 = (spl t).2 := by rw [← h2, hr2]
      clear hc h1 h2 hsp e0 e1' e2' hlk hr2 hr3 hrn hrne
      cases hgk : lnOk k (L.getD k [])
      · have q1 : eachW lnOk t = (k, false) := eachW_bad (by rw [hL]; exact hkl) (by rw [hL]; exact hg) (by rw [hL]; exact hgk)
        rw [q1]
        rcases k with _ | k
        · have hc := fun n h => rrb0_c s n (L.getD 0 []) h hrk hgk
          generalize L.getD 0 [] = line at *
          unfold rrH boxQ0 cntR at *
          simp -dsimp only [aqT, aqU, aqN, ↓seqK, ↓blkK, ↓loopK, step, stepBin, Nat.reduceBEq, Nat.reduceBeqDiff, Nat.add_assoc nid, Nat.reduceAdd, reduceCtorEq, ↓reduceIte, Nat.reduceLeDiff, Nat.reduceBneDiff, Option.toList, ← Int.ofNat_tmod, ← Int.ofNat_tdiv, Nat.reduceLT, a1, a2, a3, a4, a5, a6, a7, a8, a9, b1, b2, b3, b4, b5, b6, b7, b8, b9, x1, x2, x3, x4]
          refine CallO.on (hc _ (by omega)) (subH_cons (by simp only [aqT, aqU, aqN, ↓seqK, ↓blkK, ↓loopK, step, stepBin, Nat.reduceBEq, Nat.reduceBeqDiff, Nat.add_assoc nid, Nat.reduceAdd, reduceCtorEq, ↓reduceIte, Nat.reduceLeDiff, Nat.reduceBneDiff, Option.toList, ← Int.ofNat_tmod, ← Int.ofNat_tdiv, Nat.reduceLT, a1, a2, a3, a4, a5, a6, a7, a8, a9, b1, b2, b3, b4, b5, b6, b7, b8, b9, x1, x2, x3, x4]) (subH_get (by simp only [aqT, aqU, aqN, ↓seqK, ↓blkK, ↓loopK, step, stepBin, Nat.reduceBEq, Nat.reduceBeqDiff, Nat.add_assoc nid, Nat.reduceAdd, reduceCtorEq, ↓reduceIte, Nat.reduceLeDiff, Nat.reduceBneDiff, Option.toList, ← Int.ofNat_tmod, ← Int.ofNat_tdiv, Nat.reduceLT, a1, a2, a3, a4, a5, a6, a7, a8, a9, b1, b2, b3, b4, b5, b6, b7, b8, b9, x1, x2, x3, x4]))) ?_
          simp -dsimp only [aqT, aqU, aqN, ↓seqK, ↓blkK, ↓loopK, step, stepBin, Nat.reduceBEq, Nat.reduceBeqDiff, Nat.add_assoc nid, Nat.reduceAdd, reduceCtorEq, ↓reduceIte, Nat.reduceLeDiff, Nat.reduceBneDiff, Option.toList, ← Int.ofNat_tmod, ← Int.ofNat_tdiv, Nat.reduceLT, a1, a2, a3, a4, a5, a6, a7, a8, a9, b1, b2, b3, b4, b5, b6, b7, b8, b9, x1, x2, x3, x4, Bool.not_false, Bool.not_true]
          refine RetOK.go [] [] (.inl rfl) ?_
          simp [a167, cvT, step, res, a1, a2, a3, a4, a5, a6, a7, a8, a9, b1, b2, b3, b4, b5, b6, b7, b8, b9, x1, x2, x3, x4, rrU]
        · have hc := fun n h => rrbk_c s (nid + 8) n (L.take (k + 1)) (L.getD (k + 1) []) (by omega) h (List.ne_nil_of_length_pos (by rw [List.length_take]; omega)) (by rw [List.length_take]; omega) hrk (by rw [List.length_take, Nat.min_eq_left (by omega)]; exact hgk)
          generalize L.getD (k + 1) [] = line at *
          unfold rrH boxQ cntR arrQr at *
          simp -dsimp only [aqT, aqU, aqN, ↓seqK, ↓blkK, ↓loopK, step, stepBin, Nat.reduceBEq, Nat.reduceBeqDiff, Nat.add_assoc nid, Nat.reduceAdd, reduceCtorEq, ↓reduceIte, Nat.reduceLeDiff, Nat.reduceBneDiff, Option.toList, ← Int.ofNat_tmod, ← Int.ofNat_tdiv, Nat.reduceLT, a1, a2, a3, a4, a5, a6, a7, a8, a9, b1, b2, b3, b4, b5, b6, b7, b8, b9, x1, x2, x3, x4]
          refine CallO.on (hc _ (by omega)) (subH_cons (by simp only [aqT, aqU, aqN, ↓seqK, ↓blkK, ↓loopK, step, stepBin, Nat.reduceBEq, Nat.reduceBeqDiff, Nat.add_assoc nid, Nat.reduceAdd, reduceCtorEq, ↓reduceIte, Nat.reduceLeDiff, Nat.reduceBneDiff, Option.toList, ← Int.ofNat_tmod, ← Int.ofNat_tdiv, Nat.reduceLT, a1, a2, a3, a4, a5, a6, a7, a8, a9, b1, b2, b3, b4, b5, b6, b7, b8, b9, x1, x2, x3, x4]) (subH_cons (by simp only [aqT, aqU, aqN, ↓seqK, ↓blkK, ↓loopK, step, stepBin, Nat.reduceBEq, Nat.reduceBeqDiff, Nat.add_assoc nid, Nat.reduceAdd, reduceCtorEq, ↓reduceIte, Nat.reduceLeDiff, Nat.reduceBneDiff, Option.toList, ← Int.ofNat_tmod, ← Int.ofNat_tdiv, Nat.reduceLT, a1, a2, a3, a4, a5, a6, a7, a8, a9, b1, b2, b3, b4, b5, b6, b7, b8, b9, x1, x2, x3, x4]) (subH_get (by simp only [aqT, aqU, aqN, ↓seqK, ↓blkK, ↓loopK, step, stepBin, Nat.reduceBEq, Nat.reduceBeqDiff, Nat.add_assoc nid, Nat.reduceAdd, reduceCtorEq, ↓reduceIte, Nat.reduceLeDiff, Nat.reduceBneDiff, Option.toList, ← Int.ofNat_tmod, ← Int.ofNat_tdiv, Nat.reduceLT, a1, a2, a3, a4, a5, a6, a7, a8, a9, b1, b2, b3, b4, b5, b6, b7, b8, b9, x1, x2, x3, x4])))) ?_
          simp -dsimp only [aqT, aqU, aqN, ↓seqK, ↓blkK, ↓loopK, step, stepBin, Nat.reduceBEq, Nat.reduceBeqDiff, Nat.add_assoc nid, Nat.reduceAdd, reduceCtorEq, ↓reduceIte, Nat.reduceLeDiff, Nat.reduceBneDiff, Option.toList, ← Int.ofNat_tmod, ← Int.ofNat_tdiv, Nat.reduceLT, a1, a2, a3, a4, a5, a6, a7, a8, a9, b1, b2, b3, b4, b5, b6, b7, b8, b9, x1, x2, x3, x4, Bool.not_false, Bool.not_true]
          refine RetOK.go [] [] (.inl rfl) ?_
          simp [a167, cvT, step, res, a1, a2, a3, a4, a5, a6, a7, a8, a9, b1, b2, b3, b4, b5, b6, b7, b8, b9, x1, x2, x3, x4, rrU]
      · have hg1 : ∀ j, j < k + 1 → lnOk j (L.getD j []) = true := fun j hj => by
          rcases (by omega : j < k ∨ j = k) with hj | hj
          · exact hg j hj
          · rw [hj]; exact hgk
        have hsn : L.take (k + 1) = L.take k ++ [L.getD k []] := take_snoc (by rw [List.getD_eq_getElem?_getD, List.getElem?_eq_getElem hkl]; rfl)
        rcases k with _ | k
        · have hc := fun n h => rr0_c s n (L.getD 0 []) h hrk hgk
          have e1 : [L.getD 0 []] = L.take 1 := by rw [hsn]; simp
          rw [e1] at hc
          generalize L.getD 0 [] = line at *
          unfold rrH boxQ0 cntR at *
          simp -dsimp only [aqT, aqU, aqN, ↓seqK, ↓blkK, ↓loopK, step, stepBin, Nat.reduceBEq, Nat.reduceBeqDiff, Nat.add_assoc nid, Nat.reduceAdd, reduceCtorEq, ↓reduceIte, Nat.reduceLeDiff, Nat.reduceBneDiff, Option.toList, ← Int.ofNat_tmod, ← Int.ofNat_tdiv, Nat.reduceLT, a1, a2, a3, a4, a5, a6, a7, a8, a9, b1, b2, b3, b4, b5, b6, b7, b8, b9, x1, x2, x3, x4]
          refine CallO.on (hc _ (by omega)) (subH_cons (by simp only [aqT, aqU, aqN, ↓seqK, ↓blkK, ↓loopK, step, stepBin, Nat.reduceBEq, Nat.reduceBeqDiff, Nat.add_assoc nid, Nat.reduceAdd, reduceCtorEq, ↓reduceIte, Nat.reduceLeDiff, Nat.reduceBneDiff, Option.toList, ← Int.ofNat_tmod, ← Int.ofNat_tdiv, Nat.reduceLT, a1, a2, a3, a4, a5, a6, a7, a8, a9, b1, b2, b3, b4, b5, b6, b7, b8, b9, x1, x2, x3, x4]) (subH_get (by simp only [aqT, aqU, aqN, ↓seqK, ↓blkK, ↓loopK, step, stepBin, Nat.reduceBEq, Nat.reduceBeqDiff, Nat.add_assoc nid, Nat.reduceAdd, reduceCtorEq, ↓reduceIte, Nat.reduceLeDiff, Nat.reduceBneDiff, Option.toList, ← Int.ofNat_tmod, ← Int.ofNat_tdiv, Nat.reduceLT, a1, a2, a3, a4, a5, a6, a7, a8, a9, b1, b2, b3, b4, b5, b6, b7, b8, b9, x1, x2, x3, x4]))) ?_
          unfold boxQ arrQr at *
          simp -dsimp only [aqT, aqU, aqN, ↓seqK, ↓blkK, ↓loopK, step, stepBin, Nat.reduceBEq, Nat.reduceBeqDiff, Nat.add_assoc nid, Nat.reduceAdd, reduceCtorEq, ↓reduceIte, Nat.reduceLeDiff, Nat.reduceBneDiff, Option.toList, ← Int.ofNat_tmod, ← Int.ofNat_tdiv, Nat.reduceLT, a1, a2, a3, a4, a5, a6, a7, a8, a9, b1, b2, b3, b4, b5, b6, b7, b8, b9, x1, x2, x3, x4, Bool.not_false, Bool.not_true]
          refine ⟨by unfold inI64; omega, (0 + 1, r'), ⟨⟨by simp only; omega, hg1, by simp only; exact hdr.symm, by simp only; exact hr2', hr'l⟩, by simp only; omega⟩, Cov.go [(nid + 8, nid + 164)] [] ?_⟩
          simp [cvT, step, res, a1, a2, a3, a4, a5, a6, a7, a8, a9, b1, b2, b3, b4, b5, b6, b7, b8, b9, x1, x2, x3, x4, boxQ, cntR, arrQr, ColsEq.refl, -List.getD_eq_getElem?_getD]
        · have hc := fun n h => rrk_c s (nid + 8) n (L.take (k + 1)) (L.getD (k + 1) []) (by omega) h (List.ne_nil_of_length_pos (by rw [List.length_take]; omega)) (by rw [List.length_take]; omega) hrk (by rw [List.length_take, Nat.min_eq_left (by omega)]; exact hgk)
          rw [← hsn] at hc
          generalize L.getD (k + 1) [] = line at *
          unfold rrH boxQ cntR arrQr at *
          simp -dsimp only [aqT, aqU, aqN, ↓seqK, ↓blkK, ↓loopK, step, stepBin, Nat.reduceBEq, Nat.reduceBeqDiff, Nat.add_assoc nid, Nat.reduceAdd, reduceCtorEq, ↓reduceIte, Nat.reduceLeDiff, Nat.reduceBneDiff, Option.toList, ← Int.ofNat_tmod, ← Int.ofNat_tdiv, Nat.reduceLT, a1, a2, a3, a4, a5, a6, a7, a8, a9, b1, b2, b3, b4, b5, b6, b7, b8, b9, x1, x2, x3, x4]
          refine CallO.on (hc _ (by omega)) (subH_cons (by simp only [aqT, aqU, aqN, ↓seqK, ↓blkK, ↓loopK, step, stepBin, Nat.reduceBEq, Nat.reduceBeqDiff, Nat.add_assoc nid, Nat.reduceAdd, reduceCtorEq, ↓reduceIte, Nat.reduceLeDiff, Nat.reduceBneDiff, Option.toList, ← Int.ofNat_tmod, ← Int.ofNat_tdiv, Nat.reduceLT, a1, a2, a3, a4, a5, a6, a7, a8, a9, b1, b2, b3, b4, b5, b6, b7, b8, b9, x1, x2, x3, x4]) (subH_cons (by simp only [aqT, aqU, aqN, ↓seqK, ↓blkK, ↓loopK, step, stepBin, Nat.reduceBEq, Nat.reduceBeqDiff, Nat.add_assoc nid, Nat.reduceAdd, reduceCtorEq, ↓reduceIte, Nat.reduceLeDiff, Nat.reduceBneDiff, Option.toList, ← Int.ofNat_tmod, ← Int.ofNat_tdiv, Nat.reduceLT, a1, a2, a3, a4, a5, a6, a7, a8, a9, b1, b2, b3, b4, b5, b6, b7, b8, b9, x1, x2, x3, x4]) (subH_get (by simp only [aqT, aqU, aqN, ↓seqK, ↓blkK, ↓loopK, step, stepBin, Nat.reduceBEq, Nat.reduceBeqDiff, Nat.add_assoc nid, Nat.reduceAdd, reduceCtorEq, ↓reduceIte, Nat.reduceLeDiff, Nat.reduceBneDiff, Option.toList, ← Int.ofNat_tmod, ← Int.ofNat_tdiv, Nat.reduceLT, a1, a2, a3, a4, a5, a6, a7, a8, a9, b1, b2, b3, b4, b5, b6, b7, b8, b9, x1, x2, x3, x4])))) ?_
          simp -dsimp only [aqT, aqU, aqN, ↓seqK, ↓blkK, ↓loopK, step, stepBin, Nat.reduceBEq, Nat.reduceBeqDiff, Nat.add_assoc nid, Nat.reduceAdd, reduceCtorEq, ↓reduceIte, Nat.reduceLeDiff, Nat.reduceBneDiff, Option.toList, ← Int.ofNat_tmod, ← Int.ofNat_tdiv, Nat.reduceLT, a1, a2, a3, a4, a5, a6, a7, a8, a9, b1, b2, b3, b4, b5, b6, b7, b8, b9, x1, x2, x3, x4, Bool.not_false, Bool.not_true]
          refine ⟨by unfold inI64; omega, (k + 1 + 1, r'), ⟨⟨by simp only; omega, hg1, by simp only; exact hdr.symm, by simp only; exact hr2', hr'l⟩, by simp only; omega⟩, Cov.go [(nid + 8, nid + 164)] [] ?_⟩
          simp [cvT, step, res, a1, a2, a3, a4, a5, a6, a7, a8, a9, b1, b2, b3, b4, b5, b6, b7, b8, b9, x1, x2, x3, x4, boxQ, cntR, arrQr, ColsEq.refl, -List.getD_eq_getElem?_getD]
    · simp only [e2'] at hc
      refine CallO.pure (hc _) ?_
      have hsp := spl_none r e1'
      rw [hsp] at hr1 hr2
      simp only at hr1 hr2
      have hkL : k = L.length := by
        have := congrArg List.length hr1
        rw [List.length_drop] at this
        simp at this
        omega
      have hne : (spl t).2 ≠ [] := by rw [← hr2]; exact hrne
      have q1 : eachW lnOk t = (L.length, false) := by rw [← hL]; exact eachW_open hne (by rw [hL]; intro j hj; exact hg j (by omega))
      rw [q1, ← hkL]
      simp -dsimp only [Bool.not_true, Bool.not_false, aqT, aqU, aqN, ↓seqK, ↓blkK, ↓loopK, step, stepBin, Nat.reduceBEq, Nat.reduceBeqDiff, Nat.add_assoc nid, Nat.reduceAdd, reduceCtorEq, ↓reduceIte, Nat.reduceLeDiff, Nat.reduceBneDiff, Option.toList, ← Int.ofNat_tmod, ← Int.ofNat_tdiv, Nat.reduceLT, a1, a2, a3, a4, a5, a6, a7, a8, a9, b1, b2, b3, b4, b5, b6, b7, b8, b9, x1, x2, x3, x4]
      rcases k with _ | k
      · unfold rrH
        refine RetOK.go [] [] (.inl rfl) ?_
        simp [a167, cvT, step, res, a1, a2, a3, a4, a5, a6, a7, a8, a9, b1, b2, b3, b4, b5, b6, b7, b8, b9, x1, x2, x3, x4, rrU]
      · unfold rrH
        refine RetOK.go [] [] (.inl rfl) ?_
        simp [a167, cvT, step, res, a1, a2, a3, a4, a5, a6, a7, a8, a9, b1, b2, b3, b4, b5, b6, b7, b8, b9, x1, x2, x3, x4, rrU]
  · have hr0 : r = [] := by simpa using hrn
    subst hr0
    have hkL : k = L.length := by
      have := congrArg List.length hr1
      rw [List.length_drop] at this
      simp [spl] at this
      omega
    have h2 : (spl t).2 = [] := by rw [← hr2]; rfl
    have hLn := hLn h2
    have hLp : 0 < L.length := List.length_pos_iff.2 hLn
    have q1 : eachW lnOk t = (0, true) := eachW_all h2 (by rw [hL]; intro j hj; exact hg j (by omega))
    rw [q1]
    obtain ⟨j, hj⟩ : ∃ j, L.length = j + 1 := ⟨L.length - 1, by omega⟩
    rw [hkL, hj]
    have htk : L.take (j + 1) = L := List.take_of_length_le (by omega)
    rw [rrH_succ, htk]
    unfold rrU boxQ cntR arrQr
    refine RetOK.go [(nid, nid + 8)] [] (.inl rfl) ?_
    simp [a167, cvT, step, res, a1, a2, a3, a4, a5, a6, a7, a8, a9, b1, b2, b3, b4, b5, b6, b7, b8, b9, x1, x2, x3, x4, ColsEq.refl, -List.getD_eq_getElem?_getD]
end Go.Proofs.YtpifoghhaohhaaaGreatDoor
namespace Go.Proofs.YtpifoghhaohhaaaGreatDoor
open Go.RowKit
theorem lastDrop {s : List UInt8} (h : 0 < s.length) : ((s.drop (s.length - 1)) == [10]) = (s.getLast? == some 10) := by
  have hne : s ≠ [] := by intro e; rw [e] at h; simp at h
  have e : s.drop (s.length - 1) = [s.getLast hne] := by
    rw [List.drop_eq_getElem_cons (by omega), List.getLast_eq_getElem]
    have : s.length - 1 + 1 = s.length := by omega
    rw [this, List.drop_length]
  rw [e, List.getLast?_eq_some_getLast hne]
  simp
theorem hasSuffix_c (s : List UInt8) (nid : Nat) (h : 0 < s.length) (hs : s.length ≤ 1000000000) : ACall Tryz.prog 300 [.str s, .str [10]] [] nid (.bool (s.getLast? == some 10)) [] := by
  refine acall_run c300 (by simp [a300]) ?_
  simp -dsimp only [aqT, aqU, aqN, ↓seqK, ↓blkK, ↓loopK, step, stepBin, Nat.reduceBEq, Nat.reduceBeqDiff, Nat.add_assoc nid, Nat.reduceAdd, reduceCtorEq, ↓reduceIte, Nat.reduceLeDiff, Nat.reduceBneDiff, Option.toList, ← Int.ofNat_tmod, ← Int.ofNat_tdiv, Nat.reduceLT, a300]
  have e1 : ((s.length : Int) - 1).toNat = s.length - 1 := by omega
  refine S2.yes (by simp; omega) ?_
  simp -dsimp only [aqT, aqU, aqN, aqS, ↓seqK, ↓blkK, ↓loopK, step, stepBin, Nat.add_assoc nid, ↓reduceIte, Option.toList, ← Int.ofNat_tmod, ← Int.ofNat_tdiv, simprocAttr, BEq.rfl, LN_succ]
  refine ⟨by unfold inI64; omega, by omega, ?_⟩
  simp only [e1, lastDrop h]
  refine RetOK.pure (.inl rfl) rfl ?_
  simp [cvT, step, res]
theorem cutSuffixL_c (s : List UInt8) (nid : Nat) (h : s ≠ []) (hs : s.length ≤ 1000000000) : ACall Tryz.prog 283 [.str s, .str [10]] [] nid (.tup [.str (bodyV s), .bool (s.getLast? == some 10)]) [] := by
  have h0 : 0 < s.length := List.length_pos_iff.2 h
  refine acall_run c283 (by simp [a283]) ?_
  simp -dsimp only [aqT, aqU, aqN, ↓seqK, ↓blkK, ↓loopK, step, stepBin, Nat.reduceBEq, Nat.reduceBeqDiff, Nat.add_assoc nid, Nat.reduceAdd, reduceCtorEq, ↓reduceIte, Nat.reduceLeDiff, Nat.reduceBneDiff, Option.toList, ← Int.ofNat_tmod, ← Int.ofNat_tdiv, Nat.reduceLT, a283]
  refine CallO.pure (hasSuffix_c s _ h0 hs) ?_
  unfold bodyV
  cases hl : (s.getLast? == some 10) <;> simp -dsimp only [aqT, aqU, aqN, aqS, ↓seqK, ↓blkK, ↓loopK, step, stepBin, Nat.add_assoc nid, ↓reduceIte, Option.toList, ← Int.ofNat_tmod, ← Int.ofNat_tdiv, simprocAttr, BEq.rfl, LN_succ, Bool.not_true, Bool.not_false]
  · rw [if_neg (by simpa using hl)]
    refine RetOK.pure (.inl rfl) rfl ?_
    simp [cvT, step, res]
  · rw [if_pos (by simpa using hl)]
    have e1 : ((s.length : Int) - 1).toNat = s.length - 1 := by omega
    have e2 : s.take (s.length - 1) = s.dropLast := (List.dropLast_eq_take).symm
    refine ⟨by unfold inI64; omega, by omega, ?_⟩
    simp only [e1, e2]
    refine RetOK.pure (.inl rfl) rfl ?_
    simp [cvT, step, res]
theorem cutSuffix_c (s : List UInt8) (nid : Nat) (h : s ≠ []) (hs : s.length ≤ 1000000000) : ACall Tryz.prog 252 [.str s, .str [10]] [] nid (.tup [.str (bodyV s), .bool (s.getLast? == some 10)]) [] := by
  refine acall_run c252 (by simp [a252]) ?_
  simp -dsimp only [aqT, aqU, aqN, ↓seqK, ↓blkK, ↓loopK, step, stepBin, Nat.reduceBEq, Nat.reduceBeqDiff, Nat.add_assoc nid, Nat.reduceAdd, reduceCtorEq, ↓reduceIte, Nat.reduceLeDiff, Nat.reduceBneDiff, Option.toList, ← Int.ofNat_tmod, ← Int.ofNat_tdiv, Nat.reduceLT, a252]
  refine CallO.pure (cutSuffixL_c s _ h hs) ?_
  simp -dsimp only [aqT, aqU, aqN, aqS, ↓seqK, ↓blkK, ↓loopK, step, stepBin, Nat.add_assoc nid, ↓reduceIte, Option.toList, ← Int.ofNat_tmod, ← Int.ofNat_tdiv, simprocAttr, BEq.rfl, LN_succ]
  refine RetOK.pure (.inl rfl) rfl ?_
  simp [cvT, step, res]
theorem lines_nil (nid : Nat) : ACall Tryz.prog 220 [.str []] [] nid (.tup [.lit true 0 [], .bool true]) [] := by
  refine acall_run c220 (by simp [a220]) ?_
  simp -dsimp only [aqT, aqU, aqN, ↓seqK, ↓blkK, ↓loopK, step, stepBin, Nat.reduceBEq, Nat.reduceBeqDiff, Nat.add_assoc nid, Nat.reduceAdd, reduceCtorEq, ↓reduceIte, Nat.reduceLeDiff, Nat.reduceBneDiff, Option.toList, ← Int.ofNat_tmod, ← Int.ofNat_tdiv, Nat.reduceLT, a220]
  refine RetOK.pure (.inl rfl) rfl ?_
  simp [cvT, step, res]
theorem bodyV_len (s : List UInt8) : (bodyV s).length ≤ s.length := by
  unfold bodyV
  split
  · simp
  · exact Nat.le_refl _
theorem lines_c (s : List UInt8) (nid : Nat) (h : s ≠ []) (hs : s.length ≤ 1000000000) : ACall Tryz.prog 220 [.str s] [] nid (.tup [.lit false (pieces (bodyV s)).length [.s fun i => (pieces (bodyV s)).getD i []], .bool (s.getLast? == some 10)]) [] := by
  have hb : (s == []) = false := by simpa using h
  have hl := bodyV_len s
  refine acall_run c220 (by simp [a220]) ?_
  simp -dsimp only [a220, aqT, aqU, aqN, ↓seqK, ↓blkK, ↓loopK, step, stepBin, Nat.reduceBEq, Nat.reduceBeqDiff, Nat.add_assoc nid, Nat.reduceAdd, reduceCtorEq, ↓reduceIte, Nat.reduceLeDiff, Nat.reduceBneDiff, Option.toList, ← Int.ofNat_tmod, ← Int.ofNat_tdiv, Nat.reduceLT, hb]
  refine CallO.pure (cutSuffix_c s _ h hs) ?_
  simp -dsimp only [aqT, aqU, aqN, aqS, ↓seqK, ↓blkK, ↓loopK, step, stepBin, Nat.add_assoc nid, ↓reduceIte, Option.toList, ← Int.ofNat_tmod, ← Int.ofNat_tdiv, simprocAttr, BEq.rfl, LN_succ]
  refine CallO.pure (split_cc (bodyV s) _ (by omega)) ?_
  simp -dsimp only [aqT, aqU, aqN, aqS, ↓seqK, ↓blkK, ↓loopK, step, stepBin, Nat.add_assoc nid, ↓reduceIte, Option.toList, ← Int.ofNat_tmod, ← Int.ofNat_tdiv, simprocAttr, BEq.rfl, LN_succ]
  refine RetOK.pure (.inl rfl) rfl ?_
  simp [cvT, step, res]
theorem getD_app_lt {α : Type} (l m : List α) (d : α) {k : Nat} (h : k < l.length) : (l ++ m).getD k d = l.getD k d := by
  rw [List.getD_eq_getElem?_getD, List.getElem?_append_left h, ← List.getD_eq_getElem?_getD]
end Go.Proofs.YtpifoghhaohhaaaGreatDoor
