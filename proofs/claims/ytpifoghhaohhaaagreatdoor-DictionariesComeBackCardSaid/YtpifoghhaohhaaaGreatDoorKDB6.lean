/-
  Dictionaries that the stream makes, by the abstract machine.
-/
import Derived.Test.YtpifoghhaohhaaaGreatDoorKDB5
import Derived.Test.YtpifoghhaohhaaaGreatDoorKDB3
import Derived.Lib.Bytealg
import Derived.Laws.Externs
import Derived.Test.YtpifoghhaohhaaaGreatDoorProg
import Derived.WalkKit
import Derived.Ground.NamesProg
import Derived.Shelf.Strings.OnBuilder
import Derived.Test.YtpifoghhaohhaaaGreatDoorKDB4
import Derived.Shelf.Strings.Split
import Derived.Shelf.Strings.Cut
import Derived.Lib.IndexBytes
import Derived.Lib.Agree
set_option linter.unusedVariables false
set_option linter.unusedSimpArgs false
set_option maxRecDepth 100000
namespace Go.Proofs.YtpifoghhaohhaaaGreatDoor
open Go.RowKit Go.Shelf Go.Lib
set_option maxHeartbeats 8000000 in
theorem dict_I (s nid : Nat) (nl : Bool) (A : List Int) (p faults tests : Nat) (h : s < nid) (hp : p ≤ 1099500000000) (hA : A.length ≤ 17592186044416) (hf : faults ≤ 7) (ht1 : 1 ≤ tests) (ht : tests ≤ 6) :
    ACallI Tryz.prog 14 [.ptr s 0, .int .i64 (faults : Nat), .int .i64 (tests : Nat)] [(s, strmC nl A p)] nid (fun x : DictX => DictB tests x.G x.R ∧ x.q ≤ p + 1000) (fun x => dictP x.g0 x.r0 x.b x.G x.R) (fun x => [(s, strmC nl A x.q)]) := by
  obtain ⟨e1, e2, e3, e4, e5, e6, e7, e8, e9⟩ := id_all h
  refine acallI_sr c14 (by simp [a14]) ?_
  unfold a14
  refine SR.seq ?_
  simp -dsimp only [aqT, aqU, aqN, aqS, ↓seqK, ↓blkK, ↓loopK, step, stepBin, Nat.add_assoc nid, ↓reduceIte, Option.toList, ← Int.ofNat_tmod, ← Int.ofNat_tdiv, simprocAttr, BEq.rfl, LN_succ, e1, e2, e3, e4, e5, e6, e7, e8, e9]
  refine SR.seq ?_
  simp -dsimp only [aqT, aqU, aqN, aqS, ↓seqK, ↓blkK, ↓loopK, step, stepBin, Nat.add_assoc nid, ↓reduceIte, Option.toList, ← Int.ofNat_tmod, ← Int.ofNat_tdiv, simprocAttr, BEq.rfl, LN_succ, e1, e2, e3, e4, e5, e6, e7, e8, e9]
  refine SR.seq ?_
  simp -dsimp only [aqT, aqU, aqN, aqS, ↓seqK, ↓blkK, ↓loopK, step, stepBin, Nat.add_assoc nid, ↓reduceIte, Option.toList, ← Int.ofNat_tmod, ← Int.ofNat_tdiv, simprocAttr, BEq.rfl, LN_succ, e1, e2, e3, e4, e5, e6, e7, e8, e9]
  have hmd := rangeV_bd A p (lo := 1) (hi := (tests : Int)) (by omega)
  obtain ⟨m, hm⟩ : ∃ m : Nat, rangeV A p 1 tests = m := ⟨_, (Int.toNat_of_nonneg (by omega)).symm⟩
  refine SR.seqW (ι := {G : List (List UInt8) // G.length = m ∧ ShortRows 2 G}) (fun G => ⟨[(8, .fn 82 [.ptr nid 0]), (7, .ptr (nid + 8) 0), (6, .ptr (nid + 4) 0), (3, .ptr nid 0), (1, .int .i64 (faults : Nat))], [(nid, boxP s), (nid + 4, some (.box 29 [.lit true 0 [], .lit true 0 []])), (nid + 8, some (.box 29 [.sl (nid + 20) 0 G.1.length, .lit true 0 []])), (nid + 20, arrS G.1), (s, strmC nl A (p + 1 + m))], nid + 1000, nid⟩) ?_ (fun ⟨G, hG1, hG2⟩ => ?_)
  · refine SR.seqTo ⟨[(17, .int .i64 0), (16, .int .i64 (m : Nat)), (8, .fn 82 [.ptr nid 0]), (7, .ptr (nid + 8) 0), (6, .ptr (nid + 4) 0), (3, .ptr nid 0), (1, .int .i64 (faults : Nat))], [(nid, boxP s), (nid + 4, some (.box 29 [.lit true 0 [], .lit true 0 []])), (nid + 8, some (.box 29 [.lit true 0 [], .lit true 0 []])), (s, strmC nl A (p + 1))], nid + 100, nid⟩ ?_ ?_
    · simp -dsimp only [aqT, aqU, aqN, ↓seqK, ↓blkK, ↓loopK, step, stepBin, Nat.reduceBEq, Nat.reduceBeqDiff, Nat.add_assoc nid, Nat.reduceAdd, reduceCtorEq, ↓reduceIte, Nat.reduceLeDiff, Nat.reduceBneDiff, Option.toList, ← Int.ofNat_tmod, ← Int.ofNat_tdiv, Nat.reduceLT, e1, e2, e3, e4, e5, e6, e7, e8, e9]
      refine CallO.on (range_c s _ nl A p 1 tests (by omega) (by omega) hA (by omega) (by omega) (by omega)) (subH_get (by simp only [aqT, aqU, aqN, ↓seqK, ↓blkK, ↓loopK, step, stepBin, Nat.reduceBEq, Nat.reduceBeqDiff, Nat.add_assoc nid, Nat.reduceAdd, reduceCtorEq, ↓reduceIte, Nat.reduceLeDiff, Nat.reduceBneDiff, Option.toList, ← Int.ofNat_tmod, ← Int.ofNat_tdiv, Nat.reduceLT, e1, e2, e3, e4, e5, e6, e7, e8, e9])) ?_
      rw [hm]
      simp -dsimp only [aqT, aqU, aqN, ↓seqK, ↓blkK, ↓loopK, step, stepBin, Nat.reduceBEq, Nat.reduceBeqDiff, Nat.add_assoc nid, Nat.reduceAdd, reduceCtorEq, ↓reduceIte, Nat.reduceLeDiff, Nat.reduceBneDiff, Option.toList, ← Int.ofNat_tmod, ← Int.ofNat_tdiv, Nat.reduceLT, e1, e2, e3, e4, e5, e6, e7, e8, e9, strmC_low]
      refine Cov.go [] [] ?_
      simp [retPV, over, keys, List.map_nil, List.map_cons, List.contains_cons, List.contains_nil, Bool.or_false, Bool.or_true, Bool.true_or, Bool.false_or, beq_self_eq_true, cond_true, cond_false, HeapCov, orNil, nilSz, onBlk, srcOf, getH_hit, getH_miss, getH.eq_1, getS_hit, getS_miss, getS.eq_1, BlkCov, PVCovs, PVCov, ColsEq, AColsEq, ACEq, ColEq.refl, liveIds, SlotsCov, List.all_nil, List.all_cons, List.any_nil, List.any_cons, List.nil_append, List.cons_append, inRange, apart, nilBlk, idS1, idS2, readAll, readRes, onAll, step, res, AX.val, List.drop_zero, List.drop_succ_cons, List.take_succ_cons, List.take_zero, e1, e2, e3, e4, e5, e6, e7, e8, e9, boxP, strmC]
    refine SR.run (t := .mk) ?_
    unfold boxP
    simp -dsimp only [aqT, aqU, aqN, ↓seqK, ↓blkK, ↓loopK, step, stepBin, Nat.reduceBEq, Nat.reduceBeqDiff, Nat.add_assoc nid, Nat.reduceAdd, reduceCtorEq, ↓reduceIte, Nat.reduceLeDiff, Nat.reduceBneDiff, Option.toList, ← Int.ofNat_tmod, ← Int.ofNat_tdiv, Nat.reduceLT, e1, e2, e3, e4, e5, e6, e7, e8, e9, strmC_low]
    refine LP.mkP (fun G : List (List UInt8) => G.length ≤ m ∧ ShortRows 2 G) (fun G => ⟨[(17, .int .i64 G.length), (16, .int .i64 (m : Nat)), (8, .fn 82 [.ptr nid 0]), (7, .ptr (nid + 8) 0), (6, .ptr (nid + 4) 0), (3, .ptr nid 0), (1, .int .i64 (faults : Nat))], [(nid, boxP s), (nid + 4, some (.box 29 [.lit true 0 [], .lit true 0 []])), (nid + 8, some (.box 29 [.sl (nid + 20) 0 G.length, .lit true 0 []])), (nid + 20, arrS G), (s, strmC nl A (p + 1 + G.length))], nid + 200, nid⟩) (fun G => m + 1 - G.length) [] ⟨by simp, fun r hr => by simp at hr⟩ (Cov.go [] [(nid + 20, 1)] ?_) (fun G hG => ?_)
    · simp [retPV, over, keys, List.map_nil, List.map_cons, List.contains_cons, List.contains_nil, Bool.or_false, Bool.or_true, Bool.true_or, Bool.false_or, beq_self_eq_true, cond_true, cond_false, HeapCov, orNil, nilSz, onBlk, srcOf, getH_hit, getH_miss, getH.eq_1, getS_hit, getS_miss, getS.eq_1, BlkCov, PVCovs, PVCov, ColsEq, AColsEq, ACEq, ColEq.refl, liveIds, SlotsCov, List.all_nil, List.all_cons, List.any_nil, List.any_cons, List.nil_append, List.cons_append, inRange, apart, nilBlk, idS1, idS2, readAll, readRes, onAll, step, res, AX.val, List.drop_zero, List.drop_succ_cons, List.take_succ_cons, List.take_zero, e1, e2, e3, e4, e5, e6, e7, e8, e9, boxP, arrS, strmC]
    obtain ⟨hG1, hG2⟩ := hG
    have hal := ansV_len A (p + 1 + G.length)
    unfold boxP arrS
    simp -dsimp only [aqT, aqU, aqN, ↓seqK, ↓blkK, ↓loopK, step, stepBin, Nat.reduceBEq, Nat.reduceBeqDiff, Nat.add_assoc nid, Nat.reduceAdd, reduceCtorEq, ↓reduceIte, Nat.reduceLeDiff, Nat.reduceBneDiff, Option.toList, ← Int.ofNat_tmod, ← Int.ofNat_tdiv, Nat.reduceLT, e1, e2, e3, e4, e5, e6, e7, e8, e9, strmC_low]
    refine S2.dec (fun h3 => ?_) (fun h3 => ?_) <;> simp -dsimp only [aqT, aqU, aqN, aqS, ↓seqK, ↓blkK, ↓loopK, step, stepBin, Nat.add_assoc nid, ↓reduceIte, Option.toList, ← Int.ofNat_tmod, ← Int.ofNat_tdiv, simprocAttr, BEq.rfl, LN_succ, e1, e2, e3, e4, e5, e6, e7, e8, e9, strmC_low]
    · refine CallX.on (ans_c s nid _ nl A (p + 1 + G.length) h (by omega) (by omega) hA) (subH_cons (by simp only [aqT, aqU, aqN, ↓seqK, ↓blkK, ↓loopK, step, stepBin, Nat.reduceBEq, Nat.reduceBeqDiff, Nat.add_assoc nid, Nat.reduceAdd, reduceCtorEq, ↓reduceIte, Nat.reduceLeDiff, Nat.reduceBneDiff, Option.toList, ← Int.ofNat_tmod, ← Int.ofNat_tdiv, Nat.reduceLT, e1, e2, e3, e4, e5, e6, e7, e8, e9, Int.cast_ofNat_Int, Int.reduceBEq, Int.reduceBNe, Int.reduceLT, Int.reduceLE, Int.reduceAdd, Int.reduceSub, Int.reduceMul, Int.reduceToNat, Int.reduceNeg, Int.reduceTMod, Int.reduceEq, not_false_eq_true, Int.reducePow, Int.reduceFDiv, Nat.reducePow, Nat.reduceSub, Nat.reduceMul, Nat.min_eq_left, Nat.reduceEqDiff, BEq.rfl, Int.tdiv_one, LN_succ, boxP]) (subH_get (by simp only [aqT, aqU, aqN, aqS, ↓seqK, ↓blkK, ↓loopK, step, stepBin, Nat.add_assoc nid, ↓reduceIte, Option.toList, ← Int.ofNat_tmod, ← Int.ofNat_tdiv, simprocAttr, BEq.rfl, LN_succ, e1, e2, e3, e4, e5, e6, e7, e8, e9]))) ?_
      simp -dsimp only [aqT, aqU, aqN, ↓seqK, ↓blkK, ↓loopK, step, stepBin, Nat.reduceBEq, Nat.reduceBeqDiff, Nat.add_assoc nid, Nat.reduceAdd, reduceCtorEq, ↓reduceIte, Nat.reduceLeDiff, Nat.reduceBneDiff, Option.toList, ← Int.ofNat_tmod, ← Int.ofNat_tdiv, Nat.reduceLT, e1, e2, e3, e4, e5, e6, e7, e8, e9, strmC_low]
      rw [getD_app1 G (ansV A (p + 1 + G.length)) rfl]
      have hl : (G ++ [ansV A (p + 1 + G.length)]).length = G.length + 1 := by simp
      refine ⟨?_, by omega, by unfold inI64; omega, G ++ [ansV A (p + 1 + G.length)], ⟨⟨by omega, hG2.snoc (by omega)⟩, by omega⟩, Cov.go [(nid + 20, nid + 224)] [] ?_⟩
      · simp
      simp [retPV, over, keys, List.map_nil, List.map_cons, List.contains_cons, List.contains_nil, Bool.or_false, Bool.or_true, Bool.true_or, Bool.false_or, beq_self_eq_true, cond_true, cond_false, HeapCov, orNil, nilSz, onBlk, srcOf, getH_hit, getH_miss, getH.eq_1, getS_hit, getS_miss, getS.eq_1, BlkCov, PVCovs, PVCov, ColsEq, AColsEq, ACEq, ColEq.refl, liveIds, SlotsCov, List.all_nil, List.all_cons, List.any_nil, List.any_cons, List.nil_append, List.cons_append, inRange, apart, nilBlk, idS1, idS2, readAll, readRes, onAll, step, res, AX.val, List.drop_zero, List.drop_succ_cons, List.take_succ_cons, List.take_zero, e1, e2, e3, e4, e5, e6, e7, e8, e9, boxP, arrS, strmC, hl, -List.length_append, -List.getD_eq_getElem?_getD]
      omega
    · have hGm : G.length = m := by omega
      refine ⟨⟨G, hGm, hG2⟩, Cov.go [] [] ?_⟩
      simp [retPV, over, keys, List.map_nil, List.map_cons, List.contains_cons, List.contains_nil, Bool.or_false, Bool.or_true, Bool.true_or, Bool.false_or, beq_self_eq_true, cond_true, cond_false, HeapCov, orNil, nilSz, onBlk, srcOf, getH_hit, getH_miss, getH.eq_1, getS_hit, getS_miss, getS.eq_1, BlkCov, PVCovs, PVCov, ColsEq, AColsEq, ACEq, ColEq.refl, liveIds, SlotsCov, List.all_nil, List.all_cons, List.any_nil, List.any_cons, List.nil_append, List.cons_append, inRange, apart, nilBlk, idS1, idS2, readAll, readRes, onAll, step, res, AX.val, List.drop_zero, List.drop_succ_cons, List.take_succ_cons, List.take_zero, e1, e2, e3, e4, e5, e6, e7, e8, e9, boxP, arrS, strmC, hGm, -List.getD_eq_getElem?_getD]
  have hnd := rangeV_bd A (p + 1 + m) (lo := 0) (hi := (faults : Int)) (by omega)
  obtain ⟨n, hn⟩ : ∃ n : Nat, rangeV A (p + 1 + m) 0 faults = n := ⟨_, (Int.toNat_of_nonneg (by omega)).symm⟩
  simp only
  refine SR.seqW (ι := {x : RowL × Nat // x.1.length = n ∧ x.2 ≤ p + 100 ∧ ∀ y ∈ x.1, y.1 ∈ namesL ∧ y.2.length = m ∧ ShortRows 101 y.2}) (fun x => ⟨[(7, .ptr (nid + 8) 0), (6, .ptr (nid + 4) 0), (3, .ptr nid 0)], [(nid, boxP s), (nid + 4, some (.box 29 [.lit true 0 [], .lit true 0 []])), (nid + 8, boxD (nid + 20) G.length (nid + 24) x.1.1.length), (nid + 20, arrS G), (s, strmC nl A x.1.2), (nid + 24, arrR nid x.1.1)] ++ famR nid x.1.1, nid + 4000, nid⟩) ?_ (fun ⟨⟨R, q⟩, hR1, hq, hR2⟩ => ?_)
  · unfold boxP arrS
    refine SR.seqTo ⟨[(30, .int .i64 0), (29, .int .i64 (n : Nat)), (8, .fn 82 [.ptr nid 0]), (7, .ptr (nid + 8) 0), (6, .ptr (nid + 4) 0), (3, .ptr nid 0)], [(nid, boxP s), (nid + 4, some (.box 29 [.lit true 0 [], .lit true 0 []])), (nid + 8, some (.box 29 [.sl (nid + 20) 0 G.length, .lit true 0 []])), (nid + 20, arrS G), (s, strmC nl A (p + 1 + m + 1))], nid + 1100, nid⟩ ?_ ?_
    · simp -dsimp only [aqT, aqU, aqN, ↓seqK, ↓blkK, ↓loopK, step, stepBin, Nat.reduceBEq, Nat.reduceBeqDiff, Nat.add_assoc nid, Nat.reduceAdd, reduceCtorEq, ↓reduceIte, Nat.reduceLeDiff, Nat.reduceBneDiff, Option.toList, ← Int.ofNat_tmod, ← Int.ofNat_tdiv, Nat.reduceLT, e1, e2, e3, e4, e5, e6, e7, e8, e9, strmC_low]
      refine CallO.on (range_c s _ nl A (p + 1 + m) 0 faults (by omega) (by omega) hA (by omega) (by omega) (by omega)) (subH_get (by simp only [aqT, aqU, aqN, ↓seqK, ↓blkK, ↓loopK, step, stepBin, Nat.reduceBEq, Nat.reduceBeqDiff, Nat.add_assoc nid, Nat.reduceAdd, reduceCtorEq, ↓reduceIte, Nat.reduceLeDiff, Nat.reduceBneDiff, Option.toList, ← Int.ofNat_tmod, ← Int.ofNat_tdiv, Nat.reduceLT, e1, e2, e3, e4, e5, e6, e7, e8, e9])) ?_
      rw [hn]
      simp -dsimp only [aqT, aqU, aqN, ↓seqK, ↓blkK, ↓loopK, step, stepBin, Nat.reduceBEq, Nat.reduceBeqDiff, Nat.add_assoc nid, Nat.reduceAdd, reduceCtorEq, ↓reduceIte, Nat.reduceLeDiff, Nat.reduceBneDiff, Option.toList, ← Int.ofNat_tmod, ← Int.ofNat_tdiv, Nat.reduceLT, e1, e2, e3, e4, e5, e6, e7, e8, e9, strmC_low]
      refine Cov.go [] [] ?_
      simp [retPV, over, keys, List.map_nil, List.map_cons, List.contains_cons, List.contains_nil, Bool.or_false, Bool.or_true, Bool.true_or, Bool.false_or, beq_self_eq_true, cond_true, cond_false, HeapCov, orNil, nilSz, onBlk, srcOf, getH_hit, getH_miss, getH.eq_1, getS_hit, getS_miss, getS.eq_1, BlkCov, PVCovs, PVCov, ColsEq, AColsEq, ACEq, ColEq.refl, liveIds, SlotsCov, List.all_nil, List.all_cons, List.any_nil, List.any_cons, List.nil_append, List.cons_append, inRange, apart, nilBlk, idS1, idS2, readAll, readRes, onAll, step, res, AX.val, List.drop_zero, List.drop_succ_cons, List.take_succ_cons, List.take_zero, e1, e2, e3, e4, e5, e6, e7, e8, e9, boxP, arrS, strmC, -List.getD_eq_getElem?_getD]
    refine SR.block ?_
    refine SR.loopP (fun R : RowL => R.length ≤ n ∧ ∀ y ∈ R, y.1 ∈ namesL ∧ y.2.length = m ∧ ShortRows 101 y.2) (fun R => ⟨[(30, .int .i64 R.length), (29, .int .i64 (n : Nat)), (8, .fn 82 [.ptr nid 0]), (7, .ptr (nid + 8) 0), (6, .ptr (nid + 4) 0), (3, .ptr nid 0)], [(nid, boxP s), (nid + 4, some (.box 29 [.lit true 0 [], .lit true 0 []])), (nid + 8, boxD (nid + 20) G.length (nid + 24) R.length), (nid + 20, arrS G), (s, strmC nl A (p + 1 + m + 1 + 2 * m * R.length)), (nid + 24, arrR nid R)] ++ famR nid R, nid + 1196, nid⟩) (fun R => n + 1 - R.length) [] ⟨by simp, by simp⟩ (Cov.go [] [(nid + 24, 2)] ?_) (fun R hR => ?_)
    · simp [retPV, over, keys, List.map_nil, List.map_cons, List.contains_cons, List.contains_nil, Bool.or_false, Bool.or_true, Bool.true_or, Bool.false_or, beq_self_eq_true, cond_true, cond_false, HeapCov, orNil, nilSz, onBlk, srcOf, getH_hit, getH_miss, getH.eq_1, getS_hit, getS_miss, getS.eq_1, BlkCov, PVCovs, PVCov, ColsEq, AColsEq, ACEq, ColEq.refl, liveIds, SlotsCov, List.all_nil, List.all_cons, List.any_nil, List.any_cons, List.nil_append, List.cons_append, inRange, apart, nilBlk, idS1, idS2, readAll, readRes, onAll, step, res, AX.val, List.drop_zero, List.drop_succ_cons, List.take_succ_cons, List.take_zero, e1, e2, e3, e4, e5, e6, e7, e8, e9, strmC, famR, famC, inR, boxP, boxD, arrS, arrR, -List.getD_eq_getElem?_getD]
    obtain ⟨hRl, hRs⟩ := hR
    refine SR.seq ?_
    unfold boxP boxD arrS
    simp -dsimp only [aqT, aqU, aqN, aqS, ↓seqK, ↓blkK, ↓loopK, step, stepBin, Nat.add_assoc nid, ↓reduceIte, Option.toList, ← Int.ofNat_tmod, ← Int.ofNat_tdiv, simprocAttr, BEq.rfl, LN_succ, e1, e2, e3, e4, e5, e6, e7, e8, e9, strmC_low]
    refine SR.seq ?_
    simp -dsimp only [aqT, aqU, aqN, aqS, ↓seqK, ↓blkK, ↓loopK, step, stepBin, Nat.add_assoc nid, ↓reduceIte, Option.toList, ← Int.ofNat_tmod, ← Int.ofNat_tdiv, simprocAttr, BEq.rfl, LN_succ, e1, e2, e3, e4, e5, e6, e7, e8, e9, strmC_low]
    refine S2.dec (fun h3 => ?_) (fun h3 => ?_) <;> simp -dsimp only [aqT, aqU, aqN, aqS, ↓seqK, ↓blkK, ↓loopK, step, stepBin, Nat.add_assoc nid, ↓reduceIte, Option.toList, ← Int.ofNat_tmod, ← Int.ofNat_tdiv, simprocAttr, BEq.rfl, LN_succ, e1, e2, e3, e4, e5, e6, e7, e8, e9, strmC_low]
    · have hi : R.length = 0 ∨ R.length = 1 ∨ R.length = 2 ∨ R.length = 3 ∨ R.length = 4 ∨ R.length = 5 ∨ R.length = 6 := by omega
      rw [decide_eq_true h3]
      refine SR.seqW _ (dict_round s nid nl A (p + 1 + m + 1 + 2 * m * R.length) m n G R h (by have : 2 * m * R.length ≤ 2 * 6 * 7 := Nat.mul_le_mul (by omega) (by omega); omega) hA hG1 (by omega) (by omega) hG2 hi _) (fun ⟨L, hL1, hL2⟩ => ?_)
      simp only
      have hll : (R ++ [(faultN R.length, L)]).length = R.length + 1 := by simp
      have hq2 : p + 1 + m + 1 + 2 * m * R.length + 2 * m = p + 1 + m + 1 + 2 * m * (R ++ [(faultN R.length, L)]).length := by
        have e := congrArg (fun x => p + 1 + m + 1 + 2 * m * x) hll
        rw [e, Nat.mul_succ]
        omega
      rw [hq2, ← hll]
      refine SR.run (t := .mk) ?_
      simp -dsimp only [aqT, aqU, aqN, aqS, ↓seqK, ↓blkK, ↓loopK, step, stepBin, Nat.add_assoc nid, ↓reduceIte, Option.toList, ← Int.ofNat_tmod, ← Int.ofNat_tdiv, simprocAttr, BEq.rfl, LN_succ, e1, e2, e3, e4, e5, e6, e7, e8, e9, strmC_low]
      refine ⟨by unfold inI64; omega, R ++ [(faultN R.length, L)], ⟨⟨by rw [hll]; omega, fun y hy => ?_⟩, by rw [hll]; omega⟩, Cov.drop (by omega) ?_⟩
      · rcases List.mem_append.1 hy with hy | hy
        · exact hRs y hy
        · simp only [List.mem_singleton] at hy
          subst hy
          refine ⟨?_, hL1, hL2.mono (by omega)⟩
          exact faultN_mem (by omega)
      · simp only [SlotsIn, aqT, aqU, aqN, ↓seqK, ↓blkK, ↓loopK, step, stepBin, Nat.reduceBEq, Nat.reduceBeqDiff, Nat.add_assoc nid, Nat.reduceAdd, reduceCtorEq, ↓reduceIte, Nat.reduceLeDiff, Nat.reduceBneDiff, Option.toList, ← Int.ofNat_tmod, ← Int.ofNat_tdiv, Nat.reduceLT, hll]
        try simp
    · have hRn : R.length = n := by omega
      refine ⟨⟨(R, p + 1 + m + 1 + 2 * m * R.length), hRn, ?_, hRs⟩, Cov.drop (by omega) ?_⟩
      · have : 2 * m * R.length ≤ 2 * 6 * 7 := Nat.mul_le_mul (by omega) (by omega)
        simp only
        omega
      · simp only [SlotsIn, aqT, aqU, aqN, ↓seqK, ↓blkK, ↓loopK, step, stepBin, Nat.reduceBEq, Nat.reduceBeqDiff, Nat.add_assoc nid, Nat.reduceAdd, reduceCtorEq, ↓reduceIte, Nat.reduceLeDiff, Nat.reduceBneDiff, Option.toList, ← Int.ofNat_tmod, ← Int.ofNat_tdiv, Nat.reduceLT]
        try simp
  simp only at hR1 hq hR2 ⊢
  have hmemB : ∀ y ∈ R, 1 ≤ y.2.length ∧ y.2.length ≤ tests := fun y hy => by have := (hR2 y hy).2.1; omega
  have hB : DictB tests G R := ⟨by omega, hG2.mono (by omega), by omega, fun y hy => by
    obtain ⟨g1, g2, g3⟩ := hR2 y hy
    exact ⟨g1, by omega, g3⟩⟩
  have hq9 : q ≤ p + 100 := hq
  clear hR2 hq hG2
  refine SR.seqW (ι := {x : SpX // DictB tests x.G x.R ∧ x.q ≤ p + 1000}) (fun x => ⟨[(7, .ptr (nid + 8) 0), (6, .ptr (nid + 4) 0)], dictH s nid nl A x.1.q x.1.G x.1.R, nid + 5000, nid⟩) ?_ (fun ⟨x, hx1, hx2⟩ => dict_end s nid p x.q (p + 1000) tests nl A x.G x.R h hx1 hx2)
  have hf0 : ∀ c, R.length = c → famR nid R = famC nid R c := fun c hc => by rw [← hc]; rfl
  have hrl := hB.rl
  have hi : R.length = 0 ∨ R.length = 1 ∨ R.length = 2 ∨ R.length = 3 ∨ R.length = 4 ∨ R.length = 5 ∨ R.length = 6 ∨ R.length = 7 := by omega
  refine SR.seqTo ⟨[(65, .bool (flipV A q 12)), (7, .ptr (nid + 8) 0), (6, .ptr (nid + 4) 0), (3, .ptr nid 0)], dictH s nid nl A (q + 1) G R, nid + 4100, nid⟩ ?_ ?_
  · unfold boxP
    simp -dsimp only [aqT, aqU, aqN, aqS, ↓seqK, ↓blkK, ↓loopK, step, stepBin, Nat.add_assoc nid, ↓reduceIte, Option.toList, ← Int.ofNat_tmod, ← Int.ofNat_tdiv, simprocAttr, BEq.rfl, LN_succ, e1, e2, e3, e4, e5, e6, e7, e8, e9, strmC_low]
    refine CallO.on (flip_c s _ nl A q 12 (by omega) (by omega) hA (by omega)) (subH_get (by simp only [aqT, aqU, aqN, ↓seqK, ↓blkK, ↓loopK, step, stepBin, Nat.reduceBEq, Nat.reduceBeqDiff, Nat.add_assoc nid, Nat.reduceAdd, reduceCtorEq, ↓reduceIte, Nat.reduceLeDiff, Nat.reduceBneDiff, Option.toList, ← Int.ofNat_tmod, ← Int.ofNat_tdiv, Nat.reduceLT, e1, e2, e3, e4, e5, e6, e7, e8, e9, Int.cast_ofNat_Int, Int.reduceBEq, Int.reduceBNe, Int.reduceLT, Int.reduceLE, Int.reduceAdd, Int.reduceSub, Int.reduceMul, Int.reduceToNat, Int.reduceNeg, Int.reduceTMod, Int.reduceEq, not_false_eq_true, Int.reducePow, Int.reduceFDiv, Nat.reducePow, Nat.reduceSub, Nat.reduceMul, Nat.min_eq_left, Nat.reduceEqDiff, BEq.rfl, Int.tdiv_one, LN_succ])) ?_
    simp -dsimp only [aqT, aqU, aqN, aqS, ↓seqK, ↓blkK, ↓loopK, step, stepBin, Nat.add_assoc nid, ↓reduceIte, Option.toList, ← Int.ofNat_tmod, ← Int.ofNat_tdiv, simprocAttr, BEq.rfl, LN_succ, e1, e2, e3, e4, e5, e6, e7, e8, e9, strmC_low]
    refine Cov.go [] [] ?_
    simp only [dictH]
    rcases hi with hi | hi | hi | hi | hi | hi | hi | hi
    all_goals
      rw [hf0 _ hi]
      simp [retPV, over, keys, List.map_nil, List.map_cons, List.contains_cons, List.contains_nil, Bool.or_false, Bool.or_true, Bool.true_or, Bool.false_or, beq_self_eq_true, cond_true, cond_false, HeapCov, orNil, nilSz, onBlk, srcOf, getH_hit, getH_miss, getH.eq_1, getS_hit, getS_miss, getS.eq_1, BlkCov, PVCovs, PVCov, ColsEq, AColsEq, ACEq, ColEq.refl, liveIds, SlotsCov, List.all_nil, List.all_cons, List.any_nil, List.any_cons, List.nil_append, List.cons_append, inRange, apart, nilBlk, idS1, idS2, readAll, readRes, onAll, step, res, AX.val, List.drop_zero, List.drop_succ_cons, List.take_succ_cons, List.take_zero, e1, e2, e3, e4, e5, e6, e7, e8, e9, strmC, famC, inR, boxP, boxD, arrS, arrR, -List.getD_eq_getElem?_getD]
      exact fun j hj => by omega
  refine SR.cond (b := flipV A q 12) (by simp [AX.val, getS]) (fun hf => ?_) (fun hf => ?_)
  · have hsp := spoil_I s nid (q + 1) (p + 1000) tests nl A G R h hB (by omega) hmemB (by omega) (by omega) (by omega) hA
    refine SR.run (t := .mk) ?_
    unfold dictH boxP
    simp -dsimp only [aqT, aqU, aqN, aqS, ↓seqK, ↓blkK, ↓loopK, step, stepBin, Nat.add_assoc nid, ↓reduceIte, Option.toList, ← Int.ofNat_tmod, ← Int.ofNat_tdiv, simprocAttr, BEq.rfl, LN_succ, e1, e2, e3, e4, e5, e6, e7, e8, e9, strmC_low]
    refine CallO.any hsp (fun id b hb => hb) (fun x hx => ?_)
    obtain ⟨hx1, hx2, hx3⟩ := hx
    obtain ⟨xG, xR, xq, xo⟩ := x
    simp only at hx1 hx2 hx3 ⊢
    have hxl := hx1.rl
    have hf2 : ∀ c, xR.length = c → famR nid xR = famC nid xR c := fun c hc => by rw [← hc]; rfl
    cases xo with
    | none =>
      simp only [spU]
      refine ⟨⟨⟨xG, xR, xq, none⟩, hx1, hx2⟩, Cov.go [] [] ?_⟩
      simp only [dictH]
      have hi2 : xR.length = 0 ∨ xR.length = 1 ∨ xR.length = 2 ∨ xR.length = 3 ∨ xR.length = 4 ∨ xR.length = 5 ∨ xR.length = 6 ∨ xR.length = 7 := by omega
      clear hi hx3 hsp
      rcases hi2 with hi | hi | hi | hi | hi | hi | hi | hi
      all_goals
        rw [hf2 _ hi]
        simp [retPV, over, keys, List.map_nil, List.map_cons, List.contains_cons, List.contains_nil, Bool.or_false, Bool.or_true, Bool.true_or, Bool.false_or, beq_self_eq_true, cond_true, cond_false, HeapCov, orNil, nilSz, onBlk, srcOf, getH_hit, getH_miss, getH.eq_1, getS_hit, getS_miss, getS.eq_1, BlkCov, PVCovs, PVCov, ColsEq, AColsEq, ACEq, ColEq.refl, liveIds, SlotsCov, List.all_nil, List.all_cons, List.any_nil, List.any_cons, List.nil_append, List.cons_append, inRange, apart, nilBlk, idS1, idS2, readAll, readRes, onAll, step, res, AX.val, List.drop_zero, List.drop_succ_cons, List.take_succ_cons, List.take_zero, e1, e2, e3, e4, e5, e6, e7, e8, e9, putS, strmC, famC, inR, boxP, boxD, arrS, arrR, -List.getD_eq_getElem?_getD]
        exact fun j hj => by omega
    | some I =>
      obtain ⟨hIR, rfl, hR'⟩ := hx3 I rfl
      simp only [spU]
      have hll : xR.length = R.length := by rw [hR', List.length_set]
      have fO : ∀ j, j ≠ I → rowR xR j = rowR R j := fun j hj => by rw [hR', rowR_set _ hIR, if_neg hj]
      clear hR' hx3 hsp
      refine ⟨⟨⟨xG, xR, xq, none⟩, hx1, hx2⟩, Cov.go [(nid + (100 + I), nid + 4104)] [] ?_⟩
      simp only [dictH]
      have hI6 : I = 0 ∨ I = 1 ∨ I = 2 ∨ I = 3 ∨ I = 4 ∨ I = 5 ∨ I = 6 := by omega
      rcases hi with hi | hi | hi | hi | hi | hi | hi | hi <;> rcases hI6 with rfl | rfl | rfl | rfl | rfl | rfl | rfl
      all_goals try (exfalso; omega)
      all_goals
        rw [hf0 _ hi, hf2 _ (hll.trans hi)]
        simp [retPV, over, keys, List.map_nil, List.map_cons, List.contains_cons, List.contains_nil, Bool.or_false, Bool.or_true, Bool.true_or, Bool.false_or, beq_self_eq_true, cond_true, cond_false, HeapCov, orNil, nilSz, onBlk, srcOf, getH_hit, getH_miss, getH.eq_1, getS_hit, getS_miss, getS.eq_1, BlkCov, PVCovs, PVCov, ColsEq, AColsEq, ACEq, ColEq.refl, liveIds, SlotsCov, List.all_nil, List.all_cons, List.any_nil, List.any_cons, List.nil_append, List.cons_append, inRange, apart, nilBlk, idS1, idS2, readAll, readRes, onAll, step, res, AX.val, List.drop_zero, List.drop_succ_cons, List.take_succ_cons, List.take_zero, e1, e2, e3, e4, e5, e6, e7, e8, e9, putS, strmC, famC, inR, boxP, boxD, arrS, arrR, fO, hll, -List.getD_eq_getElem?_getD]
        first
          | exact fun j hj => by omega
          | exact fun j hj => ⟨by split <;> split <;> first | rfl | omega, by omega⟩
  · refine SR.run (t := .mk) ?_
    simp -dsimp only [aqT, aqU, aqN, aqS, ↓seqK, ↓blkK, ↓loopK, step, stepBin, Nat.add_assoc nid, ↓reduceIte, Option.toList, ← Int.ofNat_tmod, ← Int.ofNat_tdiv, simprocAttr, BEq.rfl, LN_succ, e1, e2, e3, e4, e5, e6, e7, e8, e9, strmC_low]
    refine ⟨⟨⟨G, R, q + 1, none⟩, hB, by simp only; omega⟩, Cov.drop (by omega) ?_⟩
    simp only [SlotsIn, aqT, aqU, aqN, ↓seqK, ↓blkK, ↓loopK, step, stepBin, Nat.reduceBEq, Nat.reduceBeqDiff, Nat.add_assoc nid, Nat.reduceAdd, reduceCtorEq, ↓reduceIte, Nat.reduceLeDiff, Nat.reduceBneDiff, Option.toList, ← Int.ofNat_tmod, ← Int.ofNat_tdiv, Nat.reduceLT]
    try simp
end Go.Proofs.YtpifoghhaohhaaaGreatDoor
namespace Go.Proofs.YtpifoghhaohhaaaGreatDoor
open Go.RowKit
def litI (nl : Bool) (l : List Int) : PV := .lit nl l.length [.i .i64 fun i => l.getD i 0]
theorem out_c (x lo hi : Int) (nid : Nat) : ACall Tryz.prog 155 [.int .i64 x, .int .i64 lo, .int .i64 hi] [] nid (.bool (outB x lo hi)) [] := by
  refine acall_run c155 (by simp [a155]) ?_
  simp -dsimp only [a155, aqT, aqU, aqN, ↓seqK, ↓blkK, ↓loopK, step, stepBin, Nat.reduceBEq, Nat.reduceBeqDiff, Nat.add_assoc nid, Nat.reduceAdd, reduceCtorEq, ↓reduceIte, Nat.reduceLeDiff, Nat.reduceBneDiff, Option.toList, ← Int.ofNat_tmod, ← Int.ofNat_tdiv, Nat.reduceLT]
  refine S2.dec (fun h => ?_) (fun h => ?_) <;> simp -dsimp only [aqT, aqU, aqN, ↓seqK, ↓blkK, ↓loopK, step, stepBin, Nat.reduceBEq, Nat.reduceBeqDiff, Nat.add_assoc nid, Nat.reduceAdd, reduceCtorEq, ↓reduceIte, Nat.reduceLeDiff, Nat.reduceBneDiff, Option.toList, ← Int.ofNat_tmod, ← Int.ofNat_tdiv, Nat.reduceLT] <;> refine RetOK.pure (.inl rfl) rfl ?_ <;> simp [cvT, step, res, outB] <;> omega
theorem in_c (x lo hi : Int) (nid : Nat) : ACall Tryz.prog 98 [.int .i64 x, .int .i64 lo, .int .i64 hi] [] nid (.bool (!outB x lo hi)) [] := by
  refine acall_run c98 (by simp [a98]) ?_
  simp -dsimp only [a98, aqT, aqU, aqN, ↓seqK, ↓blkK, ↓loopK, step, stepBin, Nat.reduceBEq, Nat.reduceBeqDiff, Nat.add_assoc nid, Nat.reduceAdd, reduceCtorEq, ↓reduceIte, Nat.reduceLeDiff, Nat.reduceBneDiff, Option.toList, ← Int.ofNat_tmod, ← Int.ofNat_tdiv, Nat.reduceLT]
  refine S2.dec (fun h => ?_) (fun h => ?_) <;> simp -dsimp only [aqT, aqU, aqN, ↓seqK, ↓blkK, ↓loopK, step, stepBin, Nat.reduceBEq, Nat.reduceBeqDiff, Nat.add_assoc nid, Nat.reduceAdd, reduceCtorEq, ↓reduceIte, Nat.reduceLeDiff, Nat.reduceBneDiff, Option.toList, ← Int.ofNat_tmod, ← Int.ofNat_tdiv, Nat.reduceLT] <;> refine RetOK.pure (.inl rfl) rfl ?_ <;> simp [cvT, step, res, outB] <;> first | omega | (rw [Bool.eq_iff_iff]; simp; omega)
end Go.Proofs.YtpifoghhaohhaaaGreatDoor
namespace Go.Proofs.YtpifoghhaohhaaaGreatDoor
open Go.RowKit Go.Shelf Go.Lib
theorem indexKS_c (s : List UInt8) (c : Int) (nid : Nat) : ACall Tryz.prog 279 [.str s, .int .u8 c] [] nid (.int .i64 (Lib.indexByte s c.toNat.toUInt8)) [] := by
  intro C vs hb hl hr hs
  obtain ⟨v0, v1, rfl⟩ : ∃ a b, vs = [a, b] := by
    rcases vs with _ | ⟨a, _ | ⟨b, _ | ⟨c, r⟩⟩⟩
    · simp at hl
    · simp at hl
    · exact ⟨a, b, rfl⟩
    · simp at hl
  have r0 := (hr 0 _ v0 rfl rfl).str_inv
  have r1 := (hr 1 _ v1 rfl rfl).int_inv
  subst r0; subst r1
  refine .inr ⟨.int .i64 (Lib.indexByte s c.toNat.toUInt8), C.w0, ?_, C.Y0, C.m0, .int, by simpa using hs.next (show nid ≤ nid + 4 by omega), Ev.refl _ _ _⟩
  rw [run_callFunc_extern (P := Tryz.prog) (f := 279) (fn := Tryz.f279) (e := Extern.BytealgIndexByte.indexByte) Tryz.func279 (by kernel_rfl) (by kernel_rfl) (by kernel_rfl) (by kernel_rfl)]
  have h := Lib.run_indexByteString (P := Tryz.prog) ⟨s.toArray⟩ c C.w0
  show ((Extern.BytealgIndexByte.indexByte #[.string ⟨s.toArray⟩, .int .u8 c]).run Tryz.prog C.w0).andThen _ = _
  rw [h]
  rfl
theorem indexK_c (s : List UInt8) (c : Int) (nid : Nat) : ACall Tryz.prog 181 [.str s, .int .u8 c] [] nid (.int .i64 (Lib.indexByte s c.toNat.toUInt8)) [] := by
  have h1 : ∀ nid, ACall Tryz.prog 237 [.str s, .int .u8 c] [] nid (.int .i64 (Lib.indexByte s c.toNat.toUInt8)) [] := fun nid => by
    refine acall_run c237 (by simp [a237]) ?_
    simp -dsimp only [a237, aqT, aqU, aqN, ↓seqK, ↓blkK, ↓loopK, step, stepBin, Nat.reduceBEq, Nat.reduceBeqDiff, Nat.add_assoc nid, Nat.reduceAdd, reduceCtorEq, ↓reduceIte, Nat.reduceLeDiff, Nat.reduceBneDiff, Option.toList, ← Int.ofNat_tmod, ← Int.ofNat_tdiv, Nat.reduceLT]
    refine CallO.pure (indexKS_c s c _) ?_
    simp -dsimp only [aqT, aqU, aqN, ↓seqK, ↓blkK, ↓loopK, step, stepBin, Nat.reduceBEq, Nat.reduceBeqDiff, Nat.add_assoc nid, Nat.reduceAdd, reduceCtorEq, ↓reduceIte, Nat.reduceLeDiff, Nat.reduceBneDiff, Option.toList, ← Int.ofNat_tmod, ← Int.ofNat_tdiv, Nat.reduceLT]
    refine RetOK.pure (.inl rfl) rfl ?_
    simp [cvT, step, res]
  refine acall_run c181 (by simp [a181]) ?_
  simp -dsimp only [a181, aqT, aqU, aqN, ↓seqK, ↓blkK, ↓loopK, step, stepBin, Nat.reduceBEq, Nat.reduceBeqDiff, Nat.add_assoc nid, Nat.reduceAdd, reduceCtorEq, ↓reduceIte, Nat.reduceLeDiff, Nat.reduceBneDiff, Option.toList, ← Int.ofNat_tmod, ← Int.ofNat_tdiv, Nat.reduceLT]
  refine CallO.pure (h1 _) ?_
  simp -dsimp only [aqT, aqU, aqN, ↓seqK, ↓blkK, ↓loopK, step, stepBin, Nat.reduceBEq, Nat.reduceBeqDiff, Nat.add_assoc nid, Nat.reduceAdd, reduceCtorEq, ↓reduceIte, Nat.reduceLeDiff, Nat.reduceBneDiff, Option.toList, ← Int.ofNat_tmod, ← Int.ofNat_tdiv, Nat.reduceLT]
  refine RetOK.pure (.inl rfl) rfl ?_
  simp [cvT, step, res]
theorem any_range {s : List UInt8} {F : UInt8 → Bool} : (List.range s.length).any (fun i => F (s.getD i 0)) = s.any F := by
  rw [Bool.eq_iff_iff, List.any_eq_true, List.any_eq_true]
  constructor
  · rintro ⟨i, hi, h⟩
    have hi' := List.mem_range.1 hi
    refine ⟨s[i], List.getElem_mem _, ?_⟩
    rwa [List.getD_eq_getElem?_getD, List.getElem?_eq_getElem hi'] at h
  · rintro ⟨x, hx, h⟩
    obtain ⟨i, hi, rfl⟩ := List.getElem_of_mem hx
    refine ⟨i, List.mem_range.2 hi, ?_⟩
    rw [List.getD_eq_getElem?_getD, List.getElem?_eq_getElem hi]
    exact h
theorem indexFB (f : Nat) (F : UInt8 → Bool) (hf : ∀ (b : UInt8) nid, ACall Tryz.prog f [.int .u8 ((b.toNat : Nat))] [] nid (.bool (F b)) []) (nl : Bool) (n : Nat) (g : Nat → UInt8) (nid : Nat) (hn : n ≤ 1000000000) :
    ∃ r : Int, (-1 ≤ r ∧ (0 ≤ r ↔ (List.range n).any (fun i => F (g i)) = true)) ∧ ACall Tryz.prog 229 [.lit nl n [.i .u8 fun i => ((g i).toNat : Nat)], .fn f []] [] nid (.int .i64 r) [] := by
  refine acall_ex c229 (by simp [a229]) ?_
  simp -dsimp only [aqT0, ROp0, aqT, aqU, aqN, aqS, ↓seqK, ↓blkK, ↓loopK, step, stepBin, Nat.add_assoc nid, ↓reduceIte, Option.toList, ← Int.ofNat_tmod, ← Int.ofNat_tdiv, simprocAttr, BEq.rfl, LN_succ, a229]
  refine LP0.mkP (fun k : Nat => k ≤ n ∧ ∀ j, j < k → F (g j) = false) (fun k : Nat => ⟨[(8, .int .i64 k), (7, .int .i64 n), (0, .lit nl n [.i .u8 fun i => ((g i).toNat : Nat)]), (1, .fn f [])], [], nid + 100, nid⟩) (fun k => n + 1 - k) 0 ⟨by omega, fun j hj => by omega⟩ (Cov.go [] [] ?_) (fun k hk => ?_)
  · simp [cvT, step, res]
  obtain ⟨hk, hall⟩ := hk
  simp -dsimp only [aqT0, ROp0, aqT, aqU, aqN, aqS, ↓seqK, ↓blkK, ↓loopK, step, stepBin, Nat.add_assoc nid, ↓reduceIte, Option.toList, ← Int.ofNat_tmod, ← Int.ofNat_tdiv, simprocAttr, BEq.rfl, LN_succ]
  refine S2.dec (fun h3 => ?_) (fun h3 => ?_) <;> simp -dsimp only [aqT0, ROp0, aqT, aqU, aqN, aqS, ↓seqK, ↓blkK, ↓loopK, step, stepBin, Nat.add_assoc nid, ↓reduceIte, Option.toList, ← Int.ofNat_tmod, ← Int.ofNat_tdiv, simprocAttr, BEq.rfl, LN_succ]
  · have hkl : k < n := by omega
    refine ⟨by omega, CallX.pure (hf _ _) ?_⟩
    simp -dsimp only [aqT0, ROp0, aqT, aqU, aqN, aqS, ↓seqK, ↓blkK, ↓loopK, step, stepBin, Nat.add_assoc nid, ↓reduceIte, Option.toList, ← Int.ofNat_tmod, ← Int.ofNat_tdiv, simprocAttr, BEq.rfl, LN_succ]
    refine S2.intro (fun h4 => ?_) (fun h4 => ?_) <;> simp -dsimp only [aqT0, ROp0, aqT, aqU, aqN, aqS, ↓seqK, ↓blkK, ↓loopK, step, stepBin, Nat.add_assoc nid, ↓reduceIte, Option.toList, ← Int.ofNat_tmod, ← Int.ofNat_tdiv, simprocAttr, BEq.rfl, LN_succ]
    · refine EndOK.mk (k : Int) ⟨by omega, ⟨fun _ => List.any_eq_true.2 ⟨k, List.mem_range.2 hkl, h4⟩, fun _ => by omega⟩⟩ ?_
      refine RetOK.pure (.inl rfl) rfl ?_
      simp [cvT, step, res]
    · refine ⟨by unfold inI64; omega, k + 1, ⟨⟨by omega, fun j hj => ?_⟩, by omega⟩, Cov.go [] [] ?_⟩
      · rcases (by omega : j < k ∨ j = k) with hj | hj
        · exact hall j hj
        · rw [hj]; exact h4
      · simp [cvT, step, res]
  · have hkn : k = n := by omega
    subst hkn
    refine EndOK.mk (-1 : Int) ⟨by omega, ⟨fun h => by omega, fun h => ?_⟩⟩ ?_
    · obtain ⟨i, hi, h⟩ := List.any_eq_true.1 h
      rw [hall i (List.mem_range.1 hi)] at h
      cases h
    · refine RetOK.pure (.inl rfl) rfl ?_
      simp [cvT, step, res]
theorem containsFB (f : Nat) (F : UInt8 → Bool) (hf : ∀ (b : UInt8) nid, ACall Tryz.prog f [.int .u8 ((b.toNat : Nat))] [] nid (.bool (F b)) []) (nl : Bool) (n : Nat) (g : Nat → UInt8) (nid : Nat) (hn : n ≤ 1000000000) :
    ACall Tryz.prog 178 [.lit nl n [.i .u8 fun i => ((g i).toNat : Nat)], .fn f []] [] nid (.bool ((List.range n).any (fun i => F (g i)))) [] := by
  refine acall_run c178 (by simp [a178]) ?_
  simp -dsimp only [aqT, aqU, aqN, ↓seqK, ↓blkK, ↓loopK, step, stepBin, Nat.reduceBEq, Nat.reduceBeqDiff, Nat.add_assoc nid, Nat.reduceAdd, reduceCtorEq, ↓reduceIte, Nat.reduceLeDiff, Nat.reduceBneDiff, Option.toList, ← Int.ofNat_tmod, ← Int.ofNat_tdiv, Nat.reduceLT, a178]
  refine CallO.onE (Hs := []) (indexFB f F hf nl n g _ hn) (subH_nil _) (fun r hr => ?_)
  simp -dsimp only [aqT, aqU, aqN, aqS, ↓seqK, ↓blkK, ↓loopK, step, stepBin, Nat.add_assoc nid, ↓reduceIte, Option.toList, ← Int.ofNat_tmod, ← Int.ofNat_tdiv, simprocAttr, BEq.rfl, LN_succ]
  have e : decide (0 ≤ r) = (List.range n).any (fun i => F (g i)) := by
    rw [Bool.eq_iff_iff, decide_eq_true_eq]; exact hr.2
  rw [e]
  refine RetOK.pure (.inl rfl) rfl ?_
  simp [cvT, step, res]
def oddC (b : UInt8) : Bool := outB ((b.toNat : Nat) : Int) 33 126
def respB (s : List UInt8) : Bool := !outB s.length 1 100 && !s.any oddC
theorem oddC_c (b : UInt8) (nid : Nat) : ACall Tryz.prog 179 [.int .u8 ((b.toNat : Nat))] [] nid (.bool (oddC b)) [] := by
  refine acall_run c179 (by simp [a179]) ?_
  simp -dsimp only [aqT, aqU, aqN, aqS, ↓seqK, ↓blkK, ↓loopK, step, stepBin, Nat.add_assoc nid, ↓reduceIte, Option.toList, ← Int.ofNat_tmod, ← Int.ofNat_tdiv, simprocAttr, BEq.rfl, LN_succ, a179]
  refine S2.dec (fun h => ?_) (fun h => ?_) <;> simp -dsimp only [aqT, aqU, aqN, aqS, ↓seqK, ↓blkK, ↓loopK, step, stepBin, Nat.add_assoc nid, ↓reduceIte, Option.toList, ← Int.ofNat_tmod, ← Int.ofNat_tdiv, simprocAttr, BEq.rfl, LN_succ] <;> refine RetOK.pure (.inl rfl) rfl ?_ <;> simp [cvT, step, res, oddC, outB] <;> omega
theorem respR_c (s : List UInt8) (nid : Nat) : ACall Tryz.prog 87 [.str s] [] nid (.bool (respB s)) [] := by
  refine acall_run c87 (by simp [a87]) ?_
  simp -dsimp only [aqT, aqU, aqN, ↓seqK, ↓blkK, ↓loopK, step, stepBin, Nat.reduceBEq, Nat.reduceBeqDiff, Nat.add_assoc nid, Nat.reduceAdd, reduceCtorEq, ↓reduceIte, Nat.reduceLeDiff, Nat.reduceBneDiff, Option.toList, ← Int.ofNat_tmod, ← Int.ofNat_tdiv, Nat.reduceLT, a87]
  refine CallO.pure (in_c _ _ _ _) ?_
  simp -dsimp only [aqT, aqU, aqN, ↓seqK, ↓blkK, ↓loopK, step, stepBin, Nat.reduceBEq, Nat.reduceBeqDiff, Nat.add_assoc nid, Nat.reduceAdd, reduceCtorEq, ↓reduceIte, Nat.reduceLeDiff, Nat.reduceBneDiff, Option.toList, ← Int.ofNat_tmod, ← Int.ofNat_tdiv, Nat.reduceLT]
  unfold respB
  cases h : outB s.length 1 100 <;> simp -dsimp only [aqT, aqU, aqN, aqS, ↓seqK, ↓blkK, ↓loopK, step, stepBin, Nat.add_assoc nid, ↓reduceIte, Option.toList, ← Int.ofNat_tmod, ← Int.ofNat_tdiv, simprocAttr, BEq.rfl, LN_succ, Bool.not_false, Bool.not_true]
  · have hl : s.length ≤ 100 := by unfold outB at h; have := of_decide_eq_false h; omega
    refine CallO.pure (containsFB _ oddC oddC_c _ s.length (fun i => s.getD i 0) _ (by omega)) ?_
    rw [any_range]
    simp -dsimp only [aqT, aqU, aqN, aqS, ↓seqK, ↓blkK, ↓loopK, step, stepBin, Nat.add_assoc nid, ↓reduceIte, Option.toList, ← Int.ofNat_tmod, ← Int.ofNat_tdiv, simprocAttr, BEq.rfl, LN_succ]
    refine RetOK.pure (.inl rfl) rfl ?_
    simp [cvT, step, res]
  · refine RetOK.pure (.inl rfl) rfl ?_
    simp [cvT, step, res]
theorem respD_c (s : List UInt8) (nid : Nat) (hs : s.length ≤ 1000000) : ACall Tryz.prog 153 [.str s] [] nid (.bool (respB s)) [] := by
  refine acall_run c153 (by simp [a153]) ?_
  simp -dsimp only [aqT, aqU, aqN, ↓seqK, ↓blkK, ↓loopK, step, stepBin, Nat.reduceBEq, Nat.reduceBeqDiff, Nat.add_assoc nid, Nat.reduceAdd, reduceCtorEq, ↓reduceIte, Nat.reduceLeDiff, Nat.reduceBneDiff, Option.toList, ← Int.ofNat_tmod, ← Int.ofNat_tdiv, Nat.reduceLT, a153]
  refine LP.mkP (fun k : Nat => k ≤ s.length ∧ ∀ j, j < k → oddC (s.getD j 0) = false) (fun k : Nat => ⟨[(6, .int .i64 k), (5, .int .i64 s.length), (0, .str s)], [], nid + 100, nid⟩) (fun k => s.length + 1 - k) 0 ⟨by omega, fun j hj => by omega⟩ (Cov.go [] [] ?_) (fun k hk => ?_)
  · simp [cvT, step, res]
  obtain ⟨hk, hall⟩ := hk
  simp -dsimp only [aqT, aqU, aqN, aqS, ↓seqK, ↓blkK, ↓loopK, step, stepBin, Nat.add_assoc nid, ↓reduceIte, Option.toList, ← Int.ofNat_tmod, ← Int.ofNat_tdiv, simprocAttr, BEq.rfl, LN_succ]
  refine S2.dec (fun h3 => ?_) (fun h3 => ?_) <;> simp -dsimp only [aqT, aqU, aqN, aqS, ↓seqK, ↓blkK, ↓loopK, step, stepBin, Nat.add_assoc nid, ↓reduceIte, Option.toList, ← Int.ofNat_tmod, ← Int.ofNat_tdiv, simprocAttr, BEq.rfl, LN_succ]
  · have hkl : k < s.length := by omega
    have hw : IntKind.i64.wrap (((s.getD k 0).toNat : Nat) : Int) = (((s.getD k 0).toNat : Nat) : Int) := IntWalk.i64_in _ (by have := (s.getD k 0).toNat_lt; omega)
    refine ⟨by omega, CallO.pure (out_c _ _ _ _) ?_⟩
    rw [hw]
    simp -dsimp only [aqT, aqU, aqN, aqS, ↓seqK, ↓blkK, ↓loopK, step, stepBin, Nat.add_assoc nid, ↓reduceIte, Option.toList, ← Int.ofNat_tmod, ← Int.ofNat_tdiv, simprocAttr, BEq.rfl, LN_succ]
    refine S2.intro (fun h4 => ?_) (fun h4 => ?_) <;> simp -dsimp only [aqT, aqU, aqN, aqS, ↓seqK, ↓blkK, ↓loopK, step, stepBin, Nat.add_assoc nid, ↓reduceIte, Option.toList, ← Int.ofNat_tmod, ← Int.ofNat_tdiv, simprocAttr, BEq.rfl, LN_succ]
    · have e : respB s = false := by
        unfold respB
        rw [← any_range, show (List.range s.length).any (fun i => oddC (s.getD i 0)) = true from List.any_eq_true.2 ⟨k, List.mem_range.2 hkl, h4⟩]
        simp
      rw [e]
      refine RetOK.pure (.inl rfl) rfl ?_
      simp [cvT, step, res]
    · refine ⟨by unfold inI64; omega, k + 1, ⟨⟨by omega, fun j hj => ?_⟩, by omega⟩, Cov.go [] [] ?_⟩
      · rcases (by omega : j < k ∨ j = k) with hj | hj
        · exact hall j hj
        · rw [hj]; exact h4
      · simp [cvT, step, res]
  · have e : respB s = !outB s.length 1 100 := by
      unfold respB
      have : (List.range s.length).any (fun i => oddC (s.getD i 0)) = false := by
        rw [List.any_eq_false]
        intro i hi
        rw [hall i (by have := List.mem_range.1 hi; omega)]
        simp
      rw [← any_range, this]
      simp
    refine CallO.pure (out_c _ _ _ _) ?_
    simp -dsimp only [aqT, aqU, aqN, ↓seqK, ↓blkK, ↓loopK, step, stepBin, Nat.reduceBEq, Nat.reduceBeqDiff, Nat.add_assoc nid, Nat.reduceAdd, reduceCtorEq, ↓reduceIte, Nat.reduceLeDiff, Nat.reduceBneDiff, Option.toList, ← Int.ofNat_tmod, ← Int.ofNat_tdiv, Nat.reduceLT]
    rw [e]
    refine RetOK.pure (.inl rfl) rfl ?_
    simp [cvT, step, res]
end Go.Proofs.YtpifoghhaohhaaaGreatDoor
namespace Go.Proofs.YtpifoghhaohhaaaGreatDoor
open Go.RowKit Go.Shelf Go.Lib
theorem trim_none (s cs : List UInt8) : (Lib.trimS s cs == []) = s.all cs.contains := by
  have key : Lib.trimS s cs = [] ↔ s.all cs.contains = true := by
    unfold Lib.trimS Lib.trimLeftS
    rw [dropW_nil]
    unfold Lib.trimRightS
    constructor
    · intro h
      cases hd : s.reverse.dropWhile cs.contains with
      | nil =>
        rw [dropW_nil, List.all_reverse] at hd
        exact hd
      | cons a r =>
        have hne : s.reverse.dropWhile cs.contains ≠ [] := by rw [hd]; simp
        have hh := List.head_dropWhile_not cs.contains hne
        have hm : ((s.reverse.dropWhile cs.contains).head hne) ∈ (s.reverse.dropWhile cs.contains).reverse := List.mem_reverse.2 (List.head_mem _)
        have := List.all_eq_true.1 h _ hm
        rw [this] at hh
        cases hh
    · intro h
      have : s.reverse.dropWhile cs.contains = [] := by rw [dropW_nil, List.all_reverse]; exact h
      rw [this]
      rfl
  rw [Bool.eq_iff_iff, beq_iff_eq]
  exact key
def keyL : List UInt8 := [97, 98, 99, 100, 101, 102, 103, 104, 105, 106, 107, 108, 109, 110, 111, 112, 113, 114, 115, 116, 117, 118, 119, 120, 121, 122, 48, 49, 50, 51, 52, 53, 54, 55, 56, 57, 45, 95]
def lowL : List UInt8 := [97, 98, 99, 100, 101, 102, 103, 104, 105, 106, 107, 108, 109, 110, 111, 112, 113, 114, 115, 116, 117, 118, 119, 120, 121, 122]
def lowI (c : Int) : Bool := decide (97 ≤ c) && decide (c ≤ 122)
def keyI (c : Int) : Bool := lowI c || (decide (48 ≤ c) && decide (c ≤ 57)) || c == 45 || c == 95
def keyC (b : UInt8) : Bool := keyI ((b.toNat : Nat) : Int)
theorem keyC_in (b : UInt8) : keyL.contains b = keyC b := by
  have h : ∀ n : Nat, n < 256 → keyL.contains n.toUInt8 = keyI (n : Int) := by decide +kernel
  have := h b.toNat (UInt8.toNat_lt b)
  rwa [show b.toNat.toUInt8 = b by simp] at this
theorem lowC_in (b : UInt8) : decide (0 ≤ Lib.indexByte lowL b) = lowI ((b.toNat : Nat) : Int) := by
  have h : ∀ n : Nat, n < 256 → decide (0 ≤ Lib.indexByte lowL n.toUInt8) = lowI (n : Int) := by decide +kernel
  have := h b.toNat (UInt8.toNat_lt b)
  rwa [show b.toNat.toUInt8 = b by simp] at this
def keyB (s : List UInt8) : Bool := !outB s.length 1 40 && s.all keyC && lowI (((s.getD 0 0).toNat : Nat) : Int)
theorem keyR_c (s : List UInt8) (nid : Nat) : ACall Tryz.prog 88 [.str s] [] nid (.bool (keyB s)) [] := by
  refine acall_run c88 (by simp [a88]) ?_
  simp -dsimp only [aqT, aqU, aqN, ↓seqK, ↓blkK, ↓loopK, step, stepBin, Nat.reduceBEq, Nat.reduceBeqDiff, Nat.add_assoc nid, Nat.reduceAdd, reduceCtorEq, ↓reduceIte, Nat.reduceLeDiff, Nat.reduceBneDiff, Option.toList, ← Int.ofNat_tmod, ← Int.ofNat_tdiv, Nat.reduceLT, a88]
  refine CallO.pure (in_c _ _ _ _) ?_
  simp -dsimp only [aqT, aqU, aqN, ↓seqK, ↓blkK, ↓loopK, step, stepBin, Nat.reduceBEq, Nat.reduceBeqDiff, Nat.add_assoc nid, Nat.reduceAdd, reduceCtorEq, ↓reduceIte, Nat.reduceLeDiff, Nat.reduceBneDiff, Option.toList, ← Int.ofNat_tmod, ← Int.ofNat_tdiv, Nat.reduceLT]
  have ht : (Lib.trimS s keyL == []) = s.all keyC := by rw [trim_none]; congr 1; funext b; exact keyC_in b
  unfold keyL at ht
  have hi := lowC_in (s.getD 0 0)
  unfold lowL at hi
  unfold keyB
  cases h : outB s.length 1 40 <;> simp -dsimp only [aqT, aqU, aqN, aqS, ↓seqK, ↓blkK, ↓loopK, step, stepBin, Nat.add_assoc nid, ↓reduceIte, Option.toList, ← Int.ofNat_tmod, ← Int.ofNat_tdiv, simprocAttr, BEq.rfl, LN_succ, Bool.not_false, Bool.not_true]
  · have hl : 1 ≤ s.length ∧ s.length ≤ 40 := by unfold outB at h; have := of_decide_eq_false h; omega
    refine CallO.pure (trim_cc s _ _ (by omega) (by decide) (by decide)) ?_
    simp -dsimp only [aqT, aqU, aqN, aqS, ↓seqK, ↓blkK, ↓loopK, step, stepBin, Nat.add_assoc nid, ↓reduceIte, Option.toList, ← Int.ofNat_tmod, ← Int.ofNat_tdiv, simprocAttr, BEq.rfl, LN_succ]
    rw [ht]
    cases h2 : s.all keyC <;> simp -dsimp only [aqT, aqU, aqN, aqS, ↓seqK, ↓blkK, ↓loopK, step, stepBin, Nat.add_assoc nid, ↓reduceIte, Option.toList, ← Int.ofNat_tmod, ← Int.ofNat_tdiv, simprocAttr, BEq.rfl, LN_succ, Bool.not_false, Bool.not_true]
    · refine RetOK.pure (.inl rfl) rfl ?_
      simp [cvT, step, res]
    · refine ⟨by omega, ?_⟩
      refine CallO.pure (indexK_c _ _ _) ?_
      simp -dsimp only [aqT, aqU, aqN, aqS, ↓seqK, ↓blkK, ↓loopK, step, stepBin, Nat.add_assoc nid, ↓reduceIte, Option.toList, ← Int.ofNat_tmod, ← Int.ofNat_tdiv, simprocAttr, BEq.rfl, LN_succ]
      rw [show (s.getD 0 0).toNat.toUInt8 = s.getD 0 0 by simp, hi]
      refine RetOK.pure (.inl rfl) rfl ?_
      simp [cvT, step, res]
  · refine RetOK.pure (.inl rfl) rfl ?_
    simp [cvT, step, res]
theorem keyI_iff {c : Int} : keyI c = true ↔ (97 ≤ c ∧ c ≤ 122) ∨ (48 ≤ c ∧ c ≤ 57) ∨ c = 45 ∨ c = 95 := by
  unfold keyI lowI
  simp only [Bool.or_eq_true, Bool.and_eq_true, decide_eq_true_eq, beq_iff_eq]
  omega
theorem keyI_no {c : Int} (h : ¬ ((97 ≤ c ∧ c ≤ 122) ∨ (48 ≤ c ∧ c ≤ 57) ∨ c = 45 ∨ c = 95)) : keyI c = false := by
  have := mt keyI_iff.1 h
  simpa using this
theorem keyB_bad {s : List UInt8} (h : s.length < 1 ∨ 40 < s.length ∨ (((s.getD 0 0).toNat : Nat) : Int) < 97 ∨ (122 : Int) < ((s.getD 0 0).toNat : Nat)) : keyB s = false := by
  have : ¬ keyB s = true := fun e => by
    unfold keyB outB lowI at e
    simp only [Bool.and_eq_true, Bool.not_eq_true', decide_eq_true_eq, decide_eq_false_iff_not] at e
    omega
  simpa using this
theorem keyB_good {s : List UInt8} (h1 : 1 ≤ s.length) (h2 : s.length ≤ 40) (h3 : (97 : Int) ≤ ((s.getD 0 0).toNat : Nat)) (h4 : (((s.getD 0 0).toNat : Nat) : Int) ≤ 122) : keyB s = s.all keyC := by
  have a : outB s.length 1 40 = false := by unfold outB; exact decide_eq_false (by omega)
  have b : lowI (((s.getD 0 0).toNat : Nat) : Int) = true := by unfold lowI; rw [decide_eq_true h3, decide_eq_true h4]; rfl
  unfold keyB
  rw [a, b, Bool.and_true, Bool.not_false, Bool.true_and]
theorem keyC_all {s : List UInt8} (h : ∀ j, j < s.length → keyC (s.getD j 0) = true) : s.all keyC = true := by
  rw [List.all_eq_true]
  intro x hx
  obtain ⟨j, hj, rfl⟩ := List.getElem_of_mem hx
  have := h j hj
  rwa [List.getD_eq_getElem?_getD, List.getElem?_eq_getElem hj] at this
theorem keyC_not {s : List UInt8} {k : Nat} (hk : k < s.length) (h : keyC (s.getD k 0) = false) : s.all keyC = false := by
  rw [List.all_eq_false]
  refine ⟨s[k], List.getElem_mem _, ?_⟩
  rw [List.getD_eq_getElem?_getD, List.getElem?_eq_getElem hk] at h
  rw [show s[k] = (some s[k]).getD 0 from rfl, h]
  simp
set_option maxHeartbeats 1000000 in
theorem keyD_c (s : List UInt8) (nid : Nat) (hs : s.length ≤ 1000000) : ACall Tryz.prog 154 [.str s] [] nid (.bool (keyB s)) [] := by
  refine acall_sr c154 (by simp [a154]) ?_
  unfold a154
  refine SR.seq ?_
  simp -dsimp only [aqT, aqU, aqN, aqS, ↓seqK, ↓blkK, ↓loopK, step, stepBin, Nat.add_assoc nid, ↓reduceIte, Option.toList, ← Int.ofNat_tmod, ← Int.ofNat_tdiv, simprocAttr, BEq.rfl, LN_succ]
  refine SR.seqW (ι := {_u : Unit // (1 ≤ s.length ∧ s.length ≤ 40) ∧ (97 : Int) ≤ ((s.getD 0 0).toNat : Nat) ∧ (((s.getD 0 0).toNat : Nat) : Int) ≤ 122}) (fun _ => ⟨[(0, .str s)], [], nid + 80, nid⟩) ?_ (fun ⟨_, ⟨h1, h2⟩, h3, h4⟩ => ?_)
  · refine SR.run (t := .mk) ?_
    simp -dsimp only [aqT, aqU, aqN, aqS, ↓seqK, ↓blkK, ↓loopK, step, stepBin, Nat.add_assoc nid, ↓reduceIte, Option.toList, ← Int.ofNat_tmod, ← Int.ofNat_tdiv, simprocAttr, BEq.rfl, LN_succ]
    refine S2.intro (fun h1 => ?_) (fun h1 => ?_) <;> simp -dsimp only [aqT, aqU, aqN, aqS, ↓seqK, ↓blkK, ↓loopK, step, stepBin, Nat.add_assoc nid, ↓reduceIte, Option.toList, ← Int.ofNat_tmod, ← Int.ofNat_tdiv, simprocAttr, BEq.rfl, LN_succ]
    · rw [keyB_bad (.inl (by simp at h1; subst h1; simp))]
      refine RetOK.pure (.inl rfl) rfl ?_
      simp [cvT, step, res]
    have h1 : 1 ≤ s.length := by have : s ≠ [] := by simpa using h1
                                 have := List.length_pos_iff.2 this
                                 omega
    refine S2.dec (fun h2 => ?_) (fun h2 => ?_) <;> simp -dsimp only [aqT, aqU, aqN, aqS, ↓seqK, ↓blkK, ↓loopK, step, stepBin, Nat.add_assoc nid, ↓reduceIte, Option.toList, ← Int.ofNat_tmod, ← Int.ofNat_tdiv, simprocAttr, BEq.rfl, LN_succ]
    · rw [keyB_bad (.inr (.inl (by omega)))]
      refine RetOK.pure (.inl rfl) rfl ?_
      simp [cvT, step, res]
    refine ⟨by omega, ?_⟩
    refine S2.dec (fun h3 => ?_) (fun h3 => ?_) <;> simp -dsimp only [aqT, aqU, aqN, aqS, ↓seqK, ↓blkK, ↓loopK, step, stepBin, Nat.add_assoc nid, ↓reduceIte, Option.toList, ← Int.ofNat_tmod, ← Int.ofNat_tdiv, simprocAttr, BEq.rfl, LN_succ]
    · rw [keyB_bad (.inr (.inr (.inl (by omega))))]
      refine RetOK.pure (.inl rfl) rfl ?_
      simp [cvT, step, res]
    refine ⟨by omega, ?_⟩
    refine S2.dec (fun h4 => ?_) (fun h4 => ?_) <;> simp -dsimp only [aqT, aqU, aqN, aqS, ↓seqK, ↓blkK, ↓loopK, step, stepBin, Nat.add_assoc nid, ↓reduceIte, Option.toList, ← Int.ofNat_tmod, ← Int.ofNat_tdiv, simprocAttr, BEq.rfl, LN_succ]
    · rw [keyB_bad (.inr (.inr (.inr (by omega))))]
      refine RetOK.pure (.inl rfl) rfl ?_
      simp [cvT, step, res]
    refine ⟨⟨(), ⟨h1, by omega⟩, by omega, by omega⟩, Cov.drop (by omega) ?_⟩
    simp only [SlotsIn, aqT, aqU, aqN, ↓seqK, ↓blkK, ↓loopK, step, stepBin, Nat.reduceBEq, Nat.reduceBeqDiff, Nat.add_assoc nid, Nat.reduceAdd, reduceCtorEq, ↓reduceIte, Nat.reduceLeDiff, Nat.reduceBneDiff, Option.toList, ← Int.ofNat_tmod, ← Int.ofNat_tdiv, Nat.reduceLT]
    try simp
  rw [keyB_good h1 h2 h3 h4]
  clear h3 h4
  refine SR.seqW (ι := {_u : Unit // s.all keyC = true}) (fun _ => ⟨[(0, .str s)], [], nid + 400, nid⟩) ?_ (fun ⟨_, h5⟩ => ?_)
  · refine SR.seqTo ⟨[(24, .int .i64 0), (23, .int .i64 s.length), (0, .str s)], [], nid + 100, nid⟩ ?_ ?_
    · simp -dsimp only [aqT, aqU, aqN, aqS, ↓seqK, ↓blkK, ↓loopK, step, stepBin, Nat.add_assoc nid, ↓reduceIte, Option.toList, ← Int.ofNat_tmod, ← Int.ofNat_tdiv, simprocAttr, BEq.rfl, LN_succ]
      refine Cov.drop (by omega) ?_
      simp only [SlotsIn, aqT, aqU, aqN, ↓seqK, ↓blkK, ↓loopK, step, stepBin, Nat.reduceBEq, Nat.reduceBeqDiff, Nat.add_assoc nid, Nat.reduceAdd, reduceCtorEq, ↓reduceIte, Nat.reduceLeDiff, Nat.reduceBneDiff, Option.toList, ← Int.ofNat_tmod, ← Int.ofNat_tdiv, Nat.reduceLT]
      try simp
    refine SR.block ?_
    refine SR.loopP (fun k : Nat => k ≤ s.length ∧ ∀ j, j < k → keyC (s.getD j 0) = true) (fun k : Nat => ⟨[(24, .int .i64 k), (23, .int .i64 s.length), (0, .str s)], [], nid + 100, nid⟩) (fun k => s.length + 1 - k) 0 ⟨by omega, fun j hj => by omega⟩ (Cov.drop (by omega) ?_) (fun k hk => ?_)
    · simp only [SlotsIn, aqT, aqU, aqN, ↓seqK, ↓blkK, ↓loopK, step, stepBin, Nat.reduceBEq, Nat.reduceBeqDiff, Nat.add_assoc nid, Nat.reduceAdd, reduceCtorEq, ↓reduceIte, Nat.reduceLeDiff, Nat.reduceBneDiff, Option.toList, ← Int.ofNat_tmod, ← Int.ofNat_tdiv, Nat.reduceLT]
      try simp
    obtain ⟨hk, hall⟩ := hk
    refine SR.seq ?_
    simp -dsimp only [aqT, aqU, aqN, aqS, ↓seqK, ↓blkK, ↓loopK, step, stepBin, Nat.add_assoc nid, ↓reduceIte, Option.toList, ← Int.ofNat_tmod, ← Int.ofNat_tdiv, simprocAttr, BEq.rfl, LN_succ]
    refine SR.seq ?_
    simp -dsimp only [aqT, aqU, aqN, aqS, ↓seqK, ↓blkK, ↓loopK, step, stepBin, Nat.add_assoc nid, ↓reduceIte, Option.toList, ← Int.ofNat_tmod, ← Int.ofNat_tdiv, simprocAttr, BEq.rfl, LN_succ]
    refine S2.dec (fun h3 => ?_) (fun h3 => ?_) <;> simp -dsimp only [aqT, aqU, aqN, aqS, ↓seqK, ↓blkK, ↓loopK, step, stepBin, Nat.add_assoc nid, ↓reduceIte, Option.toList, ← Int.ofNat_tmod, ← Int.ofNat_tdiv, simprocAttr, BEq.rfl, LN_succ]
    · have hkl : k < s.length := by omega
      have hno := keyC_not hkl
      have hyes : keyC (s.getD k 0) = true → ∀ j, j < k + 1 → keyC (s.getD j 0) = true := fun h j hj => by
        rcases (by omega : j < k ∨ j = k) with hj | hj
        · exact hall j hj
        · rw [hj]; exact h
      have ek : keyC (s.getD k 0) = keyI (((s.getD k 0).toNat : Nat) : Int) := rfl
      rw [ek] at hno hyes
      clear ek hall h3
      refine SR.seqW (ι := {_u : Unit // keyI (((s.getD k 0).toNat : Nat) : Int) = true}) (fun _ => ⟨[(24, .int .i64 k), (23, .int .i64 s.length), (0, .str s)], [], nid + 400, nid⟩) ?_ (fun ⟨_, h6⟩ => ?_)
      · refine SR.block ?_
        refine SR.seq ?_
        simp -dsimp only [aqT, aqU, aqN, aqS, ↓seqK, ↓blkK, ↓loopK, step, stepBin, Nat.add_assoc nid, ↓reduceIte, Option.toList, ← Int.ofNat_tmod, ← Int.ofNat_tdiv, simprocAttr, BEq.rfl, LN_succ]
        refine SR.seqTo ⟨[(4, .int .u8 (((s.getD k 0).toNat : Nat) : Int)), (24, .int .i64 k), (23, .int .i64 s.length), (0, .str s)], [], nid + 200, nid⟩ ?_ ?_
        · simp -dsimp only [aqT, aqU, aqN, aqS, ↓seqK, ↓blkK, ↓loopK, step, stepBin, Nat.add_assoc nid, ↓reduceIte, Option.toList, ← Int.ofNat_tmod, ← Int.ofNat_tdiv, simprocAttr, BEq.rfl, LN_succ]
          refine ⟨by omega, Cov.drop (by omega) ?_⟩
          simp only [SlotsIn, aqT, aqU, aqN, ↓seqK, ↓blkK, ↓loopK, step, stepBin, Nat.reduceBEq, Nat.reduceBeqDiff, Nat.add_assoc nid, Nat.reduceAdd, reduceCtorEq, ↓reduceIte, Nat.reduceLeDiff, Nat.reduceBneDiff, Option.toList, ← Int.ofNat_tmod, ← Int.ofNat_tdiv, Nat.reduceLT]
          try simp
        clear hyes
        generalize (((s.getD k 0).toNat : Nat) : Int) = c at *
        refine SR.seqTo ⟨[(52, .bool (!keyI c)), (24, .int .i64 k), (23, .int .i64 s.length), (0, .str s)], [], nid + 300, nid⟩ ?_ ?_
        · have cls : (97 ≤ c ∧ c ≤ 122) ∨ (48 ≤ c ∧ c ≤ 57) ∨ c = 45 ∨ c = 95 ∨ 122 < c ∨ (57 < c ∧ c < 97 ∧ c ≠ 95) ∨ (c < 48 ∧ c ≠ 45) := by omega
          clear hno
          rcases cls with hc | hc | hc | hc | hc | hc | hc
          · rw [keyI_iff.2 (by omega)]
            simp -dsimp only [aqT, aqU, aqN, aqS, ↓seqK, ↓blkK, ↓loopK, step, stepBin, Nat.add_assoc nid, ↓reduceIte, Option.toList, ← Int.ofNat_tmod, ← Int.ofNat_tdiv, simprocAttr, BEq.rfl, LN_succ, decide_eq_true hc.1, decide_eq_true hc.2]
            exact Cov.drop (by omega) (by simp only [SlotsIn, aqT, aqU, aqN, ↓seqK, ↓blkK, ↓loopK, step, stepBin, Nat.reduceBEq, Nat.reduceBeqDiff, Nat.add_assoc nid, Nat.reduceAdd, reduceCtorEq, ↓reduceIte, Nat.reduceLeDiff, Nat.reduceBneDiff, Option.toList, ← Int.ofNat_tmod, ← Int.ofNat_tdiv, Nat.reduceLT])
          · rw [keyI_iff.2 (by omega)]
            simp -dsimp only [aqT, aqU, aqN, aqS, ↓seqK, ↓blkK, ↓loopK, step, stepBin, Nat.add_assoc nid, ↓reduceIte, Option.toList, ← Int.ofNat_tmod, ← Int.ofNat_tdiv, simprocAttr, BEq.rfl, LN_succ, decide_eq_false (show ¬ (97 : Int) ≤ c by omega), decide_eq_true hc.1, decide_eq_true hc.2]
            exact Cov.drop (by omega) (by simp only [SlotsIn, aqT, aqU, aqN, ↓seqK, ↓blkK, ↓loopK, step, stepBin, Nat.reduceBEq, Nat.reduceBeqDiff, Nat.add_assoc nid, Nat.reduceAdd, reduceCtorEq, ↓reduceIte, Nat.reduceLeDiff, Nat.reduceBneDiff, Option.toList, ← Int.ofNat_tmod, ← Int.ofNat_tdiv, Nat.reduceLT])
          · rw [keyI_iff.2 (by omega)]
            simp -dsimp only [aqT, aqU, aqN, aqS, ↓seqK, ↓blkK, ↓loopK, step, stepBin, Nat.add_assoc nid, ↓reduceIte, Option.toList, ← Int.ofNat_tmod, ← Int.ofNat_tdiv, simprocAttr, BEq.rfl, LN_succ, decide_eq_false (show ¬ (97 : Int) ≤ c by omega), decide_eq_false (show ¬ (48 : Int) ≤ c by omega), show (c == 45) = true by simp [hc]]
            exact Cov.drop (by omega) (by simp only [SlotsIn, aqT, aqU, aqN, ↓seqK, ↓blkK, ↓loopK, step, stepBin, Nat.reduceBEq, Nat.reduceBeqDiff, Nat.add_assoc nid, Nat.reduceAdd, reduceCtorEq, ↓reduceIte, Nat.reduceLeDiff, Nat.reduceBneDiff, Option.toList, ← Int.ofNat_tmod, ← Int.ofNat_tdiv, Nat.reduceLT])
          · rw [keyI_iff.2 (by omega)]
            simp -dsimp only [aqT, aqU, aqN, aqS, ↓seqK, ↓blkK, ↓loopK, step, stepBin, Nat.add_assoc nid, ↓reduceIte, Option.toList, ← Int.ofNat_tmod, ← Int.ofNat_tdiv, simprocAttr, BEq.rfl, LN_succ, decide_eq_false (show ¬ (97 : Int) ≤ c by omega), decide_eq_true (show (48 : Int) ≤ c by omega), decide_eq_false (show ¬ c ≤ (57 : Int) by omega), show (c == 45) = false by simp [hc], show (c == 95) = true by simp [hc]]
            exact Cov.drop (by omega) (by simp only [SlotsIn, aqT, aqU, aqN, ↓seqK, ↓blkK, ↓loopK, step, stepBin, Nat.reduceBEq, Nat.reduceBeqDiff, Nat.add_assoc nid, Nat.reduceAdd, reduceCtorEq, ↓reduceIte, Nat.reduceLeDiff, Nat.reduceBneDiff, Option.toList, ← Int.ofNat_tmod, ← Int.ofNat_tdiv, Nat.reduceLT])
          · rw [keyI_no (by omega)]
            simp -dsimp only [aqT, aqU, aqN, aqS, ↓seqK, ↓blkK, ↓loopK, step, stepBin, Nat.add_assoc nid, ↓reduceIte, Option.toList, ← Int.ofNat_tmod, ← Int.ofNat_tdiv, simprocAttr, BEq.rfl, LN_succ, decide_eq_true (show (97 : Int) ≤ c by omega), decide_eq_false (show ¬ c ≤ (122 : Int) by omega), decide_eq_true (show (48 : Int) ≤ c by omega), decide_eq_false (show ¬ c ≤ (57 : Int) by omega), show (c == 45) = false by simp; omega, show (c == 95) = false by simp; omega]
            exact Cov.drop (by omega) (by simp only [SlotsIn, aqT, aqU, aqN, ↓seqK, ↓blkK, ↓loopK, step, stepBin, Nat.reduceBEq, Nat.reduceBeqDiff, Nat.add_assoc nid, Nat.reduceAdd, reduceCtorEq, ↓reduceIte, Nat.reduceLeDiff, Nat.reduceBneDiff, Option.toList, ← Int.ofNat_tmod, ← Int.ofNat_tdiv, Nat.reduceLT])
          · rw [keyI_no (by omega)]
            simp -dsimp only [aqT, aqU, aqN, aqS, ↓seqK, ↓blkK, ↓loopK, step, stepBin, Nat.add_assoc nid, ↓reduceIte, Option.toList, ← Int.ofNat_tmod, ← Int.ofNat_tdiv, simprocAttr, BEq.rfl, LN_succ, decide_eq_false (show ¬ (97 : Int) ≤ c by omega), decide_eq_true (show (48 : Int) ≤ c by omega), decide_eq_false (show ¬ c ≤ (57 : Int) by omega), show (c == 45) = false by simp; omega, show (c == 95) = false by simp; omega]
            exact Cov.drop (by omega) (by simp only [SlotsIn, aqT, aqU, aqN, ↓seqK, ↓blkK, ↓loopK, step, stepBin, Nat.reduceBEq, Nat.reduceBeqDiff, Nat.add_assoc nid, Nat.reduceAdd, reduceCtorEq, ↓reduceIte, Nat.reduceLeDiff, Nat.reduceBneDiff, Option.toList, ← Int.ofNat_tmod, ← Int.ofNat_tdiv, Nat.reduceLT])
          · rw [keyI_no (by omega)]
            simp -dsimp only [aqT, aqU, aqN, aqS, ↓seqK, ↓blkK, ↓loopK, step, stepBin, Nat.add_assoc nid, ↓reduceIte, Option.toList, ← Int.ofNat_tmod, ← Int.ofNat_tdiv, simprocAttr, BEq.rfl, LN_succ, decide_eq_false (show ¬ (97 : Int) ≤ c by omega), decide_eq_false (show ¬ (48 : Int) ≤ c by omega), show (c == 45) = false by simp; omega, show (c == 95) = false by simp; omega]
            exact Cov.drop (by omega) (by simp only [SlotsIn, aqT, aqU, aqN, ↓seqK, ↓blkK, ↓loopK, step, stepBin, Nat.reduceBEq, Nat.reduceBeqDiff, Nat.add_assoc nid, Nat.reduceAdd, reduceCtorEq, ↓reduceIte, Nat.reduceLeDiff, Nat.reduceBneDiff, Option.toList, ← Int.ofNat_tmod, ← Int.ofNat_tdiv, Nat.reduceLT])
        refine SR.run (t := .mk) ?_
        cases hb : keyI c
        · rw [hno hb]
          simp -dsimp only [aqT, aqU, aqN, aqS, ↓seqK, ↓blkK, ↓loopK, step, stepBin, Nat.add_assoc nid, ↓reduceIte, Option.toList, ← Int.ofNat_tmod, ← Int.ofNat_tdiv, simprocAttr, BEq.rfl, LN_succ]
          refine RetOK.pure (.inl rfl) rfl ?_
          simp [cvT, step, res]
        · simp -dsimp only [aqT, aqU, aqN, aqS, ↓seqK, ↓blkK, ↓loopK, step, stepBin, Nat.add_assoc nid, ↓reduceIte, Option.toList, ← Int.ofNat_tmod, ← Int.ofNat_tdiv, simprocAttr, BEq.rfl, LN_succ]
          refine ⟨⟨(), rfl⟩, Cov.drop (by omega) ?_⟩
          simp only [SlotsIn, aqT, aqU, aqN, ↓seqK, ↓blkK, ↓loopK, step, stepBin, Nat.reduceBEq, Nat.reduceBeqDiff, Nat.add_assoc nid, Nat.reduceAdd, reduceCtorEq, ↓reduceIte, Nat.reduceLeDiff, Nat.reduceBneDiff, Option.toList, ← Int.ofNat_tmod, ← Int.ofNat_tdiv, Nat.reduceLT]
          try simp
      refine SR.run (t := .mk) ?_
      simp -dsimp only [aqT, aqU, aqN, aqS, ↓seqK, ↓blkK, ↓loopK, step, stepBin, Nat.add_assoc nid, ↓reduceIte, Option.toList, ← Int.ofNat_tmod, ← Int.ofNat_tdiv, simprocAttr, BEq.rfl, LN_succ]
      refine ⟨by unfold inI64; omega, k + 1, ⟨⟨by omega, hyes h6⟩, by omega⟩, Cov.go [] [] ?_⟩
      simp [cvT, step, res]
    · refine ⟨⟨(), keyC_all (fun j hj => hall j (by omega))⟩, Cov.drop (by omega) ?_⟩
      simp only [SlotsIn, aqT, aqU, aqN, ↓seqK, ↓blkK, ↓loopK, step, stepBin, Nat.reduceBEq, Nat.reduceBeqDiff, Nat.add_assoc nid, Nat.reduceAdd, reduceCtorEq, ↓reduceIte, Nat.reduceLeDiff, Nat.reduceBneDiff, Option.toList, ← Int.ofNat_tmod, ← Int.ofNat_tdiv, Nat.reduceLT]
      try simp
  · rw [h5]
    refine SR.run (t := .mk) ?_
    simp -dsimp only [aqT, aqU, aqN, aqS, ↓seqK, ↓blkK, ↓loopK, step, stepBin, Nat.add_assoc nid, ↓reduceIte, Option.toList, ← Int.ofNat_tmod, ← Int.ofNat_tdiv, simprocAttr, BEq.rfl, LN_succ]
    refine RetOK.pure (.inl rfl) rfl ?_
    simp [cvT, step, res]
end Go.Proofs.YtpifoghhaohhaaaGreatDoor
namespace Go.Proofs.YtpifoghhaohhaaaGreatDoor
open Go.RowKit Go.Shelf Go.Lib
theorem getD_lt {l : List (List UInt8)} {k : Nat} (hk : k < l.length) : l.getD k [] = l[k] := by rw [List.getD_eq_getElem?_getD, List.getElem?_eq_getElem hk]; rfl
def idxF (F : List UInt8 → Bool) (l : List (List UInt8)) : Int := if l.any F = true then ((l.findIdx F : Nat) : Int) else -1
theorem idxF_at {F : List UInt8 → Bool} {l : List (List UInt8)} {k : Nat} (hk : k < l.length) (h : F (l.getD k []) = true) (h0 : ∀ j, j < k → F (l.getD j []) = false) : idxF F l = (k : Nat) := by
  have e : l.findIdx F = k := (List.findIdx_eq hk).2 ⟨by rw [getD_lt hk] at h; exact h, fun j hj => by have := h0 j hj; rw [getD_lt (by omega)] at this; exact this⟩
  unfold idxF
  rw [if_pos, e]
  refine List.any_eq_true.2 ⟨l[k], List.getElem_mem hk, ?_⟩
  rw [getD_lt hk] at h; exact h
theorem idxF_no {F : List UInt8 → Bool} {l : List (List UInt8)} (h0 : ∀ j, j < l.length → F (l.getD j []) = false) : idxF F l = -1 := by
  unfold idxF
  rw [if_neg]
  intro h
  obtain ⟨x, hx, hf⟩ := List.any_eq_true.1 h
  obtain ⟨j, hj, rfl⟩ := List.getElem_of_mem hx
  have := h0 j hj
  rw [getD_lt hj, hf] at this; cases this
theorem indexM_c (f : Nat) (F : List UInt8 → Bool) (nl : Bool) (l : List (List UInt8)) (nid : Nat) (hl : l.length ≤ 1000000) (hs : ShortRows 1000000 l) (hf : ∀ x m, x.length ≤ 1000000 → ACall Tryz.prog f [.str x] [] m (.bool (F x)) []) :
    ACall Tryz.prog 151 [litS nl l, .fn f []] [] nid (.int .i64 (idxF F l)) [] := by
  refine acall_run c151 (by simp [a151]) ?_
  unfold litS
  simp -dsimp only [aqT, aqU, aqN, aqS, ↓seqK, ↓blkK, ↓loopK, step, stepBin, Nat.add_assoc nid, ↓reduceIte, Option.toList, ← Int.ofNat_tmod, ← Int.ofNat_tdiv, simprocAttr, BEq.rfl, LN_succ, a151]
  refine LP.mkP (fun k : Nat => k ≤ l.length ∧ ∀ j, j < k → F (l.getD j []) = false) (fun k : Nat => ⟨[(8, .int .i64 k), (7, .int .i64 l.length), (0, litS nl l), (1, .fn f [])], [], nid + 100, nid⟩) (fun k => l.length + 1 - k) 0 ⟨by omega, fun j hj => by omega⟩ (Cov.go [] [] ?_) (fun k hk => ?_)
  · simp [cvT, step, res, litS]
  obtain ⟨hk, hb⟩ := hk
  unfold litS
  simp -dsimp only [aqT, aqU, aqN, aqS, ↓seqK, ↓blkK, ↓loopK, step, stepBin, Nat.add_assoc nid, ↓reduceIte, Option.toList, ← Int.ofNat_tmod, ← Int.ofNat_tdiv, simprocAttr, BEq.rfl, LN_succ]
  refine S2.dec (fun h3 => ?_) (fun h3 => ?_) <;> simp -dsimp only [aqT, aqU, aqN, aqS, ↓seqK, ↓blkK, ↓loopK, step, stepBin, Nat.add_assoc nid, ↓reduceIte, Option.toList, ← Int.ofNat_tmod, ← Int.ofNat_tdiv, simprocAttr, BEq.rfl, LN_succ]
  · have hkl : k < l.length := by omega
    have hat := fun h => idxF_at (F := F) hkl h hb
    have hnx : F (l.getD k []) = false → ∀ j, j < k + 1 → F (l.getD j []) = false := fun h j hj => by
      by_cases e : j = k
      · rw [e]; exact h
      · exact hb j (by omega)
    have hx := hs.at k
    generalize l.getD k [] = x at *
    refine ⟨by omega, CallO.pure (hf x _ hx) ?_⟩
    simp -dsimp only [aqT, aqU, aqN, aqS, ↓seqK, ↓blkK, ↓loopK, step, stepBin, Nat.add_assoc nid, ↓reduceIte, Option.toList, ← Int.ofNat_tmod, ← Int.ofNat_tdiv, simprocAttr, BEq.rfl, LN_succ]
    cases hx : F x <;> simp -dsimp only [aqT, aqU, aqN, aqS, ↓seqK, ↓blkK, ↓loopK, step, stepBin, Nat.add_assoc nid, ↓reduceIte, Option.toList, ← Int.ofNat_tmod, ← Int.ofNat_tdiv, simprocAttr, BEq.rfl, LN_succ]
    · refine ⟨by unfold inI64; omega, k + 1, ⟨⟨by omega, hnx hx⟩, by omega⟩, Cov.go [] [] ?_⟩
      simp [cvT, step, res, litS]
    · rw [hat hx]
      refine RetOK.pure (.inl rfl) rfl ?_
      simp [cvT, step, res]
  · have hkn : k = l.length := by omega
    subst hkn
    rw [idxF_no hb]
    refine RetOK.pure (.inl rfl) rfl ?_
    simp [cvT, step, res]
theorem containsM_c (f : Nat) (F : List UInt8 → Bool) (nl : Bool) (l : List (List UInt8)) (nid : Nat) (hl : l.length ≤ 1000000) (hs : ShortRows 1000000 l) (hf : ∀ x m, x.length ≤ 1000000 → ACall Tryz.prog f [.str x] [] m (.bool (F x)) []) :
    ACall Tryz.prog 61 [litS nl l, .fn f []] [] nid (.bool (l.any F)) [] := by
  have e : decide (0 ≤ idxF F l) = l.any F := by
    unfold idxF
    cases h : l.any F <;> simp
  refine acall_run c61 (by simp [a61]) ?_
  simp -dsimp only [aqT, aqU, aqN, aqS, ↓seqK, ↓blkK, ↓loopK, step, stepBin, Nat.add_assoc nid, ↓reduceIte, Option.toList, ← Int.ofNat_tmod, ← Int.ofNat_tdiv, simprocAttr, BEq.rfl, LN_succ, a61]
  refine CallO.pure (indexM_c f F nl l _ hl hs hf) ?_
  simp -dsimp only [aqT, aqU, aqN, aqS, ↓seqK, ↓blkK, ↓loopK, step, stepBin, Nat.add_assoc nid, ↓reduceIte, Option.toList, ← Int.ofNat_tmod, ← Int.ofNat_tdiv, simprocAttr, BEq.rfl, LN_succ]
  rw [e]
  refine RetOK.pure (.inl rfl) rfl ?_
  simp [cvT, step, res]
def oddS (s : List UInt8) : Bool := !respB s
theorem oddR_c (s : List UInt8) (nid : Nat) (hs : s.length ≤ 1000000) : ACall Tryz.prog 86 [.str s] [] nid (.bool (oddS s)) [] := by
  refine acall_run c86 (by simp [a86]) ?_
  simp -dsimp only [aqT, aqU, aqN, aqS, ↓seqK, ↓blkK, ↓loopK, step, stepBin, Nat.add_assoc nid, ↓reduceIte, Option.toList, ← Int.ofNat_tmod, ← Int.ofNat_tdiv, simprocAttr, BEq.rfl, LN_succ, a86]
  refine CallO.pure (respR_c _ _) ?_
  simp -dsimp only [aqT, aqU, aqN, ↓seqK, ↓blkK, ↓loopK, step, stepBin, Nat.reduceBEq, Nat.reduceBeqDiff, Nat.add_assoc nid, Nat.reduceAdd, reduceCtorEq, ↓reduceIte, Nat.reduceLeDiff, Nat.reduceBneDiff, Option.toList, ← Int.ofNat_tmod, ← Int.ofNat_tdiv, Nat.reduceLT]
  refine RetOK.pure (.inl rfl) rfl ?_
  simp [cvT, step, res, oddS]
theorem oddD_c (s : List UInt8) (nid : Nat) (hs : s.length ≤ 1000000) : ACall Tryz.prog 152 [.str s] [] nid (.bool (oddS s)) [] := by
  refine acall_run c152 (by simp [a152]) ?_
  simp -dsimp only [aqT, aqU, aqN, aqS, ↓seqK, ↓blkK, ↓loopK, step, stepBin, Nat.add_assoc nid, ↓reduceIte, Option.toList, ← Int.ofNat_tmod, ← Int.ofNat_tdiv, simprocAttr, BEq.rfl, LN_succ, a152]
  refine CallO.pure (respD_c _ _ hs) ?_
  simp -dsimp only [aqT, aqU, aqN, ↓seqK, ↓blkK, ↓loopK, step, stepBin, Nat.reduceBEq, Nat.reduceBeqDiff, Nat.add_assoc nid, Nat.reduceAdd, reduceCtorEq, ↓reduceIte, Nat.reduceLeDiff, Nat.reduceBneDiff, Option.toList, ← Int.ofNat_tmod, ← Int.ofNat_tdiv, Nat.reduceLT]
  refine RetOK.pure (.inl rfl) rfl ?_
  simp [cvT, step, res, oddS]
def rowBad (n : Nat) (R : RowL) (k : Nat) : Int :=
  if keyB (rowF R k) = false then 5 else if (rowR R k).length ≠ n then 3 else if (rowR R k).any oddS = true then 9 else if 0 < k ∧ (Op.bytesLess (rowF R k) (rowF R (k - 1)) || rowF R k == rowF R (k - 1)) = true then 7 else 0
def dictV (G : List (List UInt8)) (R : RowL) : Int :=
  if G.length = 0 then 8 else if 100 < G.length ∨ 300 < R.length then 2 else if G.any oddS = true then 9 else firstBad (rowBad G.length R) (List.range R.length)
structure DictW (G : List (List UInt8)) (R : RowL) : Prop where
  gl : G.length ≤ 1000000
  gs : ShortRows 1000000 G
  rl : R.length ≤ 1000000
  rs : ∀ k, (rowF R k).length ≤ 1000000 ∧ (rowR R k).length ≤ 1000000 ∧ ShortRows 1000000 (rowR R k)
theorem firstR_hit {f : Nat → Int} {n k : Nat} (hk : k < n) (h0 : ∀ j, j < k → f j = 0) (h : f k ≠ 0) : firstBad f (List.range n) = f k := by
  have e : List.range n = List.range k ++ (List.range' k (n - k)) := by
    rw [List.range_eq_range', List.range_eq_range', show List.range' 0 n = List.range' 0 (k + (n - k)) by congr 1; omega, ← List.range'_append_1]
    simp
  rw [e, firstBad_append]
  · rw [show n - k = (n - k - 1) + 1 by omega, List.range'_succ]
    simp [firstBad, h]
  · have : ∀ l : List Nat, (∀ j ∈ l, f j = 0) → firstBad f l = 0 := fun l => by
      induction l with
      | nil => intro _; rfl
      | cons a l ih => intro hl; simp only [firstBad]; rw [if_pos (hl a (by simp))]; exact ih (fun j hj => hl j (by simp [hj]))
    exact this _ (fun j hj => h0 j (List.mem_range.1 hj))
theorem firstR_none {f : Nat → Int} {n : Nat} (h0 : ∀ j, j < n → f j = 0) : firstBad f (List.range n) = 0 := by
  have : ∀ l : List Nat, (∀ j ∈ l, f j = 0) → firstBad f l = 0 := fun l => by
    induction l with
    | nil => intro _; rfl
    | cons a l ih => intro hl; simp only [firstBad]; rw [if_pos (hl a (by simp))]; exact ih (fun j hj => hl j (by simp [hj]))
  exact this _ (fun j hj => h0 j (List.mem_range.1 hj))
theorem dictV_row {G : List (List UInt8)} {R : RowL} {k : Nat} {e : Int} (h1 : G.length ≠ 0) (h2 : ¬ (100 < G.length ∨ 300 < R.length)) (h3 : G.any oddS = false) (hk : k < R.length) (h0 : ∀ j, j < k → rowBad G.length R j = 0) (h : rowBad G.length R k = e) (he : e ≠ 0) : dictV G R = e := by
  unfold dictV
  rw [if_neg h1, if_neg h2, if_neg (by simp [h3]), firstR_hit hk h0 (by rw [h]; exact he), h]
theorem dictV_good {G : List (List UInt8)} {R : RowL} (h1 : G.length ≠ 0) (h2 : ¬ (100 < G.length ∨ 300 < R.length)) (h3 : G.any oddS = false) (h0 : ∀ j, j < R.length → rowBad G.length R j = 0) : dictV G R = 0 := by
  unfold dictV
  rw [if_neg h1, if_neg h2, if_neg (by simp [h3]), firstR_none h0]
end Go.Proofs.YtpifoghhaohhaaaGreatDoor
namespace Go.Proofs.YtpifoghhaohhaaaGreatDoor
open Go.RowKit Go.Shelf Go.Lib
def boxP2 (g0 r0 : Bool) (b : Nat → Bool) (G : List (List UInt8)) (R : RowL) : Option ABlk := some (.box 29 [.lit g0 G.length [.s fun k => G.getD k []], .lit r0 R.length [.s fun k => rowF R k, .l b (fun k => (rowR R k).length) (fun k => [.s fun j => (rowR R k).getD j []])]])
set_option maxHeartbeats 1000000 in
theorem dictR_c (g0 r0 : Bool) (b : Nat → Bool) (G : List (List UInt8)) (R : RowL) (nid : Nat) (hB : DictW G R) : ACall Tryz.prog 17 [dictP g0 r0 b G R] [] nid (.int .i64 (dictV G R)) [] := by
  have hgl := hB.gl
  have hrl := hB.rl
  refine acall_sr c17 (by simp [a17]) ?_
  unfold a17
  refine SR.seq ?_
  unfold dictP
  simp -dsimp only [aqT, aqU, aqN, aqS, ↓seqK, ↓blkK, ↓loopK, step, stepBin, Nat.add_assoc nid, ↓reduceIte, Option.toList, ← Int.ofNat_tmod, ← Int.ofNat_tdiv, simprocAttr, BEq.rfl, LN_succ]
  refine SR.seq ?_
  simp -dsimp only [aqT, aqU, aqN, aqS, ↓seqK, ↓blkK, ↓loopK, step, stepBin, Nat.add_assoc nid, ↓reduceIte, Option.toList, ← Int.ofNat_tmod, ← Int.ofNat_tdiv, simprocAttr, BEq.rfl, LN_succ]
  refine SR.seqW (ι := {_u : Unit // (G.length ≠ 0 ∧ ¬ (100 < G.length ∨ 300 < R.length)) ∧ G.any oddS = false}) (fun _ => ⟨[(3, .fn 86 []), (1, .ptr nid 0)], [(nid, boxP2 g0 r0 b G R)], nid + 100, nid⟩) ?_ (fun ⟨_, ⟨h1, h2⟩, h3⟩ => ?_)
  · refine SR.run (t := .mk) ?_
    simp -dsimp only [aqT, aqU, aqN, aqS, ↓seqK, ↓blkK, ↓loopK, step, stepBin, Nat.add_assoc nid, ↓reduceIte, Option.toList, ← Int.ofNat_tmod, ← Int.ofNat_tdiv, simprocAttr, BEq.rfl, LN_succ]
    refine S2.intro (fun h1 => ?_) (fun h1 => ?_) <;> simp -dsimp only [aqT, aqU, aqN, aqS, ↓seqK, ↓blkK, ↓loopK, step, stepBin, Nat.add_assoc nid, ↓reduceIte, Option.toList, ← Int.ofNat_tmod, ← Int.ofNat_tdiv, simprocAttr, BEq.rfl, LN_succ]
    · have e : dictV G R = 8 := by unfold dictV; rw [if_pos (by simp at h1; exact congrArg List.length h1)]
      rw [e]
      refine RetOK.pure (.inl rfl) rfl ?_
      simp [cvT, step, res]
    have h1' : G.length ≠ 0 := by simp at h1; exact fun e => h1 (List.eq_nil_of_length_eq_zero e)
    refine S2.dec (fun h2 => ?_) (fun h2 => ?_) <;> simp -dsimp only [aqT, aqU, aqN, aqS, ↓seqK, ↓blkK, ↓loopK, step, stepBin, Nat.add_assoc nid, ↓reduceIte, Option.toList, ← Int.ofNat_tmod, ← Int.ofNat_tdiv, simprocAttr, BEq.rfl, LN_succ]
    · have e : dictV G R = 2 := by unfold dictV; rw [if_neg h1', if_pos (.inl (by omega))]
      rw [e]
      refine RetOK.pure (.inl rfl) rfl ?_
      simp [cvT, step, res]
    refine S2.dec (fun h4 => ?_) (fun h4 => ?_) <;> simp -dsimp only [aqT, aqU, aqN, aqS, ↓seqK, ↓blkK, ↓loopK, step, stepBin, Nat.add_assoc nid, ↓reduceIte, Option.toList, ← Int.ofNat_tmod, ← Int.ofNat_tdiv, simprocAttr, BEq.rfl, LN_succ]
    · have e : dictV G R = 2 := by unfold dictV; rw [if_neg h1', if_pos (.inr (by omega))]
      rw [e]
      refine RetOK.pure (.inl rfl) rfl ?_
      simp [cvT, step, res]
    have h2' : ¬ (100 < G.length ∨ 300 < R.length) := by omega
    refine CallO.pure (containsM_c 86 oddS g0 G _ hB.gl hB.gs (fun x m hx => oddR_c x m hx)) ?_
    simp -dsimp only [aqT, aqU, aqN, aqS, ↓seqK, ↓blkK, ↓loopK, step, stepBin, Nat.add_assoc nid, ↓reduceIte, Option.toList, ← Int.ofNat_tmod, ← Int.ofNat_tdiv, simprocAttr, BEq.rfl, LN_succ]
    refine S2.intro (fun h5 => ?_) (fun h5 => ?_) <;> simp -dsimp only [aqT, aqU, aqN, aqS, ↓seqK, ↓blkK, ↓loopK, step, stepBin, Nat.add_assoc nid, ↓reduceIte, Option.toList, ← Int.ofNat_tmod, ← Int.ofNat_tdiv, simprocAttr, BEq.rfl, LN_succ]
    · have e : dictV G R = 9 := by unfold dictV; rw [if_neg h1', if_neg h2', if_pos h5]
      rw [e]
      refine RetOK.pure (.inl rfl) rfl ?_
      simp [cvT, step, res]
    refine ⟨⟨(), ⟨h1', h2'⟩, h5⟩, Cov.go [] [] ?_⟩
    simp [cvT, step, res, boxP2]
  refine SR.seqW (ι := {_u : Unit // ∀ j, j < R.length → rowBad G.length R j = 0}) (fun _ => ⟨[], [], nid + 2000, nid⟩) ?_ (fun ⟨_, h5⟩ => ?_)
  · unfold boxP2
    refine SR.seqTo ⟨[(30, .int .i64 0), (29, .int .i64 R.length), (28, .lit r0 R.length [.s fun k => rowF R k, .l b (fun k => (rowR R k).length) (fun k => [.s fun j => (rowR R k).getD j []])]), (3, .fn 86 []), (1, .ptr nid 0)], [(nid, boxP2 g0 r0 b G R)], nid + 200, nid⟩ ?_ ?_
    · simp -dsimp only [aqT, aqU, aqN, aqS, ↓seqK, ↓blkK, ↓loopK, step, stepBin, Nat.add_assoc nid, ↓reduceIte, Option.toList, ← Int.ofNat_tmod, ← Int.ofNat_tdiv, simprocAttr, BEq.rfl, LN_succ]
      refine Cov.go [] [] ?_
      simp [cvT, step, res, boxP2, -List.getD_eq_getElem?_getD]
    refine SR.block ?_
    refine SR.loopP (fun k : Nat => k ≤ R.length ∧ ∀ j, j < k → rowBad G.length R j = 0) (fun k : Nat => ⟨[(30, .int .i64 k), (29, .int .i64 R.length), (28, .lit r0 R.length [.s fun k => rowF R k, .l b (fun k => (rowR R k).length) (fun k => [.s fun j => (rowR R k).getD j []])]), (3, .fn 86 []), (1, .ptr nid 0)], [(nid, boxP2 g0 r0 b G R)], nid + 200, nid⟩) (fun k => R.length + 1 - k) 0 ⟨by omega, fun j hj => by omega⟩ (Cov.drop (by omega) ?_) (fun k hk => ?_)
    · simp only [SlotsIn, aqT, aqU, aqN, ↓seqK, ↓blkK, ↓loopK, step, stepBin, Nat.reduceBEq, Nat.reduceBeqDiff, Nat.add_assoc nid, Nat.reduceAdd, reduceCtorEq, ↓reduceIte, Nat.reduceLeDiff, Nat.reduceBneDiff, Option.toList, ← Int.ofNat_tmod, ← Int.ofNat_tdiv, Nat.reduceLT]
      try simp
    obtain ⟨hk, hall⟩ := hk
    refine SR.seq ?_
    simp -dsimp only [aqT, aqU, aqN, aqS, ↓seqK, ↓blkK, ↓loopK, step, stepBin, Nat.add_assoc nid, ↓reduceIte, Option.toList, ← Int.ofNat_tmod, ← Int.ofNat_tdiv, simprocAttr, BEq.rfl, LN_succ]
    refine SR.seq ?_
    simp -dsimp only [aqT, aqU, aqN, aqS, ↓seqK, ↓blkK, ↓loopK, step, stepBin, Nat.add_assoc nid, ↓reduceIte, Option.toList, ← Int.ofNat_tmod, ← Int.ofNat_tdiv, simprocAttr, BEq.rfl, LN_succ]
    refine S2.dec (fun h4 => ?_) (fun h4 => ?_) <;> simp -dsimp only [aqT, aqU, aqN, aqS, ↓seqK, ↓blkK, ↓loopK, step, stepBin, Nat.add_assoc nid, ↓reduceIte, Option.toList, ← Int.ofNat_tmod, ← Int.ofNat_tdiv, simprocAttr, BEq.rfl, LN_succ]
    · have hkl : k < R.length := by omega
      have hbad := fun e => dictV_row (e := e) h1 h2 h3 hkl hall
      obtain ⟨hf1, hr1, hs1⟩ := hB.rs k
      refine SR.seqW (ι := {_u : Unit // rowBad G.length R k = 0}) (fun _ => ⟨[(30, .int .i64 k), (29, .int .i64 R.length), (28, .lit r0 R.length [.s fun k => rowF R k, .l b (fun k => (rowR R k).length) (fun k => [.s fun j => (rowR R k).getD j []])]), (3, .fn 86 []), (1, .ptr nid 0)], [(nid, boxP2 g0 r0 b G R)], nid + 900, nid⟩) ?_ (fun ⟨_, h6⟩ => ?_)
      · refine SR.block ?_
        refine SR.seqTo ⟨[(5, .ptr (nid + 300) 0), (4, .int .i64 k), (30, .int .i64 k), (29, .int .i64 R.length), (28, .lit r0 R.length [.s fun k => rowF R k, .l b (fun k => (rowR R k).length) (fun k => [.s fun j => (rowR R k).getD j []])]), (3, .fn 86 []), (1, .ptr nid 0)], [(nid + 300, some (.box 67 [.str (rowF R k), .lit (b k) (rowR R k).length [.s fun j => (rowR R k).getD j []]])), (nid, boxP2 g0 r0 b G R)], nid + 400, nid⟩ ?_ ?_
        · simp -dsimp only [aqT, aqU, aqN, aqS, ↓seqK, ↓blkK, ↓loopK, step, stepBin, Nat.add_assoc nid, ↓reduceIte, Option.toList, ← Int.ofNat_tmod, ← Int.ofNat_tdiv, simprocAttr, BEq.rfl, LN_succ]
          refine ⟨by omega, Cov.go [(nid + 300, nid + 216)] [] ?_⟩
          simp [cvT, step, res, boxP2, -List.getD_eq_getElem?_getD]
        refine SR.block ?_
        refine SR.seq ?_
        simp -dsimp only [aqT, aqU, aqN, aqS, ↓seqK, ↓blkK, ↓loopK, step, stepBin, Nat.add_assoc nid, ↓reduceIte, Option.toList, ← Int.ofNat_tmod, ← Int.ofNat_tdiv, simprocAttr, BEq.rfl, LN_succ]
        refine CallO.pure (keyR_c _ _) ?_
        simp -dsimp only [aqT, aqU, aqN, aqS, ↓seqK, ↓blkK, ↓loopK, step, stepBin, Nat.add_assoc nid, ↓reduceIte, Option.toList, ← Int.ofNat_tmod, ← Int.ofNat_tdiv, simprocAttr, BEq.rfl, LN_succ]
        refine SR.cond (b := !keyB (rowF R k)) (by simp [AX.val, getS]) (fun h => ?_) (fun h => ?_)
        · have hk : keyB (rowF R k) = false := by simpa using h
          rw [hbad 5 (by unfold rowBad; rw [if_pos hk]) (by decide)]
          refine SR.run (t := .mk) ?_
          simp -dsimp only [aqT, aqU, aqN, aqS, ↓seqK, ↓blkK, ↓loopK, step, stepBin, Nat.add_assoc nid, ↓reduceIte, Option.toList, ← Int.ofNat_tmod, ← Int.ofNat_tdiv, simprocAttr, BEq.rfl, LN_succ]
          refine RetOK.pure (.inl rfl) rfl ?_
          simp [cvT, step, res]
        have hk1 : ¬ keyB (rowF R k) = false := by simpa using h
        unfold boxP2
        refine SR.seq ?_
        simp -dsimp only [aqT, aqU, aqN, aqS, ↓seqK, ↓blkK, ↓loopK, step, stepBin, Nat.add_assoc nid, ↓reduceIte, Option.toList, ← Int.ofNat_tmod, ← Int.ofNat_tdiv, simprocAttr, BEq.rfl, LN_succ]
        refine SR.cond (b := (((rowR R k).length : Nat) : Int) != (G.length : Nat)) (by simp [AX.val, getS]) (fun h => ?_) (fun h => ?_)
        · have hk : (rowR R k).length ≠ G.length := fun e => by rw [e] at h; simp at h
          rw [hbad 3 (by unfold rowBad; rw [if_neg hk1, if_pos hk]) (by decide)]
          refine SR.run (t := .mk) ?_
          simp -dsimp only [aqT, aqU, aqN, aqS, ↓seqK, ↓blkK, ↓loopK, step, stepBin, Nat.add_assoc nid, ↓reduceIte, Option.toList, ← Int.ofNat_tmod, ← Int.ofNat_tdiv, simprocAttr, BEq.rfl, LN_succ]
          refine RetOK.pure (.inl rfl) rfl ?_
          simp [cvT, step, res]
        have hk2 : ¬ (rowR R k).length ≠ G.length := by
          have : (((rowR R k).length : Nat) : Int) = (G.length : Nat) := by simpa only [bne_eq_false_iff_eq] using h
          omega
        refine SR.seq ?_
        simp -dsimp only [aqT, aqU, aqN, aqS, ↓seqK, ↓blkK, ↓loopK, step, stepBin, Nat.add_assoc nid, ↓reduceIte, Option.toList, ← Int.ofNat_tmod, ← Int.ofNat_tdiv, simprocAttr, BEq.rfl, LN_succ]
        refine CallO.pure (containsM_c 86 oddS (b k) (rowR R k) _ hr1 hs1 (fun x m hx => oddR_c x m hx)) ?_
        simp -dsimp only [aqT, aqU, aqN, aqS, ↓seqK, ↓blkK, ↓loopK, step, stepBin, Nat.add_assoc nid, ↓reduceIte, Option.toList, ← Int.ofNat_tmod, ← Int.ofNat_tdiv, simprocAttr, BEq.rfl, LN_succ]
        refine SR.cond (b := (rowR R k).any oddS) (by simp [AX.val, getS]) (fun h => ?_) (fun h => ?_)
        · rw [hbad 9 (by unfold rowBad; rw [if_neg hk1, if_neg hk2, if_pos h]) (by decide)]
          refine SR.run (t := .mk) ?_
          simp -dsimp only [aqT, aqU, aqN, aqS, ↓seqK, ↓blkK, ↓loopK, step, stepBin, Nat.add_assoc nid, ↓reduceIte, Option.toList, ← Int.ofNat_tmod, ← Int.ofNat_tdiv, simprocAttr, BEq.rfl, LN_succ]
          refine RetOK.pure (.inl rfl) rfl ?_
          simp [cvT, step, res]
        have hk3 : ¬ (rowR R k).any oddS = true := by simp [h]
        refine SR.seqTo ⟨[(53, .bool (decide ((0 : Int) < k) && (Op.bytesLess (rowF R k) (rowF R (k - 1)) || rowF R k == rowF R (k - 1)))), (30, .int .i64 k), (29, .int .i64 R.length), (28, .lit r0 R.length [.s fun k => rowF R k, .l b (fun k => (rowR R k).length) (fun k => [.s fun j => (rowR R k).getD j []])]), (3, .fn 86 []), (1, .ptr nid 0)], [(nid, boxP2 g0 r0 b G R)], nid + 700, nid⟩ ?_ ?_
        · simp -dsimp only [aqT, aqU, aqN, aqS, ↓seqK, ↓blkK, ↓loopK, step, stepBin, Nat.add_assoc nid, ↓reduceIte, Option.toList, ← Int.ofNat_tmod, ← Int.ofNat_tdiv, simprocAttr, BEq.rfl, LN_succ]
          refine S2.dec (fun h0 => ?_) (fun h0 => ?_) <;> simp -dsimp only [aqT, aqU, aqN, aqS, ↓seqK, ↓blkK, ↓loopK, step, stepBin, Nat.add_assoc nid, ↓reduceIte, Option.toList, ← Int.ofNat_tmod, ← Int.ofNat_tdiv, simprocAttr, BEq.rfl, LN_succ]
          · have e : ((k : Int) - 1).toNat = k - 1 := by omega
            rw [e]
            refine ⟨by unfold inI64; omega, by omega, Cov.go [] [] ?_⟩
            simp [cvT, step, res, boxP2, decide_eq_true h0, -List.getD_eq_getElem?_getD]
            try omega
          · refine Cov.go [] [] ?_
            simp [cvT, step, res, boxP2, decide_eq_false h0, -List.getD_eq_getElem?_getD]
            try omega
        refine SR.cond (b := decide ((0 : Int) < k) && (Op.bytesLess (rowF R k) (rowF R (k - 1)) || rowF R k == rowF R (k - 1))) (by simp [AX.val, getS]) (fun h => ?_) (fun h => ?_)
        · simp only [Bool.and_eq_true, decide_eq_true_eq] at h
          rw [hbad 7 (by unfold rowBad; rw [if_neg hk1, if_neg hk2, if_neg hk3, if_pos ⟨by omega, h.2⟩]) (by decide)]
          refine SR.run (t := .mk) ?_
          simp -dsimp only [aqT, aqU, aqN, aqS, ↓seqK, ↓blkK, ↓loopK, step, stepBin, Nat.add_assoc nid, ↓reduceIte, Option.toList, ← Int.ofNat_tmod, ← Int.ofNat_tdiv, simprocAttr, BEq.rfl, LN_succ]
          refine RetOK.pure (.inl rfl) rfl ?_
          simp [cvT, step, res]
        have hk4 : ¬ (0 < k ∧ (Op.bytesLess (rowF R k) (rowF R (k - 1)) || rowF R k == rowF R (k - 1)) = true) := fun ⟨e1, e2⟩ => by
          rw [e2, decide_eq_true (by omega)] at h
          simp at h
        refine SR.run (t := .mk) ?_
        simp -dsimp only [aqT, aqU, aqN, aqS, ↓seqK, ↓blkK, ↓loopK, step, stepBin, Nat.add_assoc nid, ↓reduceIte, Option.toList, ← Int.ofNat_tmod, ← Int.ofNat_tdiv, simprocAttr, BEq.rfl, LN_succ]
        refine ⟨⟨(), by unfold rowBad; rw [if_neg hk1, if_neg hk2, if_neg hk3, if_neg hk4]⟩, Cov.go [] [] ?_⟩
        simp [cvT, step, res, boxP2, -List.getD_eq_getElem?_getD]
      refine SR.run (t := .mk) ?_
      simp -dsimp only [aqT, aqU, aqN, aqS, ↓seqK, ↓blkK, ↓loopK, step, stepBin, Nat.add_assoc nid, ↓reduceIte, Option.toList, ← Int.ofNat_tmod, ← Int.ofNat_tdiv, simprocAttr, BEq.rfl, LN_succ]
      refine ⟨by unfold inI64; omega, k + 1, ⟨⟨by omega, fun j hj => ?_⟩, by omega⟩, Cov.go [] [] ?_⟩
      · rcases (by omega : j < k ∨ j = k) with hj | hj
        · exact hall j hj
        · rw [hj]; exact h6
      simp [cvT, step, res, boxP2, -List.getD_eq_getElem?_getD]
    · refine ⟨⟨(), fun j hj => hall j (by omega)⟩, Cov.go [] [] ?_⟩
      simp [cvT, step, res, boxP2, -List.getD_eq_getElem?_getD]
  · rw [dictV_good h1 h2 h3 h5]
    refine SR.run (t := .mk) ?_
    simp -dsimp only [aqT, aqU, aqN, aqS, ↓seqK, ↓blkK, ↓loopK, step, stepBin, Nat.add_assoc nid, ↓reduceIte, Option.toList, ← Int.ofNat_tmod, ← Int.ofNat_tdiv, simprocAttr, BEq.rfl, LN_succ]
    refine RetOK.pure (.inl rfl) rfl ?_
    simp [cvT, step, res]
set_option maxHeartbeats 1000000 in
theorem dictD_c (g0 r0 : Bool) (b : Nat → Bool) (G : List (List UInt8)) (R : RowL) (nid : Nat) (hB : DictW G R) : ACall Tryz.prog 63 [dictP g0 r0 b G R] [] nid (.int .i64 (dictV G R)) [] := by
  have hgl := hB.gl
  have hrl := hB.rl
  refine acall_sr c63 (by simp [a63]) ?_
  unfold a63
  refine SR.seq ?_
  unfold dictP
  simp -dsimp only [aqT, aqU, aqN, aqS, ↓seqK, ↓blkK, ↓loopK, step, stepBin, Nat.add_assoc nid, ↓reduceIte, Option.toList, ← Int.ofNat_tmod, ← Int.ofNat_tdiv, simprocAttr, BEq.rfl, LN_succ]
  refine SR.seqW (ι := {_u : Unit // G.length ≠ 0 ∧ ¬ (100 < G.length ∨ 300 < R.length)}) (fun _ => ⟨[(1, .ptr nid 0)], [(nid, boxP2 g0 r0 b G R)], nid + 100, nid⟩) ?_ (fun ⟨_, h1, h2⟩ => ?_)
  · refine SR.run (t := .mk) ?_
    simp -dsimp only [aqT, aqU, aqN, aqS, ↓seqK, ↓blkK, ↓loopK, step, stepBin, Nat.add_assoc nid, ↓reduceIte, Option.toList, ← Int.ofNat_tmod, ← Int.ofNat_tdiv, simprocAttr, BEq.rfl, LN_succ]
    refine S2.intro (fun h1 => ?_) (fun h1 => ?_) <;> simp -dsimp only [aqT, aqU, aqN, aqS, ↓seqK, ↓blkK, ↓loopK, step, stepBin, Nat.add_assoc nid, ↓reduceIte, Option.toList, ← Int.ofNat_tmod, ← Int.ofNat_tdiv, simprocAttr, BEq.rfl, LN_succ]
    · have e : dictV G R = 8 := by unfold dictV; rw [if_pos (by simp at h1; exact congrArg List.length h1)]
      rw [e]
      refine RetOK.pure (.inl rfl) rfl ?_
      simp [cvT, step, res]
    have h1' : G.length ≠ 0 := by simp at h1; exact fun e => h1 (List.eq_nil_of_length_eq_zero e)
    refine S2.dec (fun h2 => ?_) (fun h2 => ?_) <;> simp -dsimp only [aqT, aqU, aqN, aqS, ↓seqK, ↓blkK, ↓loopK, step, stepBin, Nat.add_assoc nid, ↓reduceIte, Option.toList, ← Int.ofNat_tmod, ← Int.ofNat_tdiv, simprocAttr, BEq.rfl, LN_succ]
    · have e : dictV G R = 2 := by unfold dictV; rw [if_neg h1', if_pos (.inl (by omega))]
      rw [e]
      refine RetOK.pure (.inl rfl) rfl ?_
      simp [cvT, step, res]
    refine S2.dec (fun h4 => ?_) (fun h4 => ?_) <;> simp -dsimp only [aqT, aqU, aqN, aqS, ↓seqK, ↓blkK, ↓loopK, step, stepBin, Nat.add_assoc nid, ↓reduceIte, Option.toList, ← Int.ofNat_tmod, ← Int.ofNat_tdiv, simprocAttr, BEq.rfl, LN_succ]
    · have e : dictV G R = 2 := by unfold dictV; rw [if_neg h1', if_pos (.inr (by omega))]
      rw [e]
      refine RetOK.pure (.inl rfl) rfl ?_
      simp [cvT, step, res]
    have h2' : ¬ (100 < G.length ∨ 300 < R.length) := by omega
    refine ⟨⟨(), h1', h2'⟩, Cov.go [] [] ?_⟩
    simp [cvT, step, res, boxP2]
  refine SR.seq ?_
  simp -dsimp only [aqT, aqU, aqN, aqS, ↓seqK, ↓blkK, ↓loopK, step, stepBin, Nat.add_assoc nid, ↓reduceIte, Option.toList, ← Int.ofNat_tmod, ← Int.ofNat_tdiv, simprocAttr, BEq.rfl, LN_succ]
  refine SR.seqW (ι := {_u : Unit // G.any oddS = false}) (fun _ => ⟨[(3, .fn 152 []), (1, .ptr nid 0)], [(nid, boxP2 g0 r0 b G R)], nid + 150, nid⟩) ?_ (fun ⟨_, h3⟩ => ?_)
  · unfold boxP2
    refine SR.run (t := .mk) ?_
    simp -dsimp only [aqT, aqU, aqN, aqS, ↓seqK, ↓blkK, ↓loopK, step, stepBin, Nat.add_assoc nid, ↓reduceIte, Option.toList, ← Int.ofNat_tmod, ← Int.ofNat_tdiv, simprocAttr, BEq.rfl, LN_succ]
    refine CallO.pure (containsM_c 152 oddS g0 G _ hB.gl hB.gs (fun x m hx => oddD_c x m hx)) ?_
    simp -dsimp only [aqT, aqU, aqN, aqS, ↓seqK, ↓blkK, ↓loopK, step, stepBin, Nat.add_assoc nid, ↓reduceIte, Option.toList, ← Int.ofNat_tmod, ← Int.ofNat_tdiv, simprocAttr, BEq.rfl, LN_succ]
    refine S2.intro (fun h5 => ?_) (fun h5 => ?_) <;> simp -dsimp only [aqT, aqU, aqN, aqS, ↓seqK, ↓blkK, ↓loopK, step, stepBin, Nat.add_assoc nid, ↓reduceIte, Option.toList, ← Int.ofNat_tmod, ← Int.ofNat_tdiv, simprocAttr, BEq.rfl, LN_succ]
    · have e : dictV G R = 9 := by unfold dictV; rw [if_neg h1, if_neg h2, if_pos h5]
      rw [e]
      refine RetOK.pure (.inl rfl) rfl ?_
      simp [cvT, step, res]
    refine ⟨⟨(), h5⟩, Cov.go [] [] ?_⟩
    simp [cvT, step, res, boxP2]
  refine SR.seqW (ι := {_u : Unit // ∀ j, j < R.length → rowBad G.length R j = 0}) (fun _ => ⟨[], [], nid + 2000, nid⟩) ?_ (fun ⟨_, h5⟩ => ?_)
  · unfold boxP2
    refine SR.seqTo ⟨[(29, .int .i64 0), (28, .int .i64 R.length), (27, .lit r0 R.length [.s fun k => rowF R k, .l b (fun k => (rowR R k).length) (fun k => [.s fun j => (rowR R k).getD j []])]), (3, .fn 152 []), (1, .ptr nid 0)], [(nid, boxP2 g0 r0 b G R)], nid + 200, nid⟩ ?_ ?_
    · simp -dsimp only [aqT, aqU, aqN, aqS, ↓seqK, ↓blkK, ↓loopK, step, stepBin, Nat.add_assoc nid, ↓reduceIte, Option.toList, ← Int.ofNat_tmod, ← Int.ofNat_tdiv, simprocAttr, BEq.rfl, LN_succ]
      refine Cov.go [] [] ?_
      simp [cvT, step, res, boxP2, -List.getD_eq_getElem?_getD]
    refine SR.block ?_
    refine SR.loopP (fun k : Nat => k ≤ R.length ∧ ∀ j, j < k → rowBad G.length R j = 0) (fun k : Nat => ⟨[(29, .int .i64 k), (28, .int .i64 R.length), (27, .lit r0 R.length [.s fun k => rowF R k, .l b (fun k => (rowR R k).length) (fun k => [.s fun j => (rowR R k).getD j []])]), (3, .fn 152 []), (1, .ptr nid 0)], [(nid, boxP2 g0 r0 b G R)], nid + 200, nid⟩) (fun k => R.length + 1 - k) 0 ⟨by omega, fun j hj => by omega⟩ (Cov.drop (by omega) ?_) (fun k hk => ?_)
    · simp only [SlotsIn, aqT, aqU, aqN, ↓seqK, ↓blkK, ↓loopK, step, stepBin, Nat.reduceBEq, Nat.reduceBeqDiff, Nat.add_assoc nid, Nat.reduceAdd, reduceCtorEq, ↓reduceIte, Nat.reduceLeDiff, Nat.reduceBneDiff, Option.toList, ← Int.ofNat_tmod, ← Int.ofNat_tdiv, Nat.reduceLT]
      try simp
    obtain ⟨hk, hall⟩ := hk
    refine SR.seq ?_
    simp -dsimp only [aqT, aqU, aqN, aqS, ↓seqK, ↓blkK, ↓loopK, step, stepBin, Nat.add_assoc nid, ↓reduceIte, Option.toList, ← Int.ofNat_tmod, ← Int.ofNat_tdiv, simprocAttr, BEq.rfl, LN_succ]
    refine SR.seq ?_
    simp -dsimp only [aqT, aqU, aqN, aqS, ↓seqK, ↓blkK, ↓loopK, step, stepBin, Nat.add_assoc nid, ↓reduceIte, Option.toList, ← Int.ofNat_tmod, ← Int.ofNat_tdiv, simprocAttr, BEq.rfl, LN_succ]
    refine S2.dec (fun h4 => ?_) (fun h4 => ?_) <;> simp -dsimp only [aqT, aqU, aqN, aqS, ↓seqK, ↓blkK, ↓loopK, step, stepBin, Nat.add_assoc nid, ↓reduceIte, Option.toList, ← Int.ofNat_tmod, ← Int.ofNat_tdiv, simprocAttr, BEq.rfl, LN_succ]
    · have hkl : k < R.length := by omega
      have hbad := fun e => dictV_row (e := e) h1 h2 h3 hkl hall
      obtain ⟨hf1, hr1, hs1⟩ := hB.rs k
      refine SR.seqW (ι := {_u : Unit // rowBad G.length R k = 0}) (fun _ => ⟨[(29, .int .i64 k), (28, .int .i64 R.length), (27, .lit r0 R.length [.s fun k => rowF R k, .l b (fun k => (rowR R k).length) (fun k => [.s fun j => (rowR R k).getD j []])]), (3, .fn 152 []), (1, .ptr nid 0)], [(nid, boxP2 g0 r0 b G R)], nid + 900, nid⟩) ?_ (fun ⟨_, h6⟩ => ?_)
      · refine SR.block ?_
        refine SR.seqTo ⟨[(5, .ptr (nid + 300) 0), (4, .int .i64 k), (29, .int .i64 k), (28, .int .i64 R.length), (27, .lit r0 R.length [.s fun k => rowF R k, .l b (fun k => (rowR R k).length) (fun k => [.s fun j => (rowR R k).getD j []])]), (3, .fn 152 []), (1, .ptr nid 0)], [(nid + 300, some (.box 67 [.str (rowF R k), .lit (b k) (rowR R k).length [.s fun j => (rowR R k).getD j []]])), (nid, boxP2 g0 r0 b G R)], nid + 400, nid⟩ ?_ ?_
        · simp -dsimp only [aqT, aqU, aqN, aqS, ↓seqK, ↓blkK, ↓loopK, step, stepBin, Nat.add_assoc nid, ↓reduceIte, Option.toList, ← Int.ofNat_tmod, ← Int.ofNat_tdiv, simprocAttr, BEq.rfl, LN_succ]
          refine ⟨by omega, Cov.go [(nid + 300, nid + 216)] [] ?_⟩
          simp [cvT, step, res, boxP2, -List.getD_eq_getElem?_getD]
        refine SR.block ?_
        refine SR.seq ?_
        simp -dsimp only [aqT, aqU, aqN, aqS, ↓seqK, ↓blkK, ↓loopK, step, stepBin, Nat.add_assoc nid, ↓reduceIte, Option.toList, ← Int.ofNat_tmod, ← Int.ofNat_tdiv, simprocAttr, BEq.rfl, LN_succ]
        refine CallO.pure (keyD_c _ _ hf1) ?_
        simp -dsimp only [aqT, aqU, aqN, aqS, ↓seqK, ↓blkK, ↓loopK, step, stepBin, Nat.add_assoc nid, ↓reduceIte, Option.toList, ← Int.ofNat_tmod, ← Int.ofNat_tdiv, simprocAttr, BEq.rfl, LN_succ]
        refine SR.cond (b := !keyB (rowF R k)) (by simp [AX.val, getS]) (fun h => ?_) (fun h => ?_)
        · have hk : keyB (rowF R k) = false := by simpa using h
          rw [hbad 5 (by unfold rowBad; rw [if_pos hk]) (by decide)]
          refine SR.run (t := .mk) ?_
          simp -dsimp only [aqT, aqU, aqN, aqS, ↓seqK, ↓blkK, ↓loopK, step, stepBin, Nat.add_assoc nid, ↓reduceIte, Option.toList, ← Int.ofNat_tmod, ← Int.ofNat_tdiv, simprocAttr, BEq.rfl, LN_succ]
          refine RetOK.pure (.inl rfl) rfl ?_
          simp [cvT, step, res]
        have hk1 : ¬ keyB (rowF R k) = false := by simpa using h
        unfold boxP2
        refine SR.seq ?_
        simp -dsimp only [aqT, aqU, aqN, aqS, ↓seqK, ↓blkK, ↓loopK, step, stepBin, Nat.add_assoc nid, ↓reduceIte, Option.toList, ← Int.ofNat_tmod, ← Int.ofNat_tdiv, simprocAttr, BEq.rfl, LN_succ]
        refine SR.cond (b := (((rowR R k).length : Nat) : Int) != (G.length : Nat)) (by simp [AX.val, getS]) (fun h => ?_) (fun h => ?_)
        · have hk : (rowR R k).length ≠ G.length := fun e => by rw [e] at h; simp at h
          rw [hbad 3 (by unfold rowBad; rw [if_neg hk1, if_pos hk]) (by decide)]
          refine SR.run (t := .mk) ?_
          simp -dsimp only [aqT, aqU, aqN, aqS, ↓seqK, ↓blkK, ↓loopK, step, stepBin, Nat.add_assoc nid, ↓reduceIte, Option.toList, ← Int.ofNat_tmod, ← Int.ofNat_tdiv, simprocAttr, BEq.rfl, LN_succ]
          refine RetOK.pure (.inl rfl) rfl ?_
          simp [cvT, step, res]
        have hk2 : ¬ (rowR R k).length ≠ G.length := by
          have : (((rowR R k).length : Nat) : Int) = (G.length : Nat) := by simpa only [bne_eq_false_iff_eq] using h
          omega
        refine SR.seq ?_
        simp -dsimp only [aqT, aqU, aqN, aqS, ↓seqK, ↓blkK, ↓loopK, step, stepBin, Nat.add_assoc nid, ↓reduceIte, Option.toList, ← Int.ofNat_tmod, ← Int.ofNat_tdiv, simprocAttr, BEq.rfl, LN_succ]
        refine CallO.pure (containsM_c 152 oddS (b k) (rowR R k) _ hr1 hs1 (fun x m hx => oddD_c x m hx)) ?_
        simp -dsimp only [aqT, aqU, aqN, aqS, ↓seqK, ↓blkK, ↓loopK, step, stepBin, Nat.add_assoc nid, ↓reduceIte, Option.toList, ← Int.ofNat_tmod, ← Int.ofNat_tdiv, simprocAttr, BEq.rfl, LN_succ]
        refine SR.cond (b := (rowR R k).any oddS) (by simp [AX.val, getS]) (fun h => ?_) (fun h => ?_)
        · rw [hbad 9 (by unfold rowBad; rw [if_neg hk1, if_neg hk2, if_pos h]) (by decide)]
          refine SR.run (t := .mk) ?_
          simp -dsimp only [aqT, aqU, aqN, aqS, ↓seqK, ↓blkK, ↓loopK, step, stepBin, Nat.add_assoc nid, ↓reduceIte, Option.toList, ← Int.ofNat_tmod, ← Int.ofNat_tdiv, simprocAttr, BEq.rfl, LN_succ]
          refine RetOK.pure (.inl rfl) rfl ?_
          simp [cvT, step, res]
        have hk3 : ¬ (rowR R k).any oddS = true := by simp [h]
        refine SR.seqTo ⟨[(52, .bool (decide ((0 : Int) < k) && (Op.bytesLess (rowF R k) (rowF R (k - 1)) || rowF R k == rowF R (k - 1)))), (29, .int .i64 k), (28, .int .i64 R.length), (27, .lit r0 R.length [.s fun k => rowF R k, .l b (fun k => (rowR R k).length) (fun k => [.s fun j => (rowR R k).getD j []])]), (3, .fn 152 []), (1, .ptr nid 0)], [(nid, boxP2 g0 r0 b G R)], nid + 700, nid⟩ ?_ ?_
        · simp -dsimp only [aqT, aqU, aqN, aqS, ↓seqK, ↓blkK, ↓loopK, step, stepBin, Nat.add_assoc nid, ↓reduceIte, Option.toList, ← Int.ofNat_tmod, ← Int.ofNat_tdiv, simprocAttr, BEq.rfl, LN_succ]
          refine S2.dec (fun h0 => ?_) (fun h0 => ?_) <;> simp -dsimp only [aqT, aqU, aqN, aqS, ↓seqK, ↓blkK, ↓loopK, step, stepBin, Nat.add_assoc nid, ↓reduceIte, Option.toList, ← Int.ofNat_tmod, ← Int.ofNat_tdiv, simprocAttr, BEq.rfl, LN_succ]
          · have e : ((k : Int) - 1).toNat = k - 1 := by omega
            rw [e]
            refine ⟨by unfold inI64; omega, by omega, Cov.go [] [] ?_⟩
            simp [cvT, step, res, boxP2, decide_eq_true h0, -List.getD_eq_getElem?_getD]
            try omega
          · refine Cov.go [] [] ?_
            simp [cvT, step, res, boxP2, decide_eq_false h0, -List.getD_eq_getElem?_getD]
            try omega
        refine SR.cond (b := decide ((0 : Int) < k) && (Op.bytesLess (rowF R k) (rowF R (k - 1)) || rowF R k == rowF R (k - 1))) (by simp [AX.val, getS]) (fun h => ?_) (fun h => ?_)
        · simp only [Bool.and_eq_true, decide_eq_true_eq] at h
          rw [hbad 7 (by unfold rowBad; rw [if_neg hk1, if_neg hk2, if_neg hk3, if_pos ⟨by omega, h.2⟩]) (by decide)]
          refine SR.run (t := .mk) ?_
          simp -dsimp only [aqT, aqU, aqN, aqS, ↓seqK, ↓blkK, ↓loopK, step, stepBin, Nat.add_assoc nid, ↓reduceIte, Option.toList, ← Int.ofNat_tmod, ← Int.ofNat_tdiv, simprocAttr, BEq.rfl, LN_succ]
          refine RetOK.pure (.inl rfl) rfl ?_
          simp [cvT, step, res]
        have hk4 : ¬ (0 < k ∧ (Op.bytesLess (rowF R k) (rowF R (k - 1)) || rowF R k == rowF R (k - 1)) = true) := fun ⟨e1, e2⟩ => by
          rw [e2, decide_eq_true (by omega)] at h
          simp at h
        refine SR.run (t := .mk) ?_
        simp -dsimp only [aqT, aqU, aqN, aqS, ↓seqK, ↓blkK, ↓loopK, step, stepBin, Nat.add_assoc nid, ↓reduceIte, Option.toList, ← Int.ofNat_tmod, ← Int.ofNat_tdiv, simprocAttr, BEq.rfl, LN_succ]
        refine ⟨⟨(), by unfold rowBad; rw [if_neg hk1, if_neg hk2, if_neg hk3, if_neg hk4]⟩, Cov.go [] [] ?_⟩
        simp [cvT, step, res, boxP2, -List.getD_eq_getElem?_getD]
      refine SR.run (t := .mk) ?_
      simp -dsimp only [aqT, aqU, aqN, aqS, ↓seqK, ↓blkK, ↓loopK, step, stepBin, Nat.add_assoc nid, ↓reduceIte, Option.toList, ← Int.ofNat_tmod, ← Int.ofNat_tdiv, simprocAttr, BEq.rfl, LN_succ]
      refine ⟨by unfold inI64; omega, k + 1, ⟨⟨by omega, fun j hj => ?_⟩, by omega⟩, Cov.go [] [] ?_⟩
      · rcases (by omega : j < k ∨ j = k) with hj | hj
        · exact hall j hj
        · rw [hj]; exact h6
      simp [cvT, step, res, boxP2, -List.getD_eq_getElem?_getD]
    · refine ⟨⟨(), fun j hj => hall j (by omega)⟩, Cov.go [] [] ?_⟩
      simp [cvT, step, res, boxP2, -List.getD_eq_getElem?_getD]
  · rw [dictV_good h1 h2 h3 h5]
    refine SR.run (t := .mk) ?_
    simp -dsimp only [aqT, aqU, aqN, aqS, ↓seqK, ↓blkK, ↓loopK, step, stepBin, Nat.add_assoc nid, ↓reduceIte, Option.toList, ← Int.ofNat_tmod, ← Int.ofNat_tdiv, simprocAttr, BEq.rfl, LN_succ]
    refine RetOK.pure (.inl rfl) rfl ?_
    simp [cvT, step, res]
end Go.Proofs.YtpifoghhaohhaaaGreatDoor
namespace Go.Proofs.YtpifoghhaohhaaaGreatDoor
open Go.RowKit Go.Shelf Go.Lib
theorem namesL_len {x : List UInt8} (h : x ∈ namesL) : x.length ≤ 2 := by
  unfold namesL at h
  simp only [List.mem_cons, List.not_mem_nil, or_false] at h
  rcases h with rfl | rfl | rfl | rfl | rfl | rfl | rfl | rfl | rfl <;> decide
theorem rowF_out {R : RowL} {k : Nat} (h : ¬ k < R.length) : rowF R k = [] := by unfold rowF; rw [List.getD_eq_getElem?_getD, List.getElem?_eq_none (by omega)]; rfl
theorem rowR_out {R : RowL} {k : Nat} (h : ¬ k < R.length) : rowR R k = [] := by unfold rowR; rw [List.getD_eq_getElem?_getD, List.getElem?_eq_none (by omega)]; rfl
theorem row_mem {R : RowL} {k : Nat} (h : k < R.length) : (rowF R k, rowR R k) ∈ R := by
  unfold rowF rowR
  rw [List.getD_eq_getElem?_getD, List.getElem?_eq_getElem h]
  exact List.getElem_mem h
theorem DictB.w {m : Nat} {G : List (List UInt8)} {R : RowL} (h : DictB m G R) (hm : m ≤ 100) : DictW G R :=
  ⟨by have := h.gl; omega, h.gs.mono (by omega), by have := h.rl; omega, fun k => by
    by_cases hk : k < R.length
    · obtain ⟨a, b, c⟩ := h.rs _ (row_mem hk)
      have := namesL_len a
      exact ⟨by simp only at this; omega, by simp only at b; omega, c.mono (by omega)⟩
    · rw [rowF_out hk, rowR_out hk]
      exact ⟨by simp, by simp, fun r hr => by simp at hr⟩⟩
set_option maxHeartbeats 1000000 in
theorem rightDict_I (s nid : Nat) (nl : Bool) (A : List Int) (p faults tests : Nat) (h : s < nid) (hp : p ≤ 1099400000000) (hA : A.length ≤ 17592186044416) (hf : faults ≤ 7) (ht1 : 1 ≤ tests) (ht : tests ≤ 6) :
    ACallI Tryz.prog 42 [.ptr s 0, .int .i64 (faults : Nat), .int .i64 (tests : Nat)] [(s, strmC nl A p)] nid (fun x : DictX => (DictB tests x.G x.R ∧ dictV x.G x.R = 0) ∧ x.q ≤ p + 6000) (fun x => dictP x.g0 x.r0 x.b x.G x.R) (fun x => [(s, strmC nl A x.q)]) := by
  obtain ⟨e1, e2, e3, e4, e5, e6, e7, e8, e9⟩ := id_all h
  refine acallI_sr c42 (by simp [a42]) ?_
  unfold a42
  refine SR.seq ?_
  simp -dsimp only [aqT, aqU, aqN, aqS, ↓seqK, ↓blkK, ↓loopK, step, stepBin, Nat.add_assoc nid, ↓reduceIte, Option.toList, ← Int.ofNat_tmod, ← Int.ofNat_tdiv, simprocAttr, BEq.rfl, LN_succ, e1, e2, e3, e4, e5, e6, e7, e8, e9]
  refine SR.seqW (ι := {q : Nat // q ≤ p + 6000}) (fun q => ⟨[(6, .ptr (nid + 4) 0)], [(nid + 4, some (.box 29 [.lit true 0 [], .lit true 0 []])), (s, strmC nl A q)], nid + 2000, nid⟩) ?_ (fun ⟨q, hq⟩ => ?_)
  · refine SR.seq ?_
    simp -dsimp only [aqT, aqU, aqN, aqS, ↓seqK, ↓blkK, ↓loopK, step, stepBin, Nat.add_assoc nid, ↓reduceIte, Option.toList, ← Int.ofNat_tmod, ← Int.ofNat_tdiv, simprocAttr, BEq.rfl, LN_succ, e1, e2, e3, e4, e5, e6, e7, e8, e9]
    refine SR.block ?_
    refine SR.loopP (fun x : Nat × Nat => x.1 ≤ 6 ∧ x.2 ≤ p + 1000 * x.1) (fun x => ⟨[(8, .int .i64 x.1), (6, .ptr (nid + 4) 0), (0, .ptr s 0), (1, .int .i64 (faults : Nat)), (2, .int .i64 (tests : Nat))], [(nid + 4, some (.box 29 [.lit true 0 [], .lit true 0 []])), (s, strmC nl A x.2)], nid + 100, nid⟩) (fun x => 7 - x.1) (0, p) ⟨by simp, by simp⟩ (Cov.go [(nid + 4, nid)] [] ?_) (fun x hx => ?_)
    · simp [cvT, step, res, e1, e2, e3, e4, e5, e6, e7, e8, e9, strmC]
    obtain ⟨i, q⟩ := x
    obtain ⟨hi, hq⟩ := hx
    simp only at hi hq ⊢
    refine SR.seq ?_
    simp -dsimp only [aqT, aqU, aqN, aqS, ↓seqK, ↓blkK, ↓loopK, step, stepBin, Nat.add_assoc nid, ↓reduceIte, Option.toList, ← Int.ofNat_tmod, ← Int.ofNat_tdiv, simprocAttr, BEq.rfl, LN_succ, e1, e2, e3, e4, e5, e6, e7, e8, e9]
    refine SR.seq ?_
    simp -dsimp only [aqT, aqU, aqN, aqS, ↓seqK, ↓blkK, ↓loopK, step, stepBin, Nat.add_assoc nid, ↓reduceIte, Option.toList, ← Int.ofNat_tmod, ← Int.ofNat_tdiv, simprocAttr, BEq.rfl, LN_succ, e1, e2, e3, e4, e5, e6, e7, e8, e9]
    refine S2.dec (fun h4 => ?_) (fun h4 => ?_) <;> simp -dsimp only [aqT, aqU, aqN, aqS, ↓seqK, ↓blkK, ↓loopK, step, stepBin, Nat.add_assoc nid, ↓reduceIte, Option.toList, ← Int.ofNat_tmod, ← Int.ofNat_tdiv, simprocAttr, BEq.rfl, LN_succ]
    · refine SR.seqW (ι := {q2 : Nat // q2 ≤ q + 1000}) (fun q2 => ⟨[(8, .int .i64 i), (6, .ptr (nid + 4) 0), (0, .ptr s 0), (1, .int .i64 (faults : Nat)), (2, .int .i64 (tests : Nat))], [(nid + 4, some (.box 29 [.lit true 0 [], .lit true 0 []])), (s, strmC nl A q2)], nid + 900, nid⟩) ?_ (fun ⟨q2, hq2⟩ => ?_)
      · refine SR.block ?_
        refine SR.seqW (ι := {x : DictX // DictB tests x.G x.R ∧ x.q ≤ q + 1000}) (fun x => ⟨[(7, .ptr (nid + 300) 0), (8, .int .i64 i), (6, .ptr (nid + 4) 0), (0, .ptr s 0), (1, .int .i64 (faults : Nat)), (2, .int .i64 (tests : Nat))], [(nid + 300, boxP2 x.1.g0 x.1.r0 x.1.b x.1.G x.1.R), (nid + 4, some (.box 29 [.lit true 0 [], .lit true 0 []])), (s, strmC nl A x.1.q)], nid + 400, nid⟩) ?_ (fun ⟨x, hx1, hx2⟩ => ?_)
        · refine SR.run (t := .mk) ?_
          simp -dsimp only [aqT, aqU, aqN, aqS, ↓seqK, ↓blkK, ↓loopK, step, stepBin, Nat.add_assoc nid, ↓reduceIte, Option.toList, ← Int.ofNat_tmod, ← Int.ofNat_tdiv, simprocAttr, BEq.rfl, LN_succ, e1, e2, e3, e4, e5, e6, e7, e8, e9]
          refine CallO.any (dict_I s _ nl A q faults tests (by omega) (by omega) hA hf ht1 ht) (subH_get (by simp only [aqT, aqU, aqN, ↓seqK, ↓blkK, ↓loopK, step, stepBin, Nat.reduceBEq, Nat.reduceBeqDiff, Nat.add_assoc nid, Nat.reduceAdd, reduceCtorEq, ↓reduceIte, Nat.reduceLeDiff, Nat.reduceBneDiff, Option.toList, ← Int.ofNat_tmod, ← Int.ofNat_tdiv, Nat.reduceLT, e1, e2, e3, e4, e5, e6, e7, e8, e9, Int.cast_ofNat_Int, Int.reduceBEq, Int.reduceBNe, Int.reduceLT, Int.reduceLE, Int.reduceAdd, Int.reduceSub, Int.reduceMul, Int.reduceToNat, Int.reduceNeg, Int.reduceTMod, Int.reduceEq, not_false_eq_true, Int.reducePow, Int.reduceFDiv, Nat.reducePow, Nat.reduceSub, Nat.reduceMul, Nat.min_eq_left, Nat.reduceEqDiff, BEq.rfl, Int.tdiv_one, LN_succ])) (fun x hx => ?_)
          unfold dictP
          simp -dsimp only [aqT, aqU, aqN, aqS, ↓seqK, ↓blkK, ↓loopK, step, stepBin, Nat.add_assoc nid, ↓reduceIte, Option.toList, ← Int.ofNat_tmod, ← Int.ofNat_tdiv, simprocAttr, BEq.rfl, LN_succ, e1, e2, e3, e4, e5, e6, e7, e8, e9]
          refine ⟨⟨x, hx⟩, Cov.go [(nid + 300, nid + 120)] [] ?_⟩
          simp [cvT, step, res, e1, e2, e3, e4, e5, e6, e7, e8, e9, strmC, boxP2, ColsEq.refl, -List.getD_eq_getElem?_getD]
        · unfold boxP2
          have hr := fun m => dictR_c x.g0 x.r0 x.b x.G x.R m (hx1.w (by omega))
          unfold dictP at hr
          refine SR.run (t := .mk) ?_
          simp -dsimp only [aqT, aqU, aqN, aqS, ↓seqK, ↓blkK, ↓loopK, step, stepBin, Nat.add_assoc nid, ↓reduceIte, Option.toList, ← Int.ofNat_tmod, ← Int.ofNat_tdiv, simprocAttr, BEq.rfl, LN_succ, e1, e2, e3, e4, e5, e6, e7, e8, e9]
          refine CallO.pure (hr _) ?_
          simp -dsimp only [aqT, aqU, aqN, aqS, ↓seqK, ↓blkK, ↓loopK, step, stepBin, Nat.add_assoc nid, ↓reduceIte, Option.toList, ← Int.ofNat_tmod, ← Int.ofNat_tdiv, simprocAttr, BEq.rfl, LN_succ, e1, e2, e3, e4, e5, e6, e7, e8, e9]
          refine S2.intro (fun h5 => ?_) (fun h5 => ?_) <;> simp -dsimp only [aqT, aqU, aqN, aqS, ↓seqK, ↓blkK, ↓loopK, step, stepBin, Nat.add_assoc nid, ↓reduceIte, Option.toList, ← Int.ofNat_tmod, ← Int.ofNat_tdiv, simprocAttr, BEq.rfl, LN_succ, e1, e2, e3, e4, e5, e6, e7, e8, e9]
          · refine ⟨x, ⟨⟨hx1, by simpa using h5⟩, by omega⟩, RetOK.go [] [] (.inl rfl) ?_⟩
            simp [cvT, step, res, e1, e2, e3, e4, e5, e6, e7, e8, e9, a42, strmC, dictP, ColsEq.refl, -List.getD_eq_getElem?_getD]
          · refine ⟨⟨x.q, by omega⟩, Cov.go [] [] ?_⟩
            simp [cvT, step, res, e1, e2, e3, e4, e5, e6, e7, e8, e9, strmC, -List.getD_eq_getElem?_getD]
      refine SR.run (t := .mk) ?_
      simp -dsimp only [aqT, aqU, aqN, aqS, ↓seqK, ↓blkK, ↓loopK, step, stepBin, Nat.add_assoc nid, ↓reduceIte, Option.toList, ← Int.ofNat_tmod, ← Int.ofNat_tdiv, simprocAttr, BEq.rfl, LN_succ, e1, e2, e3, e4, e5, e6, e7, e8, e9]
      refine ⟨by unfold inI64; omega, (i + 1, q2), ⟨⟨by simp only; omega, by simp only; omega⟩, by simp only; omega⟩, Cov.go [] [] ?_⟩
      simp [cvT, step, res, e1, e2, e3, e4, e5, e6, e7, e8, e9, strmC, -List.getD_eq_getElem?_getD]
    · refine ⟨⟨q, by omega⟩, Cov.go [] [] ?_⟩
      simp [cvT, step, res, e1, e2, e3, e4, e5, e6, e7, e8, e9, strmC, -List.getD_eq_getElem?_getD]
  · refine SR.seqTo ⟨[(6, .ptr (nid + 4) 0)], [(nid + 4, boxD (nid + 2500) 1 (nid + 2504) 0), (nid + 2500, arrS [[48]]), (nid + 2504, some (.arr 67 0 [.s fun k => rowF [] k, .l (fun _ => false) (fun k => (rowR [] k).length) (fun k => [.s fun j => (rowR [] k).getD j []])])), (s, strmC nl A q)], nid + 3000, nid⟩ ?_ ?_
    · simp -dsimp only [aqT, aqU, aqN, aqS, ↓seqK, ↓blkK, ↓loopK, step, stepBin, Nat.add_assoc nid, ↓reduceIte, Option.toList, ← Int.ofNat_tmod, ← Int.ofNat_tdiv, simprocAttr, BEq.rfl, LN_succ, e1, e2, e3, e4, e5, e6, e7, e8, e9]
      refine Cov.go [(nid + 2500, nid + 2000)] [(nid + 2504, 2)] ?_
      simp [cvT, step, res, e1, e2, e3, e4, e5, e6, e7, e8, e9, strmC, boxD, arrS, -List.getD_eq_getElem?_getD]
    unfold boxD arrS
    refine SR.freezeB [nid + 2500, nid + 2504] (fun n2 => ?_)
    simp only [frzS, frzH, frzBlk, lends, lend, kill, strmC, noOs, aqT, aqU, aqN, aqS, ↓seqK, ↓blkK, ↓loopK, step, stepBin, Nat.add_assoc nid, ↓reduceIte, Option.toList, ← Int.ofNat_tmod, ← Int.ofNat_tdiv, simprocAttr, BEq.rfl, LN_succ, e1, e2, e3, e4, e5, e6, e7, e8, e9]
    refine SR.run (t := .mk) ?_
    simp -dsimp only [aqT, aqU, aqN, aqS, ↓seqK, ↓blkK, ↓loopK, step, stepBin, Nat.add_assoc nid, ↓reduceIte, Option.toList, ← Int.ofNat_tmod, ← Int.ofNat_tdiv, simprocAttr, BEq.rfl, LN_succ, e1, e2, e3, e4, e5, e6, e7, e8, e9]
    refine ⟨⟨n2 (nid + 2500), n2 (nid + 2504), fun _ => false, [[48]], [], q⟩, ⟨⟨⟨by simpa using ht1, ?_, by simp, by simp⟩, by rfl⟩, by simp only; omega⟩, RetOK.go [] [] (.inl rfl) ?_⟩
    · intro r hr
      simp only [List.mem_singleton] at hr
      subst hr
      decide
    simp [cvT, step, res, e1, e2, e3, e4, e5, e6, e7, e8, e9, a42, strmC, dictP, ColsEq.refl, -List.getD_eq_getElem?_getD]
end Go.Proofs.YtpifoghhaohhaaaGreatDoor
namespace Go.Proofs.YtpifoghhaohhaaaGreatDoor
theorem resp_no {s : List UInt8} (h : respB s = true) : s ≠ [] ∧ (10 : UInt8) ∉ s ∧ (32 : UInt8) ∉ s ∧ s.length ≤ 100 := by
  unfold respB at h
  simp only [Bool.and_eq_true, Bool.not_eq_true'] at h
  obtain ⟨h1, h2⟩ := h
  unfold outB at h1
  have h1 := of_decide_eq_false h1
  have hno : ∀ c : UInt8, oddC c = true → c ∉ s := fun c hc hm => by
    have := List.any_eq_false.1 h2 c hm
    rw [hc] at this
    exact absurd rfl this
  refine ⟨fun e => ?_, hno 10 (by decide), hno 32 (by decide), by omega⟩
  subst e
  simp at h1
theorem key_no {s : List UInt8} (h : keyB s = true) : s ≠ [] ∧ (10 : UInt8) ∉ s ∧ (32 : UInt8) ∉ s ∧ s.length ≤ 40 := by
  unfold keyB at h
  simp only [Bool.and_eq_true, Bool.not_eq_true'] at h
  obtain ⟨⟨h1, h2⟩, _⟩ := h
  unfold outB at h1
  have h1 := of_decide_eq_false h1
  have hno : ∀ c : UInt8, keyC c = false → c ∉ s := fun c hc hm => by
    have := List.all_eq_true.1 h2 c hm
    rw [hc] at this
    cases this
  refine ⟨fun e => ?_, hno 10 (by decide), hno 32 (by decide), by omega⟩
  subst e
  simp at h1
theorem rowBad_at {G : List (List UInt8)} {R : RowL} (h : dictV G R = 0) {k : Nat} (hk : k < R.length) : rowBad G.length R k = 0 := by
  unfold dictV at h
  split at h
  · omega
  split at h
  · omega
  split at h
  · omega
  exact firstBad_all h k (List.mem_range.2 hk)
structure DictOk (G : List (List UInt8)) (R : RowL) : Prop where
  lo : 0 < G.length
  hi : G.length ≤ 100
  rl : R.length ≤ 300
  g : ∀ x ∈ G, respB x = true
  r : ∀ x ∈ R, keyB x.1 = true ∧ x.2.length = G.length ∧ ∀ y ∈ x.2, respB y = true
theorem oddS_no {l : List (List UInt8)} (h : l.any oddS = false) : ∀ x ∈ l, respB x = true := fun x hx => by
  have := List.any_eq_false.1 h x hx
  unfold oddS at this
  simpa using this
theorem row_at {R : RowL} {k : Nat} (hk : k < R.length) : rowF R k = R[k].1 ∧ rowR R k = R[k].2 := by
  constructor
  · unfold rowF; rw [List.getD_eq_getElem?_getD, List.getElem?_eq_getElem hk]; rfl
  · unfold rowR; rw [List.getD_eq_getElem?_getD, List.getElem?_eq_getElem hk]; rfl
theorem dict_ok {G : List (List UInt8)} {R : RowL} (h : dictV G R = 0) : DictOk G R := by
  have hb := fun k (hk : k < R.length) => rowBad_at h hk
  unfold dictV at h
  split at h
  · omega
  rename_i h1
  split at h
  · omega
  rename_i h2
  split at h
  · omega
  rename_i h3
  refine ⟨by omega, by omega, by omega, oddS_no (by simpa using h3), fun x hx => ?_⟩
  obtain ⟨k, hk, rfl⟩ := List.getElem_of_mem hx
  obtain ⟨e1, e2⟩ := row_at hk
  have := hb k hk
  unfold rowBad at this
  rw [e1, e2] at this
  split at this
  · omega
  rename_i g1
  split at this
  · omega
  rename_i g2
  split at this
  · omega
  rename_i g3
  exact ⟨by simpa using g1, by simpa using g2, oddS_no (by simpa using g3)⟩
def goodN : List UInt8 := [103, 111, 111, 100]
def rowLn (x : List UInt8 × List (List UInt8)) : List UInt8 := x.1 ++ 32 :: joinW x.2
def dictLn (G : List (List UInt8)) (R : RowL) : List (List UInt8) := rowLn (goodN, G) :: R.map rowLn
def dictT (G : List (List UInt8)) (R : RowL) : List UInt8 := linesV (dictLn G R)
def lnOk (k : Nat) (r : List UInt8) : Bool := !((wrd r).contains []) && (decide (0 < k) || (wrd r).getD 0 [] == goodN)
def lnR (r : List UInt8) : List UInt8 × List (List UInt8) := ((wrd r).getD 0 [], (wrd r).drop 1)
def dG (L : List (List UInt8)) : List (List UInt8) := (wrd (L.getD 0 [])).drop 1
def dR (L : List (List UInt8)) : RowL := (L.drop 1).map lnR
def readD (t : List UInt8) : (List (List UInt8) × RowL) × Nat × Int :=
  if 200000 < t.length then (([], []), 0, 2) else if t = [] then (([], []), 0, 9) else if (eachW lnOk t).2 = false then (([], []), (eachW lnOk t).1, 9) else if dictV (dG (spl t).1) (dR (spl t).1) = 0 then ((dG (spl t).1, dR (spl t).1), 0, 0) else (([], []), 0, dictV (dG (spl t).1) (dR (spl t).1))
theorem wrd_row {x : List UInt8 × List (List UInt8)} (h1 : (32 : UInt8) ∉ x.1) (h2 : x.2 ≠ []) (h3 : ∀ y ∈ x.2, (32 : UInt8) ∉ y) : wrd (rowLn x) = x.1 :: x.2 := by
  unfold rowLn
  rw [wrd_app _ h1, wrd_join _ h2 h3]
theorem lnR_row {x : List UInt8 × List (List UInt8)} (h1 : (32 : UInt8) ∉ x.1) (h2 : x.2 ≠ []) (h3 : ∀ y ∈ x.2, (32 : UInt8) ∉ y) : lnR (rowLn x) = x := by
  unfold lnR
  rw [wrd_row h1 h2 h3]
  rfl
theorem row_lnR {r : List UInt8} (h : (wrd r).drop 1 ≠ []) : rowLn (lnR r) = r := by
  have hj := join_wrd r
  unfold rowLn lnR
  cases e : wrd r with
  | nil => rw [e] at h; simp at h
  | cons x xs =>
    rw [e] at h hj
    simp only [List.drop_succ_cons, List.drop_zero] at h
    rw [joinW_cons _ h] at hj
    exact hj
theorem row_no10 {x : List UInt8 × List (List UInt8)} (h1 : (10 : UInt8) ∉ x.1) (h3 : ∀ y ∈ x.2, (10 : UInt8) ∉ y) : (10 : UInt8) ∉ rowLn x := by
  unfold rowLn
  rw [List.mem_append, List.mem_cons]
  rintro (e | e | e)
  · exact h1 e
  · cases e
  · exact joinW_no 10 (by decide) _ h3 e
theorem len_ne_nil {α : Type} {l : List α} (h : 0 < l.length) : l ≠ [] := fun e => by subst e; simp at h
theorem good_no : (10 : UInt8) ∉ goodN ∧ (32 : UInt8) ∉ goodN := by decide
theorem read_dict {G : List (List UInt8)} {R : RowL} (hD : dictV G R = 0) (hl : (dictT G R).length ≤ 200000) : readD (dictT G R) = ((G, R), 0, 0) := by
  have hok := dict_ok hD
  have hlo := hok.lo
  have hG : G ≠ [] := len_ne_nil hlo
  have hr32 : ∀ x ∈ R, (32 : UInt8) ∉ x.1 ∧ x.2 ≠ [] ∧ ∀ y ∈ x.2, (32 : UInt8) ∉ y := fun x hx => by
    obtain ⟨a, b, c⟩ := hok.r x hx
    exact ⟨(key_no a).2.2.1, len_ne_nil (by omega), fun y hy => (resp_no (c y hy)).2.2.1⟩
  have hlines : spl (dictT G R) = (dictLn G R, []) := by
    refine spl_lines _ fun l hl => ?_
    unfold dictLn at hl
    rcases List.mem_cons.1 hl with rfl | hl
    · exact row_no10 good_no.1 fun y hy => (resp_no (hok.g y hy)).2.1
    · obtain ⟨x, hx, rfl⟩ := List.mem_map.1 hl
      obtain ⟨a, b, c⟩ := hok.r x hx
      exact row_no10 (key_no a).2.1 fun y hy => (resp_no (c y hy)).2.1
  have hw0 : wrd (rowLn (goodN, G)) = goodN :: G := wrd_row good_no.2 hG fun y hy => (resp_no (hok.g y hy)).2.2.1
  have hg : ∀ j, j < (dictLn G R).length → lnOk j ((dictLn G R).getD j []) = true := fun j hj => by
    unfold lnOk
    cases j with
    | zero =>
      have e : (dictLn G R).getD 0 [] = rowLn (goodN, G) := rfl
      rw [e, hw0]
      simp only [Bool.and_eq_true, Bool.not_eq_true', Bool.or_eq_true]
      refine ⟨?_, .inr (by simp)⟩
      rw [List.contains_cons]
      have : G.contains [] = false := by
        rw [Bool.eq_false_iff]
        intro h
        exact (resp_no (hok.g [] (by simpa using h))).1 rfl
      rw [this]
      decide
    | succ j =>
      have hj' : j < R.length := by unfold dictLn at hj; simp only [List.length_cons, List.length_map] at hj; omega
      have e : (dictLn G R).getD (j + 1) [] = rowLn R[j] := by
        unfold dictLn
        rw [List.getD_cons_succ, List.getD_eq_getElem?_getD, List.getElem?_map, List.getElem?_eq_getElem hj']
        rfl
      have hm : R[j] ∈ R := List.getElem_mem hj'
      obtain ⟨a, b, c⟩ := hr32 _ hm
      rw [e, wrd_row a b c]
      simp only [Bool.and_eq_true, Bool.not_eq_true', Bool.or_eq_true]
      refine ⟨?_, .inl (by simp)⟩
      obtain ⟨a', b', c'⟩ := hok.r _ hm
      rw [Bool.eq_false_iff]
      intro h
      have h : ([] : List UInt8) ∈ R[j].1 :: R[j].2 := by simpa only [List.contains_iff_mem] using h
      rcases List.mem_cons.1 h with h | h
      · exact (key_no a').1 h.symm
      · exact (resp_no (c' _ h)).1 rfl
  have hne : dictT G R ≠ [] := fun e => by
    rw [e] at hlines
    cases hlines
  have hG2 : dG (dictLn G R) = G := by
    have e : (dictLn G R).getD 0 [] = rowLn (goodN, G) := rfl
    unfold dG
    rw [e, hw0]
    rfl
  have hR2 : dR (dictLn G R) = R := by
    have e : (dictLn G R).drop 1 = R.map rowLn := rfl
    unfold dR
    rw [e, List.map_map]
    conv => rhs; rw [← List.map_id R]
    exact List.map_congr_left fun x hx => lnR_row (hr32 x hx).1 (hr32 x hx).2.1 (hr32 x hx).2.2
  have hew : eachW lnOk (dictT G R) = (0, true) := eachW_all (by rw [hlines]) (by rw [hlines]; exact hg)
  unfold readD
  rw [if_neg (by omega), if_neg hne, hew, hlines, hG2, hR2, if_neg (by simp), if_pos hD]
theorem dict_read {t : List UInt8} {G : List (List UInt8)} {R : RowL} {i : Nat} (h : readD t = ((G, R), i, 0)) : dictT G R = t ∧ dictV G R = 0 := by
  unfold readD at h
  split at h
  · cases h
  split at h
  · cases h
  rename_i hne
  split at h
  · cases h
  rename_i hok
  by_cases hv : dictV (dG (spl t).1) (dR (spl t).1) = 0
  case neg =>
    rw [if_neg hv] at h
    have h2 := congrArg (fun x => x.2.2) h
    exact absurd h2 hv
  rw [if_pos hv] at h
  obtain ⟨h2, hall⟩ := eachW_ok (by simpa using hok)
  have hok2 := dict_ok hv
  have h3 := congrArg (fun x => x.1.1) h
  have h4 := congrArg (fun x => x.1.2) h
  simp only at h3 h4
  rw [← h3, ← h4]
  refine ⟨?_, hv⟩
  have hlines := lines_spl t h2
  have hL : (spl t).1 ≠ [] := fun e => by
    rw [e] at hlines
    exact hne hlines.symm
  generalize (spl t).1 = L at *
  cases L with
  | nil => exact absurd rfl hL
  | cons l0 ls =>
    unfold dictT
    rw [← hlines]
    congr 1
    unfold dictLn
    have hlo := hok2.lo
    have e0 : dG (l0 :: ls) = (wrd l0).drop 1 := rfl
    have g0 := hall 0 (by simp)
    have e1 : (l0 :: ls).getD 0 [] = l0 := rfl
    rw [e1] at g0
    unfold lnOk at g0
    simp only [Bool.and_eq_true, Nat.lt_irrefl, decide_false, Bool.false_or, beq_iff_eq] at g0
    have e2 : rowLn (goodN, dG (l0 :: ls)) = l0 := by
      have : (goodN, dG (l0 :: ls)) = lnR l0 := by unfold lnR; rw [g0.2, e0]
      rw [this]
      exact row_lnR (len_ne_nil (by rw [e0] at hlo; exact hlo))
    rw [e2]
    congr 1
    have e3 : dR (l0 :: ls) = ls.map lnR := rfl
    rw [e3, List.map_map]
    conv => rhs; rw [← List.map_id ls]
    refine List.map_congr_left fun r hr => ?_
    have hm : lnR r ∈ dR (l0 :: ls) := by rw [e3]; exact List.mem_map_of_mem hr
    have := (hok2.r _ hm).2.1
    have h5 : (lnR r).2 = (wrd r).drop 1 := rfl
    exact row_lnR (len_ne_nil (by rw [← h5]; omega))
theorem dictT_len {G : List (List UInt8)} {R : RowL} {m n : Nat} (hG : G.length ≤ m) (hGs : ShortRows 101 G) (hR : R.length ≤ n) (hRs : ∀ x ∈ R, x.1.length ≤ 101 ∧ x.2.length ≤ m + 1 ∧ ShortRows 101 x.2) : (dictT G R).length ≤ (n + 1) * (104 + (m + 1) * 102) := by
  have h1 : ∀ l ∈ dictLn G R, l.length ≤ 103 + (m + 1) * 102 := fun l hl => by
    have key : ∀ x : List UInt8 × List (List UInt8), x.1.length ≤ 101 → x.2.length ≤ m + 1 → ShortRows 101 x.2 → (rowLn x).length ≤ 103 + (m + 1) * 102 := fun x a b c => by
      have h2 := joinW_len x.2 101 c
      have h3 : x.2.length * (101 + 1) ≤ (m + 1) * 102 := Nat.mul_le_mul_right _ b
      unfold rowLn
      rw [List.length_append, List.length_cons]
      omega
    unfold dictLn at hl
    rcases List.mem_cons.1 hl with rfl | hl
    · exact key (goodN, G) (show goodN.length ≤ 101 by decide) (by simp only; omega) hGs
    · obtain ⟨x, hx, rfl⟩ := List.mem_map.1 hl
      obtain ⟨a, b, c⟩ := hRs x hx
      exact key x a b c
  have h2 : ∀ L : List (List UInt8), (∀ l ∈ L, l.length ≤ 103 + (m + 1) * 102) → (linesV L).length ≤ L.length * (104 + (m + 1) * 102) := fun L => by
    induction L with
    | nil => intro _; simp [linesV]
    | cons l L ih =>
      intro h
      have := ih fun x hx => h x (by simp [hx])
      have := h l (by simp)
      have e : linesV (l :: L) = l ++ [10] ++ linesV L := by simp [linesV]
      rw [e, List.length_append, List.length_append, List.length_singleton, List.length_cons, Nat.succ_mul]
      omega
  have h3 := h2 _ h1
  have h4 : (dictLn G R).length ≤ n + 1 := by unfold dictLn; rw [List.length_cons, List.length_map]; omega
  exact Nat.le_trans h3 (Nat.mul_le_mul_right _ h4)
end Go.Proofs.YtpifoghhaohhaaaGreatDoor
namespace Go.Proofs.YtpifoghhaohhaaaGreatDoor
open Go.RowKit Go.Shelf Go.Lib
theorem extra156 : Builder.Extra Tryz.prog Tryz.lays156_ren where
  sizeBuilder := by kernel_rfl
  liesBuilder := by kernel_rfl
  t5 := Tryz.underlying5
  a5 := Tryz.isAgg5
  z5 := Tryz.sizeOf5
  v5 := Tryz.zeroValue5
  infoByte := by kernel_rfl
  cellsByte := by kernel_rfl
  sizeByte := by kernel_rfl
  neB5 := by decide
theorem join_cc (nl : Bool) (l : List (List UInt8)) (sep : List UInt8) (nid : Nat) (hl : l.length ≤ 1000000) (hj : (Lib.join l sep).length ≤ 140737488355328) : ACall Tryz.prog 160 [.lit nl l.length [.s fun i => l.getD i []], .str sep] [] nid (.str (Lib.join l sep)) [] :=
  acall_lib nid Tryz.func160 (by kernel_rfl) (by kernel_rfl) (fun Y m w vs hvl hrep hG hY => by
    obtain ⟨v0, v1, rfl⟩ : ∃ v0 v1, vs = [v0, v1] := by
      match vs, hvl with
      | [a, b], _ => exact ⟨a, b, rfl⟩
    have r0 := hrep 0 _ _ rfl rfl
    have r1 := (hrep 1 _ _ rfl rfl).str_inv
    subst r1
    obtain ⟨A, cap, rfl, hle, hcells⟩ := r0.strs_inv
    have hf : Tryz.lays156_ren.f 156 = 160 := by kernel_rfl
    rcases Nat.eq_zero_or_pos l.length with h0 | h0
    · have hl0 : l = [] := List.eq_nil_of_length_eq_zero h0
      subst hl0
      have h := Any.strings_Join_none Tryz.lays156 extra156 A cap ⟨sep.toArray⟩ w
      rw [hf] at h
      exact h.mono fun e w' ⟨he, hw⟩ => ⟨_, he, .str, hw ▸ Below.refl _ _⟩
    · obtain ⟨b, o, rfl, hb, hc⟩ := hcells h0
      have hmap : (l.map fun s => (⟨s.toArray⟩ : ByteArray)).map (·.data.toList) = l := by
        rw [List.map_map]
        conv => rhs; rw [← List.map_id l]
        refine List.map_congr_left fun s _ => by simp
      have h := Any.strings_Join Tryz.lays156 extra156 b o cap (l.map fun s => ⟨s.toArray⟩) ⟨sep.toArray⟩ w (fun j x hx => by
        rw [List.getElem?_map] at hx
        rcases Nat.lt_or_ge j l.length with hj | hj
        · rw [List.getElem?_eq_getElem hj] at hx
          simp only [Option.map_some, Option.some.injEq] at hx
          subst hx
          have := hc j hj
          rw [List.getD_eq_getElem?_getD, List.getElem?_eq_getElem hj] at this
          exact this
        · rw [List.getElem?_eq_none hj] at hx; cases hx) hb (by rw [List.length_map]; omega) (by rw [List.length_map]; exact hle) (by rw [hmap]; simpa using hj)
      rw [hf, hmap, List.length_map] at h
      exact h.mono fun e w' ⟨he, hB⟩ => ⟨_, he, by simpa using Rep.str, hB⟩)
end Go.Proofs.YtpifoghhaohhaaaGreatDoor
namespace Go.Proofs.YtpifoghhaohhaaaGreatDoor
open Go.RowKit Go.Shelf Go.Lib
theorem lays166 : Lays.n166 Tryz.prog Tryz.lays105_ren := { Tryz.lays105 with }
theorem lays169 : Lays.n169 Tryz.prog Tryz.lays105_ren := { Tryz.lays105 with }
def bld0 : Option ABlk := some (.box 186 [.nilp, .lit true 0 []])
def bld (id ob : Nat) (l : List UInt8) : Option ABlk := some (.box 186 [.ptr id 0, .sl ob 0 l.length])
def arrBy (l : List UInt8) : Option ABlk := some (.arr 5 l.length (byteC l))
theorem wr0_c (id nid : Nat) (hid : id < nid) (s : List UInt8) (hlen : s.length ≤ 140737488355328) :
    ACall Tryz.prog 159 [.ptr id 0, .str s] [(id, bld0)] nid (.tup [.int .i64 s.length, .any]) [(id, bld id nid s), (nid, arrBy s)] :=
  acall_wr0 lays166 extra105 (by decide) (by kernel_rfl) (by kernel_rfl) (by kernel_rfl) Tryz.func159 (by kernel_rfl) (by kernel_rfl) id nid hid s hlen
theorem wr_c (id ob nid : Nat) (hid : id < nid) (hob : ob < nid) (hne : (id == ob) = false) (l s : List UInt8) (hlen : l.length + s.length ≤ 140737488355328) :
    ACall Tryz.prog 159 [.ptr id 0, .str s] [(id, bld id ob l), (ob, arrBy l)] nid (.tup [.int .i64 s.length, .any]) [(id, bld id nid (l ++ s)), (nid, arrBy (l ++ s)), (ob, none)] :=
  acall_wr lays166 extra105 (by decide) (by kernel_rfl) (by kernel_rfl) (by kernel_rfl) Tryz.func159 (by kernel_rfl) (by kernel_rfl) id ob nid hid hob hne l s hlen
theorem bstr_c (id ob nid : Nat) (hne : (id == ob) = false) (l : List UInt8) (h0 : l ≠ []) : ACall Tryz.prog 162 [.ptr id 0] [(id, bld id ob l), (ob, arrBy l)] nid (.str l) [(id, none), (ob, none)] :=
  acall_str lays169 extra105 (by decide) (by kernel_rfl) (by kernel_rfl) (by kernel_rfl) Tryz.func162 (by kernel_rfl) (by kernel_rfl) id ob nid hne l h0
end Go.Proofs.YtpifoghhaohhaaaGreatDoor
namespace Go.Proofs.YtpifoghhaohhaaaGreatDoor
open Go.RowKit Go.Shelf Go.Lib
abbrev SeenL := List (Int × List UInt8)
def sT (S : SeenL) (k : Nat) : Int := (S.getD k (0, [])).1
def sR (S : SeenL) (k : Nat) : List UInt8 := (S.getD k (0, [])).2
def offB (L : List (List UInt8)) (t : Int) (r : List UInt8) : Bool := !(L.getD t.toNat [] == r)
def consB (L : List (List UInt8)) (S : SeenL) : Bool := !(List.range S.length).any (fun k => offB L (sT S k) (sR S k))
end Go.Proofs.YtpifoghhaohhaaaGreatDoor
namespace Go.Proofs.YtpifoghhaohhaaaGreatDoor
open Go.RowKit Go.Shelf Go.Lib
def seenBad (n : Nat) (S : SeenL) (k : Nat) : Int :=
  if outB (sT S k) 0 ((n : Int) - 1) = true then 1 else if oddS (sR S k) = true then 9 else if 0 < k ∧ sT S k ≤ sT S (k - 1) then 7 else 0
structure SnW (S : SeenL) : Prop where
  l : S.length ≤ 1000000
  r : ∀ k, (sR S k).length ≤ 1000000
end Go.Proofs.YtpifoghhaohhaaaGreatDoor
namespace Go.Proofs.YtpifoghhaohhaaaGreatDoor
open Go.RowKit Go.Shelf Go.Lib
theorem firstBad_all0 {f : Nat → Int} {n : Nat} (h : firstBad f (List.range n) = 0) : ∀ j, j < n → f j = 0 := fun j hj => firstBad_all h j (List.mem_range.2 hj)
theorem dictV_rows {G : List (List UInt8)} {R : RowL} (h : dictV G R = 0) : ∀ j, j < R.length → (rowR R j).length = G.length := fun j hj => by
  unfold dictV at h
  split at h
  · omega
  split at h
  · omega
  split at h
  · omega
  have := firstBad_all0 h j hj
  unfold rowBad at this
  split at this
  · omega
  split at this
  · omega
  omega
def rowsP (r0 : Bool) (b : Nat → Bool) (R : RowL) : PV := .lit r0 R.length [.s fun k => rowF R k, .l b (fun k => (rowR R k).length) (fun k => [.s fun j => (rowR R k).getD j []])]
end Go.Proofs.YtpifoghhaohhaaaGreatDoor
namespace Go.Proofs.YtpifoghhaohhaaaGreatDoor
open Go.RowKit Go.Shelf Go.Lib
theorem lines_part (L : List (List UInt8)) (k : Nat) : (linesV (L.take k)).length ≤ (linesV L).length := by
  have e : linesV L = linesV (L.take k) ++ linesV (L.drop k) := by
    unfold linesV
    rw [← List.flatten_append, ← List.map_append, List.take_append_drop]
  rw [e, List.length_append]
  omega
theorem lines_succ {L : List (List UInt8)} {k : Nat} (h : k < L.length) : linesV (L.take (k + 1)) = linesV (L.take k) ++ (L.getD k [] ++ [10]) := by
  have e : L.take (k + 1) = L.take k ++ [L.getD k []] := take_snoc (by rw [List.getD_eq_getElem?_getD, List.getElem?_eq_getElem h]; rfl)
  rw [e]
  simp [linesV]
theorem dictLn_at (G : List (List UInt8)) {R : RowL} {k : Nat} (hk : k < R.length) : (dictLn G R).getD (k + 1) [] = rowF R k ++ 32 :: joinW (rowR R k) := by
  obtain ⟨e1, e2⟩ := row_at hk
  unfold dictLn
  rw [List.getD_cons_succ, List.getD_eq_getElem?_getD, List.getElem?_map, List.getElem?_eq_getElem hk, e1, e2]
  rfl
theorem dictLn_0 (G : List (List UInt8)) (R : RowL) : linesV ((dictLn G R).take 1) = 103 :: 111 :: 111 :: 100 :: 32 :: (joinW G ++ [10]) := by
  simp [dictLn, linesV, rowLn, goodN]
theorem dictLn_len (G : List (List UInt8)) (R : RowL) : (dictLn G R).length = R.length + 1 := by simp [dictLn]
theorem dict_step {G : List (List UInt8)} {R : RowL} {k : Nat} (hk : k < R.length) : linesV ((dictLn G R).take (k + 1 + 1)) = linesV ((dictLn G R).take (k + 1)) ++ (((rowF R k ++ [32]) ++ joinW (rowR R k)) ++ [10]) := by
  rw [lines_succ (by rw [dictLn_len]; omega), dictLn_at G hk]
  simp
structure TxtW (G : List (List UInt8)) (R : RowL) : Prop where
  all : (dictT G R).length ≤ 200000
theorem TxtW.pre {G : List (List UInt8)} {R : RowL} (h : TxtW G R) (k : Nat) : (linesV ((dictLn G R).take k)).length ≤ 200000 := by
  have := lines_part (dictLn G R) k
  have := h.all
  unfold dictT at this
  omega
theorem TxtW.g {G : List (List UInt8)} {R : RowL} (h : TxtW G R) : (joinW G).length ≤ 200000 := by
  have := h.pre 1
  rw [dictLn_0] at this
  simp only [List.length_append, List.length_cons, List.length_nil] at this
  omega
theorem TxtW.r {G : List (List UInt8)} {R : RowL} (h : TxtW G R) {k : Nat} (hk : k < R.length) : (linesV ((dictLn G R).take (k + 1))).length + ((((rowF R k ++ [32]) ++ joinW (rowR R k)) ++ [10]).length) ≤ 200000 := by
  have := h.pre (k + 2)
  rw [dict_step hk, List.length_append] at this
  exact this
theorem bldLen_c (id ob nid : Nat) (h1 : id < nid) (h2 : ob < nid) (n1 : id ≠ ob) (l : List UInt8) : ACall Tryz.prog 161 [.ptr id 0] [(id, bld id ob l), (ob, arrBy l)] nid (.int .i64 l.length) [] := by
  obtain ⟨a1, a2, a3, a4, a5, a6, a7, a8, a9⟩ := id_all h1; obtain ⟨b1, b2, b3, b4, b5, b6, b7, b8, b9⟩ := id_all h2; have g1 : (id == ob) = false := (by simpa using n1); have g2 : (ob == id) = false := (by simpa using fun h => n1 h.symm); have m1 : ¬ ob = id := fun h => n1 h.symm
  refine acall_run c161 (by simp [a161]) ?_
  unfold bld arrBy
  simp -dsimp only [a161, aqT, aqU, aqN, aqS, ↓seqK, ↓blkK, ↓loopK, step, stepBin, Nat.add_assoc nid, ↓reduceIte, Option.toList, ← Int.ofNat_tmod, ← Int.ofNat_tdiv, simprocAttr, BEq.rfl, LN_succ, a1, a2, a3, a4, a5, a6, a7, a8, a9, b1, b2, b3, b4, b5, b6, b7, b8, b9, g1, g2, n1, m1]
  refine RetOK.go [] [] (.inl rfl) ?_
  simp [a161, cvT, step, res, a1, a2, a3, a4, a5, a6, a7, a8, a9, b1, b2, b3, b4, b5, b6, b7, b8, b9, g1, g2, n1, m1, byteC]
set_option maxHeartbeats 4000000 in
theorem text_c (g0 r0 : Bool) (b : Nat → Bool) (G : List (List UInt8)) (R : RowL) (nid : Nat) (hB : DictW G R) (hD : dictV G R = 0) (hT : TxtW G R) :
    ACall Tryz.prog 68 [dictP g0 r0 b G R] [] nid (.tup [.str (dictT G R), .int .i64 0]) [] := by
  have hd := fun m => dictD_c g0 r0 b G R m hB
  rw [hD] at hd
  have hgl := hB.gl
  have hrl := hB.rl
  have hjg := hT.g
  have hj0 := dictLn_0 G R
  have hne : linesV ((dictLn G R).take (R.length + 1)) ≠ [] := by
    rw [List.take_of_length_le (by rw [dictLn_len]; omega)]
    simp [dictLn, linesV]
  have hpre := hT.pre
  have hrr := fun k hk => hT.r (k := k) hk
  have hst := fun k hk => dict_step (G := G) (R := R) (k := k) hk
  have hend : linesV ((dictLn G R).take (R.length + 1)) = dictT G R := by rw [List.take_of_length_le (by rw [dictLn_len]; omega)]; rfl
  refine acall_sr c68 (by simp [a68]) ?_
  unfold a68 dictP at *
  refine SR.seq ?_
  simp -dsimp only [aqT, aqU, aqN, aqS, ↓seqK, ↓blkK, ↓loopK, step, stepBin, Nat.add_assoc nid, ↓reduceIte, Option.toList, ← Int.ofNat_tmod, ← Int.ofNat_tdiv, simprocAttr, BEq.rfl, LN_succ]
  refine SR.seqTo ⟨[(1, .ptr nid 0)], [(nid, boxP2 g0 r0 b G R)], nid + 100, nid⟩ ?_ ?_
  · simp -dsimp only [aqT, aqU, aqN, aqS, ↓seqK, ↓blkK, ↓loopK, step, stepBin, Nat.add_assoc nid, ↓reduceIte, Option.toList, ← Int.ofNat_tmod, ← Int.ofNat_tdiv, simprocAttr, BEq.rfl, LN_succ]
    refine CallO.pure (hd _) ?_
    simp -dsimp only [aqT, aqU, aqN, aqS, ↓seqK, ↓blkK, ↓loopK, step, stepBin, Nat.add_assoc nid, ↓reduceIte, Option.toList, ← Int.ofNat_tmod, ← Int.ofNat_tdiv, simprocAttr, BEq.rfl, LN_succ]
    refine Cov.go [] [] ?_
    simp [cvT, step, res, boxP2, ColsEq.refl, -List.getD_eq_getElem?_getD]
  clear hd
  unfold boxP2
  refine SR.seq ?_
  simp -dsimp only [aqT, aqU, aqN, aqS, ↓seqK, ↓blkK, ↓loopK, step, stepBin, Nat.add_assoc nid, ↓reduceIte, Option.toList, ← Int.ofNat_tmod, ← Int.ofNat_tdiv, simprocAttr, BEq.rfl, LN_succ]
  refine SR.seqTo ⟨[(5, .ptr (nid + 4) 0), (1, .ptr nid 0)], [(nid + 4, bld (nid + 4) (nid + 8) (linesV ((dictLn G R).take 1))), (nid + 8, arrBy (linesV ((dictLn G R).take 1))), (nid, boxP2 g0 r0 b G R)], nid + 200, nid⟩ ?_ ?_
  · simp -dsimp only [aqT, aqU, aqN, aqS, ↓seqK, ↓blkK, ↓loopK, step, stepBin, Nat.add_assoc nid, ↓reduceIte, Option.toList, ← Int.ofNat_tmod, ← Int.ofNat_tdiv, simprocAttr, BEq.rfl, LN_succ]
    refine CallO.pure (join_cc g0 G [32] _ hgl (by rw [join_joinW]; omega)) ?_
    rw [join_joinW]
    simp -dsimp only [aqT, aqU, aqN, aqS, ↓seqK, ↓blkK, ↓loopK, step, stepBin, Nat.add_assoc nid, ↓reduceIte, Option.toList, ← Int.ofNat_tmod, ← Int.ofNat_tdiv, simprocAttr, BEq.rfl, LN_succ]
    refine ⟨by omega, by omega, ?_⟩
    rw [← hj0]
    have := hpre 1
    refine CallO.on (wr0_c (nid + 100) _ (by omega) _ (by omega)) (subH_get (by simp only [aqT, aqU, aqN, aqS, ↓seqK, ↓blkK, ↓loopK, step, stepBin, Nat.add_assoc nid, ↓reduceIte, Option.toList, ← Int.ofNat_tmod, ← Int.ofNat_tdiv, simprocAttr, BEq.rfl, LN_succ, bld0])) ?_
    generalize linesV ((dictLn G R).take 1) = L at *
    unfold bld arrBy
    simp -dsimp only [aqT, aqU, aqN, aqS, ↓seqK, ↓blkK, ↓loopK, step, stepBin, Nat.add_assoc nid, ↓reduceIte, Option.toList, ← Int.ofNat_tmod, ← Int.ofNat_tdiv, simprocAttr, BEq.rfl, LN_succ]
    refine Cov.go [(nid + 4, nid + 100), (nid + 8, nid + 124)] [] ?_
    simp [cvT, step, res, boxP2, byteC, ColsEq.refl, -List.getD_eq_getElem?_getD]
  unfold bld arrBy boxP2
  refine SR.seqW (ι := Unit) (fun _ => ⟨[(5, .ptr (nid + 4) 0), (1, .ptr nid 0)], [(nid + 4, bld (nid + 4) (nid + 8) (dictT G R)), (nid + 8, arrBy (dictT G R))], nid + 900, nid⟩) ?_ (fun _ => ?_)
  · refine SR.seqTo ⟨[(22, .int .i64 0), (21, .int .i64 R.length), (20, rowsP r0 b R), (5, .ptr (nid + 4) 0), (1, .ptr nid 0)], [(nid + 4, bld (nid + 4) (nid + 8) (linesV ((dictLn G R).take 1))), (nid + 8, arrBy (linesV ((dictLn G R).take 1))), (nid, boxP2 g0 r0 b G R)], nid + 300, nid⟩ ?_ ?_
    · generalize linesV ((dictLn G R).take 1) = L at *
      simp -dsimp only [aqT, aqU, aqN, aqS, ↓seqK, ↓blkK, ↓loopK, step, stepBin, Nat.add_assoc nid, ↓reduceIte, Option.toList, ← Int.ofNat_tmod, ← Int.ofNat_tdiv, simprocAttr, BEq.rfl, LN_succ]
      refine Cov.go [] [] ?_
      simp [cvT, step, res, boxP2, rowsP, bld, arrBy, byteC, ColsEq.refl, -List.getD_eq_getElem?_getD]
    refine SR.block ?_
    refine SR.loopP (fun k : Nat => k ≤ R.length) (fun k => ⟨[(22, .int .i64 k), (21, .int .i64 R.length), (20, rowsP r0 b R), (5, .ptr (nid + 4) 0), (1, .ptr nid 0)], [(nid + 4, bld (nid + 4) (nid + 8) (linesV ((dictLn G R).take (k + 1)))), (nid + 8, arrBy (linesV ((dictLn G R).take (k + 1)))), (nid, boxP2 g0 r0 b G R)], nid + 400, nid⟩) (fun k => R.length + 1 - k) 0 (by omega) (Cov.go [] [] ?_) (fun k hk => ?_)
    · simp [cvT, step, res, boxP2, rowsP, bld, arrBy, byteC, ColsEq.refl, -List.getD_eq_getElem?_getD]
    have hrr := hrr k
    have hst := hst k
    have hend2 : k = R.length → dictT G R = linesV ((dictLn G R).take (k + 1)) := fun e => by rw [e]; exact hend.symm
    generalize linesV ((dictLn G R).take (k + 1)) = L at *
    generalize hL2 : linesV ((dictLn G R).take (k + 1 + 1)) = L2 at *
    refine SR.run (t := .mk) ?_
    unfold rowsP bld arrBy boxP2
    simp -dsimp only [aqT, aqU, aqN, aqS, ↓seqK, ↓blkK, ↓loopK, step, stepBin, Nat.add_assoc nid, ↓reduceIte, Option.toList, ← Int.ofNat_tmod, ← Int.ofNat_tdiv, simprocAttr, BEq.rfl, LN_succ]
    refine S2.dec (fun h3 => ?_) (fun h3 => ?_) <;> simp -dsimp only [aqT, aqU, aqN, aqS, ↓seqK, ↓blkK, ↓loopK, step, stepBin, Nat.add_assoc nid, ↓reduceIte, Option.toList, ← Int.ofNat_tmod, ← Int.ofNat_tdiv, simprocAttr, BEq.rfl, LN_succ]
    · have hkl : k < R.length := by omega
      have hrr := hrr hkl
      have hst := hst hkl
      obtain ⟨hf1, hr1, hs1⟩ := hB.rs k
      have hl1 : ([10] : List UInt8).length = 1 := rfl
      have hl3 : ([32] : List UInt8).length = 1 := rfl
      simp only [List.length_append, hl1, hl3] at hrr
      refine ⟨by omega, by omega, CallX.pure (join_cc (b k) (rowR R k) [32] _ hr1 (by rw [join_joinW]; omega)) ?_⟩
      rw [join_joinW]
      simp -dsimp only [aqT, aqU, aqN, aqS, ↓seqK, ↓blkK, ↓loopK, step, stepBin, Nat.add_assoc nid, ↓reduceIte, Option.toList, ← Int.ofNat_tmod, ← Int.ofNat_tdiv, simprocAttr, BEq.rfl, LN_succ]
      refine ⟨by rw [List.length_append]; omega, by rw [List.length_append, List.length_append]; omega, ?_⟩
      refine CallX.on (wr_c (nid + 4) (nid + 8) _ (by omega) (by omega) (by simp) L _ (by simp only [List.length_append, hl1, hl3]; omega)) (subH_cons (by simp only [aqT, aqU, aqN, aqS, ↓seqK, ↓blkK, ↓loopK, step, stepBin, Nat.add_assoc nid, ↓reduceIte, Option.toList, ← Int.ofNat_tmod, ← Int.ofNat_tdiv, simprocAttr, BEq.rfl, LN_succ, bld]) (subH_get (by simp only [aqT, aqU, aqN, aqS, ↓seqK, ↓blkK, ↓loopK, step, stepBin, Nat.add_assoc nid, ↓reduceIte, Option.toList, ← Int.ofNat_tmod, ← Int.ofNat_tdiv, simprocAttr, BEq.rfl, LN_succ, arrBy]))) ?_
      rw [← hst]
      unfold bld arrBy
      simp -dsimp only [aqT, aqU, aqN, aqS, ↓seqK, ↓blkK, ↓loopK, step, stepBin, Nat.add_assoc nid, ↓reduceIte, Option.toList, ← Int.ofNat_tmod, ← Int.ofNat_tdiv, simprocAttr, BEq.rfl, LN_succ]
      refine ⟨rfl, by unfold inI64; omega, k + 1, ⟨by omega, by omega⟩, Cov.go [(nid + 8, nid + 452)] [] ?_⟩
      simp [hL2, cvT, step, res, boxP2, rowsP, bld, arrBy, byteC, ColsEq.refl, -List.getD_eq_getElem?_getD]
    · rw [hend2 (by omega)]
      refine ⟨(), Cov.go [] [] ?_⟩
      simp [cvT, step, res, bld, arrBy, byteC, ColsEq.refl, -List.getD_eq_getElem?_getD]
  rw [hend] at hne
  have hal := hT.all
  generalize dictT G R = D at *
  refine SR.run (t := .mk) ?_
  unfold bld arrBy
  simp -dsimp only [aqT, aqU, aqN, aqS, ↓seqK, ↓blkK, ↓loopK, step, stepBin, Nat.add_assoc nid, ↓reduceIte, Option.toList, ← Int.ofNat_tmod, ← Int.ofNat_tdiv, simprocAttr, BEq.rfl, LN_succ]
  refine CallO.on (bldLen_c (nid + 4) (nid + 8) _ (by omega) (by omega) (by simp) D) (subH_cons (by simp only [aqT, aqU, aqN, aqS, ↓seqK, ↓blkK, ↓loopK, step, stepBin, Nat.add_assoc nid, ↓reduceIte, Option.toList, ← Int.ofNat_tmod, ← Int.ofNat_tdiv, simprocAttr, BEq.rfl, LN_succ, bld]) (subH_get (by simp only [aqT, aqU, aqN, aqS, ↓seqK, ↓blkK, ↓loopK, step, stepBin, Nat.add_assoc nid, ↓reduceIte, Option.toList, ← Int.ofNat_tmod, ← Int.ofNat_tdiv, simprocAttr, BEq.rfl, LN_succ, arrBy]))) ?_
  simp -dsimp only [aqT, aqU, aqN, aqS, ↓seqK, ↓blkK, ↓loopK, step, stepBin, Nat.add_assoc nid, ↓reduceIte, Option.toList, ← Int.ofNat_tmod, ← Int.ofNat_tdiv, simprocAttr, BEq.rfl, LN_succ]
  refine S2.no (by simp; omega) ?_
  simp -dsimp only [aqT, aqU, aqN, aqS, ↓seqK, ↓blkK, ↓loopK, step, stepBin, Nat.add_assoc nid, ↓reduceIte, Option.toList, ← Int.ofNat_tmod, ← Int.ofNat_tdiv, simprocAttr, BEq.rfl, LN_succ]
  refine CallO.on (bstr_c (nid + 4) (nid + 8) _ (by simp) D hne) (subH_cons (by simp only [aqT, aqU, aqN, aqS, ↓seqK, ↓blkK, ↓loopK, step, stepBin, Nat.add_assoc nid, ↓reduceIte, Option.toList, ← Int.ofNat_tmod, ← Int.ofNat_tdiv, simprocAttr, BEq.rfl, LN_succ, bld]) (subH_get (by simp only [aqT, aqU, aqN, aqS, ↓seqK, ↓blkK, ↓loopK, step, stepBin, Nat.add_assoc nid, ↓reduceIte, Option.toList, ← Int.ofNat_tmod, ← Int.ofNat_tdiv, simprocAttr, BEq.rfl, LN_succ, arrBy]))) ?_
  simp -dsimp only [aqT, aqU, aqN, aqS, ↓seqK, ↓blkK, ↓loopK, step, stepBin, Nat.add_assoc nid, ↓reduceIte, Option.toList, ← Int.ofNat_tmod, ← Int.ofNat_tdiv, simprocAttr, BEq.rfl, LN_succ]
  refine RetOK.pure (.inl rfl) rfl ?_
  simp [cvT, step, res]
end Go.Proofs.YtpifoghhaohhaaaGreatDoor
namespace Go.Proofs.YtpifoghhaohhaaaGreatDoor
open Go.RowKit Go.Shelf Go.Lib
theorem consCol (x : List UInt8) (l : List (List UInt8)) : (fun i => if i < 1 then [x].getD i [] else l.getD (i - 1) []) = fun i => (x :: l).getD i [] := by
  funext i
  cases i with
  | zero => rfl
  | succ i => rw [if_neg (by omega), List.getD_cons_succ, Nat.add_sub_cancel]
set_option maxHeartbeats 4000000 in
theorem dictLines_c (g0 r0 : Bool) (b : Nat → Bool) (G : List (List UInt8)) (R : RowL) (nid : Nat) (hB : DictW G R) (hD : dictV G R = 0) (hT : TxtW G R) :
    ACall Tryz.prog 69 [dictP g0 r0 b G R] [] nid (.str (dictT G R)) [] := by
  have hgl := hB.gl
  have hrl := hB.rl
  have hjg := hT.g
  have hj0 := dictLn_0 G R
  have hok := dict_ok hD
  have hlo := hok.lo
  have hhi := hok.hi
  have hG : G ≠ [] := len_ne_nil hlo
  have hrn : ∀ k, k < R.length → rowR R k ≠ [] := fun k hk => by
    have := dictV_rows hD k hk
    exact len_ne_nil (by omega)
  have hne : linesV ((dictLn G R).take (R.length + 1)) ≠ [] := by
    rw [List.take_of_length_le (by rw [dictLn_len]; omega)]
    simp [dictLn, linesV]
  have hpre := hT.pre
  have hrr := fun k hk => hT.r (k := k) hk
  have hst := fun k hk => dict_step (G := G) (R := R) (k := k) hk
  have hend : linesV ((dictLn G R).take (R.length + 1)) = dictT G R := by rw [List.take_of_length_le (by rw [dictLn_len]; omega)]; rfl
  refine acall_sr c69 (by simp [a69]) ?_
  unfold a69 dictP at *
  refine SR.seq ?_
  simp -dsimp only [aqT, aqU, aqN, aqS, ↓seqK, ↓blkK, ↓loopK, step, stepBin, Nat.add_assoc nid, ↓reduceIte, Option.toList, ← Int.ofNat_tmod, ← Int.ofNat_tdiv, simprocAttr, BEq.rfl, LN_succ]
  refine SR.seq ?_
  simp -dsimp only [aqT, aqU, aqN, aqS, ↓seqK, ↓blkK, ↓loopK, step, stepBin, Nat.add_assoc nid, ↓reduceIte, Option.toList, ← Int.ofNat_tmod, ← Int.ofNat_tdiv, simprocAttr, BEq.rfl, LN_succ]
  refine SR.seqTo ⟨[(3, .ptr (nid + 4) 0), (1, .ptr nid 0)], [(nid + 4, bld (nid + 4) (nid + 8) (linesV ((dictLn G R).take 1))), (nid + 8, arrBy (linesV ((dictLn G R).take 1))), (nid, boxP2 g0 r0 b G R)], nid + 200, nid⟩ ?_ ?_
  · simp -dsimp only [aqT, aqU, aqN, aqS, ↓seqK, ↓blkK, ↓loopK, step, stepBin, Nat.add_assoc nid, ↓reduceIte, Option.toList, ← Int.ofNat_tmod, ← Int.ofNat_tdiv, simprocAttr, BEq.rfl, LN_succ]
    have e0 := consCol [103, 111, 111, 100] G
    refine ⟨⟨by omega, by omega⟩, ?_⟩
    have hl4 : ([103, 111, 111, 100] : List UInt8).length = 4 := rfl
    have hjw : joinW (([103, 111, 111, 100] : List UInt8) :: G) = [103, 111, 111, 100] ++ 32 :: joinW G := joinW_cons _ hG
    have hjl : (joinW (([103, 111, 111, 100] : List UInt8) :: G)).length ≤ 200005 := by rw [hjw]; simp only [List.length_append, List.length_cons, hl4]; omega
    refine CallO.lent [nid + 24] (fun nl' => by
      simp only [lends, lend, noOs, aqT, aqU, aqN, aqS, ↓seqK, ↓blkK, ↓loopK, step, stepBin, Nat.add_assoc nid, ↓reduceIte, Option.toList, ← Int.ofNat_tmod, ← Int.ofNat_tdiv, simprocAttr, BEq.rfl, LN_succ]
      rw [e0]
      have h := join_cc (nl' (nid + 24)) (([103, 111, 111, 100] : List UInt8) :: G) [32] (nid + 28) (by rw [List.length_cons]; omega) (by rw [join_joinW]; omega)
      rw [show (([103, 111, 111, 100] : List UInt8) :: G).length = 1 + G.length by simp [Nat.add_comm]] at h
      exact h) rfl rfl (by simp only [List.mem_singleton, forall_eq, aqT, aqU, aqN, aqS, ↓seqK, ↓blkK, ↓loopK, step, stepBin, Nat.add_assoc nid, ↓reduceIte, Option.toList, ← Int.ofNat_tmod, ← Int.ofNat_tdiv, simprocAttr, BEq.rfl, LN_succ]) ?_
    rw [join_joinW]
    simp -dsimp only [aqT, aqU, aqN, aqS, ↓seqK, ↓blkK, ↓loopK, step, stepBin, Nat.add_assoc nid, ↓reduceIte, Option.toList, ← Int.ofNat_tmod, ← Int.ofNat_tdiv, simprocAttr, BEq.rfl, LN_succ]
    have hl1 : ([10] : List UInt8).length = 1 := rfl
    have e1 : joinW (([103, 111, 111, 100] : List UInt8) :: G) ++ [10] = linesV ((dictLn G R).take 1) := by rw [hj0, hjw]; simp
    refine ⟨by omega, ?_⟩
    rw [e1]
    have := hpre 1
    refine CallO.on (wr0_c (nid + 8) _ (by omega) _ (by omega)) (subH_get (by simp only [aqT, aqU, aqN, aqS, ↓seqK, ↓blkK, ↓loopK, step, stepBin, Nat.add_assoc nid, ↓reduceIte, Option.toList, ← Int.ofNat_tmod, ← Int.ofNat_tdiv, simprocAttr, BEq.rfl, LN_succ, bld0])) ?_
    generalize linesV ((dictLn G R).take 1) = L at *
    unfold bld arrBy
    simp -dsimp only [aqT, aqU, aqN, aqS, ↓seqK, ↓blkK, ↓loopK, step, stepBin, Nat.add_assoc nid, ↓reduceIte, Option.toList, ← Int.ofNat_tmod, ← Int.ofNat_tdiv, simprocAttr, BEq.rfl, LN_succ]
    refine Cov.go [(nid + 4, nid + 8), (nid + 8, nid + 36)] [] ?_
    simp [cvT, step, res, boxP2, byteC, ColsEq.refl, -List.getD_eq_getElem?_getD]
  unfold bld arrBy boxP2
  refine SR.seqW (ι := Unit) (fun _ => ⟨[(3, .ptr (nid + 4) 0), (1, .ptr nid 0)], [(nid + 4, bld (nid + 4) (nid + 8) (dictT G R)), (nid + 8, arrBy (dictT G R))], nid + 900, nid⟩) ?_ (fun _ => ?_)
  · refine SR.seqTo ⟨[(16, .int .i64 0), (15, .int .i64 R.length), (14, rowsP r0 b R), (3, .ptr (nid + 4) 0), (1, .ptr nid 0)], [(nid + 4, bld (nid + 4) (nid + 8) (linesV ((dictLn G R).take 1))), (nid + 8, arrBy (linesV ((dictLn G R).take 1))), (nid, boxP2 g0 r0 b G R)], nid + 300, nid⟩ ?_ ?_
    · generalize linesV ((dictLn G R).take 1) = L at *
      simp -dsimp only [aqT, aqU, aqN, aqS, ↓seqK, ↓blkK, ↓loopK, step, stepBin, Nat.add_assoc nid, ↓reduceIte, Option.toList, ← Int.ofNat_tmod, ← Int.ofNat_tdiv, simprocAttr, BEq.rfl, LN_succ]
      refine Cov.go [] [] ?_
      simp [cvT, step, res, boxP2, rowsP, bld, arrBy, byteC, ColsEq.refl, -List.getD_eq_getElem?_getD]
    refine SR.block ?_
    refine SR.loopP (fun k : Nat => k ≤ R.length) (fun k => ⟨[(16, .int .i64 k), (15, .int .i64 R.length), (14, rowsP r0 b R), (3, .ptr (nid + 4) 0), (1, .ptr nid 0)], [(nid + 4, bld (nid + 4) (nid + 8) (linesV ((dictLn G R).take (k + 1)))), (nid + 8, arrBy (linesV ((dictLn G R).take (k + 1)))), (nid, boxP2 g0 r0 b G R)], nid + 400, nid⟩) (fun k => R.length + 1 - k) 0 (by omega) (Cov.go [] [] ?_) (fun k hk => ?_)
    · simp [cvT, step, res, boxP2, rowsP, bld, arrBy, byteC, ColsEq.refl, -List.getD_eq_getElem?_getD]
    have hrr := hrr k
    have hst := hst k
    have hend2 : k = R.length → dictT G R = linesV ((dictLn G R).take (k + 1)) := fun e => by rw [e]; exact hend.symm
    generalize linesV ((dictLn G R).take (k + 1)) = L at *
    generalize hL2 : linesV ((dictLn G R).take (k + 1 + 1)) = L2 at *
    refine SR.run (t := .mk) ?_
    unfold rowsP bld arrBy boxP2
    simp -dsimp only [aqT, aqU, aqN, aqS, ↓seqK, ↓blkK, ↓loopK, step, stepBin, Nat.add_assoc nid, ↓reduceIte, Option.toList, ← Int.ofNat_tmod, ← Int.ofNat_tdiv, simprocAttr, BEq.rfl, LN_succ]
    refine S2.dec (fun h3 => ?_) (fun h3 => ?_) <;> simp -dsimp only [aqT, aqU, aqN, aqS, ↓seqK, ↓blkK, ↓loopK, step, stepBin, Nat.add_assoc nid, ↓reduceIte, Option.toList, ← Int.ofNat_tmod, ← Int.ofNat_tdiv, simprocAttr, BEq.rfl, LN_succ]
    · have hkl : k < R.length := by omega
      have hrr := hrr hkl
      have hst := hst hkl
      have hrnk := hrn k hkl
      have hrk := dictV_rows hD k hkl
      obtain ⟨hf1, hr1, hs1⟩ := hB.rs k
      have hl1 : ([10] : List UInt8).length = 1 := rfl
      have hl3 : ([32] : List UInt8).length = 1 := rfl
      simp only [List.length_append, hl1, hl3] at hrr
      have e0 := consCol (rowF R k) (rowR R k)
      have hjw : joinW (rowF R k :: rowR R k) = rowF R k ++ 32 :: joinW (rowR R k) := joinW_cons _ hrnk
      have hjl : (joinW (rowF R k :: rowR R k)).length ≤ 200005 := by rw [hjw]; simp only [List.length_append, List.length_cons]; omega
      refine ⟨by omega, ⟨by omega, by omega⟩, ?_⟩
      refine CallO.lent [nid + 440] (fun nl' => by
        simp only [lends, lend, noOs, aqT, aqU, aqN, aqS, ↓seqK, ↓blkK, ↓loopK, step, stepBin, Nat.add_assoc nid, ↓reduceIte, Option.toList, ← Int.ofNat_tmod, ← Int.ofNat_tdiv, simprocAttr, BEq.rfl, LN_succ]
        rw [e0]
        have h := join_cc (nl' (nid + 440)) (rowF R k :: rowR R k) [32] (nid + 444) (by rw [List.length_cons]; omega) (by rw [join_joinW]; omega)
        rw [show (rowF R k :: rowR R k).length = 1 + (rowR R k).length by simp [Nat.add_comm]] at h
        exact h) rfl rfl (by simp only [List.mem_singleton, forall_eq, aqT, aqU, aqN, aqS, ↓seqK, ↓blkK, ↓loopK, step, stepBin, Nat.add_assoc nid, ↓reduceIte, Option.toList, ← Int.ofNat_tmod, ← Int.ofNat_tdiv, simprocAttr, BEq.rfl, LN_succ]) ?_
      rw [join_joinW]
      simp -dsimp only [aqT, aqU, aqN, aqS, ↓seqK, ↓blkK, ↓loopK, step, stepBin, Nat.add_assoc nid, ↓reduceIte, Option.toList, ← Int.ofNat_tmod, ← Int.ofNat_tdiv, simprocAttr, BEq.rfl, LN_succ]
      have e1 : L ++ (joinW (rowF R k :: rowR R k) ++ [10]) = L2 := by rw [hst, hjw]; simp
      refine ⟨by omega, ?_⟩
      refine CallO.on (wr_c (nid + 4) (nid + 8) _ (by omega) (by omega) (by simp) L _ (by rw [hjw]; simp only [List.length_append, List.length_cons, hl1, hl3]; omega)) (subH_cons (by simp only [aqT, aqU, aqN, aqS, ↓seqK, ↓blkK, ↓loopK, step, stepBin, Nat.add_assoc nid, ↓reduceIte, Option.toList, ← Int.ofNat_tmod, ← Int.ofNat_tdiv, simprocAttr, BEq.rfl, LN_succ, bld]) (subH_get (by simp only [aqT, aqU, aqN, aqS, ↓seqK, ↓blkK, ↓loopK, step, stepBin, Nat.add_assoc nid, ↓reduceIte, Option.toList, ← Int.ofNat_tmod, ← Int.ofNat_tdiv, simprocAttr, BEq.rfl, LN_succ, arrBy]))) ?_
      rw [e1]
      unfold bld arrBy
      simp -dsimp only [aqT, aqU, aqN, aqS, ↓seqK, ↓blkK, ↓loopK, step, stepBin, Nat.add_assoc nid, ↓reduceIte, Option.toList, ← Int.ofNat_tmod, ← Int.ofNat_tdiv, simprocAttr, BEq.rfl, LN_succ]
      refine ⟨by unfold inI64; omega, k + 1, ⟨by omega, by omega⟩, Cov.go [(nid + 8, nid + 452)] [] ?_⟩
      simp [hL2, cvT, step, res, boxP2, rowsP, bld, arrBy, byteC, ColsEq.refl, -List.getD_eq_getElem?_getD]
    · rw [hend2 (by omega)]
      refine ⟨(), Cov.go [] [] ?_⟩
      simp [cvT, step, res, bld, arrBy, byteC, ColsEq.refl, -List.getD_eq_getElem?_getD]
  rw [hend] at hne
  generalize dictT G R = D at *
  refine SR.run (t := .mk) ?_
  unfold bld arrBy
  simp -dsimp only [aqT, aqU, aqN, aqS, ↓seqK, ↓blkK, ↓loopK, step, stepBin, Nat.add_assoc nid, ↓reduceIte, Option.toList, ← Int.ofNat_tmod, ← Int.ofNat_tdiv, simprocAttr, BEq.rfl, LN_succ]
  refine CallO.on (bstr_c (nid + 4) (nid + 8) _ (by simp) D hne) (subH_cons (by simp only [aqT, aqU, aqN, aqS, ↓seqK, ↓blkK, ↓loopK, step, stepBin, Nat.add_assoc nid, ↓reduceIte, Option.toList, ← Int.ofNat_tmod, ← Int.ofNat_tdiv, simprocAttr, BEq.rfl, LN_succ, bld]) (subH_get (by simp only [aqT, aqU, aqN, aqS, ↓seqK, ↓blkK, ↓loopK, step, stepBin, Nat.add_assoc nid, ↓reduceIte, Option.toList, ← Int.ofNat_tmod, ← Int.ofNat_tdiv, simprocAttr, BEq.rfl, LN_succ, arrBy]))) ?_
  simp -dsimp only [aqT, aqU, aqN, aqS, ↓seqK, ↓blkK, ↓loopK, step, stepBin, Nat.add_assoc nid, ↓reduceIte, Option.toList, ← Int.ofNat_tmod, ← Int.ofNat_tdiv, simprocAttr, BEq.rfl, LN_succ]
  refine RetOK.pure (.inl rfl) rfl ?_
  simp [cvT, step, res]
end Go.Proofs.YtpifoghhaohhaaaGreatDoor
namespace Go.Proofs.YtpifoghhaohhaaaGreatDoor
open Go.RowKit Go.Shelf Go.Lib
theorem split_cc (s : List UInt8) (nid : Nat) (hs : s.length < 4294967281) : ACall Tryz.prog 166 [.str s, .str [10]] [] nid (.lit false (pieces s).length [.s fun i => (pieces s).getD i []]) [] :=
  acall_lib nid Tryz.func166 (by kernel_rfl) (by kernel_rfl) (fun Y m w vs hl hrep hG hY => by
    obtain ⟨v0, v1, rfl⟩ : ∃ v0 v1, vs = [v0, v1] := by
      match vs, hl with
      | [a, b], _ => exact ⟨a, b, rfl⟩
    have r0 := (hrep 0 _ _ rfl rfl).str_inv
    have r1 := (hrep 1 _ _ rfl rfl).str_inv
    subst r0; subst r1
    obtain ⟨mm, hm⟩ := hG.cell
    have h := Any.strings_Split Tryz.lays146 (by kernel_rfl) ⟨s.toArray⟩ ⟨([10] : List UInt8).toArray⟩ mm w (by simpa [ByteArray.size] using hs) hm (by decide)
    have hf : Tryz.lays146_ren.f 146 = 166 := by kernel_rfl
    rw [hf] at h
    have hd : (splitB ⟨([10] : List UInt8).toArray⟩ 0 (countB ⟨s.toArray⟩ ⟨([10] : List UInt8).toArray⟩) ⟨s.toArray⟩).map (·.data.toList) = pieces s := by
      rw [splitB_data]
      exact split_pieces s
    have hlen := splitB_all ⟨([10] : List UInt8).toArray⟩ (by decide) 0 _ ⟨s.toArray⟩ rfl
    refine h.mono fun e w' ⟨h1, h2⟩ => ?_
    generalize splitB ⟨([10] : List UInt8).toArray⟩ 0 (countB ⟨s.toArray⟩ ⟨([10] : List UInt8).toArray⟩) ⟨s.toArray⟩ = L at hd hlen h2
    rw [← hlen] at h1
    have hLl : L.length = (pieces s).length := by rw [← hd, List.length_map]
    have hat : ∀ j, j < L.length → L[j]? = some ⟨((pieces s).getD j []).toArray⟩ := fun j hj => by
      rw [← hd, List.getD_eq_getElem?_getD, List.getElem?_map, List.getElem?_eq_getElem hj]
      rfl
    refine ⟨_, h1, ?_, ?_⟩
    · rw [hLl]
      refine .lit (.l (fun j _ => .string ⟨((pieces s).getD j []).toArray⟩) rfl (fun e => by cases e) (Nat.le_refl _) (fun j k hj hk => ⟨w.heap.size, 0, rfl, fun hy => by have := hY _ hy; omega, ?_⟩) (fun j k c hj hk => ?_))
      · have hk0 : k = 0 := by simpa using hk
        subst hk0
        have hj' : j < L.length := by rw [hLl]; exact hj
        rw [h2]
        have := hat j hj'
        simp only [List.length_cons, List.length_nil, Nat.zero_add, Nat.mul_one, Nat.add_zero]
        rw [World.cell?_alloc_new]
        simp [this]
      · match k, hk with
        | 0, hk => simp at hk; subst hk; exact .s
    · rw [h2]
      exact ⟨rfl, rfl, rfl, by simp, fun k hk => by first | exact heap_alloc_old w _ k hk | exact heap_alloc_old w _ hk⟩)
end Go.Proofs.YtpifoghhaohhaaaGreatDoor
namespace Go.Proofs.YtpifoghhaohhaaaGreatDoor
open Go.RowKit Go.Shelf Go.Lib
theorem split32_cc (s : List UInt8) (nid : Nat) (hs : s.length < 4294967281) : ACall Tryz.prog 166 [.str s, .str [32]] [] nid (.lit false (wrd s).length [.s fun i => (wrd s).getD i []]) [] :=
  acall_lib nid Tryz.func166 (by kernel_rfl) (by kernel_rfl) (fun Y m w vs hl hrep hG hY => by
    obtain ⟨v0, v1, rfl⟩ : ∃ v0 v1, vs = [v0, v1] := by
      match vs, hl with
      | [a, b], _ => exact ⟨a, b, rfl⟩
    have r0 := (hrep 0 _ _ rfl rfl).str_inv
    have r1 := (hrep 1 _ _ rfl rfl).str_inv
    subst r0; subst r1
    obtain ⟨mm, hm⟩ := hG.cell
    have h := Any.strings_Split Tryz.lays146 (by kernel_rfl) ⟨s.toArray⟩ ⟨([32] : List UInt8).toArray⟩ mm w (by simpa [ByteArray.size] using hs) hm (by decide)
    have hf : Tryz.lays146_ren.f 146 = 166 := by kernel_rfl
    rw [hf] at h
    have hd : (splitB ⟨([32] : List UInt8).toArray⟩ 0 (countB ⟨s.toArray⟩ ⟨([32] : List UInt8).toArray⟩) ⟨s.toArray⟩).map (·.data.toList) = wrd s := by
      rw [splitB_data]
      exact split_wrd s
    have hlen := splitB_all ⟨([32] : List UInt8).toArray⟩ (by decide) 0 _ ⟨s.toArray⟩ rfl
    refine h.mono fun e w' ⟨h1, h2⟩ => ?_
    generalize splitB ⟨([32] : List UInt8).toArray⟩ 0 (countB ⟨s.toArray⟩ ⟨([32] : List UInt8).toArray⟩) ⟨s.toArray⟩ = L at hd hlen h2
    rw [← hlen] at h1
    have hLl : L.length = (wrd s).length := by rw [← hd, List.length_map]
    have hat : ∀ j, j < L.length → L[j]? = some ⟨((wrd s).getD j []).toArray⟩ := fun j hj => by
      rw [← hd, List.getD_eq_getElem?_getD, List.getElem?_map, List.getElem?_eq_getElem hj]
      rfl
    refine ⟨_, h1, ?_, ?_⟩
    · rw [hLl]
      refine .lit (.l (fun j _ => .string ⟨((wrd s).getD j []).toArray⟩) rfl (fun e => by cases e) (Nat.le_refl _) (fun j k hj hk => ⟨w.heap.size, 0, rfl, fun hy => by have := hY _ hy; omega, ?_⟩) (fun j k c hj hk => ?_))
      · have hk0 : k = 0 := by simpa using hk
        subst hk0
        have hj' : j < L.length := by rw [hLl]; exact hj
        rw [h2]
        have := hat j hj'
        simp only [List.length_cons, List.length_nil, Nat.zero_add, Nat.mul_one, Nat.add_zero]
        rw [World.cell?_alloc_new]
        simp [this]
      · match k, hk with
        | 0, hk => simp at hk; subst hk; exact .s
    · rw [h2]
      exact ⟨rfl, rfl, rfl, by simp, fun k hk => by first | exact heap_alloc_old w _ k hk | exact heap_alloc_old w _ hk⟩)
end Go.Proofs.YtpifoghhaohhaaaGreatDoor
namespace Go.Proofs.YtpifoghhaohhaaaGreatDoor
open Go.RowKit Go.Shelf Go.Lib
theorem dR_snoc {L : List (List UInt8)} (r : List UInt8) (h : L ≠ []) : dR (L ++ [r]) = dR L ++ [lnR r] := by
  cases L with
  | nil => exact absurd rfl h
  | cons a L => simp [dR]
theorem dG_snoc {L : List (List UInt8)} (r : List UInt8) (h : L ≠ []) : dG (L ++ [r]) = dG L := by
  cases L with
  | nil => exact absurd rfl h
  | cons a L => simp [dG]
theorem drop1_getD (l : List (List UInt8)) : Col.shift 1 (.s fun i => l.getD i []) = .s fun i => (l.drop 1).getD i [] := by
  have : (fun i => l.getD (1 + i) []) = fun i => (l.drop 1).getD i [] := by
    funext i
    rw [List.getD_eq_getElem?_getD, List.getD_eq_getElem?_getD, List.getElem?_drop]
  rw [← this]
  rfl
def cntD (k : Nat) : Option ABlk := some (.box 3 [.int .i64 (k : Nat)])
def boxQ0 : Option ABlk := some (.box 29 [.lit true 0 [], .lit true 0 []])
def boxQ (oa : Nat) (L : List (List UInt8)) : Option ABlk := some (.box 29 [.lit false (dG L).length [.s fun i => (dG L).getD i []], .sl oa 0 (dR L).length])
def noB (_ : Nat) : Bool := false
def arrQr (R : RowL) : Option ABlk := some (.arr 67 R.length [.s fun k => rowF R k, .l noB (fun k => (rowR R k).length) (fun k => [.s fun j => (rowR R k).getD j []])])
theorem rqApp_s (V : RowL) (p : List UInt8 × List (List UInt8)) {n : Nat} (hn : n = V.length + 1) : ColEq n (.s fun i => if i < V.length then rowF V i else ([p.1] : List (List UInt8)).getD (i - V.length) []) (.s fun k => rowF (V ++ [p]) k) := ColEq.s fun j hj => by
  by_cases h : j < V.length
  · rw [if_pos h, rowF_old h]
  · have e : j = V.length := by omega
    subst e
    rw [if_neg h, rowF_new rfl, Nat.sub_self]
    rfl
theorem rqApp_l (V : RowL) (p : List UInt8 × List (List UInt8)) (m : Nat) (cs : List Col) (hm : m = p.2.length) (hc : cs = [.s fun j => p.2.getD j []]) {n : Nat} (hn : n = V.length + 1) (xs : List (Bool × Nat × List Col)) (hx : xs = [(false, m, cs)]) :
    ColEq n (.l (fun i => if i < V.length then noB i else (xs.getD (i - V.length) (true, 0, [])).1) (fun i => if i < V.length then (rowR V i).length else (xs.getD (i - V.length) (true, 0, [])).2.1) (fun i => if i < V.length then [.s fun j => (rowR V i).getD j []] else (xs.getD (i - V.length) (true, 0, [])).2.2))
      (.l noB (fun k => (rowR (V ++ [p]) k).length) (fun k => [.s fun j => (rowR (V ++ [p]) k).getD j []])) := ColEq.l fun j hj => by
  subst hx; subst hm; subst hc
  by_cases h : j < V.length
  · rw [if_pos h, if_pos h, if_pos h, rowR_old h]
    exact ⟨rfl, rfl, ColsEq.refl _ _⟩
  · have e : j = V.length := by omega
    subst e
    rw [if_neg h, if_neg h, if_neg h, rowR_new rfl, Nat.sub_self]
    exact ⟨rfl, rfl, ColsEq.refl _ _⟩
theorem indexZ2_c (nl : Bool) (l : List (List UInt8)) (x : List UInt8) (nid : Nat) (hl : l.length ≤ 1000001) :
    ACall Tryz.prog 115 [.lit nl l.length [.s fun i => l.getD i []], .str x] [] nid (.int .i64 (idxF (fun y => x == y) l)) [] := by
  refine acall_run c115 (by simp [a115]) ?_
  simp -dsimp only [aqT, aqU, aqN, aqS, ↓seqK, ↓blkK, ↓loopK, step, stepBin, Nat.add_assoc nid, ↓reduceIte, Option.toList, ← Int.ofNat_tmod, ← Int.ofNat_tdiv, simprocAttr, BEq.rfl, LN_succ, a115]
  refine LP.mkP (fun k : Nat => k ≤ l.length ∧ ∀ j, j < k → (x == l.getD j []) = false) (fun k : Nat => ⟨[(8, .int .i64 k), (7, .int .i64 l.length), (0, .lit nl l.length [.s fun i => l.getD i []]), (1, .str x)], [], nid + 100, nid⟩) (fun k => l.length + 1 - k) 0 ⟨by omega, fun j hj => by omega⟩ (Cov.go [] [] ?_) (fun k hk => ?_)
  · simp [cvT, step, res]
  obtain ⟨hk, hb⟩ := hk
  simp -dsimp only [aqT, aqU, aqN, aqS, ↓seqK, ↓blkK, ↓loopK, step, stepBin, Nat.add_assoc nid, ↓reduceIte, Option.toList, ← Int.ofNat_tmod, ← Int.ofNat_tdiv, simprocAttr, BEq.rfl, LN_succ]
  refine S2.dec (fun h3 => ?_) (fun h3 => ?_) <;> simp -dsimp only [aqT, aqU, aqN, aqS, ↓seqK, ↓blkK, ↓loopK, step, stepBin, Nat.add_assoc nid, ↓reduceIte, Option.toList, ← Int.ofNat_tmod, ← Int.ofNat_tdiv, simprocAttr, BEq.rfl, LN_succ]
  · have hkl : k < l.length := by omega
    have hat := fun h => idxF_at (F := fun y => x == y) hkl h hb
    have hnx : (x == l.getD k []) = false → ∀ j, j < k + 1 → (x == l.getD j []) = false := fun h j hj => by
      by_cases e : j = k
      · rw [e]; exact h
      · exact hb j (by omega)
    generalize l.getD k [] = y at *
    refine ⟨by omega, S2.intro (fun h4 => ?_) (fun h4 => ?_)⟩ <;> simp -dsimp only [aqT, aqU, aqN, aqS, ↓seqK, ↓blkK, ↓loopK, step, stepBin, Nat.add_assoc nid, ↓reduceIte, Option.toList, ← Int.ofNat_tmod, ← Int.ofNat_tdiv, simprocAttr, BEq.rfl, LN_succ]
    · rw [hat h4]
      refine RetOK.pure (.inl rfl) rfl ?_
      simp [cvT, step, res]
    · refine ⟨by unfold inI64; omega, k + 1, ⟨⟨by omega, hnx h4⟩, by omega⟩, Cov.go [] [] ?_⟩
      simp [cvT, step, res]
  · have hkn : k = l.length := by omega
    subst hkn
    rw [idxF_no hb]
    refine RetOK.pure (.inl rfl) rfl ?_
    simp [cvT, step, res]
theorem containsZ2_c (nl : Bool) (l : List (List UInt8)) (x : List UInt8) (nid : Nat) (hl : l.length ≤ 1000001) :
    ACall Tryz.prog 38 [.lit nl l.length [.s fun i => l.getD i []], .str x] [] nid (.bool (l.contains x)) [] := by
  have e : decide (0 ≤ idxF (fun y => x == y) l) = l.contains x := by
    rw [List.contains_eq_any_beq]
    unfold idxF
    cases h : l.any (fun y => x == y) <;> simp
  refine acall_run c38 (by simp [a38]) ?_
  simp -dsimp only [aqT, aqU, aqN, aqS, ↓seqK, ↓blkK, ↓loopK, step, stepBin, Nat.add_assoc nid, ↓reduceIte, Option.toList, ← Int.ofNat_tmod, ← Int.ofNat_tdiv, simprocAttr, BEq.rfl, LN_succ, a38]
  refine CallO.pure (indexZ2_c nl l x _ hl) ?_
  simp -dsimp only [aqT, aqU, aqN, aqS, ↓seqK, ↓blkK, ↓loopK, step, stepBin, Nat.add_assoc nid, ↓reduceIte, Option.toList, ← Int.ofNat_tmod, ← Int.ofNat_tdiv, simprocAttr, BEq.rfl, LN_succ]
  rw [e]
  refine RetOK.pure (.inl rfl) rfl ?_
  simp [cvT, step, res]
set_option maxHeartbeats 2000000 in
theorem rd0_c (s nid : Nat) (r : List UInt8) (hs4 : s + 4 < nid) (hr : r.length ≤ 1000000) (hg : lnOk 0 r = true) :
    ACall Tryz.prog 165 [.str r, .ptr (s + 4) 0, .ptr s 0] [(s, boxQ0), (s + 4, cntD 0)] nid (.bool true) [(s, boxQ nid [r]), (s + 4, cntD 1), (nid, arrQr (dR [r]))] := by
  have hs : s < nid := by omega
  obtain ⟨a1, a2, a3, a4, a5, a6, a7, a8, a9⟩ := id_all hs
  obtain ⟨b1, b2, b3, b4, b5, b6, b7, b8, b9⟩ := id_all hs4
  have x1 : (s == s + 4) = false := by simp
  have x2 : (s + 4 == s) = false := by simp
  have x3 : ¬ s = s + 4 := by omega
  have x4 : ¬ s + 4 = s := by omega
  have hwl := wrd_len r
  have hwp : 0 < (wrd r).length := List.length_pos_iff.2 (wrd_ne r)
  have hsp := fun n => split32_cc r n (by omega)
  have hcz := fun n => containsZ2_c false (wrd r) [] n (by omega)
  unfold lnOk at hg
  simp only [Nat.lt_irrefl, decide_false, Bool.false_or, Bool.and_eq_true, Bool.not_eq_true'] at hg
  obtain ⟨h1, h2⟩ := hg
  have h2' : (!((wrd r).getD 0 [] == [103, 111, 111, 100])) = false := by unfold goodN at h2; rw [h2]; rfl
  have hd := drop1_getD (wrd r)
  have hdl : ((wrd r).drop 1).length = (wrd r).length - 1 := List.length_drop
  have hG : dG [r] = (wrd r).drop 1 := rfl
  have hR : dR [r] = [] := rfl
  rw [h1] at hcz
  refine acall_run c165 (by simp [a165]) ?_
  unfold boxQ0 cntD
  simp -dsimp only [a165, aqT, aqU, aqN, aqS, ↓seqK, ↓blkK, ↓loopK, step, stepBin, Nat.add_assoc nid, ↓reduceIte, Option.toList, ← Int.ofNat_tmod, ← Int.ofNat_tdiv, simprocAttr, BEq.rfl, LN_succ, a1, a2, a3, a4, a5, a6, a7, a8, a9, b1, b2, b3, b4, b5, b6, b7, b8, b9, x1, x2, x3, x4]
  refine CallO.pure (hsp _) ?_
  simp -dsimp only [aqT, aqU, aqN, aqS, ↓seqK, ↓blkK, ↓loopK, step, stepBin, Nat.add_assoc nid, ↓reduceIte, Option.toList, ← Int.ofNat_tmod, ← Int.ofNat_tdiv, simprocAttr, BEq.rfl, LN_succ, a1, a2, a3, a4, a5, a6, a7, a8, a9, b1, b2, b3, b4, b5, b6, b7, b8, b9, x1, x2, x3, x4]
  refine ⟨by unfold inI64; omega, CallO.pure (hcz _) ?_⟩
  simp -dsimp only [aqT, aqU, aqN, aqS, ↓seqK, ↓blkK, ↓loopK, step, stepBin, Nat.add_assoc nid, ↓reduceIte, Option.toList, ← Int.ofNat_tmod, ← Int.ofNat_tdiv, simprocAttr, BEq.rfl, LN_succ, a1, a2, a3, a4, a5, a6, a7, a8, a9, b1, b2, b3, b4, b5, b6, b7, b8, b9, x1, x2, x3, x4]
  refine ⟨by omega, ?_⟩
  rw [h2']
  simp -dsimp only [aqT, aqU, aqN, aqS, ↓seqK, ↓blkK, ↓loopK, step, stepBin, Nat.add_assoc nid, ↓reduceIte, Option.toList, ← Int.ofNat_tmod, ← Int.ofNat_tdiv, simprocAttr, BEq.rfl, LN_succ, a1, a2, a3, a4, a5, a6, a7, a8, a9, b1, b2, b3, b4, b5, b6, b7, b8, b9, x1, x2, x3, x4]
  refine ⟨by omega, ?_⟩
  rw [hd]
  refine RetOK.go [] [(nid, 2)] (.inl rfl) ?_
  simp [a165, cvT, step, res, a1, a2, a3, a4, a5, a6, a7, a8, a9, b1, b2, b3, b4, b5, b6, b7, b8, b9, x1, x2, x3, x4, boxQ, cntD, arrQr, hG, hR, hdl, ColsEq.refl, -List.getD_eq_getElem?_getD]
set_option maxHeartbeats 2000000 in
theorem rdb0_c (s nid : Nat) (r : List UInt8) (hs4 : s + 4 < nid) (hr : r.length ≤ 1000000) (hg : lnOk 0 r = false) :
    ACall Tryz.prog 165 [.str r, .ptr (s + 4) 0, .ptr s 0] [(s, boxQ0), (s + 4, cntD 0)] nid (.bool false) [(s, none), (s + 4, none)] := by
  have hs : s < nid := by omega
  obtain ⟨a1, a2, a3, a4, a5, a6, a7, a8, a9⟩ := id_all hs
  obtain ⟨b1, b2, b3, b4, b5, b6, b7, b8, b9⟩ := id_all hs4
  have x1 : (s == s + 4) = false := by simp
  have x2 : (s + 4 == s) = false := by simp
  have x3 : ¬ s = s + 4 := by omega
  have x4 : ¬ s + 4 = s := by omega
  have hwl := wrd_len r
  have hwp : 0 < (wrd r).length := List.length_pos_iff.2 (wrd_ne r)
  have hsp := fun n => split32_cc r n (by omega)
  have hcz := fun n => containsZ2_c false (wrd r) [] n (by omega)
  unfold lnOk at hg
  simp only [Nat.lt_irrefl, decide_false, Bool.false_or] at hg
  refine acall_run c165 (by simp [a165]) ?_
  unfold boxQ0 cntD
  simp -dsimp only [a165, aqT, aqU, aqN, aqS, ↓seqK, ↓blkK, ↓loopK, step, stepBin, Nat.add_assoc nid, ↓reduceIte, Option.toList, ← Int.ofNat_tmod, ← Int.ofNat_tdiv, simprocAttr, BEq.rfl, LN_succ, a1, a2, a3, a4, a5, a6, a7, a8, a9, b1, b2, b3, b4, b5, b6, b7, b8, b9, x1, x2, x3, x4]
  refine CallO.pure (hsp _) ?_
  simp -dsimp only [aqT, aqU, aqN, aqS, ↓seqK, ↓blkK, ↓loopK, step, stepBin, Nat.add_assoc nid, ↓reduceIte, Option.toList, ← Int.ofNat_tmod, ← Int.ofNat_tdiv, simprocAttr, BEq.rfl, LN_succ, a1, a2, a3, a4, a5, a6, a7, a8, a9, b1, b2, b3, b4, b5, b6, b7, b8, b9, x1, x2, x3, x4]
  refine ⟨by unfold inI64; omega, CallO.pure (hcz _) ?_⟩
  cases h1 : (wrd r).contains [] <;> simp -dsimp only [aqT, aqU, aqN, aqS, ↓seqK, ↓blkK, ↓loopK, step, stepBin, Nat.add_assoc nid, ↓reduceIte, Option.toList, ← Int.ofNat_tmod, ← Int.ofNat_tdiv, simprocAttr, BEq.rfl, LN_succ, a1, a2, a3, a4, a5, a6, a7, a8, a9, b1, b2, b3, b4, b5, b6, b7, b8, b9, x1, x2, x3, x4]
  · rw [h1, Bool.not_false, Bool.true_and] at hg
    have h2' : (!((wrd r).getD 0 [] == [103, 111, 111, 100])) = true := by unfold goodN at hg; rw [hg]; rfl
    refine ⟨by omega, ?_⟩
    rw [h2']
    simp -dsimp only [aqT, aqU, aqN, aqS, ↓seqK, ↓blkK, ↓loopK, step, stepBin, Nat.add_assoc nid, ↓reduceIte, Option.toList, ← Int.ofNat_tmod, ← Int.ofNat_tdiv, simprocAttr, BEq.rfl, LN_succ, a1, a2, a3, a4, a5, a6, a7, a8, a9, b1, b2, b3, b4, b5, b6, b7, b8, b9, x1, x2, x3, x4]
    refine RetOK.go [] [] (.inl rfl) ?_
    simp [a165, cvT, step, res, a1, a2, a3, a4, a5, a6, a7, a8, a9, b1, b2, b3, b4, b5, b6, b7, b8, b9, x1, x2, x3, x4]
  · refine RetOK.go [] [] (.inl rfl) ?_
    simp [a165, cvT, step, res, a1, a2, a3, a4, a5, a6, a7, a8, a9, b1, b2, b3, b4, b5, b6, b7, b8, b9, x1, x2, x3, x4]
set_option maxHeartbeats 2000000 in
theorem rdbk_c (s oa nid : Nat) (L : List (List UInt8)) (r : List UInt8) (hs4 : s + 4 < oa) (hoa : oa < nid) (hL : L ≠ []) (hl : L.length ≤ 1000000) (hr : r.length ≤ 1000000) (hg : lnOk L.length r = false) :
    ACall Tryz.prog 165 [.str r, .ptr (s + 4) 0, .ptr s 0] [(s, boxQ oa L), (s + 4, cntD L.length), (oa, arrQr (dR L))] nid (.bool false) [(s, none), (s + 4, none), (oa, none)] := by
  have hs : s < nid := by omega
  obtain ⟨a1, a2, a3, a4, a5, a6, a7, a8, a9⟩ := id_all hs
  obtain ⟨b1, b2, b3, b4, b5, b6, b7, b8, b9⟩ := id_all (show s + 4 < nid by omega)
  have x1 : (s == s + 4) = false := by simp
  have x2 : (s + 4 == s) = false := by simp
  have x3 : ¬ s = s + 4 := by omega
  have x4 : ¬ s + 4 = s := by omega
  obtain ⟨c1, c2, c3, c4, c5, c6, c7, c8, c9⟩ := id_all hoa
  have g1 : (s == oa) = false := by simp; omega
  have g2 : (oa == s) = false := by simp; omega
  have g3 : (s + 4 == oa) = false := by simp; omega
  have g4 : (oa == s + 4) = false := by simp; omega
  have m1 : ¬ s = oa := by omega
  have m2 : ¬ oa = s := by omega
  have m3 : ¬ s + 4 = oa := by omega
  have m4 : ¬ oa = s + 4 := by omega
  have hwl := wrd_len r
  have hwp : 0 < (wrd r).length := List.length_pos_iff.2 (wrd_ne r)
  have hsp := fun n => split32_cc r n (by omega)
  have hcz := fun n => containsZ2_c false (wrd r) [] n (by omega)
  have hLp : 0 < L.length := List.length_pos_iff.2 hL
  have hg : (wrd r).contains [] = true := by
    unfold lnOk at hg
    rw [decide_eq_true hLp, Bool.true_or, Bool.and_true] at hg
    simpa using hg
  rw [hg] at hcz
  refine acall_run c165 (by simp [a165]) ?_
  unfold boxQ cntD arrQr
  simp -dsimp only [a165, aqT, aqU, aqN, aqS, ↓seqK, ↓blkK, ↓loopK, step, stepBin, Nat.add_assoc nid, ↓reduceIte, Option.toList, ← Int.ofNat_tmod, ← Int.ofNat_tdiv, simprocAttr, BEq.rfl, LN_succ, a1, a2, a3, a4, a5, a6, a7, a8, a9, b1, b2, b3, b4, b5, b6, b7, b8, b9, c1, c2, c3, c4, c5, c6, c7, c8, c9, g1, g2, g3, g4, m1, m2, m3, m4, x1, x2, x3, x4]
  refine CallO.pure (hsp _) ?_
  simp -dsimp only [aqT, aqU, aqN, aqS, ↓seqK, ↓blkK, ↓loopK, step, stepBin, Nat.add_assoc nid, ↓reduceIte, Option.toList, ← Int.ofNat_tmod, ← Int.ofNat_tdiv, simprocAttr, BEq.rfl, LN_succ, a1, a2, a3, a4, a5, a6, a7, a8, a9, b1, b2, b3, b4, b5, b6, b7, b8, b9, c1, c2, c3, c4, c5, c6, c7, c8, c9, g1, g2, g3, g4, m1, m2, m3, m4, x1, x2, x3, x4]
  refine ⟨by unfold inI64; omega, CallO.pure (hcz _) ?_⟩
  simp -dsimp only [aqT, aqU, aqN, aqS, ↓seqK, ↓blkK, ↓loopK, step, stepBin, Nat.add_assoc nid, ↓reduceIte, Option.toList, ← Int.ofNat_tmod, ← Int.ofNat_tdiv, simprocAttr, BEq.rfl, LN_succ, a1, a2, a3, a4, a5, a6, a7, a8, a9, b1, b2, b3, b4, b5, b6, b7, b8, b9, c1, c2, c3, c4, c5, c6, c7, c8, c9, g1, g2, g3, g4, m1, m2, m3, m4, x1, x2, x3, x4]
  refine RetOK.go [] [] (.inl rfl) ?_
  simp [a165, cvT, step, res, a1, a2, a3, a4, a5, a6, a7, a8, a9, b1, b2, b3, b4, b5, b6, b7, b8, b9, c1, c2, c3, c4, c5, c6, c7, c8, c9, g1, g2, g3, g4, m1, m2, m3, m4, x1, x2, x3, x4]
set_option maxHeartbeats 2000000 in
theorem rdk_c (s oa nid : Nat) (L : List (List UInt8)) (r : List UInt8) (hs4 : s + 4 < oa) (hoa : oa < nid) (hL : L ≠ []) (hl : L.length ≤ 1000000) (hr : r.length ≤ 1000000) (hg : lnOk L.length r = true) :
    ACall Tryz.prog 165 [.str r, .ptr (s + 4) 0, .ptr s 0] [(s, boxQ oa L), (s + 4, cntD L.length), (oa, arrQr (dR L))] nid (.bool true) [(s, boxQ nid (L ++ [r])), (s + 4, cntD (L.length + 1)), (nid, arrQr (dR (L ++ [r]))), (oa, none)] := by
  have hs : s < nid := by omega
  obtain ⟨a1, a2, a3, a4, a5, a6, a7, a8, a9⟩ := id_all hs
  obtain ⟨b1, b2, b3, b4, b5, b6, b7, b8, b9⟩ := id_all (show s + 4 < nid by omega)
  have x1 : (s == s + 4) = false := by simp
  have x2 : (s + 4 == s) = false := by simp
  have x3 : ¬ s = s + 4 := by omega
  have x4 : ¬ s + 4 = s := by omega
  obtain ⟨c1, c2, c3, c4, c5, c6, c7, c8, c9⟩ := id_all hoa
  have g1 : (s == oa) = false := by simp; omega
  have g2 : (oa == s) = false := by simp; omega
  have g3 : (s + 4 == oa) = false := by simp; omega
  have g4 : (oa == s + 4) = false := by simp; omega
  have m1 : ¬ s = oa := by omega
  have m2 : ¬ oa = s := by omega
  have m3 : ¬ s + 4 = oa := by omega
  have m4 : ¬ oa = s + 4 := by omega
  have hwl := wrd_len r
  have hwp : 0 < (wrd r).length := List.length_pos_iff.2 (wrd_ne r)
  have hsp := fun n => split32_cc r n (by omega)
  have hcz := fun n => containsZ2_c false (wrd r) [] n (by omega)
  have hLp : 0 < L.length := List.length_pos_iff.2 hL
  have hg : (wrd r).contains [] = false := by
    unfold lnOk at hg
    rw [decide_eq_true hLp, Bool.true_or, Bool.and_true] at hg
    simpa using hg
  rw [hg] at hcz
  have hk1 : ((((L.length : Nat) : Int) + 1) == 1) = false := by simp; omega
  have hrn : (dR L).length ≤ 1000000 := by unfold dR; rw [List.length_map, List.length_drop]; omega
  have hd := drop1_getD (wrd r)
  have hdl : ((wrd r).drop 1).length = (wrd r).length - 1 := List.length_drop
  have hG := dG_snoc r hL
  have hR := dR_snoc r hL
  have hcs := rqApp_s (dR L) (lnR r) rfl
  have hcl := rqApp_l (dR L) (lnR r) ((wrd r).length - 1) [.s fun i => ((wrd r).drop 1).getD i []] hdl.symm rfl rfl [(false, (wrd r).length - 1, [.s fun i => ((wrd r).drop 1).getD i []])] rfl
  have hl1 : (dR (L ++ [r])).length = (dR L).length + 1 := by rw [hR]; simp
  rw [← hR] at hcs hcl
  have e1 : (lnR r).1 = (wrd r).getD 0 [] := rfl
  rw [e1] at hcs
  refine acall_run c165 (by simp [a165]) ?_
  unfold boxQ cntD arrQr
  simp -dsimp only [a165, aqT, aqU, aqN, aqS, ↓seqK, ↓blkK, ↓loopK, step, stepBin, Nat.add_assoc nid, ↓reduceIte, Option.toList, ← Int.ofNat_tmod, ← Int.ofNat_tdiv, simprocAttr, BEq.rfl, LN_succ, a1, a2, a3, a4, a5, a6, a7, a8, a9, b1, b2, b3, b4, b5, b6, b7, b8, b9, c1, c2, c3, c4, c5, c6, c7, c8, c9, g1, g2, g3, g4, m1, m2, m3, m4, x1, x2, x3, x4]
  refine CallO.pure (hsp _) ?_
  simp -dsimp only [aqT, aqU, aqN, aqS, ↓seqK, ↓blkK, ↓loopK, step, stepBin, Nat.add_assoc nid, ↓reduceIte, Option.toList, ← Int.ofNat_tmod, ← Int.ofNat_tdiv, simprocAttr, BEq.rfl, LN_succ, a1, a2, a3, a4, a5, a6, a7, a8, a9, b1, b2, b3, b4, b5, b6, b7, b8, b9, c1, c2, c3, c4, c5, c6, c7, c8, c9, g1, g2, g3, g4, m1, m2, m3, m4, x1, x2, x3, x4]
  refine ⟨by unfold inI64; omega, CallO.pure (hcz _) ?_⟩
  simp -dsimp only [aqT, aqU, aqN, aqS, ↓seqK, ↓blkK, ↓loopK, step, stepBin, Nat.add_assoc nid, ↓reduceIte, Option.toList, ← Int.ofNat_tmod, ← Int.ofNat_tdiv, simprocAttr, BEq.rfl, LN_succ, hk1, a1, a2, a3, a4, a5, a6, a7, a8, a9, b1, b2, b3, b4, b5, b6, b7, b8, b9, c1, c2, c3, c4, c5, c6, c7, c8, c9, g1, g2, g3, g4, m1, m2, m3, m4, x1, x2, x3, x4]
  refine ⟨by omega, by omega, ⟨by omega, by omega⟩, ?_⟩
  rw [hd]
  refine RetOK.go [(nid, nid + 128)] [] (.inl rfl) ?_
  simp [a165, cvT, step, res, a1, a2, a3, a4, a5, a6, a7, a8, a9, b1, b2, b3, b4, b5, b6, b7, b8, b9, c1, c2, c3, c4, c5, c6, c7, c8, c9, g1, g2, g3, g4, m1, m2, m3, m4, x1, x2, x3, x4, hG, hl1, ColsEq.refl, -List.getD_eq_getElem?_getD, -List.drop_one]
  exact ⟨hcs, hcl⟩
end Go.Proofs.YtpifoghhaohhaaaGreatDoor
namespace Go.Proofs.YtpifoghhaohhaaaGreatDoor
open Go.RowKit Go.Shelf Go.Lib
end Go.Proofs.YtpifoghhaohhaaaGreatDoor
namespace Go.Proofs.YtpifoghhaohhaaaGreatDoor
open Go.RowKit Go.Shelf Go.Lib
end Go.Proofs.YtpifoghhaohhaaaGreatDoor
namespace Go.Proofs.YtpifoghhaohhaaaGreatDoor
open Go.RowKit
theorem lastDrop {s : List UInt8} (h : 0 < s.length) : ((s.drop (s.length - 1)) == [10]) = (s.getLast? == some 10) := by
  have hne : s ≠ [] := by intro e; rw [e] at h; simp at h
  have e : s.drop (s.length - 1) = [s.getLast hne] := by
    rw [List.drop_eq_getElem_cons (by omega), List.getLast_eq_getElem]
    have : s.length - 1 + 1 = s.length := by omega
    rw [this, List.drop_length]
  rw [e, List.getLast?_eq_some_getLast hne]
  simp
theorem hasSuffix_c (s : List UInt8) (nid : Nat) (h : 0 < s.length) (hs : s.length ≤ 1000000000) : ACall Tryz.prog 300 [.str s, .str [10]] [] nid (.bool (s.getLast? == some 10)) [] := by
  refine acall_run c300 (by simp [a300]) ?_
  simp -dsimp only [aqT, aqU, aqN, ↓seqK, ↓blkK, ↓loopK, step, stepBin, Nat.reduceBEq, Nat.reduceBeqDiff, Nat.add_assoc nid, Nat.reduceAdd, reduceCtorEq, ↓reduceIte, Nat.reduceLeDiff, Nat.reduceBneDiff, Option.toList, ← Int.ofNat_tmod, ← Int.ofNat_tdiv, Nat.reduceLT, a300]
  have e1 : ((s.length : Int) - 1).toNat = s.length - 1 := by omega
  refine S2.yes (by simp; omega) ?_
  simp -dsimp only [aqT, aqU, aqN, aqS, ↓seqK, ↓blkK, ↓loopK, step, stepBin, Nat.add_assoc nid, ↓reduceIte, Option.toList, ← Int.ofNat_tmod, ← Int.ofNat_tdiv, simprocAttr, BEq.rfl, LN_succ]
  refine ⟨by unfold inI64; omega, by omega, ?_⟩
  simp only [e1, lastDrop h]
  refine RetOK.pure (.inl rfl) rfl ?_
  simp [cvT, step, res]
theorem cutSuffixL_c (s : List UInt8) (nid : Nat) (h : s ≠ []) (hs : s.length ≤ 1000000000) : ACall Tryz.prog 283 [.str s, .str [10]] [] nid (.tup [.str (bodyV s), .bool (s.getLast? == some 10)]) [] := by
  have h0 : 0 < s.length := List.length_pos_iff.2 h
  refine acall_run c283 (by simp [a283]) ?_
  simp -dsimp only [aqT, aqU, aqN, ↓seqK, ↓blkK, ↓loopK, step, stepBin, Nat.reduceBEq, Nat.reduceBeqDiff, Nat.add_assoc nid, Nat.reduceAdd, reduceCtorEq, ↓reduceIte, Nat.reduceLeDiff, Nat.reduceBneDiff, Option.toList, ← Int.ofNat_tmod, ← Int.ofNat_tdiv, Nat.reduceLT, a283]
  refine CallO.pure (hasSuffix_c s _ h0 hs) ?_
  unfold bodyV
  cases hl : (s.getLast? == some 10) <;> simp -dsimp only [aqT, aqU, aqN, aqS, ↓seqK, ↓blkK, ↓loopK, step, stepBin, Nat.add_assoc nid, ↓reduceIte, Option.toList, ← Int.ofNat_tmod, ← Int.ofNat_tdiv, simprocAttr, BEq.rfl, LN_succ, Bool.not_true, Bool.not_false]
  · rw [if_neg (by simpa using hl)]
    refine RetOK.pure (.inl rfl) rfl ?_
    simp [cvT, step, res]
  · rw [if_pos (by simpa using hl)]
    have e1 : ((s.length : Int) - 1).toNat = s.length - 1 := by omega
    have e2 : s.take (s.length - 1) = s.dropLast := (List.dropLast_eq_take).symm
    refine ⟨by unfold inI64; omega, by omega, ?_⟩
    simp only [e1, e2]
    refine RetOK.pure (.inl rfl) rfl ?_
    simp [cvT, step, res]
theorem cutSuffix_c (s : List UInt8) (nid : Nat) (h : s ≠ []) (hs : s.length ≤ 1000000000) : ACall Tryz.prog 252 [.str s, .str [10]] [] nid (.tup [.str (bodyV s), .bool (s.getLast? == some 10)]) [] := by
  refine acall_run c252 (by simp [a252]) ?_
  simp -dsimp only [aqT, aqU, aqN, ↓seqK, ↓blkK, ↓loopK, step, stepBin, Nat.reduceBEq, Nat.reduceBeqDiff, Nat.add_assoc nid, Nat.reduceAdd, reduceCtorEq, ↓reduceIte, Nat.reduceLeDiff, Nat.reduceBneDiff, Option.toList, ← Int.ofNat_tmod, ← Int.ofNat_tdiv, Nat.reduceLT, a252]
  refine CallO.pure (cutSuffixL_c s _ h hs) ?_
  simp -dsimp only [aqT, aqU, aqN, aqS, ↓seqK, ↓blkK, ↓loopK, step, stepBin, Nat.add_assoc nid, ↓reduceIte, Option.toList, ← Int.ofNat_tmod, ← Int.ofNat_tdiv, simprocAttr, BEq.rfl, LN_succ]
  refine RetOK.pure (.inl rfl) rfl ?_
  simp [cvT, step, res]
theorem lines_nil (nid : Nat) : ACall Tryz.prog 220 [.str []] [] nid (.tup [.lit true 0 [], .bool true]) [] := by
  refine acall_run c220 (by simp [a220]) ?_
  simp -dsimp only [aqT, aqU, aqN, ↓seqK, ↓blkK, ↓loopK, step, stepBin, Nat.reduceBEq, Nat.reduceBeqDiff, Nat.add_assoc nid, Nat.reduceAdd, reduceCtorEq, ↓reduceIte, Nat.reduceLeDiff, Nat.reduceBneDiff, Option.toList, ← Int.ofNat_tmod, ← Int.ofNat_tdiv, Nat.reduceLT, a220]
  refine RetOK.pure (.inl rfl) rfl ?_
  simp [cvT, step, res]
theorem bodyV_len (s : List UInt8) : (bodyV s).length ≤ s.length := by
  unfold bodyV
  split
  · simp
  · exact Nat.le_refl _
theorem lines_c (s : List UInt8) (nid : Nat) (h : s ≠ []) (hs : s.length ≤ 1000000000) : ACall Tryz.prog 220 [.str s] [] nid (.tup [.lit false (pieces (bodyV s)).length [.s fun i => (pieces (bodyV s)).getD i []], .bool (s.getLast? == some 10)]) [] := by
  have hb : (s == []) = false := by simpa using h
  have hl := bodyV_len s
  refine acall_run c220 (by simp [a220]) ?_
  simp -dsimp only [a220, aqT, aqU, aqN, ↓seqK, ↓blkK, ↓loopK, step, stepBin, Nat.reduceBEq, Nat.reduceBeqDiff, Nat.add_assoc nid, Nat.reduceAdd, reduceCtorEq, ↓reduceIte, Nat.reduceLeDiff, Nat.reduceBneDiff, Option.toList, ← Int.ofNat_tmod, ← Int.ofNat_tdiv, Nat.reduceLT, hb]
  refine CallO.pure (cutSuffix_c s _ h hs) ?_
  simp -dsimp only [aqT, aqU, aqN, aqS, ↓seqK, ↓blkK, ↓loopK, step, stepBin, Nat.add_assoc nid, ↓reduceIte, Option.toList, ← Int.ofNat_tmod, ← Int.ofNat_tdiv, simprocAttr, BEq.rfl, LN_succ]
  refine CallO.pure (split_cc (bodyV s) _ (by omega)) ?_
  simp -dsimp only [aqT, aqU, aqN, aqS, ↓seqK, ↓blkK, ↓loopK, step, stepBin, Nat.add_assoc nid, ↓reduceIte, Option.toList, ← Int.ofNat_tmod, ← Int.ofNat_tdiv, simprocAttr, BEq.rfl, LN_succ]
  refine RetOK.pure (.inl rfl) rfl ?_
  simp [cvT, step, res]
theorem getD_app_lt {α : Type} (l m : List α) (d : α) {k : Nat} (h : k < l.length) : (l ++ m).getD k d = l.getD k d := by
  rw [List.getD_eq_getElem?_getD, List.getElem?_append_left h, ← List.getD_eq_getElem?_getD]
end Go.Proofs.YtpifoghhaohhaaaGreatDoor
namespace Go.Proofs.YtpifoghhaohhaaaGreatDoor
open Go.RowKit Go.Shelf Go.Lib
def rdU (s nid : Nat) (ok : Bool) (L : List (List UInt8)) : Heap := bif ok then [(s, boxQ nid L), (s + 4, cntD L.length), (nid, arrQr (dR L))] else [(s, none), (s + 4, none)]
def rdH (s oa : Nat) (L : List (List UInt8)) : Nat → Heap
  | 0 => [(s, boxQ0), (s + 4, cntD 0)]
  | k + 1 => [(s, boxQ oa (L.take (k + 1))), (s + 4, cntD (k + 1)), (oa, arrQr (dR (L.take (k + 1))))]
theorem rdH_succ (s oa : Nat) (L : List (List UInt8)) (k : Nat) : rdH s oa L (k + 1) = [(s, boxQ oa (L.take (k + 1))), (s + 4, cntD (k + 1)), (oa, arrQr (dR (L.take (k + 1))))] := rfl
theorem eachD_nil (s nid : Nat) (hs4 : s + 4 < nid) : ACall Tryz.prog 164 [.str [], .fn 165 [.ptr (s + 4) 0, .ptr s 0]] [(s, boxQ0), (s + 4, cntD 0)] nid (.tup [.int .i64 0, .bool true]) [] := by
  have hs : s < nid := by omega
  obtain ⟨a1, a2, a3, a4, a5, a6, a7, a8, a9⟩ := id_all hs
  obtain ⟨b1, b2, b3, b4, b5, b6, b7, b8, b9⟩ := id_all hs4
  have x1 : (s == s + 4) = false := by simp
  have x2 : (s + 4 == s) = false := by simp
  have x3 : ¬ s = s + 4 := by omega
  have x4 : ¬ s + 4 = s := by omega
  refine acall_run c164 (by simp [a164]) ?_
  unfold boxQ0 cntD
  simp -dsimp only [a164, aqT, aqU, aqN, ↓seqK, ↓blkK, ↓loopK, step, stepBin, Nat.reduceBEq, Nat.reduceBeqDiff, Nat.add_assoc nid, Nat.reduceAdd, reduceCtorEq, ↓reduceIte, Nat.reduceLeDiff, Nat.reduceBneDiff, Option.toList, ← Int.ofNat_tmod, ← Int.ofNat_tdiv, Nat.reduceLT, a1, a2, a3, a4, a5, a6, a7, a8, a9, b1, b2, b3, b4, b5, b6, b7, b8, b9, x1, x2, x3, x4]
  refine CallO.pure (lines_nil _) ?_
  simp -dsimp only [aqT, aqU, aqN, ↓seqK, ↓blkK, ↓loopK, step, stepBin, Nat.reduceBEq, Nat.reduceBeqDiff, Nat.add_assoc nid, Nat.reduceAdd, reduceCtorEq, ↓reduceIte, Nat.reduceLeDiff, Nat.reduceBneDiff, Option.toList, ← Int.ofNat_tmod, ← Int.ofNat_tdiv, Nat.reduceLT, a1, a2, a3, a4, a5, a6, a7, a8, a9, b1, b2, b3, b4, b5, b6, b7, b8, b9, x1, x2, x3, x4]
  refine LP.mkP (fun k : Nat => k = 0) (fun k : Nat => ⟨[(17, .int .i64 0), (16, .int .i64 0)], [(s, boxQ0), (s + 4, cntD 0)], nid + 100, nid⟩) (fun k => 1) 0 rfl (Cov.go [] [] ?_) (fun k hk => ?_)
  · simp [cvT, step, res, a1, a2, a3, a4, a5, a6, a7, a8, a9, b1, b2, b3, b4, b5, b6, b7, b8, b9, x1, x2, x3, x4, boxQ0, cntD]
  unfold boxQ0 cntD
  simp -dsimp only [aqT, aqU, aqN, ↓seqK, ↓blkK, ↓loopK, step, stepBin, Nat.reduceBEq, Nat.reduceBeqDiff, Nat.add_assoc nid, Nat.reduceAdd, reduceCtorEq, ↓reduceIte, Nat.reduceLeDiff, Nat.reduceBneDiff, Option.toList, ← Int.ofNat_tmod, ← Int.ofNat_tdiv, Nat.reduceLT, a1, a2, a3, a4, a5, a6, a7, a8, a9, b1, b2, b3, b4, b5, b6, b7, b8, b9, x1, x2, x3, x4]
  refine S2.no (by simp) ?_
  simp -dsimp only [aqT, aqU, aqN, ↓seqK, ↓blkK, ↓loopK, step, stepBin, Nat.reduceBEq, Nat.reduceBeqDiff, Nat.add_assoc nid, Nat.reduceAdd, reduceCtorEq, ↓reduceIte, Nat.reduceLeDiff, Nat.reduceBneDiff, Option.toList, ← Int.ofNat_tmod, ← Int.ofNat_tdiv, Nat.reduceLT, a1, a2, a3, a4, a5, a6, a7, a8, a9, b1, b2, b3, b4, b5, b6, b7, b8, b9, x1, x2, x3, x4]
  refine RetOK.go [] [] (.inl rfl) ?_
  simp [a164, cvT, step, res, a1, a2, a3, a4, a5, a6, a7, a8, a9, b1, b2, b3, b4, b5, b6, b7, b8, b9, x1, x2, x3, x4]
set_option maxHeartbeats 8000000 in
theorem eachD_c (s : Nat) (t : List UInt8) (nid : Nat) (hs4 : s + 4 < nid) (ht : t.length ≤ 1000000) (h0 : t ≠ []) :
    ACall Tryz.prog 164 [.str t, .fn 165 [.ptr (s + 4) 0, .ptr s 0]] [(s, boxQ0), (s + 4, cntD 0)] nid (.tup [.int .i64 (eachW lnOk t).1, .bool (eachW lnOk t).2]) (rdU s nid (eachW lnOk t).2 (spl t).1) := by
  have hs : s < nid := by omega
  obtain ⟨a1, a2, a3, a4, a5, a6, a7, a8, a9⟩ := id_all hs
  obtain ⟨b1, b2, b3, b4, b5, b6, b7, b8, b9⟩ := id_all hs4
  have x1 : (s == s + 4) = false := by simp
  have x2 : (s + 4 == s) = false := by simp
  have x3 : ¬ s = s + 4 := by omega
  have x4 : ¬ s + 4 = s := by omega
  have hsl := spl_len t
  have hm := hsl.1
  have hsh : ShortRows 1000000 (spl t).1 := fun r hr => by have := hsl.2 r hr; omega
  have hbp := body_pieces h0
  have htl := spl_tail t h0
  have hLn : (spl t).2 = [] → (spl t).1 ≠ [] := fun h e => by
    have := lines_spl t h
    rw [e] at this
    exact h0 this.symm
  refine acall_run c164 (by simp [a164]) ?_
  unfold boxQ0 cntD
  simp -dsimp only [a164, aqT, aqU, aqN, ↓seqK, ↓blkK, ↓loopK, step, stepBin, Nat.reduceBEq, Nat.reduceBeqDiff, Nat.add_assoc nid, Nat.reduceAdd, reduceCtorEq, ↓reduceIte, Nat.reduceLeDiff, Nat.reduceBneDiff, Option.toList, ← Int.ofNat_tmod, ← Int.ofNat_tdiv, Nat.reduceLT, a1, a2, a3, a4, a5, a6, a7, a8, a9, b1, b2, b3, b4, b5, b6, b7, b8, b9, x1, x2, x3, x4]
  refine CallO.pure (lines_c t _ h0 (by omega)) ?_
  obtain ⟨E, hE⟩ : ∃ E : Bool, (t.getLast? == some 10) = E := ⟨_, rfl⟩
  have hE2 : E = true ↔ (spl t).2 = [] := by rw [htl, ← hE]; simp
  have hP : pieces (bodyV t) = (spl t).1 ++ (if E = true then [] else [(spl t).2]) := by
    rw [hbp, ← hE]
    cases h : (t.getLast? == some 10)
    · have : ¬ t.getLast? = some 10 := by simpa using h
      rw [if_neg this]; rfl
    · have : t.getLast? = some 10 := by simpa using h
      rw [if_pos this]; simp
  rw [hE]
  have hat : ∀ k, k < (spl t).1.length → (pieces (bodyV t)).getD k [] = (spl t).1.getD k [] := fun k hk => by rw [hP, getD_app_lt _ _ _ hk]
  have hlen : (pieces (bodyV t)).length = (spl t).1.length + (if E = true then 0 else 1) := by
    rw [hP, List.length_append]
    cases E <;> rfl
  generalize pieces (bodyV t) = P at hat hlen ⊢
  clear hP hbp hE htl
  generalize hL : (spl t).1 = L at hat hlen hm hsh hLn ⊢
  simp -dsimp only [aqT, aqU, aqN, ↓seqK, ↓blkK, ↓loopK, step, stepBin, Nat.reduceBEq, Nat.reduceBeqDiff, Nat.add_assoc nid, Nat.reduceAdd, reduceCtorEq, ↓reduceIte, Nat.reduceLeDiff, Nat.reduceBneDiff, Option.toList, ← Int.ofNat_tmod, ← Int.ofNat_tdiv, Nat.reduceLT, a1, a2, a3, a4, a5, a6, a7, a8, a9, b1, b2, b3, b4, b5, b6, b7, b8, b9, x1, x2, x3, x4]
  refine LP.mkP (fun k : Nat => k ≤ L.length ∧ ∀ j, j < k → lnOk j (L.getD j []) = true) (fun k : Nat => ⟨[(17, .int .i64 k), (16, .int .i64 P.length), (15, .lit false P.length [.s fun i => P.getD i []]), (6, .lit false P.length [.s fun i => P.getD i []]), (7, .bool E), (1, .fn 165 [.ptr (s + 4) 0, .ptr s 0])], rdH s (nid + 8) L k, nid + 100, nid⟩) (fun k => L.length + 1 - k) 0 ⟨by omega, fun j hj => by omega⟩ (Cov.go [] [] ?_) (fun k hk => ?_)
  · simp [cvT, step, res, a1, a2, a3, a4, a5, a6, a7, a8, a9, b1, b2, b3, b4, b5, b6, b7, b8, b9, x1, x2, x3, x4, rdH, boxQ0, cntD]
  obtain ⟨hk, hg⟩ := hk
  simp -dsimp only [aqT, aqU, aqN, ↓seqK, ↓blkK, ↓loopK, step, stepBin, Nat.reduceBEq, Nat.reduceBeqDiff, Nat.add_assoc nid, Nat.reduceAdd, reduceCtorEq, ↓reduceIte, Nat.reduceLeDiff, Nat.reduceBneDiff, Option.toList, ← Int.ofNat_tmod, ← Int.ofNat_tdiv, Nat.reduceLT, a1, a2, a3, a4, a5, a6, a7, a8, a9, b1, b2, b3, b4, b5, b6, b7, b8, b9, x1, x2, x3, x4]
  refine S2.dec (fun h1 => ?_) (fun h1 => ?_) <;> simp -dsimp only [aqT, aqU, aqN, ↓seqK, ↓blkK, ↓loopK, step, stepBin, Nat.reduceBEq, Nat.reduceBeqDiff, Nat.add_assoc nid, Nat.reduceAdd, reduceCtorEq, ↓reduceIte, Nat.reduceLeDiff, Nat.reduceBneDiff, Option.toList, ← Int.ofNat_tmod, ← Int.ofNat_tdiv, Nat.reduceLT, a1, a2, a3, a4, a5, a6, a7, a8, a9, b1, b2, b3, b4, b5, b6, b7, b8, b9, x1, x2, x3, x4]
  · refine ⟨by omega, ?_⟩
    cases E
    · have hpl : P.length = L.length + 1 := by simpa using hlen
      simp -dsimp only [Bool.not_true, Bool.not_false, aqT, aqU, aqN, ↓seqK, ↓blkK, ↓loopK, step, stepBin, Nat.reduceBEq, Nat.reduceBeqDiff, Nat.add_assoc nid, Nat.reduceAdd, reduceCtorEq, ↓reduceIte, Nat.reduceLeDiff, Nat.reduceBneDiff, Option.toList, ← Int.ofNat_tmod, ← Int.ofNat_tdiv, Nat.reduceLT, a1, a2, a3, a4, a5, a6, a7, a8, a9, b1, b2, b3, b4, b5, b6, b7, b8, b9, x1, x2, x3, x4]
      refine ⟨by unfold inI64; omega, S2.intro (fun h2 => ?_) (fun h2 => ?_)⟩ <;> simp -dsimp only [Bool.not_true, Bool.not_false, aqT, aqU, aqN, ↓seqK, ↓blkK, ↓loopK, step, stepBin, Nat.reduceBEq, Nat.reduceBeqDiff, Nat.add_assoc nid, Nat.reduceAdd, reduceCtorEq, ↓reduceIte, Nat.reduceLeDiff, Nat.reduceBneDiff, Option.toList, ← Int.ofNat_tmod, ← Int.ofNat_tdiv, Nat.reduceLT, a1, a2, a3, a4, a5, a6, a7, a8, a9, b1, b2, b3, b4, b5, b6, b7, b8, b9, x1, x2, x3, x4]
      · have hkL : k = L.length := by have : (k : Int) = (P.length : Int) - 1 := by simpa using h2
                                      omega
        have hne : (spl t).2 ≠ [] := fun e => by have := hE2.2 e; cases this
        have q1 : eachW lnOk t = (L.length, false) := by rw [← hL]; exact eachW_open hne (by rw [hL]; intro j hj; exact hg j (by omega))
        rw [q1, ← hkL]
        rcases k with _ | k
        · unfold rdH
          refine RetOK.go [] [] (.inl rfl) ?_
          simp [a164, cvT, step, res, a1, a2, a3, a4, a5, a6, a7, a8, a9, b1, b2, b3, b4, b5, b6, b7, b8, b9, x1, x2, x3, x4, rdU]
        · unfold rdH
          refine RetOK.go [] [] (.inl rfl) ?_
          simp [a164, cvT, step, res, a1, a2, a3, a4, a5, a6, a7, a8, a9, b1, b2, b3, b4, b5, b6, b7, b8, b9, x1, x2, x3, x4, rdU]
      have hkl : k < L.length := by
        have : ¬ (k : Int) = (P.length : Int) - 1 := by simpa using h2
        omega
      rw [hat k hkl]
      clear hat hlen hpl h1 h2
      have hrk := hsh.at k
      cases hgk : lnOk k (L.getD k [])
      · have q1 : eachW lnOk t = (k, false) := eachW_bad (by rw [hL]; exact hkl) (by rw [hL]; exact hg) (by rw [hL]; exact hgk)
        rw [q1]
        rcases k with _ | k
        · have hc := fun n h => rdb0_c s n (L.getD 0 []) h hrk hgk
          generalize L.getD 0 [] = line at *
          unfold rdH boxQ0 cntD at *
          simp -dsimp only [aqT, aqU, aqN, ↓seqK, ↓blkK, ↓loopK, step, stepBin, Nat.reduceBEq, Nat.reduceBeqDiff, Nat.add_assoc nid, Nat.reduceAdd, reduceCtorEq, ↓reduceIte, Nat.reduceLeDiff, Nat.reduceBneDiff, Option.toList, ← Int.ofNat_tmod, ← Int.ofNat_tdiv, Nat.reduceLT, a1, a2, a3, a4, a5, a6, a7, a8, a9, b1, b2, b3, b4, b5, b6, b7, b8, b9, x1, x2, x3, x4]
          refine CallO.on (hc _ (by omega)) (subH_cons (by simp only [aqT, aqU, aqN, ↓seqK, ↓blkK, ↓loopK, step, stepBin, Nat.reduceBEq, Nat.reduceBeqDiff, Nat.add_assoc nid, Nat.reduceAdd, reduceCtorEq, ↓reduceIte, Nat.reduceLeDiff, Nat.reduceBneDiff, Option.toList, ← Int.ofNat_tmod, ← Int.ofNat_tdiv, Nat.reduceLT, a1, a2, a3, a4, a5, a6, a7, a8, a9, b1, b2, b3, b4, b5, b6, b7, b8, b9, x1, x2, x3, x4]) (subH_get (by simp only [aqT, aqU, aqN, ↓seqK, ↓blkK, ↓loopK, step, stepBin, Nat.reduceBEq, Nat.reduceBeqDiff, Nat.add_assoc nid, Nat.reduceAdd, reduceCtorEq, ↓reduceIte, Nat.reduceLeDiff, Nat.reduceBneDiff, Option.toList, ← Int.ofNat_tmod, ← Int.ofNat_tdiv, Nat.reduceLT, a1, a2, a3, a4, a5, a6, a7, a8, a9, b1, b2, b3, b4, b5, b6, b7, b8, b9, x1, x2, x3, x4]))) ?_
          simp -dsimp only [aqT, aqU, aqN, ↓seqK, ↓blkK, ↓loopK, step, stepBin, Nat.reduceBEq, Nat.reduceBeqDiff, Nat.add_assoc nid, Nat.reduceAdd, reduceCtorEq, ↓reduceIte, Nat.reduceLeDiff, Nat.reduceBneDiff, Option.toList, ← Int.ofNat_tmod, ← Int.ofNat_tdiv, Nat.reduceLT, a1, a2, a3, a4, a5, a6, a7, a8, a9, b1, b2, b3, b4, b5, b6, b7, b8, b9, x1, x2, x3, x4, Bool.not_false, Bool.not_true]
          refine RetOK.go [] [] (.inl rfl) ?_
          simp [a164, cvT, step, res, a1, a2, a3, a4, a5, a6, a7, a8, a9, b1, b2, b3, b4, b5, b6, b7, b8, b9, x1, x2, x3, x4, rdU]
        · have hc := fun n h => rdbk_c s (nid + 8) n (L.take (k + 1)) (L.getD (k + 1) []) (by omega) h (List.ne_nil_of_length_pos (by rw [List.length_take]; omega)) (by rw [List.length_take]; omega) hrk (by rw [List.length_take, Nat.min_eq_left (by omega)]; exact hgk)
          rw [List.length_take, Nat.min_eq_left (by omega)] at hc
          generalize L.getD (k + 1) [] = line at *
          unfold rdH boxQ cntD arrQr at *
          simp -dsimp only [aqT, aqU, aqN, ↓seqK, ↓blkK, ↓loopK, step, stepBin, Nat.reduceBEq, Nat.reduceBeqDiff, Nat.add_assoc nid, Nat.reduceAdd, reduceCtorEq, ↓reduceIte, Nat.reduceLeDiff, Nat.reduceBneDiff, Option.toList, ← Int.ofNat_tmod, ← Int.ofNat_tdiv, Nat.reduceLT, a1, a2, a3, a4, a5, a6, a7, a8, a9, b1, b2, b3, b4, b5, b6, b7, b8, b9, x1, x2, x3, x4]
          refine CallO.on (hc _ (by omega)) (subH_cons (by simp only [aqT, aqU, aqN, ↓seqK, ↓blkK, ↓loopK, step, stepBin, Nat.reduceBEq, Nat.reduceBeqDiff, Nat.add_assoc nid, Nat.reduceAdd, reduceCtorEq, ↓reduceIte, Nat.reduceLeDiff, Nat.reduceBneDiff, Option.toList, ← Int.ofNat_tmod, ← Int.ofNat_tdiv, Nat.reduceLT, a1, a2, a3, a4, a5, a6, a7, a8, a9, b1, b2, b3, b4, b5, b6, b7, b8, b9, x1, x2, x3, x4]) (subH_cons (by simp only [aqT, aqU, aqN, ↓seqK, ↓blkK, ↓loopK, step, stepBin, Nat.reduceBEq, Nat.reduceBeqDiff, Nat.add_assoc nid, Nat.reduceAdd, reduceCtorEq, ↓reduceIte, Nat.reduceLeDiff, Nat.reduceBneDiff, Option.toList, ← Int.ofNat_tmod, ← Int.ofNat_tdiv, Nat.reduceLT, a1, a2, a3, a4, a5, a6, a7, a8, a9, b1, b2, b3, b4, b5, b6, b7, b8, b9, x1, x2, x3, x4]) (subH_get (by simp only [aqT, aqU, aqN, ↓seqK, ↓blkK, ↓loopK, step, stepBin, Nat.reduceBEq, Nat.reduceBeqDiff, Nat.add_assoc nid, Nat.reduceAdd, reduceCtorEq, ↓reduceIte, Nat.reduceLeDiff, Nat.reduceBneDiff, Option.toList, ← Int.ofNat_tmod, ← Int.ofNat_tdiv, Nat.reduceLT, a1, a2, a3, a4, a5, a6, a7, a8, a9, b1, b2, b3, b4, b5, b6, b7, b8, b9, x1, x2, x3, x4])))) ?_
          simp -dsimp only [aqT, aqU, aqN, ↓seqK, ↓blkK, ↓loopK, step, stepBin, Nat.reduceBEq, Nat.reduceBeqDiff, Nat.add_assoc nid, Nat.reduceAdd, reduceCtorEq, ↓reduceIte, Nat.reduceLeDiff, Nat.reduceBneDiff, Option.toList, ← Int.ofNat_tmod, ← Int.ofNat_tdiv, Nat.reduceLT, a1, a2, a3, a4, a5, a6, a7, a8, a9, b1, b2, b3, b4, b5, b6, b7, b8, b9, x1, x2, x3, x4, Bool.not_false, Bool.not_true]
          refine RetOK.go [] [] (.inl rfl) ?_
          simp [a164, cvT, step, res, a1, a2, a3, a4, a5, a6, a7, a8, a9, b1, b2, b3, b4, b5, b6, b7, b8, b9, x1, x2, x3, x4, rdU]
      · have hg1 : ∀ j, j < k + 1 → lnOk j (L.getD j []) = true := fun j hj => by
          rcases (by omega : j < k ∨ j = k) with hj | hj
          · exact hg j hj
          · rw [hj]; exact hgk
        have hsn : L.take (k + 1) = L.take k ++ [L.getD k []] := take_snoc (by rw [List.getD_eq_getElem?_getD, List.getElem?_eq_getElem hkl]; rfl)
        rcases k with _ | k
        · have hc := fun n h => rd0_c s n (L.getD 0 []) h hrk hgk
          have e1 : [L.getD 0 []] = L.take 1 := by rw [hsn]; simp
          rw [e1] at hc
          generalize L.getD 0 [] = line at *
          unfold rdH boxQ0 cntD at *
          simp -dsimp only [aqT, aqU, aqN, ↓seqK, ↓blkK, ↓loopK, step, stepBin, Nat.reduceBEq, Nat.reduceBeqDiff, Nat.add_assoc nid, Nat.reduceAdd, reduceCtorEq, ↓reduceIte, Nat.reduceLeDiff, Nat.reduceBneDiff, Option.toList, ← Int.ofNat_tmod, ← Int.ofNat_tdiv, Nat.reduceLT, a1, a2, a3, a4, a5, a6, a7, a8, a9, b1, b2, b3, b4, b5, b6, b7, b8, b9, x1, x2, x3, x4]
          refine CallO.on (hc _ (by omega)) (subH_cons (by simp only [aqT, aqU, aqN, ↓seqK, ↓blkK, ↓loopK, step, stepBin, Nat.reduceBEq, Nat.reduceBeqDiff, Nat.add_assoc nid, Nat.reduceAdd, reduceCtorEq, ↓reduceIte, Nat.reduceLeDiff, Nat.reduceBneDiff, Option.toList, ← Int.ofNat_tmod, ← Int.ofNat_tdiv, Nat.reduceLT, a1, a2, a3, a4, a5, a6, a7, a8, a9, b1, b2, b3, b4, b5, b6, b7, b8, b9, x1, x2, x3, x4]) (subH_get (by simp only [aqT, aqU, aqN, ↓seqK, ↓blkK, ↓loopK, step, stepBin, Nat.reduceBEq, Nat.reduceBeqDiff, Nat.add_assoc nid, Nat.reduceAdd, reduceCtorEq, ↓reduceIte, Nat.reduceLeDiff, Nat.reduceBneDiff, Option.toList, ← Int.ofNat_tmod, ← Int.ofNat_tdiv, Nat.reduceLT, a1, a2, a3, a4, a5, a6, a7, a8, a9, b1, b2, b3, b4, b5, b6, b7, b8, b9, x1, x2, x3, x4]))) ?_
          unfold boxQ arrQr at *
          simp -dsimp only [aqT, aqU, aqN, ↓seqK, ↓blkK, ↓loopK, step, stepBin, Nat.reduceBEq, Nat.reduceBeqDiff, Nat.add_assoc nid, Nat.reduceAdd, reduceCtorEq, ↓reduceIte, Nat.reduceLeDiff, Nat.reduceBneDiff, Option.toList, ← Int.ofNat_tmod, ← Int.ofNat_tdiv, Nat.reduceLT, a1, a2, a3, a4, a5, a6, a7, a8, a9, b1, b2, b3, b4, b5, b6, b7, b8, b9, x1, x2, x3, x4, Bool.not_false, Bool.not_true]
          refine ⟨by unfold inI64; omega, 0 + 1, ⟨⟨by omega, hg1⟩, by omega⟩, Cov.go [(nid + 8, nid + 172)] [] ?_⟩
          simp [cvT, step, res, a1, a2, a3, a4, a5, a6, a7, a8, a9, b1, b2, b3, b4, b5, b6, b7, b8, b9, x1, x2, x3, x4, boxQ, cntD, arrQr, ColsEq.refl, -List.getD_eq_getElem?_getD]
        · have hc := fun n h => rdk_c s (nid + 8) n (L.take (k + 1)) (L.getD (k + 1) []) (by omega) h (List.ne_nil_of_length_pos (by rw [List.length_take]; omega)) (by rw [List.length_take]; omega) hrk (by rw [List.length_take, Nat.min_eq_left (by omega)]; exact hgk)
          rw [← hsn, List.length_take, Nat.min_eq_left (by omega)] at hc
          generalize L.getD (k + 1) [] = line at *
          unfold rdH boxQ cntD arrQr at *
          simp -dsimp only [aqT, aqU, aqN, ↓seqK, ↓blkK, ↓loopK, step, stepBin, Nat.reduceBEq, Nat.reduceBeqDiff, Nat.add_assoc nid, Nat.reduceAdd, reduceCtorEq, ↓reduceIte, Nat.reduceLeDiff, Nat.reduceBneDiff, Option.toList, ← Int.ofNat_tmod, ← Int.ofNat_tdiv, Nat.reduceLT, a1, a2, a3, a4, a5, a6, a7, a8, a9, b1, b2, b3, b4, b5, b6, b7, b8, b9, x1, x2, x3, x4]
          refine CallO.on (hc _ (by omega)) (subH_cons (by simp only [aqT, aqU, aqN, ↓seqK, ↓blkK, ↓loopK, step, stepBin, Nat.reduceBEq, Nat.reduceBeqDiff, Nat.add_assoc nid, Nat.reduceAdd, reduceCtorEq, ↓reduceIte, Nat.reduceLeDiff, Nat.reduceBneDiff, Option.toList, ← Int.ofNat_tmod, ← Int.ofNat_tdiv, Nat.reduceLT, a1, a2, a3, a4, a5, a6, a7, a8, a9, b1, b2, b3, b4, b5, b6, b7, b8, b9, x1, x2, x3, x4]) (subH_cons (by simp only [aqT, aqU, aqN, ↓seqK, ↓blkK, ↓loopK, step, stepBin, Nat.reduceBEq, Nat.reduceBeqDiff, Nat.add_assoc nid, Nat.reduceAdd, reduceCtorEq, ↓reduceIte, Nat.reduceLeDiff, Nat.reduceBneDiff, Option.toList, ← Int.ofNat_tmod, ← Int.ofNat_tdiv, Nat.reduceLT, a1, a2, a3, a4, a5, a6, a7, a8, a9, b1, b2, b3, b4, b5, b6, b7, b8, b9, x1, x2, x3, x4]) (subH_get (by simp only [aqT, aqU, aqN, ↓seqK, ↓blkK, ↓loopK, step, stepBin, Nat.reduceBEq, Nat.reduceBeqDiff, Nat.add_assoc nid, Nat.reduceAdd, reduceCtorEq, ↓reduceIte, Nat.reduceLeDiff, Nat.reduceBneDiff, Option.toList, ← Int.ofNat_tmod, ← Int.ofNat_tdiv, Nat.reduceLT, a1, a2, a3, a4, a5, a6, a7, a8, a9, b1, b2, b3, b4, b5, b6, b7, b8, b9, x1, x2, x3, x4])))) ?_
          simp -dsimp only [aqT, aqU, aqN, ↓seqK, ↓blkK, ↓loopK, step, stepBin, Nat.reduceBEq, Nat.reduceBeqDiff, Nat.add_assoc nid, Nat.reduceAdd, reduceCtorEq, ↓reduceIte, Nat.reduceLeDiff, Nat.reduceBneDiff, Option.toList, ← Int.ofNat_tmod, ← Int.ofNat_tdiv, Nat.reduceLT, a1, a2, a3, a4, a5, a6, a7, a8, a9, b1, b2, b3, b4, b5, b6, b7, b8, b9, x1, x2, x3, x4, Bool.not_false, Bool.not_true]
          refine ⟨by unfold inI64; omega, k + 1 + 1, ⟨⟨by omega, hg1⟩, by omega⟩, Cov.go [(nid + 8, nid + 172)] [] ?_⟩
          simp [cvT, step, res, a1, a2, a3, a4, a5, a6, a7, a8, a9, b1, b2, b3, b4, b5, b6, b7, b8, b9, x1, x2, x3, x4, boxQ, cntD, arrQr, ColsEq.refl, -List.getD_eq_getElem?_getD]
    · have hpl : P.length = L.length := by simpa using hlen
      have hkl : k < L.length := by omega
      rw [hat k hkl]
      clear hat hlen hpl h1
      simp -dsimp only [Bool.not_true, Bool.not_false, aqT, aqU, aqN, ↓seqK, ↓blkK, ↓loopK, step, stepBin, Nat.reduceBEq, Nat.reduceBeqDiff, Nat.add_assoc nid, Nat.reduceAdd, reduceCtorEq, ↓reduceIte, Nat.reduceLeDiff, Nat.reduceBneDiff, Option.toList, ← Int.ofNat_tmod, ← Int.ofNat_tdiv, Nat.reduceLT, a1, a2, a3, a4, a5, a6, a7, a8, a9, b1, b2, b3, b4, b5, b6, b7, b8, b9, x1, x2, x3, x4]
      have hrk := hsh.at k
      cases hgk : lnOk k (L.getD k [])
      · have q1 : eachW lnOk t = (k, false) := eachW_bad (by rw [hL]; exact hkl) (by rw [hL]; exact hg) (by rw [hL]; exact hgk)
        rw [q1]
        rcases k with _ | k
        · have hc := fun n h => rdb0_c s n (L.getD 0 []) h hrk hgk
          generalize L.getD 0 [] = line at *
          unfold rdH boxQ0 cntD at *
          simp -dsimp only [aqT, aqU, aqN, ↓seqK, ↓blkK, ↓loopK, step, stepBin, Nat.reduceBEq, Nat.reduceBeqDiff, Nat.add_assoc nid, Nat.reduceAdd, reduceCtorEq, ↓reduceIte, Nat.reduceLeDiff, Nat.reduceBneDiff, Option.toList, ← Int.ofNat_tmod, ← Int.ofNat_tdiv, Nat.reduceLT, a1, a2, a3, a4, a5, a6, a7, a8, a9, b1, b2, b3, b4, b5, b6, b7, b8, b9, x1, x2, x3, x4]
          refine CallO.on (hc _ (by omega)) (subH_cons (by simp only [aqT, aqU, aqN, ↓seqK, ↓blkK, ↓loopK, step, stepBin, Nat.reduceBEq, Nat.reduceBeqDiff, Nat.add_assoc nid, Nat.reduceAdd, reduceCtorEq, ↓reduceIte, Nat.reduceLeDiff, Nat.reduceBneDiff, Option.toList, ← Int.ofNat_tmod, ← Int.ofNat_tdiv, Nat.reduceLT, a1, a2, a3, a4, a5, a6, a7, a8, a9, b1, b2, b3, b4, b5, b6, b7, b8, b9, x1, x2, x3, x4]) (subH_get (by simp only [aqT, aqU, aqN, ↓seqK, ↓blkK, ↓loopK, step, stepBin, Nat.reduceBEq, Nat.reduceBeqDiff, Nat.add_assoc nid, Nat.reduceAdd, reduceCtorEq, ↓reduceIte, Nat.reduceLeDiff, Nat.reduceBneDiff, Option.toList, ← Int.ofNat_tmod, ← Int.ofNat_tdiv, Nat.reduceLT, a1, a2, a3, a4, a5, a6, a7, a8, a9, b1, b2, b3, b4, b5, b6, b7, b8, b9, x1, x2, x3, x4]))) ?_
          simp -dsimp only [aqT, aqU, aqN, ↓seqK, ↓blkK, ↓loopK, step, stepBin, Nat.reduceBEq, Nat.reduceBeqDiff, Nat.add_assoc nid, Nat.reduceAdd, reduceCtorEq, ↓reduceIte, Nat.reduceLeDiff, Nat.reduceBneDiff, Option.toList, ← Int.ofNat_tmod, ← Int.ofNat_tdiv, Nat.reduceLT, a1, a2, a3, a4, a5, a6, a7, a8, a9, b1, b2, b3, b4, b5, b6, b7, b8, b9, x1, x2, x3, x4, Bool.not_false, Bool.not_true]
          refine RetOK.go [] [] (.inl rfl) ?_
          simp [a164, cvT, step, res, a1, a2, a3, a4, a5, a6, a7, a8, a9, b1, b2, b3, b4, b5, b6, b7, b8, b9, x1, x2, x3, x4, rdU]
        · have hc := fun n h => rdbk_c s (nid + 8) n (L.take (k + 1)) (L.getD (k + 1) []) (by omega) h (List.ne_nil_of_length_pos (by rw [List.length_take]; omega)) (by rw [List.length_take]; omega) hrk (by rw [List.length_take, Nat.min_eq_left (by omega)]; exact hgk)
          rw [List.length_take, Nat.min_eq_left (by omega)] at hc
          generalize L.getD (k + 1) [] = line at *
          unfold rdH boxQ cntD arrQr at *
          simp -dsimp only [aqT, aqU, aqN, ↓seqK, ↓blkK, ↓loopK, step, stepBin, Nat.reduceBEq, Nat.reduceBeqDiff, Nat.add_assoc nid, Nat.reduceAdd, reduceCtorEq, ↓reduceIte, Nat.reduceLeDiff, Nat.reduceBneDiff, Option.toList, ← Int.ofNat_tmod, ← Int.ofNat_tdiv, Nat.reduceLT, a1, a2, a3, a4, a5, a6, a7, a8, a9, b1, b2, b3, b4, b5, b6, b7, b8, b9, x1, x2, x3, x4]
          refine CallO.on (hc _ (by omega)) (subH_cons (by simp only [aqT, aqU, aqN, ↓seqK, ↓blkK, ↓loopK, step, stepBin, Nat.reduceBEq, Nat.reduceBeqDiff, Nat.add_assoc nid, Nat.reduceAdd, reduceCtorEq, ↓reduceIte, Nat.reduceLeDiff, Nat.reduceBneDiff, Option.toList, ← Int.ofNat_tmod, ← Int.ofNat_tdiv, Nat.reduceLT, a1, a2, a3, a4, a5, a6, a7, a8, a9, b1, b2, b3, b4, b5, b6, b7, b8, b9, x1, x2, x3, x4]) (subH_cons (by simp only [aqT, aqU, aqN, ↓seqK, ↓blkK, ↓loopK, step, stepBin, Nat.reduceBEq, Nat.reduceBeqDiff, Nat.add_assoc nid, Nat.reduceAdd, reduceCtorEq, ↓reduceIte, Nat.reduceLeDiff, Nat.reduceBneDiff, Option.toList, ← Int.ofNat_tmod, ← Int.ofNat_tdiv, Nat.reduceLT, a1, a2, a3, a4, a5, a6, a7, a8, a9, b1, b2, b3, b4, b5, b6, b7, b8, b9, x1, x2, x3, x4]) (subH_get (by simp only [aqT, aqU, aqN, ↓seqK, ↓blkK, ↓loopK, step, stepBin, Nat.reduceBEq, Nat.reduceBeqDiff, Nat.add_assoc nid, Nat.reduceAdd, reduceCtorEq, ↓reduceIte, Nat.reduceLeDiff, Nat.reduceBneDiff, Option.toList, ← Int.ofNat_tmod, ← Int.ofNat_tdiv, Nat.reduceLT, a1, a2, a3, a4, a5, a6, a7, a8, a9, b1, b2, b3, b4, b5, b6, b7, b8, b9, x1, x2, x3, x4])))) ?_
          simp -dsimp only [aqT, aqU, aqN, ↓seqK, ↓blkK, ↓loopK, step, stepBin, Nat.reduceBEq, Nat.reduceBeqDiff, Nat.add_assoc nid, Nat.reduceAdd, reduceCtorEq, ↓reduceIte, Nat.reduceLeDiff, Nat.reduceBneDiff, Option.toList, ← Int.ofNat_tmod, ← Int.ofNat_tdiv, Nat.reduceLT, a1, a2, a3, a4, a5, a6, a7, a8, a9, b1, b2, b3, b4, b5, b6, b7, b8, b9, x1, x2, x3, x4, Bool.not_false, Bool.not_true]
          refine RetOK.go [] [] (.inl rfl) ?_
          simp [a164, cvT, step, res, a1, a2, a3, a4, a5, a6, a7, a8, a9, b1, b2, b3, b4, b5, b6, b7, b8, b9, x1, x2, x3, x4, rdU]
      · have hg1 : ∀ j, j < k + 1 → lnOk j (L.getD j []) = true := fun j hj => by
          rcases (by omega : j < k ∨ j = k) with hj | hj
          · exact hg j hj
          · rw [hj]; exact hgk
        have hsn : L.take (k + 1) = L.take k ++ [L.getD k []] := take_snoc (by rw [List.getD_eq_getElem?_getD, List.getElem?_eq_getElem hkl]; rfl)
        rcases k with _ | k
        · have hc := fun n h => rd0_c s n (L.getD 0 []) h hrk hgk
          have e1 : [L.getD 0 []] = L.take 1 := by rw [hsn]; simp
          rw [e1] at hc
          generalize L.getD 0 [] = line at *
          unfold rdH boxQ0 cntD at *
          simp -dsimp only [aqT, aqU, aqN, ↓seqK, ↓blkK, ↓loopK, step, stepBin, Nat.reduceBEq, Nat.reduceBeqDiff, Nat.add_assoc nid, Nat.reduceAdd, reduceCtorEq, ↓reduceIte, Nat.reduceLeDiff, Nat.reduceBneDiff, Option.toList, ← Int.ofNat_tmod, ← Int.ofNat_tdiv, Nat.reduceLT, a1, a2, a3, a4, a5, a6, a7, a8, a9, b1, b2, b3, b4, b5, b6, b7, b8, b9, x1, x2, x3, x4]
          refine CallO.on (hc _ (by omega)) (subH_cons (by simp only [aqT, aqU, aqN, ↓seqK, ↓blkK, ↓loopK, step, stepBin, Nat.reduceBEq, Nat.reduceBeqDiff, Nat.add_assoc nid, Nat.reduceAdd, reduceCtorEq, ↓reduceIte, Nat.reduceLeDiff, Nat.reduceBneDiff, Option.toList, ← Int.ofNat_tmod, ← Int.ofNat_tdiv, Nat.reduceLT, a1, a2, a3, a4, a5, a6, a7, a8, a9, b1, b2, b3, b4, b5, b6, b7, b8, b9, x1, x2, x3, x4]) (subH_get (by simp only [aqT, aqU, aqN, ↓seqK, ↓blkK, ↓loopK, step, stepBin, Nat.reduceBEq, Nat.reduceBeqDiff, Nat.add_assoc nid, Nat.reduceAdd, reduceCtorEq, ↓reduceIte, Nat.reduceLeDiff, Nat.reduceBneDiff, Option.toList, ← Int.ofNat_tmod, ← Int.ofNat_tdiv, Nat.reduceLT, a1, a2, a3, a4, a5, a6, a7, a8, a9, b1, b2, b3, b4, b5, b6, b7, b8, b9, x1, x2, x3, x4]))) ?_
          unfold boxQ arrQr at *
          simp -dsimp only [aqT, aqU, aqN, ↓seqK, ↓blkK, ↓loopK, step, stepBin, Nat.reduceBEq, Nat.reduceBeqDiff, Nat.add_assoc nid, Nat.reduceAdd, reduceCtorEq, ↓reduceIte, Nat.reduceLeDiff, Nat.reduceBneDiff, Option.toList, ← Int.ofNat_tmod, ← Int.ofNat_tdiv, Nat.reduceLT, a1, a2, a3, a4, a5, a6, a7, a8, a9, b1, b2, b3, b4, b5, b6, b7, b8, b9, x1, x2, x3, x4, Bool.not_false, Bool.not_true]
          refine ⟨by unfold inI64; omega, 0 + 1, ⟨⟨by omega, hg1⟩, by omega⟩, Cov.go [(nid + 8, nid + 172)] [] ?_⟩
          simp [cvT, step, res, a1, a2, a3, a4, a5, a6, a7, a8, a9, b1, b2, b3, b4, b5, b6, b7, b8, b9, x1, x2, x3, x4, boxQ, cntD, arrQr, ColsEq.refl, -List.getD_eq_getElem?_getD]
        · have hc := fun n h => rdk_c s (nid + 8) n (L.take (k + 1)) (L.getD (k + 1) []) (by omega) h (List.ne_nil_of_length_pos (by rw [List.length_take]; omega)) (by rw [List.length_take]; omega) hrk (by rw [List.length_take, Nat.min_eq_left (by omega)]; exact hgk)
          rw [← hsn, List.length_take, Nat.min_eq_left (by omega)] at hc
          generalize L.getD (k + 1) [] = line at *
          unfold rdH boxQ cntD arrQr at *
          simp -dsimp only [aqT, aqU, aqN, ↓seqK, ↓blkK, ↓loopK, step, stepBin, Nat.reduceBEq, Nat.reduceBeqDiff, Nat.add_assoc nid, Nat.reduceAdd, reduceCtorEq, ↓reduceIte, Nat.reduceLeDiff, Nat.reduceBneDiff, Option.toList, ← Int.ofNat_tmod, ← Int.ofNat_tdiv, Nat.reduceLT, a1, a2, a3, a4, a5, a6, a7, a8, a9, b1, b2, b3, b4, b5, b6, b7, b8, b9, x1, x2, x3, x4]
          refine CallO.on (hc _ (by omega)) (subH_cons (by simp only [aqT, aqU, aqN, ↓seqK, ↓blkK, ↓loopK, step, stepBin, Nat.reduceBEq, Nat.reduceBeqDiff, Nat.add_assoc nid, Nat.reduceAdd, reduceCtorEq, ↓reduceIte, Nat.reduceLeDiff, Nat.reduceBneDiff, Option.toList, ← Int.ofNat_tmod, ← Int.ofNat_tdiv, Nat.reduceLT, a1, a2, a3, a4, a5, a6, a7, a8, a9, b1, b2, b3, b4, b5, b6, b7, b8, b9, x1, x2, x3, x4]) (subH_cons (by simp only [aqT, aqU, aqN, ↓seqK, ↓blkK, ↓loopK, step, stepBin, Nat.reduceBEq, Nat.reduceBeqDiff, Nat.add_assoc nid, Nat.reduceAdd, reduceCtorEq, ↓reduceIte, Nat.reduceLeDiff, Nat.reduceBneDiff, Option.toList, ← Int.ofNat_tmod, ← Int.ofNat_tdiv, Nat.reduceLT, a1, a2, a3, a4, a5, a6, a7, a8, a9, b1, b2, b3, b4, b5, b6, b7, b8, b9, x1, x2, x3, x4]) (subH_get (by simp only [aqT, aqU, aqN, ↓seqK, ↓blkK, ↓loopK, step, stepBin, Nat.reduceBEq, Nat.reduceBeqDiff, Nat.add_assoc nid, Nat.reduceAdd, reduceCtorEq, ↓reduceIte, Nat.reduceLeDiff, Nat.reduceBneDiff, Option.toList, ← Int.ofNat_tmod, ← Int.ofNat_tdiv, Nat.reduceLT, a1, a2, a3, a4, a5, a6, a7, a8, a9, b1, b2, b3, b4, b5, b6, b7, b8, b9, x1, x2, x3, x4])))) ?_
          simp -dsimp only [aqT, aqU, aqN, ↓seqK, ↓blkK, ↓loopK, step, stepBin, Nat.reduceBEq, Nat.reduceBeqDiff, Nat.add_assoc nid, Nat.reduceAdd, reduceCtorEq, ↓reduceIte, Nat.reduceLeDiff, Nat.reduceBneDiff, Option.toList, ← Int.ofNat_tmod, ← Int.ofNat_tdiv, Nat.reduceLT, a1, a2, a3, a4, a5, a6, a7, a8, a9, b1, b2, b3, b4, b5, b6, b7, b8, b9, x1, x2, x3, x4, Bool.not_false, Bool.not_true]
          refine ⟨by unfold inI64; omega, k + 1 + 1, ⟨⟨by omega, hg1⟩, by omega⟩, Cov.go [(nid + 8, nid + 172)] [] ?_⟩
          simp [cvT, step, res, a1, a2, a3, a4, a5, a6, a7, a8, a9, b1, b2, b3, b4, b5, b6, b7, b8, b9, x1, x2, x3, x4, boxQ, cntD, arrQr, ColsEq.refl, -List.getD_eq_getElem?_getD]
  · have hEt : E = true := by
      cases E
      · have hpl : P.length = L.length + 1 := by simpa using hlen
        omega
      · rfl
    subst hEt
    have hpl : P.length = L.length := by simpa using hlen
    have hkL : k = L.length := by omega
    have hLn := hLn (hE2.1 rfl)
    have hLp : 0 < L.length := List.length_pos_iff.2 hLn
    have q1 : eachW lnOk t = (0, true) := eachW_all (hE2.1 rfl) (by rw [hL]; intro j hj; exact hg j (by omega))
    rw [q1]
    obtain ⟨j, hj⟩ : ∃ j, L.length = j + 1 := ⟨L.length - 1, by omega⟩
    rw [hkL, hj]
    have htk : L.take (j + 1) = L := List.take_of_length_le (by omega)
    rw [rdH_succ, htk, ← hj]
    unfold rdU
    unfold boxQ cntD arrQr
    refine RetOK.go [(nid, nid + 8)] [] (.inl rfl) ?_
    simp [a164, cvT, step, res, a1, a2, a3, a4, a5, a6, a7, a8, a9, b1, b2, b3, b4, b5, b6, b7, b8, b9, x1, x2, x3, x4, ColsEq.refl, -List.getD_eq_getElem?_getD]
end Go.Proofs.YtpifoghhaohhaaaGreatDoor
namespace Go.Proofs.YtpifoghhaohhaaaGreatDoor
open Go.RowKit Go.Shelf Go.Lib
theorem wrd_drop_len (r : List UInt8) : ((wrd r).drop 1).length ≤ r.length := by
  have := (wrd_len r).1
  rw [List.length_drop]
  omega
theorem read_W {t : List UInt8} (ht : t.length ≤ 200000) : DictW (dG (spl t).1) (dR (spl t).1) := by
  have hsl := spl_len t
  have hline : ∀ r, r ∈ (spl t).1 → r.length ≤ 200000 := fun r hr => by have := hsl.2 r hr; omega
  have hget : ∀ k, ((spl t).1.getD k []).length ≤ 200000 := fun k => by
    by_cases hk : k < (spl t).1.length
    · rw [getD_lt hk]; exact hline _ (List.getElem_mem hk)
    · rw [List.getD_eq_getElem?_getD, List.getElem?_eq_none (by omega)]; simp
  have hw : ∀ r : List UInt8, r.length ≤ 200000 → ((wrd r).drop 1).length ≤ 1000000 ∧ ShortRows 1000000 ((wrd r).drop 1) := fun r hr => by
    refine ⟨by have := wrd_drop_len r; omega, fun x hx => ?_⟩
    have := (wrd_len r).2 x (List.mem_of_mem_drop hx)
    omega
  refine ⟨(hw _ (hget 0)).1, (hw _ (hget 0)).2, ?_, fun k => ?_⟩
  · unfold dR; rw [List.length_map, List.length_drop]; omega
  · by_cases hk : k < (dR (spl t).1).length
    · obtain ⟨e1, e2⟩ := row_at hk
      rw [e1, e2]
      unfold dR at hk ⊢
      rw [List.length_map] at hk
      rw [List.getElem_map]
      have hm : ((spl t).1.drop 1)[k] ∈ (spl t).1 := List.mem_of_mem_drop (List.getElem_mem hk)
      generalize ((spl t).1.drop 1)[k] = r at *
      have hr := hline r hm
      refine ⟨?_, (hw r hr).1, (hw r hr).2⟩
      show ((wrd r).getD 0 []).length ≤ 1000000
      have hp := List.length_pos_iff.2 (wrd_ne r)
      rw [getD_lt hp]
      have := (wrd_len r).2 _ (List.getElem_mem hp)
      omega
    · rw [rowF_out hk, rowR_out hk]
      exact ⟨by simp, by simp, fun r hr => by simp at hr⟩
theorem lines_pos {t : List UInt8} (h0 : t ≠ []) (h : (spl t).2 = []) : 0 < (spl t).1.length := by
  have := lines_spl t h
  rcases Nat.eq_zero_or_pos (spl t).1.length with e | e
  · rw [List.eq_nil_of_length_eq_zero e] at this
    exact absurd this.symm h0
  · exact e
def noneD : PV := .agg [.lit true 0 [], .lit true 0 []]
set_option maxHeartbeats 4000000 in
theorem readBad_c (t : List UInt8) (nid : Nat) (hE : (readD t).2.2 ≠ 0) : ACall Tryz.prog 71 [.str t] [] nid (.tup [noneD, .int .i64 ((readD t).2.1 : Nat), .int .i64 (readD t).2.2]) [] := by
  refine acall_sr c71 (by simp [a71]) ?_
  unfold a71
  refine SR.seq ?_
  simp -dsimp only [aqT, aqU, aqN, aqS, ↓seqK, ↓blkK, ↓loopK, step, stepBin, Nat.add_assoc nid, ↓reduceIte, Option.toList, ← Int.ofNat_tmod, ← Int.ofNat_tdiv, simprocAttr, BEq.rfl, LN_succ]
  refine SR.seqW (ι := {_u : Unit // ¬ 200000 < t.length}) (fun _ => ⟨[(2, .ptr nid 0), (0, .str t)], [(nid, boxQ0)], nid + 100, nid⟩) ?_ (fun ⟨_, h1⟩ => ?_)
  · refine SR.run (t := .mk) ?_
    simp -dsimp only [aqT, aqU, aqN, aqS, ↓seqK, ↓blkK, ↓loopK, step, stepBin, Nat.add_assoc nid, ↓reduceIte, Option.toList, ← Int.ofNat_tmod, ← Int.ofNat_tdiv, simprocAttr, BEq.rfl, LN_succ]
    refine S2.dec (fun h => ?_) (fun h => ?_) <;> simp -dsimp only [aqT, aqU, aqN, aqS, ↓seqK, ↓blkK, ↓loopK, step, stepBin, Nat.add_assoc nid, ↓reduceIte, Option.toList, ← Int.ofNat_tmod, ← Int.ofNat_tdiv, simprocAttr, BEq.rfl, LN_succ]
    · have e : readD t = (([], []), 0, 2) := by unfold readD; rw [if_pos (by omega)]
      rw [e]
      refine RetOK.go [] [] (.inl rfl) ?_
      simp [a71, cvT, step, res, noneD]
    · refine ⟨⟨(), by omega⟩, Cov.go [] [] ?_⟩
      simp [cvT, step, res, boxQ0]
  unfold readD at hE ⊢
  rw [if_neg h1] at hE ⊢
  unfold boxQ0
  refine SR.seq ?_
  simp -dsimp only [aqT, aqU, aqN, aqS, ↓seqK, ↓blkK, ↓loopK, step, stepBin, Nat.add_assoc nid, ↓reduceIte, Option.toList, ← Int.ofNat_tmod, ← Int.ofNat_tdiv, simprocAttr, BEq.rfl, LN_succ]
  refine SR.seqTo ⟨[(6, .ptr (nid + 8) 0), (5, .ptr (nid + 4) 0), (2, .ptr nid 0), (0, .str t)], [(nid + 4, boxQ0), (nid + 4 + 4, cntD 0), (nid, boxQ0)], nid + 200, nid⟩ ?_ ?_
  · simp -dsimp only [aqT, aqU, aqN, aqS, ↓seqK, ↓blkK, ↓loopK, step, stepBin, Nat.add_assoc nid, ↓reduceIte, Option.toList, ← Int.ofNat_tmod, ← Int.ofNat_tdiv, simprocAttr, BEq.rfl, LN_succ]
    refine Cov.go [(nid + 4, nid + 100), (nid + 8, nid + 104)] [] ?_
    simp [cvT, step, res, boxQ0, cntD]
  by_cases h0 : t = []
  · subst h0
    rw [if_pos rfl] at hE ⊢
    have hc := fun m h => eachD_nil (nid + 4) m h
    unfold boxQ0 cntD at *
    refine SR.run (t := .mk) ?_
    simp -dsimp only [aqT, aqU, aqN, aqS, ↓seqK, ↓blkK, ↓loopK, step, stepBin, Nat.add_assoc nid, ↓reduceIte, Option.toList, ← Int.ofNat_tmod, ← Int.ofNat_tdiv, simprocAttr, BEq.rfl, LN_succ]
    refine CallO.on (hc _ (by omega)) (subH_cons (by simp only [aqT, aqU, aqN, aqS, ↓seqK, ↓blkK, ↓loopK, step, stepBin, Nat.add_assoc nid, ↓reduceIte, Option.toList, ← Int.ofNat_tmod, ← Int.ofNat_tdiv, simprocAttr, BEq.rfl, LN_succ]) (subH_get (by simp only [aqT, aqU, aqN, aqS, ↓seqK, ↓blkK, ↓loopK, step, stepBin, Nat.add_assoc nid, ↓reduceIte, Option.toList, ← Int.ofNat_tmod, ← Int.ofNat_tdiv, simprocAttr, BEq.rfl, LN_succ]))) ?_
    simp -dsimp only [aqT, aqU, aqN, aqS, ↓seqK, ↓blkK, ↓loopK, step, stepBin, Nat.add_assoc nid, ↓reduceIte, Option.toList, ← Int.ofNat_tmod, ← Int.ofNat_tdiv, simprocAttr, BEq.rfl, LN_succ, Bool.not_true, Bool.not_false]
    refine RetOK.go [] [] (.inl rfl) ?_
    simp [a71, cvT, step, res, noneD]
  rw [if_neg h0] at hE ⊢
  have hc := fun m h => eachD_c (nid + 4) t m h (by omega) h0
  have hok := fun h => eachW_ok (good := lnOk) (t := t) h
  obtain ⟨i, hi⟩ : ∃ i, (eachW lnOk t).1 = i := ⟨_, rfl⟩
  rw [hi] at hc hE ⊢
  cases hv : (eachW lnOk t).2 <;> rw [hv] at hc hE hok
  · rw [if_pos rfl] at hE ⊢
    unfold rdU boxQ0 cntD at *
    refine SR.run (t := .mk) ?_
    simp -dsimp only [aqT, aqU, aqN, aqS, ↓seqK, ↓blkK, ↓loopK, step, stepBin, Nat.add_assoc nid, ↓reduceIte, Option.toList, ← Int.ofNat_tmod, ← Int.ofNat_tdiv, simprocAttr, BEq.rfl, LN_succ]
    refine CallO.on (hc _ (by omega)) (subH_cons (by simp only [aqT, aqU, aqN, aqS, ↓seqK, ↓blkK, ↓loopK, step, stepBin, Nat.add_assoc nid, ↓reduceIte, Option.toList, ← Int.ofNat_tmod, ← Int.ofNat_tdiv, simprocAttr, BEq.rfl, LN_succ]) (subH_get (by simp only [aqT, aqU, aqN, aqS, ↓seqK, ↓blkK, ↓loopK, step, stepBin, Nat.add_assoc nid, ↓reduceIte, Option.toList, ← Int.ofNat_tmod, ← Int.ofNat_tdiv, simprocAttr, BEq.rfl, LN_succ]))) ?_
    simp -dsimp only [aqT, aqU, aqN, aqS, ↓seqK, ↓blkK, ↓loopK, step, stepBin, Nat.add_assoc nid, ↓reduceIte, Option.toList, ← Int.ofNat_tmod, ← Int.ofNat_tdiv, simprocAttr, BEq.rfl, LN_succ, Bool.not_true, Bool.not_false, cond_false]
    refine RetOK.go [] [] (.inl rfl) ?_
    simp [a71, cvT, step, res, noneD]
  · rw [if_neg (by simp)] at hE ⊢
    have hLp := lines_pos h0 (hok rfl).1
    have hW := read_W (t := t) (by omega)
    have hV : dictV (dG (spl t).1) (dR (spl t).1) ≠ 0 := fun e => by rw [if_pos e] at hE; exact hE rfl
    rw [if_neg hV]
    have hn0 : ((((spl t).1.length : Nat) : Int) == 0) = false := by rw [beq_eq_false_iff_ne]; omega
    have hd := fun nl m => dictD_c false nl noB (dG (spl t).1) (dR (spl t).1) m hW
    generalize (spl t).1 = L at *
    unfold rdU boxQ0 boxQ arrQr cntD dictP at *
    refine SR.run (t := .mk) ?_
    simp -dsimp only [aqT, aqU, aqN, aqS, ↓seqK, ↓blkK, ↓loopK, step, stepBin, Nat.add_assoc nid, ↓reduceIte, Option.toList, ← Int.ofNat_tmod, ← Int.ofNat_tdiv, simprocAttr, BEq.rfl, LN_succ]
    refine CallO.on (hc _ (by omega)) (subH_cons (by simp only [aqT, aqU, aqN, aqS, ↓seqK, ↓blkK, ↓loopK, step, stepBin, Nat.add_assoc nid, ↓reduceIte, Option.toList, ← Int.ofNat_tmod, ← Int.ofNat_tdiv, simprocAttr, BEq.rfl, LN_succ]) (subH_get (by simp only [aqT, aqU, aqN, aqS, ↓seqK, ↓blkK, ↓loopK, step, stepBin, Nat.add_assoc nid, ↓reduceIte, Option.toList, ← Int.ofNat_tmod, ← Int.ofNat_tdiv, simprocAttr, BEq.rfl, LN_succ]))) ?_
    simp -dsimp only [aqT, aqU, aqN, aqS, ↓seqK, ↓blkK, ↓loopK, step, stepBin, Nat.add_assoc nid, ↓reduceIte, Option.toList, ← Int.ofNat_tmod, ← Int.ofNat_tdiv, simprocAttr, BEq.rfl, LN_succ, Bool.not_true, Bool.not_false, cond_true, hn0]
    refine CallO.lent [nid + 208] (fun nl' => by
      simp only [lends, lend, noOs, aqT, aqU, aqN, aqS, ↓seqK, ↓blkK, ↓loopK, step, stepBin, Nat.add_assoc nid, ↓reduceIte, Option.toList, ← Int.ofNat_tmod, ← Int.ofNat_tdiv, simprocAttr, BEq.rfl, LN_succ]
      exact hd _ _) rfl rfl (by simp only [List.mem_singleton, forall_eq, aqT, aqU, aqN, aqS, ↓seqK, ↓blkK, ↓loopK, step, stepBin, Nat.add_assoc nid, ↓reduceIte, Option.toList, ← Int.ofNat_tmod, ← Int.ofNat_tdiv, simprocAttr, BEq.rfl, LN_succ]) ?_
    simp -dsimp only [aqT, aqU, aqN, aqS, ↓seqK, ↓blkK, ↓loopK, step, stepBin, Nat.add_assoc nid, ↓reduceIte, Option.toList, ← Int.ofNat_tmod, ← Int.ofNat_tdiv, simprocAttr, BEq.rfl, LN_succ]
    refine S2.yes (by simpa using hV) ?_
    simp -dsimp only [aqT, aqU, aqN, aqS, ↓seqK, ↓blkK, ↓loopK, step, stepBin, Nat.add_assoc nid, ↓reduceIte, Option.toList, ← Int.ofNat_tmod, ← Int.ofNat_tdiv, simprocAttr, BEq.rfl, LN_succ]
    refine RetOK.go [] [] (.inl rfl) ?_
    simp [a71, cvT, step, res, noneD]
set_option maxHeartbeats 4000000 in
theorem readOk_c (t : List UInt8) (G : List (List UInt8)) (R : RowL) (nid : Nat) (hE : readD t = ((G, R), 0, 0)) : ACall Tryz.prog 71 [.str t] [] nid (.tup [.agg [.lit false G.length [.s fun i => G.getD i []], .sl nid 0 R.length], .int .i64 0, .int .i64 0]) [(nid, arrQr R)] := by
  unfold readD at hE
  by_cases h1 : 200000 < t.length
  · rw [if_pos h1] at hE; cases hE
  rw [if_neg h1] at hE
  by_cases h0 : t = []
  · rw [if_pos h0] at hE; cases hE
  rw [if_neg h0] at hE
  cases hv : (eachW lnOk t).2
  · rw [hv, if_pos rfl] at hE
    have h9 : (9 : Int) = 0 := congrArg (fun x => x.2.2) hE
    omega
  rw [hv, if_neg (by simp)] at hE
  by_cases hV : dictV (dG (spl t).1) (dR (spl t).1) = 0
  case neg =>
    rw [if_neg hV] at hE
    exact absurd (congrArg (fun x => x.2.2) hE) hV
  rw [if_pos hV] at hE
  have eG : dG (spl t).1 = G := congrArg (fun x => x.1.1) hE
  have eR : dR (spl t).1 = R := congrArg (fun x => x.1.2) hE
  have hok := eachW_ok (good := lnOk) (t := t) hv
  have hLp := lines_pos h0 hok.1
  have hi : (eachW lnOk t).1 = 0 := by rw [eachW_all hok.1 hok.2]
  have hc := fun m h => eachD_c (nid + 4) t m h (by omega) h0
  rw [hv, hi] at hc
  have hW := read_W (t := t) (by omega)
  have hn0 : ((((spl t).1.length : Nat) : Int) == 0) = false := by rw [beq_eq_false_iff_ne]; omega
  have hd := fun nl m => dictD_c false nl noB (dG (spl t).1) (dR (spl t).1) m hW
  rw [hV] at hd
  generalize (spl t).1 = L at *
  refine acall_sr c71 (by simp [a71]) ?_
  unfold a71
  refine SR.seq ?_
  simp -dsimp only [aqT, aqU, aqN, aqS, ↓seqK, ↓blkK, ↓loopK, step, stepBin, Nat.add_assoc nid, ↓reduceIte, Option.toList, ← Int.ofNat_tmod, ← Int.ofNat_tdiv, simprocAttr, BEq.rfl, LN_succ]
  refine SR.seqTo ⟨[(2, .ptr nid 0), (0, .str t)], [(nid, boxQ0)], nid + 100, nid⟩ ?_ ?_
  · simp -dsimp only [aqT, aqU, aqN, aqS, ↓seqK, ↓blkK, ↓loopK, step, stepBin, Nat.add_assoc nid, ↓reduceIte, Option.toList, ← Int.ofNat_tmod, ← Int.ofNat_tdiv, simprocAttr, BEq.rfl, LN_succ]
    refine S2.no (by simp; omega) ?_
    simp -dsimp only [aqT, aqU, aqN, aqS, ↓seqK, ↓blkK, ↓loopK, step, stepBin, Nat.add_assoc nid, ↓reduceIte, Option.toList, ← Int.ofNat_tmod, ← Int.ofNat_tdiv, simprocAttr, BEq.rfl, LN_succ]
    refine Cov.go [] [] ?_
    simp [cvT, step, res, boxQ0]
  unfold boxQ0
  refine SR.seq ?_
  simp -dsimp only [aqT, aqU, aqN, aqS, ↓seqK, ↓blkK, ↓loopK, step, stepBin, Nat.add_assoc nid, ↓reduceIte, Option.toList, ← Int.ofNat_tmod, ← Int.ofNat_tdiv, simprocAttr, BEq.rfl, LN_succ]
  refine SR.seqTo ⟨[(6, .ptr (nid + 8) 0), (5, .ptr (nid + 4) 0), (2, .ptr nid 0), (0, .str t)], [(nid + 4, boxQ0), (nid + 4 + 4, cntD 0), (nid, boxQ0)], nid + 200, nid⟩ ?_ ?_
  · simp -dsimp only [aqT, aqU, aqN, aqS, ↓seqK, ↓blkK, ↓loopK, step, stepBin, Nat.add_assoc nid, ↓reduceIte, Option.toList, ← Int.ofNat_tmod, ← Int.ofNat_tdiv, simprocAttr, BEq.rfl, LN_succ]
    refine Cov.go [(nid + 4, nid + 100), (nid + 8, nid + 104)] [] ?_
    simp [cvT, step, res, boxQ0, cntD]
  unfold rdU boxQ0 boxQ arrQr cntD dictP at *
  rw [eG, eR] at hc hd
  refine SR.run (t := .mk) ?_
  simp -dsimp only [aqT, aqU, aqN, aqS, ↓seqK, ↓blkK, ↓loopK, step, stepBin, Nat.add_assoc nid, ↓reduceIte, Option.toList, ← Int.ofNat_tmod, ← Int.ofNat_tdiv, simprocAttr, BEq.rfl, LN_succ]
  refine CallO.on (hc _ (by omega)) (subH_cons (by simp only [aqT, aqU, aqN, aqS, ↓seqK, ↓blkK, ↓loopK, step, stepBin, Nat.add_assoc nid, ↓reduceIte, Option.toList, ← Int.ofNat_tmod, ← Int.ofNat_tdiv, simprocAttr, BEq.rfl, LN_succ]) (subH_get (by simp only [aqT, aqU, aqN, aqS, ↓seqK, ↓blkK, ↓loopK, step, stepBin, Nat.add_assoc nid, ↓reduceIte, Option.toList, ← Int.ofNat_tmod, ← Int.ofNat_tdiv, simprocAttr, BEq.rfl, LN_succ]))) ?_
  simp -dsimp only [aqT, aqU, aqN, aqS, ↓seqK, ↓blkK, ↓loopK, step, stepBin, Nat.add_assoc nid, ↓reduceIte, Option.toList, ← Int.ofNat_tmod, ← Int.ofNat_tdiv, simprocAttr, BEq.rfl, LN_succ, Bool.not_true, Bool.not_false, cond_true, hn0]
  refine CallO.lent [nid + 208] (fun nl' => by
    simp only [lends, lend, noOs, aqT, aqU, aqN, aqS, ↓seqK, ↓blkK, ↓loopK, step, stepBin, Nat.add_assoc nid, ↓reduceIte, Option.toList, ← Int.ofNat_tmod, ← Int.ofNat_tdiv, simprocAttr, BEq.rfl, LN_succ]
    exact hd _ _) rfl rfl (by simp only [List.mem_singleton, forall_eq, aqT, aqU, aqN, aqS, ↓seqK, ↓blkK, ↓loopK, step, stepBin, Nat.add_assoc nid, ↓reduceIte, Option.toList, ← Int.ofNat_tmod, ← Int.ofNat_tdiv, simprocAttr, BEq.rfl, LN_succ]) ?_
  simp -dsimp only [aqT, aqU, aqN, aqS, ↓seqK, ↓blkK, ↓loopK, step, stepBin, Nat.add_assoc nid, ↓reduceIte, Option.toList, ← Int.ofNat_tmod, ← Int.ofNat_tdiv, simprocAttr, BEq.rfl, LN_succ]
  refine RetOK.go [(nid, nid + 208)] [] (.inl rfl) ?_
  simp [a71, cvT, step, res, ColsEq.refl, -List.getD_eq_getElem?_getD]
end Go.Proofs.YtpifoghhaohhaaaGreatDoor
namespace Go.Proofs.YtpifoghhaohhaaaGreatDoor
open Go.RowKit Go.Shelf Go.Lib
end Go.Proofs.YtpifoghhaohhaaaGreatDoor
namespace Go.Proofs.YtpifoghhaohhaaaGreatDoor
open Go.RowKit Go.Shelf Go.Lib
end Go.Proofs.YtpifoghhaohhaaaGreatDoor
namespace Go.Proofs.YtpifoghhaohhaaaGreatDoor
open Go.RowKit Go.Shelf Go.Lib
end Go.Proofs.YtpifoghhaohhaaaGreatDoor
namespace Go.Proofs.YtpifoghhaohhaaaGreatDoor
open Go.RowKit Go.Shelf Go.Lib
abbrev Rw := List UInt8 × Bool × List (List UInt8)
def z0 : Rw := ([], true, [])
end Go.Proofs.YtpifoghhaohhaaaGreatDoor
namespace Go.Proofs.YtpifoghhaohhaaaGreatDoor
theorem sT_old {S : SeenL} {y : Int × List UInt8} {k : Nat} (h : k < S.length) : sT (S ++ [y]) k = sT S k := by unfold sT; rw [List.getD_eq_getElem?_getD, List.getElem?_append_left h, ← List.getD_eq_getElem?_getD]
theorem sR_old {S : SeenL} {y : Int × List UInt8} {k : Nat} (h : k < S.length) : sR (S ++ [y]) k = sR S k := by unfold sR; rw [List.getD_eq_getElem?_getD, List.getElem?_append_left h, ← List.getD_eq_getElem?_getD]
theorem sT_new {S : SeenL} {y : Int × List UInt8} {k : Nat} (h : k = S.length) : sT (S ++ [y]) k = y.1 := by unfold sT; subst h; simp
theorem sR_new {S : SeenL} {y : Int × List UInt8} {k : Nat} (h : k = S.length) : sR (S ++ [y]) k = y.2 := by unfold sR; subst h; simp
theorem consB_iff {L : List (List UInt8)} {S : SeenL} : consB L S = true ↔ ∀ k, k < S.length → L.getD (sT S k).toNat [] = sR S k := by
  unfold consB offB
  simp only [Bool.not_eq_true', List.any_eq_false, List.mem_range, Bool.not_eq_false, beq_iff_eq]
structure SeenOk (G L : List (List UInt8)) (S : SeenL) (m : Nat) : Prop where
  i : ∀ k, k < S.length → 0 ≤ sT S k ∧ sT S k < m
  o : ∀ k, k + 1 < S.length → sT S k < sT S (k + 1)
  r : ∀ k, k < S.length → sR S k = L.getD (sT S k).toNat []
theorem SeenOk.skip {G L : List (List UInt8)} {S : SeenL} {m : Nat} (h : SeenOk G L S m) : SeenOk G L S (m + 1) := ⟨fun k hk => by have := h.i k hk; omega, h.o, h.r⟩
theorem SeenOk.more {G L : List (List UInt8)} {S : SeenL} {m : Nat} (h : SeenOk G L S m) : SeenOk G L (S ++ [((m : Int), L.getD m [])]) (m + 1) := by
  have hl : (S ++ [((m : Int), L.getD m [])]).length = S.length + 1 := by simp
  refine ⟨fun k hk => ?_, fun k hk => ?_, fun k hk => ?_⟩
  · rw [hl] at hk
    by_cases e : k < S.length
    · rw [sT_old e]; have := h.i k e; omega
    · rw [sT_new (by omega)]; simp only; omega
  · rw [hl] at hk
    by_cases e : k + 1 < S.length
    · rw [sT_old e, sT_old (by omega)]; exact h.o k e
    · rw [sT_old (by omega), sT_new (by omega)]; exact (h.i k (by omega)).2
  · rw [hl] at hk
    by_cases e : k < S.length
    · rw [sT_old e, sR_old e]; exact h.r k e
    · rw [sT_new (by omega), sR_new (by omega)]; simp
theorem SeenOk.len {G L : List (List UInt8)} {S : SeenL} {m : Nat} (h : SeenOk G L S m) : S.length ≤ m := by
  have : ∀ k, k < S.length → (k : Int) ≤ sT S k := fun k => by
    induction k with
    | zero => intro hk; exact (h.i 0 hk).1
    | succ k ih => intro hk; have := ih (by omega); have := h.o k hk; omega
  by_cases e : S.length = 0
  · omega
  · have h1 := this (S.length - 1) (by omega)
    have h2 := (h.i (S.length - 1) (by omega)).2
    omega
theorem SeenOk.w {G L : List (List UInt8)} {S : SeenL} {m : Nat} (h : SeenOk G L S m) (hm : m ≤ 1000000) (hL : ShortRows 1000000 L) (hl : S.length ≤ m) : SnW S := ⟨by omega, fun k => by
  by_cases hk : k < S.length
  · rw [h.r k hk]; exact hL.at _
  · unfold sR; rw [List.getD_eq_getElem?_getD, List.getElem?_eq_none (by omega)]; simp⟩
theorem SeenOk.cons {G L : List (List UInt8)} {S : SeenL} {m : Nat} (h : SeenOk G L S m) : consB L S = true := consB_iff.2 fun k hk => (h.r k hk).symm
theorem SeenOk.bad {G L : List (List UInt8)} {S : SeenL} {m : Nat} (h : SeenOk G L S m) (hm : m ≤ G.length) (hL : L.length = G.length) (hr : L.any oddS = false) : ∀ k, k < S.length → seenBad G.length S k = 0 := fun k hk => by
  have hi := h.i k hk
  unfold seenBad outB
  rw [if_neg (by simp only [decide_eq_true_eq]; omega)]
  have hno : ¬ oddS (sR S k) = true := by
    rw [h.r k hk]
    have hlt : (sT S k).toNat < L.length := by omega
    rw [List.getD_eq_getElem?_getD, List.getElem?_eq_getElem hlt]
    have := List.any_eq_false.1 hr _ (List.getElem_mem hlt)
    exact this
  rw [if_neg hno, if_neg]
  rintro ⟨h1, h2⟩
  have := h.o (k - 1) (by omega)
  rw [show k - 1 + 1 = k by omega] at this
  omega
end Go.Proofs.YtpifoghhaohhaaaGreatDoor
namespace Go.Proofs.YtpifoghhaohhaaaGreatDoor
open Go.RowKit Go.Shelf Go.Lib
structure SnB (m : Nat) (S : SeenL) : Prop where
  l : S.length ≤ m
  r : ∀ x ∈ S, (-1 ≤ x.1 ∧ x.1 ≤ 1000000) ∧ x.2.length ≤ 101
theorem SnB.w {m : Nat} {S : SeenL} (h : SnB m S) (hm : m ≤ 1000000) : SnW S := ⟨by have := h.l; omega, fun k => by
  unfold sR
  rw [List.getD_eq_getElem?_getD]
  cases e : S[k]? with
  | none => simp
  | some x => have := (h.r x (List.mem_of_getElem? e)).2; simp only [Option.getD_some]; omega⟩
theorem SnB.at {m : Nat} {S : SeenL} (h : SnB m S) {k : Nat} (hk : k < S.length) : (-1 ≤ sT S k ∧ sT S k ≤ 1000000) ∧ (sR S k).length ≤ 101 := by
  have := h.r _ (List.getElem_mem hk)
  unfold sT sR
  rw [List.getD_eq_getElem?_getD, List.getElem?_eq_getElem hk]
  exact this
theorem SnB.snoc {m : Nat} {S : SeenL} (h : SnB m S) {t : Int} {r : List UInt8} (ht : -1 ≤ t ∧ t ≤ 1000000) (hr : r.length ≤ 101) : SnB (m + 1) (S ++ [(t, r)]) := ⟨by have := h.l; simp; omega, fun x hx => by
  rcases List.mem_append.1 hx with hx | hx
  · exact h.r x hx
  · simp only [List.mem_singleton] at hx; subst hx; exact ⟨ht, hr⟩⟩
theorem SnB.more {m m' : Nat} {S : SeenL} (h : SnB m S) (hm : m ≤ m') : SnB m' S := ⟨by have := h.l; omega, h.r⟩
theorem SnB.put {m : Nat} {S : SeenL} (h : SnB m S) {t : Int} {r : List UInt8} (ht : -1 ≤ t ∧ t ≤ 1000000) (hr : r.length ≤ 101) (I : Nat) : SnB m (S.set I (t, r)) := ⟨by rw [List.length_set]; exact h.l, fun x hx => by
  rcases List.mem_or_eq_of_mem_set hx with hx | rfl
  · exact h.r x hx
  · exact ⟨ht, hr⟩⟩
end Go.Proofs.YtpifoghhaohhaaaGreatDoor
namespace Go.Proofs.YtpifoghhaohhaaaGreatDoor
open Go.RowKit Go.Shelf Go.Lib
end Go.Proofs.YtpifoghhaohhaaaGreatDoor
namespace Go.Proofs.YtpifoghhaohhaaaGreatDoor
open Go.RowKit Go.Shelf Go.Lib
end Go.Proofs.YtpifoghhaohhaaaGreatDoor
namespace Go.Proofs.YtpifoghhaohhaaaGreatDoor
open Go.RowKit Go.Shelf Go.Lib
end Go.Proofs.YtpifoghhaohhaaaGreatDoor
namespace Go.Proofs.YtpifoghhaohhaaaGreatDoor
open Go.RowKit Go.Shelf Go.Lib
end Go.Proofs.YtpifoghhaohhaaaGreatDoor
namespace Go.Proofs.YtpifoghhaohhaaaGreatDoor
open Go.RowKit Go.Shelf Go.Lib
end Go.Proofs.YtpifoghhaohhaaaGreatDoor
namespace Go.Proofs.YtpifoghhaohhaaaGreatDoor
open Go.RowKit Go.Shelf Go.Lib
end Go.Proofs.YtpifoghhaohhaaaGreatDoor
namespace Go.Proofs.YtpifoghhaohhaaaGreatDoor
open Go.RowKit Go.Shelf Go.Lib
theorem Scoped.cons {b b' i : Nat} {x : ABlk} {Hs : Heap} (hs : Scoped b Hs) (hb : b ≤ i) (hi : i < b') (hx : lowBlk b' (some x) = true) : Scoped b' ((i, some x) :: Hs) := by
  have hs' := hs.mono (b' := b') (by omega)
  refine ⟨fun j hj => ?_, fun j y hy => ?_⟩
  · simp only [keys, List.map_cons, List.mem_cons] at hj
    rcases hj with rfl | hj
    · exact hi
    · exact hs'.lt j hj
  · simp only [getH] at hy
    by_cases e : (i == j) = true
    · simp only [e, cond_true, Option.some.injEq] at hy; subst hy; exact hx
    · simp only [Bool.not_eq_true] at e; simp only [e, cond_false] at hy
      exact hs'.blk j y hy
end Go.Proofs.YtpifoghhaohhaaaGreatDoor
namespace Go.Proofs.YtpifoghhaohhaaaGreatDoor
open Go.RowKit Go.Shelf Go.Lib
end Go.Proofs.YtpifoghhaohhaaaGreatDoor
namespace Go.Proofs.YtpifoghhaohhaaaGreatDoor
open Go.RowKit Go.Shelf Go.Lib
end Go.Proofs.YtpifoghhaohhaaaGreatDoor
namespace Go.Proofs.YtpifoghhaohhaaaGreatDoor
open Go.RowKit Go.Shelf Go.Lib
end Go.Proofs.YtpifoghhaohhaaaGreatDoor
namespace Go.Proofs.YtpifoghhaohhaaaGreatDoor
open Go.RowKit Go.Shelf Go.Lib
end Go.Proofs.YtpifoghhaohhaaaGreatDoor
namespace Go.Proofs.YtpifoghhaohhaaaGreatDoor
open Go.RowKit Go.Shelf Go.Lib
end Go.Proofs.YtpifoghhaohhaaaGreatDoor
namespace Go.Proofs.YtpifoghhaohhaaaGreatDoor
open Go.RowKit Go.Shelf Go.Lib
theorem sameRow_c (f : List UInt8) (b1 b2 : Bool) (L : List (List UInt8)) (nid : Nat) (hL : L.length ≤ 1000000) :
    ACall Tryz.prog 170 [.agg [.str f, .lit b1 L.length [.s fun j => L.getD j []]], .agg [.str f, .lit b2 L.length [.s fun j => L.getD j []]]] [] nid (.bool true) [] := by
  have he := fun m => equalS_c b1 b2 L L m (by omega) (by omega)
  rw [show (L == L) = true by simp] at he
  unfold litS at he
  refine acall_run c170 (by simp [a170]) ?_
  simp -dsimp only [a170, aqT, aqU, aqN, aqS, ↓seqK, ↓blkK, ↓loopK, step, stepBin, Nat.add_assoc nid, ↓reduceIte, Option.toList, ← Int.ofNat_tmod, ← Int.ofNat_tdiv, simprocAttr, BEq.rfl, LN_succ, beq_self_eq_true]
  refine CallO.pure (he _) ?_
  simp -dsimp only [aqT, aqU, aqN, aqS, ↓seqK, ↓blkK, ↓loopK, step, stepBin, Nat.add_assoc nid, ↓reduceIte, Option.toList, ← Int.ofNat_tmod, ← Int.ofNat_tdiv, simprocAttr, BEq.rfl, LN_succ]
  refine RetOK.go [] [] (.inl rfl) ?_
  simp [a170, cvT, step, res]
set_option maxHeartbeats 2000000 in
theorem equalRows_c (r1 r2 : Bool) (b1 b2 : Nat → Bool) (R : RowL) (nid : Nat) (hR : R.length ≤ 1000000) (hL : ∀ k, (rowR R k).length ≤ 1000000) :
    ACall Tryz.prog 169 [rowsP r1 b1 R, rowsP r2 b2 R, .fn 170 []] [] nid (.bool true) [] := by
  refine acall_run c169 (by simp [a169]) ?_
  unfold rowsP
  simp -dsimp only [a169, aqT, aqU, aqN, aqS, ↓seqK, ↓blkK, ↓loopK, step, stepBin, Nat.add_assoc nid, ↓reduceIte, Option.toList, ← Int.ofNat_tmod, ← Int.ofNat_tdiv, simprocAttr, BEq.rfl, LN_succ, bne_self_eq_false]
  refine LP.mkP (fun k : Nat => k ≤ R.length) (fun k : Nat => ⟨[(17, .int .i64 k), (16, .int .i64 R.length), (15, rowsP r1 b1 R), (1, rowsP r2 b2 R), (2, .fn 170 [])], [], nid + 100, nid⟩) (fun k => R.length + 1 - k) 0 (by omega) (Cov.go [] [] ?_) (fun k hk => ?_)
  · simp [cvT, step, res, rowsP, ColsEq.refl, -List.getD_eq_getElem?_getD]
  unfold rowsP
  simp -dsimp only [aqT, aqU, aqN, aqS, ↓seqK, ↓blkK, ↓loopK, step, stepBin, Nat.add_assoc nid, ↓reduceIte, Option.toList, ← Int.ofNat_tmod, ← Int.ofNat_tdiv, simprocAttr, BEq.rfl, LN_succ]
  refine S2.dec (fun h3 => ?_) (fun h3 => ?_) <;> simp -dsimp only [aqT, aqU, aqN, aqS, ↓seqK, ↓blkK, ↓loopK, step, stepBin, Nat.add_assoc nid, ↓reduceIte, Option.toList, ← Int.ofNat_tmod, ← Int.ofNat_tdiv, simprocAttr, BEq.rfl, LN_succ]
  · refine ⟨by omega, by omega, CallO.pure (sameRow_c (rowF R k) (b1 k) (b2 k) (rowR R k) _ (hL k)) ?_⟩
    simp -dsimp only [aqT, aqU, aqN, aqS, ↓seqK, ↓blkK, ↓loopK, step, stepBin, Nat.add_assoc nid, ↓reduceIte, Option.toList, ← Int.ofNat_tmod, ← Int.ofNat_tdiv, simprocAttr, BEq.rfl, LN_succ, Bool.not_true]
    refine ⟨by unfold inI64; omega, k + 1, ⟨by omega, by omega⟩, Cov.go [] [] ?_⟩
    simp [cvT, step, res, rowsP, ColsEq.refl, -List.getD_eq_getElem?_getD]
  · refine RetOK.go [] [] (.inl rfl) ?_
    simp [a169, cvT, step, res]
theorem sameDict_c (g1 g2 r1 r2 : Bool) (b1 b2 : Nat → Bool) (G : List (List UInt8)) (R : RowL) (nid : Nat) (hB : DictW G R) :
    ACall Tryz.prog 73 [dictP g1 r1 b1 G R, dictP g2 r2 b2 G R] [] nid (.bool true) [] := by
  have hgl := hB.gl
  have he := fun m => equalS_c g1 g2 G G m (by omega) (by omega)
  have hr := fun m => equalRows_c r1 r2 b1 b2 R m hB.rl (fun k => (hB.rs k).2.1)
  rw [show (G == G) = true by simp] at he
  unfold litS at he
  unfold rowsP at hr
  refine acall_run c73 (by simp [a73]) ?_
  unfold dictP
  simp -dsimp only [aqT, aqU, aqN, aqS, ↓seqK, ↓blkK, ↓loopK, step, stepBin, Nat.add_assoc nid, ↓reduceIte, Option.toList, ← Int.ofNat_tmod, ← Int.ofNat_tdiv, simprocAttr, BEq.rfl, LN_succ, a73]
  refine CallO.pure (he _) ?_
  simp -dsimp only [aqT, aqU, aqN, aqS, ↓seqK, ↓blkK, ↓loopK, step, stepBin, Nat.add_assoc nid, ↓reduceIte, Option.toList, ← Int.ofNat_tmod, ← Int.ofNat_tdiv, simprocAttr, BEq.rfl, LN_succ]
  refine CallO.pure (hr _) ?_
  simp -dsimp only [aqT, aqU, aqN, aqS, ↓seqK, ↓blkK, ↓loopK, step, stepBin, Nat.add_assoc nid, ↓reduceIte, Option.toList, ← Int.ofNat_tmod, ← Int.ofNat_tdiv, simprocAttr, BEq.rfl, LN_succ]
  refine RetOK.go [] [] (.inl rfl) ?_
  simp [a73, cvT, step, res]
end Go.Proofs.YtpifoghhaohhaaaGreatDoor
namespace Go.Proofs.YtpifoghhaohhaaaGreatDoor
open Go.RowKit Go.Shelf Go.Lib
end Go.Proofs.YtpifoghhaohhaaaGreatDoor
