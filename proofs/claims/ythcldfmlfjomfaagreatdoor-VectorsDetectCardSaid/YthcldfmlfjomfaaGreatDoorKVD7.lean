/-
  Vectors that the stream makes, by the abstract machine.
-/
import Derived.Test.YthcldfmlfjomfaaGreatDoorKVD5
import Derived.Test.YthcldfmlfjomfaaGreatDoorKVD6
import Derived.Test.YthcldfmlfjomfaaGreatDoorKVD3
import Derived.Test.YthcldfmlfjomfaaGreatDoorProg
import Derived.Test.YthcldfmlfjomfaaGreatDoorChecked
import Derived.Handed
import Derived.HandedShaped
import Derived.Shelf.Vars
import Derived.KernelRfl
set_option linter.unusedVariables false
set_option linter.unusedSimpArgs false
set_option maxRecDepth 100000
namespace Go.Proofs.YthcldfmlfjomfaaGreatDoor
open Go.RowKit
def Narrow (x : List (List UInt8)) : Prop := ∃ I : Nat, ∀ j : Nat, j ≠ I → (x.getD j []).length ≤ 6
theorem narrow_short {x : List (List UInt8)} (h : ShortRows 6 x) : Narrow x := ⟨0, fun j _ => h.at j⟩
theorem narrow_nil : Narrow [] := ⟨0, fun j _ => by simp⟩
theorem narrow_set {x : List (List UInt8)} (h : ShortRows 6 x) (I : Nat) (b : List UInt8) : Narrow (x.set I b) := ⟨I, fun j hj => by
  have := h.at j
  rw [List.getD_eq_getElem?_getD, List.getElem?_set_ne (fun e => hj e.symm), ← List.getD_eq_getElem?_getD]
  exact this⟩
set_option maxHeartbeats 8000000 in
theorem patternsX (s nid : Nat) (nl : Bool) (A : List Int) (p most : Nat) (h : s < nid) (hp : p ≤ 1099500000000) (hA : A.length ≤ 17592186044416) (hm : most ≤ 1000) :
    ∃ x : (Int × List (List UInt8)) × Nat, (x.1.2.length ≤ most + 1 ∧ ShortRows 20 x.1.2 ∧ x.2 ≤ p + 8000 ∧ Narrow x.1.2) ∧ ACall Tryz.prog 6 [.ptr s 0, .int .i64 (most : Nat)] [(s, strmC nl A p)] nid (.tup [.int .i64 x.1.1, .sl nid 0 x.1.2.length]) [(s, strmC nl A x.2), (nid, arrS x.1.2)] := by
  obtain ⟨e1, e2, e3, e4, e5, e6, e7, e8, e9⟩ := id_all h
  refine acall_ex c6 (by simp [a6]) ?_
  simp -dsimp only [aqT0, ROp0, aqT, aqU, aqN, aqS, ↓seqK, ↓blkK, ↓loopK, step, stepBin, Nat.add_assoc nid, ↓reduceIte, Option.toList, ← Int.ofNat_tmod, ← Int.ofNat_tdiv, simprocAttr, BEq.rfl, LN_succ, e1, e2, e3, e4, e5, e6, e7, e8, e9, a6, strmC_low]
  refine CallX.on (range_c s _ nl A p 1 6 (by omega) (by omega) hA (by omega) (by omega) (by omega)) (subH_get (by simp only [aqT, aqU, aqN, ↓seqK, ↓blkK, ↓loopK, step, stepBin, Nat.reduceBEq, Nat.reduceBeqDiff, Nat.add_assoc nid, Nat.reduceAdd, reduceCtorEq, ↓reduceIte, Nat.reduceLeDiff, Nat.reduceBneDiff, Option.toList, ← Int.ofNat_tmod, ← Int.ofNat_tdiv, Nat.reduceLT, e1, e2, e3, e4, e5, e6, e7, e8, e9])) ?_
  simp -dsimp only [aqT0, ROp0, aqT, aqU, aqN, aqS, ↓seqK, ↓blkK, ↓loopK, step, stepBin, Nat.add_assoc nid, ↓reduceIte, Option.toList, ← Int.ofNat_tmod, ← Int.ofNat_tdiv, simprocAttr, BEq.rfl, LN_succ, e1, e2, e3, e4, e5, e6, e7, e8, e9, strmC_low]
  have hwd := rangeV_bd A p (lo := 1) (hi := 6) (by omega)
  obtain ⟨w, hw⟩ : ∃ w : Nat, rangeV A p 1 6 = w := ⟨_, (Int.toNat_of_nonneg (by omega)).symm⟩
  rw [hw] at hwd ⊢
  clear hw
  refine CallX.on (range_c s _ nl A (p + 1) 0 most (by omega) (by omega) hA (by omega) (by omega) (by omega)) (subH_get (by simp only [aqT, aqU, aqN, ↓seqK, ↓blkK, ↓loopK, step, stepBin, Nat.reduceBEq, Nat.reduceBeqDiff, Nat.add_assoc nid, Nat.reduceAdd, reduceCtorEq, ↓reduceIte, Nat.reduceLeDiff, Nat.reduceBneDiff, Option.toList, ← Int.ofNat_tmod, ← Int.ofNat_tdiv, Nat.reduceLT, e1, e2, e3, e4, e5, e6, e7, e8, e9])) ?_
  simp -dsimp only [aqT0, ROp0, aqT, aqU, aqN, aqS, ↓seqK, ↓blkK, ↓loopK, step, stepBin, Nat.add_assoc nid, ↓reduceIte, Option.toList, ← Int.ofNat_tmod, ← Int.ofNat_tdiv, simprocAttr, BEq.rfl, LN_succ, e1, e2, e3, e4, e5, e6, e7, e8, e9, strmC_low]
  have hmd := rangeV_bd A (p + 1) (lo := 0) (hi := (most : Int)) (by omega)
  obtain ⟨m, hm2⟩ : ∃ w : Nat, rangeV A (p + 1) 0 most = w := ⟨_, (Int.toNat_of_nonneg (by omega)).symm⟩
  rw [hm2] at hmd ⊢
  clear hm2
  refine LP0.mkP (fun x : List (List UInt8) × Nat => x.1.length ≤ m ∧ ShortRows 6 x.1 ∧ x.2 ≤ p + 2 + 6 * x.1.length) (fun x => ⟨[(14, .int .i64 x.1.length), (13, .int .i64 m), (7, .sl (nid + 8) 0 x.1.length), (6, .int .i64 w), (0, .ptr s 0)],
    [(s, strmC nl A x.2), (nid + 8, arrS x.1)], nid + 200, nid⟩) (fun x => m + 1 - x.1.length) ([], p + 1 + 1) ⟨by simp, fun r hr => by simp at hr, by simp⟩ (Cov.go [] [(nid + 8, 1)] ?_) (fun x hx => ?_)
  · simp [cvT, step, res, e1, e2, e3, e4, e5, e6, e7, e8, e9, strmC, arrS]
  obtain ⟨x, q⟩ := x
  obtain ⟨hR1, hR2, hq⟩ := hx
  simp only at hR1 hR2 hq
  have hat := fun i => hR2.at i
  unfold arrS
  simp -dsimp only [aqT0, ROp0, aqT, aqU, aqN, aqS, ↓seqK, ↓blkK, ↓loopK, step, stepBin, Nat.add_assoc nid, ↓reduceIte, Option.toList, ← Int.ofNat_tmod, ← Int.ofNat_tdiv, simprocAttr, BEq.rfl, LN_succ, e1, e2, e3, e4, e5, e6, e7, e8, e9, strmC_low]
  refine S2.dec (fun h2 => ?_) (fun h2 => ?_) <;> simp -dsimp only [aqT0, ROp0, aqT, aqU, aqN, aqS, ↓seqK, ↓blkK, ↓loopK, step, stepBin, Nat.add_assoc nid, ↓reduceIte, Option.toList, ← Int.ofNat_tmod, ← Int.ofNat_tdiv, simprocAttr, BEq.rfl, LN_succ, e1, e2, e3, e4, e5, e6, e7, e8, e9, strmC_low]
  · refine CallX.onE (bitsX s _ nl A q w (by omega) (by omega) (by omega) hA) (subH_get (by simp only [aqT, aqU, aqN, ↓seqK, ↓blkK, ↓loopK, step, stepBin, Nat.reduceBEq, Nat.reduceBeqDiff, Nat.add_assoc nid, Nat.reduceAdd, reduceCtorEq, ↓reduceIte, Nat.reduceLeDiff, Nat.reduceBneDiff, Option.toList, ← Int.ofNat_tmod, ← Int.ofNat_tdiv, Nat.reduceLT, e1, e2, e3, e4, e5, e6, e7, e8, e9])) (fun t ht => ?_)
    simp -dsimp only [aqT0, ROp0, aqT, aqU, aqN, aqS, ↓seqK, ↓blkK, ↓loopK, step, stepBin, Nat.add_assoc nid, ↓reduceIte, Option.toList, ← Int.ofNat_tmod, ← Int.ofNat_tdiv, simprocAttr, BEq.rfl, LN_succ, e1, e2, e3, e4, e5, e6, e7, e8, e9, strmC_low]
    rw [getD_app1 x t rfl]
    have hl : (x ++ [t]).length = x.length + 1 := by simp
    refine ⟨by omega, by unfold inI64; omega, (x ++ [t], q + w), ⟨⟨by simp only; omega, by simp only; exact hR2.snoc (by omega), by simp only; omega⟩, by simp only; omega⟩, Cov.go [(nid + 8, nid + 224)] [] ?_⟩
    simp [cvT, step, res, e1, e2, e3, e4, e5, e6, e7, e8, e9, strmC, arrS, hl, -List.length_append, -List.getD_eq_getElem?_getD]
  have hxm : x.length = m := by omega
  clear hxm h2
  rcases Nat.eq_zero_or_pos x.length with hx0 | hx0
  · have hxe : x = [] := List.eq_nil_of_length_eq_zero hx0
    subst hxe
    simp -dsimp only [aqT0, ROp0, aqT, aqU, aqN, aqS, ↓seqK, ↓blkK, ↓loopK, step, stepBin, Nat.add_assoc nid, ↓reduceIte, Option.toList, ← Int.ofNat_tmod, ← Int.ofNat_tdiv, simprocAttr, BEq.rfl, LN_succ, e1, e2, e3, e4, e5, e6, e7, e8, e9, strmC_low]
    refine CallX.on (flip_c s _ nl A (q) 20 (by omega) (by omega) hA (by omega)) (subH_get (by simp only [aqT, aqU, aqN, ↓seqK, ↓blkK, ↓loopK, step, stepBin, Nat.reduceBEq, Nat.reduceBeqDiff, Nat.add_assoc nid, Nat.reduceAdd, reduceCtorEq, ↓reduceIte, Nat.reduceLeDiff, Nat.reduceBneDiff, Option.toList, ← Int.ofNat_tmod, ← Int.ofNat_tdiv, Nat.reduceLT, e1, e2, e3, e4, e5, e6, e7, e8, e9])) ?_
    simp -dsimp only [aqT0, ROp0, aqT, aqU, aqN, aqS, ↓seqK, ↓blkK, ↓loopK, step, stepBin, Nat.add_assoc nid, ↓reduceIte, Option.toList, ← Int.ofNat_tmod, ← Int.ofNat_tdiv, simprocAttr, BEq.rfl, LN_succ, e1, e2, e3, e4, e5, e6, e7, e8, e9, strmC_low]
    refine S2.intro (fun h9 => ?_) (fun h9 => ?_) <;> simp -dsimp only [aqT0, ROp0, aqT, aqU, aqN, aqS, ↓seqK, ↓blkK, ↓loopK, step, stepBin, Nat.add_assoc nid, ↓reduceIte, Option.toList, ← Int.ofNat_tmod, ← Int.ofNat_tdiv, simprocAttr, BEq.rfl, LN_succ, e1, e2, e3, e4, e5, e6, e7, e8, e9, strmC_low]
    · refine CallX.onE (oddI_c s _ nl A (q + 1) 1 100 (by omega) (by omega) hA (by omega) (by omega) (by omega)) (subH_get (by simp only [aqT, aqU, aqN, ↓seqK, ↓blkK, ↓loopK, step, stepBin, Nat.reduceBEq, Nat.reduceBeqDiff, Nat.add_assoc nid, Nat.reduceAdd, reduceCtorEq, ↓reduceIte, Nat.reduceLeDiff, Nat.reduceBneDiff, Option.toList, ← Int.ofNat_tmod, ← Int.ofNat_tdiv, Nat.reduceLT, e1, e2, e3, e4, e5, e6, e7, e8, e9])) (fun z hz => ?_)
      simp -dsimp only [aqT0, ROp0, aqT, aqU, aqN, aqS, ↓seqK, ↓blkK, ↓loopK, step, stepBin, Nat.add_assoc nid, ↓reduceIte, Option.toList, ← Int.ofNat_tmod, ← Int.ofNat_tdiv, simprocAttr, BEq.rfl, LN_succ, e1, e2, e3, e4, e5, e6, e7, e8, e9, strmC_low]
      refine EndOK.mk ((z, []), q + 1 + 2) ⟨by simp, fun r hr => by simp at hr, by simp only; omega, narrow_nil⟩ ?_
      refine RetOK.go [(nid, nid + 8)] [] (.inl rfl) ?_
      simp [a6, cvT, step, res, e1, e2, e3, e4, e5, e6, e7, e8, e9, strmC, arrS, -List.getD_eq_getElem?_getD]
    · skip
      refine EndOK.mk (((w : Int), []), q + 1) ⟨by simp, fun r hr => by simp at hr, by simp only; omega, narrow_nil⟩ ?_
      refine RetOK.go [(nid, nid + 8)] [] (.inl rfl) ?_
      simp [a6, cvT, step, res, e1, e2, e3, e4, e5, e6, e7, e8, e9, strmC, arrS, -List.getD_eq_getElem?_getD]
  refine S2.yes (by simp <;> omega) ?_
  simp -dsimp only [aqT0, ROp0, aqT, aqU, aqN, aqS, ↓seqK, ↓blkK, ↓loopK, step, stepBin, Nat.add_assoc nid, ↓reduceIte, Option.toList, ← Int.ofNat_tmod, ← Int.ofNat_tdiv, simprocAttr, BEq.rfl, LN_succ, e1, e2, e3, e4, e5, e6, e7, e8, e9, strmC_low]
  refine CallX.on (flip_c s _ nl A q 4 (by omega) (by omega) hA (by omega)) (subH_get (by simp only [aqT, aqU, aqN, ↓seqK, ↓blkK, ↓loopK, step, stepBin, Nat.reduceBEq, Nat.reduceBeqDiff, Nat.add_assoc nid, Nat.reduceAdd, reduceCtorEq, ↓reduceIte, Nat.reduceLeDiff, Nat.reduceBneDiff, Option.toList, ← Int.ofNat_tmod, ← Int.ofNat_tdiv, Nat.reduceLT, e1, e2, e3, e4, e5, e6, e7, e8, e9])) ?_
  simp -dsimp only [aqT0, ROp0, aqT, aqU, aqN, aqS, ↓seqK, ↓blkK, ↓loopK, step, stepBin, Nat.add_assoc nid, ↓reduceIte, Option.toList, ← Int.ofNat_tmod, ← Int.ofNat_tdiv, simprocAttr, BEq.rfl, LN_succ, e1, e2, e3, e4, e5, e6, e7, e8, e9, strmC_low]
  refine S2.intro (fun h3 => ?_) (fun h3 => ?_) <;> simp -dsimp only [aqT0, ROp0, aqT, aqU, aqN, aqS, ↓seqK, ↓blkK, ↓loopK, step, stepBin, Nat.add_assoc nid, ↓reduceIte, Option.toList, ← Int.ofNat_tmod, ← Int.ofNat_tdiv, simprocAttr, BEq.rfl, LN_succ, e1, e2, e3, e4, e5, e6, e7, e8, e9, strmC_low]
  · rw [getD_app1 x _ rfl]
    have hl : (x ++ [x.getD 0 []]).length = x.length + 1 := by simp
    have hS : ShortRows 6 (x ++ [x.getD 0 []]) := hR2.snoc (hat 0)
    refine ⟨by omega, by omega, ?_⟩
    generalize x ++ [x.getD 0 []] = y at *
    refine S2.yes (by simp <;> omega) ?_
    simp -dsimp only [aqT0, ROp0, aqT, aqU, aqN, aqS, ↓seqK, ↓blkK, ↓loopK, step, stepBin, Nat.add_assoc nid, ↓reduceIte, Option.toList, ← Int.ofNat_tmod, ← Int.ofNat_tdiv, simprocAttr, BEq.rfl, LN_succ, e1, e2, e3, e4, e5, e6, e7, e8, e9, strmC_low]
    refine CallX.on (flip_c s _ nl A (q + 1) 12 (by omega) (by omega) hA (by omega)) (subH_get (by simp only [aqT, aqU, aqN, ↓seqK, ↓blkK, ↓loopK, step, stepBin, Nat.reduceBEq, Nat.reduceBeqDiff, Nat.add_assoc nid, Nat.reduceAdd, reduceCtorEq, ↓reduceIte, Nat.reduceLeDiff, Nat.reduceBneDiff, Option.toList, ← Int.ofNat_tmod, ← Int.ofNat_tdiv, Nat.reduceLT, e1, e2, e3, e4, e5, e6, e7, e8, e9])) ?_
    simp -dsimp only [aqT0, ROp0, aqT, aqU, aqN, aqS, ↓seqK, ↓blkK, ↓loopK, step, stepBin, Nat.add_assoc nid, ↓reduceIte, Option.toList, ← Int.ofNat_tmod, ← Int.ofNat_tdiv, simprocAttr, BEq.rfl, LN_succ, e1, e2, e3, e4, e5, e6, e7, e8, e9, strmC_low]
    refine S2.intro (fun h4 => ?_) (fun h4 => ?_) <;> simp -dsimp only [aqT0, ROp0, aqT, aqU, aqN, aqS, ↓seqK, ↓blkK, ↓loopK, step, stepBin, Nat.add_assoc nid, ↓reduceIte, Option.toList, ← Int.ofNat_tmod, ← Int.ofNat_tdiv, simprocAttr, BEq.rfl, LN_succ, e1, e2, e3, e4, e5, e6, e7, e8, e9, strmC_low]
    · refine CallX.on (next_c s _ nl A (q + 1 + 1) _ (by omega) (by omega) hA (by omega)) (subH_get (by simp only [aqT, aqU, aqN, ↓seqK, ↓blkK, ↓loopK, step, stepBin, Nat.reduceBEq, Nat.reduceBeqDiff, Nat.add_assoc nid, Nat.reduceAdd, reduceCtorEq, ↓reduceIte, Nat.reduceLeDiff, Nat.reduceBneDiff, Option.toList, ← Int.ofNat_tmod, ← Int.ofNat_tdiv, Nat.reduceLT, e1, e2, e3, e4, e5, e6, e7, e8, e9])) ?_
      simp -dsimp only [aqT0, ROp0, aqT, aqU, aqN, aqS, ↓seqK, ↓blkK, ↓loopK, step, stepBin, Nat.add_assoc nid, ↓reduceIte, Option.toList, ← Int.ofNat_tmod, ← Int.ofNat_tdiv, simprocAttr, BEq.rfl, LN_succ, e1, e2, e3, e4, e5, e6, e7, e8, e9, strmC_low]
      have hI0 := nextV_bd A (q + 1 + 1) (n := ((x.length + 1) : Nat)) (by omega)
      obtain ⟨I, hI⟩ : ∃ I : Nat, nextV A (q + 1 + 1) (((x.length + 1) : Nat) : Int) = I := ⟨_, (Int.toNat_of_nonneg hI0.1).symm⟩
      rw [hI] at hI0 ⊢
      have hIR : I < y.length := by omega
      have hyI := hS.at I
      refine ⟨by omega, by unfold inI64; omega, ?_⟩
      refine CallX.onE (bitsX s _ nl A (q + 1 + 1 + 1) (w + 1) (by omega) (by omega) (by omega) hA) (subH_get (by simp only [aqT, aqU, aqN, ↓seqK, ↓blkK, ↓loopK, step, stepBin, Nat.reduceBEq, Nat.reduceBeqDiff, Nat.add_assoc nid, Nat.reduceAdd, reduceCtorEq, ↓reduceIte, Nat.reduceLeDiff, Nat.reduceBneDiff, Option.toList, ← Int.ofNat_tmod, ← Int.ofNat_tdiv, Nat.reduceLT, e1, e2, e3, e4, e5, e6, e7, e8, e9])) (fun t ht => ?_)
      simp -dsimp only [aqT0, ROp0, aqT, aqU, aqN, aqS, ↓seqK, ↓blkK, ↓loopK, step, stepBin, Nat.add_assoc nid, ↓reduceIte, Option.toList, ← Int.ofNat_tmod, ← Int.ofNat_tdiv, simprocAttr, BEq.rfl, LN_succ, e1, e2, e3, e4, e5, e6, e7, e8, e9, strmC_low]
      refine ⟨by omega, ?_⟩
      refine CallX.onE (changedX s _ nl A (q + 1 + 1 + 1 + (w + 1)) (y.getD I []) [50] (by omega) (by omega) (by simp) (by omega) hA) (subH_get (by simp only [aqT, aqU, aqN, ↓seqK, ↓blkK, ↓loopK, step, stepBin, Nat.reduceBEq, Nat.reduceBeqDiff, Nat.add_assoc nid, Nat.reduceAdd, reduceCtorEq, ↓reduceIte, Nat.reduceLeDiff, Nat.reduceBneDiff, Option.toList, ← Int.ofNat_tmod, ← Int.ofNat_tdiv, Nat.reduceLT, e1, e2, e3, e4, e5, e6, e7, e8, e9])) (fun c hc => ?_)
      obtain ⟨c, q3⟩ := c
      obtain ⟨hc1, hc2⟩ := hc
      simp only [List.length_cons, List.length_nil] at hc1 hc2
      simp -dsimp only [aqT0, ROp0, aqT, aqU, aqN, aqS, ↓seqK, ↓blkK, ↓loopK, step, stepBin, Nat.add_assoc nid, ↓reduceIte, Option.toList, ← Int.ofNat_tmod, ← Int.ofNat_tdiv, simprocAttr, BEq.rfl, LN_succ, e1, e2, e3, e4, e5, e6, e7, e8, e9, strmC_low]
      refine CallX.some_go (T := 9) (nl := nl) (A := A) (p := q3) (g := fun i => [y.getD I [], [], t, c].getD i []) (by simp only [aqT, aqU, aqN, ↓seqK, ↓blkK, ↓loopK, step, stepBin, Nat.reduceBEq, Nat.reduceBeqDiff, Nat.add_assoc nid, Nat.reduceAdd, reduceCtorEq, ↓reduceIte, Nat.reduceLeDiff, Nat.reduceBneDiff, Option.toList, ← Int.ofNat_tmod, ← Int.ofNat_tdiv, Nat.reduceLT, e1, e2, e3, e4, e5, e6, e7, e8, e9]) (by simp only [aqT, aqU, aqN, ↓seqK, ↓blkK, ↓loopK, step, stepBin, Nat.reduceBEq, Nat.reduceBeqDiff, Nat.add_assoc nid, Nat.reduceAdd, reduceCtorEq, ↓reduceIte, Nat.reduceLeDiff, Nat.reduceBneDiff, Option.toList, ← Int.ofNat_tmod, ← Int.ofNat_tdiv, Nat.reduceLT, e1, e2, e3, e4, e5, e6, e7, e8, e9]) (by simp only [aqT, aqU, aqN, ↓seqK, ↓blkK, ↓loopK, step, stepBin, Nat.reduceBEq, Nat.reduceBeqDiff, Nat.add_assoc nid, Nat.reduceAdd, reduceCtorEq, ↓reduceIte, Nat.reduceLeDiff, Nat.reduceBneDiff, Option.toList, ← Int.ofNat_tmod, ← Int.ofNat_tdiv, Nat.reduceLT, e1, e2, e3, e4, e5, e6, e7, e8, e9]) (by omega) (by omega) hA (by omega) (by omega) ?_
      simp -dsimp only [aqT0, ROp0, aqT, aqU, aqN, aqS, ↓seqK, ↓blkK, ↓loopK, step, stepBin, Nat.add_assoc nid, ↓reduceIte, Option.toList, ← Int.ofNat_tmod, ← Int.ofNat_tdiv, simprocAttr, BEq.rfl, LN_succ, e1, e2, e3, e4, e5, e6, e7, e8, e9, strmC_low]
      have hb := getD_all (P := fun x : List UInt8 => x.length ≤ 20) (l := [y.getD I [], [], t, c]) (d := []) (by intro x hx; simp only [List.mem_cons, List.not_mem_nil, or_false] at hx; rcases hx with rfl | rfl | rfl | rfl; omega; simp; omega; omega) (pickI_lt A q3 (n := 4) (by omega))
      generalize ([y.getD I [], [], t, c].getD (pickI A q3 4) [] : List UInt8) = b at hb ⊢
      have hna : Narrow (y.set I b) := narrow_set hS I b
      have hset : ShortRows 20 (y.set I b) := (hS.mono (by omega)).set I hb
      have hsl : (y.set I b).length = (x.length + 1) := by rw [List.length_set]; exact hl
      rw [getD_setS y _ hIR]
      refine ⟨by omega, ?_⟩
      generalize y.set I b = zz at *
      refine CallX.on (flip_c s _ nl A (q3 + 1) 20 (by omega) (by omega) hA (by omega)) (subH_get (by simp only [aqT, aqU, aqN, ↓seqK, ↓blkK, ↓loopK, step, stepBin, Nat.reduceBEq, Nat.reduceBeqDiff, Nat.add_assoc nid, Nat.reduceAdd, reduceCtorEq, ↓reduceIte, Nat.reduceLeDiff, Nat.reduceBneDiff, Option.toList, ← Int.ofNat_tmod, ← Int.ofNat_tdiv, Nat.reduceLT, e1, e2, e3, e4, e5, e6, e7, e8, e9])) ?_
      simp -dsimp only [aqT0, ROp0, aqT, aqU, aqN, aqS, ↓seqK, ↓blkK, ↓loopK, step, stepBin, Nat.add_assoc nid, ↓reduceIte, Option.toList, ← Int.ofNat_tmod, ← Int.ofNat_tdiv, simprocAttr, BEq.rfl, LN_succ, e1, e2, e3, e4, e5, e6, e7, e8, e9, strmC_low]
      refine S2.intro (fun h9 => ?_) (fun h9 => ?_) <;> simp -dsimp only [aqT0, ROp0, aqT, aqU, aqN, aqS, ↓seqK, ↓blkK, ↓loopK, step, stepBin, Nat.add_assoc nid, ↓reduceIte, Option.toList, ← Int.ofNat_tmod, ← Int.ofNat_tdiv, simprocAttr, BEq.rfl, LN_succ, e1, e2, e3, e4, e5, e6, e7, e8, e9, strmC_low]
      · refine CallX.onE (oddI_c s _ nl A (q3 + 1 + 1) 1 100 (by omega) (by omega) hA (by omega) (by omega) (by omega)) (subH_get (by simp only [aqT, aqU, aqN, ↓seqK, ↓blkK, ↓loopK, step, stepBin, Nat.reduceBEq, Nat.reduceBeqDiff, Nat.add_assoc nid, Nat.reduceAdd, reduceCtorEq, ↓reduceIte, Nat.reduceLeDiff, Nat.reduceBneDiff, Option.toList, ← Int.ofNat_tmod, ← Int.ofNat_tdiv, Nat.reduceLT, e1, e2, e3, e4, e5, e6, e7, e8, e9])) (fun z hz => ?_)
        simp -dsimp only [aqT0, ROp0, aqT, aqU, aqN, aqS, ↓seqK, ↓blkK, ↓loopK, step, stepBin, Nat.add_assoc nid, ↓reduceIte, Option.toList, ← Int.ofNat_tmod, ← Int.ofNat_tdiv, simprocAttr, BEq.rfl, LN_succ, e1, e2, e3, e4, e5, e6, e7, e8, e9, strmC_low]
        refine EndOK.mk ((z, zz), q3 + 1 + 1 + 2) ⟨by simp only; omega, hset, by simp only; omega, hna⟩ ?_
        refine RetOK.go [(nid, nid + 252)] [] (.inl rfl) ?_
        simp [a6, cvT, step, res, e1, e2, e3, e4, e5, e6, e7, e8, e9, strmC, arrS, hsl, -List.getD_eq_getElem?_getD]
      · skip
        refine EndOK.mk (((w : Int), zz), q3 + 1 + 1) ⟨by simp only; omega, hset, by simp only; omega, hna⟩ ?_
        refine RetOK.go [(nid, nid + 252)] [] (.inl rfl) ?_
        simp [a6, cvT, step, res, e1, e2, e3, e4, e5, e6, e7, e8, e9, strmC, arrS, hsl, -List.getD_eq_getElem?_getD]
    · skip
      refine CallX.on (flip_c s _ nl A (q + 1 + 1) 20 (by omega) (by omega) hA (by omega)) (subH_get (by simp only [aqT, aqU, aqN, ↓seqK, ↓blkK, ↓loopK, step, stepBin, Nat.reduceBEq, Nat.reduceBeqDiff, Nat.add_assoc nid, Nat.reduceAdd, reduceCtorEq, ↓reduceIte, Nat.reduceLeDiff, Nat.reduceBneDiff, Option.toList, ← Int.ofNat_tmod, ← Int.ofNat_tdiv, Nat.reduceLT, e1, e2, e3, e4, e5, e6, e7, e8, e9])) ?_
      simp -dsimp only [aqT0, ROp0, aqT, aqU, aqN, aqS, ↓seqK, ↓blkK, ↓loopK, step, stepBin, Nat.add_assoc nid, ↓reduceIte, Option.toList, ← Int.ofNat_tmod, ← Int.ofNat_tdiv, simprocAttr, BEq.rfl, LN_succ, e1, e2, e3, e4, e5, e6, e7, e8, e9, strmC_low]
      refine S2.intro (fun h9 => ?_) (fun h9 => ?_) <;> simp -dsimp only [aqT0, ROp0, aqT, aqU, aqN, aqS, ↓seqK, ↓blkK, ↓loopK, step, stepBin, Nat.add_assoc nid, ↓reduceIte, Option.toList, ← Int.ofNat_tmod, ← Int.ofNat_tdiv, simprocAttr, BEq.rfl, LN_succ, e1, e2, e3, e4, e5, e6, e7, e8, e9, strmC_low]
      · refine CallX.onE (oddI_c s _ nl A (q + 1 + 1 + 1) 1 100 (by omega) (by omega) hA (by omega) (by omega) (by omega)) (subH_get (by simp only [aqT, aqU, aqN, ↓seqK, ↓blkK, ↓loopK, step, stepBin, Nat.reduceBEq, Nat.reduceBeqDiff, Nat.add_assoc nid, Nat.reduceAdd, reduceCtorEq, ↓reduceIte, Nat.reduceLeDiff, Nat.reduceBneDiff, Option.toList, ← Int.ofNat_tmod, ← Int.ofNat_tdiv, Nat.reduceLT, e1, e2, e3, e4, e5, e6, e7, e8, e9])) (fun z hz => ?_)
        simp -dsimp only [aqT0, ROp0, aqT, aqU, aqN, aqS, ↓seqK, ↓blkK, ↓loopK, step, stepBin, Nat.add_assoc nid, ↓reduceIte, Option.toList, ← Int.ofNat_tmod, ← Int.ofNat_tdiv, simprocAttr, BEq.rfl, LN_succ, e1, e2, e3, e4, e5, e6, e7, e8, e9, strmC_low]
        refine EndOK.mk ((z, y), q + 1 + 1 + 1 + 2) ⟨by simp only; omega, hS.mono (by omega), by simp only; omega, narrow_short hS⟩ ?_
        refine RetOK.go [(nid, nid + 252)] [] (.inl rfl) ?_
        simp [a6, cvT, step, res, e1, e2, e3, e4, e5, e6, e7, e8, e9, strmC, arrS, hl, -List.getD_eq_getElem?_getD]
      · skip
        refine EndOK.mk (((w : Int), y), q + 1 + 1 + 1) ⟨by simp only; omega, hS.mono (by omega), by simp only; omega, narrow_short hS⟩ ?_
        refine RetOK.go [(nid, nid + 252)] [] (.inl rfl) ?_
        simp [a6, cvT, step, res, e1, e2, e3, e4, e5, e6, e7, e8, e9, strmC, arrS, hl, -List.getD_eq_getElem?_getD]
  · skip
    refine S2.yes (by simp <;> omega) ?_
    simp -dsimp only [aqT0, ROp0, aqT, aqU, aqN, aqS, ↓seqK, ↓blkK, ↓loopK, step, stepBin, Nat.add_assoc nid, ↓reduceIte, Option.toList, ← Int.ofNat_tmod, ← Int.ofNat_tdiv, simprocAttr, BEq.rfl, LN_succ, e1, e2, e3, e4, e5, e6, e7, e8, e9, strmC_low]
    refine CallX.on (flip_c s _ nl A (q + 1) 12 (by omega) (by omega) hA (by omega)) (subH_get (by simp only [aqT, aqU, aqN, ↓seqK, ↓blkK, ↓loopK, step, stepBin, Nat.reduceBEq, Nat.reduceBeqDiff, Nat.add_assoc nid, Nat.reduceAdd, reduceCtorEq, ↓reduceIte, Nat.reduceLeDiff, Nat.reduceBneDiff, Option.toList, ← Int.ofNat_tmod, ← Int.ofNat_tdiv, Nat.reduceLT, e1, e2, e3, e4, e5, e6, e7, e8, e9])) ?_
    simp -dsimp only [aqT0, ROp0, aqT, aqU, aqN, aqS, ↓seqK, ↓blkK, ↓loopK, step, stepBin, Nat.add_assoc nid, ↓reduceIte, Option.toList, ← Int.ofNat_tmod, ← Int.ofNat_tdiv, simprocAttr, BEq.rfl, LN_succ, e1, e2, e3, e4, e5, e6, e7, e8, e9, strmC_low]
    refine S2.intro (fun h4 => ?_) (fun h4 => ?_) <;> simp -dsimp only [aqT0, ROp0, aqT, aqU, aqN, aqS, ↓seqK, ↓blkK, ↓loopK, step, stepBin, Nat.add_assoc nid, ↓reduceIte, Option.toList, ← Int.ofNat_tmod, ← Int.ofNat_tdiv, simprocAttr, BEq.rfl, LN_succ, e1, e2, e3, e4, e5, e6, e7, e8, e9, strmC_low]
    · refine CallX.on (next_c s _ nl A (q + 1 + 1) _ (by omega) (by omega) hA (by omega)) (subH_get (by simp only [aqT, aqU, aqN, ↓seqK, ↓blkK, ↓loopK, step, stepBin, Nat.reduceBEq, Nat.reduceBeqDiff, Nat.add_assoc nid, Nat.reduceAdd, reduceCtorEq, ↓reduceIte, Nat.reduceLeDiff, Nat.reduceBneDiff, Option.toList, ← Int.ofNat_tmod, ← Int.ofNat_tdiv, Nat.reduceLT, e1, e2, e3, e4, e5, e6, e7, e8, e9])) ?_
      simp -dsimp only [aqT0, ROp0, aqT, aqU, aqN, aqS, ↓seqK, ↓blkK, ↓loopK, step, stepBin, Nat.add_assoc nid, ↓reduceIte, Option.toList, ← Int.ofNat_tmod, ← Int.ofNat_tdiv, simprocAttr, BEq.rfl, LN_succ, e1, e2, e3, e4, e5, e6, e7, e8, e9, strmC_low]
      have hI0 := nextV_bd A (q + 1 + 1) (n := (x.length : Nat)) (by omega)
      obtain ⟨I, hI⟩ : ∃ I : Nat, nextV A (q + 1 + 1) ((x.length : Nat) : Int) = I := ⟨_, (Int.toNat_of_nonneg hI0.1).symm⟩
      rw [hI] at hI0 ⊢
      have hIR : I < x.length := by omega
      have hyI := hR2.at I
      refine ⟨by omega, by unfold inI64; omega, ?_⟩
      refine CallX.onE (bitsX s _ nl A (q + 1 + 1 + 1) (w + 1) (by omega) (by omega) (by omega) hA) (subH_get (by simp only [aqT, aqU, aqN, ↓seqK, ↓blkK, ↓loopK, step, stepBin, Nat.reduceBEq, Nat.reduceBeqDiff, Nat.add_assoc nid, Nat.reduceAdd, reduceCtorEq, ↓reduceIte, Nat.reduceLeDiff, Nat.reduceBneDiff, Option.toList, ← Int.ofNat_tmod, ← Int.ofNat_tdiv, Nat.reduceLT, e1, e2, e3, e4, e5, e6, e7, e8, e9])) (fun t ht => ?_)
      simp -dsimp only [aqT0, ROp0, aqT, aqU, aqN, aqS, ↓seqK, ↓blkK, ↓loopK, step, stepBin, Nat.add_assoc nid, ↓reduceIte, Option.toList, ← Int.ofNat_tmod, ← Int.ofNat_tdiv, simprocAttr, BEq.rfl, LN_succ, e1, e2, e3, e4, e5, e6, e7, e8, e9, strmC_low]
      refine ⟨by omega, ?_⟩
      refine CallX.onE (changedX s _ nl A (q + 1 + 1 + 1 + (w + 1)) (x.getD I []) [50] (by omega) (by omega) (by simp) (by omega) hA) (subH_get (by simp only [aqT, aqU, aqN, ↓seqK, ↓blkK, ↓loopK, step, stepBin, Nat.reduceBEq, Nat.reduceBeqDiff, Nat.add_assoc nid, Nat.reduceAdd, reduceCtorEq, ↓reduceIte, Nat.reduceLeDiff, Nat.reduceBneDiff, Option.toList, ← Int.ofNat_tmod, ← Int.ofNat_tdiv, Nat.reduceLT, e1, e2, e3, e4, e5, e6, e7, e8, e9])) (fun c hc => ?_)
      obtain ⟨c, q3⟩ := c
      obtain ⟨hc1, hc2⟩ := hc
      simp only [List.length_cons, List.length_nil] at hc1 hc2
      simp -dsimp only [aqT0, ROp0, aqT, aqU, aqN, aqS, ↓seqK, ↓blkK, ↓loopK, step, stepBin, Nat.add_assoc nid, ↓reduceIte, Option.toList, ← Int.ofNat_tmod, ← Int.ofNat_tdiv, simprocAttr, BEq.rfl, LN_succ, e1, e2, e3, e4, e5, e6, e7, e8, e9, strmC_low]
      refine CallX.some_go (T := 9) (nl := nl) (A := A) (p := q3) (g := fun i => [x.getD I [], [], t, c].getD i []) (by simp only [aqT, aqU, aqN, ↓seqK, ↓blkK, ↓loopK, step, stepBin, Nat.reduceBEq, Nat.reduceBeqDiff, Nat.add_assoc nid, Nat.reduceAdd, reduceCtorEq, ↓reduceIte, Nat.reduceLeDiff, Nat.reduceBneDiff, Option.toList, ← Int.ofNat_tmod, ← Int.ofNat_tdiv, Nat.reduceLT, e1, e2, e3, e4, e5, e6, e7, e8, e9]) (by simp only [aqT, aqU, aqN, ↓seqK, ↓blkK, ↓loopK, step, stepBin, Nat.reduceBEq, Nat.reduceBeqDiff, Nat.add_assoc nid, Nat.reduceAdd, reduceCtorEq, ↓reduceIte, Nat.reduceLeDiff, Nat.reduceBneDiff, Option.toList, ← Int.ofNat_tmod, ← Int.ofNat_tdiv, Nat.reduceLT, e1, e2, e3, e4, e5, e6, e7, e8, e9]) (by simp only [aqT, aqU, aqN, ↓seqK, ↓blkK, ↓loopK, step, stepBin, Nat.reduceBEq, Nat.reduceBeqDiff, Nat.add_assoc nid, Nat.reduceAdd, reduceCtorEq, ↓reduceIte, Nat.reduceLeDiff, Nat.reduceBneDiff, Option.toList, ← Int.ofNat_tmod, ← Int.ofNat_tdiv, Nat.reduceLT, e1, e2, e3, e4, e5, e6, e7, e8, e9]) (by omega) (by omega) hA (by omega) (by omega) ?_
      simp -dsimp only [aqT0, ROp0, aqT, aqU, aqN, aqS, ↓seqK, ↓blkK, ↓loopK, step, stepBin, Nat.add_assoc nid, ↓reduceIte, Option.toList, ← Int.ofNat_tmod, ← Int.ofNat_tdiv, simprocAttr, BEq.rfl, LN_succ, e1, e2, e3, e4, e5, e6, e7, e8, e9, strmC_low]
      have hb := getD_all (P := fun x : List UInt8 => x.length ≤ 20) (l := [x.getD I [], [], t, c]) (d := []) (by intro x hx; simp only [List.mem_cons, List.not_mem_nil, or_false] at hx; rcases hx with rfl | rfl | rfl | rfl; omega; simp; omega; omega) (pickI_lt A q3 (n := 4) (by omega))
      generalize ([x.getD I [], [], t, c].getD (pickI A q3 4) [] : List UInt8) = b at hb ⊢
      have hna : Narrow (x.set I b) := narrow_set hR2 I b
      have hset : ShortRows 20 (x.set I b) := (hR2.mono (by omega)).set I hb
      have hsl : (x.set I b).length = x.length := by rw [List.length_set]
      rw [getD_setS x _ hIR]
      refine ⟨by omega, ?_⟩
      generalize x.set I b = zz at *
      refine CallX.on (flip_c s _ nl A (q3 + 1) 20 (by omega) (by omega) hA (by omega)) (subH_get (by simp only [aqT, aqU, aqN, ↓seqK, ↓blkK, ↓loopK, step, stepBin, Nat.reduceBEq, Nat.reduceBeqDiff, Nat.add_assoc nid, Nat.reduceAdd, reduceCtorEq, ↓reduceIte, Nat.reduceLeDiff, Nat.reduceBneDiff, Option.toList, ← Int.ofNat_tmod, ← Int.ofNat_tdiv, Nat.reduceLT, e1, e2, e3, e4, e5, e6, e7, e8, e9])) ?_
      simp -dsimp only [aqT0, ROp0, aqT, aqU, aqN, aqS, ↓seqK, ↓blkK, ↓loopK, step, stepBin, Nat.add_assoc nid, ↓reduceIte, Option.toList, ← Int.ofNat_tmod, ← Int.ofNat_tdiv, simprocAttr, BEq.rfl, LN_succ, e1, e2, e3, e4, e5, e6, e7, e8, e9, strmC_low]
      refine S2.intro (fun h9 => ?_) (fun h9 => ?_) <;> simp -dsimp only [aqT0, ROp0, aqT, aqU, aqN, aqS, ↓seqK, ↓blkK, ↓loopK, step, stepBin, Nat.add_assoc nid, ↓reduceIte, Option.toList, ← Int.ofNat_tmod, ← Int.ofNat_tdiv, simprocAttr, BEq.rfl, LN_succ, e1, e2, e3, e4, e5, e6, e7, e8, e9, strmC_low]
      · refine CallX.onE (oddI_c s _ nl A (q3 + 1 + 1) 1 100 (by omega) (by omega) hA (by omega) (by omega) (by omega)) (subH_get (by simp only [aqT, aqU, aqN, ↓seqK, ↓blkK, ↓loopK, step, stepBin, Nat.reduceBEq, Nat.reduceBeqDiff, Nat.add_assoc nid, Nat.reduceAdd, reduceCtorEq, ↓reduceIte, Nat.reduceLeDiff, Nat.reduceBneDiff, Option.toList, ← Int.ofNat_tmod, ← Int.ofNat_tdiv, Nat.reduceLT, e1, e2, e3, e4, e5, e6, e7, e8, e9])) (fun z hz => ?_)
        simp -dsimp only [aqT0, ROp0, aqT, aqU, aqN, aqS, ↓seqK, ↓blkK, ↓loopK, step, stepBin, Nat.add_assoc nid, ↓reduceIte, Option.toList, ← Int.ofNat_tmod, ← Int.ofNat_tdiv, simprocAttr, BEq.rfl, LN_succ, e1, e2, e3, e4, e5, e6, e7, e8, e9, strmC_low]
        refine EndOK.mk ((z, zz), q3 + 1 + 1 + 2) ⟨by simp only; omega, hset, by simp only; omega, hna⟩ ?_
        refine RetOK.go [(nid, nid + 8)] [] (.inl rfl) ?_
        simp [a6, cvT, step, res, e1, e2, e3, e4, e5, e6, e7, e8, e9, strmC, arrS, hsl, -List.getD_eq_getElem?_getD]
      · skip
        refine EndOK.mk (((w : Int), zz), q3 + 1 + 1) ⟨by simp only; omega, hset, by simp only; omega, hna⟩ ?_
        refine RetOK.go [(nid, nid + 8)] [] (.inl rfl) ?_
        simp [a6, cvT, step, res, e1, e2, e3, e4, e5, e6, e7, e8, e9, strmC, arrS, hsl, -List.getD_eq_getElem?_getD]
    · skip
      refine CallX.on (flip_c s _ nl A (q + 1 + 1) 20 (by omega) (by omega) hA (by omega)) (subH_get (by simp only [aqT, aqU, aqN, ↓seqK, ↓blkK, ↓loopK, step, stepBin, Nat.reduceBEq, Nat.reduceBeqDiff, Nat.add_assoc nid, Nat.reduceAdd, reduceCtorEq, ↓reduceIte, Nat.reduceLeDiff, Nat.reduceBneDiff, Option.toList, ← Int.ofNat_tmod, ← Int.ofNat_tdiv, Nat.reduceLT, e1, e2, e3, e4, e5, e6, e7, e8, e9])) ?_
      simp -dsimp only [aqT0, ROp0, aqT, aqU, aqN, aqS, ↓seqK, ↓blkK, ↓loopK, step, stepBin, Nat.add_assoc nid, ↓reduceIte, Option.toList, ← Int.ofNat_tmod, ← Int.ofNat_tdiv, simprocAttr, BEq.rfl, LN_succ, e1, e2, e3, e4, e5, e6, e7, e8, e9, strmC_low]
      refine S2.intro (fun h9 => ?_) (fun h9 => ?_) <;> simp -dsimp only [aqT0, ROp0, aqT, aqU, aqN, aqS, ↓seqK, ↓blkK, ↓loopK, step, stepBin, Nat.add_assoc nid, ↓reduceIte, Option.toList, ← Int.ofNat_tmod, ← Int.ofNat_tdiv, simprocAttr, BEq.rfl, LN_succ, e1, e2, e3, e4, e5, e6, e7, e8, e9, strmC_low]
      · refine CallX.onE (oddI_c s _ nl A (q + 1 + 1 + 1) 1 100 (by omega) (by omega) hA (by omega) (by omega) (by omega)) (subH_get (by simp only [aqT, aqU, aqN, ↓seqK, ↓blkK, ↓loopK, step, stepBin, Nat.reduceBEq, Nat.reduceBeqDiff, Nat.add_assoc nid, Nat.reduceAdd, reduceCtorEq, ↓reduceIte, Nat.reduceLeDiff, Nat.reduceBneDiff, Option.toList, ← Int.ofNat_tmod, ← Int.ofNat_tdiv, Nat.reduceLT, e1, e2, e3, e4, e5, e6, e7, e8, e9])) (fun z hz => ?_)
        simp -dsimp only [aqT0, ROp0, aqT, aqU, aqN, aqS, ↓seqK, ↓blkK, ↓loopK, step, stepBin, Nat.add_assoc nid, ↓reduceIte, Option.toList, ← Int.ofNat_tmod, ← Int.ofNat_tdiv, simprocAttr, BEq.rfl, LN_succ, e1, e2, e3, e4, e5, e6, e7, e8, e9, strmC_low]
        refine EndOK.mk ((z, x), q + 1 + 1 + 1 + 2) ⟨by simp only; omega, hR2.mono (by omega), by simp only; omega, narrow_short hR2⟩ ?_
        refine RetOK.go [(nid, nid + 8)] [] (.inl rfl) ?_
        simp [a6, cvT, step, res, e1, e2, e3, e4, e5, e6, e7, e8, e9, strmC, arrS, -List.getD_eq_getElem?_getD]
      · skip
        refine EndOK.mk (((w : Int), x), q + 1 + 1 + 1) ⟨by simp only; omega, hR2.mono (by omega), by simp only; omega, narrow_short hR2⟩ ?_
        refine RetOK.go [(nid, nid + 8)] [] (.inl rfl) ?_
        simp [a6, cvT, step, res, e1, e2, e3, e4, e5, e6, e7, e8, e9, strmC, arrS, -List.getD_eq_getElem?_getD]
end Go.Proofs.YthcldfmlfjomfaaGreatDoor
namespace Go.Proofs.YthcldfmlfjomfaaGreatDoor
open Go.RowKit Go.Lib
theorem kindI_ok {g : Int} (h : kindI g = 0) : ∃ k : Nat, g = k ∧ (k = 1 ∨ k = 2 ∨ k = 3) := by
  unfold kindI outB at h
  split at h
  · cases h
  · rename_i h2
    simp at h2
    exact ⟨g.toNat, by omega, by omega⟩
def mtV (n g : Int) (v : List (List UInt8)) : Bool := if orV (patV n v) (kindI g) = 0 then meetsV g.toNat (turnL v n.toNat) else false
theorem meetsP_all (nl : Bool) (n g : Int) (v : List (List UInt8)) (nid : Nat) (hv : v.length ≤ 1000) (hr : ShortRows 1000 v) : ACall Tryz.prog 9 [.int .i64 n, litS nl v, .int .i64 g] [] nid (.tup [.bool (mtV n g v), .int .i64 (orV (patV n v) (kindI g))]) [] := by
  unfold mtV
  by_cases h : orV (patV n v) (kindI g) = 0
  · rw [if_pos h, h]
    unfold orV at h
    have hp : patV n v = 0 := by
      by_cases h0 : patV n v = 0
      · exact h0
      · rw [if_neg h0] at h; exact absurd h h0
    rw [if_pos hp] at h
    obtain ⟨k, rfl, hk⟩ := kindI_ok h
    have hok := patV_ok.1 hp
    have hlo := hok.lo
    obtain ⟨N, rfl⟩ : ∃ N : Nat, n = N := ⟨n.toNat, by omega⟩
    rw [Int.toNat_natCast, Int.toNat_natCast]
    exact meets_all nl N k v nid hok hk
  · rw [if_neg h]
    exact meets_bad nl n g v nid hv hr h
set_option maxHeartbeats 16000000 in
theorem vectorsDetect_c (nl : Bool) (A : List Int) (nid : Nat) (hA : A.length ≤ 17592186044416) : ACall Tryz.prog 3 [litI nl A] [] nid (.bool true) [] := by
  refine acall_sr c3 (by simp [a3]) ?_
  unfold a3 litI
  refine SR.seq ?_
  simp -dsimp only [aqT, aqU, aqN, aqS, ↓seqK, ↓blkK, ↓loopK, step, stepBin, Nat.add_assoc nid, ↓reduceIte, Option.toList, ← Int.ofNat_tmod, ← Int.ofNat_tdiv, simprocAttr, BEq.rfl, LN_succ]
  refine SR.seq ?_
  simp -dsimp only [aqT, aqU, aqN, aqS, ↓seqK, ↓blkK, ↓loopK, step, stepBin, Nat.add_assoc nid, ↓reduceIte, Option.toList, ← Int.ofNat_tmod, ← Int.ofNat_tdiv, simprocAttr, BEq.rfl, LN_succ]
  refine SR.seqEx (ι := {x : (Int × List (List UInt8)) × Nat // x.1.2.length ≤ 7 ∧ ShortRows 20 x.1.2 ∧ x.2 ≤ 8000}) (fun x => ⟨[(3, .ptr (nid + 12) 0), (4, .int .i64 x.1.1.1), (5, .sl (nid + 8) 0 x.1.1.2.length)], [(nid + 12, strmC nl A x.1.2), (nid + 8, arrS x.1.1.2)], nid + 200, nid⟩) ?_ (fun ⟨⟨⟨n, v⟩, q⟩, hvl, hvr, hq⟩ => ?_)
  · simp -dsimp only [aqT, aqU, aqN, aqS, ↓seqK, ↓blkK, ↓loopK, step, stepBin, Nat.add_assoc nid, ↓reduceIte, Option.toList, ← Int.ofNat_tmod, ← Int.ofNat_tdiv, simprocAttr, BEq.rfl, LN_succ]
    refine CallO.onE (patternsX (nid + 12) _ nl A 0 6 (by omega) (by omega) hA (by omega)) (subH_get (by simp only [aqT, aqU, aqN, aqS, ↓seqK, ↓blkK, ↓loopK, step, stepBin, Nat.add_assoc nid, ↓reduceIte, Option.toList, ← Int.ofNat_tmod, ← Int.ofNat_tdiv, simprocAttr, BEq.rfl, LN_succ, strmC])) (fun x hx => ?_)
    obtain ⟨hx1, hx2, hx3, hx4⟩ := hx
    unfold arrS
    simp -dsimp only [aqT, aqU, aqN, aqS, ↓seqK, ↓blkK, ↓loopK, step, stepBin, Nat.add_assoc nid, ↓reduceIte, Option.toList, ← Int.ofNat_tmod, ← Int.ofNat_tdiv, simprocAttr, BEq.rfl, LN_succ]
    refine ⟨⟨x, by omega, hx2, by omega⟩, Cov.go [(nid + 8, nid + 24)] [] ?_⟩
    simp [cvT, step, res, arrS, strmC]
  simp only at hvl hvr hq ⊢
  unfold arrS
  refine SR.freezeB [nid + 8] (fun nl' => ?_)
  simp only [frzS, frzH, frzBlk, lends, lend, kill, noOs, strmC, aqT, aqU, aqN, aqS, ↓seqK, ↓blkK, ↓loopK, step, stepBin, Nat.add_assoc nid, ↓reduceIte, Option.toList, ← Int.ofNat_tmod, ← Int.ofNat_tdiv, simprocAttr, BEq.rfl, LN_succ]
  generalize nl' (nid + 8) = nv
  have hg : ∃ g : Int, g = (oddV A q 1 3).1 := ⟨_, rfl⟩
  obtain ⟨g, hg⟩ := hg
  refine SR.seqTo ⟨[(6, .int .i64 g), (4, .int .i64 n), (5, litS nv v)], [], nid + 400, nid⟩ ?_ ?_
  · simp -dsimp only [aqT, aqU, aqN, aqS, ↓seqK, ↓blkK, ↓loopK, step, stepBin, Nat.add_assoc nid, ↓reduceIte, Option.toList, ← Int.ofNat_tmod, ← Int.ofNat_tdiv, simprocAttr, BEq.rfl, LN_succ]
    refine CallO.on (oddS_c (nid + 12) _ nl A q 1 3 (by omega) (by omega) hA (by omega) (by omega) (by omega)) (subH_get (by simp only [aqT, aqU, aqN, aqS, ↓seqK, ↓blkK, ↓loopK, step, stepBin, Nat.add_assoc nid, ↓reduceIte, Option.toList, ← Int.ofNat_tmod, ← Int.ofNat_tdiv, simprocAttr, BEq.rfl, LN_succ, strmC])) ?_
    rw [← hg]
    unfold strmC
    simp -dsimp only [aqT, aqU, aqN, aqS, ↓seqK, ↓blkK, ↓loopK, step, stepBin, Nat.add_assoc nid, ↓reduceIte, Option.toList, ← Int.ofNat_tmod, ← Int.ofNat_tdiv, simprocAttr, BEq.rfl, LN_succ]
    refine Cov.go [] [] ?_
    simp [cvT, step, res, litS, ColsEq.refl, -List.getD_eq_getElem?_getD]
  clear hg
  have hpf := fun m => patternsFault_all nv n v m (by omega) (hvr.mono (by omega))
  have hmt := fun m => meetsP_all nv n g v m (by omega) (hvr.mono (by omega))
  have hgf := fun m => goalFaultS_c g m
  refine SR.seqTo ⟨[(7, .int .i64 (patV n v)), (6, .int .i64 g), (4, .int .i64 n), (5, litS nv v)], [], nid + 800, nid⟩ ?_ ?_
  · unfold litS at *
    simp -dsimp only [aqT, aqU, aqN, aqS, ↓seqK, ↓blkK, ↓loopK, step, stepBin, Nat.add_assoc nid, ↓reduceIte, Option.toList, ← Int.ofNat_tmod, ← Int.ofNat_tdiv, simprocAttr, BEq.rfl, LN_succ]
    refine CallO.pure (hpf _) ?_
    simp -dsimp only [aqT, aqU, aqN, aqS, ↓seqK, ↓blkK, ↓loopK, step, stepBin, Nat.add_assoc nid, ↓reduceIte, Option.toList, ← Int.ofNat_tmod, ← Int.ofNat_tdiv, simprocAttr, BEq.rfl, LN_succ]
    refine Cov.go [] [] ?_
    simp [cvT, step, res, litS, ColsEq.refl, -List.getD_eq_getElem?_getD]
  refine SR.seqTo ⟨[(8, .bool (mtV n g v)), (9, .int .i64 (orV (patV n v) (kindI g))), (7, .int .i64 (patV n v)), (6, .int .i64 g), (4, .int .i64 n), (5, litS nv v)], [], nid + 1000, nid⟩ ?_ ?_
  · unfold litS at *
    simp -dsimp only [aqT, aqU, aqN, aqS, ↓seqK, ↓blkK, ↓loopK, step, stepBin, Nat.add_assoc nid, ↓reduceIte, Option.toList, ← Int.ofNat_tmod, ← Int.ofNat_tdiv, simprocAttr, BEq.rfl, LN_succ]
    refine CallO.pure (hmt _) ?_
    simp -dsimp only [aqT, aqU, aqN, aqS, ↓seqK, ↓blkK, ↓loopK, step, stepBin, Nat.add_assoc nid, ↓reduceIte, Option.toList, ← Int.ofNat_tmod, ← Int.ofNat_tdiv, simprocAttr, BEq.rfl, LN_succ]
    refine Cov.go [] [] ?_
    simp [cvT, step, res, litS, ColsEq.refl, -List.getD_eq_getElem?_getD]
  by_cases hp : patV n v = 0
  · have hok := patV_ok.1 hp
    have hlo := hok.lo
    have hhi := hok.hi
    obtain ⟨N, rfl⟩ : ∃ N : Nat, n = N := ⟨n.toNat, by omega⟩
    have hw : ∀ s ∈ v, N ≤ s.length := fun s hs => by have := (hok.row s hs).1; omega
    have hst := fun m => stuckP_c nv v N m hok
    have heq := fun m => equal_c nv v N m hok
    have hstR := fun m => stuckR_c contains_cc nv v N m (by omega) (by omega) hw
    have heqR := fun m => equalOf_c nv v N m (by omega) (by omega) hw
    have hmsR := fun m => maskedOf_c nv v N m hok
    have hdsR := fun m => distanceOf_c nv v N m hok
    have hml := mask_bd (turnL v N) (n := N) (by omega)
    have hds : ∀ m, ACall Tryz.prog 13 [.int .i64 (N : Nat), litS nv v] [] m (.tup [.int .i64 (if N = 1 then 0 else ((distV (turnL v N) v.length N : Nat) : Int)), .bool (decide (N ≠ 1)), .int .i64 0]) [] := fun m => by
      by_cases h1 : N = 1
      · subst h1
        exact distance_one nv v m hok
      · rw [if_neg h1, decide_eq_true h1]
        exact distance_c nv v N m hok (by omega)
    have hmtg : orV 0 (kindI g) = 0 → ∀ m, ACall Tryz.prog 16 [.int .i64 (N : Nat), litS nv v, .int .i64 g] [] m (.bool (mtV N g v)) [] := fun h m => by
      have h' : kindI g = 0 := by unfold orV at h; rw [if_pos rfl] at h; exact h
      obtain ⟨k, rfl, hk⟩ := kindI_ok h'
      have e : mtV N k v = meetsV k (turnL v N) := by unfold mtV; rw [hp, if_pos h, Int.toNat_natCast, Int.toNat_natCast]
      rw [e]
      exact meetsOf_c nv v N k m hok
    have hmt0 : orV 0 (kindI g) ≠ 0 → mtV N g v = false := fun h => by unfold mtV; rw [hp, if_neg h]
    rw [hp]
    have k1 := stuckTo_len (turnL v N) N
    have l1 := eqTo_len (turnL v N) N N
    have r1 := fun k => eqRows (turnL v N) N N k
    have hI := fun a b m => equalQ_c a b (stuckTo (turnL v N) N) (stuckTo (turnL v N) N) m (by omega) (by omega)
    have hEq := fun a b m => equalEq_c a b (eqTo (turnL v N) N N) (eqTo (turnL v N) N N) m (by omega) (by omega) (fun k => by have := r1 k; omega) (fun k => by have := r1 k; omega)
    rw [beq_self_eq_true] at hI hEq
    have hMs := fun a b m => equalM_c a b (maskA (turnL v N) N N) m hml
    have hmp : ∀ m, (10000 < (maskA (turnL v N) N N).length → ACall Tryz.prog 12 [.int .i64 (N : Nat), litS nv v] [] m (.tup [.lit true 0 [], .int .i64 12]) []) ∧ ((maskA (turnL v N) N N).length ≤ 10000 → ACall Tryz.prog 12 [.int .i64 (N : Nat), litS nv v] [] m (.tup [.sl m 0 (maskA (turnL v N) N N).length, .int .i64 0]) [(m, arrM (maskA (turnL v N) N N))]) := fun m => ⟨masked_full nv v N m hok, masked_c nv v N m hok⟩
    generalize (if N = 1 then (0 : Int) else ((distV (turnL v N) v.length N : Nat) : Int)) = D at *
    generalize decide (N ≠ 1) = D2 at *
    generalize stuckTo (turnL v N) N = K1 at *
    generalize eqTo (turnL v N) N N = E1 at *
    generalize maskA (turnL v N) N N = M1 at *
    generalize mtV N g v = mt at *
    unfold litS at *
    have ho : orV 0 (kindI g) = kindI g := if_pos rfl
    refine SR.seqTo ⟨[(10, .sl (nid + 24) 0 K1.length), (11, .int .i64 0), (8, .bool mt), (9, .int .i64 (orV 0 (kindI g))), (7, .int .i64 0), (6, .int .i64 g), (4, .int .i64 (N : Nat)), (5, .lit nv v.length [.s fun i => v.getD i []])], [(nid + 24, arrQ K1)], nid + 1200, nid⟩ ?_ ?_
    · simp -dsimp only [aqT, aqU, aqN, aqS, ↓seqK, ↓blkK, ↓loopK, step, stepBin, Nat.add_assoc nid, ↓reduceIte, Option.toList, ← Int.ofNat_tmod, ← Int.ofNat_tdiv, simprocAttr, BEq.rfl, LN_succ]
      refine CallO.pure (hst _) ?_
      unfold arrQ
      simp -dsimp only [aqT, aqU, aqN, aqS, ↓seqK, ↓blkK, ↓loopK, step, stepBin, Nat.add_assoc nid, ↓reduceIte, Option.toList, ← Int.ofNat_tmod, ← Int.ofNat_tdiv, simprocAttr, BEq.rfl, LN_succ]
      refine Cov.go [(nid + 24, nid + 1008)] [] ?_
      simp [cvT, step, res, colQ, colM, arrQ, arrEq, arrM, ColsEq.refl, -List.getD_eq_getElem?_getD]
    unfold arrQ
    refine SR.freezeB [nid + 24] (fun nl' => ?_)
    simp only [frzS, frzH, frzBlk, lends, lend, kill, noOs, aqT, aqU, aqN, aqS, ↓seqK, ↓blkK, ↓loopK, step, stepBin, Nat.add_assoc nid, ↓reduceIte, Option.toList, ← Int.ofNat_tmod, ← Int.ofNat_tdiv, simprocAttr, BEq.rfl, LN_succ]
    generalize nl' (nid + 24) = nk
    refine SR.seqTo ⟨[(12, .sl (nid + 28) 0 E1.length), (13, .int .i64 0), (10, .lit nk K1.length [.i .i64 fun k => ((K1.getD k 0 : Nat) : Int)]), (11, .int .i64 0), (8, .bool mt), (9, .int .i64 (orV 0 (kindI g))), (7, .int .i64 0), (6, .int .i64 g), (4, .int .i64 (N : Nat)), (5, .lit nv v.length [.s fun i => v.getD i []])], [(nid + 28, arrEq E1)], nid + 1400, nid⟩ ?_ ?_
    · simp -dsimp only [aqT, aqU, aqN, aqS, ↓seqK, ↓blkK, ↓loopK, step, stepBin, Nat.add_assoc nid, ↓reduceIte, Option.toList, ← Int.ofNat_tmod, ← Int.ofNat_tdiv, simprocAttr, BEq.rfl, LN_succ]
      refine CallO.pure (heq _) ?_
      unfold arrEq
      simp -dsimp only [aqT, aqU, aqN, aqS, ↓seqK, ↓blkK, ↓loopK, step, stepBin, Nat.add_assoc nid, ↓reduceIte, Option.toList, ← Int.ofNat_tmod, ← Int.ofNat_tdiv, simprocAttr, BEq.rfl, LN_succ]
      refine Cov.go [(nid + 28, nid + 1208)] [] ?_
      simp [cvT, step, res, colQ, colM, arrQ, arrEq, arrM, ColsEq.refl, -List.getD_eq_getElem?_getD]
    unfold arrEq colQ
    refine SR.freezeB [nid + 28] (fun nl' => ?_)
    simp only [frzS, frzH, frzBlk, lends, lend, kill, noOs, aqT, aqU, aqN, aqS, ↓seqK, ↓blkK, ↓loopK, step, stepBin, Nat.add_assoc nid, ↓reduceIte, Option.toList, ← Int.ofNat_tmod, ← Int.ofNat_tdiv, simprocAttr, BEq.rfl, LN_succ]
    generalize nl' (nid + 28) = ne
    obtain ⟨few, hfew⟩ : ∃ b : Bool, b = decide (M1.length ≤ 10000) := ⟨_, rfl⟩
    obtain ⟨CM, hCM⟩ : ∃ l, l = if few = true then M1 else [] := ⟨_, rfl⟩
    obtain ⟨hE, hhE⟩ : ∃ e : Int, e = if few = true then 0 else 12 := ⟨_, rfl⟩
    rw [← hfew] at hmsR
    refine SR.seqTo ⟨[(14, .sl (nid + 32) 0 CM.length), (15, .int .i64 hE), (12, .lit ne E1.length (colQ E1)), (13, .int .i64 0), (10, .lit nk K1.length [.i .i64 fun k => ((K1.getD k 0 : Nat) : Int)]), (11, .int .i64 0), (8, .bool mt), (9, .int .i64 (orV 0 (kindI g))), (7, .int .i64 0), (6, .int .i64 g), (4, .int .i64 (N : Nat)), (5, .lit nv v.length [.s fun i => v.getD i []])], [(nid + 32, arrM CM)], nid + 1600, nid⟩ ?_ ?_
    · cases few
      · rw [if_neg (by simp)] at hCM hhE
        subst hCM hhE
        have hlen : 10000 < M1.length := by have := of_decide_eq_false hfew.symm; omega
        simp -dsimp only [aqT, aqU, aqN, aqS, ↓seqK, ↓blkK, ↓loopK, step, stepBin, Nat.add_assoc nid, ↓reduceIte, Option.toList, ← Int.ofNat_tmod, ← Int.ofNat_tdiv, simprocAttr, BEq.rfl, LN_succ]
        refine CallO.pure ((hmp _).1 hlen) ?_
        simp -dsimp only [aqT, aqU, aqN, aqS, ↓seqK, ↓blkK, ↓loopK, step, stepBin, Nat.add_assoc nid, ↓reduceIte, Option.toList, ← Int.ofNat_tmod, ← Int.ofNat_tdiv, simprocAttr, BEq.rfl, LN_succ]
        refine Cov.go [] [(nid + 32, 3)] ?_
        simp [cvT, step, res, colQ, colM, arrQ, arrEq, arrM, ColsEq.refl, -List.getD_eq_getElem?_getD]
      · rw [if_pos rfl] at hCM hhE
        subst hCM hhE
        have hlen : CM.length ≤ 10000 := of_decide_eq_true hfew.symm
        simp -dsimp only [aqT, aqU, aqN, aqS, ↓seqK, ↓blkK, ↓loopK, step, stepBin, Nat.add_assoc nid, ↓reduceIte, Option.toList, ← Int.ofNat_tmod, ← Int.ofNat_tdiv, simprocAttr, BEq.rfl, LN_succ]
        refine CallO.pure ((hmp _).2 hlen) ?_
        unfold arrM
        simp -dsimp only [aqT, aqU, aqN, aqS, ↓seqK, ↓blkK, ↓loopK, step, stepBin, Nat.add_assoc nid, ↓reduceIte, Option.toList, ← Int.ofNat_tmod, ← Int.ofNat_tdiv, simprocAttr, BEq.rfl, LN_succ]
        refine Cov.go [(nid + 32, nid + 1408)] [] ?_
        simp [cvT, step, res, colQ, colM, arrQ, arrEq, arrM, ColsEq.refl, -List.getD_eq_getElem?_getD]
    unfold arrM colM
    refine SR.freezeB [nid + 32] (fun nl' => ?_)
    simp only [frzS, frzH, frzBlk, lends, lend, kill, noOs, aqT, aqU, aqN, aqS, ↓seqK, ↓blkK, ↓loopK, step, stepBin, Nat.add_assoc nid, ↓reduceIte, Option.toList, ← Int.ofNat_tmod, ← Int.ofNat_tdiv, simprocAttr, BEq.rfl, LN_succ]
    generalize nl' (nid + 32) = nc
    refine SR.seqTo ⟨[(16, .int .i64 D), (17, .bool D2), (18, .int .i64 0), (14, .lit nc CM.length (colM CM)), (15, .int .i64 hE), (12, .lit ne E1.length (colQ E1)), (13, .int .i64 0), (10, .lit nk K1.length [.i .i64 fun k => ((K1.getD k 0 : Nat) : Int)]), (11, .int .i64 0), (8, .bool mt), (9, .int .i64 (orV 0 (kindI g))), (7, .int .i64 0), (6, .int .i64 g), (4, .int .i64 (N : Nat)), (5, .lit nv v.length [.s fun i => v.getD i []])], [], nid + 1800, nid⟩ ?_ ?_
    · simp -dsimp only [aqT, aqU, aqN, aqS, ↓seqK, ↓blkK, ↓loopK, step, stepBin, Nat.add_assoc nid, ↓reduceIte, Option.toList, ← Int.ofNat_tmod, ← Int.ofNat_tdiv, simprocAttr, BEq.rfl, LN_succ]
      refine CallO.pure (hds _) ?_
      simp -dsimp only [aqT, aqU, aqN, aqS, ↓seqK, ↓blkK, ↓loopK, step, stepBin, Nat.add_assoc nid, ↓reduceIte, Option.toList, ← Int.ofNat_tmod, ← Int.ofNat_tdiv, simprocAttr, BEq.rfl, LN_succ]
      refine Cov.go [] [] ?_
      simp [cvT, step, res, colQ, colM, arrQ, arrEq, arrM, ColsEq.refl, -List.getD_eq_getElem?_getD]
    refine SR.seqTo ⟨[(19, .int .i64 (kindI g)), (16, .int .i64 D), (17, .bool D2), (18, .int .i64 0), (14, .lit nc CM.length (colM CM)), (15, .int .i64 hE), (12, .lit ne E1.length (colQ E1)), (13, .int .i64 0), (10, .lit nk K1.length [.i .i64 fun k => ((K1.getD k 0 : Nat) : Int)]), (11, .int .i64 0), (8, .bool mt), (9, .int .i64 (orV 0 (kindI g))), (7, .int .i64 0), (6, .int .i64 g), (4, .int .i64 (N : Nat)), (5, .lit nv v.length [.s fun i => v.getD i []])], [], nid + 2000, nid⟩ ?_ ?_
    · simp -dsimp only [aqT, aqU, aqN, aqS, ↓seqK, ↓blkK, ↓loopK, step, stepBin, Nat.add_assoc nid, ↓reduceIte, Option.toList, ← Int.ofNat_tmod, ← Int.ofNat_tdiv, simprocAttr, BEq.rfl, LN_succ]
      refine CallO.pure (hgf _) ?_
      simp -dsimp only [aqT, aqU, aqN, aqS, ↓seqK, ↓blkK, ↓loopK, step, stepBin, Nat.add_assoc nid, ↓reduceIte, Option.toList, ← Int.ofNat_tmod, ← Int.ofNat_tdiv, simprocAttr, BEq.rfl, LN_succ]
      refine CallO.gave1 (by simp only [aqT, aqU, aqN, aqS, ↓seqK, ↓blkK, ↓loopK, step, stepBin, Nat.add_assoc nid, ↓reduceIte, Option.toList, ← Int.ofNat_tmod, ← Int.ofNat_tdiv, simprocAttr, BEq.rfl, LN_succ]; rfl) (fun nl' => orL_c nl' _ _ _) rfl ?_
      simp -dsimp only [aqT, aqU, aqN, aqS, ↓seqK, ↓blkK, ↓loopK, step, stepBin, Nat.add_assoc nid, ↓reduceIte, Option.toList, ← Int.ofNat_tmod, ← Int.ofNat_tdiv, simprocAttr, BEq.rfl, LN_succ]
      refine Cov.go [] [] ?_
      simp [cvT, step, res, colQ, colM, arrQ, arrEq, arrM, ColsEq.refl, -List.getD_eq_getElem?_getD]
    rw [ho] at *
    refine SR.seqTo ⟨[(16, .int .i64 D), (17, .bool D2), (18, .int .i64 0), (14, .lit nc CM.length (colM CM)), (15, .int .i64 hE), (12, .lit ne E1.length (colQ E1)), (13, .int .i64 0), (10, .lit nk K1.length [.i .i64 fun k => ((K1.getD k 0 : Nat) : Int)]), (11, .int .i64 0), (7, .int .i64 0), (6, .int .i64 g), (4, .int .i64 (N : Nat)), (5, .lit nv v.length [.s fun i => v.getD i []])], [], nid + 2200, nid⟩ ?_ ?_
    · by_cases hk : kindI g = 0
      · have hm := hmtg hk
        rw [hk]
        simp -dsimp only [aqT, aqU, aqN, aqS, ↓seqK, ↓blkK, ↓loopK, step, stepBin, Nat.add_assoc nid, ↓reduceIte, Option.toList, ← Int.ofNat_tmod, ← Int.ofNat_tdiv, simprocAttr, BEq.rfl, LN_succ]
        refine CallO.pure (hm _) ?_
        simp -dsimp only [aqT, aqU, aqN, aqS, ↓seqK, ↓blkK, ↓loopK, step, stepBin, Nat.add_assoc nid, ↓reduceIte, Option.toList, ← Int.ofNat_tmod, ← Int.ofNat_tdiv, simprocAttr, BEq.rfl, LN_succ, bne_self_eq_false]
        refine Cov.go [] [] ?_
        simp [cvT, step, res, colQ, colM, arrQ, arrEq, arrM, ColsEq.refl, -List.getD_eq_getElem?_getD]
      · rw [hmt0 hk]
        generalize kindI g = L at *
        have hb : (L == 0) = false := by simpa using hk
        simp -dsimp only [aqT, aqU, aqN, aqS, ↓seqK, ↓blkK, ↓loopK, step, stepBin, Nat.add_assoc nid, ↓reduceIte, Option.toList, ← Int.ofNat_tmod, ← Int.ofNat_tdiv, simprocAttr, BEq.rfl, LN_succ, bne_self_eq_false, hb]
        refine Cov.go [] [] ?_
        simp [cvT, step, res, colQ, colM, arrQ, arrEq, arrM, ColsEq.refl, -List.getD_eq_getElem?_getD]
    refine SR.seqTo ⟨[(16, .int .i64 D), (17, .bool D2), (18, .int .i64 0), (14, .lit nc CM.length (colM CM)), (15, .int .i64 hE), (12, .lit ne E1.length (colQ E1)), (13, .int .i64 0), (10, .lit nk K1.length [.i .i64 fun k => ((K1.getD k 0 : Nat) : Int)]), (11, .int .i64 0), (7, .int .i64 0), (6, .int .i64 g), (4, .int .i64 (N : Nat)), (5, .lit nv v.length [.s fun i => v.getD i []])], [], nid + 2400, nid⟩ ?_ ?_
    · simp -dsimp only [aqT, aqU, aqN, aqS, ↓seqK, ↓blkK, ↓loopK, step, stepBin, Nat.add_assoc nid, ↓reduceIte, Option.toList, ← Int.ofNat_tmod, ← Int.ofNat_tdiv, simprocAttr, BEq.rfl, LN_succ]
      refine Cov.go [] [] ?_
      simp [cvT, step, res, colQ, colM, arrQ, arrEq, arrM, ColsEq.refl, -List.getD_eq_getElem?_getD]
    refine SR.seqTo ⟨[(16, .int .i64 D), (17, .bool D2), (18, .int .i64 0), (14, .lit nc CM.length (colM CM)), (15, .int .i64 hE), (7, .int .i64 0), (6, .int .i64 g), (4, .int .i64 (N : Nat)), (5, .lit nv v.length [.s fun i => v.getD i []])], [], nid + 2800, nid⟩ ?_ ?_
    · have e : arrI (intsO K1) = arrQ K1 := by unfold arrI arrQ; rw [intsQ_len, intsQ_at]
      rw [e] at hstR
      unfold arrQ at hstR
      unfold arrEq colQ at heqR
      unfold litQ at hI
      unfold litEq colQ at hEq
      unfold colQ
      simp -dsimp only [aqT, aqU, aqN, aqS, ↓seqK, ↓blkK, ↓loopK, step, stepBin, Nat.add_assoc nid, ↓reduceIte, Option.toList, ← Int.ofNat_tmod, ← Int.ofNat_tdiv, simprocAttr, BEq.rfl, LN_succ]
      refine CallO.pure (hstR _) ?_
      simp -dsimp only [aqT, aqU, aqN, aqS, ↓seqK, ↓blkK, ↓loopK, step, stepBin, Nat.add_assoc nid, ↓reduceIte, Option.toList, ← Int.ofNat_tmod, ← Int.ofNat_tdiv, simprocAttr, BEq.rfl, LN_succ]
      refine CallO.lent [nid + 2424] (fun nl' => by
        simp only [lends, lend, noOs, aqT, aqU, aqN, aqS, ↓seqK, ↓blkK, ↓loopK, step, stepBin, Nat.add_assoc nid, ↓reduceIte, Option.toList, ← Int.ofNat_tmod, ← Int.ofNat_tdiv, simprocAttr, BEq.rfl, LN_succ]
        exact hI _ (nl' _) _) rfl rfl (by simp [getH]) ?_
      simp -dsimp only [aqT, aqU, aqN, aqS, ↓seqK, ↓blkK, ↓loopK, step, stepBin, Nat.add_assoc nid, ↓reduceIte, Option.toList, ← Int.ofNat_tmod, ← Int.ofNat_tdiv, simprocAttr, BEq.rfl, LN_succ]
      refine CallO.pure (heqR _) ?_
      simp -dsimp only [aqT, aqU, aqN, aqS, ↓seqK, ↓blkK, ↓loopK, step, stepBin, Nat.add_assoc nid, ↓reduceIte, Option.toList, ← Int.ofNat_tmod, ← Int.ofNat_tdiv, simprocAttr, BEq.rfl, LN_succ]
      refine CallO.lent [nid + 2472] (fun nl' => by
        simp only [lends, lend, noOs, aqT, aqU, aqN, aqS, ↓seqK, ↓blkK, ↓loopK, step, stepBin, Nat.add_assoc nid, ↓reduceIte, Option.toList, ← Int.ofNat_tmod, ← Int.ofNat_tdiv, simprocAttr, BEq.rfl, LN_succ]
        exact hEq _ (nl' _) _) rfl rfl (by simp [getH]) ?_
      simp -dsimp only [aqT, aqU, aqN, aqS, ↓seqK, ↓blkK, ↓loopK, step, stepBin, Nat.add_assoc nid, ↓reduceIte, Option.toList, ← Int.ofNat_tmod, ← Int.ofNat_tdiv, simprocAttr, BEq.rfl, LN_succ]
      refine Cov.go [] [] ?_
      simp [cvT, step, res, colQ, colM, arrQ, arrEq, arrM, ColsEq.refl, -List.getD_eq_getElem?_getD]
    refine SR.seqTo ⟨[(20, .sl (nid + 36) 0 M1.length), (21, .bool few), (16, .int .i64 D), (17, .bool D2), (18, .int .i64 0), (14, .lit nc CM.length (colM CM)), (15, .int .i64 hE), (7, .int .i64 0), (6, .int .i64 g), (4, .int .i64 (N : Nat)), (5, .lit nv v.length [.s fun i => v.getD i []])], [(nid + 36, arrM M1)], nid + 3000, nid⟩ ?_ ?_
    · simp -dsimp only [aqT, aqU, aqN, aqS, ↓seqK, ↓blkK, ↓loopK, step, stepBin, Nat.add_assoc nid, ↓reduceIte, Option.toList, ← Int.ofNat_tmod, ← Int.ofNat_tdiv, simprocAttr, BEq.rfl, LN_succ]
      refine CallO.pure (hmsR _) ?_
      unfold arrM
      simp -dsimp only [aqT, aqU, aqN, aqS, ↓seqK, ↓blkK, ↓loopK, step, stepBin, Nat.add_assoc nid, ↓reduceIte, Option.toList, ← Int.ofNat_tmod, ← Int.ofNat_tdiv, simprocAttr, BEq.rfl, LN_succ]
      refine Cov.go [(nid + 36, nid + 2808)] [] ?_
      simp [cvT, step, res, colQ, colM, arrQ, arrEq, arrM, ColsEq.refl, -List.getD_eq_getElem?_getD]
    unfold arrM colM
    refine SR.freezeB [nid + 36] (fun nl' => ?_)
    simp only [frzS, frzH, frzBlk, lends, lend, kill, noOs, aqT, aqU, aqN, aqS, ↓seqK, ↓blkK, ↓loopK, step, stepBin, Nat.add_assoc nid, ↓reduceIte, Option.toList, ← Int.ofNat_tmod, ← Int.ofNat_tdiv, simprocAttr, BEq.rfl, LN_succ]
    generalize nl' (nid + 36) = nm
    refine SR.seqTo ⟨[(16, .int .i64 D), (17, .bool D2), (18, .int .i64 0), (7, .int .i64 0), (6, .int .i64 g), (4, .int .i64 (N : Nat)), (5, .lit nv v.length [.s fun i => v.getD i []])], [], nid + 3400, nid⟩ ?_ ?_
    · cases few
      · rw [if_neg (by simp)] at hCM hhE
        subst hCM hhE
        simp -dsimp only [aqT, aqU, aqN, aqS, ↓seqK, ↓blkK, ↓loopK, step, stepBin, Nat.add_assoc nid, ↓reduceIte, Option.toList, ← Int.ofNat_tmod, ← Int.ofNat_tdiv, simprocAttr, BEq.rfl, LN_succ]
        refine Cov.go [] [] ?_
        simp [cvT, step, res, colQ, colM, arrQ, arrEq, arrM, ColsEq.refl, -List.getD_eq_getElem?_getD]
      · rw [if_pos rfl] at hCM hhE
        subst hCM hhE
        unfold litM colM at hMs
        simp -dsimp only [aqT, aqU, aqN, aqS, ↓seqK, ↓blkK, ↓loopK, step, stepBin, Nat.add_assoc nid, ↓reduceIte, Option.toList, ← Int.ofNat_tmod, ← Int.ofNat_tdiv, simprocAttr, BEq.rfl, LN_succ]
        refine CallO.pure (hMs _ _ _) ?_
        simp -dsimp only [aqT, aqU, aqN, aqS, ↓seqK, ↓blkK, ↓loopK, step, stepBin, Nat.add_assoc nid, ↓reduceIte, Option.toList, ← Int.ofNat_tmod, ← Int.ofNat_tdiv, simprocAttr, BEq.rfl, LN_succ]
        refine Cov.go [] [] ?_
        simp [cvT, step, res, colQ, colM, arrQ, arrEq, arrM, ColsEq.refl, -List.getD_eq_getElem?_getD]
    refine SR.seqTo ⟨[(22, .int .i64 D), (23, .bool D2), (16, .int .i64 D), (17, .bool D2), (18, .int .i64 0), (7, .int .i64 0), (6, .int .i64 g), (4, .int .i64 (N : Nat)), (5, .lit nv v.length [.s fun i => v.getD i []])], [], nid + 3600, nid⟩ ?_ ?_
    · simp -dsimp only [aqT, aqU, aqN, aqS, ↓seqK, ↓blkK, ↓loopK, step, stepBin, Nat.add_assoc nid, ↓reduceIte, Option.toList, ← Int.ofNat_tmod, ← Int.ofNat_tdiv, simprocAttr, BEq.rfl, LN_succ]
      refine CallO.pure (hdsR _) ?_
      simp -dsimp only [aqT, aqU, aqN, aqS, ↓seqK, ↓blkK, ↓loopK, step, stepBin, Nat.add_assoc nid, ↓reduceIte, Option.toList, ← Int.ofNat_tmod, ← Int.ofNat_tdiv, simprocAttr, BEq.rfl, LN_succ]
      refine Cov.go [] [] ?_
      simp [cvT, step, res, colQ, colM, arrQ, arrEq, arrM, ColsEq.refl, -List.getD_eq_getElem?_getD]
    refine SR.run (t := .mk) ?_
    have hb : (D2 == D2) = true := by simp
    simp -dsimp only [aqT, aqU, aqN, aqS, ↓seqK, ↓blkK, ↓loopK, step, stepBin, Nat.add_assoc nid, ↓reduceIte, Option.toList, ← Int.ofNat_tmod, ← Int.ofNat_tdiv, simprocAttr, BEq.rfl, LN_succ, beq_self_eq_true, hb]
    refine CallO.pure (patternedC_c _) ?_
    simp -dsimp only [aqT, aqU, aqN, aqS, ↓seqK, ↓blkK, ↓loopK, step, stepBin, Nat.add_assoc nid, ↓reduceIte, Option.toList, ← Int.ofNat_tmod, ← Int.ofNat_tdiv, simprocAttr, BEq.rfl, LN_succ]
    refine RetOK.pure (.inl rfl) rfl ?_
    simp [cvT, step, res]
  · have hb : (patV n v == 0) = false := by simpa using hp
    have hst := fun m => stuck_bad nv n v m (by omega) (hvr.mono (by omega)) hp
    have heq := fun m => equal_bad nv n v m (by omega) (hvr.mono (by omega)) hp
    have hms := fun m => masked_bad nv n v m (by omega) (hvr.mono (by omega)) hp
    have hds := fun m => distance_bad nv n v m (by omega) (hvr.mono (by omega)) hp
    have ho : orV (patV n v) (kindI g) = patV n v := if_neg hp
    have hmf : mtV n g v = false := by unfold mtV; rw [ho, if_neg hp]
    rw [hmf, ho]
    have hor := fun nl' m => orL_c nl' (patV n v) (kindI g) m
    rw [if_neg hp] at hor
    generalize patV n v = p at *
    unfold litS at *
    have hbn : (p != 0) = true := by simpa using hp
    refine SR.seqTo ⟨[(10, .lit true 0 []), (11, .int .i64 p), (8, .bool false), (9, .int .i64 p), (7, .int .i64 p), (6, .int .i64 g), (4, .int .i64 n), (5, .lit nv v.length [.s fun i => v.getD i []])], [], nid + 1200, nid⟩ ?_ ?_
    · simp -dsimp only [aqT, aqU, aqN, aqS, ↓seqK, ↓blkK, ↓loopK, step, stepBin, Nat.add_assoc nid, ↓reduceIte, Option.toList, ← Int.ofNat_tmod, ← Int.ofNat_tdiv, simprocAttr, BEq.rfl, LN_succ]
      refine CallO.pure (hst _) ?_
      simp -dsimp only [aqT, aqU, aqN, aqS, ↓seqK, ↓blkK, ↓loopK, step, stepBin, Nat.add_assoc nid, ↓reduceIte, Option.toList, ← Int.ofNat_tmod, ← Int.ofNat_tdiv, simprocAttr, BEq.rfl, LN_succ]
      refine Cov.go [] [] ?_
      simp [cvT, step, res, colQ, colM, arrQ, arrEq, arrM, ColsEq.refl, -List.getD_eq_getElem?_getD]
    refine SR.seqTo ⟨[(12, .lit true 0 []), (13, .int .i64 p), (10, .lit true 0 []), (11, .int .i64 p), (8, .bool false), (9, .int .i64 p), (7, .int .i64 p), (6, .int .i64 g), (4, .int .i64 n), (5, .lit nv v.length [.s fun i => v.getD i []])], [], nid + 1400, nid⟩ ?_ ?_
    · simp -dsimp only [aqT, aqU, aqN, aqS, ↓seqK, ↓blkK, ↓loopK, step, stepBin, Nat.add_assoc nid, ↓reduceIte, Option.toList, ← Int.ofNat_tmod, ← Int.ofNat_tdiv, simprocAttr, BEq.rfl, LN_succ]
      refine CallO.pure (heq _) ?_
      simp -dsimp only [aqT, aqU, aqN, aqS, ↓seqK, ↓blkK, ↓loopK, step, stepBin, Nat.add_assoc nid, ↓reduceIte, Option.toList, ← Int.ofNat_tmod, ← Int.ofNat_tdiv, simprocAttr, BEq.rfl, LN_succ]
      refine Cov.go [] [] ?_
      simp [cvT, step, res, colQ, colM, arrQ, arrEq, arrM, ColsEq.refl, -List.getD_eq_getElem?_getD]
    refine SR.seqTo ⟨[(14, .lit true 0 []), (15, .int .i64 p), (12, .lit true 0 []), (13, .int .i64 p), (10, .lit true 0 []), (11, .int .i64 p), (8, .bool false), (9, .int .i64 p), (7, .int .i64 p), (6, .int .i64 g), (4, .int .i64 n), (5, .lit nv v.length [.s fun i => v.getD i []])], [], nid + 1600, nid⟩ ?_ ?_
    · simp -dsimp only [aqT, aqU, aqN, aqS, ↓seqK, ↓blkK, ↓loopK, step, stepBin, Nat.add_assoc nid, ↓reduceIte, Option.toList, ← Int.ofNat_tmod, ← Int.ofNat_tdiv, simprocAttr, BEq.rfl, LN_succ]
      refine CallO.pure (hms _) ?_
      simp -dsimp only [aqT, aqU, aqN, aqS, ↓seqK, ↓blkK, ↓loopK, step, stepBin, Nat.add_assoc nid, ↓reduceIte, Option.toList, ← Int.ofNat_tmod, ← Int.ofNat_tdiv, simprocAttr, BEq.rfl, LN_succ]
      refine Cov.go [] [] ?_
      simp [cvT, step, res, colQ, colM, arrQ, arrEq, arrM, ColsEq.refl, -List.getD_eq_getElem?_getD]
    refine SR.seqTo ⟨[(16, .int .i64 0), (17, .bool false), (18, .int .i64 p), (14, .lit true 0 []), (15, .int .i64 p), (12, .lit true 0 []), (13, .int .i64 p), (10, .lit true 0 []), (11, .int .i64 p), (8, .bool false), (9, .int .i64 p), (7, .int .i64 p), (6, .int .i64 g), (4, .int .i64 n), (5, .lit nv v.length [.s fun i => v.getD i []])], [], nid + 1800, nid⟩ ?_ ?_
    · simp -dsimp only [aqT, aqU, aqN, aqS, ↓seqK, ↓blkK, ↓loopK, step, stepBin, Nat.add_assoc nid, ↓reduceIte, Option.toList, ← Int.ofNat_tmod, ← Int.ofNat_tdiv, simprocAttr, BEq.rfl, LN_succ]
      refine CallO.pure (hds _) ?_
      simp -dsimp only [aqT, aqU, aqN, aqS, ↓seqK, ↓blkK, ↓loopK, step, stepBin, Nat.add_assoc nid, ↓reduceIte, Option.toList, ← Int.ofNat_tmod, ← Int.ofNat_tdiv, simprocAttr, BEq.rfl, LN_succ]
      refine Cov.go [] [] ?_
      simp [cvT, step, res, colQ, colM, arrQ, arrEq, arrM, ColsEq.refl, -List.getD_eq_getElem?_getD]
    refine SR.seqTo ⟨[(19, .int .i64 p), (16, .int .i64 0), (17, .bool false), (18, .int .i64 p), (14, .lit true 0 []), (15, .int .i64 p), (12, .lit true 0 []), (13, .int .i64 p), (10, .lit true 0 []), (11, .int .i64 p), (8, .bool false), (9, .int .i64 p), (7, .int .i64 p), (6, .int .i64 g), (4, .int .i64 n), (5, .lit nv v.length [.s fun i => v.getD i []])], [], nid + 2000, nid⟩ ?_ ?_
    · simp -dsimp only [aqT, aqU, aqN, aqS, ↓seqK, ↓blkK, ↓loopK, step, stepBin, Nat.add_assoc nid, ↓reduceIte, Option.toList, ← Int.ofNat_tmod, ← Int.ofNat_tdiv, simprocAttr, BEq.rfl, LN_succ]
      refine CallO.pure (hgf _) ?_
      simp -dsimp only [aqT, aqU, aqN, aqS, ↓seqK, ↓blkK, ↓loopK, step, stepBin, Nat.add_assoc nid, ↓reduceIte, Option.toList, ← Int.ofNat_tmod, ← Int.ofNat_tdiv, simprocAttr, BEq.rfl, LN_succ]
      refine CallO.gave1 (by simp only [aqT, aqU, aqN, aqS, ↓seqK, ↓blkK, ↓loopK, step, stepBin, Nat.add_assoc nid, ↓reduceIte, Option.toList, ← Int.ofNat_tmod, ← Int.ofNat_tdiv, simprocAttr, BEq.rfl, LN_succ]; rfl) (fun nl' => hor nl' _) rfl ?_
      simp -dsimp only [aqT, aqU, aqN, aqS, ↓seqK, ↓blkK, ↓loopK, step, stepBin, Nat.add_assoc nid, ↓reduceIte, Option.toList, ← Int.ofNat_tmod, ← Int.ofNat_tdiv, simprocAttr, BEq.rfl, LN_succ]
      refine Cov.go [] [] ?_
      simp [cvT, step, res, colQ, colM, arrQ, arrEq, arrM, ColsEq.refl, -List.getD_eq_getElem?_getD]
    refine SR.seqTo ⟨[(16, .int .i64 0), (17, .bool false), (18, .int .i64 p), (14, .lit true 0 []), (15, .int .i64 p), (12, .lit true 0 []), (13, .int .i64 p), (10, .lit true 0 []), (11, .int .i64 p), (7, .int .i64 p), (6, .int .i64 g), (4, .int .i64 n), (5, .lit nv v.length [.s fun i => v.getD i []])], [], nid + 2200, nid⟩ ?_ ?_
    · simp -dsimp only [aqT, aqU, aqN, aqS, ↓seqK, ↓blkK, ↓loopK, step, stepBin, Nat.add_assoc nid, ↓reduceIte, Option.toList, ← Int.ofNat_tmod, ← Int.ofNat_tdiv, simprocAttr, BEq.rfl, LN_succ, bne_self_eq_false, hb]
      refine Cov.go [] [] ?_
      simp [cvT, step, res, colQ, colM, arrQ, arrEq, arrM, ColsEq.refl, -List.getD_eq_getElem?_getD]
    refine SR.run (t := .mk) ?_
    simp -dsimp only [aqT, aqU, aqN, aqS, ↓seqK, ↓blkK, ↓loopK, step, stepBin, Nat.add_assoc nid, ↓reduceIte, Option.toList, ← Int.ofNat_tmod, ← Int.ofNat_tdiv, simprocAttr, BEq.rfl, LN_succ, bne_self_eq_false, hb, hbn, beq_self_eq_true]
    refine ⟨by unfold inI64; omega, by unfold inI64; omega, ?_⟩
    refine CallO.pure (patternedC_c _) ?_
    simp -dsimp only [aqT, aqU, aqN, aqS, ↓seqK, ↓blkK, ↓loopK, step, stepBin, Nat.add_assoc nid, ↓reduceIte, Option.toList, ← Int.ofNat_tmod, ← Int.ofNat_tdiv, simprocAttr, BEq.rfl, LN_succ]
    refine RetOK.pure (.inl rfl) rfl ?_
    simp [cvT, step, res]
end Go.Proofs.YthcldfmlfjomfaaGreatDoor
namespace Go.Proofs.YthcldfmlfjomfaaGreatDoor
open Go.RowKit
theorem handed_shaped {H : Type} {enc : TypeId × Value → H} {a : Assume} {C : Checked} {os : Os} {f : FuncId} {fn : Func} {s : ChangeSpec} {conds : List PathCond} {apart fresh handsOn again : Bool} {X : World → Array Value → Prop}
    (hX : ∀ (w w' : World) (args : Array Value), w.heap = w'.heap → X w args → X w' args)
    (own : ownKnob C.prog.godebug = none) (started : os.Started) (noInit : C.prog.inits.idxOf? f = none) (hfn : C.prog.funcs[f]? = some fn)
    (witness : ∃ (w : World) (tape : Tape) (i : Input), w.os = os ∧ (w.forCall tape i).Shaped C.prog ∧ i.vars = [] ∧ Input.okWide C.prog (w.forCall tape i) .any w.heap.size f i ∧
      ((s.pre enc C.prog fn conds apart (w.forCall tape i).memory i.args ∧ X (w.forCall tape i).memory i.args) ∧ sizedMet enc C.prog fn (OpenSpec.ofChange s) apart (w.forCall tape i).memory i.args) ∧ a.holds C.prog (lone (Frame.enter C.prog f i.args .normal) [] (w.forCall tape i)))
    (contract : ∀ (W : World) (base : Nat) (args : Array Value) (ds gs : List (DataW H)) (before : List MemPlace),
      (∀ (j : Nat) t v, fn.params[j]? = some t → args[j]? = some v → Value.okWide C.prog W .any base t v) →
      DataW.Whole enc C.prog fn.params.toList s.vars apart W args.toList ds gs before →
      conds.all (PathCond.test C.prog ⟨fn.params.toList, ds, s.plain.varTypes C.prog, gs⟩) = true →
      (DataW.weightsEach C.prog (fn.params.toList ++ s.plain.varTypes C.prog) (ds ++ gs)).all (· ≤ reachBytes) = true → X W args → W.ShapedOpen C.prog →
      Calls C.prog f args W fun e W' => ∃ v, e = .returned v ∧ s.post enc C.prog fn apart fresh handsOn again W args v W') :
    ReturnsInHanded a C os f .any (fun w args => (s.pre enc C.prog fn conds apart w args ∧ X w args) ∧ sizedMet enc C.prog fn (OpenSpec.ofChange s) apart w args) (s.post enc C.prog fn apart fresh handsOn again) := by
  refine returnsInHanded_of_calls own started noInit witness ?_
  intro w tape i _ hsh _ hok hpre _
  obtain ⟨_, _, _, fn', hfn', _, _, _, _, hval⟩ := hok
  have e : fn' = fn := Option.some.inj (hfn'.symm.trans hfn)
  subst e
  obtain ⟨⟨⟨ds, gs, before, hw, hc⟩, hx⟩, hz⟩ := hpre
  have hw' := DataW.Whole.of_heap (w' := w.forCall tape i) (by rfl) hw
  refine (contract (w.forCall tape i) w.heap.size i.args ds gs before hval hw' hc (hz.weights hw) (hX _ _ _ (by rfl) hx) hsh).mono fun e W' ⟨v, he, hp⟩ => ?_
  subst he
  exact ChangeSpec.post_blind hp
theorem gok_cell {W : World} {g : Nat} {m : Int} (h : W.cell? ⟨g, 0, none⟩ = some (.int .i64 m)) : g < W.heap.size ∧ ∃ o, W.heap[g]? = some o ∧ cell0 o = some (.int .i64 m) := by
  unfold World.cell? at h
  simp only at h
  split at h
  · rename_i c t f hc
    refine ⟨?_, _, hc, ?_⟩
    · rcases Nat.lt_or_ge g W.heap.size with hl | hl
      · exact hl
      · rw [Array.getElem?_eq_none hl] at hc; cases hc
    · simpa [cell0] using h
  · cases h
set_option maxRecDepth 1000000 in
theorem gok0_of {W : World} (h : W.ShapedOpen Tryz.prog) : GOK0 (fun b => W.heap[b]?) W.heap.size := by
  obtain ⟨m, hm⟩ := cell_of_shapedOpen_int (g := 0) (t := 3) (zero := #[.int .i64 0]) (k := .i64) h (of_decide_eq_true (by kernel_rfl)) (by kernel_rfl) rfl (by kernel_rfl) (by kernel_rfl) Tryz.underlying3
  obtain ⟨h1, o, h2, h3⟩ := gok_cell hm
  exact ⟨o, m, h1, h2, h3⟩
theorem gok_of {W : World} (h : W.ShapedOpen Tryz.prog) : GOK (fun b => W.heap[b]?) W.heap.size := gok0_of h
end Go.Proofs.YthcldfmlfjomfaaGreatDoor
