/-
  Vectors that the stream makes, by the abstract machine.
-/
import Derived.Test.YthcldfmlfjomfaaDoorKVC5
import Derived.Test.YthcldfmlfjomfaaDoorKVC3
import Derived.Lib.Bytealg
import Derived.Laws.Externs
import Derived.Test.YthcldfmlfjomfaaDoorKVC6
import Derived.Test.YthcldfmlfjomfaaDoorProg
import Derived.Test.YthcldfmlfjomfaaDoorChecked
import Derived.Handed
import Derived.HandedShaped
import Derived.Shelf.Vars
import Derived.KernelRfl
set_option linter.unusedVariables false
set_option linter.unusedSimpArgs false
set_option maxRecDepth 100000
namespace Go.Proofs.YthcldfmlfjomfaaDoor
open Go.RowKit
def Narrow (x : List (List UInt8)) : Prop := ∃ I : Nat, ∀ j : Nat, j ≠ I → (x.getD j []).length ≤ 6
theorem narrow_short {x : List (List UInt8)} (h : ShortRows 6 x) : Narrow x := ⟨0, fun j _ => h.at j⟩
theorem narrow_nil : Narrow [] := ⟨0, fun j _ => by simp⟩
theorem narrow_set {x : List (List UInt8)} (h : ShortRows 6 x) (I : Nat) (b : List UInt8) : Narrow (x.set I b) := ⟨I, fun j hj => by
  have := h.at j
  rw [List.getD_eq_getElem?_getD, List.getElem?_set_ne (fun e => hj e.symm), ← List.getD_eq_getElem?_getD]
  exact this⟩
set_option maxHeartbeats 8000000 in
theorem patternsX (s nid : Nat) (nl : Bool) (A : List Int) (p most : Nat) (h : s < nid) (hp : p ≤ 1099500000000) (hA : A.length ≤ 17592186044416) (hm : most ≤ 1000) :
    ∃ x : (Int × List (List UInt8)) × Nat, (x.1.2.length ≤ most + 1 ∧ ShortRows 20 x.1.2 ∧ x.2 ≤ p + 8000 ∧ Narrow x.1.2) ∧ ACall Tryd.prog 22 [.ptr s 0, .int .i64 (most : Nat)] [(s, strmC nl A p)] nid (.tup [.int .i64 x.1.1, .sl nid 0 x.1.2.length]) [(s, strmC nl A x.2), (nid, arrS x.1.2)] := by
  obtain ⟨e1, e2, e3, e4, e5, e6, e7, e8, e9⟩ := id_all h
  refine acall_ex c22 (by simp [a22]) ?_
  simp -dsimp only [aqT0, ROp0, aqT, aqU, aqN, aqS, ↓seqK, ↓blkK, ↓loopK, step, stepBin, Nat.add_assoc nid, ↓reduceIte, Option.toList, ← Int.ofNat_tmod, ← Int.ofNat_tdiv, simprocAttr, BEq.rfl, LN_succ, e1, e2, e3, e4, e5, e6, e7, e8, e9, a22, strmC_low]
  refine CallX.on (range_c s _ nl A p 1 6 (by omega) (by omega) hA (by omega) (by omega) (by omega)) (subH_get (by simp only [aqT, aqU, aqN, ↓seqK, ↓blkK, ↓loopK, step, stepBin, Nat.reduceBEq, Nat.reduceBeqDiff, Nat.add_assoc nid, Nat.reduceAdd, reduceCtorEq, ↓reduceIte, Nat.reduceLeDiff, Nat.reduceBneDiff, Option.toList, ← Int.ofNat_tmod, ← Int.ofNat_tdiv, Nat.reduceLT, e1, e2, e3, e4, e5, e6, e7, e8, e9])) ?_
  simp -dsimp only [aqT0, ROp0, aqT, aqU, aqN, aqS, ↓seqK, ↓blkK, ↓loopK, step, stepBin, Nat.add_assoc nid, ↓reduceIte, Option.toList, ← Int.ofNat_tmod, ← Int.ofNat_tdiv, simprocAttr, BEq.rfl, LN_succ, e1, e2, e3, e4, e5, e6, e7, e8, e9, strmC_low]
  have hwd := rangeV_bd A p (lo := 1) (hi := 6) (by omega)
  obtain ⟨w, hw⟩ : ∃ w : Nat, rangeV A p 1 6 = w := ⟨_, (Int.toNat_of_nonneg (by omega)).symm⟩
  rw [hw] at hwd ⊢
  clear hw
  refine CallX.on (range_c s _ nl A (p + 1) 0 most (by omega) (by omega) hA (by omega) (by omega) (by omega)) (subH_get (by simp only [aqT, aqU, aqN, ↓seqK, ↓blkK, ↓loopK, step, stepBin, Nat.reduceBEq, Nat.reduceBeqDiff, Nat.add_assoc nid, Nat.reduceAdd, reduceCtorEq, ↓reduceIte, Nat.reduceLeDiff, Nat.reduceBneDiff, Option.toList, ← Int.ofNat_tmod, ← Int.ofNat_tdiv, Nat.reduceLT, e1, e2, e3, e4, e5, e6, e7, e8, e9])) ?_
  simp -dsimp only [aqT0, ROp0, aqT, aqU, aqN, aqS, ↓seqK, ↓blkK, ↓loopK, step, stepBin, Nat.add_assoc nid, ↓reduceIte, Option.toList, ← Int.ofNat_tmod, ← Int.ofNat_tdiv, simprocAttr, BEq.rfl, LN_succ, e1, e2, e3, e4, e5, e6, e7, e8, e9, strmC_low]
  have hmd := rangeV_bd A (p + 1) (lo := 0) (hi := (most : Int)) (by omega)
  obtain ⟨m, hm2⟩ : ∃ w : Nat, rangeV A (p + 1) 0 most = w := ⟨_, (Int.toNat_of_nonneg (by omega)).symm⟩
  rw [hm2] at hmd ⊢
  clear hm2
  refine LP0.mkP (fun x : List (List UInt8) × Nat => x.1.length ≤ m ∧ ShortRows 6 x.1 ∧ x.2 ≤ p + 2 + 6 * x.1.length) (fun x => ⟨[(14, .int .i64 x.1.length), (13, .int .i64 m), (7, .sl (nid + 8) 0 x.1.length), (6, .int .i64 w), (0, .ptr s 0)],
    [(s, strmC nl A x.2), (nid + 8, arrS x.1)], nid + 200, nid⟩) (fun x => m + 1 - x.1.length) ([], p + 1 + 1) ⟨by simp, fun r hr => by simp at hr, by simp⟩ (Cov.go [] [(nid + 8, 1)] ?_) (fun x hx => ?_)
  · simp [cvT, step, res, e1, e2, e3, e4, e5, e6, e7, e8, e9, strmC, arrS]
  obtain ⟨x, q⟩ := x
  obtain ⟨hR1, hR2, hq⟩ := hx
  simp only at hR1 hR2 hq
  have hat := fun i => hR2.at i
  unfold arrS
  simp -dsimp only [aqT0, ROp0, aqT, aqU, aqN, aqS, ↓seqK, ↓blkK, ↓loopK, step, stepBin, Nat.add_assoc nid, ↓reduceIte, Option.toList, ← Int.ofNat_tmod, ← Int.ofNat_tdiv, simprocAttr, BEq.rfl, LN_succ, e1, e2, e3, e4, e5, e6, e7, e8, e9, strmC_low]
  refine S2.dec (fun h2 => ?_) (fun h2 => ?_) <;> simp -dsimp only [aqT0, ROp0, aqT, aqU, aqN, aqS, ↓seqK, ↓blkK, ↓loopK, step, stepBin, Nat.add_assoc nid, ↓reduceIte, Option.toList, ← Int.ofNat_tmod, ← Int.ofNat_tdiv, simprocAttr, BEq.rfl, LN_succ, e1, e2, e3, e4, e5, e6, e7, e8, e9, strmC_low]
  · refine CallX.onE (bitsX s _ nl A q w (by omega) (by omega) (by omega) hA) (subH_get (by simp only [aqT, aqU, aqN, ↓seqK, ↓blkK, ↓loopK, step, stepBin, Nat.reduceBEq, Nat.reduceBeqDiff, Nat.add_assoc nid, Nat.reduceAdd, reduceCtorEq, ↓reduceIte, Nat.reduceLeDiff, Nat.reduceBneDiff, Option.toList, ← Int.ofNat_tmod, ← Int.ofNat_tdiv, Nat.reduceLT, e1, e2, e3, e4, e5, e6, e7, e8, e9])) (fun t ht => ?_)
    simp -dsimp only [aqT0, ROp0, aqT, aqU, aqN, aqS, ↓seqK, ↓blkK, ↓loopK, step, stepBin, Nat.add_assoc nid, ↓reduceIte, Option.toList, ← Int.ofNat_tmod, ← Int.ofNat_tdiv, simprocAttr, BEq.rfl, LN_succ, e1, e2, e3, e4, e5, e6, e7, e8, e9, strmC_low]
    rw [getD_app1 x t rfl]
    have hl : (x ++ [t]).length = x.length + 1 := by simp
    refine ⟨by omega, by unfold inI64; omega, (x ++ [t], q + w), ⟨⟨by simp only; omega, by simp only; exact hR2.snoc (by omega), by simp only; omega⟩, by simp only; omega⟩, Cov.go [(nid + 8, nid + 224)] [] ?_⟩
    simp [cvT, step, res, e1, e2, e3, e4, e5, e6, e7, e8, e9, strmC, arrS, hl, -List.length_append, -List.getD_eq_getElem?_getD]
  have hxm : x.length = m := by omega
  clear hxm h2
  rcases Nat.eq_zero_or_pos x.length with hx0 | hx0
  · have hxe : x = [] := List.eq_nil_of_length_eq_zero hx0
    subst hxe
    simp -dsimp only [aqT0, ROp0, aqT, aqU, aqN, aqS, ↓seqK, ↓blkK, ↓loopK, step, stepBin, Nat.add_assoc nid, ↓reduceIte, Option.toList, ← Int.ofNat_tmod, ← Int.ofNat_tdiv, simprocAttr, BEq.rfl, LN_succ, e1, e2, e3, e4, e5, e6, e7, e8, e9, strmC_low]
    refine CallX.on (flip_c s _ nl A (q) 20 (by omega) (by omega) hA (by omega)) (subH_get (by simp only [aqT, aqU, aqN, ↓seqK, ↓blkK, ↓loopK, step, stepBin, Nat.reduceBEq, Nat.reduceBeqDiff, Nat.add_assoc nid, Nat.reduceAdd, reduceCtorEq, ↓reduceIte, Nat.reduceLeDiff, Nat.reduceBneDiff, Option.toList, ← Int.ofNat_tmod, ← Int.ofNat_tdiv, Nat.reduceLT, e1, e2, e3, e4, e5, e6, e7, e8, e9])) ?_
    simp -dsimp only [aqT0, ROp0, aqT, aqU, aqN, aqS, ↓seqK, ↓blkK, ↓loopK, step, stepBin, Nat.add_assoc nid, ↓reduceIte, Option.toList, ← Int.ofNat_tmod, ← Int.ofNat_tdiv, simprocAttr, BEq.rfl, LN_succ, e1, e2, e3, e4, e5, e6, e7, e8, e9, strmC_low]
    refine S2.intro (fun h9 => ?_) (fun h9 => ?_) <;> simp -dsimp only [aqT0, ROp0, aqT, aqU, aqN, aqS, ↓seqK, ↓blkK, ↓loopK, step, stepBin, Nat.add_assoc nid, ↓reduceIte, Option.toList, ← Int.ofNat_tmod, ← Int.ofNat_tdiv, simprocAttr, BEq.rfl, LN_succ, e1, e2, e3, e4, e5, e6, e7, e8, e9, strmC_low]
    · refine CallX.onE (oddI_c s _ nl A (q + 1) 1 100 (by omega) (by omega) hA (by omega) (by omega) (by omega)) (subH_get (by simp only [aqT, aqU, aqN, ↓seqK, ↓blkK, ↓loopK, step, stepBin, Nat.reduceBEq, Nat.reduceBeqDiff, Nat.add_assoc nid, Nat.reduceAdd, reduceCtorEq, ↓reduceIte, Nat.reduceLeDiff, Nat.reduceBneDiff, Option.toList, ← Int.ofNat_tmod, ← Int.ofNat_tdiv, Nat.reduceLT, e1, e2, e3, e4, e5, e6, e7, e8, e9])) (fun z hz => ?_)
      simp -dsimp only [aqT0, ROp0, aqT, aqU, aqN, aqS, ↓seqK, ↓blkK, ↓loopK, step, stepBin, Nat.add_assoc nid, ↓reduceIte, Option.toList, ← Int.ofNat_tmod, ← Int.ofNat_tdiv, simprocAttr, BEq.rfl, LN_succ, e1, e2, e3, e4, e5, e6, e7, e8, e9, strmC_low]
      refine EndOK.mk ((z, []), q + 1 + 2) ⟨by simp, fun r hr => by simp at hr, by simp only; omega, narrow_nil⟩ ?_
      refine RetOK.go [(nid, nid + 8)] [] (.inl rfl) ?_
      simp [a22, cvT, step, res, e1, e2, e3, e4, e5, e6, e7, e8, e9, strmC, arrS, -List.getD_eq_getElem?_getD]
    · skip
      refine EndOK.mk (((w : Int), []), q + 1) ⟨by simp, fun r hr => by simp at hr, by simp only; omega, narrow_nil⟩ ?_
      refine RetOK.go [(nid, nid + 8)] [] (.inl rfl) ?_
      simp [a22, cvT, step, res, e1, e2, e3, e4, e5, e6, e7, e8, e9, strmC, arrS, -List.getD_eq_getElem?_getD]
  refine S2.yes (by simp <;> omega) ?_
  simp -dsimp only [aqT0, ROp0, aqT, aqU, aqN, aqS, ↓seqK, ↓blkK, ↓loopK, step, stepBin, Nat.add_assoc nid, ↓reduceIte, Option.toList, ← Int.ofNat_tmod, ← Int.ofNat_tdiv, simprocAttr, BEq.rfl, LN_succ, e1, e2, e3, e4, e5, e6, e7, e8, e9, strmC_low]
  refine CallX.on (flip_c s _ nl A q 4 (by omega) (by omega) hA (by omega)) (subH_get (by simp only [aqT, aqU, aqN, ↓seqK, ↓blkK, ↓loopK, step, stepBin, Nat.reduceBEq, Nat.reduceBeqDiff, Nat.add_assoc nid, Nat.reduceAdd, reduceCtorEq, ↓reduceIte, Nat.reduceLeDiff, Nat.reduceBneDiff, Option.toList, ← Int.ofNat_tmod, ← Int.ofNat_tdiv, Nat.reduceLT, e1, e2, e3, e4, e5, e6, e7, e8, e9])) ?_
  simp -dsimp only [aqT0, ROp0, aqT, aqU, aqN, aqS, ↓seqK, ↓blkK, ↓loopK, step, stepBin, Nat.add_assoc nid, ↓reduceIte, Option.toList, ← Int.ofNat_tmod, ← Int.ofNat_tdiv, simprocAttr, BEq.rfl, LN_succ, e1, e2, e3, e4, e5, e6, e7, e8, e9, strmC_low]
  refine S2.intro (fun h3 => ?_) (fun h3 => ?_) <;> simp -dsimp only [aqT0, ROp0, aqT, aqU, aqN, aqS, ↓seqK, ↓blkK, ↓loopK, step, stepBin, Nat.add_assoc nid, ↓reduceIte, Option.toList, ← Int.ofNat_tmod, ← Int.ofNat_tdiv, simprocAttr, BEq.rfl, LN_succ, e1, e2, e3, e4, e5, e6, e7, e8, e9, strmC_low]
  · rw [getD_app1 x _ rfl]
    have hl : (x ++ [x.getD 0 []]).length = x.length + 1 := by simp
    have hS : ShortRows 6 (x ++ [x.getD 0 []]) := hR2.snoc (hat 0)
    refine ⟨by omega, by omega, ?_⟩
    generalize x ++ [x.getD 0 []] = y at *
    refine S2.yes (by simp <;> omega) ?_
    simp -dsimp only [aqT0, ROp0, aqT, aqU, aqN, aqS, ↓seqK, ↓blkK, ↓loopK, step, stepBin, Nat.add_assoc nid, ↓reduceIte, Option.toList, ← Int.ofNat_tmod, ← Int.ofNat_tdiv, simprocAttr, BEq.rfl, LN_succ, e1, e2, e3, e4, e5, e6, e7, e8, e9, strmC_low]
    refine CallX.on (flip_c s _ nl A (q + 1) 12 (by omega) (by omega) hA (by omega)) (subH_get (by simp only [aqT, aqU, aqN, ↓seqK, ↓blkK, ↓loopK, step, stepBin, Nat.reduceBEq, Nat.reduceBeqDiff, Nat.add_assoc nid, Nat.reduceAdd, reduceCtorEq, ↓reduceIte, Nat.reduceLeDiff, Nat.reduceBneDiff, Option.toList, ← Int.ofNat_tmod, ← Int.ofNat_tdiv, Nat.reduceLT, e1, e2, e3, e4, e5, e6, e7, e8, e9])) ?_
    simp -dsimp only [aqT0, ROp0, aqT, aqU, aqN, aqS, ↓seqK, ↓blkK, ↓loopK, step, stepBin, Nat.add_assoc nid, ↓reduceIte, Option.toList, ← Int.ofNat_tmod, ← Int.ofNat_tdiv, simprocAttr, BEq.rfl, LN_succ, e1, e2, e3, e4, e5, e6, e7, e8, e9, strmC_low]
    refine S2.intro (fun h4 => ?_) (fun h4 => ?_) <;> simp -dsimp only [aqT0, ROp0, aqT, aqU, aqN, aqS, ↓seqK, ↓blkK, ↓loopK, step, stepBin, Nat.add_assoc nid, ↓reduceIte, Option.toList, ← Int.ofNat_tmod, ← Int.ofNat_tdiv, simprocAttr, BEq.rfl, LN_succ, e1, e2, e3, e4, e5, e6, e7, e8, e9, strmC_low]
    · refine CallX.on (next_c s _ nl A (q + 1 + 1) _ (by omega) (by omega) hA (by omega)) (subH_get (by simp only [aqT, aqU, aqN, ↓seqK, ↓blkK, ↓loopK, step, stepBin, Nat.reduceBEq, Nat.reduceBeqDiff, Nat.add_assoc nid, Nat.reduceAdd, reduceCtorEq, ↓reduceIte, Nat.reduceLeDiff, Nat.reduceBneDiff, Option.toList, ← Int.ofNat_tmod, ← Int.ofNat_tdiv, Nat.reduceLT, e1, e2, e3, e4, e5, e6, e7, e8, e9])) ?_
      simp -dsimp only [aqT0, ROp0, aqT, aqU, aqN, aqS, ↓seqK, ↓blkK, ↓loopK, step, stepBin, Nat.add_assoc nid, ↓reduceIte, Option.toList, ← Int.ofNat_tmod, ← Int.ofNat_tdiv, simprocAttr, BEq.rfl, LN_succ, e1, e2, e3, e4, e5, e6, e7, e8, e9, strmC_low]
      have hI0 := nextV_bd A (q + 1 + 1) (n := ((x.length + 1) : Nat)) (by omega)
      obtain ⟨I, hI⟩ : ∃ I : Nat, nextV A (q + 1 + 1) (((x.length + 1) : Nat) : Int) = I := ⟨_, (Int.toNat_of_nonneg hI0.1).symm⟩
      rw [hI] at hI0 ⊢
      have hIR : I < y.length := by omega
      have hyI := hS.at I
      refine ⟨by omega, by unfold inI64; omega, ?_⟩
      refine CallX.onE (bitsX s _ nl A (q + 1 + 1 + 1) (w + 1) (by omega) (by omega) (by omega) hA) (subH_get (by simp only [aqT, aqU, aqN, ↓seqK, ↓blkK, ↓loopK, step, stepBin, Nat.reduceBEq, Nat.reduceBeqDiff, Nat.add_assoc nid, Nat.reduceAdd, reduceCtorEq, ↓reduceIte, Nat.reduceLeDiff, Nat.reduceBneDiff, Option.toList, ← Int.ofNat_tmod, ← Int.ofNat_tdiv, Nat.reduceLT, e1, e2, e3, e4, e5, e6, e7, e8, e9])) (fun t ht => ?_)
      simp -dsimp only [aqT0, ROp0, aqT, aqU, aqN, aqS, ↓seqK, ↓blkK, ↓loopK, step, stepBin, Nat.add_assoc nid, ↓reduceIte, Option.toList, ← Int.ofNat_tmod, ← Int.ofNat_tdiv, simprocAttr, BEq.rfl, LN_succ, e1, e2, e3, e4, e5, e6, e7, e8, e9, strmC_low]
      refine ⟨by omega, ?_⟩
      refine CallX.onE (changedX s _ nl A (q + 1 + 1 + 1 + (w + 1)) (y.getD I []) [50] (by omega) (by omega) (by simp) (by omega) hA) (subH_get (by simp only [aqT, aqU, aqN, ↓seqK, ↓blkK, ↓loopK, step, stepBin, Nat.reduceBEq, Nat.reduceBeqDiff, Nat.add_assoc nid, Nat.reduceAdd, reduceCtorEq, ↓reduceIte, Nat.reduceLeDiff, Nat.reduceBneDiff, Option.toList, ← Int.ofNat_tmod, ← Int.ofNat_tdiv, Nat.reduceLT, e1, e2, e3, e4, e5, e6, e7, e8, e9])) (fun c hc => ?_)
      obtain ⟨c, q3⟩ := c
      obtain ⟨hc1, hc2⟩ := hc
      simp only [List.length_cons, List.length_nil] at hc1 hc2
      simp -dsimp only [aqT0, ROp0, aqT, aqU, aqN, aqS, ↓seqK, ↓blkK, ↓loopK, step, stepBin, Nat.add_assoc nid, ↓reduceIte, Option.toList, ← Int.ofNat_tmod, ← Int.ofNat_tdiv, simprocAttr, BEq.rfl, LN_succ, e1, e2, e3, e4, e5, e6, e7, e8, e9, strmC_low]
      refine CallX.some_go (T := 9) (nl := nl) (A := A) (p := q3) (g := fun i => [y.getD I [], [], t, c].getD i []) (by simp only [aqT, aqU, aqN, ↓seqK, ↓blkK, ↓loopK, step, stepBin, Nat.reduceBEq, Nat.reduceBeqDiff, Nat.add_assoc nid, Nat.reduceAdd, reduceCtorEq, ↓reduceIte, Nat.reduceLeDiff, Nat.reduceBneDiff, Option.toList, ← Int.ofNat_tmod, ← Int.ofNat_tdiv, Nat.reduceLT, e1, e2, e3, e4, e5, e6, e7, e8, e9]) (by simp only [aqT, aqU, aqN, ↓seqK, ↓blkK, ↓loopK, step, stepBin, Nat.reduceBEq, Nat.reduceBeqDiff, Nat.add_assoc nid, Nat.reduceAdd, reduceCtorEq, ↓reduceIte, Nat.reduceLeDiff, Nat.reduceBneDiff, Option.toList, ← Int.ofNat_tmod, ← Int.ofNat_tdiv, Nat.reduceLT, e1, e2, e3, e4, e5, e6, e7, e8, e9]) (by simp only [aqT, aqU, aqN, ↓seqK, ↓blkK, ↓loopK, step, stepBin, Nat.reduceBEq, Nat.reduceBeqDiff, Nat.add_assoc nid, Nat.reduceAdd, reduceCtorEq, ↓reduceIte, Nat.reduceLeDiff, Nat.reduceBneDiff, Option.toList, ← Int.ofNat_tmod, ← Int.ofNat_tdiv, Nat.reduceLT, e1, e2, e3, e4, e5, e6, e7, e8, e9]) (by omega) (by omega) hA (by omega) (by omega) ?_
      simp -dsimp only [aqT0, ROp0, aqT, aqU, aqN, aqS, ↓seqK, ↓blkK, ↓loopK, step, stepBin, Nat.add_assoc nid, ↓reduceIte, Option.toList, ← Int.ofNat_tmod, ← Int.ofNat_tdiv, simprocAttr, BEq.rfl, LN_succ, e1, e2, e3, e4, e5, e6, e7, e8, e9, strmC_low]
      have hb := getD_all (P := fun x : List UInt8 => x.length ≤ 20) (l := [y.getD I [], [], t, c]) (d := []) (by intro x hx; simp only [List.mem_cons, List.not_mem_nil, or_false] at hx; rcases hx with rfl | rfl | rfl | rfl; omega; simp; omega; omega) (pickI_lt A q3 (n := 4) (by omega))
      generalize ([y.getD I [], [], t, c].getD (pickI A q3 4) [] : List UInt8) = b at hb ⊢
      have hna : Narrow (y.set I b) := narrow_set hS I b
      have hset : ShortRows 20 (y.set I b) := (hS.mono (by omega)).set I hb
      have hsl : (y.set I b).length = (x.length + 1) := by rw [List.length_set]; exact hl
      rw [getD_setS y _ hIR]
      refine ⟨by omega, ?_⟩
      generalize y.set I b = zz at *
      refine CallX.on (flip_c s _ nl A (q3 + 1) 20 (by omega) (by omega) hA (by omega)) (subH_get (by simp only [aqT, aqU, aqN, ↓seqK, ↓blkK, ↓loopK, step, stepBin, Nat.reduceBEq, Nat.reduceBeqDiff, Nat.add_assoc nid, Nat.reduceAdd, reduceCtorEq, ↓reduceIte, Nat.reduceLeDiff, Nat.reduceBneDiff, Option.toList, ← Int.ofNat_tmod, ← Int.ofNat_tdiv, Nat.reduceLT, e1, e2, e3, e4, e5, e6, e7, e8, e9])) ?_
      simp -dsimp only [aqT0, ROp0, aqT, aqU, aqN, aqS, ↓seqK, ↓blkK, ↓loopK, step, stepBin, Nat.add_assoc nid, ↓reduceIte, Option.toList, ← Int.ofNat_tmod, ← Int.ofNat_tdiv, simprocAttr, BEq.rfl, LN_succ, e1, e2, e3, e4, e5, e6, e7, e8, e9, strmC_low]
      refine S2.intro (fun h9 => ?_) (fun h9 => ?_) <;> simp -dsimp only [aqT0, ROp0, aqT, aqU, aqN, aqS, ↓seqK, ↓blkK, ↓loopK, step, stepBin, Nat.add_assoc nid, ↓reduceIte, Option.toList, ← Int.ofNat_tmod, ← Int.ofNat_tdiv, simprocAttr, BEq.rfl, LN_succ, e1, e2, e3, e4, e5, e6, e7, e8, e9, strmC_low]
      · refine CallX.onE (oddI_c s _ nl A (q3 + 1 + 1) 1 100 (by omega) (by omega) hA (by omega) (by omega) (by omega)) (subH_get (by simp only [aqT, aqU, aqN, ↓seqK, ↓blkK, ↓loopK, step, stepBin, Nat.reduceBEq, Nat.reduceBeqDiff, Nat.add_assoc nid, Nat.reduceAdd, reduceCtorEq, ↓reduceIte, Nat.reduceLeDiff, Nat.reduceBneDiff, Option.toList, ← Int.ofNat_tmod, ← Int.ofNat_tdiv, Nat.reduceLT, e1, e2, e3, e4, e5, e6, e7, e8, e9])) (fun z hz => ?_)
        simp -dsimp only [aqT0, ROp0, aqT, aqU, aqN, aqS, ↓seqK, ↓blkK, ↓loopK, step, stepBin, Nat.add_assoc nid, ↓reduceIte, Option.toList, ← Int.ofNat_tmod, ← Int.ofNat_tdiv, simprocAttr, BEq.rfl, LN_succ, e1, e2, e3, e4, e5, e6, e7, e8, e9, strmC_low]
        refine EndOK.mk ((z, zz), q3 + 1 + 1 + 2) ⟨by simp only; omega, hset, by simp only; omega, hna⟩ ?_
        refine RetOK.go [(nid, nid + 252)] [] (.inl rfl) ?_
        simp [a22, cvT, step, res, e1, e2, e3, e4, e5, e6, e7, e8, e9, strmC, arrS, hsl, -List.getD_eq_getElem?_getD]
      · skip
        refine EndOK.mk (((w : Int), zz), q3 + 1 + 1) ⟨by simp only; omega, hset, by simp only; omega, hna⟩ ?_
        refine RetOK.go [(nid, nid + 252)] [] (.inl rfl) ?_
        simp [a22, cvT, step, res, e1, e2, e3, e4, e5, e6, e7, e8, e9, strmC, arrS, hsl, -List.getD_eq_getElem?_getD]
    · skip
      refine CallX.on (flip_c s _ nl A (q + 1 + 1) 20 (by omega) (by omega) hA (by omega)) (subH_get (by simp only [aqT, aqU, aqN, ↓seqK, ↓blkK, ↓loopK, step, stepBin, Nat.reduceBEq, Nat.reduceBeqDiff, Nat.add_assoc nid, Nat.reduceAdd, reduceCtorEq, ↓reduceIte, Nat.reduceLeDiff, Nat.reduceBneDiff, Option.toList, ← Int.ofNat_tmod, ← Int.ofNat_tdiv, Nat.reduceLT, e1, e2, e3, e4, e5, e6, e7, e8, e9])) ?_
      simp -dsimp only [aqT0, ROp0, aqT, aqU, aqN, aqS, ↓seqK, ↓blkK, ↓loopK, step, stepBin, Nat.add_assoc nid, ↓reduceIte, Option.toList, ← Int.ofNat_tmod, ← Int.ofNat_tdiv, simprocAttr, BEq.rfl, LN_succ, e1, e2, e3, e4, e5, e6, e7, e8, e9, strmC_low]
      refine S2.intro (fun h9 => ?_) (fun h9 => ?_) <;> simp -dsimp only [aqT0, ROp0, aqT, aqU, aqN, aqS, ↓seqK, ↓blkK, ↓loopK, step, stepBin, Nat.add_assoc nid, ↓reduceIte, Option.toList, ← Int.ofNat_tmod, ← Int.ofNat_tdiv, simprocAttr, BEq.rfl, LN_succ, e1, e2, e3, e4, e5, e6, e7, e8, e9, strmC_low]
      · refine CallX.onE (oddI_c s _ nl A (q + 1 + 1 + 1) 1 100 (by omega) (by omega) hA (by omega) (by omega) (by omega)) (subH_get (by simp only [aqT, aqU, aqN, ↓seqK, ↓blkK, ↓loopK, step, stepBin, Nat.reduceBEq, Nat.reduceBeqDiff, Nat.add_assoc nid, Nat.reduceAdd, reduceCtorEq, ↓reduceIte, Nat.reduceLeDiff, Nat.reduceBneDiff, Option.toList, ← Int.ofNat_tmod, ← Int.ofNat_tdiv, Nat.reduceLT, e1, e2, e3, e4, e5, e6, e7, e8, e9])) (fun z hz => ?_)
        simp -dsimp only [aqT0, ROp0, aqT, aqU, aqN, aqS, ↓seqK, ↓blkK, ↓loopK, step, stepBin, Nat.add_assoc nid, ↓reduceIte, Option.toList, ← Int.ofNat_tmod, ← Int.ofNat_tdiv, simprocAttr, BEq.rfl, LN_succ, e1, e2, e3, e4, e5, e6, e7, e8, e9, strmC_low]
        refine EndOK.mk ((z, y), q + 1 + 1 + 1 + 2) ⟨by simp only; omega, hS.mono (by omega), by simp only; omega, narrow_short hS⟩ ?_
        refine RetOK.go [(nid, nid + 252)] [] (.inl rfl) ?_
        simp [a22, cvT, step, res, e1, e2, e3, e4, e5, e6, e7, e8, e9, strmC, arrS, hl, -List.getD_eq_getElem?_getD]
      · skip
        refine EndOK.mk (((w : Int), y), q + 1 + 1 + 1) ⟨by simp only; omega, hS.mono (by omega), by simp only; omega, narrow_short hS⟩ ?_
        refine RetOK.go [(nid, nid + 252)] [] (.inl rfl) ?_
        simp [a22, cvT, step, res, e1, e2, e3, e4, e5, e6, e7, e8, e9, strmC, arrS, hl, -List.getD_eq_getElem?_getD]
  · skip
    refine S2.yes (by simp <;> omega) ?_
    simp -dsimp only [aqT0, ROp0, aqT, aqU, aqN, aqS, ↓seqK, ↓blkK, ↓loopK, step, stepBin, Nat.add_assoc nid, ↓reduceIte, Option.toList, ← Int.ofNat_tmod, ← Int.ofNat_tdiv, simprocAttr, BEq.rfl, LN_succ, e1, e2, e3, e4, e5, e6, e7, e8, e9, strmC_low]
    refine CallX.on (flip_c s _ nl A (q + 1) 12 (by omega) (by omega) hA (by omega)) (subH_get (by simp only [aqT, aqU, aqN, ↓seqK, ↓blkK, ↓loopK, step, stepBin, Nat.reduceBEq, Nat.reduceBeqDiff, Nat.add_assoc nid, Nat.reduceAdd, reduceCtorEq, ↓reduceIte, Nat.reduceLeDiff, Nat.reduceBneDiff, Option.toList, ← Int.ofNat_tmod, ← Int.ofNat_tdiv, Nat.reduceLT, e1, e2, e3, e4, e5, e6, e7, e8, e9])) ?_
    simp -dsimp only [aqT0, ROp0, aqT, aqU, aqN, aqS, ↓seqK, ↓blkK, ↓loopK, step, stepBin, Nat.add_assoc nid, ↓reduceIte, Option.toList, ← Int.ofNat_tmod, ← Int.ofNat_tdiv, simprocAttr, BEq.rfl, LN_succ, e1, e2, e3, e4, e5, e6, e7, e8, e9, strmC_low]
    refine S2.intro (fun h4 => ?_) (fun h4 => ?_) <;> simp -dsimp only [aqT0, ROp0, aqT, aqU, aqN, aqS, ↓seqK, ↓blkK, ↓loopK, step, stepBin, Nat.add_assoc nid, ↓reduceIte, Option.toList, ← Int.ofNat_tmod, ← Int.ofNat_tdiv, simprocAttr, BEq.rfl, LN_succ, e1, e2, e3, e4, e5, e6, e7, e8, e9, strmC_low]
    · refine CallX.on (next_c s _ nl A (q + 1 + 1) _ (by omega) (by omega) hA (by omega)) (subH_get (by simp only [aqT, aqU, aqN, ↓seqK, ↓blkK, ↓loopK, step, stepBin, Nat.reduceBEq, Nat.reduceBeqDiff, Nat.add_assoc nid, Nat.reduceAdd, reduceCtorEq, ↓reduceIte, Nat.reduceLeDiff, Nat.reduceBneDiff, Option.toList, ← Int.ofNat_tmod, ← Int.ofNat_tdiv, Nat.reduceLT, e1, e2, e3, e4, e5, e6, e7, e8, e9])) ?_
      simp -dsimp only [aqT0, ROp0, aqT, aqU, aqN, aqS, ↓seqK, ↓blkK, ↓loopK, step, stepBin, Nat.add_assoc nid, ↓reduceIte, Option.toList, ← Int.ofNat_tmod, ← Int.ofNat_tdiv, simprocAttr, BEq.rfl, LN_succ, e1, e2, e3, e4, e5, e6, e7, e8, e9, strmC_low]
      have hI0 := nextV_bd A (q + 1 + 1) (n := (x.length : Nat)) (by omega)
      obtain ⟨I, hI⟩ : ∃ I : Nat, nextV A (q + 1 + 1) ((x.length : Nat) : Int) = I := ⟨_, (Int.toNat_of_nonneg hI0.1).symm⟩
      rw [hI] at hI0 ⊢
      have hIR : I < x.length := by omega
      have hyI := hR2.at I
      refine ⟨by omega, by unfold inI64; omega, ?_⟩
      refine CallX.onE (bitsX s _ nl A (q + 1 + 1 + 1) (w + 1) (by omega) (by omega) (by omega) hA) (subH_get (by simp only [aqT, aqU, aqN, ↓seqK, ↓blkK, ↓loopK, step, stepBin, Nat.reduceBEq, Nat.reduceBeqDiff, Nat.add_assoc nid, Nat.reduceAdd, reduceCtorEq, ↓reduceIte, Nat.reduceLeDiff, Nat.reduceBneDiff, Option.toList, ← Int.ofNat_tmod, ← Int.ofNat_tdiv, Nat.reduceLT, e1, e2, e3, e4, e5, e6, e7, e8, e9])) (fun t ht => ?_)
      simp -dsimp only [aqT0, ROp0, aqT, aqU, aqN, aqS, ↓seqK, ↓blkK, ↓loopK, step, stepBin, Nat.add_assoc nid, ↓reduceIte, Option.toList, ← Int.ofNat_tmod, ← Int.ofNat_tdiv, simprocAttr, BEq.rfl, LN_succ, e1, e2, e3, e4, e5, e6, e7, e8, e9, strmC_low]
      refine ⟨by omega, ?_⟩
      refine CallX.onE (changedX s _ nl A (q + 1 + 1 + 1 + (w + 1)) (x.getD I []) [50] (by omega) (by omega) (by simp) (by omega) hA) (subH_get (by simp only [aqT, aqU, aqN, ↓seqK, ↓blkK, ↓loopK, step, stepBin, Nat.reduceBEq, Nat.reduceBeqDiff, Nat.add_assoc nid, Nat.reduceAdd, reduceCtorEq, ↓reduceIte, Nat.reduceLeDiff, Nat.reduceBneDiff, Option.toList, ← Int.ofNat_tmod, ← Int.ofNat_tdiv, Nat.reduceLT, e1, e2, e3, e4, e5, e6, e7, e8, e9])) (fun c hc => ?_)
      obtain ⟨c, q3⟩ := c
      obtain ⟨hc1, hc2⟩ := hc
      simp only [List.length_cons, List.length_nil] at hc1 hc2
      simp -dsimp only [aqT0, ROp0, aqT, aqU, aqN, aqS, ↓seqK, ↓blkK, ↓loopK, step, stepBin, Nat.add_assoc nid, ↓reduceIte, Option.toList, ← Int.ofNat_tmod, ← Int.ofNat_tdiv, simprocAttr, BEq.rfl, LN_succ, e1, e2, e3, e4, e5, e6, e7, e8, e9, strmC_low]
      refine CallX.some_go (T := 9) (nl := nl) (A := A) (p := q3) (g := fun i => [x.getD I [], [], t, c].getD i []) (by simp only [aqT, aqU, aqN, ↓seqK, ↓blkK, ↓loopK, step, stepBin, Nat.reduceBEq, Nat.reduceBeqDiff, Nat.add_assoc nid, Nat.reduceAdd, reduceCtorEq, ↓reduceIte, Nat.reduceLeDiff, Nat.reduceBneDiff, Option.toList, ← Int.ofNat_tmod, ← Int.ofNat_tdiv, Nat.reduceLT, e1, e2, e3, e4, e5, e6, e7, e8, e9]) (by simp only [aqT, aqU, aqN, ↓seqK, ↓blkK, ↓loopK, step, stepBin, Nat.reduceBEq, Nat.reduceBeqDiff, Nat.add_assoc nid, Nat.reduceAdd, reduceCtorEq, ↓reduceIte, Nat.reduceLeDiff, Nat.reduceBneDiff, Option.toList, ← Int.ofNat_tmod, ← Int.ofNat_tdiv, Nat.reduceLT, e1, e2, e3, e4, e5, e6, e7, e8, e9]) (by simp only [aqT, aqU, aqN, ↓seqK, ↓blkK, ↓loopK, step, stepBin, Nat.reduceBEq, Nat.reduceBeqDiff, Nat.add_assoc nid, Nat.reduceAdd, reduceCtorEq, ↓reduceIte, Nat.reduceLeDiff, Nat.reduceBneDiff, Option.toList, ← Int.ofNat_tmod, ← Int.ofNat_tdiv, Nat.reduceLT, e1, e2, e3, e4, e5, e6, e7, e8, e9]) (by omega) (by omega) hA (by omega) (by omega) ?_
      simp -dsimp only [aqT0, ROp0, aqT, aqU, aqN, aqS, ↓seqK, ↓blkK, ↓loopK, step, stepBin, Nat.add_assoc nid, ↓reduceIte, Option.toList, ← Int.ofNat_tmod, ← Int.ofNat_tdiv, simprocAttr, BEq.rfl, LN_succ, e1, e2, e3, e4, e5, e6, e7, e8, e9, strmC_low]
      have hb := getD_all (P := fun x : List UInt8 => x.length ≤ 20) (l := [x.getD I [], [], t, c]) (d := []) (by intro x hx; simp only [List.mem_cons, List.not_mem_nil, or_false] at hx; rcases hx with rfl | rfl | rfl | rfl; omega; simp; omega; omega) (pickI_lt A q3 (n := 4) (by omega))
      generalize ([x.getD I [], [], t, c].getD (pickI A q3 4) [] : List UInt8) = b at hb ⊢
      have hna : Narrow (x.set I b) := narrow_set hR2 I b
      have hset : ShortRows 20 (x.set I b) := (hR2.mono (by omega)).set I hb
      have hsl : (x.set I b).length = x.length := by rw [List.length_set]
      rw [getD_setS x _ hIR]
      refine ⟨by omega, ?_⟩
      generalize x.set I b = zz at *
      refine CallX.on (flip_c s _ nl A (q3 + 1) 20 (by omega) (by omega) hA (by omega)) (subH_get (by simp only [aqT, aqU, aqN, ↓seqK, ↓blkK, ↓loopK, step, stepBin, Nat.reduceBEq, Nat.reduceBeqDiff, Nat.add_assoc nid, Nat.reduceAdd, reduceCtorEq, ↓reduceIte, Nat.reduceLeDiff, Nat.reduceBneDiff, Option.toList, ← Int.ofNat_tmod, ← Int.ofNat_tdiv, Nat.reduceLT, e1, e2, e3, e4, e5, e6, e7, e8, e9])) ?_
      simp -dsimp only [aqT0, ROp0, aqT, aqU, aqN, aqS, ↓seqK, ↓blkK, ↓loopK, step, stepBin, Nat.add_assoc nid, ↓reduceIte, Option.toList, ← Int.ofNat_tmod, ← Int.ofNat_tdiv, simprocAttr, BEq.rfl, LN_succ, e1, e2, e3, e4, e5, e6, e7, e8, e9, strmC_low]
      refine S2.intro (fun h9 => ?_) (fun h9 => ?_) <;> simp -dsimp only [aqT0, ROp0, aqT, aqU, aqN, aqS, ↓seqK, ↓blkK, ↓loopK, step, stepBin, Nat.add_assoc nid, ↓reduceIte, Option.toList, ← Int.ofNat_tmod, ← Int.ofNat_tdiv, simprocAttr, BEq.rfl, LN_succ, e1, e2, e3, e4, e5, e6, e7, e8, e9, strmC_low]
      · refine CallX.onE (oddI_c s _ nl A (q3 + 1 + 1) 1 100 (by omega) (by omega) hA (by omega) (by omega) (by omega)) (subH_get (by simp only [aqT, aqU, aqN, ↓seqK, ↓blkK, ↓loopK, step, stepBin, Nat.reduceBEq, Nat.reduceBeqDiff, Nat.add_assoc nid, Nat.reduceAdd, reduceCtorEq, ↓reduceIte, Nat.reduceLeDiff, Nat.reduceBneDiff, Option.toList, ← Int.ofNat_tmod, ← Int.ofNat_tdiv, Nat.reduceLT, e1, e2, e3, e4, e5, e6, e7, e8, e9])) (fun z hz => ?_)
        simp -dsimp only [aqT0, ROp0, aqT, aqU, aqN, aqS, ↓seqK, ↓blkK, ↓loopK, step, stepBin, Nat.add_assoc nid, ↓reduceIte, Option.toList, ← Int.ofNat_tmod, ← Int.ofNat_tdiv, simprocAttr, BEq.rfl, LN_succ, e1, e2, e3, e4, e5, e6, e7, e8, e9, strmC_low]
        refine EndOK.mk ((z, zz), q3 + 1 + 1 + 2) ⟨by simp only; omega, hset, by simp only; omega, hna⟩ ?_
        refine RetOK.go [(nid, nid + 8)] [] (.inl rfl) ?_
        simp [a22, cvT, step, res, e1, e2, e3, e4, e5, e6, e7, e8, e9, strmC, arrS, hsl, -List.getD_eq_getElem?_getD]
      · skip
        refine EndOK.mk (((w : Int), zz), q3 + 1 + 1) ⟨by simp only; omega, hset, by simp only; omega, hna⟩ ?_
        refine RetOK.go [(nid, nid + 8)] [] (.inl rfl) ?_
        simp [a22, cvT, step, res, e1, e2, e3, e4, e5, e6, e7, e8, e9, strmC, arrS, hsl, -List.getD_eq_getElem?_getD]
    · skip
      refine CallX.on (flip_c s _ nl A (q + 1 + 1) 20 (by omega) (by omega) hA (by omega)) (subH_get (by simp only [aqT, aqU, aqN, ↓seqK, ↓blkK, ↓loopK, step, stepBin, Nat.reduceBEq, Nat.reduceBeqDiff, Nat.add_assoc nid, Nat.reduceAdd, reduceCtorEq, ↓reduceIte, Nat.reduceLeDiff, Nat.reduceBneDiff, Option.toList, ← Int.ofNat_tmod, ← Int.ofNat_tdiv, Nat.reduceLT, e1, e2, e3, e4, e5, e6, e7, e8, e9])) ?_
      simp -dsimp only [aqT0, ROp0, aqT, aqU, aqN, aqS, ↓seqK, ↓blkK, ↓loopK, step, stepBin, Nat.add_assoc nid, ↓reduceIte, Option.toList, ← Int.ofNat_tmod, ← Int.ofNat_tdiv, simprocAttr, BEq.rfl, LN_succ, e1, e2, e3, e4, e5, e6, e7, e8, e9, strmC_low]
      refine S2.intro (fun h9 => ?_) (fun h9 => ?_) <;> simp -dsimp only [aqT0, ROp0, aqT, aqU, aqN, aqS, ↓seqK, ↓blkK, ↓loopK, step, stepBin, Nat.add_assoc nid, ↓reduceIte, Option.toList, ← Int.ofNat_tmod, ← Int.ofNat_tdiv, simprocAttr, BEq.rfl, LN_succ, e1, e2, e3, e4, e5, e6, e7, e8, e9, strmC_low]
      · refine CallX.onE (oddI_c s _ nl A (q + 1 + 1 + 1) 1 100 (by omega) (by omega) hA (by omega) (by omega) (by omega)) (subH_get (by simp only [aqT, aqU, aqN, ↓seqK, ↓blkK, ↓loopK, step, stepBin, Nat.reduceBEq, Nat.reduceBeqDiff, Nat.add_assoc nid, Nat.reduceAdd, reduceCtorEq, ↓reduceIte, Nat.reduceLeDiff, Nat.reduceBneDiff, Option.toList, ← Int.ofNat_tmod, ← Int.ofNat_tdiv, Nat.reduceLT, e1, e2, e3, e4, e5, e6, e7, e8, e9])) (fun z hz => ?_)
        simp -dsimp only [aqT0, ROp0, aqT, aqU, aqN, aqS, ↓seqK, ↓blkK, ↓loopK, step, stepBin, Nat.add_assoc nid, ↓reduceIte, Option.toList, ← Int.ofNat_tmod, ← Int.ofNat_tdiv, simprocAttr, BEq.rfl, LN_succ, e1, e2, e3, e4, e5, e6, e7, e8, e9, strmC_low]
        refine EndOK.mk ((z, x), q + 1 + 1 + 1 + 2) ⟨by simp only; omega, hR2.mono (by omega), by simp only; omega, narrow_short hR2⟩ ?_
        refine RetOK.go [(nid, nid + 8)] [] (.inl rfl) ?_
        simp [a22, cvT, step, res, e1, e2, e3, e4, e5, e6, e7, e8, e9, strmC, arrS, -List.getD_eq_getElem?_getD]
      · skip
        refine EndOK.mk (((w : Int), x), q + 1 + 1 + 1) ⟨by simp only; omega, hR2.mono (by omega), by simp only; omega, narrow_short hR2⟩ ?_
        refine RetOK.go [(nid, nid + 8)] [] (.inl rfl) ?_
        simp [a22, cvT, step, res, e1, e2, e3, e4, e5, e6, e7, e8, e9, strmC, arrS, -List.getD_eq_getElem?_getD]
end Go.Proofs.YthcldfmlfjomfaaDoor
namespace Go.Proofs.YthcldfmlfjomfaaDoor
open Go.RowKit
end Go.Proofs.YthcldfmlfjomfaaDoor
namespace Go.Proofs.YthcldfmlfjomfaaDoor
open Go.RowKit
end Go.Proofs.YthcldfmlfjomfaaDoor
namespace Go.Proofs.YthcldfmlfjomfaaDoor
open Go.RowKit
end Go.Proofs.YthcldfmlfjomfaaDoor
namespace Go.Proofs.YthcldfmlfjomfaaDoor
open Go.RowKit
theorem enough_c (id : Nat) (k v : Int) (b : Bool) (hk : (k = 0 ∧ v = 1 ∧ b = false) ∨ (k = 1 ∧ v = 2 ∧ b = false) ∨ (k = 2 ∧ v = 4 ∧ b = false) ∨ (k = 3 ∧ v = 8 ∧ b = true)) (nid : Nat) (h : id < nid) :
    ACall Tryd.prog 80 [.int .i64 k, .ptr id 0] [(id, some (.box 3 [.int .i64 3]))] nid (.bool b) [] := by
  obtain ⟨e1, e2, e3, e4, e5, e6, e7, e8, e9⟩ := id_all h
  have hv : IntKind.i64.wrap (1 * 2 ^ (min k.toNat IntKind.i64.bits)) = v ∧ 0 ≤ k ∧ inI64 (v - 2) ∧ decide (3 ≤ v - 2) = b := by
    rcases hk with ⟨rfl, rfl, rfl⟩ | ⟨rfl, rfl, rfl⟩ | ⟨rfl, rfl, rfl⟩ | ⟨rfl, rfl, rfl⟩ <;> exact ⟨by decide, by decide, by unfold inI64; omega, by decide⟩
  obtain ⟨h1, h2, h3, h4⟩ := hv
  refine acall_run c80 (by simp [a80]) ?_
  simp -dsimp only [a80, aqT, aqU, aqN, ↓seqK, ↓blkK, ↓loopK, step, stepBin, Nat.reduceBEq, Nat.reduceBeqDiff, Nat.add_assoc nid, Nat.reduceAdd, reduceCtorEq, ↓reduceIte, Nat.reduceLeDiff, Nat.reduceBneDiff, Option.toList, ← Int.ofNat_tmod, ← Int.ofNat_tdiv, Nat.reduceLT, e1, e2, e3, e4, e5, e6, e7, e8, e9, h1, h4]
  refine ⟨h2, h3, RetOK.same (.inl rfl) rfl ?_ ?_ ?_⟩ <;> simp [cvT, step, res, e1, e2, e3, e4, e5, e6, e7, e8, e9]
theorem least_c (id nid : Nat) (h : id < nid) : ACall Tryd.prog 79 [.int .i64 0, .fn 80 [.ptr id 0]] [(id, some (.box 3 [.int .i64 3]))] nid (.int .i64 3) [] := by
  obtain ⟨e1, e2, e3, e4, e5, e6, e7, e8, e9⟩ := id_all h
  refine acall_run c79 (by simp [a79]) ?_
  simp -dsimp only [a79, aqT, aqU, aqN, ↓seqK, ↓blkK, ↓loopK, step, stepBin, Nat.reduceBEq, Nat.reduceBeqDiff, Nat.add_assoc nid, Nat.reduceAdd, reduceCtorEq, ↓reduceIte, Nat.reduceLeDiff, Nat.reduceBneDiff, Option.toList, ← Int.ofNat_tmod, ← Int.ofNat_tdiv, Nat.reduceLT, e1, e2, e3, e4, e5, e6, e7, e8, e9]
  refine LP.rounds 5 ?_
  simp -dsimp only [aqT, aqU, aqN, ↓seqK, ↓blkK, ↓loopK, step, stepBin, Nat.reduceBEq, Nat.reduceBeqDiff, Nat.add_assoc nid, Nat.reduceAdd, reduceCtorEq, ↓reduceIte, Nat.reduceLeDiff, Nat.reduceBneDiff, Option.toList, ← Int.ofNat_tmod, ← Int.ofNat_tdiv, Nat.reduceLT, Int.cast_ofNat_Int, Int.reduceBEq, Int.reduceBNe, Int.reduceLT, Int.reduceLE, Int.reduceAdd, Int.reduceSub, Int.reduceMul, Int.reduceToNat, Int.reduceNeg, Int.reduceTMod, Int.reduceEq, not_false_eq_true, Int.reducePow, Int.reduceFDiv, Nat.reducePow, Nat.reduceSub, Nat.reduceMul, Nat.min_eq_left, Nat.reduceEqDiff, BEq.rfl, Int.tdiv_one, LN_succ, e1, e2, e3, e4, e5, e6, e7, e8, e9]
  refine CallO.on (enough_c id 0 1 false (by simp) _ (by omega)) (subH_get (by simp only [aqT, aqU, aqN, ↓seqK, ↓blkK, ↓loopK, step, stepBin, Nat.reduceBEq, Nat.reduceBeqDiff, Nat.add_assoc nid, Nat.reduceAdd, reduceCtorEq, ↓reduceIte, Nat.reduceLeDiff, Nat.reduceBneDiff, Option.toList, ← Int.ofNat_tmod, ← Int.ofNat_tdiv, Nat.reduceLT, e1, e2, e3, e4, e5, e6, e7, e8, e9])) ?_
  simp -dsimp only [aqT, aqU, aqN, ↓seqK, ↓blkK, ↓loopK, step, stepBin, Nat.reduceBEq, Nat.reduceBeqDiff, Nat.add_assoc nid, Nat.reduceAdd, reduceCtorEq, ↓reduceIte, Nat.reduceLeDiff, Nat.reduceBneDiff, Option.toList, ← Int.ofNat_tmod, ← Int.ofNat_tdiv, Nat.reduceLT, Int.cast_ofNat_Int, Int.reduceBEq, Int.reduceBNe, Int.reduceLT, Int.reduceLE, Int.reduceAdd, Int.reduceSub, Int.reduceMul, Int.reduceToNat, Int.reduceNeg, Int.reduceTMod, Int.reduceEq, not_false_eq_true, Int.reducePow, Int.reduceFDiv, Nat.reducePow, Nat.reduceSub, Nat.reduceMul, Nat.min_eq_left, Nat.reduceEqDiff, BEq.rfl, Int.tdiv_one, LN_succ, e1, e2, e3, e4, e5, e6, e7, e8, e9]
  refine ⟨by unfold inI64; omega, CallO.on (enough_c id 1 2 false (by simp) _ (by omega)) (subH_get (by simp only [aqT, aqU, aqN, ↓seqK, ↓blkK, ↓loopK, step, stepBin, Nat.reduceBEq, Nat.reduceBeqDiff, Nat.add_assoc nid, Nat.reduceAdd, reduceCtorEq, ↓reduceIte, Nat.reduceLeDiff, Nat.reduceBneDiff, Option.toList, ← Int.ofNat_tmod, ← Int.ofNat_tdiv, Nat.reduceLT, e1, e2, e3, e4, e5, e6, e7, e8, e9])) ?_⟩
  simp -dsimp only [aqT, aqU, aqN, ↓seqK, ↓blkK, ↓loopK, step, stepBin, Nat.reduceBEq, Nat.reduceBeqDiff, Nat.add_assoc nid, Nat.reduceAdd, reduceCtorEq, ↓reduceIte, Nat.reduceLeDiff, Nat.reduceBneDiff, Option.toList, ← Int.ofNat_tmod, ← Int.ofNat_tdiv, Nat.reduceLT, Int.cast_ofNat_Int, Int.reduceBEq, Int.reduceBNe, Int.reduceLT, Int.reduceLE, Int.reduceAdd, Int.reduceSub, Int.reduceMul, Int.reduceToNat, Int.reduceNeg, Int.reduceTMod, Int.reduceEq, not_false_eq_true, Int.reducePow, Int.reduceFDiv, Nat.reducePow, Nat.reduceSub, Nat.reduceMul, Nat.min_eq_left, Nat.reduceEqDiff, BEq.rfl, Int.tdiv_one, LN_succ, e1, e2, e3, e4, e5, e6, e7, e8, e9]
  refine ⟨by unfold inI64; omega, CallO.on (enough_c id 2 4 false (by simp) _ (by omega)) (subH_get (by simp only [aqT, aqU, aqN, ↓seqK, ↓blkK, ↓loopK, step, stepBin, Nat.reduceBEq, Nat.reduceBeqDiff, Nat.add_assoc nid, Nat.reduceAdd, reduceCtorEq, ↓reduceIte, Nat.reduceLeDiff, Nat.reduceBneDiff, Option.toList, ← Int.ofNat_tmod, ← Int.ofNat_tdiv, Nat.reduceLT, e1, e2, e3, e4, e5, e6, e7, e8, e9])) ?_⟩
  simp -dsimp only [aqT, aqU, aqN, ↓seqK, ↓blkK, ↓loopK, step, stepBin, Nat.reduceBEq, Nat.reduceBeqDiff, Nat.add_assoc nid, Nat.reduceAdd, reduceCtorEq, ↓reduceIte, Nat.reduceLeDiff, Nat.reduceBneDiff, Option.toList, ← Int.ofNat_tmod, ← Int.ofNat_tdiv, Nat.reduceLT, Int.cast_ofNat_Int, Int.reduceBEq, Int.reduceBNe, Int.reduceLT, Int.reduceLE, Int.reduceAdd, Int.reduceSub, Int.reduceMul, Int.reduceToNat, Int.reduceNeg, Int.reduceTMod, Int.reduceEq, not_false_eq_true, Int.reducePow, Int.reduceFDiv, Nat.reducePow, Nat.reduceSub, Nat.reduceMul, Nat.min_eq_left, Nat.reduceEqDiff, BEq.rfl, Int.tdiv_one, LN_succ, e1, e2, e3, e4, e5, e6, e7, e8, e9]
  refine ⟨by unfold inI64; omega, CallO.on (enough_c id 3 8 true (by simp) _ (by omega)) (subH_get (by simp only [aqT, aqU, aqN, ↓seqK, ↓blkK, ↓loopK, step, stepBin, Nat.reduceBEq, Nat.reduceBeqDiff, Nat.add_assoc nid, Nat.reduceAdd, reduceCtorEq, ↓reduceIte, Nat.reduceLeDiff, Nat.reduceBneDiff, Option.toList, ← Int.ofNat_tmod, ← Int.ofNat_tdiv, Nat.reduceLT, e1, e2, e3, e4, e5, e6, e7, e8, e9])) ?_⟩
  simp -dsimp only [aqT, aqU, aqN, ↓seqK, ↓blkK, ↓loopK, step, stepBin, Nat.reduceBEq, Nat.reduceBeqDiff, Nat.add_assoc nid, Nat.reduceAdd, reduceCtorEq, ↓reduceIte, Nat.reduceLeDiff, Nat.reduceBneDiff, Option.toList, ← Int.ofNat_tmod, ← Int.ofNat_tdiv, Nat.reduceLT, Int.cast_ofNat_Int, Int.reduceBEq, Int.reduceBNe, Int.reduceLT, Int.reduceLE, Int.reduceAdd, Int.reduceSub, Int.reduceMul, Int.reduceToNat, Int.reduceNeg, Int.reduceTMod, Int.reduceEq, not_false_eq_true, Int.reducePow, Int.reduceFDiv, Nat.reducePow, Nat.reduceSub, Nat.reduceMul, Nat.min_eq_left, Nat.reduceEqDiff, BEq.rfl, Int.tdiv_one, LN_succ, e1, e2, e3, e4, e5, e6, e7, e8, e9]
  refine RetOK.same (.inl rfl) rfl ?_ ?_ ?_ <;> simp [cvT, step, res, e1, e2, e3, e4, e5, e6, e7, e8, e9]
def bitW (x : Int) (j : Nat) : Int := IntKind.i64.wrap ((BitVec.ofInt IntKind.i64.bits (x.fdiv (2 ^ min j IntKind.i64.bits)) &&& BitVec.ofInt IntKind.i64.bits 1).toNat : Int)
theorem number_c (x b2 b1 b0 : Int) (s : List UInt8) (h2 : bitW x 2 = b2) (h1 : bitW x 1 = b1) (h0 : bitW x 0 = b0) (hb : (0 ≤ b2 ∧ b2 ≤ 1) ∧ (0 ≤ b1 ∧ b1 ≤ 1) ∧ (0 ≤ b0 ∧ b0 ≤ 1))
    (hs : s = [UInt8.ofNat (IntKind.u8.wrap (48 + b2)).toNat, UInt8.ofNat (IntKind.u8.wrap (48 + b1)).toNat, UInt8.ofNat (IntKind.u8.wrap (48 + b0)).toNat]) (nid : Nat) :
    ACall Tryd.prog 81 [.int .i64 x, .int .i64 3] [] nid (.str s) [] := by
  unfold bitW at h2 h1 h0
  refine acall_run c81 (by simp [a81]) ?_
  simp -dsimp only [a81, aqT, aqU, aqN, ↓seqK, ↓blkK, ↓loopK, step, stepBin, Nat.reduceBEq, Nat.reduceBeqDiff, Nat.add_assoc nid, Nat.reduceAdd, reduceCtorEq, ↓reduceIte, Nat.reduceLeDiff, Nat.reduceBneDiff, Option.toList, ← Int.ofNat_tmod, ← Int.ofNat_tdiv, Nat.reduceLT, Int.cast_ofNat_Int, Int.reduceBEq, Int.reduceBNe, Int.reduceLT, Int.reduceLE, Int.reduceAdd, Int.reduceSub, Int.reduceMul, Int.reduceToNat, Int.reduceNeg, Int.reduceTMod, Int.reduceEq, not_false_eq_true, Int.reducePow, Int.reduceFDiv, Nat.reducePow, Nat.reduceSub, Nat.reduceMul, Nat.min_eq_left, Nat.reduceEqDiff, BEq.rfl, Int.tdiv_one, LN_succ]
  refine ⟨by unfold inI64; omega, LP.rounds 5 ?_⟩
  simp -dsimp only [aqT, aqU, aqN, ↓seqK, ↓blkK, ↓loopK, step, stepBin, Nat.reduceBEq, Nat.reduceBeqDiff, Nat.add_assoc nid, Nat.reduceAdd, reduceCtorEq, ↓reduceIte, Nat.reduceLeDiff, Nat.reduceBneDiff, Option.toList, ← Int.ofNat_tmod, ← Int.ofNat_tdiv, Nat.reduceLT, Int.cast_ofNat_Int, Int.reduceBEq, Int.reduceBNe, Int.reduceLT, Int.reduceLE, Int.reduceAdd, Int.reduceSub, Int.reduceMul, Int.reduceToNat, Int.reduceNeg, Int.reduceTMod, Int.reduceEq, not_false_eq_true, Int.reducePow, Int.reduceFDiv, Nat.reducePow, Nat.reduceSub, Nat.reduceMul, Nat.min_eq_left, Nat.reduceEqDiff, BEq.rfl, Int.tdiv_one, LN_succ]
  rw [h2, h1, h0]
  obtain ⟨⟨a1, a2⟩, ⟨a3, a4⟩, a5, a6⟩ := hb
  refine ⟨by unfold inI64; omega, by unfold inI64; omega, by unfold inI64; omega, by unfold inI64; omega, by unfold inI64; omega, by unfold inI64; omega, RetOK.pure (.inl rfl) rfl ?_⟩
  subst hs
  simp [cvT, step, res, List.range_succ]
theorem netsFault_c (nid : Nat) : ACall Tryd.prog 78 [.int .i64 3] [] nid (.int .i64 0) [] := by
  have ho : outB 3 1 100 = false := by decide
  refine acall_run c78 (by simp [a78]) ?_
  simp -dsimp only [a78, aqT, aqU, aqN, ↓seqK, ↓blkK, ↓loopK, step, stepBin, Nat.reduceBEq, Nat.reduceBeqDiff, Nat.add_assoc nid, Nat.reduceAdd, reduceCtorEq, ↓reduceIte, Nat.reduceLeDiff, Nat.reduceBneDiff, Option.toList, ← Int.ofNat_tmod, ← Int.ofNat_tdiv, Nat.reduceLT, Int.cast_ofNat_Int, Int.reduceBEq, Int.reduceBNe, Int.reduceLT, Int.reduceLE, Int.reduceAdd, Int.reduceSub, Int.reduceMul, Int.reduceToNat, Int.reduceNeg, Int.reduceTMod, Int.reduceEq, not_false_eq_true, Int.reducePow, Int.reduceFDiv, Nat.reducePow, Nat.reduceSub, Nat.reduceMul, Nat.min_eq_left, Nat.reduceEqDiff, BEq.rfl, Int.tdiv_one, LN_succ]
  refine CallO.pure (out_c _ _ _ _) ?_
  rw [ho]
  simp -dsimp only [aqT, aqU, aqN, ↓seqK, ↓blkK, ↓loopK, step, stepBin, Nat.reduceBEq, Nat.reduceBeqDiff, Nat.add_assoc nid, Nat.reduceAdd, reduceCtorEq, ↓reduceIte, Nat.reduceLeDiff, Nat.reduceBneDiff, Option.toList, ← Int.ofNat_tmod, ← Int.ofNat_tdiv, Nat.reduceLT, Int.cast_ofNat_Int, Int.reduceBEq, Int.reduceBNe, Int.reduceLT, Int.reduceLE, Int.reduceAdd, Int.reduceSub, Int.reduceMul, Int.reduceToNat, Int.reduceNeg, Int.reduceTMod, Int.reduceEq, not_false_eq_true, Int.reducePow, Int.reduceFDiv, Nat.reducePow, Nat.reduceSub, Nat.reduceMul, Nat.min_eq_left, Nat.reduceEqDiff, BEq.rfl, Int.tdiv_one, LN_succ]
  refine RetOK.pure (.inl rfl) rfl ?_
  simp [cvT, step, res]
def vecs : List (List UInt8) := [[48, 48, 48], [48, 49, 49], [49, 48, 49]]
theorem turned_c (nl : Bool) (nid : Nat) : ACall Tryd.prog 73 [.lit nl 3 [.s fun i => [[48, 48, 49], [48, 49, 48], [48, 49, 49]].getD i []], .int .i64 3] [] nid (.sl nid 0 3) [(nid, some (.arr 9 3 [.s fun i => vecs.getD i []]))] := by
  refine acall_run c73 (by simp [a73]) ?_
  simp -dsimp only [a73, aqT, aqU, aqN, ↓seqK, ↓blkK, ↓loopK, step, stepBin, Nat.reduceBEq, Nat.reduceBeqDiff, Nat.add_assoc nid, Nat.reduceAdd, reduceCtorEq, ↓reduceIte, Nat.reduceLeDiff, Nat.reduceBneDiff, Option.toList, ← Int.ofNat_tmod, ← Int.ofNat_tdiv, Nat.reduceLT, Int.cast_ofNat_Int, Int.reduceBEq, Int.reduceBNe, Int.reduceLT, Int.reduceLE, Int.reduceAdd, Int.reduceSub, Int.reduceMul, Int.reduceToNat, Int.reduceNeg, Int.reduceTMod, Int.reduceEq, not_false_eq_true, Int.reducePow, Int.reduceFDiv, Nat.reducePow, Nat.reduceSub, Nat.reduceMul, Nat.min_eq_left, Nat.reduceEqDiff, BEq.rfl, Int.tdiv_one, LN_succ]
  refine LP.rounds 5 ?_
  simp -dsimp only [aqT, aqU, aqN, ↓seqK, ↓blkK, ↓loopK, step, stepBin, Nat.reduceBEq, Nat.reduceBeqDiff, Nat.add_assoc nid, Nat.reduceAdd, reduceCtorEq, ↓reduceIte, Nat.reduceLeDiff, Nat.reduceBneDiff, Option.toList, ← Int.ofNat_tmod, ← Int.ofNat_tdiv, Nat.reduceLT, Int.cast_ofNat_Int, Int.reduceBEq, Int.reduceBNe, Int.reduceLT, Int.reduceLE, Int.reduceAdd, Int.reduceSub, Int.reduceMul, Int.reduceToNat, Int.reduceNeg, Int.reduceTMod, Int.reduceEq, not_false_eq_true, Int.reducePow, Int.reduceFDiv, Nat.reducePow, Nat.reduceSub, Nat.reduceMul, Nat.min_eq_left, Nat.reduceEqDiff, BEq.rfl, Int.tdiv_one, LN_succ]
  refine LP.rounds 5 ?_
  simp -dsimp only [aqT, aqU, aqN, ↓seqK, ↓blkK, ↓loopK, step, stepBin, Nat.reduceBEq, Nat.reduceBeqDiff, Nat.add_assoc nid, Nat.reduceAdd, reduceCtorEq, ↓reduceIte, Nat.reduceLeDiff, Nat.reduceBneDiff, Option.toList, ← Int.ofNat_tmod, ← Int.ofNat_tdiv, Nat.reduceLT, Int.cast_ofNat_Int, Int.reduceBEq, Int.reduceBNe, Int.reduceLT, Int.reduceLE, Int.reduceAdd, Int.reduceSub, Int.reduceMul, Int.reduceToNat, Int.reduceNeg, Int.reduceTMod, Int.reduceEq, not_false_eq_true, Int.reducePow, Int.reduceFDiv, Nat.reducePow, Nat.reduceSub, Nat.reduceMul, Nat.min_eq_left, Nat.reduceEqDiff, BEq.rfl, Int.tdiv_one, LN_succ, Col.const, List.getD_cons_zero, List.getD_cons_succ]
  refine ⟨by unfold inI64; omega, by unfold inI64; omega, by unfold inI64; omega, by unfold inI64; omega, LP.rounds 5 ?_⟩
  simp -dsimp only [aqT, aqU, aqN, ↓seqK, ↓blkK, ↓loopK, step, stepBin, Nat.reduceBEq, Nat.reduceBeqDiff, Nat.add_assoc nid, Nat.reduceAdd, reduceCtorEq, ↓reduceIte, Nat.reduceLeDiff, Nat.reduceBneDiff, Option.toList, ← Int.ofNat_tmod, ← Int.ofNat_tdiv, Nat.reduceLT, Int.cast_ofNat_Int, Int.reduceBEq, Int.reduceBNe, Int.reduceLT, Int.reduceLE, Int.reduceAdd, Int.reduceSub, Int.reduceMul, Int.reduceToNat, Int.reduceNeg, Int.reduceTMod, Int.reduceEq, not_false_eq_true, Int.reducePow, Int.reduceFDiv, Nat.reducePow, Nat.reduceSub, Nat.reduceMul, Nat.min_eq_left, Nat.reduceEqDiff, BEq.rfl, Int.tdiv_one, LN_succ, Col.const, List.getD_cons_zero, List.getD_cons_succ]
  refine ⟨by unfold inI64; omega, by unfold inI64; omega, by unfold inI64; omega, by unfold inI64; omega, LP.rounds 5 ?_⟩
  simp -dsimp only [aqT, aqU, aqN, ↓seqK, ↓blkK, ↓loopK, step, stepBin, Nat.reduceBEq, Nat.reduceBeqDiff, Nat.add_assoc nid, Nat.reduceAdd, reduceCtorEq, ↓reduceIte, Nat.reduceLeDiff, Nat.reduceBneDiff, Option.toList, ← Int.ofNat_tmod, ← Int.ofNat_tdiv, Nat.reduceLT, Int.cast_ofNat_Int, Int.reduceBEq, Int.reduceBNe, Int.reduceLT, Int.reduceLE, Int.reduceAdd, Int.reduceSub, Int.reduceMul, Int.reduceToNat, Int.reduceNeg, Int.reduceTMod, Int.reduceEq, not_false_eq_true, Int.reducePow, Int.reduceFDiv, Nat.reducePow, Nat.reduceSub, Nat.reduceMul, Nat.min_eq_left, Nat.reduceEqDiff, BEq.rfl, Int.tdiv_one, LN_succ, Col.const, List.getD_cons_zero, List.getD_cons_succ]
  refine ⟨by unfold inI64; omega, by unfold inI64; omega, by unfold inI64; omega, by unfold inI64; omega, RetOK.go [(nid, nid + 768)] [] (.inl rfl) ?_⟩
  simp [a73, cvT, step, res, -List.getD_eq_getElem?_getD]
  trace_state
  refine ColEq.s fun i hi => ?_
  have : i = 0 ∨ i = 1 ∨ i = 2 := by omega
  rcases this with rfl | rfl | rfl <;> decide
theorem counting_c (nid : Nat) : ACall Tryd.prog 16 [.int .i64 3] [] nid (.tup [.sl nid 0 3, .int .i64 0]) [(nid, some (.arr 9 3 [.s fun i => vecs.getD i []]))] := by
  refine acall_run c16 (by simp [a16]) ?_
  simp -dsimp only [a16, aqT, aqU, aqN, ↓seqK, ↓blkK, ↓loopK, step, stepBin, Nat.reduceBEq, Nat.reduceBeqDiff, Nat.add_assoc nid, Nat.reduceAdd, reduceCtorEq, ↓reduceIte, Nat.reduceLeDiff, Nat.reduceBneDiff, Option.toList, ← Int.ofNat_tmod, ← Int.ofNat_tdiv, Nat.reduceLT, Int.cast_ofNat_Int, Int.reduceBEq, Int.reduceBNe, Int.reduceLT, Int.reduceLE, Int.reduceAdd, Int.reduceSub, Int.reduceMul, Int.reduceToNat, Int.reduceNeg, Int.reduceTMod, Int.reduceEq, not_false_eq_true, Int.reducePow, Int.reduceFDiv, Nat.reducePow, Nat.reduceSub, Nat.reduceMul, Nat.min_eq_left, Nat.reduceEqDiff, BEq.rfl, Int.tdiv_one, LN_succ]
  refine CallO.pure (netsFault_c _) ?_
  simp -dsimp only [aqT, aqU, aqN, ↓seqK, ↓blkK, ↓loopK, step, stepBin, Nat.reduceBEq, Nat.reduceBeqDiff, Nat.add_assoc nid, Nat.reduceAdd, reduceCtorEq, ↓reduceIte, Nat.reduceLeDiff, Nat.reduceBneDiff, Option.toList, ← Int.ofNat_tmod, ← Int.ofNat_tdiv, Nat.reduceLT, Int.cast_ofNat_Int, Int.reduceBEq, Int.reduceBNe, Int.reduceLT, Int.reduceLE, Int.reduceAdd, Int.reduceSub, Int.reduceMul, Int.reduceToNat, Int.reduceNeg, Int.reduceTMod, Int.reduceEq, not_false_eq_true, Int.reducePow, Int.reduceFDiv, Nat.reducePow, Nat.reduceSub, Nat.reduceMul, Nat.min_eq_left, Nat.reduceEqDiff, BEq.rfl, Int.tdiv_one, LN_succ]
  refine CallO.on (least_c nid _ (by omega)) (subH_get (by simp only [aqT, aqU, aqN, ↓seqK, ↓blkK, ↓loopK, step, stepBin, Nat.reduceBEq, Nat.reduceBeqDiff, Nat.add_assoc nid, Nat.reduceAdd, reduceCtorEq, ↓reduceIte, Nat.reduceLeDiff, Nat.reduceBneDiff, Option.toList, ← Int.ofNat_tmod, ← Int.ofNat_tdiv, Nat.reduceLT])) ?_
  simp -dsimp only [aqT, aqU, aqN, ↓seqK, ↓blkK, ↓loopK, step, stepBin, Nat.reduceBEq, Nat.reduceBeqDiff, Nat.add_assoc nid, Nat.reduceAdd, reduceCtorEq, ↓reduceIte, Nat.reduceLeDiff, Nat.reduceBneDiff, Option.toList, ← Int.ofNat_tmod, ← Int.ofNat_tdiv, Nat.reduceLT, Int.cast_ofNat_Int, Int.reduceBEq, Int.reduceBNe, Int.reduceLT, Int.reduceLE, Int.reduceAdd, Int.reduceSub, Int.reduceMul, Int.reduceToNat, Int.reduceNeg, Int.reduceTMod, Int.reduceEq, not_false_eq_true, Int.reducePow, Int.reduceFDiv, Nat.reducePow, Nat.reduceSub, Nat.reduceMul, Nat.min_eq_left, Nat.reduceEqDiff, BEq.rfl, Int.tdiv_one, LN_succ]
  refine LP.rounds 5 ?_
  simp -dsimp only [aqT, aqU, aqN, ↓seqK, ↓blkK, ↓loopK, step, stepBin, Nat.reduceBEq, Nat.reduceBeqDiff, Nat.add_assoc nid, Nat.reduceAdd, reduceCtorEq, ↓reduceIte, Nat.reduceLeDiff, Nat.reduceBneDiff, Option.toList, ← Int.ofNat_tmod, ← Int.ofNat_tdiv, Nat.reduceLT, Int.cast_ofNat_Int, Int.reduceBEq, Int.reduceBNe, Int.reduceLT, Int.reduceLE, Int.reduceAdd, Int.reduceSub, Int.reduceMul, Int.reduceToNat, Int.reduceNeg, Int.reduceTMod, Int.reduceEq, not_false_eq_true, Int.reducePow, Int.reduceFDiv, Nat.reducePow, Nat.reduceSub, Nat.reduceMul, Nat.min_eq_left, Nat.reduceEqDiff, BEq.rfl, Int.tdiv_one, LN_succ]
  refine ⟨by unfold inI64; omega, CallO.pure (number_c 1 0 0 1 [48, 48, 49] (by decide) (by decide) (by decide) (by omega) (by decide) _) ?_⟩
  simp -dsimp only [aqT, aqU, aqN, ↓seqK, ↓blkK, ↓loopK, step, stepBin, Nat.reduceBEq, Nat.reduceBeqDiff, Nat.add_assoc nid, Nat.reduceAdd, reduceCtorEq, ↓reduceIte, Nat.reduceLeDiff, Nat.reduceBneDiff, Option.toList, ← Int.ofNat_tmod, ← Int.ofNat_tdiv, Nat.reduceLT, Int.cast_ofNat_Int, Int.reduceBEq, Int.reduceBNe, Int.reduceLT, Int.reduceLE, Int.reduceAdd, Int.reduceSub, Int.reduceMul, Int.reduceToNat, Int.reduceNeg, Int.reduceTMod, Int.reduceEq, not_false_eq_true, Int.reducePow, Int.reduceFDiv, Nat.reducePow, Nat.reduceSub, Nat.reduceMul, Nat.min_eq_left, Nat.reduceEqDiff, BEq.rfl, Int.tdiv_one, LN_succ]
  refine ⟨by unfold inI64; omega, by unfold inI64; omega, CallO.pure (number_c 2 0 1 0 [48, 49, 48] (by decide) (by decide) (by decide) (by omega) (by decide) _) ?_⟩
  simp -dsimp only [aqT, aqU, aqN, ↓seqK, ↓blkK, ↓loopK, step, stepBin, Nat.reduceBEq, Nat.reduceBeqDiff, Nat.add_assoc nid, Nat.reduceAdd, reduceCtorEq, ↓reduceIte, Nat.reduceLeDiff, Nat.reduceBneDiff, Option.toList, ← Int.ofNat_tmod, ← Int.ofNat_tdiv, Nat.reduceLT, Int.cast_ofNat_Int, Int.reduceBEq, Int.reduceBNe, Int.reduceLT, Int.reduceLE, Int.reduceAdd, Int.reduceSub, Int.reduceMul, Int.reduceToNat, Int.reduceNeg, Int.reduceTMod, Int.reduceEq, not_false_eq_true, Int.reducePow, Int.reduceFDiv, Nat.reducePow, Nat.reduceSub, Nat.reduceMul, Nat.min_eq_left, Nat.reduceEqDiff, BEq.rfl, Int.tdiv_one, LN_succ]
  refine ⟨by unfold inI64; omega, by unfold inI64; omega, CallO.pure (number_c 3 0 1 1 [48, 49, 49] (by decide) (by decide) (by decide) (by omega) (by decide) _) ?_⟩
  simp -dsimp only [aqT, aqU, aqN, ↓seqK, ↓blkK, ↓loopK, step, stepBin, Nat.reduceBEq, Nat.reduceBeqDiff, Nat.add_assoc nid, Nat.reduceAdd, reduceCtorEq, ↓reduceIte, Nat.reduceLeDiff, Nat.reduceBneDiff, Option.toList, ← Int.ofNat_tmod, ← Int.ofNat_tdiv, Nat.reduceLT, Int.cast_ofNat_Int, Int.reduceBEq, Int.reduceBNe, Int.reduceLT, Int.reduceLE, Int.reduceAdd, Int.reduceSub, Int.reduceMul, Int.reduceToNat, Int.reduceNeg, Int.reduceTMod, Int.reduceEq, not_false_eq_true, Int.reducePow, Int.reduceFDiv, Nat.reducePow, Nat.reduceSub, Nat.reduceMul, Nat.min_eq_left, Nat.reduceEqDiff, BEq.rfl, Int.tdiv_one, LN_succ]
  refine ⟨by unfold inI64; omega, CallO.gave [nid + 196] (fun nl' => by
    simp only [lends, lend, aqT, aqU, aqN, ↓seqK, ↓blkK, ↓loopK, step, stepBin, Nat.reduceBEq, Nat.reduceBeqDiff, Nat.add_assoc nid, Nat.reduceAdd, reduceCtorEq, ↓reduceIte, Nat.reduceLeDiff, Nat.reduceBneDiff, Option.toList, ← Int.ofNat_tmod, ← Int.ofNat_tdiv, Nat.reduceLT]
    exact (turned_c (nl' _) _).args ⟨⟨rfl, rfl, ColEq.s fun i hi => by
      have : i = 0 ∨ i = 1 ∨ i = 2 := by omega
      rcases this with rfl | rfl | rfl <;> rfl, trivial⟩, rfl, trivial⟩) (fun id hid => by simp only [List.mem_singleton] at hid; subst hid; simp only [aqT, aqU, aqN, ↓seqK, ↓blkK, ↓loopK, step, stepBin, Nat.reduceBEq, Nat.reduceBeqDiff, Nat.add_assoc nid, Nat.reduceAdd, reduceCtorEq, ↓reduceIte, Nat.reduceLeDiff, Nat.reduceBneDiff, Option.toList, ← Int.ofNat_tmod, ← Int.ofNat_tdiv, Nat.reduceLT]) ?_⟩
  simp -dsimp only [aqT, aqU, aqN, ↓seqK, ↓blkK, ↓loopK, step, stepBin, Nat.reduceBEq, Nat.reduceBeqDiff, Nat.add_assoc nid, Nat.reduceAdd, reduceCtorEq, ↓reduceIte, Nat.reduceLeDiff, Nat.reduceBneDiff, Option.toList, ← Int.ofNat_tmod, ← Int.ofNat_tdiv, Nat.reduceLT, Int.cast_ofNat_Int, Int.reduceBEq, Int.reduceBNe, Int.reduceLT, Int.reduceLE, Int.reduceAdd, Int.reduceSub, Int.reduceMul, Int.reduceToNat, Int.reduceNeg, Int.reduceTMod, Int.reduceEq, not_false_eq_true, Int.reducePow, Int.reduceFDiv, Nat.reducePow, Nat.reduceSub, Nat.reduceMul, Nat.min_eq_left, Nat.reduceEqDiff, BEq.rfl, Int.tdiv_one, LN_succ, kill]
  refine RetOK.go [(nid, nid + 224)] [] (.inl rfl) ?_
  simp [a16, cvT, step, res]
end Go.Proofs.YthcldfmlfjomfaaDoor
namespace Go.Proofs.YthcldfmlfjomfaaDoor
open Go.RowKit
end Go.Proofs.YthcldfmlfjomfaaDoor
namespace Go.Proofs.YthcldfmlfjomfaaDoor
open Go.RowKit Go.Lib
def ordW (v : List (List UInt8)) : List Nat := if v.length = 0 then [] else orderO v
def sumW (v : List (List UInt8)) : Int := if v.length = 0 then 0 else sumO v
theorem ordW_facts {v : List (List UInt8)} {n : Nat} (h : ∀ s ∈ v, s.length = n) : (ordW v).length = v.length ∧ (ordW v).Nodup ∧ (∀ x ∈ ordW v, x < v.length) ∧ ((chgTo n (inOrd v (ordW v)) (v.length - 1) : Nat) : Int) = sumW v ∧ sumW v ≤ (chgTo n v (v.length - 1) : Nat) := by
  by_cases h0 : v.length = 0
  · unfold ordW sumW
    rw [if_pos h0, if_pos h0, h0]
    simp [chgTo]
  · unfold ordW sumW
    rw [if_neg h0, if_neg h0]
    exact order_facts h (by omega)
set_option maxHeartbeats 4000000 in
theorem order_nil (nl : Bool) (w : Nat) (nid : Nat) (hp : patV w [] = 0) : ACall Tryd.prog 49 [.int .i64 (w : Nat), litS nl []] [] nid (.tup [.sl nid 0 0, .int .i64 0, .int .i64 0]) [(nid, arrI [])] := by
  refine acall_run c49 (by simp [a49]) ?_
  unfold litS
  simp -dsimp only [aqT, aqU, aqN, aqS, ↓seqK, ↓blkK, ↓loopK, step, stepBin, Nat.add_assoc nid, ↓reduceIte, Option.toList, ← Int.ofNat_tmod, ← Int.ofNat_tdiv, simprocAttr, BEq.rfl, LN_succ, a49]
  have h := fun k => checkVectors_all nl w [] k (by simp) (fun s hs => by simp at hs)
  rw [hp] at h
  unfold litS at h
  refine CallO.pure (h _) ?_
  simp -dsimp only [aqT, aqU, aqN, aqS, ↓seqK, ↓blkK, ↓loopK, step, stepBin, Nat.add_assoc nid, ↓reduceIte, Option.toList, ← Int.ofNat_tmod, ← Int.ofNat_tdiv, simprocAttr, BEq.rfl, LN_succ]
  refine RetOK.go [] [(nid, 1)] (.inl rfl) ?_
  simp [a49, cvT, step, res, arrI]
theorem order_any (nl : Bool) (v : List (List UInt8)) (w : Nat) (nid : Nat) (hv : ∀ s ∈ v, s.length = w) (hw : w ≤ 100) (hn : v.length ≤ 10) (hp : patV w v = 0) : ACall Tryd.prog 49 [.int .i64 (w : Nat), litS nl v] [] nid (.tup [.sl nid 0 v.length, .int .i64 (sumW v), .int .i64 0]) [(nid, arrI (intsO (ordW v)))] := by
  unfold sumW ordW
  by_cases h0 : v.length = 0
  · rw [if_pos h0, if_pos h0]
    obtain rfl : v = [] := List.eq_nil_of_length_eq_zero h0
    exact order_nil nl w nid hp
  · rw [if_neg h0, if_neg h0]
    exact order_all nl v w nid hv hw hn (by omega) hp
end Go.Proofs.YthcldfmlfjomfaaDoor
namespace Go.Proofs.YthcldfmlfjomfaaDoor
open Go.RowKit
theorem take_eqB {l m : List Bool} {k : Nat} (hl : k < l.length) (hm : k < m.length) (h : l.take k = m.take k) (hx : l.getD k false = m.getD k false) : l.take (k + 1) = m.take (k + 1) := by
  rw [take_snoc (x := l.getD k false) (by rw [List.getD_eq_getElem?_getD, List.getElem?_eq_getElem hl]; rfl), take_snoc (x := m.getD k false) (by rw [List.getD_eq_getElem?_getD, List.getElem?_eq_getElem hm]; rfl), h, hx]
theorem equalBo_c (nl nl' : Bool) (l m : List Bool) (nid : Nat) (hl : l.length ≤ 1000000) (hm : m.length ≤ 1000000) : ACall Tryd.prog 77 [litBo nl l, litBo nl' m] [] nid (.bool (l == m)) [] := by
  refine acall_run c77 (by simp [a77]) ?_
  unfold litBo
  simp -dsimp only [aqT, aqU, aqN, ↓seqK, ↓blkK, ↓loopK, step, stepBin, Nat.reduceBEq, Nat.reduceBeqDiff, Nat.add_assoc nid, Nat.reduceAdd, reduceCtorEq, ↓reduceIte, Nat.reduceLeDiff, Nat.reduceBneDiff, Option.toList, ← Int.ofNat_tmod, ← Int.ofNat_tdiv, Nat.reduceLT, a77]
  refine S2.intro (fun h => ?_) (fun h => ?_) <;> simp -dsimp only [aqT, aqU, aqN, ↓seqK, ↓blkK, ↓loopK, step, stepBin, Nat.reduceBEq, Nat.reduceBeqDiff, Nat.add_assoc nid, Nat.reduceAdd, reduceCtorEq, ↓reduceIte, Nat.reduceLeDiff, Nat.reduceBneDiff, Option.toList, ← Int.ofNat_tmod, ← Int.ofNat_tdiv, Nat.reduceLT]
  · refine RetOK.pure (.inl rfl) rfl ?_
    have h1 : l ≠ m := fun e => by subst e; simp at h
    have h2 : (l == m) = false := by simpa using h1
    simp [cvT, step, res, h1]
  have hlm : l.length = m.length := by have : (l.length : Int) = m.length := by simpa using h
                                       omega
  refine LP.mkP (fun k : Nat => k ≤ l.length ∧ l.take k = m.take k) (fun k : Nat => ⟨[(13, .int .i64 k), (12, .int .i64 l.length), (0, litBo nl l), (1, litBo nl' m)], [], nid + 36, nid⟩) (fun k => l.length + 1 - k) 0 ⟨by omega, rfl⟩ (Cov.go [] [] ?_) (fun k hk => ?_)
  · simp [cvT, step, res, litBo]
  unfold litBo
  obtain ⟨hk, ht⟩ := hk
  simp -dsimp only [aqT, aqU, aqN, ↓seqK, ↓blkK, ↓loopK, step, stepBin, Nat.reduceBEq, Nat.reduceBeqDiff, Nat.add_assoc nid, Nat.reduceAdd, reduceCtorEq, ↓reduceIte, Nat.reduceLeDiff, Nat.reduceBneDiff, Option.toList, ← Int.ofNat_tmod, ← Int.ofNat_tdiv, Nat.reduceLT]
  refine S2.dec (fun h3 => ?_) (fun h3 => ?_) <;> simp -dsimp only [aqT, aqU, aqN, ↓seqK, ↓blkK, ↓loopK, step, stepBin, Nat.reduceBEq, Nat.reduceBeqDiff, Nat.add_assoc nid, Nat.reduceAdd, reduceCtorEq, ↓reduceIte, Nat.reduceLeDiff, Nat.reduceBneDiff, Option.toList, ← Int.ofNat_tmod, ← Int.ofNat_tdiv, Nat.reduceLT]
  · have hkl : k < l.length := by omega
    have hstep := fun hx => take_eqB (l := l) (m := m) hkl (by omega) ht hx
    have hne : l.getD k false ≠ m.getD k false → l ≠ m := fun hd e => hd (by rw [e])
    generalize l.getD k false = a at *
    generalize m.getD k false = b at *
    refine ⟨by omega, by omega, S2.intro (fun h4 => ?_) (fun h4 => ?_)⟩ <;> simp -dsimp only [aqT, aqU, aqN, ↓seqK, ↓blkK, ↓loopK, step, stepBin, Nat.reduceBEq, Nat.reduceBeqDiff, Nat.add_assoc nid, Nat.reduceAdd, reduceCtorEq, ↓reduceIte, Nat.reduceLeDiff, Nat.reduceBneDiff, Option.toList, ← Int.ofNat_tmod, ← Int.ofNat_tdiv, Nat.reduceLT]
    · have h1 : l ≠ m := hne (fun e => by subst e; simp at h4)
      refine RetOK.pure (.inl rfl) rfl ?_
      simp [cvT, step, res, h1]
    · have h5 : a = b := by simpa using h4
      refine ⟨by unfold inI64; omega, k + 1, ⟨⟨by omega, hstep h5⟩, by omega⟩, Cov.go [] [] ?_⟩
      simp [cvT, step, res, litBo]
  · have hke : k = l.length := by omega
    subst hke
    have h1 : l = m := by
      rw [List.take_of_length_le (Nat.le_refl _), List.take_of_length_le (by omega)] at ht
      exact ht
    refine RetOK.pure (.inl rfl) rfl ?_
    simp [cvT, step, res, h1]
theorem pow_all : ((List.range 64).all fun j => decide (IntKind.u64.wrap (1 * 2 ^ (min ((j : Nat) : Int).toNat IntKind.u64.bits)) = ((2 ^ j : Nat) : Int))) = true := by kernel_rfl
theorem pow_eq {j : Nat} (hj : j < 64) : IntKind.u64.wrap (1 * 2 ^ (min j IntKind.u64.bits)) = ((2 ^ j : Nat) : Int) :=
  of_decide_eq_true (List.all_eq_true.1 pow_all j (List.mem_range.2 hj))
def arrUi (r : List Nat) : Option ABlk := some (.arr 95 r.length [.i .u64 fun i => ((r.getD i 0 : Nat) : Int)])
def bitI (B i : Nat) : Bool := IntKind.u64.wrap ((BitVec.ofInt IntKind.u64.bits (((B : Nat) : Int).fdiv (2 ^ min i IntKind.u64.bits)) &&& BitVec.ofInt IntKind.u64.bits 1).toNat : Int) == 1
theorem bit_eq {B i : Nat} (hB : B < two64) (hi : i < 64) : bitI B i = B.testBit i := by
  have h1 : ((B : Nat) : Int).fdiv (2 ^ min i IntKind.u64.bits) = ((B / 2 ^ i : Nat) : Int) := by
    rw [show min i IntKind.u64.bits = i from Nat.min_eq_left (by show i ≤ 64; omega)]
    rw [Int.fdiv_eq_ediv_of_nonneg _ (Int.le_of_lt (Int.pow_pos (by decide)))]
    rw [Int.natCast_ediv, Int.natCast_pow]; rfl
  have h2 : B / 2 ^ i < two64 := Nat.lt_of_le_of_lt (Nat.div_le_self _ _) hB
  unfold bitI
  rw [h1]
  have h3 := (and_u h2 (show (1 : Nat) < two64 by decide)).1
  rw [show (((1 : Nat) : Int)) = 1 from rfl] at h3
  rw [h3, Nat.and_one_is_mod, Nat.testBit_eq_decide_div_mod_eq, Bool.eq_iff_iff]
  simp only [beq_iff_eq, decide_eq_true_eq]
  omega
theorem pop_le (n : Nat) : pop n ≤ 14 := Nat.le_trans (List.length_filter_le _ _) (by simp)
theorem sameV_eq (S : List Nat) (full x : Nat) : sameV S full x = ((((manyV S x : Nat) : Int) == ((manyV S full : Nat) : Int)) && (flagsV S x == flagsV S full)) := by
  unfold sameV
  congr 1
  rw [Bool.eq_iff_iff]; simp; omega
set_option maxHeartbeats 16000000 in
theorem fewest_all (nl : Bool) (n : Nat) (v : List (List UInt8)) (nid : Nat) (hv : PatOk (n : Nat) v) (hvl : v.length ≤ 14) :
    ACall Tryd.prog 15 [.int .i64 (n : Nat), litS nl v] [] nid (.tup [.sl nid 0 (fewTo (bestV ((turnL v n).map rowN) v.length) v.length).length, .int .i64 0]) [(nid, arrN (fewTo (bestV ((turnL v n).map rowN) v.length) v.length))] := by
  have hlo := hv.lo
  have hhi := hv.hi
  have hc := patV_ok.2 hv
  have hrow := fun s hs => (hv.row s hs)
  have hcb : ∀ k, k < n → bitsOk (colB v k) = true := fun k hk => colB_bits fun s hs => ⟨by have := (hrow s hs).1; omega, (hrow s hs).2⟩
  have hsm : Small ((turnL v n).map rowN) := rows_small fun s hs => by
    obtain ⟨k, hk, rfl⟩ := turnL_mem hs
    exact ⟨hcb k hk, by rw [colB_len]; omega⟩
  have hSl : ((turnL v n).map rowN).length = n := by rw [List.length_map, turnL_len]
  have hz0 := midTo_zero (v := v) (n := n)
  have hza := zeros_at n
  rw [← hz0] at hza
  have hnx := fun i => midTo_next (v := v) (n := n) (i := i)
  have hal := midTo_all (v := v) (n := n)
  have hpw : 2 ^ v.length ≤ 2 ^ 14 := Nat.pow_le_pow_right (by omega) hvl
  have hp0 : 0 < 2 ^ v.length := Nat.two_pow_pos _
  refine acall_run c15 (by simp [a15]) ?_
  unfold litS
  simp -dsimp only [aqT, aqU, aqN, aqS, ↓seqK, ↓blkK, ↓loopK, step, stepBin, Nat.add_assoc nid, ↓reduceIte, Option.toList, ← Int.ofNat_tmod, ← Int.ofNat_tdiv, simprocAttr, BEq.rfl, LN_succ, a15]
  refine CallO.pure (checkVectors_all nl n v _ (by omega) (fun s hs => by have := (hrow s hs).1; omega)) ?_
  rw [hc]
  simp -dsimp only [aqT, aqU, aqN, aqS, ↓seqK, ↓blkK, ↓loopK, step, stepBin, Nat.add_assoc nid, ↓reduceIte, Option.toList, ← Int.ofNat_tmod, ← Int.ofNat_tdiv, simprocAttr, BEq.rfl, LN_succ]
  refine S2.no (by simp; omega) ?_
  simp -dsimp only [aqT, aqU, aqN, aqS, ↓seqK, ↓blkK, ↓loopK, step, stepBin, Nat.add_assoc nid, ↓reduceIte, Option.toList, ← Int.ofNat_tmod, ← Int.ofNat_tdiv, simprocAttr, BEq.rfl, LN_succ]
  refine ⟨⟨by omega, by omega, by omega⟩, ?_⟩
  refine LP.mkP (fun i : Nat => i ≤ v.length) (fun i : Nat => ⟨[(34, .int .i64 i), (33, .int .i64 v.length), (32, litS nl v), (7, .sl (nid + 8) 0 n), (0, .int .i64 (n : Nat)), (1, litS nl v)], [(nid + 8, arrUi (midTo v n i 0))], nid + 200, nid⟩) (fun i => v.length + 1 - i) 0 (by omega) (Cov.go [(nid + 8, nid + 48)] [] ?_) (fun i hi => ?_)
  · simp [cvT, step, res, litS, arrUi, midTo_len, Col.const, -List.getD_eq_getElem?_getD]
    rw [← hza]
    exact ColEq.i fun j hj => rfl
  have hnx := hnx i
  unfold litS arrUi
  rw [midTo_len]
  simp -dsimp only [aqT, aqU, aqN, aqS, ↓seqK, ↓blkK, ↓loopK, step, stepBin, Nat.add_assoc nid, ↓reduceIte, Option.toList, ← Int.ofNat_tmod, ← Int.ofNat_tdiv, simprocAttr, BEq.rfl, LN_succ]
  refine S2.dec (fun h3 => ?_) (fun h3 => ?_) <;> simp -dsimp only [aqT, aqU, aqN, aqS, ↓seqK, ↓blkK, ↓loopK, step, stepBin, Nat.add_assoc nid, ↓reduceIte, Option.toList, ← Int.ofNat_tmod, ← Int.ofNat_tdiv, simprocAttr, BEq.rfl, LN_succ]
  · have hiv : i < v.length := by omega
    refine ⟨by omega, ?_⟩
    refine LP.mkP (fun k : Nat => k ≤ n) (fun k : Nat => ⟨[(40, .int .i64 k), (39, .int .i64 (n : Nat)), (8, .int .i64 i), (9, .str (v.getD i [])), (34, .int .i64 i), (33, .int .i64 v.length), (32, litS nl v), (7, .sl (nid + 8) 0 n), (0, .int .i64 (n : Nat)), (1, litS nl v)], [(nid + 8, arrUi (midTo v n i k))], nid + 400, nid⟩) (fun k => n + 1 - k) 0 (by omega) (Cov.go [] [] ?_) (fun k hk => ?_)
    · simp [cvT, step, res, litS, arrUi, midTo_len, -List.getD_eq_getElem?_getD]
    have hrl : (v.getD i []).length = n := by
      have := (getD_all (P := fun s : List UInt8 => (s.length : Int) = (n : Nat) ∧ bitsOk s = true) (d := []) hrow hiv).1
      omega
    have hset := midTo_set (v := v) (n := n) (i := i) (c := k)
    have hatk := midTo_at (v := v) (n := n) (i := i) (c := k) (k := k)
    have hml := midTo_len v n i k
    unfold litS arrUi
    rw [midTo_len]
    simp -dsimp only [aqT, aqU, aqN, aqS, ↓seqK, ↓blkK, ↓loopK, step, stepBin, Nat.add_assoc nid, ↓reduceIte, Option.toList, ← Int.ofNat_tmod, ← Int.ofNat_tdiv, simprocAttr, BEq.rfl, LN_succ]
    refine S2.dec (fun h4 => ?_) (fun h4 => ?_) <;> simp -dsimp only [aqT, aqU, aqN, aqS, ↓seqK, ↓blkK, ↓loopK, step, stepBin, Nat.add_assoc nid, ↓reduceIte, Option.toList, ← Int.ofNat_tmod, ← Int.ofNat_tdiv, simprocAttr, BEq.rfl, LN_succ]
    · have hkn : k < n := by omega
      have hset := hset hkn
      have hatk := hatk hkn
      rw [if_neg (by omega)] at hatk
      have hbk := hcb k hkn
      have hcl := colB_len v k
      have hca := colB_at v k hiv
      have hb := bsh_eq (bit_nat2 hbk (k := i) (by omega)) (i := i) (by omega)
      have ho := (or_u (rowTo_lt hbk (by omega) i (by omega)) hb.2).1
      have hst := rowTo_step (s := colB v k) (k := i) (by omega)
      rw [← hst] at ho
      rw [hca] at hb ho
      unfold bshI at hb
      rw [← hatk] at ho
      generalize midTo v n i k = M at *
      rw [hb.1, ho, setU M _ (by omega), hset]
      refine ⟨by omega, by omega, by omega, by omega, by unfold inI64; omega, k + 1, ⟨by omega, by omega⟩, Cov.go [] [] ?_⟩
      simp [cvT, step, res, litS, arrUi, midTo_len, -List.getD_eq_getElem?_getD]
    · have hkn : k = n := by omega
      subst hkn
      refine ⟨by unfold inI64; omega, i + 1, ⟨by omega, by omega⟩, Cov.go [] [] ?_⟩
      rw [← hnx]
      simp [cvT, step, res, litS, arrUi, midTo_len, -List.getD_eq_getElem?_getD]
  · have hiv : i = v.length := by omega
    subst hiv
    rw [hal]
    generalize hS : (turnL v n).map rowN = S at *
    have hwh := whole_eq (j := v.length) (by omega)
    have hpe := pow_eq (j := v.length) (by omega)
    have hbest : bestV S v.length = bestTo S (2 ^ v.length - 1) (2 ^ v.length) := rfl
    rw [hwh]
    generalize 2 ^ v.length = P at *
    have hfl : (flagsV S (P - 1)).length = n := by unfold flagsV; rw [List.length_map, hSl]
    have hseen := fun nl' mask m (hm : mask < 16384) => seen_c nl' S mask m hsm (by omega) (by unfold two64; omega)
    unfold litU at hseen
    rw [hSl] at hseen
    refine ⟨by omega, CallO.lent [nid + 8] (fun nl' => by
      simp only [lends, lend, aqT, aqU, aqN, aqS, ↓seqK, ↓blkK, ↓loopK, step, stepBin, Nat.add_assoc nid, ↓reduceIte, Option.toList, ← Int.ofNat_tmod, ← Int.ofNat_tdiv, simprocAttr, BEq.rfl, LN_succ]
      exact hseen (nl' _) _ _ (by omega)) rfl rfl (by simp only [List.mem_singleton, forall_eq, aqT, aqU, aqN, aqS, ↓seqK, ↓blkK, ↓loopK, step, stepBin, Nat.add_assoc nid, ↓reduceIte, Option.toList, ← Int.ofNat_tmod, ← Int.ofNat_tdiv, simprocAttr, BEq.rfl, LN_succ]) ?_⟩
    unfold arrBo
    rw [hfl]
    simp -dsimp only [aqT, aqU, aqN, aqS, ↓seqK, ↓blkK, ↓loopK, step, stepBin, Nat.add_assoc nid, ↓reduceIte, Option.toList, ← Int.ofNat_tmod, ← Int.ofNat_tdiv, simprocAttr, BEq.rfl, LN_succ]
    rw [hpe]
    refine ⟨by omega, ?_⟩
    have hgood := fun x h => bestTo_good S (P - 1) x h
    have hstep := fun x => bestTo_step S (P - 1) x
    have hsv := fun x => sameV_eq S (P - 1) x
    refine LP.mkP (fun x : Nat => x ≤ P) (fun x : Nat => ⟨[(71, .int .u64 (x : Nat)), (70, .int .u64 ((P : Nat) : Int)), (11, .int .u64 (bestTo S (P - 1) x : Nat)), (12, .int .i64 (manyV S (P - 1) : Nat)), (13, .sl (nid + 12) 0 n), (7, .sl (nid + 8) 0 n), (1, litS nl v)], [(nid + 8, arrUi S), (nid + 12, arrBo (flagsV S (P - 1)))], nid + 400, nid⟩) (fun x => P + 1 - x) 0 (by omega) (Cov.go [(nid + 12, nid + 232)] [] ?_) (fun x hx => ?_)
    · simp [cvT, step, res, litS, arrUi, arrBo, hSl, hfl, bestTo, -List.getD_eq_getElem?_getD]
    obtain ⟨g1, g2⟩ := hgood x (by omega)
    have hstep := hstep x
    have hsv := hsv x
    generalize hbb : bestTo S (P - 1) x = best at *
    unfold litS arrUi arrBo
    rw [hfl, hSl]
    simp -dsimp only [aqT, aqU, aqN, aqS, ↓seqK, ↓blkK, ↓loopK, step, stepBin, Nat.add_assoc nid, ↓reduceIte, Option.toList, ← Int.ofNat_tmod, ← Int.ofNat_tdiv, simprocAttr, BEq.rfl, LN_succ]
    refine S2.dec (fun h4 => ?_) (fun h4 => ?_) <;> simp -dsimp only [aqT, aqU, aqN, aqS, ↓seqK, ↓blkK, ↓loopK, step, stepBin, Nat.add_assoc nid, ↓reduceIte, Option.toList, ← Int.ofNat_tmod, ← Int.ofNat_tdiv, simprocAttr, BEq.rfl, LN_succ]
    · have hxl : x < P := by omega
      refine CallO.pure (ones_c x _ (by omega)) ?_
      simp -dsimp only [aqT, aqU, aqN, aqS, ↓seqK, ↓blkK, ↓loopK, step, stepBin, Nat.add_assoc nid, ↓reduceIte, Option.toList, ← Int.ofNat_tmod, ← Int.ofNat_tdiv, simprocAttr, BEq.rfl, LN_succ]
      refine CallO.pure (ones_c best _ (by omega)) ?_
      simp -dsimp only [aqT, aqU, aqN, aqS, ↓seqK, ↓blkK, ↓loopK, step, stepBin, Nat.add_assoc nid, ↓reduceIte, Option.toList, ← Int.ofNat_tmod, ← Int.ofNat_tdiv, simprocAttr, BEq.rfl, LN_succ]
      have hp1 := pop_le x
      have hp2 := pop_le best
      have hw : IntKind.u64.wrap (((x : Nat) : Int) + 1) = ((x + 1 : Nat) : Int) := u64_in (x := x + 1) (by unfold two64; omega)
      refine ⟨by unfold inI64; omega, ?_⟩
      refine S2.dec (fun h5 => ?_) (fun h5 => ?_) <;> simp -dsimp only [aqT, aqU, aqN, aqS, ↓seqK, ↓blkK, ↓loopK, step, stepBin, Nat.add_assoc nid, ↓reduceIte, Option.toList, ← Int.ofNat_tmod, ← Int.ofNat_tdiv, simprocAttr, BEq.rfl, LN_succ]
      · have hsk : skipB best x = true := by unfold skipB; rw [decide_eq_true h5]; rfl
        have hnext : bestTo S (P - 1) (x + 1) = best := by rw [hstep]; unfold nextB; rw [if_pos hsk]
        rw [hw]
        refine ⟨x + 1, ⟨by omega, by omega⟩, Cov.go [] [] ?_⟩
        rw [hnext]
        simp [cvT, step, res, litS, arrUi, arrBo, hSl, hfl, -List.getD_eq_getElem?_getD]
      · refine S2.intro (fun h6 => ?_) (fun h6 => ?_) <;> simp -dsimp only [aqT, aqU, aqN, aqS, ↓seqK, ↓blkK, ↓loopK, step, stepBin, Nat.add_assoc nid, ↓reduceIte, Option.toList, ← Int.ofNat_tmod, ← Int.ofNat_tdiv, simprocAttr, BEq.rfl, LN_succ]
        · change S2 (worseI best x) _ _ _ _
          refine S2.intro (fun h7 => ?_) (fun h7 => ?_) <;> simp -dsimp only [aqT, aqU, aqN, aqS, ↓seqK, ↓blkK, ↓loopK, step, stepBin, Nat.add_assoc nid, ↓reduceIte, Option.toList, ← Int.ofNat_tmod, ← Int.ofNat_tdiv, simprocAttr, BEq.rfl, LN_succ]
          · have hsk : skipB best x = true := by unfold skipB; rw [h6, h7]; simp
            have hnext : bestTo S (P - 1) (x + 1) = best := by rw [hstep]; unfold nextB; rw [if_pos hsk]
            rw [hw]
            refine ⟨x + 1, ⟨by omega, by omega⟩, Cov.go [] [] ?_⟩
            rw [hnext]
            simp [cvT, step, res, litS, arrUi, arrBo, hSl, hfl, -List.getD_eq_getElem?_getD]
          · have hsk : skipB best x = false := by unfold skipB; rw [h7, decide_eq_false h5]; simp
            have hfx : (flagsV S x).length = n := by unfold flagsV; rw [List.length_map, hSl]
            refine CallO.lent [nid + 8] (fun nl' => by
              simp only [lends, lend, aqT, aqU, aqN, aqS, ↓seqK, ↓blkK, ↓loopK, step, stepBin, Nat.add_assoc nid, ↓reduceIte, Option.toList, ← Int.ofNat_tmod, ← Int.ofNat_tdiv, simprocAttr, BEq.rfl, LN_succ]
              exact hseen (nl' _) _ _ (by omega)) rfl rfl (by simp only [List.mem_singleton, forall_eq, aqT, aqU, aqN, aqS, ↓seqK, ↓blkK, ↓loopK, step, stepBin, Nat.add_assoc nid, ↓reduceIte, Option.toList, ← Int.ofNat_tmod, ← Int.ofNat_tdiv, simprocAttr, BEq.rfl, LN_succ]) ?_
            unfold arrBo
            rw [hfx]
            simp -dsimp only [aqT, aqU, aqN, aqS, ↓seqK, ↓blkK, ↓loopK, step, stepBin, Nat.add_assoc nid, ↓reduceIte, Option.toList, ← Int.ofNat_tmod, ← Int.ofNat_tdiv, simprocAttr, BEq.rfl, LN_succ]
            have hnext : bestTo S (P - 1) (x + 1) = if sameV S (P - 1) x = true then x else best := by rw [hstep]; unfold nextB; rw [if_neg (by rw [hsk]; simp)]
            rw [hsv] at hnext
            have heq := fun n1 n2 m => equalBo_c n1 n2 (flagsV S x) (flagsV S (P - 1)) m (by omega) (by omega)
            unfold litBo at heq
            rw [hfx, hfl] at heq
            cases hm : (((manyV S x : Nat) : Int) == ((manyV S (P - 1) : Nat) : Int))
            · rw [hm] at hnext
              simp -dsimp only [aqT, aqU, aqN, aqS, ↓seqK, ↓blkK, ↓loopK, step, stepBin, Nat.add_assoc nid, ↓reduceIte, Option.toList, ← Int.ofNat_tmod, ← Int.ofNat_tdiv, simprocAttr, BEq.rfl, LN_succ]
              rw [hw]
              refine ⟨x + 1, ⟨by omega, by omega⟩, Cov.go [] [] ?_⟩
              rw [hnext]
              simp [cvT, step, res, litS, arrUi, arrBo, hSl, hfl, -List.getD_eq_getElem?_getD]
            · rw [hm] at hnext
              simp -dsimp only [aqT, aqU, aqN, aqS, ↓seqK, ↓blkK, ↓loopK, step, stepBin, Nat.add_assoc nid, ↓reduceIte, Option.toList, ← Int.ofNat_tmod, ← Int.ofNat_tdiv, simprocAttr, BEq.rfl, LN_succ]
              refine CallO.lent [nid + 12, nid + 520] (fun nl' => by
                simp only [lends, lend, aqT, aqU, aqN, aqS, ↓seqK, ↓blkK, ↓loopK, step, stepBin, Nat.add_assoc nid, ↓reduceIte, Option.toList, ← Int.ofNat_tmod, ← Int.ofNat_tdiv, simprocAttr, BEq.rfl, LN_succ]
                exact heq (nl' _) (nl' _) _) rfl rfl (by simp [getH, idS1, idS2]) ?_
              cases hE : (flagsV S x == flagsV S (P - 1))
              · rw [hE] at hnext
                simp -dsimp only [aqT, aqU, aqN, aqS, ↓seqK, ↓blkK, ↓loopK, step, stepBin, Nat.add_assoc nid, ↓reduceIte, Option.toList, ← Int.ofNat_tmod, ← Int.ofNat_tdiv, simprocAttr, BEq.rfl, LN_succ]
                rw [hw]
                refine ⟨x + 1, ⟨by omega, by omega⟩, Cov.go [] [] ?_⟩
                rw [hnext]
                simp [cvT, step, res, litS, arrUi, arrBo, hSl, hfl, -List.getD_eq_getElem?_getD]
              · rw [hE] at hnext
                simp -dsimp only [aqT, aqU, aqN, aqS, ↓seqK, ↓blkK, ↓loopK, step, stepBin, Nat.add_assoc nid, ↓reduceIte, Option.toList, ← Int.ofNat_tmod, ← Int.ofNat_tdiv, simprocAttr, BEq.rfl, LN_succ]
                rw [hw]
                refine ⟨x + 1, ⟨by omega, by omega⟩, Cov.go [] [] ?_⟩
                rw [hnext]
                simp [cvT, step, res, litS, arrUi, arrBo, hSl, hfl, -List.getD_eq_getElem?_getD]
        · have hsk : skipB best x = false := by unfold skipB; rw [h6, decide_eq_false h5]; rfl
          have hfx : (flagsV S x).length = n := by unfold flagsV; rw [List.length_map, hSl]
          refine CallO.lent [nid + 8] (fun nl' => by
            simp only [lends, lend, aqT, aqU, aqN, aqS, ↓seqK, ↓blkK, ↓loopK, step, stepBin, Nat.add_assoc nid, ↓reduceIte, Option.toList, ← Int.ofNat_tmod, ← Int.ofNat_tdiv, simprocAttr, BEq.rfl, LN_succ]
            exact hseen (nl' _) _ _ (by omega)) rfl rfl (by simp only [List.mem_singleton, forall_eq, aqT, aqU, aqN, aqS, ↓seqK, ↓blkK, ↓loopK, step, stepBin, Nat.add_assoc nid, ↓reduceIte, Option.toList, ← Int.ofNat_tmod, ← Int.ofNat_tdiv, simprocAttr, BEq.rfl, LN_succ]) ?_
          unfold arrBo
          rw [hfx]
          simp -dsimp only [aqT, aqU, aqN, aqS, ↓seqK, ↓blkK, ↓loopK, step, stepBin, Nat.add_assoc nid, ↓reduceIte, Option.toList, ← Int.ofNat_tmod, ← Int.ofNat_tdiv, simprocAttr, BEq.rfl, LN_succ]
          have hnext : bestTo S (P - 1) (x + 1) = if sameV S (P - 1) x = true then x else best := by rw [hstep]; unfold nextB; rw [if_neg (by rw [hsk]; simp)]
          rw [hsv] at hnext
          have heq := fun n1 n2 m => equalBo_c n1 n2 (flagsV S x) (flagsV S (P - 1)) m (by omega) (by omega)
          unfold litBo at heq
          rw [hfx, hfl] at heq
          cases hm : (((manyV S x : Nat) : Int) == ((manyV S (P - 1) : Nat) : Int))
          · rw [hm] at hnext
            simp -dsimp only [aqT, aqU, aqN, aqS, ↓seqK, ↓blkK, ↓loopK, step, stepBin, Nat.add_assoc nid, ↓reduceIte, Option.toList, ← Int.ofNat_tmod, ← Int.ofNat_tdiv, simprocAttr, BEq.rfl, LN_succ]
            rw [hw]
            refine ⟨x + 1, ⟨by omega, by omega⟩, Cov.go [] [] ?_⟩
            rw [hnext]
            simp [cvT, step, res, litS, arrUi, arrBo, hSl, hfl, -List.getD_eq_getElem?_getD]
          · rw [hm] at hnext
            simp -dsimp only [aqT, aqU, aqN, aqS, ↓seqK, ↓blkK, ↓loopK, step, stepBin, Nat.add_assoc nid, ↓reduceIte, Option.toList, ← Int.ofNat_tmod, ← Int.ofNat_tdiv, simprocAttr, BEq.rfl, LN_succ]
            refine CallO.lent [nid + 12, nid + 520] (fun nl' => by
              simp only [lends, lend, aqT, aqU, aqN, aqS, ↓seqK, ↓blkK, ↓loopK, step, stepBin, Nat.add_assoc nid, ↓reduceIte, Option.toList, ← Int.ofNat_tmod, ← Int.ofNat_tdiv, simprocAttr, BEq.rfl, LN_succ]
              exact heq (nl' _) (nl' _) _) rfl rfl (by simp [getH, idS1, idS2]) ?_
            cases hE : (flagsV S x == flagsV S (P - 1))
            · rw [hE] at hnext
              simp -dsimp only [aqT, aqU, aqN, aqS, ↓seqK, ↓blkK, ↓loopK, step, stepBin, Nat.add_assoc nid, ↓reduceIte, Option.toList, ← Int.ofNat_tmod, ← Int.ofNat_tdiv, simprocAttr, BEq.rfl, LN_succ]
              rw [hw]
              refine ⟨x + 1, ⟨by omega, by omega⟩, Cov.go [] [] ?_⟩
              rw [hnext]
              simp [cvT, step, res, litS, arrUi, arrBo, hSl, hfl, -List.getD_eq_getElem?_getD]
            · rw [hE] at hnext
              simp -dsimp only [aqT, aqU, aqN, aqS, ↓seqK, ↓blkK, ↓loopK, step, stepBin, Nat.add_assoc nid, ↓reduceIte, Option.toList, ← Int.ofNat_tmod, ← Int.ofNat_tdiv, simprocAttr, BEq.rfl, LN_succ]
              rw [hw]
              refine ⟨x + 1, ⟨by omega, by omega⟩, Cov.go [] [] ?_⟩
              rw [hnext]
              simp [cvT, step, res, litS, arrUi, arrBo, hSl, hfl, -List.getD_eq_getElem?_getD]
    · have hxe : x = P := by omega
      rw [hxe] at hbb
      rw [hbest, hbb]
      have hB2 : best < two64 := by unfold two64; omega
      have hbit := fun i hi => bit_eq (B := best) (i := i) hB2 hi
      refine LP.mkP (fun i : Nat => i ≤ v.length) (fun i : Nat => ⟨[(115, .int .i64 i), (114, .int .i64 v.length), (11, .int .u64 (best : Nat)), (19, .sl (nid + 16) 0 (fewTo best i).length)], [(nid + 16, arrN (fewTo best i))], nid + 600, nid⟩) (fun i => v.length + 1 - i) 0 (by omega) (Cov.go [] [(nid + 16, 1)] ?_) (fun i hi => ?_)
      · simp [cvT, step, res, arrN, fewTo, -List.getD_eq_getElem?_getD]
      have hbit := hbit i (by omega)
      have hy := fewTo_yes (B := best) (x := i)
      have hno := fewTo_no (B := best) (x := i)
      have hfl2 := fewTo_len best i
      have hend : i = v.length → fewTo best v.length = fewTo best i := fun e => by rw [e]
      generalize fewTo best i = V at *
      unfold arrN
      simp -dsimp only [aqT, aqU, aqN, aqS, ↓seqK, ↓blkK, ↓loopK, step, stepBin, Nat.add_assoc nid, ↓reduceIte, Option.toList, ← Int.ofNat_tmod, ← Int.ofNat_tdiv, simprocAttr, BEq.rfl, LN_succ]
      refine S2.dec (fun h5 => ?_) (fun h5 => ?_) <;> simp -dsimp only [aqT, aqU, aqN, aqS, ↓seqK, ↓blkK, ↓loopK, step, stepBin, Nat.add_assoc nid, ↓reduceIte, Option.toList, ← Int.ofNat_tmod, ← Int.ofNat_tdiv, simprocAttr, BEq.rfl, LN_succ]
      · refine ⟨by omega, ?_⟩
        change S2 (bitI best i) _ _ _ _
        rw [hbit]
        cases hb : best.testBit i
        · simp -dsimp only [aqT, aqU, aqN, aqS, ↓seqK, ↓blkK, ↓loopK, step, stepBin, Nat.add_assoc nid, ↓reduceIte, Option.toList, ← Int.ofNat_tmod, ← Int.ofNat_tdiv, simprocAttr, BEq.rfl, LN_succ]
          refine ⟨by unfold inI64; omega, i + 1, ⟨by omega, by omega⟩, Cov.go [] [] ?_⟩
          rw [hno hb]
          simp [cvT, step, res, arrN, -List.getD_eq_getElem?_getD]
        · have hvl2 : (fewTo best (i + 1)).length = V.length + 1 := by rw [hy hb]; simp
          simp -dsimp only [aqT, aqU, aqN, aqS, ↓seqK, ↓blkK, ↓loopK, step, stepBin, Nat.add_assoc nid, ↓reduceIte, Option.toList, ← Int.ofNat_tmod, ← Int.ofNat_tdiv, simprocAttr, BEq.rfl, LN_succ]
          rw [getD_appN V i rfl .i64, ← hy hb]
          refine ⟨⟨by omega, by omega⟩, by unfold inI64; omega, i + 1, ⟨by omega, by omega⟩, Cov.go [(nid + 16, nid + 644)] [] ?_⟩
          simp [cvT, step, res, arrN, hvl2, -List.getD_eq_getElem?_getD]
      · have hend := hend (by omega)
        rw [hend]
        refine RetOK.go [(nid, nid + 16)] [] (.inl rfl) ?_
        simp [a15, cvT, step, res, arrN, -List.getD_eq_getElem?_getD]
end Go.Proofs.YthcldfmlfjomfaaDoor
namespace Go.Proofs.YthcldfmlfjomfaaDoor
open Go.RowKit Go.Lib
def fewA (n : Int) (v : List (List UInt8)) : List Nat := if patV n v = 0 ∧ v.length ≤ 14 then fewTo (bestV ((turnL v n.toNat).map rowN) v.length) v.length else []
def limV (k : Nat) (n : Int) (v : List (List UInt8)) : Int := if patV n v = 0 then (if (k : Int) < (v.length : Int) then 2 else 0) else patV n v
theorem limV_zero {k : Nat} {n : Int} {v : List (List UInt8)} : limV k n v = 0 ↔ patV n v = 0 ∧ v.length ≤ k := by
  unfold limV
  by_cases h : patV n v = 0
  · rw [if_pos h]
    by_cases h2 : (k : Int) < (v.length : Int)
    · rw [if_pos h2]; constructor
      · intro h; cases h
      · intro h; omega
    · rw [if_neg h2]; exact ⟨fun _ => ⟨h, by omega⟩, fun _ => rfl⟩
  · rw [if_neg h]; exact ⟨fun e => absurd e h, fun e => absurd e.1 h⟩
theorem patternedC_c (nid : Nat) : ACall Tryd.prog 36 [] [] nid (.bool true) [] := by
  refine acall_run c36 (by simp [a36]) ?_
  simp -dsimp only [aqT, aqU, aqN, aqS, ↓seqK, ↓blkK, ↓loopK, step, stepBin, Nat.add_assoc nid, ↓reduceIte, Option.toList, ← Int.ofNat_tmod, ← Int.ofNat_tdiv, simprocAttr, BEq.rfl, LN_succ, a36]
  refine CallO.pure (counting_c _) ?_
  simp -dsimp only [aqT, aqU, aqN, aqS, ↓seqK, ↓blkK, ↓loopK, step, stepBin, Nat.add_assoc nid, ↓reduceIte, Option.toList, ← Int.ofNat_tmod, ← Int.ofNat_tdiv, simprocAttr, BEq.rfl, LN_succ]
  refine CallO.lent [nid + 4, nid + 44] (fun nl' => by
    simp only [lends, lend, aqT, aqU, aqN, aqS, ↓seqK, ↓blkK, ↓loopK, step, stepBin, Nat.add_assoc nid, ↓reduceIte, Option.toList, ← Int.ofNat_tmod, ← Int.ofNat_tdiv, simprocAttr, BEq.rfl, LN_succ]
    exact equalS_c (nl' _) (nl' _) vecs [[48, 48, 48], [48, 49, 49], [49, 48, 49]] _ (by decide) (by decide)) rfl rfl (by simp [getH, idS1, idS2]) ?_
  simp -dsimp only [aqT, aqU, aqN, aqS, ↓seqK, ↓blkK, ↓loopK, step, stepBin, Nat.add_assoc nid, ↓reduceIte, Option.toList, ← Int.ofNat_tmod, ← Int.ofNat_tdiv, simprocAttr, BEq.rfl, LN_succ]
  have e : (vecs == [[48, 48, 48], [48, 49, 49], [49, 48, 49]]) = true := by decide
  rw [e]
  refine RetOK.pure (.inl rfl) rfl ?_
  simp [cvT, step, res]
theorem orL_c (nl : Bool) (a b : Int) (nid : Nat) : ACall Tryd.prog 45 [.lit nl 2 [.i .i64 fun i => [a, b].getD i 0]] [] nid (.int .i64 (if a = 0 then b else a)) [] := by
  have h := or_c nl [a, b] nid (by simp)
  have e : firstBad (fun x : Int => x) [a, b] = if a = 0 then b else a := by
    unfold firstBad
    by_cases h0 : a = 0
    · subst h0
      by_cases h1 : b = 0 <;> simp [firstBad, h1]
    · simp [h0]
  rw [e] at h
  exact h
theorem equalZ_c (na : Bool) (g : Nat → Int) (nid : Nat) : ACall Tryd.prog 47 [.lit na 0 [.i .i64 g], .lit true 0 []] [] nid (.bool true) [] := by
  refine acall_run c47 (by simp [a47]) ?_
  simp -dsimp only [aqT, aqU, aqN, aqS, ↓seqK, ↓blkK, ↓loopK, step, stepBin, Nat.add_assoc nid, ↓reduceIte, Option.toList, ← Int.ofNat_tmod, ← Int.ofNat_tdiv, simprocAttr, BEq.rfl, LN_succ, a47]
  refine LP.mkP (fun _ : Unit => True) (fun _ => ⟨[(13, .int .i64 0), (12, .int .i64 0)], [], nid + 50, nid⟩) (fun _ => 0) () trivial (Cov.go [] [] ?_) (fun _ _ => ?_)
  · simp [cvT, step, res]
  simp -dsimp only [aqT, aqU, aqN, aqS, ↓seqK, ↓blkK, ↓loopK, step, stepBin, Nat.add_assoc nid, ↓reduceIte, Option.toList, ← Int.ofNat_tmod, ← Int.ofNat_tdiv, simprocAttr, BEq.rfl, LN_succ]
  refine RetOK.pure (.inl rfl) rfl ?_
  simp [cvT, step, res]
theorem altL_short (n : Nat) : ShortRows 20 (altL n) := fun r hr => by
  unfold altL at hr
  obtain ⟨i, _, rfl⟩ := List.mem_map.1 hr
  unfold altF
  split <;> simp
set_option maxHeartbeats 16000000 in
theorem vectorsChosen_c (nl : Bool) (A : List Int) (nid : Nat) (hA : A.length ≤ 17592186044416) : ACall Tryd.prog 6 [litI nl A] [] nid (.bool true) [] := by
  refine acall_sr c6 (by simp [a6]) ?_
  unfold a6 litI
  refine SR.seq ?_
  simp -dsimp only [aqT, aqU, aqN, aqS, ↓seqK, ↓blkK, ↓loopK, step, stepBin, Nat.add_assoc nid, ↓reduceIte, Option.toList, ← Int.ofNat_tmod, ← Int.ofNat_tdiv, simprocAttr, BEq.rfl, LN_succ]
  refine SR.seq ?_
  simp -dsimp only [aqT, aqU, aqN, aqS, ↓seqK, ↓blkK, ↓loopK, step, stepBin, Nat.add_assoc nid, ↓reduceIte, Option.toList, ← Int.ofNat_tmod, ← Int.ofNat_tdiv, simprocAttr, BEq.rfl, LN_succ]
  refine SR.seqEx (ι := {x : (Int × List (List UInt8)) × Nat // x.1.2.length ≤ 6 ∧ ShortRows 20 x.1.2 ∧ x.2 ≤ 8000}) (fun x => ⟨[(3, .ptr (nid + 12) 0), (4, .int .i64 x.1.1.1), (5, .sl (nid + 8) 0 x.1.1.2.length)], [(nid + 12, strmC nl A x.1.2), (nid + 8, arrS x.1.1.2)], nid + 200, nid⟩) ?_ (fun ⟨⟨⟨n, v⟩, q⟩, hvl, hvr, hq⟩ => ?_)
  · simp -dsimp only [aqT, aqU, aqN, aqS, ↓seqK, ↓blkK, ↓loopK, step, stepBin, Nat.add_assoc nid, ↓reduceIte, Option.toList, ← Int.ofNat_tmod, ← Int.ofNat_tdiv, simprocAttr, BEq.rfl, LN_succ]
    refine CallO.onE (patternsX (nid + 12) _ nl A 0 5 (by omega) (by omega) hA (by omega)) (subH_get (by simp only [aqT, aqU, aqN, aqS, ↓seqK, ↓blkK, ↓loopK, step, stepBin, Nat.add_assoc nid, ↓reduceIte, Option.toList, ← Int.ofNat_tmod, ← Int.ofNat_tdiv, simprocAttr, BEq.rfl, LN_succ, strmC])) (fun x hx => ?_)
    obtain ⟨hx1, hx2, hx3, hx4⟩ := hx
    unfold arrS
    simp -dsimp only [aqT, aqU, aqN, aqS, ↓seqK, ↓blkK, ↓loopK, step, stepBin, Nat.add_assoc nid, ↓reduceIte, Option.toList, ← Int.ofNat_tmod, ← Int.ofNat_tdiv, simprocAttr, BEq.rfl, LN_succ]
    refine ⟨⟨x, by omega, hx2, by omega⟩, Cov.go [(nid + 8, nid + 24)] [] ?_⟩
    simp [cvT, step, res, arrS, strmC]
  simp only at hvl hvr hq ⊢
  unfold arrS
  refine SR.freezeB [nid + 8] (fun nl' => ?_)
  simp only [frzS, frzH, frzBlk, lends, lend, kill, noOs, strmC, aqT, aqU, aqN, aqS, ↓seqK, ↓blkK, ↓loopK, step, stepBin, Nat.add_assoc nid, ↓reduceIte, Option.toList, ← Int.ofNat_tmod, ← Int.ofNat_tdiv, simprocAttr, BEq.rfl, LN_succ]
  generalize nl' (nid + 8) = nv
  refine SR.seqEx (ι := {x : (Int × List (List UInt8)) × Bool // x.1.2.length ≤ 16 ∧ ShortRows 20 x.1.2}) (fun x => ⟨[(4, .int .i64 x.1.1.1), (5, litS x.1.2 x.1.1.2)], [], nid + 600, nid⟩) ?_ (fun ⟨⟨⟨n, v⟩, nv⟩, hvl, hvr⟩ => ?_)
  · simp -dsimp only [aqT, aqU, aqN, aqS, ↓seqK, ↓blkK, ↓loopK, step, stepBin, Nat.add_assoc nid, ↓reduceIte, Option.toList, ← Int.ofNat_tmod, ← Int.ofNat_tdiv, simprocAttr, BEq.rfl, LN_succ]
    refine CallO.on (flip_c (nid + 12) _ nl A q 10 (by omega) (by omega) hA (by omega)) (subH_get (by simp only [aqT, aqU, aqN, aqS, ↓seqK, ↓blkK, ↓loopK, step, stepBin, Nat.add_assoc nid, ↓reduceIte, Option.toList, ← Int.ofNat_tmod, ← Int.ofNat_tdiv, simprocAttr, BEq.rfl, LN_succ, strmC])) ?_
    unfold strmC
    simp -dsimp only [aqT, aqU, aqN, aqS, ↓seqK, ↓blkK, ↓loopK, step, stepBin, Nat.add_assoc nid, ↓reduceIte, Option.toList, ← Int.ofNat_tmod, ← Int.ofNat_tdiv, simprocAttr, BEq.rfl, LN_succ]
    refine S2.intro (fun h => ?_) (fun h => ?_) <;> simp -dsimp only [aqT, aqU, aqN, aqS, ↓seqK, ↓blkK, ↓loopK, step, stepBin, Nat.add_assoc nid, ↓reduceIte, Option.toList, ← Int.ofNat_tmod, ← Int.ofNat_tdiv, simprocAttr, BEq.rfl, LN_succ]
    · refine CallO.on (range_c (nid + 12) _ nl A (q + 1) 5 8 (by omega) (by omega) hA (by omega) (by omega) (by omega)) (subH_get (by simp only [aqT, aqU, aqN, aqS, ↓seqK, ↓blkK, ↓loopK, step, stepBin, Nat.add_assoc nid, ↓reduceIte, Option.toList, ← Int.ofNat_tmod, ← Int.ofNat_tdiv, simprocAttr, BEq.rfl, LN_succ, strmC])) ?_
      obtain ⟨hr1, hr2⟩ := rangeV_bd A (q + 1) (lo := 5) (hi := 8) (by omega)
      obtain ⟨r, hr⟩ : ∃ r : Nat, rangeV A (q + 1) 5 8 = r := ⟨_, (Int.toNat_of_nonneg (by omega)).symm⟩
      rw [hr] at hr1 hr2 ⊢
      unfold strmC
      simp -dsimp only [aqT, aqU, aqN, aqS, ↓seqK, ↓blkK, ↓loopK, step, stepBin, Nat.add_assoc nid, ↓reduceIte, Option.toList, ← Int.ofNat_tmod, ← Int.ofNat_tdiv, simprocAttr, BEq.rfl, LN_succ]
      refine CallO.froze [nid + 220] (CallX.given [nid + 208] (fun nl' => by
        simp only [lends, lend, noOs, aqT, aqU, aqN, aqS, ↓seqK, ↓blkK, ↓loopK, step, stepBin, Nat.add_assoc nid, ↓reduceIte, Option.toList, ← Int.ofNat_tmod, ← Int.ofNat_tdiv, simprocAttr, BEq.rfl, LN_succ]
        exact repeatS_c (nl' _) r _ (by omega) (by omega)) (fun id b h => by simp [getH] at h) (by simp [getH, idS1, idS2]) (fun nb => ?_))
      have hll := altL_len (2 * r)
      unfold arrS
      rw [hll]
      simp -dsimp only [aqT, aqU, aqN, aqS, ↓seqK, ↓blkK, ↓loopK, step, stepBin, Nat.add_assoc nid, ↓reduceIte, Option.toList, ← Int.ofNat_tmod, ← Int.ofNat_tdiv, simprocAttr, BEq.rfl, LN_succ, lend, kill, noOs, List.map_cons, List.map_nil]
      refine ⟨⟨((1, altL (2 * r)), nb (nid + 220)), by simp only [altL_len]; omega, altL_short _⟩, Cov.go [] [] ?_⟩
      simp [cvT, step, res, litS, hll, ColsEq.refl, -List.getD_eq_getElem?_getD]
    · refine ⟨⟨((n, v), nv), by simp only; omega, hvr⟩, Cov.go [] [] ?_⟩
      simp [cvT, step, res, litS, ColsEq.refl, -List.getD_eq_getElem?_getD]
  simp only at hvl hvr ⊢
  have hpf := fun m => patternsFault_all nv n v m (by omega) (hvr.mono (by omega))
  refine SR.seqTo ⟨[(6, .int .i64 (patV n v)), (4, .int .i64 n), (5, litS nv v)], [], nid + 800, nid⟩ ?_ ?_
  · unfold litS at *
    simp -dsimp only [aqT, aqU, aqN, aqS, ↓seqK, ↓blkK, ↓loopK, step, stepBin, Nat.add_assoc nid, ↓reduceIte, Option.toList, ← Int.ofNat_tmod, ← Int.ofNat_tdiv, simprocAttr, BEq.rfl, LN_succ]
    refine CallO.pure (hpf _) ?_
    simp -dsimp only [aqT, aqU, aqN, aqS, ↓seqK, ↓blkK, ↓loopK, step, stepBin, Nat.add_assoc nid, ↓reduceIte, Option.toList, ← Int.ofNat_tmod, ← Int.ofNat_tdiv, simprocAttr, BEq.rfl, LN_succ]
    refine Cov.go [] [] ?_
    simp [cvT, step, res, litS, ColsEq.refl, -List.getD_eq_getElem?_getD]
  refine SR.seqTo ⟨[(7, .sl (nid + 24) 0 (fewA n v).length), (8, .int .i64 (limV 14 n v)), (6, .int .i64 (patV n v)), (4, .int .i64 n), (5, litS nv v)], [(nid + 24, arrN (fewA n v))], nid + 1000, nid⟩ ?_ ?_
  · by_cases h1 : patV n v = 0
    · have hok := patV_ok.1 h1
      have hlo := hok.lo
      obtain ⟨N, rfl⟩ : ∃ N : Nat, n = N := ⟨n.toNat, by omega⟩
      by_cases h2 : v.length ≤ 14
      · have e : fewA (N : Int) v = fewTo (bestV ((turnL v N).map rowN) v.length) v.length := by unfold fewA; rw [if_pos ⟨h1, h2⟩, Int.toNat_natCast]
        have e2 : limV 14 (N : Int) v = 0 := limV_zero.2 ⟨h1, h2⟩
        have h := fun m => fewest_all nv N v m hok h2
        rw [← e] at h
        rw [e2]
        unfold litS at *
        simp -dsimp only [aqT, aqU, aqN, aqS, ↓seqK, ↓blkK, ↓loopK, step, stepBin, Nat.add_assoc nid, ↓reduceIte, Option.toList, ← Int.ofNat_tmod, ← Int.ofNat_tdiv, simprocAttr, BEq.rfl, LN_succ]
        refine CallO.pure (h _) ?_
        unfold arrN
        simp -dsimp only [aqT, aqU, aqN, aqS, ↓seqK, ↓blkK, ↓loopK, step, stepBin, Nat.add_assoc nid, ↓reduceIte, Option.toList, ← Int.ofNat_tmod, ← Int.ofNat_tdiv, simprocAttr, BEq.rfl, LN_succ]
        refine Cov.go [(nid + 24, nid + 808)] [] ?_
        simp [cvT, step, res, arrN, litS, ColsEq.refl, -List.getD_eq_getElem?_getD]
      · have e : fewA (N : Int) v = [] := by unfold fewA; rw [if_neg (fun h => h2 h.2)]
        have e2 : limV 14 (N : Int) v = 2 := by unfold limV; rw [if_pos h1, if_pos (by omega)]
        have h := fun m => fewest_long nv (N : Int) v m (by omega) (hvr.mono (by omega)) h1 (by omega)
        rw [e, e2]
        unfold litS at *
        simp -dsimp only [aqT, aqU, aqN, aqS, ↓seqK, ↓blkK, ↓loopK, step, stepBin, Nat.add_assoc nid, ↓reduceIte, Option.toList, ← Int.ofNat_tmod, ← Int.ofNat_tdiv, simprocAttr, BEq.rfl, LN_succ]
        refine CallO.pure (h _) ?_
        simp -dsimp only [aqT, aqU, aqN, aqS, ↓seqK, ↓blkK, ↓loopK, step, stepBin, Nat.add_assoc nid, ↓reduceIte, Option.toList, ← Int.ofNat_tmod, ← Int.ofNat_tdiv, simprocAttr, BEq.rfl, LN_succ]
        refine Cov.go [] [(nid + 24, 1)] ?_
        simp [cvT, step, res, arrN, litS, ColsEq.refl, -List.getD_eq_getElem?_getD]
    · have e : fewA n v = [] := by unfold fewA; rw [if_neg (fun h => h1 h.1)]
      have e2 : limV 14 n v = patV n v := by unfold limV; rw [if_neg h1]
      have h := fun m => fewest_bad nv n v m (by omega) (hvr.mono (by omega)) h1
      rw [e, e2]
      unfold litS at *
      simp -dsimp only [aqT, aqU, aqN, aqS, ↓seqK, ↓blkK, ↓loopK, step, stepBin, Nat.add_assoc nid, ↓reduceIte, Option.toList, ← Int.ofNat_tmod, ← Int.ofNat_tdiv, simprocAttr, BEq.rfl, LN_succ]
      refine CallO.pure (h _) ?_
      simp -dsimp only [aqT, aqU, aqN, aqS, ↓seqK, ↓blkK, ↓loopK, step, stepBin, Nat.add_assoc nid, ↓reduceIte, Option.toList, ← Int.ofNat_tmod, ← Int.ofNat_tdiv, simprocAttr, BEq.rfl, LN_succ]
      refine Cov.go [] [(nid + 24, 1)] ?_
      simp [cvT, step, res, arrN, litS, ColsEq.refl, -List.getD_eq_getElem?_getD]
  unfold arrN
  refine SR.freezeB [nid + 24] (fun nl' => ?_)
  simp only [frzS, frzH, frzBlk, lends, lend, kill, noOs, litS, aqT, aqU, aqN, aqS, ↓seqK, ↓blkK, ↓loopK, step, stepBin, Nat.add_assoc nid, ↓reduceIte, Option.toList, ← Int.ofNat_tmod, ← Int.ofNat_tdiv, simprocAttr, BEq.rfl, LN_succ]
  generalize nl' (nid + 24) = na
  refine SR.seqTo ⟨[(9, .int .i64 (limV 14 n v)), (10, .int .i64 (limV 10 n v)), (7, litQ na (fewA n v)), (8, .int .i64 (limV 14 n v)), (4, .int .i64 n), (5, litS nv v)], [], nid + 1400, nid⟩ ?_ ?_
  · simp -dsimp only [aqT, aqU, aqN, aqS, ↓seqK, ↓blkK, ↓loopK, step, stepBin, Nat.add_assoc nid, ↓reduceIte, Option.toList, ← Int.ofNat_tmod, ← Int.ofNat_tdiv, simprocAttr, BEq.rfl, LN_succ]
    refine CallO.pure (whenL_c _ _ _) ?_
    simp -dsimp only [aqT, aqU, aqN, aqS, ↓seqK, ↓blkK, ↓loopK, step, stepBin, Nat.add_assoc nid, ↓reduceIte, Option.toList, ← Int.ofNat_tmod, ← Int.ofNat_tdiv, simprocAttr, BEq.rfl, LN_succ]
    refine CallO.gave1 (by simp only [aqT, aqU, aqN, aqS, ↓seqK, ↓blkK, ↓loopK, step, stepBin, Nat.add_assoc nid, ↓reduceIte, Option.toList, ← Int.ofNat_tmod, ← Int.ofNat_tdiv, simprocAttr, BEq.rfl, LN_succ]; rfl) (fun nl' => orL_c nl' _ _ _) rfl ?_
    simp -dsimp only [aqT, aqU, aqN, aqS, ↓seqK, ↓blkK, ↓loopK, step, stepBin, Nat.add_assoc nid, ↓reduceIte, Option.toList, ← Int.ofNat_tmod, ← Int.ofNat_tdiv, simprocAttr, BEq.rfl, LN_succ]
    refine CallO.pure (whenL_c _ _ _) ?_
    simp -dsimp only [aqT, aqU, aqN, aqS, ↓seqK, ↓blkK, ↓loopK, step, stepBin, Nat.add_assoc nid, ↓reduceIte, Option.toList, ← Int.ofNat_tmod, ← Int.ofNat_tdiv, simprocAttr, BEq.rfl, LN_succ]
    refine CallO.gave1 (by simp only [aqT, aqU, aqN, aqS, ↓seqK, ↓blkK, ↓loopK, step, stepBin, Nat.add_assoc nid, ↓reduceIte, Option.toList, ← Int.ofNat_tmod, ← Int.ofNat_tdiv, simprocAttr, BEq.rfl, LN_succ]; rfl) (fun nl' => orL_c nl' _ _ _) rfl ?_
    simp -dsimp only [aqT, aqU, aqN, aqS, ↓seqK, ↓blkK, ↓loopK, step, stepBin, Nat.add_assoc nid, ↓reduceIte, Option.toList, ← Int.ofNat_tmod, ← Int.ofNat_tdiv, simprocAttr, BEq.rfl, LN_succ]
    refine Cov.go [] [] ?_
    simp [cvT, step, res, litQ, litS, limV, ColsEq.refl, -List.getD_eq_getElem?_getD]
  refine SR.seqTo ⟨[(9, .int .i64 (limV 14 n v)), (10, .int .i64 (limV 10 n v)), (4, .int .i64 n), (5, litS nv v)], [], nid + 1800, nid⟩ ?_ ?_
  · by_cases h0 : limV 14 n v = 0
    · obtain ⟨h1, h2⟩ := limV_zero.1 h0
      have hok := patV_ok.1 h1
      have hlo := hok.lo
      have hhi := hok.hi
      obtain ⟨N, rfl⟩ : ∃ N : Nat, n = N := ⟨n.toNat, by omega⟩
      have e : fewA (N : Int) v = fewD N v := by unfold fewA; rw [if_pos ⟨h1, h2⟩, Int.toNat_natCast]; exact few_doc hok h2
      have hf := fun m => fewestOf_I nv v N m h2 (by omega) (fun s hs => by have := (hok.row s hs).1; omega)
      have hdl : (fewD N v).length ≤ v.length := fewG_len _ _
      have hq := fun nb m => equalQ_c na nb (fewD N v) (fewD N v) m (by omega) (by omega)
      rw [beq_self_eq_true] at hq
      rw [h0, e]
      generalize fewD N v = D at *
      unfold litQ litS at *
      simp -dsimp only [aqT, aqU, aqN, aqS, ↓seqK, ↓blkK, ↓loopK, step, stepBin, Nat.add_assoc nid, ↓reduceIte, Option.toList, ← Int.ofNat_tmod, ← Int.ofNat_tdiv, simprocAttr, BEq.rfl, LN_succ]
      refine CallO.any (hf _) (fun id b h => by simp [getH] at h) (fun nb _ => ?_)
      simp -dsimp only [aqT, aqU, aqN, aqS, ↓seqK, ↓blkK, ↓loopK, step, stepBin, Nat.add_assoc nid, ↓reduceIte, Option.toList, ← Int.ofNat_tmod, ← Int.ofNat_tdiv, simprocAttr, BEq.rfl, LN_succ]
      refine CallO.pure (hq nb _) ?_
      simp -dsimp only [aqT, aqU, aqN, aqS, ↓seqK, ↓blkK, ↓loopK, step, stepBin, Nat.add_assoc nid, ↓reduceIte, Option.toList, ← Int.ofNat_tmod, ← Int.ofNat_tdiv, simprocAttr, BEq.rfl, LN_succ]
      refine Cov.go [] [] ?_
      simp [cvT, step, res, litS, ColsEq.refl, -List.getD_eq_getElem?_getD]
    · have e : fewA n v = [] := by unfold fewA; rw [if_neg (fun h => h0 (limV_zero.2 h))]
      rw [e]
      generalize limV 14 n v = L at *
      have hb : (L == 0) = false := by simpa using h0
      unfold litQ litS
      simp -dsimp only [aqT, aqU, aqN, aqS, ↓seqK, ↓blkK, ↓loopK, step, stepBin, Nat.add_assoc nid, ↓reduceIte, Option.toList, ← Int.ofNat_tmod, ← Int.ofNat_tdiv, simprocAttr, BEq.rfl, LN_succ, bne_self_eq_false, hb]
      refine S2.yes (by simpa using h0) ?_
      simp -dsimp only [aqT, aqU, aqN, aqS, ↓seqK, ↓blkK, ↓loopK, step, stepBin, Nat.add_assoc nid, ↓reduceIte, Option.toList, ← Int.ofNat_tmod, ← Int.ofNat_tdiv, simprocAttr, BEq.rfl, LN_succ]
      refine Cov.go [] [] ?_
      simp [cvT, step, res, litS, ColsEq.refl, -List.getD_eq_getElem?_getD]
  by_cases ht : limV 10 n v = 0
  · obtain ⟨h1, h2⟩ := limV_zero.1 ht
    rw [ht]
    by_cases h6 : 6 < v.length
    · refine SR.run (t := .mk) ?_
      unfold litS
      simp -dsimp only [aqT, aqU, aqN, aqS, ↓seqK, ↓blkK, ↓loopK, step, stepBin, Nat.add_assoc nid, ↓reduceIte, Option.toList, ← Int.ofNat_tmod, ← Int.ofNat_tdiv, simprocAttr, BEq.rfl, LN_succ]
      refine S2.yes (by simp; omega) ?_
      simp -dsimp only [aqT, aqU, aqN, aqS, ↓seqK, ↓blkK, ↓loopK, step, stepBin, Nat.add_assoc nid, ↓reduceIte, Option.toList, ← Int.ofNat_tmod, ← Int.ofNat_tdiv, simprocAttr, BEq.rfl, LN_succ]
      refine CallO.pure (patternedC_c _) ?_
      simp -dsimp only [aqT, aqU, aqN, aqS, ↓seqK, ↓blkK, ↓loopK, step, stepBin, Nat.add_assoc nid, ↓reduceIte, Option.toList, ← Int.ofNat_tmod, ← Int.ofNat_tdiv, simprocAttr, BEq.rfl, LN_succ]
      refine RetOK.pure (.inl rfl) rfl ?_
      simp [cvT, step, res]
    · have hok := patV_ok.1 h1
      have hlo := hok.lo
      have hhi := hok.hi
      obtain ⟨N, rfl⟩ : ∃ N : Nat, n = N := ⟨n.toNat, by omega⟩
      have hrow : ∀ s ∈ v, s.length = N := fun s hs => by have := (hok.row s hs).1; omega
      have hord := fun m => order_any nv v N m hrow (by omega) h2 h1
      have hil : (intsO (ordW v)).length = v.length := by unfold intsO; rw [List.length_map, (ordW_facts hrow).1]
      refine SR.seqTo ⟨[(10, .int .i64 0), (4, .int .i64 (N : Nat)), (5, litS nv v)], [], nid + 2000, nid⟩ ?_ ?_
      · unfold litS
        simp -dsimp only [aqT, aqU, aqN, aqS, ↓seqK, ↓blkK, ↓loopK, step, stepBin, Nat.add_assoc nid, ↓reduceIte, Option.toList, ← Int.ofNat_tmod, ← Int.ofNat_tdiv, simprocAttr, BEq.rfl, LN_succ]
        refine S2.no (by simp; omega) ?_
        simp -dsimp only [aqT, aqU, aqN, aqS, ↓seqK, ↓blkK, ↓loopK, step, stepBin, Nat.add_assoc nid, ↓reduceIte, Option.toList, ← Int.ofNat_tmod, ← Int.ofNat_tdiv, simprocAttr, BEq.rfl, LN_succ]
        refine Cov.go [] [] ?_
        simp [cvT, step, res, litS, ColsEq.refl, -List.getD_eq_getElem?_getD]
      refine SR.seqTo ⟨[(11, .sl (nid + 24) 0 v.length), (12, .int .i64 (sumW v)), (13, .int .i64 0), (10, .int .i64 0), (5, litS nv v)], [(nid + 24, arrI (intsO (ordW v)))], nid + 2400, nid⟩ ?_ ?_
      · unfold litS at *
        simp -dsimp only [aqT, aqU, aqN, aqS, ↓seqK, ↓blkK, ↓loopK, step, stepBin, Nat.add_assoc nid, ↓reduceIte, Option.toList, ← Int.ofNat_tmod, ← Int.ofNat_tdiv, simprocAttr, BEq.rfl, LN_succ]
        refine CallO.pure (hord _) ?_
        unfold arrI
        simp -dsimp only [aqT, aqU, aqN, aqS, ↓seqK, ↓blkK, ↓loopK, step, stepBin, Nat.add_assoc nid, ↓reduceIte, Option.toList, ← Int.ofNat_tmod, ← Int.ofNat_tdiv, simprocAttr, BEq.rfl, LN_succ]
        refine Cov.go [(nid + 24, nid + 2008)] [] ?_
        simp [cvT, step, res, arrI, hil, litS, ColsEq.refl, -List.getD_eq_getElem?_getD]
      unfold arrI
      rw [hil]
      refine SR.freezeB [nid + 24] (fun nl' => ?_)
      simp only [frzS, frzH, frzBlk, lends, lend, kill, noOs, litS, aqT, aqU, aqN, aqS, ↓seqK, ↓blkK, ↓loopK, step, stepBin, Nat.add_assoc nid, ↓reduceIte, Option.toList, ← Int.ofNat_tmod, ← Int.ofNat_tdiv, simprocAttr, BEq.rfl, LN_succ]
      generalize nl' (nid + 24) = no
      refine SR.seqTo ⟨[(11, .lit no v.length [.i .i64 fun i => (intsO (ordW v)).getD i 0]), (12, .int .i64 (sumW v)), (13, .int .i64 0), (5, litS nv v)], [], nid + 2800, nid⟩ ?_ ?_
      · simp -dsimp only [aqT, aqU, aqN, aqS, ↓seqK, ↓blkK, ↓loopK, step, stepBin, Nat.add_assoc nid, ↓reduceIte, Option.toList, ← Int.ofNat_tmod, ← Int.ofNat_tdiv, simprocAttr, BEq.rfl, LN_succ]
        refine Cov.go [] [] ?_
        simp [cvT, step, res, litS, ColsEq.refl, -List.getD_eq_getElem?_getD]
      refine SR.run (t := .mk) ?_
      by_cases h0 : v.length = 0
      · have hv0 : v = [] := List.eq_nil_of_length_eq_zero h0
        subst hv0
        have hs : sumW [] = 0 := rfl
        rw [hs]
        have hoo := fun m => orderOf_0 nv m
        unfold litS at *
        simp -dsimp only [aqT, aqU, aqN, aqS, ↓seqK, ↓blkK, ↓loopK, step, stepBin, Nat.add_assoc nid, ↓reduceIte, Option.toList, ← Int.ofNat_tmod, ← Int.ofNat_tdiv, simprocAttr, BEq.rfl, LN_succ]
        refine CallO.pure (hoo _) ?_
        simp -dsimp only [aqT, aqU, aqN, aqS, ↓seqK, ↓blkK, ↓loopK, step, stepBin, Nat.add_assoc nid, ↓reduceIte, Option.toList, ← Int.ofNat_tmod, ← Int.ofNat_tdiv, simprocAttr, BEq.rfl, LN_succ]
        refine CallO.pure (equalZ_c no _ _) ?_
        simp -dsimp only [aqT, aqU, aqN, aqS, ↓seqK, ↓blkK, ↓loopK, step, stepBin, Nat.add_assoc nid, ↓reduceIte, Option.toList, ← Int.ofNat_tmod, ← Int.ofNat_tdiv, simprocAttr, BEq.rfl, LN_succ]
        refine CallO.pure (patternedC_c _) ?_
        simp -dsimp only [aqT, aqU, aqN, aqS, ↓seqK, ↓blkK, ↓loopK, step, stepBin, Nat.add_assoc nid, ↓reduceIte, Option.toList, ← Int.ofNat_tmod, ← Int.ofNat_tdiv, simprocAttr, BEq.rfl, LN_succ]
        refine RetOK.pure (.inl rfl) rfl ?_
        simp [cvT, step, res]
      · have hoo := fun m => orderOf_c nv v N m hrow (by omega) h2 (by omega)
        have e1 : ordW v = orderO v := by unfold ordW; rw [if_neg h0]
        have e2 : sumW v = sumO v := by unfold sumW; rw [if_neg h0]
        rw [e1] at hil ⊢
        rw [e2]
        have heq := fun m => equalI_c no false (intsO (orderO v)) (intsO (orderO v)) m (by omega) (by omega)
        rw [beq_self_eq_true] at heq
        unfold litI at hoo heq
        rw [hil] at hoo heq
        unfold litS at *
        simp -dsimp only [aqT, aqU, aqN, aqS, ↓seqK, ↓blkK, ↓loopK, step, stepBin, Nat.add_assoc nid, ↓reduceIte, Option.toList, ← Int.ofNat_tmod, ← Int.ofNat_tdiv, simprocAttr, BEq.rfl, LN_succ]
        refine CallO.pure (hoo _) ?_
        simp -dsimp only [aqT, aqU, aqN, aqS, ↓seqK, ↓blkK, ↓loopK, step, stepBin, Nat.add_assoc nid, ↓reduceIte, Option.toList, ← Int.ofNat_tmod, ← Int.ofNat_tdiv, simprocAttr, BEq.rfl, LN_succ]
        refine CallO.pure (heq _) ?_
        simp -dsimp only [aqT, aqU, aqN, aqS, ↓seqK, ↓blkK, ↓loopK, step, stepBin, Nat.add_assoc nid, ↓reduceIte, Option.toList, ← Int.ofNat_tmod, ← Int.ofNat_tdiv, simprocAttr, BEq.rfl, LN_succ]
        refine CallO.pure (patternedC_c _) ?_
        simp -dsimp only [aqT, aqU, aqN, aqS, ↓seqK, ↓blkK, ↓loopK, step, stepBin, Nat.add_assoc nid, ↓reduceIte, Option.toList, ← Int.ofNat_tmod, ← Int.ofNat_tdiv, simprocAttr, BEq.rfl, LN_succ]
        refine RetOK.pure (.inl rfl) rfl ?_
        simp [cvT, step, res]
  · have hb : (limV 10 n v == 0) = false := by simpa using ht
    have hob : ∀ m, ACall Tryd.prog 49 [.int .i64 n, litS nv v] [] m (.tup [.lit true 0 [], .int .i64 0, .int .i64 (limV 10 n v)]) [] := fun m => by
      by_cases h1 : patV n v = 0
      · have hl : 10 < v.length := by
          refine Classical.byContradiction fun h => ht (limV_zero.2 ⟨h1, by omega⟩)
        have e : limV 10 n v = 2 := by unfold limV; rw [if_pos h1, if_pos (by omega)]
        rw [e]
        exact order_long nv n v m (by omega) (hvr.mono (by omega)) h1 hl
      · have e : limV 10 n v = patV n v := by unfold limV; rw [if_neg h1]
        rw [e]
        exact order_bad nv n v m (by omega) (hvr.mono (by omega)) h1
    generalize limV 10 n v = L at *
    refine SR.run (t := .mk) ?_
    unfold litS at *
    simp -dsimp only [aqT, aqU, aqN, aqS, ↓seqK, ↓blkK, ↓loopK, step, stepBin, Nat.add_assoc nid, ↓reduceIte, Option.toList, ← Int.ofNat_tmod, ← Int.ofNat_tdiv, simprocAttr, BEq.rfl, LN_succ, hb]
    refine CallO.pure (hob _) ?_
    simp -dsimp only [aqT, aqU, aqN, aqS, ↓seqK, ↓blkK, ↓loopK, step, stepBin, Nat.add_assoc nid, ↓reduceIte, Option.toList, ← Int.ofNat_tmod, ← Int.ofNat_tdiv, simprocAttr, BEq.rfl, LN_succ, hb]
    refine S2.yes (by simpa using ht) ?_
    simp -dsimp only [aqT, aqU, aqN, aqS, ↓seqK, ↓blkK, ↓loopK, step, stepBin, Nat.add_assoc nid, ↓reduceIte, Option.toList, ← Int.ofNat_tmod, ← Int.ofNat_tdiv, simprocAttr, BEq.rfl, LN_succ]
    refine CallO.pure (patternedC_c _) ?_
    simp -dsimp only [aqT, aqU, aqN, aqS, ↓seqK, ↓blkK, ↓loopK, step, stepBin, Nat.add_assoc nid, ↓reduceIte, Option.toList, ← Int.ofNat_tmod, ← Int.ofNat_tdiv, simprocAttr, BEq.rfl, LN_succ]
    refine RetOK.pure (.inl rfl) rfl ?_
    simp [cvT, step, res]
end Go.Proofs.YthcldfmlfjomfaaDoor
namespace Go.Proofs.YthcldfmlfjomfaaDoor
open Go.RowKit
theorem handed_shaped {H : Type} {enc : TypeId × Value → H} {a : Assume} {C : Checked} {os : Os} {f : FuncId} {fn : Func} {s : ChangeSpec} {conds : List PathCond} {apart fresh handsOn again : Bool} {X : World → Array Value → Prop}
    (hX : ∀ (w w' : World) (args : Array Value), w.heap = w'.heap → X w args → X w' args)
    (own : ownKnob C.prog.godebug = none) (started : os.Started) (noInit : C.prog.inits.idxOf? f = none) (hfn : C.prog.funcs[f]? = some fn)
    (witness : ∃ (w : World) (tape : Tape) (i : Input), w.os = os ∧ (w.forCall tape i).Shaped C.prog ∧ i.vars = [] ∧ Input.okWide C.prog (w.forCall tape i) .any w.heap.size f i ∧
      ((s.pre enc C.prog fn conds apart (w.forCall tape i).memory i.args ∧ X (w.forCall tape i).memory i.args) ∧ sizedMet enc C.prog fn (OpenSpec.ofChange s) apart (w.forCall tape i).memory i.args) ∧ a.holds C.prog (lone (Frame.enter C.prog f i.args .normal) [] (w.forCall tape i)))
    (contract : ∀ (W : World) (base : Nat) (args : Array Value) (ds gs : List (DataW H)) (before : List MemPlace),
      (∀ (j : Nat) t v, fn.params[j]? = some t → args[j]? = some v → Value.okWide C.prog W .any base t v) →
      DataW.Whole enc C.prog fn.params.toList s.vars apart W args.toList ds gs before →
      conds.all (PathCond.test C.prog ⟨fn.params.toList, ds, s.plain.varTypes C.prog, gs⟩) = true →
      (DataW.weightsEach C.prog (fn.params.toList ++ s.plain.varTypes C.prog) (ds ++ gs)).all (· ≤ reachBytes) = true → X W args → W.ShapedOpen C.prog →
      Calls C.prog f args W fun e W' => ∃ v, e = .returned v ∧ s.post enc C.prog fn apart fresh handsOn again W args v W') :
    ReturnsInHanded a C os f .any (fun w args => (s.pre enc C.prog fn conds apart w args ∧ X w args) ∧ sizedMet enc C.prog fn (OpenSpec.ofChange s) apart w args) (s.post enc C.prog fn apart fresh handsOn again) := by
  refine returnsInHanded_of_calls own started noInit witness ?_
  intro w tape i _ hsh _ hok hpre _
  obtain ⟨_, _, _, fn', hfn', _, _, _, _, hval⟩ := hok
  have e : fn' = fn := Option.some.inj (hfn'.symm.trans hfn)
  subst e
  obtain ⟨⟨⟨ds, gs, before, hw, hc⟩, hx⟩, hz⟩ := hpre
  have hw' := DataW.Whole.of_heap (w' := w.forCall tape i) (by rfl) hw
  refine (contract (w.forCall tape i) w.heap.size i.args ds gs before hval hw' hc (hz.weights hw) (hX _ _ _ (by rfl) hx) hsh).mono fun e W' ⟨v, he, hp⟩ => ?_
  subst he
  exact ChangeSpec.post_blind hp
theorem gok_cell {W : World} {g : Nat} {m : Int} (h : W.cell? ⟨g, 0, none⟩ = some (.int .i64 m)) : g < W.heap.size ∧ ∃ o, W.heap[g]? = some o ∧ cell0 o = some (.int .i64 m) := by
  unfold World.cell? at h
  simp only at h
  split at h
  · rename_i c t f hc
    refine ⟨?_, _, hc, ?_⟩
    · rcases Nat.lt_or_ge g W.heap.size with hl | hl
      · exact hl
      · rw [Array.getElem?_eq_none hl] at hc; cases hc
    · simpa [cell0] using h
  · cases h
set_option maxRecDepth 1000000 in
theorem gok0_of {W : World} (h : W.ShapedOpen Tryd.prog) : GOK0 (fun b => W.heap[b]?) W.heap.size := by
  obtain ⟨m, hm⟩ := cell_of_shapedOpen_int (g := 0) (t := 3) (zero := #[.int .i64 0]) (k := .i64) h (of_decide_eq_true (by kernel_rfl)) (by kernel_rfl) rfl (by kernel_rfl) (by kernel_rfl) Tryd.underlying3
  obtain ⟨h1, o, h2, h3⟩ := gok_cell hm
  exact ⟨o, m, h1, h2, h3⟩
theorem gok_of {W : World} (h : W.ShapedOpen Tryd.prog) : GOK (fun b => W.heap[b]?) W.heap.size := gok0_of h
end Go.Proofs.YthcldfmlfjomfaaDoor
