/-
  The places around one, the bad ones among them, by the abstract machine.
-/
import Derived.Test.YtmgfcjblclanmaaGreatWAN4
import Derived.Test.YtmgfcjblclanmaaGreatWAN3
import Derived.Test.YtmgfcjblclanmaaGreatProg
import Derived.Ground.NamesProg
import Derived.Shelf.SlSortCmp.NoneTotal
import Derived.Shelf.SlicesG.Cmp
import Derived.WalkKit
import Derived.StillTailTactics
import Derived.RegionCalls
import Derived.Deep.RegionWith
set_option linter.unusedVariables false
set_option linter.unusedSimpArgs false
set_option maxRecDepth 100000
namespace Go.Proofs.YtmgfcjblclanmaaGreat
open Go.RowKit
def neP (q p : Pt) : Bool := !(q.1 == p.1 && q.2 == p.2)
def rowAr (p : Pt) (j i : Nat) : List Pt := ((List.range i).map fun i => (p.1 - 1 + ((i : Nat) : Int), p.2 - 1 + ((j : Nat) : Int))).filter fun q => neP q p
def arTo (p : Pt) (j : Nat) : List Pt := (List.range j).flatMap fun j => rowAr p j 3
def arV (p : Pt) : List Pt := arTo p 3
theorem rowAr_succ (p : Pt) (j i : Nat) : rowAr p j (i + 1) = rowAr p j i ++ (if neP (p.1 - 1 + (i : Int), p.2 - 1 + (j : Int)) p = true then [(p.1 - 1 + (i : Int), p.2 - 1 + (j : Int))] else []) := by
  unfold rowAr
  rw [List.range_succ, List.map_append, List.filter_append]
  congr 1
  cases h : neP (p.1 - 1 + (i : Int), p.2 - 1 + (j : Int)) p <;> simp [h]
theorem arTo_succ (p : Pt) (j : Nat) : arTo p (j + 1) = arTo p j ++ rowAr p j 3 := by simp [arTo, List.range_succ]
theorem rowAr_len (p : Pt) (j i : Nat) : (rowAr p j i).length ≤ i := by
  unfold rowAr
  have := List.length_filter_le (fun q => neP q p) ((List.range i).map fun i => (p.1 - 1 + ((i : Nat) : Int), p.2 - 1 + ((j : Nat) : Int)))
  simpa using this
theorem arTo_len (p : Pt) : ∀ j, (arTo p j).length ≤ 3 * j
  | 0 => by simp [arTo]
  | j + 1 => by
    have := arTo_len p j
    have := rowAr_len p j 3
    rw [arTo_succ, List.length_append]
    omega
def PtBd (p : Pt) : Prop := -1000000 ≤ p.1 ∧ p.1 ≤ 1000000 ∧ -1000000 ≤ p.2 ∧ p.2 ≤ 1000000
theorem arV_mem {p q : Pt} (h : q ∈ arV p) : p.1 - 1 ≤ q.1 ∧ q.1 ≤ p.1 + 1 ∧ p.2 - 1 ≤ q.2 ∧ q.2 ≤ p.2 + 1 := by
  unfold arV arTo rowAr at h
  rw [List.mem_flatMap] at h
  obtain ⟨j, hj, h⟩ := h
  rw [List.mem_filter, List.mem_map] at h
  obtain ⟨⟨i, hi, rfl⟩, _⟩ := h
  have := List.mem_range.1 hi
  have := List.mem_range.1 hj
  simp only
  omega
set_option maxHeartbeats 4000000 in
theorem around_all (p : Pt) (nid : Nat) (hp : PtBd p) : ACall Tryz.prog 37 [.agg [.int .i64 p.1, .int .i64 p.2]] [] nid (.sl nid 0 (arV p).length) [(nid, arrPl (arV p))] := by
  obtain ⟨x, y⟩ := p
  obtain ⟨p1, p2, p3, p4⟩ := hp
  simp only at p1 p2 p3 p4
  refine acall_run c37 (by simp [a37]) ?_
  simp -dsimp only [a37, aqT, aqU, aqN, aqS, ↓seqK, ↓blkK, ↓loopK, step, stepBin, Nat.add_assoc nid, ↓reduceIte, Option.toList, ← Int.ofNat_tmod, ← Int.ofNat_tdiv, simprocAttr, BEq.rfl, LN_succ]
  refine ⟨by unfold inI64; omega, LP.mkP (fun j : Nat => j ≤ 3) (fun j : Nat => ⟨[(4, .int .i64 (y - 1 + (j : Int))), (3, .sl (nid + 8) 0 (arTo (x, y) j).length), (1, .ptr nid 0)], [(nid, some (.box 54 [.int .i64 x, .int .i64 y])), (nid + 8, arrPl (arTo (x, y) j))], nid + 100, nid⟩) (fun j => 4 - j) 0 (by omega) (Cov.go [] [(nid + 8, 2)] ?_) (fun j hj => ?_)⟩
  · simp [cvT, step, res, arrPl, arTo]
  have hAs := arTo_succ (x, y) j
  have hV : arV (x, y) = arTo (x, y) 3 := rfl
  have hAl := arTo_len (x, y) j
  generalize hTd : arTo (x, y) j = T at *
  unfold arrPl
  simp -dsimp only [aqT, aqU, aqN, aqS, ↓seqK, ↓blkK, ↓loopK, step, stepBin, Nat.add_assoc nid, ↓reduceIte, Option.toList, ← Int.ofNat_tmod, ← Int.ofNat_tdiv, simprocAttr, BEq.rfl, LN_succ]
  refine ⟨by unfold inI64; omega, S2.dec (fun h1 => ?_) (fun h1 => ?_)⟩ <;> simp -dsimp only [aqT, aqU, aqN, aqS, ↓seqK, ↓blkK, ↓loopK, step, stepBin, Nat.add_assoc nid, ↓reduceIte, Option.toList, ← Int.ofNat_tmod, ← Int.ofNat_tdiv, simprocAttr, BEq.rfl, LN_succ]
  · refine ⟨by unfold inI64; omega, LP.mkP (fun i : Nat => i ≤ 3) (fun i : Nat => ⟨[(5, .int .i64 (x - 1 + (i : Int))), (4, .int .i64 (y - 1 + (j : Int))), (3, .sl (nid + 8) 0 (T ++ rowAr (x, y) j i).length), (1, .ptr nid 0)], [(nid, some (.box 54 [.int .i64 x, .int .i64 y])), (nid + 8, arrPl (T ++ rowAr (x, y) j i))], nid + 300, nid⟩) (fun i => 4 - i) 0 (by omega) (Cov.go [] [] ?_) (fun i hi => ?_)⟩
    · simp [cvT, step, res, arrPl, rowAr]
    have hRs := rowAr_succ (x, y) j i
    have hRl := rowAr_len (x, y) j i
    have hTl : (T ++ rowAr (x, y) j i).length ≤ 20 := by rw [List.length_append]; omega
    unfold arrPl
    simp -dsimp only [aqT, aqU, aqN, aqS, ↓seqK, ↓blkK, ↓loopK, step, stepBin, Nat.add_assoc nid, ↓reduceIte, Option.toList, ← Int.ofNat_tmod, ← Int.ofNat_tdiv, simprocAttr, BEq.rfl, LN_succ]
    refine ⟨by unfold inI64; omega, S2.dec (fun h2 => ?_) (fun h2 => ?_)⟩ <;> simp -dsimp only [aqT, aqU, aqN, aqS, ↓seqK, ↓blkK, ↓loopK, step, stepBin, Nat.add_assoc nid, ↓reduceIte, Option.toList, ← Int.ofNat_tmod, ← Int.ofNat_tdiv, simprocAttr, BEq.rfl, LN_succ]
    · have hne : (!(x - 1 + (i : Int) == x && y - 1 + (j : Int) == y)) = neP (x - 1 + (i : Int), y - 1 + (j : Int)) (x, y) := rfl
      rw [hne]
      have hAp : T ++ rowAr (x, y) j (i + 1) = (T ++ rowAr (x, y) j i) ++ (if neP (x - 1 + (i : Int), y - 1 + (j : Int)) (x, y) = true then [(x - 1 + (i : Int), y - 1 + (j : Int))] else []) := by rw [hRs, List.append_assoc]
      generalize hLd : T ++ rowAr (x, y) j i = L at *
      cases hN : neP (x - 1 + (i : Int), y - 1 + (j : Int)) (x, y) <;> rw [hN] at hAp <;> simp -dsimp only [aqT, aqU, aqN, aqS, ↓seqK, ↓blkK, ↓loopK, step, stepBin, Nat.add_assoc nid, ↓reduceIte, Option.toList, ← Int.ofNat_tmod, ← Int.ofNat_tdiv, simprocAttr, BEq.rfl, LN_succ]
      · rw [if_neg (by simp), List.append_nil] at hAp
        refine ⟨by unfold inI64; omega, i + 1, ⟨by omega, by omega⟩, Cov.go [] [] ?_⟩
        simp [cvT, step, res, arrPl, hAp, -List.getD_eq_getElem?_getD]
        omega
      · rw [if_pos rfl] at hAp
        rw [getD_appP L (x - 1 + (i : Int), y - 1 + (j : Int)) rfl (fun q => q.1) rfl rfl, getD_appP L (x - 1 + (i : Int), y - 1 + (j : Int)) rfl (fun q => q.2) rfl rfl, ← hAp]
        have hl3 : (T ++ rowAr (x, y) j (i + 1)).length = L.length + 1 := by rw [hAp]; simp
        refine ⟨⟨by omega, by omega⟩, by unfold inI64; omega, i + 1, ⟨by omega, by omega⟩, Cov.go [(nid + 8, nid + 364)] [] ?_⟩
        simp [cvT, step, res, arrPl, hl3, -List.getD_eq_getElem?_getD, -List.length_append]
        omega
    · have hi3 : i = 3 := by omega
      subst hi3
      rw [← hAs]
      refine ⟨by unfold inI64; omega, j + 1, ⟨by omega, by omega⟩, Cov.go [] [] ?_⟩
      simp [cvT, step, res, arrPl, -List.getD_eq_getElem?_getD]
      omega
  · have hj3 : j = 3 := by omega
    subst hj3
    rw [hV, hTd]
    refine RetOK.go [(nid, nid + 8)] [] (.inl rfl) ?_
    simp [cvT, step, res, a37, arrPl, -List.getD_eq_getElem?_getD]
theorem failed_c (nl : Bool) (W : Waf) (c : Int) (nid : Nat) : ACall Tryz.prog 35 [wafP nl W, .int .u8 c] [] nid (.bool (failedV W.pass c)) [] := by
  refine acall_run c35 (by simp [a35]) ?_
  unfold wafP
  simp -dsimp only [a35, aqT, aqU, aqN, aqS, ↓seqK, ↓blkK, ↓loopK, step, stepBin, Nat.add_assoc nid, ↓reduceIte, Option.toList, ← Int.ofNat_tmod, ← Int.ofNat_tdiv, simprocAttr, BEq.rfl, LN_succ]
  refine CallO.pure (isBin_c _ _) ?_
  unfold failedV
  cases h : isBinV c <;> simp -dsimp only [aqT, aqU, aqN, aqS, ↓seqK, ↓blkK, ↓loopK, step, stepBin, Nat.add_assoc nid, ↓reduceIte, Option.toList, ← Int.ofNat_tmod, ← Int.ofNat_tdiv, simprocAttr, BEq.rfl, LN_succ]
  · refine RetOK.go [] [] (.inl rfl) ?_
    simp [a35, cvT, step, res]
  · refine CallO.pure (passed_c _ _ _ _ _ _ _ rfl) ?_
    simp -dsimp only [aqT, aqU, aqN, aqS, ↓seqK, ↓blkK, ↓loopK, step, stepBin, Nat.add_assoc nid, ↓reduceIte, Option.toList, ← Int.ofNat_tmod, ← Int.ofNat_tdiv, simprocAttr, BEq.rfl, LN_succ]
    refine RetOK.go [] [] (.inl rfl) ?_
    simp [a35, cvT, step, res]
def badP (W : Waf) (p : Pt) : Bool := failedV W.pass (dieV W p.1 p.2)
theorem PtBd.ar {p q : Pt} (h : PtBd p) (hq : q ∈ arV p) : inI64 q.1 ∧ inI64 q.2 := by
  obtain ⟨h1, h2, h3, h4⟩ := h
  have := arV_mem hq
  unfold inI64
  omega
theorem arV_len (p : Pt) : (arV p).length ≤ 9 := arTo_len p 3
set_option maxHeartbeats 4000000 in
theorem badN_all (nl : Bool) (W : Waf) (p : Pt) (nid : Nat) (hW : WafOk W) (hp : PtBd p) : ACall Tryz.prog 43 [wafP nl W, .agg [.int .i64 p.1, .int .i64 p.2]] [] nid (.int .i64 (cntN (badP W) (arV p) : Nat)) [] := by
  have hl := arV_len p
  refine acall_run c43 (by simp [a43]) ?_
  unfold wafP
  simp -dsimp only [a43, aqT, aqU, aqN, aqS, ↓seqK, ↓blkK, ↓loopK, step, stepBin, Nat.add_assoc nid, ↓reduceIte, Option.toList, ← Int.ofNat_tmod, ← Int.ofNat_tdiv, simprocAttr, BEq.rfl, LN_succ]
  refine CallO.pure (around_all p _ hp) ?_
  have hin := fun q hq => hp.ar (q := q) hq
  generalize arV p = l at *
  unfold arrPl
  simp -dsimp only [aqT, aqU, aqN, aqS, ↓seqK, ↓blkK, ↓loopK, step, stepBin, Nat.add_assoc nid, ↓reduceIte, Option.toList, ← Int.ofNat_tmod, ← Int.ofNat_tdiv, simprocAttr, BEq.rfl, LN_succ]
  refine LP.mkP (fun k : Nat => k ≤ l.length) (fun k : Nat => ⟨[(11, .int .i64 k), (10, .int .i64 l.length), (9, .sl (nid + 20) 0 l.length), (5, .int .i64 (cntTo (badP W) l k : Nat)), (2, .ptr nid 0)], [(nid, boxW nl W), (nid + 20, arrPl l)], nid + 100, nid⟩) (fun k => l.length + 1 - k) 0 (by omega) (Cov.go [] [] ?_) (fun k hk => ?_)
  · simp [cvT, step, res, arrPl, boxW, cntTo_zero]
  unfold arrPl boxW
  simp -dsimp only [aqT, aqU, aqN, aqS, ↓seqK, ↓blkK, ↓loopK, step, stepBin, Nat.add_assoc nid, ↓reduceIte, Option.toList, ← Int.ofNat_tmod, ← Int.ofNat_tdiv, simprocAttr, BEq.rfl, LN_succ]
  refine S2.dec (fun h1 => ?_) (fun h1 => ?_) <;> simp -dsimp only [aqT, aqU, aqN, aqS, ↓seqK, ↓blkK, ↓loopK, step, stepBin, Nat.add_assoc nid, ↓reduceIte, Option.toList, ← Int.ofNat_tmod, ← Int.ofNat_tdiv, simprocAttr, BEq.rfl, LN_succ]
  · have hkl : k < l.length := by omega
    have e1 := cntTo_succ (badP W) hkl
    have b1 := cntTo_le (badP W) l k
    obtain ⟨i1, i2⟩ := hin _ (ptMem' hkl)
    refine ⟨by omega, CallX.pure (at_all nl W _ _ _ hW i1 i2) ?_⟩
    simp -dsimp only [aqT, aqU, aqN, aqS, ↓seqK, ↓blkK, ↓loopK, step, stepBin, Nat.add_assoc nid, ↓reduceIte, Option.toList, ← Int.ofNat_tmod, ← Int.ofNat_tdiv, simprocAttr, BEq.rfl, LN_succ]
    refine CallX.pure (failed_c nl W _ _) ?_
    have g1 : failedV W.pass (dieV W (l.getD k p0).1 (l.getD k p0).2) = badP W (l.getD k p0) := rfl
    rw [g1]
    cases hA : badP W (l.getD k p0) <;> rw [hA] at e1 <;> simp -dsimp only [aqT, aqU, aqN, aqS, ↓seqK, ↓blkK, ↓loopK, step, stepBin, Nat.add_assoc nid, ↓reduceIte, Option.toList, ← Int.ofNat_tmod, ← Int.ofNat_tdiv, simprocAttr, BEq.rfl, LN_succ]
    · simp only [Bool.false_eq_true, if_false, Nat.add_zero] at e1
      refine ⟨by unfold inI64; omega, k + 1, ⟨by omega, by omega⟩, Cov.go [] [] ?_⟩
      simp [cvT, step, res, arrPl, boxW, e1]
    · simp only [if_true] at e1
      refine ⟨by unfold inI64; omega, by unfold inI64; omega, k + 1, ⟨by omega, by omega⟩, Cov.go [] [] ?_⟩
      simp [cvT, step, res, arrPl, boxW, e1]
  · have hkn : k = l.length := by omega
    subst hkn
    rw [cntTo_all]
    refine RetOK.go [] [] (.inl rfl) ?_
    simp [a43, cvT, step, res]
end Go.Proofs.YtmgfcjblclanmaaGreat
namespace Go.Proofs.YtmgfcjblclanmaaGreat
open Go.RowKit
theorem ptMem {l : List Pt} {k : Nat} (h : k < l.length) : l.getD k p0 ∈ l := by
  rw [List.getD_eq_getElem?_getD, List.getElem?_eq_getElem h]; exact List.getElem_mem _
def idxP (F : Pt → Bool) (l : List Pt) : Int := match l.findIdx? F with
  | some i => (i : Int)
  | none => -1
theorem idxP_hit {F : Pt → Bool} : ∀ {l : List Pt} {k : Nat}, k < l.length → (∀ j, j < k → F (l.getD j p0) = false) → F (l.getD k p0) = true → l.findIdx? F = some k
  | [], k, hk, _, _ => by simp at hk
  | a :: l, 0, _, _, h => by
    have h' : F a = true := by simpa using h
    simp [List.findIdx?_cons, h']
  | a :: l, k + 1, hk, hall, h => by
    have h0 : F a = false := by simpa using hall 0 (by omega)
    have := idxP_hit (F := F) (l := l) (k := k) (by simpa using hk) (fun j hj => by simpa using hall (j + 1) (by omega)) (by simpa using h)
    simp [List.findIdx?_cons, h0, this]
theorem idxP_none {F : Pt → Bool} : ∀ {l : List Pt}, (∀ j, j < l.length → F (l.getD j p0) = false) → l.findIdx? F = none
  | [], _ => rfl
  | a :: l, hall => by
    have h0 : F a = false := by simpa using hall 0 (by simp)
    have := idxP_none (F := F) (l := l) (fun j hj => by simpa using hall (j + 1) (by simpa using hj))
    simp [List.findIdx?_cons, h0, this]
def keepP (F : Pt → Bool) (l : List Pt) : List Pt := l.filter fun p => !F p
theorem keepP_len (F : Pt → Bool) (l : List Pt) : (keepP F l).length ≤ l.length := List.length_filter_le _ _
theorem keepP_succ {F : Pt → Bool} {l : List Pt} {k : Nat} (h : k < l.length) : keepP F (l.take (k + 1)) = keepP F (l.take k) ++ (if F (l.getD k p0) = true then [] else [l.getD k p0]) := by
  unfold keepP
  rw [List.take_add_one, List.getElem?_eq_getElem h, List.filter_append]
  congr 1
  have e : l.getD k p0 = l[k] := by rw [List.getD_eq_getElem?_getD, List.getElem?_eq_getElem h]; rfl
  rw [e]
  cases hf : F l[k] <;> simp [hf]
theorem keepP_all {F : Pt → Bool} {l : List Pt} {k : Nat} (hk : k ≤ l.length) (h : ∀ j, j < k → F (l.getD j p0) = false) : keepP F (l.take k) = l.take k := by
  unfold keepP
  rw [List.filter_eq_self]
  intro a ha
  obtain ⟨j, hj, rfl⟩ := List.getElem_of_mem ha
  have hj' : j < k := by rw [List.length_take] at hj; omega
  have := h j hj'
  rw [List.getD_eq_getElem?_getD, List.getElem?_eq_getElem (by omega)] at this
  simp only [List.getElem_take]
  simpa using this
def partP (F : Pt → Bool) (l : List Pt) (k : Nat) : List Pt := keepP F (l.take k) ++ l.drop (keepP F (l.take k)).length
theorem partP_len {F : Pt → Bool} {l : List Pt} {k : Nat} (hk : k ≤ l.length) : (partP F l k).length = l.length := by
  have := keepP_len F (l.take k)
  rw [List.length_take] at this
  unfold partP; rw [List.length_append, List.length_drop]; omega
theorem partP_at {F : Pt → Bool} {l : List Pt} {k : Nat} (hk : k < l.length) : (partP F l k).getD k p0 = l.getD k p0 := by
  have := keepP_len F (l.take k)
  rw [List.length_take] at this
  unfold partP
  rw [List.getD_eq_getElem?_getD, List.getElem?_append_right (by omega), List.getElem?_drop, List.getD_eq_getElem?_getD]
  congr 2
  omega
theorem partP_set {F : Pt → Bool} {l : List Pt} {k : Nat} (hk : k < l.length) (h : F (l.getD k p0) = false) : (partP F l k).set (keepP F (l.take k)).length (l.getD k p0) = partP F l (k + 1) ∧ (keepP F (l.take (k + 1))).length = (keepP F (l.take k)).length + 1 := by
  have := keepP_len F (l.take k)
  rw [List.length_take] at this
  have e := keepP_succ (F := F) hk
  rw [if_neg (by rw [h]; simp)] at e
  refine ⟨?_, by rw [e]; simp⟩
  unfold partP
  rw [e, List.set_append_right _ _ (Nat.le_refl _), Nat.sub_self, List.length_append, List.append_assoc]
  congr 1
  rw [List.drop_eq_getElem_cons (by omega : (keepP F (l.take k)).length < l.length)]
  rfl
theorem partP_skip {F : Pt → Bool} {l : List Pt} {k : Nat} (hk : k < l.length) (h : F (l.getD k p0) = true) : partP F l (k + 1) = partP F l k ∧ keepP F (l.take (k + 1)) = keepP F (l.take k) := by
  have e := keepP_succ (F := F) hk
  rw [if_pos h, List.append_nil] at e
  exact ⟨by unfold partP; rw [e], e⟩
def doneP (F : Pt → Bool) (l : List Pt) : List Pt := keepP F l ++ List.replicate (l.length - (keepP F l).length) p0
theorem doneP_len (F : Pt → Bool) (l : List Pt) : (doneP F l).length = l.length := by
  have := keepP_len F l
  unfold doneP; rw [List.length_append, List.length_replicate]; omega
theorem getD_setP (q : List Pt) (x : Pt) {i : Nat} (hi : i < q.length) (f : Pt → Int) {v : Int} (hv : v = f x) : (fun j => if j = i then v else f (q.getD j p0)) = fun j => f ((q.set i x).getD j p0) := by
  subst hv
  funext j
  simp only [List.getD_eq_getElem?_getD, List.getElem?_set]
  by_cases h : j = i
  · subst h; simp [hi]
  · rw [if_neg h, if_neg (fun e => h e.symm)]
theorem doneP_at {F : Pt → Bool} {l : List Pt} (g : Pt → Int) (h0 : g p0 = 0) : ∀ j, j < l.length → (if (keepP F l).length ≤ j ∧ j < (keepP F l).length + (l.length - (keepP F l).length) then (0 : Int) else g ((partP F l l.length).getD j p0)) = g ((doneP F l).getD j p0) := fun j hj => by
  have hk := keepP_len F l
  unfold partP doneP
  rw [List.take_length]
  simp only [List.getD_eq_getElem?_getD, List.getElem?_append]
  by_cases h : j < (keepP F l).length
  · rw [if_neg (by omega), if_pos h, if_pos h]
  · rw [if_pos ⟨by omega, by omega⟩, if_neg h, List.getElem?_replicate, if_pos (by omega)]
    simp [h0]
end Go.Proofs.YtmgfcjblclanmaaGreat
namespace Go.Proofs.YtmgfcjblclanmaaGreat
open Go.RowKit
set_option maxHeartbeats 4000000 in
theorem indexP1_c (f id ia : Nat) (nla : Bool) (A : Waf) (F : Pt → Bool) (l : List Pt) (nid : Nat) (hid : id < nid) (hia : ia < nid) (n1 : id ≠ ia) (hl : l.length ≤ 1000000)
    (hf : ∀ p ∈ l, ∀ nid', ia < nid' → ACall Tryz.prog f [.agg [.int .i64 p.1, .int .i64 p.2], .ptr ia 0] [(ia, boxW nla A)] nid' (.bool (F p)) []) :
    ACall Tryz.prog 86 [.sl id 0 l.length, .fn f [.ptr ia 0]] [(id, arrPl l), (ia, boxW nla A)] nid (.int .i64 (idxP F l)) [] := by
  obtain ⟨a1, a2, a3, a4, a5, a6, a7, a8, a9⟩ := id_all hid
  obtain ⟨b1, b2, b3, b4, b5, b6, b7, b8, b9⟩ := id_all hia
  have g1 : (id == ia) = false := by simpa using n1
  have g2 : (ia == id) = false := by simpa using fun h => n1 h.symm
  have m1 : ¬ ia = id := fun h => n1 h.symm
  refine acall_run c86 (by simp [a86]) ?_
  unfold arrPl boxW
  simp -dsimp only [a86, aqT, aqU, aqN, aqS, ↓seqK, ↓blkK, ↓loopK, step, stepBin, Nat.add_assoc nid, ↓reduceIte, Option.toList, ← Int.ofNat_tmod, ← Int.ofNat_tdiv, simprocAttr, BEq.rfl, LN_succ, a1, a2, a3, a4, a5, a6, a7, a8, a9, b1, b2, b3, b4, b5, b6, b7, b8, b9, g1, g2, n1, m1]
  refine LP.mkP (fun k : Nat => k ≤ l.length ∧ ∀ j, j < k → F (l.getD j p0) = false) (fun k : Nat => ⟨[(8, .int .i64 k), (7, .int .i64 l.length), (0, .sl id 0 l.length), (1, .fn f [.ptr ia 0])], [(id, arrPl l), (ia, boxW nla A)], nid + 100, nid⟩) (fun k => l.length + 1 - k) 0 ⟨by omega, fun j hj => by omega⟩ (Cov.go [] [] ?_) (fun k hk => ?_)
  · simp [cvT, step, res, a1, a2, a3, a4, a5, a6, a7, a8, a9, b1, b2, b3, b4, b5, b6, b7, b8, b9, g1, g2, n1, m1, arrPl, boxW]
  obtain ⟨hk, hall⟩ := hk
  unfold arrPl boxW
  simp -dsimp only [aqT, aqU, aqN, aqS, ↓seqK, ↓blkK, ↓loopK, step, stepBin, Nat.add_assoc nid, ↓reduceIte, Option.toList, ← Int.ofNat_tmod, ← Int.ofNat_tdiv, simprocAttr, BEq.rfl, LN_succ, a1, a2, a3, a4, a5, a6, a7, a8, a9, b1, b2, b3, b4, b5, b6, b7, b8, b9, g1, g2, n1, m1]
  refine S2.dec (fun h1 => ?_) (fun h1 => ?_) <;> simp -dsimp only [aqT, aqU, aqN, aqS, ↓seqK, ↓blkK, ↓loopK, step, stepBin, Nat.add_assoc nid, ↓reduceIte, Option.toList, ← Int.ofNat_tmod, ← Int.ofNat_tdiv, simprocAttr, BEq.rfl, LN_succ, a1, a2, a3, a4, a5, a6, a7, a8, a9, b1, b2, b3, b4, b5, b6, b7, b8, b9, g1, g2, n1, m1]
  · have hkl : k < l.length := by omega
    refine ⟨by omega, CallO.on (hf (l.getD k p0) (ptMem hkl) _ (by omega)) (subH_get (by simp only [aqT, aqU, aqN, aqS, ↓seqK, ↓blkK, ↓loopK, step, stepBin, Nat.add_assoc nid, ↓reduceIte, Option.toList, ← Int.ofNat_tmod, ← Int.ofNat_tdiv, simprocAttr, BEq.rfl, LN_succ, a1, a2, a3, a4, a5, a6, a7, a8, a9, b1, b2, b3, b4, b5, b6, b7, b8, b9, g1, g2, n1, m1, boxW])) ?_⟩
    simp -dsimp only [aqT, aqU, aqN, aqS, ↓seqK, ↓blkK, ↓loopK, step, stepBin, Nat.add_assoc nid, ↓reduceIte, Option.toList, ← Int.ofNat_tmod, ← Int.ofNat_tdiv, simprocAttr, BEq.rfl, LN_succ, a1, a2, a3, a4, a5, a6, a7, a8, a9, b1, b2, b3, b4, b5, b6, b7, b8, b9, g1, g2, n1, m1]
    refine S2.intro (fun h2 => ?_) (fun h2 => ?_) <;> simp -dsimp only [aqT, aqU, aqN, aqS, ↓seqK, ↓blkK, ↓loopK, step, stepBin, Nat.add_assoc nid, ↓reduceIte, Option.toList, ← Int.ofNat_tmod, ← Int.ofNat_tdiv, simprocAttr, BEq.rfl, LN_succ, a1, a2, a3, a4, a5, a6, a7, a8, a9, b1, b2, b3, b4, b5, b6, b7, b8, b9, g1, g2, n1, m1]
    · have e : idxP F l = (k : Int) := by unfold idxP; rw [idxP_hit hkl hall h2]
      rw [e]
      refine RetOK.go [] [] (.inl rfl) ?_
      simp [a86, cvT, step, res, a1, a2, a3, a4, a5, a6, a7, a8, a9, b1, b2, b3, b4, b5, b6, b7, b8, b9, g1, g2, n1, m1, arrPl, boxW]
    · refine ⟨by unfold inI64; omega, k + 1, ⟨⟨by omega, fun j hj => ?_⟩, by omega⟩, Cov.go [] [] ?_⟩
      · rcases (by omega : j < k ∨ j = k) with hj | hj
        · exact hall j hj
        · rw [hj]; exact h2
      · simp [cvT, step, res, a1, a2, a3, a4, a5, a6, a7, a8, a9, b1, b2, b3, b4, b5, b6, b7, b8, b9, g1, g2, n1, m1, arrPl, boxW]
  · have hkn : k = l.length := by omega
    subst hkn
    have e : idxP F l = -1 := by unfold idxP; rw [idxP_none hall]
    rw [e]
    refine RetOK.go [] [] (.inl rfl) ?_
    simp [a86, cvT, step, res, a1, a2, a3, a4, a5, a6, a7, a8, a9, b1, b2, b3, b4, b5, b6, b7, b8, b9, g1, g2, n1, m1, arrPl, boxW]
set_option maxHeartbeats 8000000 in
theorem deleteP1_c (f id ia : Nat) (nla : Bool) (A : Waf) (F : Pt → Bool) (l : List Pt) (nid : Nat) (hid : id < nid) (hia : ia < nid) (n1 : id ≠ ia) (hl : l.length ≤ 1000000)
    (hf : ∀ p ∈ l, ∀ nid', ia < nid' → ACall Tryz.prog f [.agg [.int .i64 p.1, .int .i64 p.2], .ptr ia 0] [(ia, boxW nla A)] nid' (.bool (F p)) []) :
    ACall Tryz.prog 76 [.sl id 0 l.length, .fn f [.ptr ia 0]] [(id, arrPl l), (ia, boxW nla A)] nid (.sl id 0 (keepP F l).length) [(id, arrPl (doneP F l))] := by
  obtain ⟨a1, a2, a3, a4, a5, a6, a7, a8, a9⟩ := id_all hid
  obtain ⟨b1, b2, b3, b4, b5, b6, b7, b8, b9⟩ := id_all hia
  have g1 : (id == ia) = false := by simpa using n1
  have g2 : (ia == id) = false := by simpa using fun h => n1 h.symm
  have m1 : ¬ ia = id := fun h => n1 h.symm
  refine acall_sr c76 (by simp [a76]) ?_
  unfold a76
  refine SR.seq ?_
  simp -dsimp only [aqT, aqU, aqN, aqS, ↓seqK, ↓blkK, ↓loopK, step, stepBin, Nat.add_assoc nid, ↓reduceIte, Option.toList, ← Int.ofNat_tmod, ← Int.ofNat_tdiv, simprocAttr, BEq.rfl, LN_succ, a1, a2, a3, a4, a5, a6, a7, a8, a9, b1, b2, b3, b4, b5, b6, b7, b8, b9, g1, g2, n1, m1]
  refine SR.seqTo ⟨[(5, .int .i64 (idxP F l)), (0, .sl id 0 l.length), (1, .fn f [.ptr ia 0])], [(id, arrPl l), (ia, boxW nla A)], nid + 100, nid⟩ ?_ ?_
  · simp -dsimp only [aqT, aqU, aqN, aqS, ↓seqK, ↓blkK, ↓loopK, step, stepBin, Nat.add_assoc nid, ↓reduceIte, Option.toList, ← Int.ofNat_tmod, ← Int.ofNat_tdiv, simprocAttr, BEq.rfl, LN_succ, a1, a2, a3, a4, a5, a6, a7, a8, a9, b1, b2, b3, b4, b5, b6, b7, b8, b9, g1, g2, n1, m1]
    refine CallO.on (indexP1_c f id ia nla A F l _ (by omega) (by omega) n1 hl hf) (fun _ _ h => h) ?_
    simp -dsimp only [aqT, aqU, aqN, aqS, ↓seqK, ↓blkK, ↓loopK, step, stepBin, Nat.add_assoc nid, ↓reduceIte, Option.toList, ← Int.ofNat_tmod, ← Int.ofNat_tdiv, simprocAttr, BEq.rfl, LN_succ, a1, a2, a3, a4, a5, a6, a7, a8, a9, b1, b2, b3, b4, b5, b6, b7, b8, b9, g1, g2, n1, m1]
    refine Cov.go [] [] ?_
    simp [cvT, step, res, a1, a2, a3, a4, a5, a6, a7, a8, a9, b1, b2, b3, b4, b5, b6, b7, b8, b9, g1, g2, n1, m1, arrPl, boxW]
  by_cases hnone : ∀ j, j < l.length → F (l.getD j p0) = false
  · have e : idxP F l = -1 := by unfold idxP; rw [idxP_none hnone]
    have hk : keepP F l = l := by
      have := keepP_all (F := F) (l := l) (Nat.le_refl _) hnone
      rwa [List.take_length] at this
    have hd : doneP F l = l := by unfold doneP; rw [hk]; simp
    rw [e, hk, hd]
    refine SR.run (t := .mk) ?_
    unfold arrPl boxW
    simp -dsimp only [aqT, aqU, aqN, aqS, ↓seqK, ↓blkK, ↓loopK, step, stepBin, Nat.add_assoc nid, ↓reduceIte, Option.toList, ← Int.ofNat_tmod, ← Int.ofNat_tdiv, simprocAttr, BEq.rfl, LN_succ, a1, a2, a3, a4, a5, a6, a7, a8, a9, b1, b2, b3, b4, b5, b6, b7, b8, b9, g1, g2, n1, m1]
    refine RetOK.go [] [] (.inl rfl) ?_
    simp [a76, cvT, step, res, a1, a2, a3, a4, a5, a6, a7, a8, a9, b1, b2, b3, b4, b5, b6, b7, b8, b9, g1, g2, n1, m1, arrPl, boxW]
  obtain ⟨i0, hi0, hi1, hi2⟩ : ∃ i, i < l.length ∧ F (l.getD i p0) = true ∧ ∀ j, j < i → F (l.getD j p0) = false := by
    cases hfi : l.findIdx? F with
    | none =>
      exfalso
      refine hnone fun j hj => ?_
      have := List.findIdx?_eq_none_iff.1 hfi (l.getD j p0) (ptMem hj)
      simpa using this
    | some i =>
      obtain ⟨h1, h2, h3⟩ := List.findIdx?_eq_some_iff_getElem.1 hfi
      refine ⟨i, h1, ?_, fun j hj => ?_⟩
      · rw [List.getD_eq_getElem?_getD, List.getElem?_eq_getElem h1]; exact h2
      · rw [List.getD_eq_getElem?_getD, List.getElem?_eq_getElem (by omega)]; simpa using h3 j hj
  have e : idxP F l = (i0 : Int) := by unfold idxP; rw [idxP_hit hi0 hi2 hi1]
  rw [e]
  have hne1 : ((i0 : Int) == -1) = false := by rw [beq_eq_false_iff_ne]; omega
  have hk0 : keepP F (l.take (i0 + 1)) = l.take i0 := by rw [(partP_skip hi0 hi1).2, keepP_all (by omega) hi2]
  have hkl0 : (keepP F (l.take (i0 + 1))).length = i0 := by rw [hk0, List.length_take]; omega
  have hp0 : partP F l (i0 + 1) = l := by unfold partP; rw [hkl0, hk0, List.take_append_drop]
  refine SR.seq ?_
  unfold arrPl boxW
  simp -dsimp only [aqT, aqU, aqN, aqS, ↓seqK, ↓blkK, ↓loopK, step, stepBin, Nat.add_assoc nid, ↓reduceIte, Option.toList, ← Int.ofNat_tmod, ← Int.ofNat_tdiv, simprocAttr, BEq.rfl, LN_succ, a1, a2, a3, a4, a5, a6, a7, a8, a9, b1, b2, b3, b4, b5, b6, b7, b8, b9, g1, g2, n1, m1, hne1]
  refine SR.seqTo ⟨[(5, .int .i64 ((keepP F l).length : Nat)), (0, .sl id 0 l.length)], [(id, arrPl (partP F l l.length)), (ia, boxW nla A)], nid + 1000, nid⟩ ?_ ?_
  · simp -dsimp only [aqT, aqU, aqN, aqS, ↓seqK, ↓blkK, ↓loopK, step, stepBin, Nat.add_assoc nid, ↓reduceIte, Option.toList, ← Int.ofNat_tmod, ← Int.ofNat_tdiv, simprocAttr, BEq.rfl, LN_succ, a1, a2, a3, a4, a5, a6, a7, a8, a9, b1, b2, b3, b4, b5, b6, b7, b8, b9, g1, g2, n1, m1]
    refine ⟨by unfold inI64; omega, ?_⟩
    refine LP.mkP (fun k : Nat => i0 + 1 ≤ k ∧ k ≤ l.length) (fun k : Nat => ⟨[(6, .int .i64 k), (5, .int .i64 ((keepP F (l.take k)).length : Nat)), (0, .sl id 0 l.length), (1, .fn f [.ptr ia 0])], [(id, arrPl (partP F l k)), (ia, boxW nla A)], nid + 300, nid⟩) (fun k => l.length + 1 - k) (i0 + 1) ⟨Nat.le_refl _, by omega⟩ (Cov.go [] [] ?_) (fun k hk => ?_)
    · rw [hkl0, hp0]
      simp [cvT, step, res, a1, a2, a3, a4, a5, a6, a7, a8, a9, b1, b2, b3, b4, b5, b6, b7, b8, b9, g1, g2, n1, m1, arrPl, boxW]
    obtain ⟨hk1, hk2⟩ := hk
    have hpl := partP_len (F := F) hk2
    have hkl := keepP_len F (l.take k)
    rw [List.length_take] at hkl
    unfold arrPl boxW
    rw [hpl]
    simp -dsimp only [aqT, aqU, aqN, aqS, ↓seqK, ↓blkK, ↓loopK, step, stepBin, Nat.add_assoc nid, ↓reduceIte, Option.toList, ← Int.ofNat_tmod, ← Int.ofNat_tdiv, simprocAttr, BEq.rfl, LN_succ, a1, a2, a3, a4, a5, a6, a7, a8, a9, b1, b2, b3, b4, b5, b6, b7, b8, b9, g1, g2, n1, m1]
    refine S2.dec (fun h1 => ?_) (fun h1 => ?_) <;> simp -dsimp only [aqT, aqU, aqN, aqS, ↓seqK, ↓blkK, ↓loopK, step, stepBin, Nat.add_assoc nid, ↓reduceIte, Option.toList, ← Int.ofNat_tmod, ← Int.ofNat_tdiv, simprocAttr, BEq.rfl, LN_succ, a1, a2, a3, a4, a5, a6, a7, a8, a9, b1, b2, b3, b4, b5, b6, b7, b8, b9, g1, g2, n1, m1]
    · have hkn : k < l.length := by omega
      rw [partP_at hkn]
      refine ⟨by omega, CallO.on (hf (l.getD k p0) (ptMem hkn) _ (by omega)) (subH_get (by simp only [aqT, aqU, aqN, aqS, ↓seqK, ↓blkK, ↓loopK, step, stepBin, Nat.add_assoc nid, ↓reduceIte, Option.toList, ← Int.ofNat_tmod, ← Int.ofNat_tdiv, simprocAttr, BEq.rfl, LN_succ, a1, a2, a3, a4, a5, a6, a7, a8, a9, b1, b2, b3, b4, b5, b6, b7, b8, b9, g1, g2, n1, m1, boxW])) ?_⟩
      simp -dsimp only [aqT, aqU, aqN, aqS, ↓seqK, ↓blkK, ↓loopK, step, stepBin, Nat.add_assoc nid, ↓reduceIte, Option.toList, ← Int.ofNat_tmod, ← Int.ofNat_tdiv, simprocAttr, BEq.rfl, LN_succ, a1, a2, a3, a4, a5, a6, a7, a8, a9, b1, b2, b3, b4, b5, b6, b7, b8, b9, g1, g2, n1, m1]
      cases hF : F (l.getD k p0) <;> simp -dsimp only [aqT, aqU, aqN, aqS, ↓seqK, ↓blkK, ↓loopK, step, stepBin, Nat.add_assoc nid, ↓reduceIte, Option.toList, ← Int.ofNat_tmod, ← Int.ofNat_tdiv, simprocAttr, BEq.rfl, LN_succ, a1, a2, a3, a4, a5, a6, a7, a8, a9, b1, b2, b3, b4, b5, b6, b7, b8, b9, g1, g2, n1, m1]
      · obtain ⟨q1, q2⟩ := partP_set hkn hF
        rw [getD_setP (partP F l k) (l.getD k p0) (by omega) (fun p => p.1) rfl, getD_setP (partP F l k) (l.getD k p0) (by omega) (fun p => p.2) rfl, q1]
        refine ⟨by omega, by unfold inI64; omega, by unfold inI64; omega, k + 1, ⟨⟨by omega, by omega⟩, by omega⟩, Cov.go [] [] ?_⟩
        rw [q2]
        simp [cvT, step, res, a1, a2, a3, a4, a5, a6, a7, a8, a9, b1, b2, b3, b4, b5, b6, b7, b8, b9, g1, g2, n1, m1, arrPl, boxW, partP_len (F := F) (l := l) (k := k + 1) (by omega), -List.getD_eq_getElem?_getD]
      · obtain ⟨q1, q2⟩ := partP_skip hkn hF
        refine ⟨by unfold inI64; omega, k + 1, ⟨⟨by omega, by omega⟩, by omega⟩, Cov.go [] [] ?_⟩
        rw [q1, q2]
        simp [cvT, step, res, a1, a2, a3, a4, a5, a6, a7, a8, a9, b1, b2, b3, b4, b5, b6, b7, b8, b9, g1, g2, n1, m1, arrPl, boxW, hpl, -List.getD_eq_getElem?_getD]
    · have hkn : k = l.length := by omega
      subst hkn
      rw [List.take_length]
      refine Cov.go [] [] ?_
      simp [cvT, step, res, a1, a2, a3, a4, a5, a6, a7, a8, a9, b1, b2, b3, b4, b5, b6, b7, b8, b9, g1, g2, n1, m1, arrPl, boxW, hpl, -List.getD_eq_getElem?_getD]
  have hpl := partP_len (F := F) (l := l) (Nat.le_refl _)
  have hkl := keepP_len F l
  unfold arrPl boxW
  rw [hpl]
  refine SR.run (t := .mk) ?_
  simp -dsimp only [aqT, aqU, aqN, aqS, ↓seqK, ↓blkK, ↓loopK, step, stepBin, Nat.add_assoc nid, ↓reduceIte, Option.toList, ← Int.ofNat_tmod, ← Int.ofNat_tdiv, simprocAttr, BEq.rfl, LN_succ, a1, a2, a3, a4, a5, a6, a7, a8, a9, b1, b2, b3, b4, b5, b6, b7, b8, b9, g1, g2, n1, m1, Col.const]
  have hlt : (keepP F l).length < l.length := by
    have e1 : keepP F l = keepP F (l.take (i0 + 1)) ++ keepP F (l.drop (i0 + 1)) := by
      unfold keepP
      rw [← List.filter_append, List.take_append_drop]
    have e2 := keepP_len F (l.drop (i0 + 1))
    rw [List.length_drop] at e2
    rw [e1, List.length_append, hkl0]
    omega
  refine ⟨⟨by omega, by omega⟩, by omega, ⟨by omega, by omega⟩, ?_⟩
  refine RetOK.go [] [] (.inl rfl) ?_
  simp [a76, cvT, step, res, a1, a2, a3, a4, a5, a6, a7, a8, a9, b1, b2, b3, b4, b5, b6, b7, b8, b9, g1, g2, n1, m1, arrPl, boxW, doneP_len, -List.getD_eq_getElem?_getD]
  exact ⟨ColEq.i (doneP_at (fun p => p.1) rfl), ColEq.i (doneP_at (fun p => p.2) rfl)⟩
end Go.Proofs.YtmgfcjblclanmaaGreat
namespace Go.Proofs.YtmgfcjblclanmaaGreat
open Go.RowKit
theorem idxP_any (F : Pt → Bool) (l : List Pt) : decide (0 ≤ idxP F l) = l.any F := by
  have h := List.findIdx?_isSome (xs := l) (p := F)
  unfold idxP
  cases hf : l.findIdx? F with
  | none => rw [hf] at h; rw [← h]; rfl
  | some i => rw [hf] at h; rw [← h]; simp
theorem containsP1_c (f id ia : Nat) (nla : Bool) (A : Waf) (F : Pt → Bool) (l : List Pt) (nid : Nat) (hid : id < nid) (hia : ia < nid) (n1 : id ≠ ia) (hl : l.length ≤ 1000000)
    (hf : ∀ p ∈ l, ∀ nid', ia < nid' → ACall Tryz.prog f [.agg [.int .i64 p.1, .int .i64 p.2], .ptr ia 0] [(ia, boxW nla A)] nid' (.bool (F p)) []) :
    ACall Tryz.prog 63 [.sl id 0 l.length, .fn f [.ptr ia 0]] [(id, arrPl l), (ia, boxW nla A)] nid (.bool (l.any F)) [] := by
  obtain ⟨a1, a2, a3, a4, a5, a6, a7, a8, a9⟩ := id_all hid
  obtain ⟨b1, b2, b3, b4, b5, b6, b7, b8, b9⟩ := id_all hia
  have g1 : (id == ia) = false := by simpa using n1
  have g2 : (ia == id) = false := by simpa using fun h => n1 h.symm
  have m1 : ¬ ia = id := fun h => n1 h.symm
  refine acall_run c63 (by simp [a63]) ?_
  simp -dsimp only [a63, aqT, aqU, aqN, aqS, ↓seqK, ↓blkK, ↓loopK, step, stepBin, Nat.add_assoc nid, ↓reduceIte, Option.toList, ← Int.ofNat_tmod, ← Int.ofNat_tdiv, simprocAttr, BEq.rfl, LN_succ]
  refine CallO.on (indexP1_c f id ia nla A F l _ (by omega) (by omega) n1 hl hf) (fun _ _ h => h) ?_
  simp -dsimp only [aqT, aqU, aqN, aqS, ↓seqK, ↓blkK, ↓loopK, step, stepBin, Nat.add_assoc nid, ↓reduceIte, Option.toList, ← Int.ofNat_tmod, ← Int.ofNat_tdiv, simprocAttr, BEq.rfl, LN_succ]
  refine RetOK.go [] [] (.inl rfl) ?_
  have e := idxP_any F l
  generalize idxP F l = i at *
  rw [← e]
  simp [a63, cvT, step, res, a1, a2, a3, a4, a5, a6, a7, a8, a9, b1, b2, b3, b4, b5, b6, b7, b8, b9, g1, g2, n1, m1, arrPl, boxW]
def noneP (W : Waf) (p : Pt) : Bool := dieV W p.1 p.2 == 46
theorem edgeN_c (ia : Nat) (nl : Bool) (W : Waf) (p : Pt) (nid : Nat) (hia : ia < nid) (hW : WafOk W) (hx : inI64 p.1) (hy : inI64 p.2) : ACall Tryz.prog 78 [.agg [.int .i64 p.1, .int .i64 p.2], .ptr ia 0] [(ia, boxW nl W)] nid (.bool (noneP W p)) [] := by
  obtain ⟨a1, a2, a3, a4, a5, a6, a7, a8, a9⟩ := id_all hia
  refine acall_run c78 (by simp [a78]) ?_
  unfold boxW
  simp -dsimp only [a78, aqT, aqU, aqN, aqS, ↓seqK, ↓blkK, ↓loopK, step, stepBin, Nat.add_assoc nid, ↓reduceIte, Option.toList, ← Int.ofNat_tmod, ← Int.ofNat_tdiv, simprocAttr, BEq.rfl, LN_succ, a1, a2, a3, a4, a5, a6, a7, a8, a9]
  refine CallO.pure (at_all nl W _ _ _ hW hx hy) ?_
  simp -dsimp only [aqT, aqU, aqN, aqS, ↓seqK, ↓blkK, ↓loopK, step, stepBin, Nat.add_assoc nid, ↓reduceIte, Option.toList, ← Int.ofNat_tmod, ← Int.ofNat_tdiv, simprocAttr, BEq.rfl, LN_succ, a1, a2, a3, a4, a5, a6, a7, a8, a9]
  refine RetOK.go [] [] (.inl rfl) ?_
  simp [a78, cvT, step, res, a1, a2, a3, a4, a5, a6, a7, a8, a9, noneP]
def innerP (W : Waf) (p : Pt) : Bool := noneP W p || !(arV p).any (noneP W)
theorem edgeF_c (ia : Nat) (nl : Bool) (W : Waf) (p : Pt) (nid : Nat) (hia : ia < nid) (hW : WafOk W) (hp : PtBd p) : ACall Tryz.prog 77 [.agg [.int .i64 p.1, .int .i64 p.2], .ptr ia 0] [(ia, boxW nl W)] nid (.bool (innerP W p)) [] := by
  obtain ⟨a1, a2, a3, a4, a5, a6, a7, a8, a9⟩ := id_all hia
  have hpi : inI64 p.1 ∧ inI64 p.2 := by obtain ⟨h1, h2, h3, h4⟩ := hp; unfold inI64; omega
  have hl := arV_len p
  refine acall_run c77 (by simp [a77]) ?_
  unfold boxW
  simp -dsimp only [a77, aqT, aqU, aqN, aqS, ↓seqK, ↓blkK, ↓loopK, step, stepBin, Nat.add_assoc nid, ↓reduceIte, Option.toList, ← Int.ofNat_tmod, ← Int.ofNat_tdiv, simprocAttr, BEq.rfl, LN_succ, a1, a2, a3, a4, a5, a6, a7, a8, a9]
  refine CallO.pure (at_all nl W _ _ _ hW hpi.1 hpi.2) ?_
  have g : (dieV W p.1 p.2 == 46) = noneP W p := rfl
  simp -dsimp only [aqT, aqU, aqN, aqS, ↓seqK, ↓blkK, ↓loopK, step, stepBin, Nat.add_assoc nid, ↓reduceIte, Option.toList, ← Int.ofNat_tmod, ← Int.ofNat_tdiv, simprocAttr, BEq.rfl, LN_succ, a1, a2, a3, a4, a5, a6, a7, a8, a9]
  rw [g]
  unfold innerP
  cases h : noneP W p <;> simp -dsimp only [aqT, aqU, aqN, aqS, ↓seqK, ↓blkK, ↓loopK, step, stepBin, Nat.add_assoc nid, ↓reduceIte, Option.toList, ← Int.ofNat_tmod, ← Int.ofNat_tdiv, simprocAttr, BEq.rfl, LN_succ, a1, a2, a3, a4, a5, a6, a7, a8, a9]
  · refine CallO.pure (around_all p _ hp) ?_
    have hin := fun q hq => hp.ar (q := q) hq
    unfold arrPl
    simp -dsimp only [aqT, aqU, aqN, aqS, ↓seqK, ↓blkK, ↓loopK, step, stepBin, Nat.add_assoc nid, ↓reduceIte, Option.toList, ← Int.ofNat_tmod, ← Int.ofNat_tdiv, simprocAttr, BEq.rfl, LN_succ, a1, a2, a3, a4, a5, a6, a7, a8, a9]
    refine CallO.on (containsP1_c 78 (nid + 32) ia nl W (noneP W) (arV p) _ (by omega) (by omega) (by omega) (by omega) (fun q hq nid' h' => edgeN_c ia nl W q nid' h' hW (hin q hq).1 (hin q hq).2)) (subH_cons (by simp only [aqT, aqU, aqN, aqS, ↓seqK, ↓blkK, ↓loopK, step, stepBin, Nat.add_assoc nid, ↓reduceIte, Option.toList, ← Int.ofNat_tmod, ← Int.ofNat_tdiv, simprocAttr, BEq.rfl, LN_succ, a1, a2, a3, a4, a5, a6, a7, a8, a9, arrPl]) (subH_get (by simp only [aqT, aqU, aqN, aqS, ↓seqK, ↓blkK, ↓loopK, step, stepBin, Nat.add_assoc nid, ↓reduceIte, Option.toList, ← Int.ofNat_tmod, ← Int.ofNat_tdiv, simprocAttr, BEq.rfl, LN_succ, a1, a2, a3, a4, a5, a6, a7, a8, a9, boxW]))) ?_
    simp -dsimp only [aqT, aqU, aqN, aqS, ↓seqK, ↓blkK, ↓loopK, step, stepBin, Nat.add_assoc nid, ↓reduceIte, Option.toList, ← Int.ofNat_tmod, ← Int.ofNat_tdiv, simprocAttr, BEq.rfl, LN_succ, a1, a2, a3, a4, a5, a6, a7, a8, a9]
    refine RetOK.go [] [] (.inl rfl) ?_
    simp [a77, cvT, step, res, a1, a2, a3, a4, a5, a6, a7, a8, a9]
  · refine RetOK.go [] [] (.inl rfl) ?_
    simp [a77, cvT, step, res, a1, a2, a3, a4, a5, a6, a7, a8, a9]
theorem plV_bd {W : Waf} (hW : WafOk W) {p : Pt} (h : p ∈ plV W) : PtBd p := by
  obtain ⟨x, y, rfl, h1, h2⟩ := plV_mem h
  have := (hW.at h1).1
  have := hW.wide.2
  have := hW.len
  unfold PtBd
  simp only
  omega
def edgeL (W : Waf) : List Pt := keepP (innerP W) (plV W)
theorem edge_all (nl : Bool) (W : Waf) (nid : Nat) (hW : WafOk W) : ACall Tryz.prog 44 [wafP nl W] [] nid (.sl nid 0 (edgeL W).length) [(nid, arrPl (doneP (innerP W) (plV W)))] := by
  have hlb := plTo_bd hW (Nat.le_refl _)
  have hl : (plV W).length ≤ 60000 := hlb
  refine acall_run c44 (by simp [a44]) ?_
  unfold wafP
  simp -dsimp only [a44, aqT, aqU, aqN, aqS, ↓seqK, ↓blkK, ↓loopK, step, stepBin, Nat.add_assoc nid, ↓reduceIte, Option.toList, ← Int.ofNat_tmod, ← Int.ofNat_tdiv, simprocAttr, BEq.rfl, LN_succ]
  refine CallO.pure (places_all nl W _ hW) ?_
  unfold arrPl
  simp -dsimp only [aqT, aqU, aqN, aqS, ↓seqK, ↓blkK, ↓loopK, step, stepBin, Nat.add_assoc nid, ↓reduceIte, Option.toList, ← Int.ofNat_tmod, ← Int.ofNat_tdiv, simprocAttr, BEq.rfl, LN_succ]
  refine CallO.on (deleteP1_c 77 (nid + 12) nid nl W (innerP W) (plV W) _ (by omega) (by omega) (by omega) (by omega) (fun q hq nid' h' => edgeF_c nid nl W q nid' h' hW (plV_bd hW hq))) (subH_cons (by simp only [aqT, aqU, aqN, aqS, ↓seqK, ↓blkK, ↓loopK, step, stepBin, Nat.add_assoc nid, ↓reduceIte, Option.toList, ← Int.ofNat_tmod, ← Int.ofNat_tdiv, simprocAttr, BEq.rfl, LN_succ, arrPl]) (subH_get (by simp only [aqT, aqU, aqN, aqS, ↓seqK, ↓blkK, ↓loopK, step, stepBin, Nat.add_assoc nid, ↓reduceIte, Option.toList, ← Int.ofNat_tmod, ← Int.ofNat_tdiv, simprocAttr, BEq.rfl, LN_succ, boxW]))) ?_
  unfold arrPl
  simp -dsimp only [aqT, aqU, aqN, aqS, ↓seqK, ↓blkK, ↓loopK, step, stepBin, Nat.add_assoc nid, ↓reduceIte, Option.toList, ← Int.ofNat_tmod, ← Int.ofNat_tdiv, simprocAttr, BEq.rfl, LN_succ]
  refine RetOK.go [(nid, nid + 12)] [] (.inl rfl) ?_
  simp [a44, cvT, step, res, edgeL, -List.getD_eq_getElem?_getD]
theorem edgeApi_all (nl : Bool) (W : Waf) (nid : Nat) (h : waferV W = 0) (hp : W.pass.length ≤ 1000000) : ACall Tryz.prog 9 [wafP nl W] [] nid (.tup [.sl nid 0 (edgeL W).length, .int .i64 0]) [(nid, arrPl (doneP (innerP W) (plV W)))] := by
  have hW := waferV_ok h
  refine acall_run c9 (by simp [a9]) ?_
  unfold wafP
  simp -dsimp only [a9, aqT, aqU, aqN, aqS, ↓seqK, ↓blkK, ↓loopK, step, stepBin, Nat.add_assoc nid, ↓reduceIte, Option.toList, ← Int.ofNat_tmod, ← Int.ofNat_tdiv, simprocAttr, BEq.rfl, LN_succ]
  refine CallO.pure (checkWafer_all nl W _ (hW.bd hp)) ?_
  rw [h]
  simp -dsimp only [aqT, aqU, aqN, aqS, ↓seqK, ↓blkK, ↓loopK, step, stepBin, Nat.add_assoc nid, ↓reduceIte, Option.toList, ← Int.ofNat_tmod, ← Int.ofNat_tdiv, simprocAttr, BEq.rfl, LN_succ]
  refine CallO.pure (edge_all nl W _ hW) ?_
  unfold arrPl
  simp -dsimp only [aqT, aqU, aqN, aqS, ↓seqK, ↓blkK, ↓loopK, step, stepBin, Nat.add_assoc nid, ↓reduceIte, Option.toList, ← Int.ofNat_tmod, ← Int.ofNat_tdiv, simprocAttr, BEq.rfl, LN_succ]
  refine RetOK.go [(nid, nid + 36)] [] (.inl rfl) ?_
  simp [a9, cvT, step, res, -List.getD_eq_getElem?_getD]
end Go.Proofs.YtmgfcjblclanmaaGreat
namespace Go.Proofs.YtmgfcjblclanmaaGreat
open Go.RowKit
set_option maxHeartbeats 4000000 in
theorem dieR_all (nl : Bool) (W : Waf) (x y : Int) (nid : Nat) (hW : WafOk W) (hx : inI64 x) (hy : inI64 y) : ACall Tryz.prog 62 [wafP nl W, .agg [.int .i64 x, .int .i64 y]] [] nid (.int .u8 (dieV W x y)) [] := by
  have hp := hW.pos
  have hl := hW.len
  obtain ⟨hw1, hw2⟩ := hW.wide
  have hw0 : wideOf W = (W.rows.getD 0 []).length := rfl
  refine acall_run c62 (by simp [a62]) ?_
  unfold wafP
  simp -dsimp only [a62, aqT, aqU, aqN, aqS, ↓seqK, ↓blkK, ↓loopK, step, stepBin, Nat.add_assoc nid, ↓reduceIte, Option.toList, ← Int.ofNat_tmod, ← Int.ofNat_tdiv, simprocAttr, BEq.rfl, LN_succ]
  refine ⟨by unfold inI64; omega, CallX.pure (in_c _ _ _ _) ?_⟩
  simp -dsimp only [aqT, aqU, aqN, aqS, ↓seqK, ↓blkK, ↓loopK, step, stepBin, Nat.add_assoc nid, ↓reduceIte, Option.toList, ← Int.ofNat_tmod, ← Int.ofNat_tdiv, simprocAttr, BEq.rfl, LN_succ, Bool.not_not]
  cases h1 : outB y 0 ((W.rows.length : Int) - 1) <;> simp -dsimp only [aqT, aqU, aqN, aqS, ↓seqK, ↓blkK, ↓loopK, step, stepBin, Nat.add_assoc nid, ↓reduceIte, Option.toList, ← Int.ofNat_tmod, ← Int.ofNat_tdiv, simprocAttr, BEq.rfl, LN_succ]
  · refine ⟨by omega, by unfold inI64; omega, CallX.pure (in_c _ _ _ _) ?_⟩
    simp -dsimp only [aqT, aqU, aqN, aqS, ↓seqK, ↓blkK, ↓loopK, step, stepBin, Nat.add_assoc nid, ↓reduceIte, Option.toList, ← Int.ofNat_tmod, ← Int.ofNat_tdiv, simprocAttr, BEq.rfl, LN_succ, Bool.not_not]
    rw [← hw0]
    cases h2 : outB x 0 ((wideOf W : Int) - 1) <;> simp -dsimp only [aqT, aqU, aqN, aqS, ↓seqK, ↓blkK, ↓loopK, step, stepBin, Nat.add_assoc nid, ↓reduceIte, Option.toList, ← Int.ofNat_tmod, ← Int.ofNat_tdiv, simprocAttr, BEq.rfl, LN_succ]
    · have hy1 : 0 ≤ y ∧ y < W.rows.length := by unfold outB at h1; simp at h1; omega
      have hx1 : 0 ≤ x ∧ x < wideOf W := by unfold outB at h2; simp at h2; omega
      have hr := (hW.at (y := y.toNat) (by omega)).1
      have e : dieV W x y = byteI ((W.rows.getD y.toNat []).getD x.toNat 0) := by unfold dieV; rw [h1, h2, if_neg (by simp), if_neg (by simp)]
      rw [e]
      refine ⟨by omega, by omega, ?_⟩
      refine RetOK.pure (.inl rfl) rfl ?_
      simp [cvT, step, res, byteI]
    · have e : dieV W x y = 46 := by unfold dieV; rw [h1, h2, if_neg (by simp), if_pos rfl]
      rw [e]
      refine RetOK.pure (.inl rfl) rfl ?_
      simp [cvT, step, res]
  · have e : dieV W x y = 46 := by unfold dieV; rw [h1, if_pos rfl]
    rw [e]
    refine RetOK.pure (.inl rfl) rfl ?_
    simp [cvT, step, res]
theorem neP_sub (x y : Int) (i j : Nat) : neP (x - 1 + (i : Int), y - 1 + (j : Int)) (x, y) = (((i : Int) - 1 != 0) || ((j : Int) - 1 != 0)) := by
  unfold neP
  by_cases h1 : (i : Int) = 1 <;> by_cases h2 : (j : Int) = 1
  · have e1 : x - 1 + (i : Int) = x := by omega
    have e2 : y - 1 + (j : Int) = y := by omega
    simp [e1, e2, h1, h2]
  · have e1 : x - 1 + (i : Int) = x := by omega
    have e2 : ¬ y - 1 + (j : Int) = y := by omega
    have e3 : ((j : Int) - 1 != 0) = true := by simp; omega
    rw [e3]
    simp [e1, e2]
  · have e1 : ¬ x - 1 + (i : Int) = x := by omega
    have e3 : ((i : Int) - 1 != 0) = true := by simp; omega
    rw [e3]
    simp [e1]
  · have e1 : ¬ x - 1 + (i : Int) = x := by omega
    have e3 : ((i : Int) - 1 != 0) = true := by simp; omega
    rw [e3]
    simp [e1]
set_option maxHeartbeats 4000000 in
theorem eight_all (p : Pt) (nid : Nat) (hp : PtBd p) : ACall Tryz.prog 54 [.agg [.int .i64 p.1, .int .i64 p.2]] [] nid (.sl nid 0 (arV p).length) [(nid, arrPl (arV p))] := by
  obtain ⟨x, y⟩ := p
  obtain ⟨p1, p2, p3, p4⟩ := hp
  simp only at p1 p2 p3 p4
  refine acall_run c54 (by simp [a54]) ?_
  simp -dsimp only [a54, aqT, aqU, aqN, aqS, ↓seqK, ↓blkK, ↓loopK, step, stepBin, Nat.add_assoc nid, ↓reduceIte, Option.toList, ← Int.ofNat_tmod, ← Int.ofNat_tdiv, simprocAttr, BEq.rfl, LN_succ]
  refine LP.mkP (fun j : Nat => j ≤ 3) (fun j : Nat => ⟨[(4, .int .i64 ((j : Int) - 1)), (3, .sl (nid + 8) 0 (arTo (x, y) j).length), (1, .ptr nid 0)], [(nid, some (.box 54 [.int .i64 x, .int .i64 y])), (nid + 8, arrPl (arTo (x, y) j))], nid + 100, nid⟩) (fun j => 4 - j) 0 (by omega) (Cov.go [] [(nid + 8, 2)] ?_) (fun j hj => ?_)
  · simp [cvT, step, res, arrPl, arTo]
  have hAs := arTo_succ (x, y) j
  have hV : arV (x, y) = arTo (x, y) 3 := rfl
  have hAl := arTo_len (x, y) j
  generalize hTd : arTo (x, y) j = T at *
  unfold arrPl
  simp -dsimp only [aqT, aqU, aqN, aqS, ↓seqK, ↓blkK, ↓loopK, step, stepBin, Nat.add_assoc nid, ↓reduceIte, Option.toList, ← Int.ofNat_tmod, ← Int.ofNat_tdiv, simprocAttr, BEq.rfl, LN_succ]
  refine S2.dec (fun h1 => ?_) (fun h1 => ?_) <;> simp -dsimp only [aqT, aqU, aqN, aqS, ↓seqK, ↓blkK, ↓loopK, step, stepBin, Nat.add_assoc nid, ↓reduceIte, Option.toList, ← Int.ofNat_tmod, ← Int.ofNat_tdiv, simprocAttr, BEq.rfl, LN_succ]
  · refine LP.mkP (fun i : Nat => i ≤ 3) (fun i : Nat => ⟨[(5, .int .i64 ((i : Int) - 1)), (4, .int .i64 ((j : Int) - 1)), (3, .sl (nid + 8) 0 (T ++ rowAr (x, y) j i).length), (1, .ptr nid 0)], [(nid, some (.box 54 [.int .i64 x, .int .i64 y])), (nid + 8, arrPl (T ++ rowAr (x, y) j i))], nid + 300, nid⟩) (fun i => 4 - i) 0 (by omega) (Cov.go [] [] ?_) (fun i hi => ?_)
    · simp [cvT, step, res, arrPl, rowAr]
    have hRs := rowAr_succ (x, y) j i
    have hRl := rowAr_len (x, y) j i
    have hTl : (T ++ rowAr (x, y) j i).length ≤ 20 := by rw [List.length_append]; omega
    have hN := neP_sub x y i j
    unfold arrPl
    simp -dsimp only [aqT, aqU, aqN, aqS, ↓seqK, ↓blkK, ↓loopK, step, stepBin, Nat.add_assoc nid, ↓reduceIte, Option.toList, ← Int.ofNat_tmod, ← Int.ofNat_tdiv, simprocAttr, BEq.rfl, LN_succ]
    refine S2.dec (fun h2 => ?_) (fun h2 => ?_)
    · have hAp : T ++ rowAr (x, y) j (i + 1) = (T ++ rowAr (x, y) j i) ++ (if neP (x - 1 + (i : Int), y - 1 + (j : Int)) (x, y) = true then [(x - 1 + (i : Int), y - 1 + (j : Int))] else []) := by rw [hRs, List.append_assoc]
      rw [hN] at hAp
      generalize hLd : T ++ rowAr (x, y) j i = L at *
      have fA : ∀ v : Int, v = x - 1 + (i : Int) → (fun k => if k < L.length then (L.getD k p0).1 else [v].getD (k - L.length) 0) = fun k => ((L ++ [(x - 1 + (i : Int), y - 1 + (j : Int))]).getD k p0).1 := fun v hv => getD_appP L (x - 1 + (i : Int), y - 1 + (j : Int)) rfl (fun q => q.1) rfl hv
      have fB : ∀ v : Int, v = y - 1 + (j : Int) → (fun k => if k < L.length then (L.getD k p0).2 else [v].getD (k - L.length) 0) = fun k => ((L ++ [(x - 1 + (i : Int), y - 1 + (j : Int))]).getD k p0).2 := fun v hv => getD_appP L (x - 1 + (i : Int), y - 1 + (j : Int)) rfl (fun q => q.2) rfl hv
      cases hb1 : ((i : Int) - 1 != 0) <;> rw [hb1] at hAp
      · cases hb2 : ((j : Int) - 1 != 0) <;> rw [hb2] at hAp
        · rw [if_neg (by simp), List.append_nil] at hAp
          simp -dsimp only [aqT, aqU, aqN, aqS, ↓seqK, ↓blkK, ↓loopK, step, stepBin, Nat.add_assoc nid, ↓reduceIte, Option.toList, ← Int.ofNat_tmod, ← Int.ofNat_tdiv, simprocAttr, BEq.rfl, LN_succ, hb1, hb2]
          refine ⟨by unfold inI64; omega, i + 1, ⟨by omega, by omega⟩, Cov.go [] [] ?_⟩
          simp [cvT, step, res, arrPl, hAp, -List.getD_eq_getElem?_getD]
          try omega
        · rw [if_pos (by simp)] at hAp
          simp -dsimp only [aqT, aqU, aqN, aqS, ↓seqK, ↓blkK, ↓loopK, step, stepBin, Nat.add_assoc nid, ↓reduceIte, Option.toList, ← Int.ofNat_tmod, ← Int.ofNat_tdiv, simprocAttr, BEq.rfl, LN_succ, hb1, hb2]
          rw [fA _ (by omega), fB _ (by omega), ← hAp]
          have hl3 : (T ++ rowAr (x, y) j (i + 1)).length = L.length + 1 := by rw [hAp]; simp
          refine ⟨by unfold inI64; omega, by unfold inI64; omega, ⟨by omega, by omega⟩, by unfold inI64; omega, i + 1, ⟨by omega, by omega⟩, Cov.go [(nid + 8, nid + 376)] [] ?_⟩
          simp [cvT, step, res, arrPl, hl3, -List.getD_eq_getElem?_getD, -List.length_append]
          try omega
      · rw [if_pos (by simp)] at hAp
        simp -dsimp only [aqT, aqU, aqN, aqS, ↓seqK, ↓blkK, ↓loopK, step, stepBin, Nat.add_assoc nid, ↓reduceIte, Option.toList, ← Int.ofNat_tmod, ← Int.ofNat_tdiv, simprocAttr, BEq.rfl, LN_succ, hb1]
        rw [fA _ (by omega), fB _ (by omega), ← hAp]
        have hl3 : (T ++ rowAr (x, y) j (i + 1)).length = L.length + 1 := by rw [hAp]; simp
        refine ⟨by unfold inI64; omega, by unfold inI64; omega, ⟨by omega, by omega⟩, by unfold inI64; omega, i + 1, ⟨by omega, by omega⟩, Cov.go [(nid + 8, nid + 376)] [] ?_⟩
        simp [cvT, step, res, arrPl, hl3, -List.getD_eq_getElem?_getD, -List.length_append]
        try omega
    · simp -dsimp only [aqT, aqU, aqN, aqS, ↓seqK, ↓blkK, ↓loopK, step, stepBin, Nat.add_assoc nid, ↓reduceIte, Option.toList, ← Int.ofNat_tmod, ← Int.ofNat_tdiv, simprocAttr, BEq.rfl, LN_succ]
      have hi3 : i = 3 := by omega
      subst hi3
      rw [← hAs]
      refine ⟨by unfold inI64; omega, j + 1, ⟨by omega, by omega⟩, Cov.go [] [] ?_⟩
      simp [cvT, step, res, arrPl, -List.getD_eq_getElem?_getD]
      try omega
  · have hj3 : j = 3 := by omega
    subst hj3
    rw [hV, hTd]
    refine RetOK.go [(nid, nid + 8)] [] (.inl rfl) ?_
    simp [cvT, step, res, a54, arrPl, -List.getD_eq_getElem?_getD]
theorem dieN (W : Waf) (x y : Int) : ∃ n : Nat, n < 256 ∧ dieV W x y = (n : Int) := by
  unfold dieV
  split
  · exact ⟨46, by omega, rfl⟩
  split
  · exact ⟨46, by omega, rfl⟩
  · exact ⟨_, UInt8.toNat_lt _, rfl⟩
theorem passedR_all (nl : Bool) (W : Waf) (p : Pt) (nid : Nat) (hW : WafOk W) (hp : inI64 p.1 ∧ inI64 p.2) : ACall Tryz.prog 57 [wafP nl W, .agg [.int .i64 p.1, .int .i64 p.2]] [] nid (.bool (goodP W p)) [] := by
  obtain ⟨n, hn, e⟩ := dieN W p.1 p.2
  have hd := fun k => dieR_all nl W p.1 p.2 k hW hp.1 hp.2
  have hpa := hW.passed hn
  have hg : goodP W p = decide (0 ≤ Lib.indexByte W.pass n.toUInt8) := by unfold goodP; rw [e, hpa]
  rw [e] at hd
  rw [hg]
  refine acall_run c57 (by simp [a57]) ?_
  unfold wafP at *
  simp -dsimp only [aqT, aqU, aqN, aqS, ↓seqK, ↓blkK, ↓loopK, step, stepBin, Nat.add_assoc nid, ↓reduceIte, Option.toList, ← Int.ofNat_tmod, ← Int.ofNat_tdiv, simprocAttr, BEq.rfl, LN_succ, a57]
  refine CallX.pure (hd _) ?_
  simp -dsimp only [aqT, aqU, aqN, aqS, ↓seqK, ↓blkK, ↓loopK, step, stepBin, Nat.add_assoc nid, ↓reduceIte, Option.toList, ← Int.ofNat_tmod, ← Int.ofNat_tdiv, simprocAttr, BEq.rfl, LN_succ]
  refine CallX.pure (indexB_c W.pass (n : Int) _) ?_
  simp -dsimp only [aqT, aqU, aqN, aqS, ↓seqK, ↓blkK, ↓loopK, step, stepBin, Nat.add_assoc nid, ↓reduceIte, Option.toList, ← Int.ofNat_tmod, ← Int.ofNat_tdiv, simprocAttr, BEq.rfl, LN_succ]
  generalize Lib.indexByte W.pass n.toUInt8 = q
  refine RetOK.pure (.inl rfl) rfl ?_
  simp [cvT, step, res]
theorem failedR_all (nl : Bool) (W : Waf) (p : Pt) (nid : Nat) (hW : WafOk W) (hp : inI64 p.1 ∧ inI64 p.2) : ACall Tryz.prog 52 [wafP nl W, .agg [.int .i64 p.1, .int .i64 p.2]] [] nid (.bool (badP W p)) [] := by
  obtain ⟨n, hn, e⟩ := dieN W p.1 p.2
  have hd := fun k => dieR_all nl W p.1 p.2 k hW hp.1 hp.2
  have hpp := fun k => passedR_all nl W p k hW hp
  have hb := bins_ok n hn
  have hg : badP W p = (isBinV (n : Int) && !goodP W p) := by unfold badP failedV goodP; rw [e]
  rw [e] at hd
  rw [hg, ← hb]
  refine acall_run c52 (by simp [a52]) ?_
  unfold wafP at *
  simp -dsimp only [aqT, aqU, aqN, aqS, ↓seqK, ↓blkK, ↓loopK, step, stepBin, Nat.add_assoc nid, ↓reduceIte, Option.toList, ← Int.ofNat_tmod, ← Int.ofNat_tdiv, simprocAttr, BEq.rfl, LN_succ, a52]
  refine CallO.pure (hd _) ?_
  simp -dsimp only [aqT, aqU, aqN, aqS, ↓seqK, ↓blkK, ↓loopK, step, stepBin, Nat.add_assoc nid, ↓reduceIte, Option.toList, ← Int.ofNat_tmod, ← Int.ofNat_tdiv, simprocAttr, BEq.rfl, LN_succ]
  refine CallO.pure (indexB_c binsL (n : Int) _) ?_
  simp -dsimp only [aqT, aqU, aqN, aqS, ↓seqK, ↓blkK, ↓loopK, step, stepBin, Nat.add_assoc nid, ↓reduceIte, Option.toList, ← Int.ofNat_tmod, ← Int.ofNat_tdiv, simprocAttr, BEq.rfl, LN_succ]
  generalize Lib.indexByte binsL n.toUInt8 = q
  refine S2.dec (fun h => ?_) (fun h => ?_) <;> simp -dsimp only [aqT, aqU, aqN, aqS, ↓seqK, ↓blkK, ↓loopK, step, stepBin, Nat.add_assoc nid, ↓reduceIte, Option.toList, ← Int.ofNat_tmod, ← Int.ofNat_tdiv, simprocAttr, BEq.rfl, LN_succ]
  · refine CallO.pure (hpp _) ?_
    simp -dsimp only [aqT, aqU, aqN, aqS, ↓seqK, ↓blkK, ↓loopK, step, stepBin, Nat.add_assoc nid, ↓reduceIte, Option.toList, ← Int.ofNat_tmod, ← Int.ofNat_tdiv, simprocAttr, BEq.rfl, LN_succ]
    have h' : 0 ≤ q := h
    refine RetOK.pure (.inl rfl) rfl ?_
    simp [cvT, step, res, h']
  · have h' : ¬ 0 ≤ q := h
    refine RetOK.pure (.inl rfl) rfl ?_
    simp [cvT, step, res, h']
theorem testedR_all (nl : Bool) (W : Waf) (p : Pt) (nid : Nat) (hW : WafOk W) (hp : inI64 p.1 ∧ inI64 p.2) : ACall Tryz.prog 84 [wafP nl W, .agg [.int .i64 p.1, .int .i64 p.2]] [] nid (.bool (allP W p)) [] := by
  obtain ⟨n, hn, e⟩ := dieN W p.1 p.2
  have hd := fun k => dieR_all nl W p.1 p.2 k hW hp.1 hp.2
  have hb := binsS_ok n hn
  have hg : allP W p = decide (0 ≤ Lib.indexByte (binsL ++ [42]) n.toUInt8) := by unfold allP testedV; rw [e, hb]
  rw [e] at hd
  rw [hg]
  refine acall_run c84 (by simp [a84]) ?_
  unfold wafP at *
  simp -dsimp only [aqT, aqU, aqN, aqS, ↓seqK, ↓blkK, ↓loopK, step, stepBin, Nat.add_assoc nid, ↓reduceIte, Option.toList, ← Int.ofNat_tmod, ← Int.ofNat_tdiv, simprocAttr, BEq.rfl, LN_succ, a84]
  refine CallO.pure (hd _) ?_
  simp -dsimp only [aqT, aqU, aqN, aqS, ↓seqK, ↓blkK, ↓loopK, step, stepBin, Nat.add_assoc nid, ↓reduceIte, Option.toList, ← Int.ofNat_tmod, ← Int.ofNat_tdiv, simprocAttr, BEq.rfl, LN_succ]
  refine CallO.pure (indexB_c (binsL ++ [42]) (n : Int) _) ?_
  simp -dsimp only [aqT, aqU, aqN, aqS, ↓seqK, ↓blkK, ↓loopK, step, stepBin, Nat.add_assoc nid, ↓reduceIte, Option.toList, ← Int.ofNat_tmod, ← Int.ofNat_tdiv, simprocAttr, BEq.rfl, LN_succ]
  generalize Lib.indexByte (binsL ++ [42]) n.toUInt8 = q
  refine RetOK.pure (.inl rfl) rfl ?_
  simp [cvT, step, res]
theorem truthW_c (b : Bool) (nid : Nat) : ACall Tryz.prog 82 [.bool b] [] nid (.int .i64 (if b = true then 1 else 0)) [] := by
  refine acall_run c82 (by simp [a82]) ?_
  simp -dsimp only [aqT, aqU, aqN, ↓seqK, ↓blkK, ↓loopK, step, stepBin, Nat.reduceBEq, Nat.reduceBeqDiff, Nat.add_assoc nid, Nat.reduceAdd, reduceCtorEq, ↓reduceIte, Nat.reduceLeDiff, Nat.reduceBneDiff, Option.toList, ← Int.ofNat_tmod, ← Int.ofNat_tdiv, Nat.reduceLT, a82]
  refine S2.intro (fun h => ?_) (fun h => ?_) <;> simp -dsimp only [aqT, aqU, aqN, ↓seqK, ↓blkK, ↓loopK, step, stepBin, Nat.reduceBEq, Nat.reduceBeqDiff, Nat.add_assoc nid, Nat.reduceAdd, reduceCtorEq, ↓reduceIte, Nat.reduceLeDiff, Nat.reduceBneDiff, Option.toList, ← Int.ofNat_tmod, ← Int.ofNat_tdiv, Nat.reduceLT]
  · refine RetOK.pure (.inl rfl) rfl ?_
    simp [cvT, step, res, h]
  · refine RetOK.pure (.inl rfl) rfl ?_
    simp [cvT, step, res, h]
theorem failedAround_all (nl : Bool) (W : Waf) (p : Pt) (nid : Nat) (hW : WafOk W) (hp : PtBd p) : ACall Tryz.prog 58 [wafP nl W, .agg [.int .i64 p.1, .int .i64 p.2]] [] nid (.int .i64 (cntN (badP W) (arV p) : Nat)) [] := by
  have hin := fun q hq => hp.ar (q := q) hq
  have hal := arV_len p
  have he := fun k => eight_all p k hp
  refine acall_run c58 (by simp [a58]) ?_
  unfold wafP
  simp -dsimp only [a58, aqT, aqU, aqN, aqS, ↓seqK, ↓blkK, ↓loopK, step, stepBin, Nat.add_assoc nid, ↓reduceIte, Option.toList, ← Int.ofNat_tmod, ← Int.ofNat_tdiv, simprocAttr, BEq.rfl, LN_succ]
  refine CallO.pure (he _) ?_
  generalize arV p = R at *
  unfold arrPl
  simp -dsimp only [aqT, aqU, aqN, aqS, ↓seqK, ↓blkK, ↓loopK, step, stepBin, Nat.add_assoc nid, ↓reduceIte, Option.toList, ← Int.ofNat_tmod, ← Int.ofNat_tdiv, simprocAttr, BEq.rfl, LN_succ]
  refine LP.mkP (fun k : Nat => k ≤ R.length) (fun k : Nat => ⟨[(11, .int .i64 k), (10, .int .i64 R.length), (9, .sl (nid + 20) 0 R.length), (5, .int .i64 (cntTo (badP W) R k : Nat)), (2, .ptr nid 0)], [(nid, boxW nl W), (nid + 20, arrPl R)], nid + 100, nid⟩) (fun k => R.length + 1 - k) 0 (by omega) (Cov.go [] [] ?_) (fun k hk => ?_)
  · simp [cvT, step, res, boxW, arrPl, cntTo_zero]
  unfold boxW arrPl
  simp -dsimp only [aqT, aqU, aqN, aqS, ↓seqK, ↓blkK, ↓loopK, step, stepBin, Nat.add_assoc nid, ↓reduceIte, Option.toList, ← Int.ofNat_tmod, ← Int.ofNat_tdiv, simprocAttr, BEq.rfl, LN_succ]
  refine S2.dec (fun h1 => ?_) (fun h1 => ?_) <;> simp -dsimp only [aqT, aqU, aqN, aqS, ↓seqK, ↓blkK, ↓loopK, step, stepBin, Nat.add_assoc nid, ↓reduceIte, Option.toList, ← Int.ofNat_tmod, ← Int.ofNat_tdiv, simprocAttr, BEq.rfl, LN_succ]
  · have hkl : k < R.length := by omega
    have e1 := cntTo_succ (badP W) hkl
    have b1 := cntTo_le (badP W) R k
    have i1 := hin _ (ptMem' hkl)
    have hf := fun m => failedR_all nl W (R.getD k p0) m hW i1
    unfold wafP at hf
    refine ⟨by omega, CallO.pure (hf _) ?_⟩
    simp -dsimp only [aqT, aqU, aqN, aqS, ↓seqK, ↓blkK, ↓loopK, step, stepBin, Nat.add_assoc nid, ↓reduceIte, Option.toList, ← Int.ofNat_tmod, ← Int.ofNat_tdiv, simprocAttr, BEq.rfl, LN_succ]
    refine CallO.pure (truthW_c _ _) ?_
    cases hG : badP W (R.getD k p0) <;> rw [hG] at e1 <;> simp -dsimp only [aqT, aqU, aqN, aqS, ↓seqK, ↓blkK, ↓loopK, step, stepBin, Nat.add_assoc nid, ↓reduceIte, Option.toList, ← Int.ofNat_tmod, ← Int.ofNat_tdiv, simprocAttr, BEq.rfl, LN_succ, if_true, if_false, Bool.false_eq_true]
    · simp only [Bool.false_eq_true, if_false, Nat.add_zero] at e1
      refine ⟨by unfold inI64; omega, by unfold inI64; omega, k + 1, ⟨by omega, by omega⟩, Cov.go [] [] ?_⟩
      simp [cvT, step, res, boxW, arrPl, e1]
    · simp only [if_true] at e1
      refine ⟨by unfold inI64; omega, by unfold inI64; omega, k + 1, ⟨by omega, by omega⟩, Cov.go [] [] ?_⟩
      simp [cvT, step, res, boxW, arrPl, e1]
  · obtain rfl : k = R.length := by omega
    rw [cntTo_all]
    refine RetOK.pure (.inl rfl) rfl ?_
    simp [cvT, step, res]
theorem filter_snoc (F : Pt → Bool) (l : List Pt) (p : Pt) : (l ++ [p]).filter F = l.filter F ++ (if F p = true then [p] else []) := by
  rw [List.filter_append]
  congr 1
  cases h : F p <;> simp [h]
set_option maxHeartbeats 4000000 in
theorem placesR_h (f : Nat) (caps : List PV) (Hs : Heap) (F : Pt → Bool) (nl : Bool) (W : Waf) (nid : Nat) (hW : WafOk W) (hs : Scoped nid Hs) (hcap : lowAll nid (idsOfs caps) = true)
    (hf : ∀ p, p ∈ plV W → ∀ nid', nid ≤ nid' → ACall Tryz.prog f (.agg [.int .i64 p.1, .int .i64 p.2] :: caps) Hs nid' (.bool (F p)) []) :
    ACall Tryz.prog 50 [wafP nl W, .fn f caps] Hs nid (.sl nid 0 ((plV W).filter F).length) [(nid, arrPl ((plV W).filter F))] := by
  have hcv := capsC hcap
  have hl := hW.len
  refine acall_run c50 (by simp [a50]) ?_
  unfold wafP
  simp -dsimp only [a50, aqT, aqU, aqN, aqS, ↓seqK, ↓blkK, ↓loopK, step, stepBin, Nat.add_assoc nid, ↓reduceIte, Option.toList, ← Int.ofNat_tmod, ← Int.ofNat_tdiv, simprocAttr, BEq.rfl, LN_succ]
  refine LP.mkP (fun y : Nat => y ≤ W.rows.length) (fun y : Nat => ⟨[(13, .int .i64 y), (12, .int .i64 W.rows.length), (11, .lit nl W.rows.length [.s fun i => W.rows.getD i []]), (5, .sl (nid + 8) 0 ((plTo W y).filter F).length), (1, .fn f caps)], (nid + 8, arrPl ((plTo W y).filter F)) :: Hs, nid + 100, nid⟩) (fun y => W.rows.length + 1 - y) 0 (by omega) ?_ (fun y hy => ?_)
  · first | refine Cov.goF Hs [_] [_] [] [(nid + 8, 2)] hs (by simp [kOK]) (by simp) ?_ | refine Cov.goF Hs [_, _] [_] [] [(nid + 8, 2)] hs (by simp [kOK]) (by simp) ?_ | refine Cov.goF Hs [_, _, _] [_] [] [(nid + 8, 2)] hs (by simp [kOK]) (by simp) ?_ | refine Cov.goF Hs [_, _, _, _] [_] [] [(nid + 8, 2)] hs (by simp [kOK]) (by simp) ?_ | refine Cov.goF Hs [_, _, _, _, _] [_] [] [(nid + 8, 2)] hs (by simp [kOK]) (by simp) ?_ | refine Cov.goF Hs [_, _, _, _, _, _] [_] [] [(nid + 8, 2)] hs (by simp [kOK]) (by simp) ?_ | refine Cov.goF Hs [_, _, _, _, _, _, _] [_] [] [(nid + 8, 2)] hs (by simp [kOK]) (by simp) ?_ | refine Cov.goF Hs [_, _, _, _, _, _, _, _] [_] [] [(nid + 8, 2)] hs (by simp [kOK]) (by simp) ?_ | refine Cov.goF Hs [] [_] [] [(nid + 8, 2)] hs (by simp [kOK]) (by simp) ?_
    simp [cvT, step, res, PVCovs.self (b := nid) (hi := nid + 100) (ren := []) (nils := [(nid + 8, 2)]) rfl (by simp [inRange]) (by omega) caps hcap, arrPl, plTo]
  have hTm : ∀ p, p ∈ plTo W y → p ∈ plV W := fun p hp => by
    unfold plV plTo at *
    rw [List.mem_flatMap] at *
    obtain ⟨a, ha, hb⟩ := hp
    exact ⟨a, List.mem_range.2 (by have := List.mem_range.1 ha; omega), hb⟩
  unfold arrPl
  simp -dsimp only [aqT, aqU, aqN, aqS, ↓seqK, ↓blkK, ↓loopK, step, stepBin, Nat.add_assoc nid, ↓reduceIte, Option.toList, ← Int.ofNat_tmod, ← Int.ofNat_tdiv, simprocAttr, BEq.rfl, LN_succ]
  refine S2.dec (fun h1 => ?_) (fun h1 => ?_) <;> simp -dsimp only [aqT, aqU, aqN, aqS, ↓seqK, ↓blkK, ↓loopK, step, stepBin, Nat.add_assoc nid, ↓reduceIte, Option.toList, ← Int.ofNat_tmod, ← Int.ofNat_tdiv, simprocAttr, BEq.rfl, LN_succ]
  · have hyl : y < W.rows.length := by omega
    have hrl := (hW.at hyl).1
    have hw2 := hW.wide.2
    have hts := plTo_succ W y
    have htb := plTo_bd hW (y := y) (by omega)
    have hpl : ∀ x : Nat, x < (W.rows.getD y []).length → (((x : Nat) : Int), ((y : Nat) : Int)) ∈ plV W := fun x hx => by
      unfold plV plTo rowPl
      rw [List.mem_flatMap]
      exact ⟨y, List.mem_range.2 hyl, List.mem_map.2 ⟨x, List.mem_range.2 hx, rfl⟩⟩
    generalize hr : W.rows.getD y [] = r at *
    generalize plTo W y = T at *
    refine ⟨by omega, LP.mkP (fun x : Nat => x ≤ r.length) (fun x : Nat => ⟨[(20, .int .i64 x), (19, .int .i64 r.length), (6, .int .i64 y), (13, .int .i64 y), (12, .int .i64 W.rows.length), (11, .lit nl W.rows.length [.s fun i => W.rows.getD i []]), (5, .sl (nid + 8) 0 ((T ++ rowPl y x).filter F).length), (1, .fn f caps)], (nid + 8, arrPl ((T ++ rowPl y x).filter F)) :: Hs, nid + 300, nid⟩) (fun x => r.length + 1 - x) 0 (by omega) ?_ (fun x hx => ?_)⟩
    · first | refine Cov.goF Hs [_] [_] [] [] hs (by simp [kOK]) (by simp) ?_ | refine Cov.goF Hs [_, _] [_] [] [] hs (by simp [kOK]) (by simp) ?_ | refine Cov.goF Hs [_, _, _] [_] [] [] hs (by simp [kOK]) (by simp) ?_ | refine Cov.goF Hs [_, _, _, _] [_] [] [] hs (by simp [kOK]) (by simp) ?_ | refine Cov.goF Hs [_, _, _, _, _] [_] [] [] hs (by simp [kOK]) (by simp) ?_ | refine Cov.goF Hs [_, _, _, _, _, _] [_] [] [] hs (by simp [kOK]) (by simp) ?_ | refine Cov.goF Hs [_, _, _, _, _, _, _] [_] [] [] hs (by simp [kOK]) (by simp) ?_ | refine Cov.goF Hs [_, _, _, _, _, _, _, _] [_] [] [] hs (by simp [kOK]) (by simp) ?_ | refine Cov.goF Hs [] [_] [] [] hs (by simp [kOK]) (by simp) ?_
      simp [cvT, step, res, hcv, arrPl, rowPl]
    have hrs := rowPl_succ y x
    have hrx := rowPl_len y x
    have hTs : T ++ rowPl y (x + 1) = (T ++ rowPl y x) ++ [((x : Int), (y : Int))] := by rw [hrs, List.append_assoc]
    have hfs := filter_snoc F (T ++ rowPl y x) ((x : Int), (y : Int))
    rw [← hTs] at hfs
    have hfl : ((T ++ rowPl y x).filter F).length ≤ 61000 := by
      have h1 := List.length_filter_le F (T ++ rowPl y x)
      rw [List.length_append, hrx] at h1
      omega
    generalize hLd : (T ++ rowPl y x).filter F = L at *
    unfold arrPl
    simp -dsimp only [aqT, aqU, aqN, aqS, ↓seqK, ↓blkK, ↓loopK, step, stepBin, Nat.add_assoc nid, ↓reduceIte, Option.toList, ← Int.ofNat_tmod, ← Int.ofNat_tdiv, simprocAttr, BEq.rfl, LN_succ]
    refine S2.dec (fun h2 => ?_) (fun h2 => ?_) <;> simp -dsimp only [aqT, aqU, aqN, aqS, ↓seqK, ↓blkK, ↓loopK, step, stepBin, Nat.add_assoc nid, ↓reduceIte, Option.toList, ← Int.ofNat_tmod, ← Int.ofNat_tdiv, simprocAttr, BEq.rfl, LN_succ]
    · have hxl : x < r.length := by omega
      refine CallO.on (hf _ (hpl x hxl) _ (by omega)) (by first | exact subH_frame (X := [_]) hs (by simp [kOK]) | exact subH_frame (X := [_, _]) hs (by simp [kOK]) | exact subH_frame (X := [_, _, _]) hs (by simp [kOK]) | exact subH_frame (X := [_, _, _, _]) hs (by simp [kOK]) | exact subH_frame (X := [_, _, _, _, _]) hs (by simp [kOK]) | exact subH_frame (X := [_, _, _, _, _, _]) hs (by simp [kOK]) | exact subH_frame (X := [_, _, _, _, _, _, _]) hs (by simp [kOK]) | exact subH_frame (X := [_, _, _, _, _, _, _, _]) hs (by simp [kOK]) | exact subH_frame (X := []) hs (by simp [kOK])) ?_
      cases hF : F ((x : Int), (y : Int)) <;> rw [hF] at hfs <;> simp -dsimp only [aqT, aqU, aqN, aqS, ↓seqK, ↓blkK, ↓loopK, step, stepBin, Nat.add_assoc nid, ↓reduceIte, Option.toList, ← Int.ofNat_tmod, ← Int.ofNat_tdiv, simprocAttr, BEq.rfl, LN_succ]
      · rw [if_neg (by simp), List.append_nil] at hfs
        refine ⟨by unfold inI64; omega, x + 1, ⟨by omega, by omega⟩, ?_⟩
        first | refine Cov.goF Hs [_] [_] [] [] hs (by simp [kOK]) (by simp) ?_ | refine Cov.goF Hs [_, _] [_] [] [] hs (by simp [kOK]) (by simp) ?_ | refine Cov.goF Hs [_, _, _] [_] [] [] hs (by simp [kOK]) (by simp) ?_ | refine Cov.goF Hs [_, _, _, _] [_] [] [] hs (by simp [kOK]) (by simp) ?_ | refine Cov.goF Hs [_, _, _, _, _] [_] [] [] hs (by simp [kOK]) (by simp) ?_ | refine Cov.goF Hs [_, _, _, _, _, _] [_] [] [] hs (by simp [kOK]) (by simp) ?_ | refine Cov.goF Hs [_, _, _, _, _, _, _] [_] [] [] hs (by simp [kOK]) (by simp) ?_ | refine Cov.goF Hs [_, _, _, _, _, _, _, _] [_] [] [] hs (by simp [kOK]) (by simp) ?_ | refine Cov.goF Hs [] [_] [] [] hs (by simp [kOK]) (by simp) ?_
        simp [cvT, step, res, hcv, arrPl, hfs, -List.getD_eq_getElem?_getD]
      · rw [if_pos rfl] at hfs
        rw [getD_appP L ((x : Int), (y : Int)) rfl (fun q => q.1) rfl rfl, getD_appP L ((x : Int), (y : Int)) rfl (fun q => q.2) rfl rfl, ← hfs]
        have hl3 : ((T ++ rowPl y (x + 1)).filter F).length = L.length + 1 := by rw [hfs]; simp
        refine ⟨⟨by omega, by omega⟩, by unfold inI64; omega, x + 1, ⟨by omega, by omega⟩, ?_⟩
        first | refine Cov.goF Hs [_] [_] [(nid + 8, nid + 356)] [] hs (by simp [kOK]) (by simp) ?_ | refine Cov.goF Hs [_, _] [_] [(nid + 8, nid + 356)] [] hs (by simp [kOK]) (by simp) ?_ | refine Cov.goF Hs [_, _, _] [_] [(nid + 8, nid + 356)] [] hs (by simp [kOK]) (by simp) ?_ | refine Cov.goF Hs [_, _, _, _] [_] [(nid + 8, nid + 356)] [] hs (by simp [kOK]) (by simp) ?_ | refine Cov.goF Hs [_, _, _, _, _] [_] [(nid + 8, nid + 356)] [] hs (by simp [kOK]) (by simp) ?_ | refine Cov.goF Hs [_, _, _, _, _, _] [_] [(nid + 8, nid + 356)] [] hs (by simp [kOK]) (by simp) ?_ | refine Cov.goF Hs [_, _, _, _, _, _, _] [_] [(nid + 8, nid + 356)] [] hs (by simp [kOK]) (by simp) ?_ | refine Cov.goF Hs [_, _, _, _, _, _, _, _] [_] [(nid + 8, nid + 356)] [] hs (by simp [kOK]) (by simp) ?_ | refine Cov.goF Hs [] [_] [(nid + 8, nid + 356)] [] hs (by simp [kOK]) (by simp) ?_
        simp [cvT, step, res, PVCovs.self (b := nid) (hi := nid + 300) (ren := [(nid + 8, nid + 356)]) (nils := []) (by simp [inRange]) rfl (by omega) caps hcap, arrPl, hl3, -List.getD_eq_getElem?_getD, -List.length_append, -List.filter_append]
    · obtain rfl : x = r.length := by omega
      have e : (plTo W (y + 1)).filter F = L := by rw [hts, hLd]
      refine ⟨by unfold inI64; omega, y + 1, ⟨by omega, by omega⟩, ?_⟩
      rw [e]
      first | refine Cov.goF Hs [_] [_] [] [] hs (by simp [kOK]) (by simp) ?_ | refine Cov.goF Hs [_, _] [_] [] [] hs (by simp [kOK]) (by simp) ?_ | refine Cov.goF Hs [_, _, _] [_] [] [] hs (by simp [kOK]) (by simp) ?_ | refine Cov.goF Hs [_, _, _, _] [_] [] [] hs (by simp [kOK]) (by simp) ?_ | refine Cov.goF Hs [_, _, _, _, _] [_] [] [] hs (by simp [kOK]) (by simp) ?_ | refine Cov.goF Hs [_, _, _, _, _, _] [_] [] [] hs (by simp [kOK]) (by simp) ?_ | refine Cov.goF Hs [_, _, _, _, _, _, _] [_] [] [] hs (by simp [kOK]) (by simp) ?_ | refine Cov.goF Hs [_, _, _, _, _, _, _, _] [_] [] [] hs (by simp [kOK]) (by simp) ?_ | refine Cov.goF Hs [] [_] [] [] hs (by simp [kOK]) (by simp) ?_
      simp [cvT, step, res, hcv, arrPl, -List.getD_eq_getElem?_getD, -List.filter_append]
  · obtain rfl : y = W.rows.length := by omega
    refine RetOK.goF Hs [] [_] [(nid, arrPl ((plV W).filter F))] [(nid, nid + 8)] [] (.inl rfl) hs (by simp [kOK]) (by simp) ?_
    simp [cvT, step, res, a50, arrPl, plV, -List.getD_eq_getElem?_getD]
end Go.Proofs.YtmgfcjblclanmaaGreat
namespace Go.Proofs.YtmgfcjblclanmaaGreat
open Go.RowKit Go.Lib
def litBl (nl : Bool) (l : List Bool) : PV := .lit nl l.length [.b fun k => l.getD k false]
theorem take_eqBl {l m : List Bool} {k : Nat} (hl : k < l.length) (hm : k < m.length) (h : l.take k = m.take k) (hx : l.getD k false = m.getD k false) : l.take (k + 1) = m.take (k + 1) := by
  rw [take_snoc (x := l.getD k false) (by rw [List.getD_eq_getElem?_getD, List.getElem?_eq_getElem hl]; rfl), take_snoc (x := m.getD k false) (by rw [List.getD_eq_getElem?_getD, List.getElem?_eq_getElem hm]; rfl), h, hx]
theorem take_eqPl {l m : List Pt} {k : Nat} (hl : k < l.length) (hm : k < m.length) (h : l.take k = m.take k) (hx : l.getD k p0 = m.getD k p0) : l.take (k + 1) = m.take (k + 1) := by
  rw [take_snoc (x := l.getD k p0) (by rw [List.getD_eq_getElem?_getD, List.getElem?_eq_getElem hl]; rfl), take_snoc (x := m.getD k p0) (by rw [List.getD_eq_getElem?_getD, List.getElem?_eq_getElem hm]; rfl), h, hx]
theorem equalBl_c (nl nl' : Bool) (l m : List Bool) (nid : Nat) (hl : l.length ≤ 1000000) (hm : m.length ≤ 1000000) : ACall Tryz.prog 22 [litBl nl l, litBl nl' m] [] nid (.bool (l == m)) [] := by
  refine acall_run c22 (by simp [a22]) ?_
  unfold litBl
  simp -dsimp only [aqT, aqU, aqN, aqS, ↓seqK, ↓blkK, ↓loopK, step, stepBin, Nat.add_assoc nid, ↓reduceIte, Option.toList, ← Int.ofNat_tmod, ← Int.ofNat_tdiv, simprocAttr, BEq.rfl, LN_succ, a22]
  refine S2.intro (fun h => ?_) (fun h => ?_) <;> simp -dsimp only [aqT, aqU, aqN, aqS, ↓seqK, ↓blkK, ↓loopK, step, stepBin, Nat.add_assoc nid, ↓reduceIte, Option.toList, ← Int.ofNat_tmod, ← Int.ofNat_tdiv, simprocAttr, BEq.rfl, LN_succ]
  · refine RetOK.pure (.inl rfl) rfl ?_
    have h1 : l ≠ m := fun e => by subst e; simp at h
    have h2 : (l == m) = false := by simpa using h1
    simp [cvT, step, res, h1]
  have hlm : l.length = m.length := by have : (l.length : Int) = m.length := by simpa using h
                                       omega
  refine LP.mkP (fun k : Nat => k ≤ l.length ∧ l.take k = m.take k) (fun k : Nat => ⟨[(13, .int .i64 k), (12, .int .i64 l.length), (0, litBl nl l), (1, litBl nl' m)], [], nid + 100, nid⟩) (fun k => l.length + 1 - k) 0 ⟨by omega, rfl⟩ (Cov.go [] [] ?_) (fun k hk => ?_)
  · simp [cvT, step, res, litBl]
  unfold litBl
  obtain ⟨hk, ht⟩ := hk
  simp -dsimp only [aqT, aqU, aqN, aqS, ↓seqK, ↓blkK, ↓loopK, step, stepBin, Nat.add_assoc nid, ↓reduceIte, Option.toList, ← Int.ofNat_tmod, ← Int.ofNat_tdiv, simprocAttr, BEq.rfl, LN_succ]
  refine S2.dec (fun h3 => ?_) (fun h3 => ?_) <;> simp -dsimp only [aqT, aqU, aqN, aqS, ↓seqK, ↓blkK, ↓loopK, step, stepBin, Nat.add_assoc nid, ↓reduceIte, Option.toList, ← Int.ofNat_tmod, ← Int.ofNat_tdiv, simprocAttr, BEq.rfl, LN_succ]
  · have hkl : k < l.length := by omega
    have hstep := fun hx => take_eqBl (l := l) (m := m) hkl (by omega) ht hx
    have hne : l.getD k false ≠ m.getD k false → l ≠ m := fun hd e => hd (by rw [e])
    generalize l.getD k false = a at *
    generalize m.getD k false = b at *
    refine ⟨by omega, by omega, S2.intro (fun h4 => ?_) (fun h4 => ?_)⟩ <;> simp -dsimp only [aqT, aqU, aqN, aqS, ↓seqK, ↓blkK, ↓loopK, step, stepBin, Nat.add_assoc nid, ↓reduceIte, Option.toList, ← Int.ofNat_tmod, ← Int.ofNat_tdiv, simprocAttr, BEq.rfl, LN_succ]
    · have h1 : l ≠ m := hne (fun e => by subst e; simp at h4)
      refine RetOK.pure (.inl rfl) rfl ?_
      simp [cvT, step, res, h1]
    · have h5 : a = b := by
        simpa using h4
      refine ⟨by unfold inI64; omega, k + 1, ⟨⟨by omega, hstep h5⟩, by omega⟩, Cov.go [] [] ?_⟩
      simp [cvT, step, res, litBl, -List.getD_eq_getElem?_getD]
  · obtain rfl : k = l.length := by omega
    have h1 : l = m := by
      rw [List.take_of_length_le (Nat.le_refl _), List.take_of_length_le (by omega)] at ht
      exact ht
    refine RetOK.pure (.inl rfl) rfl ?_
    simp [cvT, step, res, h1]
theorem equalPl_c (nl nl' : Bool) (l m : List Pt) (nid : Nat) (hl : l.length ≤ 1000000) (hm : m.length ≤ 1000000) : ACall Tryz.prog 17 [litPl nl l, litPl nl' m] [] nid (.bool (l == m)) [] := by
  refine acall_run c17 (by simp [a17]) ?_
  unfold litPl
  simp -dsimp only [aqT, aqU, aqN, aqS, ↓seqK, ↓blkK, ↓loopK, step, stepBin, Nat.add_assoc nid, ↓reduceIte, Option.toList, ← Int.ofNat_tmod, ← Int.ofNat_tdiv, simprocAttr, BEq.rfl, LN_succ, a17]
  refine S2.intro (fun h => ?_) (fun h => ?_) <;> simp -dsimp only [aqT, aqU, aqN, aqS, ↓seqK, ↓blkK, ↓loopK, step, stepBin, Nat.add_assoc nid, ↓reduceIte, Option.toList, ← Int.ofNat_tmod, ← Int.ofNat_tdiv, simprocAttr, BEq.rfl, LN_succ]
  · refine RetOK.pure (.inl rfl) rfl ?_
    have h1 : l ≠ m := fun e => by subst e; simp at h
    have h2 : (l == m) = false := by simpa using h1
    simp [cvT, step, res, h1]
  have hlm : l.length = m.length := by have : (l.length : Int) = m.length := by simpa using h
                                       omega
  refine LP.mkP (fun k : Nat => k ≤ l.length ∧ l.take k = m.take k) (fun k : Nat => ⟨[(13, .int .i64 k), (12, .int .i64 l.length), (0, litPl nl l), (1, litPl nl' m)], [], nid + 100, nid⟩) (fun k => l.length + 1 - k) 0 ⟨by omega, rfl⟩ (Cov.go [] [] ?_) (fun k hk => ?_)
  · simp [cvT, step, res, litPl]
  unfold litPl
  obtain ⟨hk, ht⟩ := hk
  simp -dsimp only [aqT, aqU, aqN, aqS, ↓seqK, ↓blkK, ↓loopK, step, stepBin, Nat.add_assoc nid, ↓reduceIte, Option.toList, ← Int.ofNat_tmod, ← Int.ofNat_tdiv, simprocAttr, BEq.rfl, LN_succ]
  refine S2.dec (fun h3 => ?_) (fun h3 => ?_) <;> simp -dsimp only [aqT, aqU, aqN, aqS, ↓seqK, ↓blkK, ↓loopK, step, stepBin, Nat.add_assoc nid, ↓reduceIte, Option.toList, ← Int.ofNat_tmod, ← Int.ofNat_tdiv, simprocAttr, BEq.rfl, LN_succ]
  · have hkl : k < l.length := by omega
    have hstep := fun hx => take_eqPl (l := l) (m := m) hkl (by omega) ht hx
    have hne : l.getD k p0 ≠ m.getD k p0 → l ≠ m := fun hd e => hd (by rw [e])
    generalize l.getD k p0 = a at *
    generalize m.getD k p0 = b at *
    refine ⟨by omega, by omega, S2.intro (fun h4 => ?_) (fun h4 => ?_)⟩ <;> simp -dsimp only [aqT, aqU, aqN, aqS, ↓seqK, ↓blkK, ↓loopK, step, stepBin, Nat.add_assoc nid, ↓reduceIte, Option.toList, ← Int.ofNat_tmod, ← Int.ofNat_tdiv, simprocAttr, BEq.rfl, LN_succ]
    · have h1 : l ≠ m := hne (fun e => by subst e; simp at h4)
      refine RetOK.pure (.inl rfl) rfl ?_
      simp [cvT, step, res, h1]
    · have h5 : a = b := by
        simp at h4; exact Prod.ext h4.1 h4.2
      refine ⟨by unfold inI64; omega, k + 1, ⟨⟨by omega, hstep h5⟩, by omega⟩, Cov.go [] [] ?_⟩
      simp [cvT, step, res, litPl, -List.getD_eq_getElem?_getD]
  · obtain rfl : k = l.length := by omega
    have h1 : l = m := by
      rw [List.take_of_length_le (Nat.le_refl _), List.take_of_length_le (by omega)] at ht
      exact ht
    refine RetOK.pure (.inl rfl) rfl ?_
    simp [cvT, step, res, h1]
theorem equalFr_c (nl nl' : Bool) (l m : List Pt) (nid : Nat) (hl : l.length ≤ 1000000) (hm : m.length ≤ 1000000) : ACall Tryz.prog 21 [litPl nl l, litPl nl' m] [] nid (.bool (l == m)) [] := by
  refine acall_run c21 (by simp [a21]) ?_
  unfold litPl
  simp -dsimp only [aqT, aqU, aqN, aqS, ↓seqK, ↓blkK, ↓loopK, step, stepBin, Nat.add_assoc nid, ↓reduceIte, Option.toList, ← Int.ofNat_tmod, ← Int.ofNat_tdiv, simprocAttr, BEq.rfl, LN_succ, a21]
  refine S2.intro (fun h => ?_) (fun h => ?_) <;> simp -dsimp only [aqT, aqU, aqN, aqS, ↓seqK, ↓blkK, ↓loopK, step, stepBin, Nat.add_assoc nid, ↓reduceIte, Option.toList, ← Int.ofNat_tmod, ← Int.ofNat_tdiv, simprocAttr, BEq.rfl, LN_succ]
  · refine RetOK.pure (.inl rfl) rfl ?_
    have h1 : l ≠ m := fun e => by subst e; simp at h
    have h2 : (l == m) = false := by simpa using h1
    simp [cvT, step, res, h1]
  have hlm : l.length = m.length := by have : (l.length : Int) = m.length := by simpa using h
                                       omega
  refine LP.mkP (fun k : Nat => k ≤ l.length ∧ l.take k = m.take k) (fun k : Nat => ⟨[(13, .int .i64 k), (12, .int .i64 l.length), (0, litPl nl l), (1, litPl nl' m)], [], nid + 100, nid⟩) (fun k => l.length + 1 - k) 0 ⟨by omega, rfl⟩ (Cov.go [] [] ?_) (fun k hk => ?_)
  · simp [cvT, step, res, litPl]
  unfold litPl
  obtain ⟨hk, ht⟩ := hk
  simp -dsimp only [aqT, aqU, aqN, aqS, ↓seqK, ↓blkK, ↓loopK, step, stepBin, Nat.add_assoc nid, ↓reduceIte, Option.toList, ← Int.ofNat_tmod, ← Int.ofNat_tdiv, simprocAttr, BEq.rfl, LN_succ]
  refine S2.dec (fun h3 => ?_) (fun h3 => ?_) <;> simp -dsimp only [aqT, aqU, aqN, aqS, ↓seqK, ↓blkK, ↓loopK, step, stepBin, Nat.add_assoc nid, ↓reduceIte, Option.toList, ← Int.ofNat_tmod, ← Int.ofNat_tdiv, simprocAttr, BEq.rfl, LN_succ]
  · have hkl : k < l.length := by omega
    have hstep := fun hx => take_eqPl (l := l) (m := m) hkl (by omega) ht hx
    have hne : l.getD k p0 ≠ m.getD k p0 → l ≠ m := fun hd e => hd (by rw [e])
    generalize l.getD k p0 = a at *
    generalize m.getD k p0 = b at *
    refine ⟨by omega, by omega, S2.intro (fun h4 => ?_) (fun h4 => ?_)⟩ <;> simp -dsimp only [aqT, aqU, aqN, aqS, ↓seqK, ↓blkK, ↓loopK, step, stepBin, Nat.add_assoc nid, ↓reduceIte, Option.toList, ← Int.ofNat_tmod, ← Int.ofNat_tdiv, simprocAttr, BEq.rfl, LN_succ]
    · have h1 : l ≠ m := hne (fun e => by subst e; simp at h4)
      refine RetOK.pure (.inl rfl) rfl ?_
      simp [cvT, step, res, h1]
    · have h5 : a = b := by
        simp at h4; exact Prod.ext h4.1 h4.2
      refine ⟨by unfold inI64; omega, k + 1, ⟨⟨by omega, hstep h5⟩, by omega⟩, Cov.go [] [] ?_⟩
      simp [cvT, step, res, litPl, -List.getD_eq_getElem?_getD]
  · obtain rfl : k = l.length := by omega
    have h1 : l = m := by
      rw [List.take_of_length_le (Nat.le_refl _), List.take_of_length_le (by omega)] at ht
      exact ht
    refine RetOK.pure (.inl rfl) rfl ?_
    simp [cvT, step, res, h1]
theorem ptEq (p q : Pt) : (p.1 == q.1 && p.2 == q.2) = (q == p) := by
  rw [Bool.eq_iff_iff, Bool.and_eq_true, beq_iff_eq, beq_iff_eq, beq_iff_eq]
  exact ⟨fun h => Prod.ext h.1.symm h.2.symm, fun h => by rw [h]; exact ⟨rfl, rfl⟩⟩
theorem indexPt_c (nl : Bool) (l : List Pt) (p : Pt) (nid : Nat) (hl : l.length ≤ 1000000) : ACall Tryz.prog 81 [litPl nl l, .agg [.int .i64 p.1, .int .i64 p.2]] [] nid (.int .i64 (idxP (fun q => q == p) l)) [] := by
  refine acall_run c81 (by simp [a81]) ?_
  unfold litPl
  simp -dsimp only [aqT, aqU, aqN, aqS, ↓seqK, ↓blkK, ↓loopK, step, stepBin, Nat.add_assoc nid, ↓reduceIte, Option.toList, ← Int.ofNat_tmod, ← Int.ofNat_tdiv, simprocAttr, BEq.rfl, LN_succ, a81]
  refine LP.mkP (fun k : Nat => k ≤ l.length ∧ ∀ j, j < k → (l.getD j p0 == p) = false) (fun k : Nat => ⟨[(8, .int .i64 k), (7, .int .i64 l.length), (0, litPl nl l), (3, .ptr nid 0)], [(nid, some (.box 54 [.int .i64 p.1, .int .i64 p.2]))], nid + 100, nid⟩) (fun k => l.length + 1 - k) 0 ⟨by omega, fun j hj => by omega⟩ (Cov.go [] [] ?_) (fun k hk => ?_)
  · simp [cvT, step, res, litPl]
  unfold litPl
  obtain ⟨hk, hb⟩ := hk
  simp -dsimp only [aqT, aqU, aqN, aqS, ↓seqK, ↓blkK, ↓loopK, step, stepBin, Nat.add_assoc nid, ↓reduceIte, Option.toList, ← Int.ofNat_tmod, ← Int.ofNat_tdiv, simprocAttr, BEq.rfl, LN_succ]
  refine S2.dec (fun h3 => ?_) (fun h3 => ?_) <;> simp -dsimp only [aqT, aqU, aqN, aqS, ↓seqK, ↓blkK, ↓loopK, step, stepBin, Nat.add_assoc nid, ↓reduceIte, Option.toList, ← Int.ofNat_tmod, ← Int.ofNat_tdiv, simprocAttr, BEq.rfl, LN_succ]
  · have hkl : k < l.length := by omega
    have he := ptEq p (l.getD k p0)
    refine ⟨by omega, ?_⟩
    rw [he]
    refine S2.intro (fun h4 => ?_) (fun h4 => ?_) <;> simp -dsimp only [aqT, aqU, aqN, aqS, ↓seqK, ↓blkK, ↓loopK, step, stepBin, Nat.add_assoc nid, ↓reduceIte, Option.toList, ← Int.ofNat_tmod, ← Int.ofNat_tdiv, simprocAttr, BEq.rfl, LN_succ]
    · have e : idxP (fun q => q == p) l = k := by unfold idxP; rw [idxP_hit hkl hb h4]
      rw [e]
      refine RetOK.pure (.inl rfl) rfl ?_
      simp [cvT, step, res]
    · refine ⟨by unfold inI64; omega, k + 1, ⟨⟨by omega, fun j hj => ?_⟩, by omega⟩, Cov.go [] [] ?_⟩
      · rcases (by omega : j < k ∨ j = k) with hj | hj
        · exact hb j hj
        · rw [hj]; exact h4
      · simp [cvT, step, res, litPl, -List.getD_eq_getElem?_getD]
  · obtain rfl : k = l.length := by omega
    have e : idxP (fun q => q == p) l = -1 := by unfold idxP; rw [idxP_none hb]
    rw [e]
    refine RetOK.pure (.inl rfl) rfl ?_
    simp [cvT, step, res]
theorem containsPt_c (nl : Bool) (l : List Pt) (p : Pt) (nid : Nat) (hl : l.length ≤ 1000000) : ACall Tryz.prog 53 [litPl nl l, .agg [.int .i64 p.1, .int .i64 p.2]] [] nid (.bool (l.contains p)) [] := by
  have h0 := fun k => indexPt_c nl l p k hl
  have e : l.contains p = decide (0 ≤ idxP (fun q => q == p) l) := by
    rw [idxP_any, Bool.eq_iff_iff]
    simp
  rw [e]
  generalize idxP (fun q => q == p) l = i at *
  refine acall_run c53 (by simp [a53]) ?_
  unfold litPl at *
  simp -dsimp only [aqT, aqU, aqN, aqS, ↓seqK, ↓blkK, ↓loopK, step, stepBin, Nat.add_assoc nid, ↓reduceIte, Option.toList, ← Int.ofNat_tmod, ← Int.ofNat_tdiv, simprocAttr, BEq.rfl, LN_succ, a53]
  refine CallO.pure (h0 _) ?_
  simp -dsimp only [aqT, aqU, aqN, aqS, ↓seqK, ↓blkK, ↓loopK, step, stepBin, Nat.add_assoc nid, ↓reduceIte, Option.toList, ← Int.ofNat_tmod, ← Int.ofNat_tdiv, simprocAttr, BEq.rfl, LN_succ]
  refine RetOK.pure (.inl rfl) rfl ?_
  simp [cvT, step, res]
def colPs (g : List Pt) : List Col := [.i .i64 fun j => (g.getD j p0).1, .i .i64 fun j => (g.getD j p0).2]
def litCl (nl : Bool) (nb : Nat → Bool) (c : List (List Pt)) : PV := .lit nl c.length [.l nb (fun i => (c.getD i []).length) (fun i => colPs (c.getD i []))]
theorem take_eqCl {l m : List (List Pt)} {k : Nat} (hl : k < l.length) (hm : k < m.length) (h : l.take k = m.take k) (hx : l.getD k [] = m.getD k []) : l.take (k + 1) = m.take (k + 1) := by
  rw [take_snoc (x := l.getD k []) (by rw [List.getD_eq_getElem?_getD, List.getElem?_eq_getElem hl]; rfl), take_snoc (x := m.getD k []) (by rw [List.getD_eq_getElem?_getD, List.getElem?_eq_getElem hm]; rfl), h, hx]
theorem equalCl_c (nl nl' : Bool) (nb nb' : Nat → Bool) (l m : List (List Pt)) (nid : Nat) (hl : l.length ≤ 1000000) (hm : m.length ≤ 1000000) (hls : ∀ k, (l.getD k []).length ≤ 1000000) (hms : ∀ k, (m.getD k []).length ≤ 1000000) : ACall Tryz.prog 15 [litCl nl nb l, litCl nl' nb' m, .fn 17 []] [] nid (.bool (l == m)) [] := by
  refine acall_run c15 (by simp [a15]) ?_
  unfold litCl colPs
  simp -dsimp only [aqT, aqU, aqN, aqS, ↓seqK, ↓blkK, ↓loopK, step, stepBin, Nat.add_assoc nid, ↓reduceIte, Option.toList, ← Int.ofNat_tmod, ← Int.ofNat_tdiv, simprocAttr, BEq.rfl, LN_succ, a15]
  refine S2.intro (fun h => ?_) (fun h => ?_) <;> simp -dsimp only [aqT, aqU, aqN, aqS, ↓seqK, ↓blkK, ↓loopK, step, stepBin, Nat.add_assoc nid, ↓reduceIte, Option.toList, ← Int.ofNat_tmod, ← Int.ofNat_tdiv, simprocAttr, BEq.rfl, LN_succ]
  · refine RetOK.pure (.inl rfl) rfl ?_
    have h1 : l ≠ m := fun e => by subst e; simp at h
    have h2 : (l == m) = false := by simpa using h1
    simp [cvT, step, res, h1]
  have hlm : l.length = m.length := by have : (l.length : Int) = m.length := by simpa using h
                                       omega
  refine LP.mkP (fun k : Nat => k ≤ l.length ∧ l.take k = m.take k) (fun k : Nat => ⟨[(17, .int .i64 k), (16, .int .i64 l.length), (15, litCl nl nb l), (0, litCl nl nb l), (1, litCl nl' nb' m), (2, .fn 17 [])], [], nid + 100, nid⟩) (fun k => l.length + 1 - k) 0 ⟨by omega, rfl⟩ (Cov.go [] [] ?_) (fun k hk => ?_)
  · simp [cvT, step, res, litCl, colPs, ColsEq.refl, -List.getD_eq_getElem?_getD]
  unfold litCl colPs
  obtain ⟨hk, ht⟩ := hk
  simp -dsimp only [aqT, aqU, aqN, aqS, ↓seqK, ↓blkK, ↓loopK, step, stepBin, Nat.add_assoc nid, ↓reduceIte, Option.toList, ← Int.ofNat_tmod, ← Int.ofNat_tdiv, simprocAttr, BEq.rfl, LN_succ]
  refine S2.dec (fun h3 => ?_) (fun h3 => ?_) <;> simp -dsimp only [aqT, aqU, aqN, aqS, ↓seqK, ↓blkK, ↓loopK, step, stepBin, Nat.add_assoc nid, ↓reduceIte, Option.toList, ← Int.ofNat_tmod, ← Int.ofNat_tdiv, simprocAttr, BEq.rfl, LN_succ]
  · have hkl : k < l.length := by omega
    have hstep := fun hx => take_eqCl (l := l) (m := m) hkl (by omega) ht hx
    have hne : l.getD k [] ≠ m.getD k [] → l ≠ m := fun hd e => hd (by rw [e])
    have hc := fun nid => equalPl_c (nb k) (nb' k) (l.getD k []) (m.getD k []) nid (hls k) (hms k)
    unfold litPl at hc
    refine ⟨by omega, by omega, CallO.pure (hc _) ?_⟩
    generalize l.getD k [] = a at *
    generalize m.getD k [] = b at *
    simp -dsimp only [aqT, aqU, aqN, aqS, ↓seqK, ↓blkK, ↓loopK, step, stepBin, Nat.add_assoc nid, ↓reduceIte, Option.toList, ← Int.ofNat_tmod, ← Int.ofNat_tdiv, simprocAttr, BEq.rfl, LN_succ]
    cases hab : (a == b) <;> simp -dsimp only [aqT, aqU, aqN, aqS, ↓seqK, ↓blkK, ↓loopK, step, stepBin, Nat.add_assoc nid, ↓reduceIte, Option.toList, ← Int.ofNat_tmod, ← Int.ofNat_tdiv, simprocAttr, BEq.rfl, LN_succ, Bool.not_true, Bool.not_false]
    · have h1 : l ≠ m := hne (by simpa using hab)
      refine RetOK.pure (.inl rfl) rfl ?_
      simp [cvT, step, res, h1]
    · refine ⟨by unfold inI64; omega, k + 1, ⟨⟨by omega, hstep (by simpa using hab)⟩, by omega⟩, Cov.go [] [] ?_⟩
      simp [cvT, step, res, litCl, colPs, ColsEq.refl, -List.getD_eq_getElem?_getD]
  · obtain rfl : k = l.length := by omega
    have h1 : l = m := by
      rw [List.take_of_length_le (Nat.le_refl _), List.take_of_length_le (by omega)] at ht
      exact ht
    refine RetOK.pure (.inl rfl) rfl ?_
    simp [cvT, step, res, h1]
end Go.Proofs.YtmgfcjblclanmaaGreat
namespace Go.Proofs.YtmgfcjblclanmaaGreat
open Go.RowKit
theorem setD_byte {l : List UInt8} {k : Nat} (hk : k < l.length) (b : UInt8) : (fun j => if j = k then ((b.toNat : Nat) : Int) else (((l.getD j 0).toNat : Nat) : Int)) = fun j => ((((l.set k b).getD j 0).toNat : Nat) : Int) := by
  funext j
  simp only [List.getD_eq_getElem?_getD, List.getElem?_set]
  by_cases h : j = k
  · subst h; simp [hk]
  · rw [if_neg h, if_neg (fun e => h e.symm)]
theorem bytes_back2 {l : List UInt8} {n : Nat} (h : l.length = n) : (List.range n).map (fun i => UInt8.ofNat (l.getD i 0).toNat) = l := by
  subst h
  apply List.ext_getElem
  · simp
  · intro i h1 h2
    simp [List.getElem?_eq_getElem h2]
end Go.Proofs.YtmgfcjblclanmaaGreat
namespace Go.Proofs.YtmgfcjblclanmaaGreat
open Go.RowKit
def boxI (n : Int) : Option ABlk := some (.box 3 [.int .i64 n])
def inkP (W : Waf) (m : Nat) (c : Int) (p : Pt) : Bool := passedV W.pass c && decide ((m : Int) ≤ (cntN (badP W) (arV p) : Nat))
def inkB (W : Waf) (m : Nat) (b : UInt8) (p : Pt) : UInt8 := if inkP W m (byteI b) p = true then 42 else b
set_option maxHeartbeats 4000000 in
theorem inkF_c (ib im io : Nat) (nl : Bool) (W : Waf) (m n : Nat) (x y : Nat) (a : UInt8) (nid : Nat) (hib : ib < nid) (him : im < nid) (hio : io < nid) (n1 : ib ≠ im) (n2 : ib ≠ io) (n3 : im ≠ io) (hW : WafOk W) (hx : x ≤ 1000) (hy : y ≤ 1000) (hn : n ≤ 1000000) :
    ACall Tryz.prog 41 [.agg [.int .i64 (x : Nat), .int .i64 (y : Nat)], .int .u8 ((a.toNat : Nat)), .ptr ib 0, .ptr im 0, .ptr io 0] [(ib, boxW nl W), (im, boxI (m : Nat)), (io, boxI (n : Nat))] nid (.int .u8 (((inkB W m a ((x : Int), (y : Int))).toNat : Nat))) [(ib, boxW nl W), (im, boxI (m : Nat)), (io, boxI ((n + (if inkP W m (byteI a) ((x : Int), (y : Int)) = true then 1 else 0) : Nat)))] := by
  obtain ⟨a1, a2, a3, a4, a5, a6, a7, a8, a9⟩ := id_all hib
  obtain ⟨b1, b2, b3, b4, b5, b6, b7, b8, b9⟩ := id_all him
  obtain ⟨d1, d2, d3, d4, d5, d6, d7, d8, d9⟩ := id_all hio
  have g1 : (ib == im) = false := by simpa using n1
  have g2 : (im == ib) = false := by simpa using fun h => n1 h.symm
  have g3 : (ib == io) = false := by simpa using n2
  have g4 : (io == ib) = false := by simpa using fun h => n2 h.symm
  have g5 : (im == io) = false := by simpa using n3
  have g6 : (io == im) = false := by simpa using fun h => n3 h.symm
  have m1 : ¬ im = ib := fun h => n1 h.symm
  have m2 : ¬ io = ib := fun h => n2 h.symm
  have m3 : ¬ io = im := fun h => n3 h.symm
  refine acall_run c41 (by simp [a41]) ?_
  unfold boxW boxI
  simp -dsimp only [a41, aqT, aqU, aqN, aqS, ↓seqK, ↓blkK, ↓loopK, step, stepBin, Nat.add_assoc nid, ↓reduceIte, Option.toList, ← Int.ofNat_tmod, ← Int.ofNat_tdiv, simprocAttr, BEq.rfl, LN_succ, a1, a2, a3, a4, a5, a6, a7, a8, a9, b1, b2, b3, b4, b5, b6, b7, b8, b9, d1, d2, d3, d4, d5, d6, d7, d8, d9, g1, g2, g3, g4, g5, g6, n1, n2, n3, m1, m2, m3]
  refine CallX.pure (passed_c _ _ _ _ _ _ _ rfl) ?_
  have hp : PtBd ((x : Int), (y : Int)) := by unfold PtBd; simp only; omega
  unfold inkB inkP
  have hb : byteI a = ((a.toNat : Nat) : Int) := rfl
  rw [hb]
  cases h : passedV W.pass ((a.toNat : Nat) : Int) <;> simp -dsimp only [aqT, aqU, aqN, aqS, ↓seqK, ↓blkK, ↓loopK, step, stepBin, Nat.add_assoc nid, ↓reduceIte, Option.toList, ← Int.ofNat_tmod, ← Int.ofNat_tdiv, simprocAttr, BEq.rfl, LN_succ, a1, a2, a3, a4, a5, a6, a7, a8, a9, b1, b2, b3, b4, b5, b6, b7, b8, b9, d1, d2, d3, d4, d5, d6, d7, d8, d9, g1, g2, g3, g4, g5, g6, n1, n2, n3, m1, m2, m3]
  · refine RetOK.go [] [] (.inl rfl) ?_
    simp [a41, cvT, step, res, a1, a2, a3, a4, a5, a6, a7, a8, a9, b1, b2, b3, b4, b5, b6, b7, b8, b9, d1, d2, d3, d4, d5, d6, d7, d8, d9, g1, g2, g3, g4, g5, g6, n1, n2, n3, m1, m2, m3]
  · refine CallX.pure (badN_all nl W ((x : Int), (y : Int)) _ hW hp) ?_
    have hle := cntN_le (badP W) (arV ((x : Int), (y : Int)))
    have hl9 := arV_len ((x : Int), (y : Int))
    generalize cntN (badP W) (arV ((x : Int), (y : Int))) = c at *
    simp -dsimp only [aqT, aqU, aqN, aqS, ↓seqK, ↓blkK, ↓loopK, step, stepBin, Nat.add_assoc nid, ↓reduceIte, Option.toList, ← Int.ofNat_tmod, ← Int.ofNat_tdiv, simprocAttr, BEq.rfl, LN_succ, a1, a2, a3, a4, a5, a6, a7, a8, a9, b1, b2, b3, b4, b5, b6, b7, b8, b9, d1, d2, d3, d4, d5, d6, d7, d8, d9, g1, g2, g3, g4, g5, g6, n1, n2, n3, m1, m2, m3]
    refine S2.dec (fun h2 => ?_) (fun h2 => ?_) <;> simp -dsimp only [aqT, aqU, aqN, aqS, ↓seqK, ↓blkK, ↓loopK, step, stepBin, Nat.add_assoc nid, ↓reduceIte, Option.toList, ← Int.ofNat_tmod, ← Int.ofNat_tdiv, simprocAttr, BEq.rfl, LN_succ, a1, a2, a3, a4, a5, a6, a7, a8, a9, b1, b2, b3, b4, b5, b6, b7, b8, b9, d1, d2, d3, d4, d5, d6, d7, d8, d9, g1, g2, g3, g4, g5, g6, n1, n2, n3, m1, m2, m3]
    · refine ⟨by unfold inI64; omega, RetOK.go [] [] (.inl rfl) ?_⟩
      simp [a41, cvT, step, res, a1, a2, a3, a4, a5, a6, a7, a8, a9, b1, b2, b3, b4, b5, b6, b7, b8, b9, d1, d2, d3, d4, d5, d6, d7, d8, d9, g1, g2, g3, g4, g5, g6, n1, n2, n3, m1, m2, m3, h2]
    · refine RetOK.go [] [] (.inl rfl) ?_
      simp [a41, cvT, step, res, a1, a2, a3, a4, a5, a6, a7, a8, a9, b1, b2, b3, b4, b5, b6, b7, b8, b9, d1, d2, d3, d4, d5, d6, d7, d8, d9, g1, g2, g3, g4, g5, g6, n1, n2, n3, m1, m2, m3, h2]
end Go.Proofs.YtmgfcjblclanmaaGreat
namespace Go.Proofs.YtmgfcjblclanmaaGreat
open Go.RowKit
def inkAt (W : Waf) (m : Nat) (p : Pt) : Bool := inkP W m (dieV W p.1 p.2) p
def inkR (W : Waf) (m y : Nat) (r : List UInt8) : List UInt8 := List.zipWith (fun b x => inkB W m b (((x : Nat) : Int), (y : Int))) r (List.range r.length)
def inkRs (W : Waf) (m : Nat) : List (List UInt8) := List.zipWith (fun r y => inkR W m y r) W.rows (List.range W.rows.length)
def inkTo (W : Waf) (m y : Nat) (r : List UInt8) (k : Nat) : List UInt8 := (inkR W m y r).take k ++ r.drop k
theorem inkR_len (W : Waf) (m y : Nat) (r : List UInt8) : (inkR W m y r).length = r.length := by unfold inkR; rw [List.length_zipWith, List.length_range, Nat.min_self]
theorem inkRs_len (W : Waf) (m : Nat) : (inkRs W m).length = W.rows.length := by unfold inkRs; rw [List.length_zipWith, List.length_range, Nat.min_self]
theorem inkTo_len (W : Waf) (m y : Nat) (r : List UInt8) (k : Nat) : (inkTo W m y r k).length = r.length := by
  unfold inkTo; rw [List.length_append, List.length_take, List.length_drop, inkR_len]; omega
theorem inkTo_at (W : Waf) (m y : Nat) {r : List UInt8} {k : Nat} (hk : k < r.length) : (inkTo W m y r k).getD k 0 = r.getD k 0 := by
  unfold inkTo
  rw [List.getD_eq_getElem?_getD, List.getElem?_append_right (by rw [List.length_take]; omega), List.getElem?_drop, List.length_take, inkR_len, List.getD_eq_getElem?_getD]
  congr 2
  omega
theorem rangeD {n k : Nat} (h : k < n) : (List.range n).getD k 0 = k := by rw [List.getD_eq_getElem?_getD, List.getElem?_range h]; rfl
theorem inkTo_set (W : Waf) (m y : Nat) {r : List UInt8} {k : Nat} (hk : k < r.length) : (inkTo W m y r k).set k (inkB W m (r.getD k 0) ((k : Int), (y : Int))) = inkTo W m y r (k + 1) := by
  unfold inkTo inkR
  rw [zip_take _ 0 0 hk (by rw [List.length_range]; exact hk), rangeD hk, List.set_append_right _ _ (by rw [List.length_take]; omega), List.length_take, List.length_zipWith, List.length_range, Nat.min_self, Nat.min_eq_left (by omega), Nat.sub_self, List.append_assoc, List.drop_eq_getElem_cons hk]
  rfl
theorem inkTo_all (W : Waf) (m y : Nat) (r : List UInt8) : inkTo W m y r r.length = inkR W m y r := by
  unfold inkTo
  rw [List.drop_length, List.append_nil, List.take_of_length_le (by rw [inkR_len]; omega)]
theorem inkRs_take (W : Waf) (m : Nat) {y : Nat} (h : y < W.rows.length) : (inkRs W m).take (y + 1) = (inkRs W m).take y ++ [inkR W m y (W.rows.getD y [])] := by
  have := zip_take (fun r y => inkR W m y r) [] 0 h (m := List.range W.rows.length) (by rw [List.length_range]; exact h)
  rw [rangeD h] at this
  exact this
theorem cntN_app (F : Pt → Bool) (l : List Pt) (p : Pt) : cntN F (l ++ [p]) = cntN F l + (if F p = true then 1 else 0) := by
  unfold cntN
  rw [List.countP_append, List.countP_cons, List.countP_nil, Nat.zero_add]
set_option maxHeartbeats 8000000 in
theorem changedInk_c (ib im io : Nat) (nl nlb : Bool) (W : Waf) (m : Nat) (nid : Nat) (hib : ib < nid) (him : im < nid) (hio : io < nid) (n1 : ib ≠ im) (n2 : ib ≠ io) (n3 : im ≠ io) (hW : WafOk W) :
    ACall Tryz.prog 40 [wafP nl W, .fn 41 [.ptr ib 0, .ptr im 0, .ptr io 0]] [(ib, boxW nlb W), (im, boxI (m : Nat)), (io, boxI 0)] nid (.agg [.sl nid 0 W.rows.length, .str W.pass]) [(ib, boxW nlb W), (im, boxI (m : Nat)), (io, boxI (cntN (inkAt W m) (plV W) : Nat)), (nid, arrS (inkRs W m))] := by
  have hl := hW.len
  have hww := hW.wide.2
  obtain ⟨a1, a2, a3, a4, a5, a6, a7, a8, a9⟩ := id_all hib
  obtain ⟨b1, b2, b3, b4, b5, b6, b7, b8, b9⟩ := id_all him
  obtain ⟨d1, d2, d3, d4, d5, d6, d7, d8, d9⟩ := id_all hio
  have g1 : (ib == im) = false := by simpa using n1
  have g2 : (im == ib) = false := by simpa using fun h => n1 h.symm
  have g3 : (ib == io) = false := by simpa using n2
  have g4 : (io == ib) = false := by simpa using fun h => n2 h.symm
  have g5 : (im == io) = false := by simpa using n3
  have g6 : (io == im) = false := by simpa using fun h => n3 h.symm
  have m1 : ¬ im = ib := fun h => n1 h.symm
  have m2 : ¬ io = ib := fun h => n2 h.symm
  have m3 : ¬ io = im := fun h => n3 h.symm
  have hml := inkRs_len W m
  have hp0 : cntN (inkAt W m) (plTo W 0) = 0 := by simp [cntN, plTo]
  refine acall_run c40 (by simp [a40]) ?_
  unfold wafP boxW boxI
  simp -dsimp only [a40, aqT, aqU, aqN, aqS, ↓seqK, ↓blkK, ↓loopK, step, stepBin, Nat.add_assoc nid, ↓reduceIte, Option.toList, ← Int.ofNat_tmod, ← Int.ofNat_tdiv, simprocAttr, BEq.rfl, LN_succ, a1, a2, a3, a4, a5, a6, a7, a8, a9, b1, b2, b3, b4, b5, b6, b7, b8, b9, d1, d2, d3, d4, d5, d6, d7, d8, d9, g1, g2, g3, g4, g5, g6, n1, n2, n3, m1, m2, m3]
  refine LP.mkP (fun y : Nat => y ≤ W.rows.length) (fun y : Nat => ⟨[(16, .int .i64 y), (15, .int .i64 W.rows.length), (14, .lit nl W.rows.length [.s fun i => W.rows.getD i []]), (1, .fn 41 [.ptr ib 0, .ptr im 0, .ptr io 0]), (5, .ptr (nid + 20) 0), (4, .ptr (nid + 4) 0)],
    [(ib, boxW nlb W), (im, boxI (m : Nat)), (io, boxI (cntN (inkAt W m) (plTo W y) : Nat)), (nid + 4, some (.box 28 [.lit true 0 [], .str []])), (nid + 20, some (.box 28 [.sl (nid + 8) 0 y, .str W.pass])), (nid + 8, some (.arr 9 y [.s fun i => ((inkRs W m).take y).getD i []]))], nid + 200, nid⟩) (fun y => W.rows.length + 1 - y) 0 (by omega) (Cov.go [] [(nid + 8, 1)] ?_) (fun y hy => ?_)
  · simp [cvT, step, res, a1, a2, a3, a4, a5, a6, a7, a8, a9, b1, b2, b3, b4, b5, b6, b7, b8, b9, d1, d2, d3, d4, d5, d6, d7, d8, d9, g1, g2, g3, g4, g5, g6, n1, n2, n3, m1, m2, m3, boxW, boxI, hp0]
  unfold boxW boxI
  simp -dsimp only [aqT, aqU, aqN, aqS, ↓seqK, ↓blkK, ↓loopK, step, stepBin, Nat.add_assoc nid, ↓reduceIte, Option.toList, ← Int.ofNat_tmod, ← Int.ofNat_tdiv, simprocAttr, BEq.rfl, LN_succ, a1, a2, a3, a4, a5, a6, a7, a8, a9, b1, b2, b3, b4, b5, b6, b7, b8, b9, d1, d2, d3, d4, d5, d6, d7, d8, d9, g1, g2, g3, g4, g5, g6, n1, n2, n3, m1, m2, m3]
  refine S2.dec (fun h1 => ?_) (fun h1 => ?_) <;> simp -dsimp only [aqT, aqU, aqN, aqS, ↓seqK, ↓blkK, ↓loopK, step, stepBin, Nat.add_assoc nid, ↓reduceIte, Option.toList, ← Int.ofNat_tmod, ← Int.ofNat_tdiv, simprocAttr, BEq.rfl, LN_succ, a1, a2, a3, a4, a5, a6, a7, a8, a9, b1, b2, b3, b4, b5, b6, b7, b8, b9, d1, d2, d3, d4, d5, d6, d7, d8, d9, g1, g2, g3, g4, g5, g6, n1, n2, n3, m1, m2, m3]
  · have hyl : y < W.rows.length := by omega
    have hra := (hW.at hyl).1
    have hmt := inkRs_take W m hyl
    have hmtl : ((inkRs W m).take y).length = y := by rw [List.length_take]; omega
    have hdie : ∀ x : Nat, x < wideOf W → dieV W (x : Int) (y : Int) = byteI ((W.rows.getD y []).getD x 0) := fun x hx => dieV_in hyl hx
    have hts := plTo_succ W y
    have htb := plTo_bd hW (y := y) (by omega)
    generalize hAr : W.rows.getD y [] = r at *
    generalize hTd : plTo W y = T at *
    refine ⟨by omega, by omega, ?_⟩
    refine LP.mkP (fun x : Nat => x ≤ r.length) (fun x : Nat => ⟨[(25, .int .i64 x), (24, .int .i64 r.length), (8, .sl (nid + 228) 0 r.length), (6, .int .i64 y), (16, .int .i64 y), (15, .int .i64 W.rows.length), (14, .lit nl W.rows.length [.s fun i => W.rows.getD i []]), (1, .fn 41 [.ptr ib 0, .ptr im 0, .ptr io 0]), (5, .ptr (nid + 20) 0), (4, .ptr (nid + 4) 0)],
      [(ib, boxW nlb W), (im, boxI (m : Nat)), (io, boxI (cntN (inkAt W m) (T ++ rowPl y x) : Nat)), (nid + 4, some (.box 28 [.lit true 0 [], .str []])), (nid + 20, some (.box 28 [.sl (nid + 8) 0 y, .str W.pass])), (nid + 8, some (.arr 9 y [.s fun i => ((inkRs W m).take y).getD i []])),
       (nid + 228, some (.arr 4294967295 r.length [.i .u8 fun i => (((inkTo W m y r x).getD i 0).toNat : Nat)]))], nid + 400, nid⟩) (fun x => r.length + 1 - x) 0 (by omega) (Cov.go [] [] ?_) (fun x hx => ?_)
    · have e0 : T ++ rowPl y 0 = T := by simp [rowPl]
      rw [e0]
      simp [cvT, step, res, a1, a2, a3, a4, a5, a6, a7, a8, a9, b1, b2, b3, b4, b5, b6, b7, b8, b9, d1, d2, d3, d4, d5, d6, d7, d8, d9, g1, g2, g3, g4, g5, g6, n1, n2, n3, m1, m2, m3, boxW, boxI, inkTo, -List.getD_eq_getElem?_getD]
    have hrl := inkTo_len W m y r x
    have hra2 := inkTo_at W m y (r := r) (k := x)
    have hrs := inkTo_set W m y (r := r) (k := x)
    have hTs : T ++ rowPl y (x + 1) = (T ++ rowPl y x) ++ [((x : Int), (y : Int))] := by rw [rowPl_succ, List.append_assoc]
    have hcs := cntN_app (inkAt W m) (T ++ rowPl y x) ((x : Int), (y : Int))
    have hcl := cntN_le (inkAt W m) (T ++ rowPl y x)
    rw [List.length_append, rowPl_len] at hcl
    rw [← hTs] at hcs
    unfold boxW boxI
    generalize hq : inkTo W m y r x = q at *
    generalize hcd : cntN (inkAt W m) (T ++ rowPl y x) = c at *
    simp -dsimp only [aqT, aqU, aqN, aqS, ↓seqK, ↓blkK, ↓loopK, step, stepBin, Nat.add_assoc nid, ↓reduceIte, Option.toList, ← Int.ofNat_tmod, ← Int.ofNat_tdiv, simprocAttr, BEq.rfl, LN_succ, a1, a2, a3, a4, a5, a6, a7, a8, a9, b1, b2, b3, b4, b5, b6, b7, b8, b9, d1, d2, d3, d4, d5, d6, d7, d8, d9, g1, g2, g3, g4, g5, g6, n1, n2, n3, m1, m2, m3]
    refine S2.dec (fun h2 => ?_) (fun h2 => ?_) <;> simp -dsimp only [aqT, aqU, aqN, aqS, ↓seqK, ↓blkK, ↓loopK, step, stepBin, Nat.add_assoc nid, ↓reduceIte, Option.toList, ← Int.ofNat_tmod, ← Int.ofNat_tdiv, simprocAttr, BEq.rfl, LN_succ, a1, a2, a3, a4, a5, a6, a7, a8, a9, b1, b2, b3, b4, b5, b6, b7, b8, b9, d1, d2, d3, d4, d5, d6, d7, d8, d9, g1, g2, g3, g4, g5, g6, n1, n2, n3, m1, m2, m3]
    · have hxl : x < r.length := by omega
      have hia : inkAt W m ((x : Int), (y : Int)) = inkP W m (byteI (r.getD x 0)) ((x : Int), (y : Int)) := by unfold inkAt; simp only; rw [hdie x (by omega)]
      rw [hra2 hxl]
      refine ⟨by omega, CallO.on (inkF_c ib im io nlb W m c x y (r.getD x 0) _ (by omega) (by omega) (by omega) n1 n2 n3 hW (by omega) (by omega) (by omega)) (subH_cons (by simp only [aqT, aqU, aqN, aqS, ↓seqK, ↓blkK, ↓loopK, step, stepBin, Nat.add_assoc nid, ↓reduceIte, Option.toList, ← Int.ofNat_tmod, ← Int.ofNat_tdiv, simprocAttr, BEq.rfl, LN_succ, a1, a2, a3, a4, a5, a6, a7, a8, a9, b1, b2, b3, b4, b5, b6, b7, b8, b9, d1, d2, d3, d4, d5, d6, d7, d8, d9, g1, g2, g3, g4, g5, g6, n1, n2, n3, m1, m2, m3, boxW]) (subH_cons (by simp only [aqT, aqU, aqN, aqS, ↓seqK, ↓blkK, ↓loopK, step, stepBin, Nat.add_assoc nid, ↓reduceIte, Option.toList, ← Int.ofNat_tmod, ← Int.ofNat_tdiv, simprocAttr, BEq.rfl, LN_succ, a1, a2, a3, a4, a5, a6, a7, a8, a9, b1, b2, b3, b4, b5, b6, b7, b8, b9, d1, d2, d3, d4, d5, d6, d7, d8, d9, g1, g2, g3, g4, g5, g6, n1, n2, n3, m1, m2, m3, boxI]) (subH_get (by simp only [aqT, aqU, aqN, aqS, ↓seqK, ↓blkK, ↓loopK, step, stepBin, Nat.add_assoc nid, ↓reduceIte, Option.toList, ← Int.ofNat_tmod, ← Int.ofNat_tdiv, simprocAttr, BEq.rfl, LN_succ, a1, a2, a3, a4, a5, a6, a7, a8, a9, b1, b2, b3, b4, b5, b6, b7, b8, b9, d1, d2, d3, d4, d5, d6, d7, d8, d9, g1, g2, g3, g4, g5, g6, n1, n2, n3, m1, m2, m3, boxI])))) ?_⟩
      rw [← hia, ← hcs]
      unfold boxW boxI
      simp -dsimp only [aqT, aqU, aqN, aqS, ↓seqK, ↓blkK, ↓loopK, step, stepBin, Nat.add_assoc nid, ↓reduceIte, Option.toList, ← Int.ofNat_tmod, ← Int.ofNat_tdiv, simprocAttr, BEq.rfl, LN_succ, a1, a2, a3, a4, a5, a6, a7, a8, a9, b1, b2, b3, b4, b5, b6, b7, b8, b9, d1, d2, d3, d4, d5, d6, d7, d8, d9, g1, g2, g3, g4, g5, g6, n1, n2, n3, m1, m2, m3]
      rw [setD_byte (by omega : x < q.length), hrs hxl]
      refine ⟨by omega, by unfold inI64; omega, x + 1, ⟨by omega, by omega⟩, Cov.go [] [] ?_⟩
      simp [cvT, step, res, a1, a2, a3, a4, a5, a6, a7, a8, a9, b1, b2, b3, b4, b5, b6, b7, b8, b9, d1, d2, d3, d4, d5, d6, d7, d8, d9, g1, g2, g3, g4, g5, g6, n1, n2, n3, m1, m2, m3, boxW, boxI, -List.getD_eq_getElem?_getD]
    · have hxr : x = r.length := by omega
      subst hxr
      rw [inkTo_all] at hq
      subst hq
      rw [bytes_back2 hrl, getD_app1 _ _ hmtl, ← hmt]
      rw [← hts] at hcd
      refine ⟨⟨by omega, by omega⟩, by unfold inI64; omega, y + 1, ⟨by omega, by omega⟩, Cov.go [(nid + 8, nid + 424)] [] ?_⟩
      simp [cvT, step, res, a1, a2, a3, a4, a5, a6, a7, a8, a9, b1, b2, b3, b4, b5, b6, b7, b8, b9, d1, d2, d3, d4, d5, d6, d7, d8, d9, g1, g2, g3, g4, g5, g6, n1, n2, n3, m1, m2, m3, boxW, boxI, hcd, -List.getD_eq_getElem?_getD]
  · have hyn : y = W.rows.length := by omega
    subst hyn
    rw [List.take_of_length_le (by omega)]
    refine RetOK.go [(nid, nid + 8)] [] (.inl rfl) ?_
    simp [cvT, step, res, a1, a2, a3, a4, a5, a6, a7, a8, a9, b1, b2, b3, b4, b5, b6, b7, b8, b9, d1, d2, d3, d4, d5, d6, d7, d8, d9, g1, g2, g3, g4, g5, g6, n1, n2, n3, m1, m2, m3, a40, boxW, boxI, arrS, hml, plV, -List.getD_eq_getElem?_getD]
end Go.Proofs.YtmgfcjblclanmaaGreat
namespace Go.Proofs.YtmgfcjblclanmaaGreat
open Go.RowKit
def seenD (S : List Pt) (q : MK) : Bool := S.any fun p => decide (q = MK.p p.1 p.2)
theorem seenD_snoc (S : List Pt) (a : Pt) : (fun p => if p = MK.p a.1 a.2 then true else seenD S p) = seenD (S ++ [a]) := by
  funext q
  unfold seenD
  rw [List.any_append]
  by_cases h : q = MK.p a.1 a.2 <;> simp [h]
theorem seenD_nil : (fun _ : MK => false) = seenD [] := by funext q; rfl
theorem seenD_self (S : List Pt) (a : Pt) : seenD (S ++ [a]) (MK.p a.1 a.2) = true := by rw [← seenD_snoc]; simp
theorem seenD_mono (S : List Pt) (a : Pt) {q : MK} (h : seenD S q = true) : seenD (S ++ [a]) q = true := by
  rw [← seenD_snoc]; simp [h]
def mapS (S : List Pt) : Option ABlk := some (.map .p (seenD S) (.b (seenD S)))
theorem countP_lt' {F G : Pt → Bool} {q : Pt} (hq : F q = true) (hG : G q = false) (h : ∀ p, G p = true → F p = true) : ∀ {l : List Pt}, q ∈ l → l.countP G < l.countP F
  | [], hm => by simp at hm
  | a :: l, hm => by
    have hle : l.countP G ≤ l.countP F := List.countP_mono_left fun p _ => h p
    rw [List.countP_cons, List.countP_cons]
    rcases List.mem_cons.1 hm with rfl | hm
    · rw [hq, hG]; simp; omega
    · have := countP_lt' hq hG h hm
      cases hg : G a
      · simp; omega
      · rw [h a hg]; simp; omega
def muV (W : Waf) (S : List Pt) : Nat := (plV W).countP fun p => !seenD S (MK.p p.1 p.2)
theorem muV_le {W : Waf} (hW : WafOk W) (S : List Pt) : muV W S ≤ 60000 := by
  have h1 := plTo_bd hW (Nat.le_refl _)
  have h2 := List.countP_le_length (p := fun p : Pt => !seenD S (MK.p p.1 p.2)) (l := plV W)
  unfold muV plV at *
  omega
theorem muV_lt {W : Waf} {S : List Pt} {q : Pt} (hq : q ∈ plV W) (hs : seenD S (MK.p q.1 q.2) = false) : muV W (S ++ [q]) < muV W S := by
  refine countP_lt' (q := q) (by simp [hs]) (by simp [seenD_self]) (fun p hp => ?_) hq
  cases h : seenD S (MK.p p.1 p.2)
  · rfl
  · rw [seenD_mono S q h] at hp; cases hp
theorem die_mem {W : Waf} (hW : WafOk W) {q : Pt} (h : dieV W q.1 q.2 ≠ 46) : q ∈ plV W := by
  obtain ⟨x, y⟩ := q
  unfold dieV outB at h
  simp only at h
  split at h
  · contradiction
  split at h
  · contradiction
  rename_i h1 h2
  simp at h1 h2
  have hp := hW.pos
  have hr := (hW.at (y := y.toNat) (by omega)).1
  have hw := hW.wide.1
  unfold plV plTo rowPl
  rw [List.mem_flatMap]
  refine ⟨y.toNat, List.mem_range.2 (by omega), ?_⟩
  rw [List.mem_map]
  refine ⟨x.toNat, List.mem_range.2 (by omega), ?_⟩
  ext <;> simp <;> omega
def arrFr (l : List Pt) : Option ABlk := some (.arr 62 l.length [.i .i64 fun i => (l.getD i p0).1, .i .i64 fun i => (l.getD i p0).2])
def arrBl (l : List Bool) : Option ABlk := some (.arr 4 l.length [.b fun i => l.getD i false])
end Go.Proofs.YtmgfcjblclanmaaGreat
namespace Go.Proofs.YtmgfcjblclanmaaGreat
inductive Rch (W : Waf) : Pt → Pt → Prop
  | refl {p : Pt} (h : badP W p = true) : Rch W p p
  | step {p q r : Pt} (h : Rch W p q) (hr : r ∈ arV q) (hb : badP W r = true) : Rch W p r
theorem arV_iff {p q : Pt} : q ∈ arV p ↔ q ≠ p ∧ p.1 - 1 ≤ q.1 ∧ q.1 ≤ p.1 + 1 ∧ p.2 - 1 ≤ q.2 ∧ q.2 ≤ p.2 + 1 := by
  obtain ⟨x, y⟩ := p
  obtain ⟨a, b⟩ := q
  unfold arV arTo rowAr neP
  simp only [List.mem_flatMap, List.mem_filter, List.mem_map, List.mem_range, Prod.mk.injEq, ne_eq, Bool.not_eq_true', Bool.and_eq_false_iff, beq_eq_false_iff_ne]
  constructor
  · rintro ⟨j, hj, ⟨i, hi, h1, h2⟩, h3⟩
    omega
  · rintro ⟨h1, h2, h3, h4, h5⟩
    refine ⟨(b - (y - 1)).toNat, by omega, ⟨(a - (x - 1)).toNat, by omega, by omega, by omega⟩, by omega⟩
theorem arV_symm {p q : Pt} (h : q ∈ arV p) : p ∈ arV q := by
  rw [arV_iff] at *
  obtain ⟨h1, h2⟩ := h
  exact ⟨fun e => h1 e.symm, by omega⟩
theorem Rch.bad {W : Waf} {p q : Pt} (h : Rch W p q) : badP W q = true := by
  cases h with
  | refl h => exact h
  | step _ _ hb => exact hb
theorem Rch.trans {W : Waf} {p q r : Pt} (h : Rch W p q) (h' : Rch W q r) : Rch W p r := by
  induction h' with
  | refl _ => exact h
  | step _ hr hb ih => exact .step ih hr hb
theorem Rch.symm {W : Waf} {p q : Pt} (h : Rch W p q) : Rch W q p := by
  induction h with
  | refl h => exact .refl h
  | step h hr hb ih => exact (Rch.step (.refl hb) (arV_symm hr) h.bad).trans ih
theorem badP_die {W : Waf} {p : Pt} (h : badP W p = true) : dieV W p.1 p.2 ≠ 46 := by
  intro e
  unfold badP failedV at h
  rw [e] at h
  have : isBinV 46 = false := by decide
  rw [this] at h
  cases h
theorem badP_mem {W : Waf} (hW : WafOk W) {p : Pt} (h : badP W p = true) : p ∈ plV W := die_mem hW (badP_die h)
def ltP (p q : Pt) : Prop := p.2 < q.2 ∨ (p.2 = q.2 ∧ p.1 < q.1)
instance (p q : Pt) : Decidable (ltP p q) := by unfold ltP; exact inferInstance
theorem rowPl_pw (y n : Nat) : (rowPl y n).Pairwise ltP := by
  unfold rowPl
  rw [List.pairwise_map]
  refine (List.pairwise_lt_range (n := n)).imp ?_
  intro a b h
  exact .inr ⟨rfl, by simp only; omega⟩
theorem plTo_pw (W : Waf) : ∀ y, (plTo W y).Pairwise ltP
  | 0 => by simp [plTo]
  | y + 1 => by
    rw [plTo_succ, List.pairwise_append]
    refine ⟨plTo_pw W y, rowPl_pw _ _, ?_⟩
    intro a ha b hb
    unfold plTo rowPl at ha
    unfold rowPl at hb
    simp only [List.mem_flatMap, List.mem_range, List.mem_map] at ha hb
    obtain ⟨y', hy', x', _, rfl⟩ := ha
    obtain ⟨x, _, rfl⟩ := hb
    exact .inl (by simp only; omega)
theorem plV_pw (W : Waf) : (plV W).Pairwise ltP := plTo_pw W _
theorem ltP_irrefl (p : Pt) : ¬ ltP p p := by unfold ltP; omega
theorem ltP_asymm {p q : Pt} (h : ltP p q) : ¬ ltP q p := by unfold ltP at *; omega
theorem ltP_total {p q : Pt} (h : ¬ ltP p q) (h' : ¬ ltP q p) : p = q := by
  obtain ⟨a, b⟩ := p
  obtain ⟨c, d⟩ := q
  unfold ltP at *
  simp only at h h'
  ext <;> simp only <;> omega
theorem ltP_trans {p q r : Pt} (h : ltP p q) (h' : ltP q r) : ltP p r := by unfold ltP at *; omega
theorem sorted_eq : ∀ {l m : List Pt}, l.Pairwise ltP → m.Pairwise ltP → (∀ p, p ∈ l ↔ p ∈ m) → l = m
  | [], [], _, _, _ => rfl
  | [], b :: m, _, _, h => absurd ((h b).2 (by simp)) (by simp)
  | a :: l, [], _, _, h => absurd ((h a).1 (by simp)) (by simp)
  | a :: l, b :: m, hl, hm, h => by
    rw [List.pairwise_cons] at hl hm
    have hab : a = b := by
      refine ltP_total (fun c => ?_) (fun c => ?_)
      · rcases List.mem_cons.1 ((h a).1 (by simp)) with e | e
        · subst e; exact ltP_irrefl _ c
        · exact ltP_asymm c (hm.1 _ e)
      · rcases List.mem_cons.1 ((h b).2 (by simp)) with e | e
        · subst e; exact ltP_irrefl _ c
        · exact ltP_asymm c (hl.1 _ e)
    subst hab
    congr 1
    refine sorted_eq hl.2 hm.2 (fun p => ⟨fun hp => ?_, fun hp => ?_⟩)
    · rcases List.mem_cons.1 ((h p).1 (by simp [hp])) with e | e
      · subst e; exact absurd (hl.1 _ hp) (ltP_irrefl _)
      · exact e
    · rcases List.mem_cons.1 ((h p).2 (by simp [hp])) with e | e
      · subst e; exact absurd (hm.1 _ hp) (ltP_irrefl _)
      · exact e
open Classical in
noncomputable def compL (W : Waf) (p : Pt) : List Pt := (plV W).filter fun q => decide (Rch W p q)
theorem compL_mem {W : Waf} (hW : WafOk W) {p q : Pt} : q ∈ compL W p ↔ Rch W p q := by
  unfold compL
  rw [List.mem_filter]
  constructor
  · intro h; simpa using h.2
  · intro h; exact ⟨badP_mem hW h.bad, by simpa using h⟩
theorem compL_pw (W : Waf) (p : Pt) : (compL W p).Pairwise ltP := (plV_pw W).filter _
open Classical in
noncomputable def clNext (W : Waf) (c : List (List Pt)) (p : Pt) : List (List Pt) := if badP W p = true ∧ ∀ g ∈ c, p ∉ g then c ++ [compL W p] else c
noncomputable def clTo (W : Waf) (k : Nat) : List (List Pt) := ((plV W).take k).foldl (clNext W) []
noncomputable def clV (W : Waf) : List (List Pt) := clTo W (plV W).length
theorem clTo_zero (W : Waf) : clTo W 0 = [] := rfl
theorem clTo_succ {W : Waf} {k : Nat} (h : k < (plV W).length) : clTo W (k + 1) = clNext W (clTo W k) ((plV W).getD k p0) := by
  unfold clTo
  rw [take_snoc (x := (plV W).getD k p0) (by rw [List.getD_eq_getElem?_getD, List.getElem?_eq_getElem h]; rfl), List.foldl_append]
  rfl
structure ClOk (W : Waf) (c : List (List Pt)) : Prop where
  comp : ∀ g ∈ c, ∃ p, badP W p = true ∧ g = compL W p
  apart : c.Pairwise fun g h => ∀ p, p ∈ g → p ∉ h
theorem ClOk.nil (W : Waf) : ClOk W [] := ⟨by simp, by simp⟩
theorem ClOk.next {W : Waf} (hW : WafOk W) {c : List (List Pt)} (h : ClOk W c) (p : Pt) : ClOk W (clNext W c p) := by
  unfold clNext
  split
  · rename_i hp
    refine ⟨fun g hg => ?_, ?_⟩
    · rcases List.mem_append.1 hg with hg | hg
      · exact h.comp g hg
      · rw [List.mem_singleton.1 hg]; exact ⟨p, hp.1, rfl⟩
    · rw [List.pairwise_append]
      refine ⟨h.apart, by simp, fun g hg g' hg' q hq hq' => ?_⟩
      rw [List.mem_singleton.1 hg'] at hq'
      obtain ⟨p', _, rfl⟩ := h.comp g hg
      have h1 := (compL_mem hW).1 hq
      have h2 := (compL_mem hW).1 hq'
      exact hp.2 _ hg ((compL_mem hW).2 (h1.trans h2.symm))
  · exact h
theorem ClOk.fold {W : Waf} (hW : WafOk W) : ∀ (l : List Pt) {c : List (List Pt)}, ClOk W c → ClOk W (l.foldl (clNext W) c)
  | [], _, h => h
  | p :: l, _, h => ClOk.fold hW l (h.next hW p)
theorem clTo_ok {W : Waf} (hW : WafOk W) (k : Nat) : ClOk W (clTo W k) := ClOk.fold hW _ (.nil W)
theorem clV_ok {W : Waf} (hW : WafOk W) : ClOk W (clV W) := clTo_ok hW _
theorem clNext_len {W : Waf} {c : List (List Pt)} {p : Pt} : (clNext W c p).length ≤ c.length + 1 := by
  unfold clNext
  split
  · simp
  · omega
theorem clTo_len {W : Waf} : ∀ k, k ≤ (plV W).length → (clTo W k).length ≤ k
  | 0, _ => by simp [clTo_zero]
  | k + 1, h => by
    rw [clTo_succ (by omega)]
    have := clTo_len (W := W) k (by omega)
    have := clNext_len (W := W) (c := clTo W k) (p := (plV W).getD k p0)
    omega
theorem compL_len (W : Waf) (p : Pt) : (compL W p).length ≤ (plV W).length := List.length_filter_le _ _
end Go.Proofs.YtmgfcjblclanmaaGreat
namespace Go.Proofs.YtmgfcjblclanmaaGreat
end Go.Proofs.YtmgfcjblclanmaaGreat
namespace Go.Proofs.YtmgfcjblclanmaaGreat
def turnR (W : Waf) (x : Nat) : List UInt8 := (W.rows.map fun r => r.getD x 0).reverse
def turnRs (W : Waf) : List (List UInt8) := (List.range (wideOf W)).map (turnR W)
theorem turnRs_len (W : Waf) : (turnRs W).length = wideOf W := by simp [turnRs]
theorem turnR_len (W : Waf) (x : Nat) : (turnR W x).length = W.rows.length := by simp [turnR]
theorem turnR_at (W : Waf) (x : Nat) {y : Nat} (h : y < W.rows.length) : (turnR W x).getD y 0 = (W.rows.getD (W.rows.length - 1 - y) []).getD x 0 := by
  unfold turnR
  rw [List.getD_eq_getElem?_getD, List.getElem?_reverse (by simpa using h), List.getElem?_map, List.length_map, List.getElem?_eq_getElem (by omega), List.getD_eq_getElem?_getD (l := W.rows), List.getElem?_eq_getElem (by omega)]
  rfl
end Go.Proofs.YtmgfcjblclanmaaGreat
namespace Go.Proofs.YtmgfcjblclanmaaGreat
open Go.RowKit
theorem gcdR_c (a b nid : Nat) (ha : a ≤ 1000000000000) (hb : b ≤ 1000000000000) : ACall Tryz.prog 101 [.int .i64 (a : Nat), .int .i64 (b : Nat)] [] nid (.int .i64 (Nat.gcd a b : Nat)) [] := by
  refine acall_run c101 (by simp [a101]) ?_
  simp -dsimp only [a101, aqT, aqU, aqN, aqS, ↓seqK, ↓blkK, ↓loopK, step, stepBin, Nat.add_assoc nid, ↓reduceIte, Option.toList, ← Int.ofNat_tmod, ← Int.ofNat_tdiv, simprocAttr, BEq.rfl, LN_succ]
  refine LP.mkP (fun x : Nat × Nat => Nat.gcd x.1 x.2 = Nat.gcd a b ∧ x.1 ≤ 1000000000000 ∧ x.2 ≤ 1000000000000) (fun x : Nat × Nat => ⟨[(0, .int .i64 (x.1 : Nat)), (1, .int .i64 (x.2 : Nat))], [], nid + 100, nid⟩) (fun x => x.2) (a, b) ⟨rfl, ha, hb⟩ (Cov.go [] [] ?_) (fun x hx => ?_)
  · simp [cvT, step, res]
  obtain ⟨x, y⟩ := x
  obtain ⟨hg, h1, h2⟩ := hx
  simp only at hg h1 h2
  simp -dsimp only [aqT, aqU, aqN, aqS, ↓seqK, ↓blkK, ↓loopK, step, stepBin, Nat.add_assoc nid, ↓reduceIte, Option.toList, ← Int.ofNat_tmod, ← Int.ofNat_tdiv, simprocAttr, BEq.rfl, LN_succ]
  refine S2.intro (fun h => ?_) (fun h => ?_) <;> simp -dsimp only [aqT, aqU, aqN, aqS, ↓seqK, ↓blkK, ↓loopK, step, stepBin, Nat.add_assoc nid, ↓reduceIte, Option.toList, ← Int.ofNat_tmod, ← Int.ofNat_tdiv, simprocAttr, BEq.rfl, LN_succ]
  · have hy : 0 < y := by
      rcases Nat.eq_zero_or_pos y with h0 | h0
      · subst h0; simp at h
      · exact h0
    have hm := Nat.mod_lt x hy
    refine ⟨by omega, (y, x % y), ⟨⟨?_, by omega, by simp only; omega⟩, by simp only; omega⟩, Cov.go [] [] ?_⟩
    · simp only
      rw [← hg, Nat.gcd_comm x y, Nat.gcd_rec y x, Nat.gcd_comm]
    · simp [cvT, step, res]
  · have hy : y = 0 := by
      rcases Nat.eq_zero_or_pos y with h0 | h0
      · exact h0
      · exfalso
        have : ((y : Int) != 0) = true := by simp; omega
        rw [this] at h
        cases h
    subst hy
    rw [Nat.gcd_zero_right] at hg
    rw [← hg]
    refine RetOK.pure (.inl rfl) rfl ?_
    simp [cvT, step, res]
theorem fracR_c (a b nid : Nat) (ha : a ≤ 1000000000000) (hb : b ≤ 1000000000000) (hb0 : 0 < b) : ACall Tryz.prog 85 [.int .i64 (a : Nat), .int .i64 (b : Nat)] [] nid (.agg [.int .i64 (a / Nat.gcd a b : Nat), .int .i64 (b / Nat.gcd a b : Nat)]) [] := by
  have hg := Nat.gcd_pos_of_pos_right a hb0
  refine acall_run c85 (by simp [a85]) ?_
  simp -dsimp only [a85, aqT, aqU, aqN, aqS, ↓seqK, ↓blkK, ↓loopK, step, stepBin, Nat.add_assoc nid, ↓reduceIte, Option.toList, ← Int.ofNat_tmod, ← Int.ofNat_tdiv, simprocAttr, BEq.rfl, LN_succ]
  have hm : max (a : Int) (0 - (a : Int)) = a := by omega
  rw [hm]
  refine ⟨by unfold inI64; omega, CallO.pure (gcdR_c a b _ ha hb) ?_⟩
  simp -dsimp only [aqT, aqU, aqN, aqS, ↓seqK, ↓blkK, ↓loopK, step, stepBin, Nat.add_assoc nid, ↓reduceIte, Option.toList, ← Int.ofNat_tmod, ← Int.ofNat_tdiv, simprocAttr, BEq.rfl, LN_succ]
  have q1 : a / Nat.gcd a b ≤ a := Nat.div_le_self _ _
  have q2 : b / Nat.gcd a b ≤ b := Nat.div_le_self _ _
  have wN : ∀ q : Nat, q ≤ 1000000000000 → IntKind.i64.wrap (q : Int) = q := fun q hq => IntWalk.i64_in _ (by omega)
  have w1 : IntKind.i64.wrap ((a / Nat.gcd a b : Nat) : Int) = ((a / Nat.gcd a b : Nat) : Int) := wN _ (Nat.le_trans q1 ha)
  have w2 : IntKind.i64.wrap ((b / Nat.gcd a b : Nat) : Int) = ((b / Nat.gcd a b : Nat) : Int) := wN _ (Nat.le_trans q2 hb)
  rw [w1, w2]
  refine ⟨by omega, by omega, RetOK.go [] [] (.inl rfl) ?_⟩
  generalize a / Nat.gcd a b = q at *
  generalize b / Nat.gcd a b = r at *
  simp [a85, cvT, step, res]
end Go.Proofs.YtmgfcjblclanmaaGreat
namespace Go.Proofs.YtmgfcjblclanmaaGreat
open Go.RowKit
theorem edgeRN_c (ia : Nat) (nl : Bool) (W : Waf) (p : Pt) (nid : Nat) (hia : ia < nid) (hW : WafOk W) (hx : inI64 p.1) (hy : inI64 p.2) : ACall Tryz.prog 66 [.agg [.int .i64 p.1, .int .i64 p.2], .ptr ia 0] [(ia, boxW nl W)] nid (.bool (noneP W p)) [] := by
  obtain ⟨a1, a2, a3, a4, a5, a6, a7, a8, a9⟩ := id_all hia
  refine acall_run c66 (by simp [a66]) ?_
  unfold boxW
  simp -dsimp only [a66, aqT, aqU, aqN, aqS, ↓seqK, ↓blkK, ↓loopK, step, stepBin, Nat.add_assoc nid, ↓reduceIte, Option.toList, ← Int.ofNat_tmod, ← Int.ofNat_tdiv, simprocAttr, BEq.rfl, LN_succ, a1, a2, a3, a4, a5, a6, a7, a8, a9]
  refine CallO.pure (dieR_all nl W _ _ _ hW hx hy) ?_
  simp -dsimp only [aqT, aqU, aqN, aqS, ↓seqK, ↓blkK, ↓loopK, step, stepBin, Nat.add_assoc nid, ↓reduceIte, Option.toList, ← Int.ofNat_tmod, ← Int.ofNat_tdiv, simprocAttr, BEq.rfl, LN_succ, a1, a2, a3, a4, a5, a6, a7, a8, a9]
  refine RetOK.go [] [] (.inl rfl) ?_
  simp [a66, cvT, step, res, a1, a2, a3, a4, a5, a6, a7, a8, a9, noneP]
theorem edgeRF_c (ia : Nat) (nl : Bool) (W : Waf) (p : Pt) (nid : Nat) (hia : ia < nid) (hW : WafOk W) (hp : PtBd p) : ACall Tryz.prog 65 [.agg [.int .i64 p.1, .int .i64 p.2], .ptr ia 0] [(ia, boxW nl W)] nid (.bool (!innerP W p)) [] := by
  obtain ⟨a1, a2, a3, a4, a5, a6, a7, a8, a9⟩ := id_all hia
  have hpi : inI64 p.1 ∧ inI64 p.2 := by obtain ⟨h1, h2, h3, h4⟩ := hp; unfold inI64; omega
  have hl := arV_len p
  refine acall_run c65 (by simp [a65]) ?_
  unfold boxW
  simp -dsimp only [a65, aqT, aqU, aqN, aqS, ↓seqK, ↓blkK, ↓loopK, step, stepBin, Nat.add_assoc nid, ↓reduceIte, Option.toList, ← Int.ofNat_tmod, ← Int.ofNat_tdiv, simprocAttr, BEq.rfl, LN_succ, a1, a2, a3, a4, a5, a6, a7, a8, a9]
  refine CallO.pure (dieR_all nl W _ _ _ hW hpi.1 hpi.2) ?_
  have g : (dieV W p.1 p.2 != 46) = !noneP W p := rfl
  simp -dsimp only [aqT, aqU, aqN, aqS, ↓seqK, ↓blkK, ↓loopK, step, stepBin, Nat.add_assoc nid, ↓reduceIte, Option.toList, ← Int.ofNat_tmod, ← Int.ofNat_tdiv, simprocAttr, BEq.rfl, LN_succ, a1, a2, a3, a4, a5, a6, a7, a8, a9]
  rw [g]
  unfold innerP
  cases h : noneP W p <;> simp -dsimp only [aqT, aqU, aqN, aqS, ↓seqK, ↓blkK, ↓loopK, step, stepBin, Nat.add_assoc nid, ↓reduceIte, Option.toList, ← Int.ofNat_tmod, ← Int.ofNat_tdiv, simprocAttr, BEq.rfl, LN_succ, a1, a2, a3, a4, a5, a6, a7, a8, a9, Bool.not_not]
  · refine CallO.pure (eight_all p _ hp) ?_
    have hin := fun q hq => hp.ar (q := q) hq
    unfold arrPl
    simp -dsimp only [aqT, aqU, aqN, aqS, ↓seqK, ↓blkK, ↓loopK, step, stepBin, Nat.add_assoc nid, ↓reduceIte, Option.toList, ← Int.ofNat_tmod, ← Int.ofNat_tdiv, simprocAttr, BEq.rfl, LN_succ, a1, a2, a3, a4, a5, a6, a7, a8, a9]
    refine CallO.on (containsP1_c 66 (nid + 32) ia nl W (noneP W) (arV p) _ (by omega) (by omega) (by omega) (by omega) (fun q hq nid' h' => edgeRN_c ia nl W q nid' h' hW (hin q hq).1 (hin q hq).2)) (subH_cons (by simp only [aqT, aqU, aqN, aqS, ↓seqK, ↓blkK, ↓loopK, step, stepBin, Nat.add_assoc nid, ↓reduceIte, Option.toList, ← Int.ofNat_tmod, ← Int.ofNat_tdiv, simprocAttr, BEq.rfl, LN_succ, a1, a2, a3, a4, a5, a6, a7, a8, a9, arrPl]) (subH_get (by simp only [aqT, aqU, aqN, aqS, ↓seqK, ↓blkK, ↓loopK, step, stepBin, Nat.add_assoc nid, ↓reduceIte, Option.toList, ← Int.ofNat_tmod, ← Int.ofNat_tdiv, simprocAttr, BEq.rfl, LN_succ, a1, a2, a3, a4, a5, a6, a7, a8, a9, boxW]))) ?_
    simp -dsimp only [aqT, aqU, aqN, aqS, ↓seqK, ↓blkK, ↓loopK, step, stepBin, Nat.add_assoc nid, ↓reduceIte, Option.toList, ← Int.ofNat_tmod, ← Int.ofNat_tdiv, simprocAttr, BEq.rfl, LN_succ, a1, a2, a3, a4, a5, a6, a7, a8, a9]
    refine RetOK.go [] [] (.inl rfl) ?_
    simp [a65, cvT, step, res, a1, a2, a3, a4, a5, a6, a7, a8, a9]
  · refine RetOK.go [] [] (.inl rfl) ?_
    simp [a65, cvT, step, res, a1, a2, a3, a4, a5, a6, a7, a8, a9]
theorem edgeR_all (nl : Bool) (W : Waf) (nid : Nat) (hW : WafOk W) : ACall Tryz.prog 20 [wafP nl W] [] nid (.sl nid 0 (edgeL W).length) [(nid, arrPl (edgeL W))] := by
  have e : edgeL W = (plV W).filter (fun p => !innerP W p) := rfl
  rw [e]
  refine acall_run c20 (by simp [a20]) ?_
  unfold wafP
  simp -dsimp only [aqT, aqU, aqN, aqS, ↓seqK, ↓blkK, ↓loopK, step, stepBin, Nat.add_assoc nid, ↓reduceIte, Option.toList, ← Int.ofNat_tmod, ← Int.ofNat_tdiv, simprocAttr, BEq.rfl, LN_succ, a20]
  refine CallO.on (placesR_h 65 [.ptr nid 0] [(nid, boxW nl W)] (fun p => !innerP W p) nl W _ hW (scp1 (by omega) rfl) (by simp [idsOfs, idsOf, lowAll]) (fun p hp nid' h' => edgeRF_c nid nl W p nid' (by omega) hW (plV_bd hW hp))) (subH_get (by simp only [aqT, aqU, aqN, aqS, ↓seqK, ↓blkK, ↓loopK, step, stepBin, Nat.add_assoc nid, ↓reduceIte, Option.toList, ← Int.ofNat_tmod, ← Int.ofNat_tdiv, simprocAttr, BEq.rfl, LN_succ, boxW])) ?_
  unfold arrPl
  simp -dsimp only [aqT, aqU, aqN, aqS, ↓seqK, ↓blkK, ↓loopK, step, stepBin, Nat.add_assoc nid, ↓reduceIte, Option.toList, ← Int.ofNat_tmod, ← Int.ofNat_tdiv, simprocAttr, BEq.rfl, LN_succ]
  refine RetOK.go [(nid, nid + 16)] [] (.inl rfl) ?_
  simp [cvT, step, res, a20, -List.getD_eq_getElem?_getD]
def porV (g a : Nat) : Int × Int × Bool := if a = 0 then (0, 1, false) else ((g / Nat.gcd g a : Nat), (a / Nat.gcd g a : Nat), true)
theorem portion_all (nl nlp : Bool) (W : Waf) (l : List Pt) (nid : Nat) (hW : WafOk W) (hl : l.length ≤ 1000000) (hp : ∀ p ∈ l, inI64 p.1 ∧ inI64 p.2) : ACall Tryz.prog 60 [wafP nl W, litPl nlp l] [] nid (.tup [.agg [.int .i64 (porV (cntN (goodP W) l) (cntN (allP W) l)).1, .int .i64 (porV (cntN (goodP W) l) (cntN (allP W) l)).2.1], .bool (porV (cntN (goodP W) l) (cntN (allP W) l)).2.2]) [] := by
  refine acall_run c60 (by simp [a60]) ?_
  unfold wafP litPl
  simp -dsimp only [aqT, aqU, aqN, aqS, ↓seqK, ↓blkK, ↓loopK, step, stepBin, Nat.add_assoc nid, ↓reduceIte, Option.toList, ← Int.ofNat_tmod, ← Int.ofNat_tdiv, simprocAttr, BEq.rfl, LN_succ, a60]
  refine LP.mkP (fun k : Nat => k ≤ l.length) (fun k : Nat => ⟨[(12, .int .i64 k), (11, .int .i64 l.length), (10, litPl nlp l), (6, .int .i64 (cntTo (goodP W) l k : Nat)), (7, .int .i64 (cntTo (allP W) l k : Nat)), (5, .bool false), (4, .ptr (nid + 4) 0), (2, .ptr nid 0)], [(nid, boxW nl W), (nid + 4, some (.box 62 [.int .i64 0, .int .i64 0]))], nid + 100, nid⟩) (fun k => l.length + 1 - k) 0 (by omega) (Cov.go [] [] ?_) (fun k hk => ?_)
  · simp [cvT, step, res, litPl, boxW, cntTo_zero]
  unfold litPl boxW
  simp -dsimp only [aqT, aqU, aqN, aqS, ↓seqK, ↓blkK, ↓loopK, step, stepBin, Nat.add_assoc nid, ↓reduceIte, Option.toList, ← Int.ofNat_tmod, ← Int.ofNat_tdiv, simprocAttr, BEq.rfl, LN_succ]
  refine S2.dec (fun h1 => ?_) (fun h1 => ?_) <;> simp -dsimp only [aqT, aqU, aqN, aqS, ↓seqK, ↓blkK, ↓loopK, step, stepBin, Nat.add_assoc nid, ↓reduceIte, Option.toList, ← Int.ofNat_tmod, ← Int.ofNat_tdiv, simprocAttr, BEq.rfl, LN_succ]
  · have hkl : k < l.length := by omega
    have e1 := cntTo_succ (goodP W) hkl
    have e2 := cntTo_succ (allP W) hkl
    have b1 := cntTo_le (goodP W) l k
    have b2 := cntTo_le (allP W) l k
    have i1 := hp _ (ptMem' hkl)
    have h1 := fun m => passedR_all nl W (l.getD k p0) m hW i1
    have h2 := fun m => testedR_all nl W (l.getD k p0) m hW i1
    unfold wafP at h1 h2
    have t1 : (if goodP W (l.getD k p0) = true then (1 : Int) else 0) = ((cntTo (goodP W) l (k + 1) : Nat) : Int) - (cntTo (goodP W) l k : Nat) := by rw [e1]; split <;> omega
    have t2 : (if allP W (l.getD k p0) = true then (1 : Int) else 0) = ((cntTo (allP W) l (k + 1) : Nat) : Int) - (cntTo (allP W) l k : Nat) := by rw [e2]; split <;> omega
    have b3 := cntTo_le (goodP W) l (k + 1)
    have b4 := cntTo_le (allP W) l (k + 1)
    refine ⟨by omega, CallO.pure (h1 _) ?_⟩
    simp -dsimp only [aqT, aqU, aqN, aqS, ↓seqK, ↓blkK, ↓loopK, step, stepBin, Nat.add_assoc nid, ↓reduceIte, Option.toList, ← Int.ofNat_tmod, ← Int.ofNat_tdiv, simprocAttr, BEq.rfl, LN_succ]
    refine CallO.pure (truthW_c _ _) ?_
    rw [t1]
    generalize hg2 : cntTo (goodP W) l (k + 1) = g2 at *
    generalize cntTo (goodP W) l k = g1 at *
    simp -dsimp only [aqT, aqU, aqN, aqS, ↓seqK, ↓blkK, ↓loopK, step, stepBin, Nat.add_assoc nid, ↓reduceIte, Option.toList, ← Int.ofNat_tmod, ← Int.ofNat_tdiv, simprocAttr, BEq.rfl, LN_succ]
    have hg : ((g1 : Nat) : Int) + (((g2 : Nat) : Int) - ((g1 : Nat) : Int)) = g2 := by omega
    rw [hg]
    refine ⟨by unfold inI64; omega, CallO.pure (h2 _) ?_⟩
    simp -dsimp only [aqT, aqU, aqN, aqS, ↓seqK, ↓blkK, ↓loopK, step, stepBin, Nat.add_assoc nid, ↓reduceIte, Option.toList, ← Int.ofNat_tmod, ← Int.ofNat_tdiv, simprocAttr, BEq.rfl, LN_succ]
    refine CallO.pure (truthW_c _ _) ?_
    rw [t2]
    generalize hA2 : cntTo (allP W) l (k + 1) = A2 at *
    generalize cntTo (allP W) l k = A1 at *
    simp -dsimp only [aqT, aqU, aqN, aqS, ↓seqK, ↓blkK, ↓loopK, step, stepBin, Nat.add_assoc nid, ↓reduceIte, Option.toList, ← Int.ofNat_tmod, ← Int.ofNat_tdiv, simprocAttr, BEq.rfl, LN_succ]
    have hg' : ((A1 : Nat) : Int) + (((A2 : Nat) : Int) - ((A1 : Nat) : Int)) = A2 := by omega
    rw [hg']
    refine ⟨by unfold inI64; omega, by unfold inI64; omega, k + 1, ⟨by omega, by omega⟩, Cov.go [] [] ?_⟩
    simp [cvT, step, res, litPl, boxW, hg2, hA2, -List.getD_eq_getElem?_getD]
  · obtain rfl : k = l.length := by omega
    rw [cntTo_all, cntTo_all]
    have b1 := cntN_le (goodP W) l
    have b2 := cntN_le (allP W) l
    generalize cntN (goodP W) l = g at *
    generalize cntN (allP W) l = a at *
    unfold porV
    by_cases h0 : a = 0
    · subst h0
      simp -dsimp only [aqT, aqU, aqN, aqS, ↓seqK, ↓blkK, ↓loopK, step, stepBin, Nat.add_assoc nid, ↓reduceIte, Option.toList, ← Int.ofNat_tmod, ← Int.ofNat_tdiv, simprocAttr, BEq.rfl, LN_succ, if_true]
      refine RetOK.go [] [] (.inl rfl) ?_
      simp [a60, cvT, step, res]
    · have hb : ((a : Int) == 0) = false := by rw [beq_eq_false_iff_ne]; omega
      rw [if_neg h0]
      simp -dsimp only [aqT, aqU, aqN, aqS, ↓seqK, ↓blkK, ↓loopK, step, stepBin, Nat.add_assoc nid, ↓reduceIte, Option.toList, ← Int.ofNat_tmod, ← Int.ofNat_tdiv, simprocAttr, BEq.rfl, LN_succ, hb]
      refine CallO.pure (fracR_c g a _ (by omega) (by omega) (by omega)) ?_
      generalize g / Nat.gcd g a = q1
      generalize a / Nat.gcd g a = q2
      simp -dsimp only [aqT, aqU, aqN, aqS, ↓seqK, ↓blkK, ↓loopK, step, stepBin, Nat.add_assoc nid, ↓reduceIte, Option.toList, ← Int.ofNat_tmod, ← Int.ofNat_tdiv, simprocAttr, BEq.rfl, LN_succ]
      refine RetOK.go [] [] (.inl rfl) ?_
      simp [a60, cvT, step, res]
end Go.Proofs.YtmgfcjblclanmaaGreat
namespace Go.Proofs.YtmgfcjblclanmaaGreat
theorem seenD_iff {S : List Pt} {q : Pt} : seenD S (MK.p q.1 q.2) = true ↔ q ∈ S := by
  unfold seenD
  rw [List.any_eq_true]
  constructor
  · rintro ⟨p, hp, h⟩
    have h' := of_decide_eq_true h
    injection h' with h1 h2
    have : q = p := by obtain ⟨a, b⟩ := q; obtain ⟨c, d⟩ := p; simp only at h1 h2; rw [h1, h2]
    rw [this]; exact hp
  · intro h
    exact ⟨q, h, by simp⟩
theorem seenD_not {S : List Pt} {q : Pt} : seenD S (MK.p q.1 q.2) = false ↔ q ∉ S := by
  rw [← seenD_iff]
  cases seenD S (MK.p q.1 q.2) <;> simp
def SeenOk (c : List (List Pt)) (S : List Pt) : Prop := ∀ q, q ∈ S ↔ ∃ g ∈ c, q ∈ g
structure BfsOk (W : Waf) (p : Pt) (S L : List Pt) : Prop where
  nodup : L.Nodup
  off : ∀ q ∈ L, q ∉ S
  rch : ∀ q ∈ L, Rch W p q
  has : p ∈ L
  sum : L.length + muV W (S ++ L) ≤ muV W S
theorem BfsOk.start {W : Waf} (hW : WafOk W) {p : Pt} {S : List Pt} (hb : badP W p = true) (hs : p ∉ S) : BfsOk W p S [p] := by
  have h := muV_lt (W := W) (S := S) (q := p) (badP_mem hW hb) (seenD_not.2 hs)
  refine ⟨by simp, ?_, ?_, by simp, by simp only [List.length_singleton]; omega⟩
  · intro q hq; rw [List.mem_singleton.1 hq]; exact hs
  · intro q hq; rw [List.mem_singleton.1 hq]; exact .refl hb
theorem BfsOk.add {W : Waf} (hW : WafOk W) {p q r : Pt} {S L : List Pt} (h : BfsOk W p S L) (hq : q ∈ L) (hr : r ∈ arV q) (hb : badP W r = true) (hn : r ∉ S ++ L) : BfsOk W p S (L ++ [r]) := by
  have hlt := muV_lt (W := W) (S := S ++ L) (q := r) (badP_mem hW hb) (seenD_not.2 hn)
  rw [List.append_assoc] at hlt
  have hs := h.sum
  rw [List.mem_append, not_or] at hn
  refine ⟨?_, ?_, ?_, by simp [h.has], by rw [List.length_append, List.length_singleton]; omega⟩
  · rw [List.nodup_append]
    refine ⟨h.nodup, by simp, ?_⟩
    intro a ha b hb' e
    rw [List.mem_singleton.1 hb'] at e
    rw [e] at ha
    exact hn.2 ha
  · intro a ha
    rcases List.mem_append.1 ha with ha | ha
    · exact h.off a ha
    · rw [List.mem_singleton.1 ha]; exact hn.1
  · intro a ha
    rcases List.mem_append.1 ha with ha | ha
    · exact h.rch a ha
    · rw [List.mem_singleton.1 ha]; exact .step (h.rch q hq) hr hb
def ShutTo (W : Waf) (S L : List Pt) (i : Nat) : Prop := ∀ j, j < i → ∀ r ∈ arV (L.getD j p0), badP W r = true → r ∈ S ∨ r ∈ L
theorem bfs_done {W : Waf} (hW : WafOk W) {c : List (List Pt)} {p : Pt} {S L : List Pt} (hc : ClOk W c) (hS : SeenOk c S) (h : BfsOk W p S L) (hp : p ∉ S) (hs : ShutTo W S L L.length) (q : Pt) : q ∈ L ↔ Rch W p q := by
  refine ⟨h.rch q, fun hr => ?_⟩
  induction hr with
  | refl _ => exact h.has
  | @step q r h1 hr hb ih =>
    obtain ⟨j, hj, hjq⟩ := List.getElem_of_mem ih
    have h2 := hs j hj r (by rw [List.getD_eq_getElem?_getD, List.getElem?_eq_getElem hj, Option.getD_some, hjq]; exact hr) hb
    rcases h2 with h2 | h2
    · exfalso
      obtain ⟨g, hg, hrg⟩ := (hS r).1 h2
      obtain ⟨a, _, rfl⟩ := hc.comp g hg
      have h3 := (compL_mem hW).1 hrg
      refine hp ((hS p).2 ⟨_, hg, (compL_mem hW).2 ?_⟩)
      exact h3.trans (Rch.step h1 hr hb).symm
    · exact h2
theorem clNext_new {W : Waf} {c : List (List Pt)} {p : Pt} {S : List Pt} (hS : SeenOk c S) (hp : p ∉ S) (hb : badP W p = true) : clNext W c p = c ++ [compL W p] := by
  unfold clNext
  rw [if_pos ⟨hb, fun g hg hpg => hp ((hS p).2 ⟨g, hg, hpg⟩)⟩]
theorem clNext_old {W : Waf} {c : List (List Pt)} {p : Pt} {S : List Pt} (hS : SeenOk c S) (h : p ∈ S ∨ badP W p = false) : clNext W c p = c := by
  unfold clNext
  refine if_neg fun hh => ?_
  rcases h with h | h
  · obtain ⟨g, hg, hpg⟩ := (hS p).1 h
    exact hh.2 g hg hpg
  · rw [h] at hh; exact absurd hh.1 (by simp)
theorem seen_next {W : Waf} (hW : WafOk W) {c : List (List Pt)} {p : Pt} {S L : List Pt} (hS : SeenOk c S) (hL : ∀ q, q ∈ L ↔ Rch W p q) : SeenOk (c ++ [compL W p]) (S ++ L) := by
  intro q
  rw [List.mem_append, hS q, hL q]
  constructor
  · rintro (⟨g, hg, h⟩ | h)
    · exact ⟨g, by simp [hg], h⟩
    · exact ⟨compL W p, by simp, (compL_mem hW).2 h⟩
  · rintro ⟨g, hg, h⟩
    rcases List.mem_append.1 hg with hg | hg
    · exact .inl ⟨g, hg, h⟩
    · rw [List.mem_singleton.1 hg] at h
      exact .inr ((compL_mem hW).1 h)
def bigC (least : Nat) (c : List (List Pt)) : List (List Pt) := c.filter fun g => decide (least ≤ g.length)
theorem bigC_app (least : Nat) (c : List (List Pt)) (g : List Pt) : bigC least (c ++ [g]) = bigC least c ++ (if least ≤ g.length then [g] else []) := by
  unfold bigC
  rw [List.filter_append]
  congr 1
  by_cases h : least ≤ g.length <;> simp [h]
theorem bigC_len (least : Nat) (c : List (List Pt)) : (bigC least c).length ≤ c.length := List.length_filter_le _ _
end Go.Proofs.YtmgfcjblclanmaaGreat
namespace Go.Proofs
open Go.Shelf
def Tryz.sortP_ren : Go.Shelf.Ren := ⟨fun | 6 => 38 | 15 => 73 | 14 => 72 | 28 => 98 | 29 => 99 | 20 => 90 | 21 => 91 | 22 => 92 | 23 => 93 | 24 => 94 | 25 => 95 | 26 => 96 | 27 => 97 | 46 => 103 | 47 => 104 | 48 => 105 | 49 => 106 | 50 => 107 | 57 => 108 | n => n, fun | 22 => 38 | 24 => 54 | 25 => 80 | 3 => 3 | 39 => 103 | 0 => 0 | 53 => 118 | 55 => 120 | 4 => 4 | 46 => 111 | 45 => 110 | 50 => 115 | 5 => 5 | 9 => 9 | 66 => 121 | 70 => 125 | 76 => 127 | 77 => 84 | n => n, fun | n => n⟩
theorem Tryz.sortP : Go.Proofs.SlLaysF0.n6 Tryz.prog Tryz.sortP_ren := {
  mixed := by kernel_rfl
  f6 := ⟨Tryz.f38.name, by decide, Tryz.func38.trans (congrArg some (by kernel_rfl))⟩
  f14 := ⟨Tryz.f72.name, by decide, Tryz.func72.trans (congrArg some (by kernel_rfl))⟩
  f15 := Tryz.func73.trans (congrArg some (by kernel_rfl))
  f20 := ⟨Tryz.f90.name, by decide, Tryz.func90.trans (congrArg some (by kernel_rfl))⟩
  f21 := ⟨Tryz.f91.name, by decide, Tryz.func91.trans (congrArg some (by kernel_rfl))⟩
  f22 := ⟨Tryz.f92.name, by decide, Tryz.func92.trans (congrArg some (by kernel_rfl))⟩
  f23 := ⟨Tryz.f93.name, by decide, Tryz.func93.trans (congrArg some (by kernel_rfl))⟩
  f24 := ⟨Tryz.f94.name, by decide, Tryz.func94.trans (congrArg some (by kernel_rfl))⟩
  f25 := ⟨Tryz.f95.name, by decide, Tryz.func95.trans (congrArg some (by kernel_rfl))⟩
  f26 := ⟨Tryz.f96.name, by decide, Tryz.func96.trans (congrArg some (by kernel_rfl))⟩
  f27 := ⟨Tryz.f97.name, by decide, Tryz.func97.trans (congrArg some (by kernel_rfl))⟩
  f28 := Tryz.func98.trans (congrArg some (by kernel_rfl))
  f29 := Tryz.func99.trans (congrArg some (by kernel_rfl))
  f46 := ⟨Tryz.f103.name, by decide, Tryz.func103.trans (congrArg some (by kernel_rfl))⟩
  f47 := Tryz.func104.trans (congrArg some (by kernel_rfl))
  f48 := Tryz.func105.trans (congrArg some (by kernel_rfl))
  f49 := ⟨Tryz.f106.name, by decide, Tryz.func106.trans (congrArg some (by kernel_rfl))⟩
  f50 := ⟨Tryz.f107.name, by decide, Tryz.func107.trans (congrArg some (by kernel_rfl))⟩
  f57 := ⟨Tryz.f108.name, by decide, Tryz.func108.trans (congrArg some (by kernel_rfl))⟩
  t0 := Tryz.underlying0
  a0 := Tryz.isAgg0
  z0 := Tryz.sizeOf0
  v0 := Tryz.zeroValue0
  t3 := Tryz.underlying3
  a3 := Tryz.isAgg3
  z3 := Tryz.sizeOf3
  v3 := Tryz.zeroValue3
  t4 := Tryz.underlying4
  a4 := Tryz.isAgg4
  z4 := Tryz.sizeOf4
  v4 := Tryz.zeroValue4
  t5 := Tryz.underlying5
  a5 := Tryz.isAgg5
  z5 := Tryz.sizeOf5
  v5 := Tryz.zeroValue5
  t9 := Tryz.underlying9
  a9 := Tryz.isAgg9
  z9 := Tryz.sizeOf9
  v9 := Tryz.zeroValue9
  t22 := Tryz.underlying38
  a22 := Tryz.isAgg38
  z22 := Tryz.sizeOf38
  v22 := Tryz.zeroValue38
  t25 := Tryz.underlying80
  a25 := Tryz.isAgg80
  z25 := Tryz.sizeOf80
  v25 := Tryz.zeroValue80
  t39 := Tryz.underlying103
  a39 := Tryz.isAgg103
  z39 := Tryz.sizeOf103
  v39 := Tryz.zeroValue103
  t45 := Tryz.underlying110
  a45 := Tryz.isAgg110
  z45 := Tryz.sizeOf110
  v45 := Tryz.zeroValue110
  t46 := Tryz.underlying111
  a46 := Tryz.isAgg111
  z46 := Tryz.sizeOf111
  v46 := Tryz.zeroValue111
  t50 := Tryz.underlying115
  a50 := Tryz.isAgg115
  z50 := Tryz.sizeOf115
  v50 := Tryz.zeroValue115
  t53 := Tryz.underlying118
  a53 := Tryz.isAgg118
  z53 := Tryz.sizeOf118
  v53 := Tryz.zeroValue118
  t55 := Tryz.underlying120
  a55 := Tryz.isAgg120
  z55 := Tryz.sizeOf120
  v55 := Tryz.zeroValue120
  t66 := Tryz.underlying121
  a66 := Tryz.isAgg121
  z66 := Tryz.sizeOf121
  v66 := Tryz.zeroValue121
  t70 := Tryz.underlying125
  a70 := Tryz.isAgg125
  z70 := Tryz.sizeOf125
  v70 := Tryz.zeroValue125
  t76 := Tryz.underlying127
  a76 := Tryz.isAgg127
  z76 := Tryz.sizeOf127
  v76 := Tryz.zeroValue127
  t77 := Tryz.underlying84
  a77 := Tryz.isAgg84
  z77 := Tryz.sizeOf84
  v77 := Tryz.zeroValue84 }
def Tryz.cmpI_ren : Go.Shelf.Ren := ⟨fun | 5 => 75 | 7 => 100 | n => n, fun | 22 => 3 | 3 => 3 | 4 => 4 | n => n, fun | n => n⟩
theorem Tryz.cmpI : Go.Proofs.SlLaysC2.n5 Tryz.prog Tryz.cmpI_ren := {
  mixed := by kernel_rfl
  f5 := ⟨Tryz.f75.name, by decide, Tryz.func75.trans (congrArg some (by kernel_rfl))⟩
  f7 := ⟨Tryz.f100.name, by decide, Tryz.func100.trans (congrArg some (by kernel_rfl))⟩
  t3 := Tryz.underlying3
  a3 := Tryz.isAgg3
  z3 := Tryz.sizeOf3
  v3 := Tryz.zeroValue3
  t4 := Tryz.underlying4
  a4 := Tryz.isAgg4
  z4 := Tryz.sizeOf4
  v4 := Tryz.zeroValue4
  t22 := Tryz.underlying3
  a22 := Tryz.isAgg3
  z22 := Tryz.sizeOf3
  v22 := Tryz.zeroValue3 }
end Go.Proofs
namespace Go.Proofs.YtmgfcjblclanmaaGreat
open Go.RowKit Go.Shelf Go.Lib Go.Sort
set_option maxHeartbeats 2000000
theorem cmpOr_calls (x y r : Int) (b : Nat) (w : World) (hr0 : x = 0 → r = y) (hr1 : x ≠ 0 → r = x) (h0 : w.cell? ⟨b, 0, none⟩ = some (.int .i64 x)) (h1 : w.cell? ⟨b, 1, none⟩ = some (.int .i64 y)) :
    Calls Tryz.prog 74 #[.slice (some ⟨b, 0, none⟩) 2 2] w fun e w' => e = .returned (.int .i64 r) ∧ w' = w := by
  go_enter Tryz.func74, Tryz.ntmps74
  go_wp2
  refine wp_loop_rounds 3 ?_
  rw [rounds_succ]
  go_wp2
  · have hx : x ≠ 0 := by rename_i hx; simpa using hx
    rw [hr1 hx]
    go_ret
    exact ⟨rfl, rfl⟩
  have hx : x = 0 := by rename_i hx; simpa using hx
  have hr := hr0 hx
  subst hr
  clear hr0 hr1
  rw [rounds_succ]
  go_wp2
  · go_ret
    exact ⟨rfl, rfl⟩
  have hy : r = 0 := by rename_i hy; simpa using hy
  rw [rounds_succ]
  go_wp2
  subst hy
  go_ret
  exact ⟨rfl, rfl⟩
def Kept (p : Prop) : Prop := p
def byRowV (p q : Pt) : Int := if Lib.compareInt p.2 q.2 = 0 then Lib.compareInt p.1 q.1 else Lib.compareInt p.2 q.2
set_option maxRecDepth 20000 in
set_option maxHeartbeats 4000000 in
theorem byRow_calls (p q : Pt) (W : World) : Calls Tryz.prog 39 #[.agg #[.int .i64 p.1, .int .i64 p.2], .agg #[.int .i64 q.1, .int .i64 q.2]] W fun e w' => e = .returned (.int .i64 (byRowV p q)) ∧ ∃ n os', w' = grow (W.drewN n) os' := by
  obtain ⟨px, py⟩ := p
  obtain ⟨qx, qy⟩ := q
  have hC := fun a b W' => AnyG.cmp_Compare_int Tryz.cmpI a b W'
  change ∀ a b W', Calls Tryz.prog 75 _ _ _ at hC
  unfold byRowV
  simp only
  generalize Lib.compareInt = F at *
  have hO : ∀ b w, w.cell? ⟨b, 0, none⟩ = some (.int .i64 (F py qy)) → w.cell? ⟨b, 1, none⟩ = some (.int .i64 (F px qx)) → Calls Tryz.prog 74 #[.slice (some ⟨b, 0, none⟩) 2 2] w fun e w' => e = .returned (.int .i64 (if F py qy = 0 then F px qx else F py qy)) ∧ w' = w :=
    fun b w h0 h1 => cmpOr_calls (F py qy) (F px qx) _ b w (fun h => by rw [if_pos h]) (fun h => by rw [if_neg h]) h0 h1
  generalize (if F py qy = 0 then F px qx else F py qy) = r at *
  go_enter Tryz.func39, Tryz.ntmps39
  go_wp2
  have c1 : ((W.alloc (.cells #[.int .i64 px, .int .i64 py] 54)).alloc (.cells #[.int .i64 qx, .int .i64 qy] 54)).drew.cell? ⟨W.heap.size, 0, none⟩ = some (.int .i64 px) := by simp
  have c2 : ((W.alloc (.cells #[.int .i64 px, .int .i64 py] 54)).alloc (.cells #[.int .i64 qx, .int .i64 qy] 54)).drew.cell? ⟨W.heap.size, 1, none⟩ = some (.int .i64 py) := by simp
  have c3 : ((W.alloc (.cells #[.int .i64 px, .int .i64 py] 54)).alloc (.cells #[.int .i64 qx, .int .i64 qy] 54)).drew.cell? ⟨W.heap.size + 1, 0, none⟩ = some (.int .i64 qx) := by simp
  have c4 : ((W.alloc (.cells #[.int .i64 px, .int .i64 py] 54)).alloc (.cells #[.int .i64 qx, .int .i64 qy] 54)).drew.cell? ⟨W.heap.size + 1, 1, none⟩ = some (.int .i64 qy) := by simp
  have hg : Kept ((W.alloc (.cells #[.int .i64 px, .int .i64 py] 54)).alloc (.cells #[.int .i64 qx, .int .i64 qy] 54) = grow W #[.cells #[.int .i64 px, .int .i64 py] 54 (0, 0), .cells #[.int .i64 qx, .int .i64 qy] 54 (0, 0)]) := by
    unfold Kept
    rw [alloc_eq_grow, alloc_eq_grow, grow_grow]
    rfl
  generalize (W.alloc (.cells #[.int .i64 px, .int .i64 py] 54)).alloc (.cells #[.int .i64 qx, .int .i64 qy] 54) = W2 at *
  refine wp_region_still_tail 10 (by kernel_rfl) (by kernel_rfl) ?_
  simp only [List.take_succ_cons, List.take_zero, List.drop_succ_cons, List.drop_zero]
  change wpStill _ _ W2.drew _ _ _
  generalize hw3 : W2.drew = w3 at c1 c2 c3 c4
  have hk : Kept (w3 = W2.drew) := hw3.symm
  clear hw3
  still_step
  still_step
  still_step
  still_step
  still_call (hC _ _ _)
  still_step
  still_step
  still_step
  still_step
  still_call (hC _ _ _)
  refine wpStill_nil ?_
  change wpList _ _ _ _ _ W2.drew
  have hk2 := hk
  unfold Kept at hk2
  rw [← hk2]
  clear hk2
  have hN := hO w3.heap.size (w3.alloc (.cells #[.int .i64 (F py qy), .int .i64 (F px qx)] 3)) (by simp) (by simp)
  go_wp2_with (go_at_call 74; refine hN.mono ?_; rintro e w' ⟨rfl, rfl⟩)
  go_ret
  have e : ∀ o, w3.alloc o = grow (W.drewN 1) (#[.cells #[.int .i64 px, .int .i64 py] 54 (0, 0), .cells #[.int .i64 qx, .int .i64 qy] 54 (0, 0)] ++ #[o]) := by
    intro o
    unfold Kept at hk hg
    rw [hk, hg, alloc_eq_grow, ← grow_grow]
    rfl
  exact ⟨rfl, 1, _, e _⟩
theorem cmpI_lt (a b : Int) : Lib.compareInt a b = if a < b then -1 else if b < a then 1 else 0 := by
  unfold Lib.compareInt
  by_cases h1 : a < b
  · simp [h1]
  · by_cases h2 : b < a <;> simp [h1, h2]
theorem byRow_lt (p q : Pt) : ltOf byRowV p q = decide (ltP p q) := by
  unfold ltOf byRowV
  rw [cmpI_lt, cmpI_lt]
  rw [Bool.eq_iff_iff, decide_eq_true_eq, decide_eq_true_eq]
  unfold ltP
  by_cases h1 : p.2 < q.2
  · simp [h1]
  · by_cases h2 : q.2 < p.2
    · simp [h1, h2]; omega
    · by_cases h3 : p.1 < q.1
      · simp [h1, h2, h3]; omega
      · by_cases h4 : q.1 < p.1 <;> simp [h1, h2, h3, h4]
theorem byRow_swo : SWO (ltOf byRowV) where
  irrefl x := by rw [byRow_lt]; simpa using ltP_irrefl x
  trans x y z h1 h2 := by rw [byRow_lt] at *; simp only [decide_eq_true_eq] at *; exact ltP_trans h1 h2
  ntrans x y z h1 h2 := by rw [byRow_lt] at *; simp only [decide_eq_false_iff_not] at *; unfold ltP at *; omega
def sortV (l : List Pt) : List Pt := l.mergeSort fun x y => !(ltOf byRowV) y x
theorem sortV_perm (l : List Pt) : (sortV l).Perm l := List.mergeSort_perm _ _
theorem sortV_len (l : List Pt) : (sortV l).length = l.length := (sortV_perm l).length_eq
theorem sortV_le (l : List Pt) : (sortV l).Pairwise fun a b => ¬ ltP b a := by
  have h := List.pairwise_mergeSort (le := fun x y : Pt => !(ltOf byRowV) y x) (fun a b c h1 h2 => by
      simp only [byRow_lt, Bool.not_eq_true', decide_eq_false_iff_not] at *
      unfold ltP at *; omega) (fun a b => by
      simp only [byRow_lt, Bool.or_eq_true, Bool.not_eq_true', decide_eq_false_iff_not]
      unfold ltP; omega) l
  refine h.imp ?_
  intro a b h
  simpa [byRow_lt] using h
theorem sortV_pw {l : List Pt} (h : l.Nodup) : (sortV l).Pairwise ltP := by
  have h1 := sortV_le l
  have h2 : (sortV l).Nodup := (sortV_perm l).nodup_iff.2 h
  rw [List.nodup_iff_pairwise_ne] at h2
  refine (h1.and h2).imp ?_
  intro a b hab
  exact Classical.byContradiction fun hn => hab.2 (ltP_total hn hab.1)
set_option maxRecDepth 20000 in
theorem sort_c (ix : Nat) (l : List Pt) (nid : Nat) (hpos : 0 < l.length) (hl : l.length < 4611686018427387904) :
    ACall Tryz.prog 38 [.sl ix 0 l.length, .fn 39 []] [(ix, arrP2 54 l)] nid (.tup []) [(ix, arrP2 54 (sortV l))] :=
  acall_turned ix nid Tryz.func38 (by kernel_rfl) (by kernel_rfl) (by decide) hpos (sortV_len l) (fun w blk off cap hH hblk => by
    have eg : ∀ args w, (callFunc 39 args).run Tryz.prog w = .ok (.enter 39 args) w := enters_of Tryz.func39 (by kernel_rfl) rfl
    have h := AnyQ.slices_SortFunc_total Tryz.sortP 2 Tryz.isAgg54 Tryz.sizeOf54 encP (fun _ => rfl) (fun x v hv => by simp [encP] at hv; rcases hv with rfl | rfl <;> rfl) byRowV byRow_swo 39 #[] blk off cap l.toArray w eg (fun _ _ _ _ x y => byRow_calls x y _) hH hblk (by simpa using hl) (fun x y h1 h2 => ltP_total (by simpa [byRow_lt] using h1) (by simpa [byRow_lt] using h2))
    have hf : Tryz.sortP_ren.f 6 = 38 := by kernel_rfl
    rw [hf] at h
    exact h)
end Go.Proofs.YtmgfcjblclanmaaGreat
namespace Go.Proofs.YtmgfcjblclanmaaGreat
open Go.RowKit
def colPts (g : List Pt) : List Col := [.i .i64 fun j => (g.getD j p0).1, .i .i64 fun j => (g.getD j p0).2]
def arrCl (c : List (List Pt)) : Option ABlk := some (.arr 38 c.length [.l (fun _ => false) (fun i => (c.getD i []).length) (fun i => colPts (c.getD i []))])
theorem sort_cc (ix : Nat) (l : List Pt) (nid : Nat) (hpos : 0 < l.length) (hl : l.length < 4611686018427387904) :
    ACall Tryz.prog 38 [.sl ix 0 l.length, .fn 39 []] [(ix, arrPl l)] nid (.tup []) [(ix, arrPl (sortV l))] := sort_c ix l nid hpos hl
theorem pt_in {p : Pt} (h : PtBd p) : inI64 p.1 ∧ inI64 p.2 := by
  obtain ⟨h1, h2, h3, h4⟩ := h
  unfold inI64
  omega
set_option maxHeartbeats 8000000 in
theorem clusters_c (nl : Bool) (W : Waf) (least : Nat) (nid : Nat) (h : waferV W = 0) (hp : W.pass.length ≤ 1000000) (h1 : 1 ≤ least) (h2 : least ≤ 3600) : ACall Tryz.prog 7 [wafP nl W, .int .i64 (least : Nat)] [] nid (.tup [.sl nid 0 (bigC least (clV W)).length, .int .i64 0]) [(nid, arrCl (bigC least (clV W)))] := by
  have hW := waferV_ok h
  have hpl := plTo_bd hW (Nat.le_refl _)
  have hplv : (plV W).length ≤ 60000 := hpl
  refine acall_sr c7 (by simp [a7]) ?_
  unfold a7 wafP
  refine SR.seq ?_
  simp -dsimp only [aqT, aqU, aqN, aqS, ↓seqK, ↓blkK, ↓loopK, step, stepBin, Nat.add_assoc nid, ↓reduceIte, Option.toList, ← Int.ofNat_tmod, ← Int.ofNat_tdiv, simprocAttr, BEq.rfl, LN_succ]
  refine SR.seqTo ⟨[(1, .int .i64 (least : Nat)), (2, .ptr nid 0)], [(nid, boxW nl W)], nid + 100, nid⟩ ?_ ?_
  · simp -dsimp only [aqT, aqU, aqN, aqS, ↓seqK, ↓blkK, ↓loopK, step, stepBin, Nat.add_assoc nid, ↓reduceIte, Option.toList, ← Int.ofNat_tmod, ← Int.ofNat_tdiv, simprocAttr, BEq.rfl, LN_succ]
    refine CallO.pure (checkWafer_all nl W _ (hW.bd hp)) ?_
    rw [h]
    simp -dsimp only [aqT, aqU, aqN, aqS, ↓seqK, ↓blkK, ↓loopK, step, stepBin, Nat.add_assoc nid, ↓reduceIte, Option.toList, ← Int.ofNat_tmod, ← Int.ofNat_tdiv, simprocAttr, BEq.rfl, LN_succ]
    refine Cov.go [] [] ?_
    simp [cvT, step, res, boxW]
  refine SR.seqTo ⟨[(1, .int .i64 (least : Nat)), (2, .ptr nid 0)], [(nid, boxW nl W)], nid + 200, nid⟩ ?_ ?_
  · unfold boxW
    simp -dsimp only [aqT, aqU, aqN, aqS, ↓seqK, ↓blkK, ↓loopK, step, stepBin, Nat.add_assoc nid, ↓reduceIte, Option.toList, ← Int.ofNat_tmod, ← Int.ofNat_tdiv, simprocAttr, BEq.rfl, LN_succ]
    refine CallO.pure (out_c _ _ _ _) ?_
    have ho : outB (least : Int) 1 3600 = false := by unfold outB; simp; omega
    rw [ho]
    simp -dsimp only [aqT, aqU, aqN, aqS, ↓seqK, ↓blkK, ↓loopK, step, stepBin, Nat.add_assoc nid, ↓reduceIte, Option.toList, ← Int.ofNat_tmod, ← Int.ofNat_tdiv, simprocAttr, BEq.rfl, LN_succ]
    refine Cov.go [] [] ?_
    simp [cvT, step, res, boxW]
  refine SR.seq ?_
  unfold boxW
  simp -dsimp only [aqT, aqU, aqN, aqS, ↓seqK, ↓blkK, ↓loopK, step, stepBin, Nat.add_assoc nid, ↓reduceIte, Option.toList, ← Int.ofNat_tmod, ← Int.ofNat_tdiv, simprocAttr, BEq.rfl, LN_succ]
  refine SR.seq ?_
  simp -dsimp only [aqT, aqU, aqN, aqS, ↓seqK, ↓blkK, ↓loopK, step, stepBin, Nat.add_assoc nid, ↓reduceIte, Option.toList, ← Int.ofNat_tmod, ← Int.ofNat_tdiv, simprocAttr, BEq.rfl, LN_succ]
  refine SR.seqW (ι := Unit) (fun _ => ⟨[(8, .sl (nid + 4) 0 (bigC least (clV W)).length)], [(nid + 4, arrCl (bigC least (clV W)))], nid + 90000, nid⟩) ?_ (fun _ => ?_)
  · refine SR.seq ?_
    simp -dsimp only [aqT, aqU, aqN, aqS, ↓seqK, ↓blkK, ↓loopK, step, stepBin, Nat.add_assoc nid, ↓reduceIte, Option.toList, ← Int.ofNat_tmod, ← Int.ofNat_tdiv, simprocAttr, BEq.rfl, LN_succ]
    refine CallO.pure (places_all nl W _ hW) ?_
    unfold arrPl
    simp -dsimp only [aqT, aqU, aqN, aqS, ↓seqK, ↓blkK, ↓loopK, step, stepBin, Nat.add_assoc nid, ↓reduceIte, Option.toList, ← Int.ofNat_tmod, ← Int.ofNat_tdiv, simprocAttr, BEq.rfl, LN_succ]
    refine SR.block ?_
    refine SR.loopP (fun x : Nat × List Pt => x.1 ≤ (plV W).length ∧ SeenOk (clTo W x.1) x.2) (fun x : Nat × List Pt => ⟨[(26, .int .i64 x.1), (25, .int .i64 (plV W).length), (24, .sl (nid + 12) 0 (plV W).length), (8, .sl (nid + 4) 0 (bigC least (clTo W x.1)).length), (7, .mp (nid + 8)), (1, .int .i64 (least : Nat)), (2, .ptr nid 0)], [(nid, boxW nl W), (nid + 4, arrCl (bigC least (clTo W x.1))), (nid + 8, mapS x.2), (nid + 12, arrPl (plV W))], nid + 1000, nid⟩) (fun x => (plV W).length + 1 - x.1) (0, []) ⟨by omega, by intro q; simp [clTo_zero]⟩ (Cov.go [(nid + 12, nid + 216), (nid + 8, nid + 200)] [(nid + 4, 1)] ?_) (fun x hx => ?_)
    · have hb0 : bigC least (clTo W 0) = [] := rfl
      simp [cvT, step, res, boxW, arrPl, mapS, arrCl, hb0, ← seenD_nil]
    obtain ⟨k, S⟩ := x
    obtain ⟨hk, hS⟩ := hx
    simp only at hk hS ⊢
    have hcl := clTo_len (W := W) k hk
    have hbl := bigC_len least (clTo W k)
    refine SR.seq ?_
    unfold arrPl boxW mapS arrCl
    simp -dsimp only [aqT, aqU, aqN, aqS, ↓seqK, ↓blkK, ↓loopK, step, stepBin, Nat.add_assoc nid, ↓reduceIte, Option.toList, ← Int.ofNat_tmod, ← Int.ofNat_tdiv, simprocAttr, BEq.rfl, LN_succ]
    refine SR.seq ?_
    simp -dsimp only [aqT, aqU, aqN, aqS, ↓seqK, ↓blkK, ↓loopK, step, stepBin, Nat.add_assoc nid, ↓reduceIte, Option.toList, ← Int.ofNat_tmod, ← Int.ofNat_tdiv, simprocAttr, BEq.rfl, LN_succ]
    refine S2.dec (fun h3 => ?_) (fun h3 => ?_) <;> simp -dsimp only [aqT, aqU, aqN, aqS, ↓seqK, ↓blkK, ↓loopK, step, stepBin, Nat.add_assoc nid, ↓reduceIte, Option.toList, ← Int.ofNat_tmod, ← Int.ofNat_tdiv, simprocAttr, BEq.rfl, LN_succ]
    · have hkl : k < (plV W).length := by omega
      have hcs := clTo_succ (W := W) hkl
      have hok := clTo_ok hW k
      have hpm := ptMem' hkl
      have hpb := plV_bd hW hpm
      refine SR.seqW (ι := {T : List Pt // SeenOk (clTo W (k + 1)) T}) (fun T => ⟨[(26, .int .i64 k), (25, .int .i64 (plV W).length), (24, .sl (nid + 12) 0 (plV W).length), (8, .sl (nid + 4) 0 (bigC least (clTo W (k + 1))).length), (7, .mp (nid + 8)), (1, .int .i64 (least : Nat)), (2, .ptr nid 0)], [(nid, boxW nl W), (nid + 4, arrCl (bigC least (clTo W (k + 1)))), (nid + 8, mapS T.1), (nid + 12, arrPl (plV W))], nid + 9000, nid⟩) ?_ (fun ⟨T, hT⟩ => ?_)
      · refine SR.block ?_
        refine SR.seq ?_
        simp -dsimp only [aqT, aqU, aqN, aqS, ↓seqK, ↓blkK, ↓loopK, step, stepBin, Nat.add_assoc nid, ↓reduceIte, Option.toList, ← Int.ofNat_tmod, ← Int.ofNat_tdiv, simprocAttr, BEq.rfl, LN_succ]
        refine ⟨by omega, ?_⟩
        rw [hcs]
        generalize hpd : (plV W).getD k p0 = p at *
        have hpi := pt_in hpb
        refine SR.cov (t' := .mk) (st' := ⟨[(10, .ptr (nid + 16) 0), (26, .int .i64 k), (25, .int .i64 (plV W).length), (24, .sl (nid + 12) 0 (plV W).length), (8, .sl (nid + 4) 0 (bigC least (clTo W k)).length), (7, .mp (nid + 8)), (1, .int .i64 (least : Nat)), (2, .ptr nid 0)], [(nid, boxW nl W), (nid + 4, arrCl (bigC least (clTo W k))), (nid + 8, mapS S), (nid + 12, arrPl (plV W)), (nid + 16, some (.box 54 [.int .i64 p.1, .int .i64 p.2]))], nid + 2000, nid⟩) (Cov.go [(nid + 16, nid + 1012)] [] ?_) ?_
        · simp [cvT, step, res, boxW, arrPl, mapS, arrCl, -List.getD_eq_getElem?_getD]
        generalize hCd : bigC least (clTo W k) = C at *
        refine SR.seqEx (ι := PLift (p ∉ S ∧ badP W p = true)) (fun _ => ⟨[(10, .ptr (nid + 16) 0), (26, .int .i64 k), (25, .int .i64 (plV W).length), (24, .sl (nid + 12) 0 (plV W).length), (8, .sl (nid + 4) 0 C.length), (7, .mp (nid + 8)), (1, .int .i64 (least : Nat)), (2, .ptr nid 0)], [(nid, boxW nl W), (nid + 4, arrCl C), (nid + 8, mapS (S)), (nid + 12, arrPl (plV W)), (nid + 16, some (.box 54 [.int .i64 p.1, .int .i64 p.2]))], nid + 3000, nid⟩) ?_ (fun ⟨hpS, hbp⟩ => ?_)
        · unfold arrPl boxW mapS arrCl
          simp -dsimp only [aqT, aqU, aqN, aqS, ↓seqK, ↓blkK, ↓loopK, step, stepBin, Nat.add_assoc nid, ↓reduceIte, Option.toList, ← Int.ofNat_tmod, ← Int.ofNat_tdiv, simprocAttr, BEq.rfl, LN_succ]
          refine ⟨hpi, ?_⟩
          cases hs : seenD S (MK.p p.1 p.2) <;> simp -dsimp only [aqT, aqU, aqN, aqS, ↓seqK, ↓blkK, ↓loopK, step, stepBin, Nat.add_assoc nid, ↓reduceIte, Option.toList, ← Int.ofNat_tmod, ← Int.ofNat_tdiv, simprocAttr, BEq.rfl, LN_succ]
          · refine CallX.pure (at_all nl W _ _ _ hW hpi.1 hpi.2) ?_
            simp -dsimp only [aqT, aqU, aqN, aqS, ↓seqK, ↓blkK, ↓loopK, step, stepBin, Nat.add_assoc nid, ↓reduceIte, Option.toList, ← Int.ofNat_tmod, ← Int.ofNat_tdiv, simprocAttr, BEq.rfl, LN_succ]
            refine CallX.pure (failed_c nl W _ _) ?_
            have g1 : failedV W.pass (dieV W p.1 p.2) = badP W p := rfl
            rw [g1]
            cases hb : badP W p <;> simp -dsimp only [aqT, aqU, aqN, aqS, ↓seqK, ↓blkK, ↓loopK, step, stepBin, Nat.add_assoc nid, ↓reduceIte, Option.toList, ← Int.ofNat_tmod, ← Int.ofNat_tdiv, simprocAttr, BEq.rfl, LN_succ]
            · rw [clNext_old hS (.inr hb)]
              refine ⟨⟨S, hS⟩, Cov.go [] [] ?_⟩
              simp [cvT, step, res, hCd, boxW, arrPl, mapS, arrCl, -List.getD_eq_getElem?_getD]
            · refine ⟨⟨seenD_not.1 hs, rfl⟩, Cov.go [] [] ?_⟩
              simp [cvT, step, res, boxW, arrPl, mapS, arrCl, -List.getD_eq_getElem?_getD]
          · have hps := seenD_iff.1 hs
            rw [clNext_old hS (.inl hps)]
            refine ⟨⟨S, hS⟩, Cov.go [] [] ?_⟩
            simp [cvT, step, res, hCd, boxW, arrPl, mapS, arrCl, -List.getD_eq_getElem?_getD]
        have hcn := clNext_new hS hpS hbp
        have hstart := BfsOk.start hW hbp hpS
        rw [hcn]
        refine SR.seq ?_
        unfold arrPl boxW mapS arrCl
        simp -dsimp only [aqT, aqU, aqN, aqS, ↓seqK, ↓blkK, ↓loopK, step, stepBin, Nat.add_assoc nid, ↓reduceIte, Option.toList, ← Int.ofNat_tmod, ← Int.ofNat_tdiv, simprocAttr, BEq.rfl, LN_succ]
        refine ⟨hpi, ?_⟩
        rw [seenD_snoc]
        refine SR.seq ?_
        simp -dsimp only [aqT, aqU, aqN, aqS, ↓seqK, ↓blkK, ↓loopK, step, stepBin, Nat.add_assoc nid, ↓reduceIte, Option.toList, ← Int.ofNat_tmod, ← Int.ofNat_tdiv, simprocAttr, BEq.rfl, LN_succ]
        refine SR.seqEx (ι := {L : List Pt // BfsOk W p S L ∧ ShutTo W S L L.length}) (fun L => ⟨[(11, .sl (nid + 20) 0 L.1.length), (26, .int .i64 k), (25, .int .i64 (plV W).length), (24, .sl (nid + 12) 0 (plV W).length), (8, .sl (nid + 4) 0 C.length), (7, .mp (nid + 8)), (1, .int .i64 (least : Nat)), (2, .ptr nid 0)], [(nid, boxW nl W), (nid + 4, arrCl C), (nid + 8, mapS (S ++ L.1)), (nid + 12, arrPl (plV W)), (nid + 20, arrPl L.1)], nid + 6000, nid⟩) ?_ (fun ⟨L, hL, hLs⟩ => ?_)
        · simp -dsimp only [aqT, aqU, aqN, aqS, ↓seqK, ↓blkK, ↓loopK, step, stepBin, Nat.add_assoc nid, ↓reduceIte, Option.toList, ← Int.ofNat_tmod, ← Int.ofNat_tdiv, simprocAttr, BEq.rfl, LN_succ]
          refine LP.mkP (fun x : Nat × List Pt => x.1 ≤ x.2.length ∧ BfsOk W p S x.2 ∧ ShutTo W S x.2 x.1) (fun x : Nat × List Pt => ⟨[(12, .int .i64 x.1), (11, .sl (nid + 20) 0 x.2.length), (26, .int .i64 k), (25, .int .i64 (plV W).length), (24, .sl (nid + 12) 0 (plV W).length), (8, .sl (nid + 4) 0 C.length), (7, .mp (nid + 8)), (1, .int .i64 (least : Nat)), (2, .ptr nid 0)], [(nid, boxW nl W), (nid + 4, arrCl C), (nid + 8, mapS (S ++ x.2)), (nid + 12, arrPl (plV W)), (nid + 20, arrPl x.2)], nid + 4000, nid⟩) (fun x => muV W S + 1 - x.1) (0, [p]) ⟨by simp, hstart, fun j hj => by omega⟩ (Cov.go [(nid + 20, nid + 3016)] [] ?_) (fun x hx => ?_)
          · simp [cvT, step, res, boxW, arrPl, mapS, arrCl, -List.getD_eq_getElem?_getD, -List.length_append]
            refine ⟨ColEq.i fun i hi => ?_, ColEq.i fun i hi => ?_⟩ <;> (have hi0 : i = 0 := by omega) <;> subst hi0 <;> rfl
          obtain ⟨i, L⟩ := x
          obtain ⟨hi, hL, hSh⟩ := hx
          simp only at hi hL hSh ⊢
          have hmS := muV_le hW S
          have hLs := hL.sum
          unfold arrPl boxW mapS arrCl
          simp -dsimp only [aqT, aqU, aqN, aqS, ↓seqK, ↓blkK, ↓loopK, step, stepBin, Nat.add_assoc nid, ↓reduceIte, Option.toList, ← Int.ofNat_tmod, ← Int.ofNat_tdiv, simprocAttr, BEq.rfl, LN_succ]
          refine S2.dec (fun h4 => ?_) (fun h4 => ?_) <;> simp -dsimp only [aqT, aqU, aqN, aqS, ↓seqK, ↓blkK, ↓loopK, step, stepBin, Nat.add_assoc nid, ↓reduceIte, Option.toList, ← Int.ofNat_tmod, ← Int.ofNat_tdiv, simprocAttr, BEq.rfl, LN_succ]
          · have hiL : i < L.length := by omega
            have hqL := ptMem' hiL
            have hqb : PtBd (L.getD i p0) := plV_bd hW (badP_mem hW (hL.rch _ hqL).bad)
            have hin := fun q hq => hqb.ar (q := q) hq
            have har := arV_len (L.getD i p0)
            refine ⟨by omega, CallO.pure (around_all (L.getD i p0) _ hqb) ?_⟩
            generalize hqd : L.getD i p0 = q at *
            generalize hRd : arV q = R at *
            unfold arrPl
            simp -dsimp only [aqT, aqU, aqN, aqS, ↓seqK, ↓blkK, ↓loopK, step, stepBin, Nat.add_assoc nid, ↓reduceIte, Option.toList, ← Int.ofNat_tmod, ← Int.ofNat_tdiv, simprocAttr, BEq.rfl, LN_succ]
            refine LP.mkP (fun x : Nat × List Pt => x.1 ≤ R.length ∧ BfsOk W p S (L ++ x.2) ∧ ∀ j, j < x.1 → badP W (R.getD j p0) = true → R.getD j p0 ∈ S ∨ R.getD j p0 ∈ L ++ x.2) (fun x : Nat × List Pt => ⟨[(57, .int .i64 x.1), (56, .int .i64 R.length), (55, .sl (nid + 24) 0 R.length), (12, .int .i64 i), (11, .sl (nid + 20) 0 (L ++ x.2).length), (26, .int .i64 k), (25, .int .i64 (plV W).length), (24, .sl (nid + 12) 0 (plV W).length), (8, .sl (nid + 4) 0 C.length), (7, .mp (nid + 8)), (1, .int .i64 (least : Nat)), (2, .ptr nid 0)], [(nid, boxW nl W), (nid + 4, arrCl C), (nid + 8, mapS (S ++ (L ++ x.2))), (nid + 12, arrPl (plV W)), (nid + 20, arrPl (L ++ x.2)), (nid + 24, arrPl R)], nid + 5000, nid⟩) (fun x => R.length + 1 - x.1) (0, []) ⟨by simp, by simpa using hL, fun j hj => by omega⟩ (Cov.go [(nid + 24, nid + 4032)] [] ?_) (fun x hx => ?_)
            · simp [cvT, step, res, boxW, arrPl, mapS, arrCl, -List.getD_eq_getElem?_getD, -List.length_append]
            obtain ⟨j, M⟩ := x
            obtain ⟨hj, hLM, hjs⟩ := hx
            simp only at hj hLM hjs ⊢
            have hLMs := hLM.sum
            unfold arrPl boxW mapS arrCl
            simp -dsimp only [aqT, aqU, aqN, aqS, ↓seqK, ↓blkK, ↓loopK, step, stepBin, Nat.add_assoc nid, ↓reduceIte, Option.toList, ← Int.ofNat_tmod, ← Int.ofNat_tdiv, simprocAttr, BEq.rfl, LN_succ]
            refine S2.dec (fun h5 => ?_) (fun h5 => ?_) <;> simp -dsimp only [aqT, aqU, aqN, aqS, ↓seqK, ↓blkK, ↓loopK, step, stepBin, Nat.add_assoc nid, ↓reduceIte, Option.toList, ← Int.ofNat_tmod, ← Int.ofNat_tdiv, simprocAttr, BEq.rfl, LN_succ]
            · have hjr : j < R.length := by omega
              obtain ⟨i1, i2⟩ := hin _ (ptMem' hjr)
              have hrR := ptMem' hjr
              have hnext : ∀ M', (∀ a ∈ L ++ M, a ∈ L ++ M') → (badP W (R.getD j p0) = true → R.getD j p0 ∈ S ∨ R.getD j p0 ∈ L ++ M') → ∀ j', j' < j + 1 → badP W (R.getD j' p0) = true → R.getD j' p0 ∈ S ∨ R.getD j' p0 ∈ L ++ M' := by
                intro M' hsub hnew j' hj' hb'
                rcases (by omega : j' < j ∨ j' = j) with e | e
                · exact (hjs j' e hb').imp id (hsub _)
                · subst e; exact hnew hb'
              have hadd := fun hb hn => hLM.add hW (List.mem_append_left M hqL) (r := R.getD j p0) (by rw [hRd]; exact hrR) hb hn
              refine ⟨by omega, ?_⟩
              have hsn := seenD_snoc (S ++ (L ++ M)) (R.getD j p0)
              have hse : S ++ (L ++ M) ++ [R.getD j p0] = S ++ (L ++ (M ++ [R.getD j p0])) := by simp
              rw [hse] at hsn
              generalize R.getD j p0 = r at *
              refine ⟨⟨i1, i2⟩, ?_⟩
              cases hs : seenD (S ++ (L ++ M)) (MK.p r.1 r.2) <;> simp -dsimp only [aqT, aqU, aqN, aqS, ↓seqK, ↓blkK, ↓loopK, step, stepBin, Nat.add_assoc nid, ↓reduceIte, Option.toList, ← Int.ofNat_tmod, ← Int.ofNat_tdiv, simprocAttr, BEq.rfl, LN_succ]
              · refine CallX.pure (at_all nl W _ _ _ hW i1 i2) ?_
                simp -dsimp only [aqT, aqU, aqN, aqS, ↓seqK, ↓blkK, ↓loopK, step, stepBin, Nat.add_assoc nid, ↓reduceIte, Option.toList, ← Int.ofNat_tmod, ← Int.ofNat_tdiv, simprocAttr, BEq.rfl, LN_succ]
                refine CallX.pure (failed_c nl W _ _) ?_
                have g1 : failedV W.pass (dieV W r.1 r.2) = badP W r := rfl
                rw [g1]
                cases hb : badP W r <;> simp -dsimp only [aqT, aqU, aqN, aqS, ↓seqK, ↓blkK, ↓loopK, step, stepBin, Nat.add_assoc nid, ↓reduceIte, Option.toList, ← Int.ofNat_tmod, ← Int.ofNat_tdiv, simprocAttr, BEq.rfl, LN_succ]
                · refine ⟨by unfold inI64; omega, (j + 1, M), ⟨⟨by simp only; omega, hLM, hnext M (fun _ h => h) (fun hb' => by rw [hb] at hb'; cases hb')⟩, by simp only; omega⟩, Cov.go [] [] ?_⟩
                  simp [cvT, step, res, boxW, arrPl, mapS, arrCl, -List.getD_eq_getElem?_getD, -List.length_append]
                · have hLM2 := hadd hb (seenD_not.1 hs)
                  rw [List.append_assoc] at hLM2
                  have hl2 : (L ++ (M ++ [r])).length = (L ++ M).length + 1 := by simp only [List.length_append, List.length_singleton]; omega
                  rw [hsn, getD_appP (L ++ M) r rfl (fun q => q.1) rfl rfl, getD_appP (L ++ M) r rfl (fun q => q.2) rfl rfl, List.append_assoc, ← hl2]
                  refine ⟨⟨i1, i2⟩, ⟨by omega, by omega⟩, by unfold inI64; omega, (j + 1, M ++ [r]), ⟨⟨by simp only; omega, hLM2, hnext (M ++ [r]) (fun a h => by rw [← List.append_assoc]; exact List.mem_append_left _ h) (fun _ => .inr (by simp))⟩, by simp only; omega⟩, Cov.go [(nid + 20, nid + 5088)] [] ?_⟩
                  simp [cvT, step, res, boxW, arrPl, mapS, arrCl, -List.getD_eq_getElem?_getD, -List.length_append]
              · refine ⟨by unfold inI64; omega, (j + 1, M), ⟨⟨by simp only; omega, hLM, hnext M (fun _ h => h) (fun _ => List.mem_append.1 (seenD_iff.1 hs))⟩, by simp only; omega⟩, Cov.go [] [] ?_⟩
                simp [cvT, step, res, boxW, arrPl, mapS, arrCl, -List.getD_eq_getElem?_getD, -List.length_append]
            · have hjR : j = R.length := by omega
              subst hjR
              have hsh2 : ShutTo W S (L ++ M) (i + 1) := by
                intro i' hi' r hr hb
                rcases (by omega : i' < i ∨ i' = i) with e | e
                · have e2 : (L ++ M).getD i' p0 = L.getD i' p0 := by
                    rw [List.getD_eq_getElem?_getD, List.getElem?_append_left (by omega), ← List.getD_eq_getElem?_getD]
                  rw [e2] at hr
                  exact (hSh i' e r hr hb).imp id (List.mem_append_left _)
                · subst e
                  have e2 : (L ++ M).getD i' p0 = q := by
                    rw [List.getD_eq_getElem?_getD, List.getElem?_append_left (by omega), ← List.getD_eq_getElem?_getD, hqd]
                  rw [e2, hRd] at hr
                  obtain ⟨j', hj', hjr⟩ := List.getElem_of_mem hr
                  have hg : R.getD j' p0 = r := by rw [List.getD_eq_getElem?_getD, List.getElem?_eq_getElem hj']; exact hjr
                  have := hjs j' hj' (by rw [hg]; exact hb)
                  rwa [hg] at this
              have hLl := hLM.sum
              refine ⟨by unfold inI64; omega, (i + 1, L ++ M), ⟨⟨by simp only; rw [List.length_append]; omega, hLM, hsh2⟩, by simp only; rw [List.length_append] at hLl; omega⟩, Cov.go [] [] ?_⟩
              simp [cvT, step, res, boxW, arrPl, mapS, arrCl, -List.getD_eq_getElem?_getD, -List.length_append]
          · have hie : i = L.length := by omega
            subst hie
            refine ⟨⟨L, hL, hSh⟩, Cov.go [] [] ?_⟩
            simp [cvT, step, res, boxW, arrPl, mapS, arrCl, -List.getD_eq_getElem?_getD, -List.length_append]
        have hLc := bfs_done hW hok hS hL hpS hLs
        have hcomp : sortV L = compL W p := sorted_eq (sortV_pw hL.nodup) (compL_pw W p) (fun q => by rw [(sortV_perm L).mem_iff, hLc q, compL_mem hW])
        have hlen : (compL W p).length = L.length := by rw [← hcomp, sortV_len]
        have hba := bigC_app least (clTo W k) (compL W p)
        rw [hCd, hlen] at hba
        have hsx := seen_next hW hS hLc
        have hpos : 0 < L.length := List.length_pos_of_mem hL.has
        have hmS := muV_le hW S
        have hLsum := hL.sum
        simp only
        refine SR.seq ?_
        unfold arrPl boxW mapS arrCl
        simp -dsimp only [aqT, aqU, aqN, aqS, ↓seqK, ↓blkK, ↓loopK, step, stepBin, Nat.add_assoc nid, ↓reduceIte, Option.toList, ← Int.ofNat_tmod, ← Int.ofNat_tdiv, simprocAttr, BEq.rfl, LN_succ]
        refine SR.cond (b := decide ((least : Int) ≤ (L.length : Int))) (by simp [AX.val, getS]) (fun hb => ?_) (fun hb => ?_)
        · have hb' := of_decide_eq_true hb
          rw [if_pos (by omega)] at hba
          refine SR.seq ?_
          simp -dsimp only [aqT, aqU, aqN, aqS, ↓seqK, ↓blkK, ↓loopK, step, stepBin, Nat.add_assoc nid, ↓reduceIte, Option.toList, ← Int.ofNat_tmod, ← Int.ofNat_tdiv, simprocAttr, BEq.rfl, LN_succ]
          refine CallO.on (sort_cc (nid + 20) L _ hpos (by omega)) (subH_get (by simp only [aqT, aqU, aqN, aqS, ↓seqK, ↓blkK, ↓loopK, step, stepBin, Nat.add_assoc nid, ↓reduceIte, Option.toList, ← Int.ofNat_tmod, ← Int.ofNat_tdiv, simprocAttr, BEq.rfl, LN_succ, arrPl])) ?_
          rw [hcomp]
          unfold arrPl
          simp -dsimp only [aqT, aqU, aqN, aqS, ↓seqK, ↓blkK, ↓loopK, step, stepBin, Nat.add_assoc nid, ↓reduceIte, Option.toList, ← Int.ofNat_tmod, ← Int.ofNat_tdiv, simprocAttr, BEq.rfl, LN_succ]
          refine SR.freezeN [nid + 20] (fun nl' hn => ?_)
          have hn0 := hn (nid + 20) _ _ _ (by simp only [getH, aqT, aqU, aqN, aqS, ↓seqK, ↓blkK, ↓loopK, step, stepBin, Nat.add_assoc nid, ↓reduceIte, Option.toList, ← Int.ofNat_tmod, ← Int.ofNat_tdiv, simprocAttr, BEq.rfl, LN_succ]; rfl) (by rw [hlen]; exact hpos)
          clear hn
          simp only [frzS, frzH, frzBlk, lends, lend, kill, aqT, aqU, aqN, aqS, ↓seqK, ↓blkK, ↓loopK, step, stepBin, Nat.add_assoc nid, ↓reduceIte, Option.toList, ← Int.ofNat_tmod, ← Int.ofNat_tdiv, simprocAttr, BEq.rfl, LN_succ]
          rw [hn0]
          refine SR.run (t := .mk) ?_
          simp -dsimp only [aqT, aqU, aqN, aqS, ↓seqK, ↓blkK, ↓loopK, step, stepBin, Nat.add_assoc nid, ↓reduceIte, Option.toList, ← Int.ofNat_tmod, ← Int.ofNat_tdiv, simprocAttr, BEq.rfl, LN_succ]
          have hC1 : C.length + 1 = (C ++ [compL W p]).length := by simp
          rw [hba, hC1]
          refine ⟨⟨by omega, by omega⟩, ⟨S ++ L, hsx⟩, Cov.go [(nid + 4, nid + 6036)] [] ?_⟩
          simp [cvT, step, res, boxW, arrPl, mapS, arrCl, -List.getD_eq_getElem?_getD, -List.length_append]
          refine ColEq.l fun i hi => ?_
          by_cases hiC : i < C.length
          · have e : (C ++ [compL W p]).getD i [] = C.getD i [] := by rw [List.getD_eq_getElem?_getD, List.getElem?_append_left hiC, ← List.getD_eq_getElem?_getD]
            rw [e, if_pos hiC, if_pos hiC]
            exact ⟨by simp [hiC], rfl, ColsEq.refl _ _⟩
          · have e : (C ++ [compL W p]).getD i [] = compL W p := by
              rw [List.length_append, List.length_singleton] at hi
              rw [List.getD_eq_getElem?_getD, List.getElem?_append_right (by omega), show i - C.length = 0 by omega]
              rfl
            have e0 : i - C.length = 0 := by rw [List.length_append, List.length_singleton] at hi; omega
            rw [e, if_neg hiC, if_neg hiC, e0]
            exact ⟨by simp, hlen.symm, ColsEq.refl _ _⟩
        · have hb' := of_decide_eq_false hb
          rw [if_neg (by omega), List.append_nil] at hba
          refine SR.run (t := .mk) ?_
          simp -dsimp only [aqT, aqU, aqN, aqS, ↓seqK, ↓blkK, ↓loopK, step, stepBin, Nat.add_assoc nid, ↓reduceIte, Option.toList, ← Int.ofNat_tmod, ← Int.ofNat_tdiv, simprocAttr, BEq.rfl, LN_succ]
          rw [hba]
          refine ⟨⟨S ++ L, hsx⟩, Cov.go [] [] ?_⟩
          simp [cvT, step, res, boxW, arrPl, mapS, arrCl, -List.getD_eq_getElem?_getD, -List.length_append]
      · refine SR.run (t := .mk) ?_
        unfold arrPl boxW mapS arrCl
        simp -dsimp only [aqT, aqU, aqN, aqS, ↓seqK, ↓blkK, ↓loopK, step, stepBin, Nat.add_assoc nid, ↓reduceIte, Option.toList, ← Int.ofNat_tmod, ← Int.ofNat_tdiv, simprocAttr, BEq.rfl, LN_succ]
        refine ⟨by unfold inI64; omega, (k + 1, T), ⟨⟨by omega, hT⟩, by simp only; omega⟩, Cov.go [] [] ?_⟩
        simp [cvT, step, res, boxW, arrPl, mapS, arrCl, -List.getD_eq_getElem?_getD, -List.length_append]
    · have hkn : k = (plV W).length := by omega
      subst hkn
      refine ⟨(), Cov.go [] [] ?_⟩
      simp [cvT, step, res, boxW, arrPl, mapS, arrCl, clV, -List.getD_eq_getElem?_getD, -List.length_append]
  · refine SR.run (t := .mk) ?_
    unfold arrCl
    simp -dsimp only [aqT, aqU, aqN, aqS, ↓seqK, ↓blkK, ↓loopK, step, stepBin, Nat.add_assoc nid, ↓reduceIte, Option.toList, ← Int.ofNat_tmod, ← Int.ofNat_tdiv, simprocAttr, BEq.rfl, LN_succ]
    refine RetOK.go [(nid, nid + 4)] [] (.inl rfl) ?_
    simp [a7, cvT, step, res, -List.getD_eq_getElem?_getD]
end Go.Proofs.YtmgfcjblclanmaaGreat
namespace Go.Proofs.YtmgfcjblclanmaaGreat
def nxtR (W : Waf) (d r : List Pt) : List Pt := (plV W).filter fun p => !noneP W p && !d.contains p && (arV p).any fun q => r.contains q
def stR (W : Waf) : Nat → List Pt × List Pt
  | 0 => ([], edgeL W)
  | k + 1 => ((stR W k).1 ++ (stR W k).2, nxtR W ((stR W k).1 ++ (stR W k).2) (stR W k).2)
def doneR (W : Waf) (k : Nat) : List Pt := (stR W k).1
def ringR (W : Waf) (k : Nat) : List Pt := (stR W k).2
theorem doneR_succ (W : Waf) (k : Nat) : doneR W (k + 1) = doneR W k ++ ringR W k := rfl
theorem ringR_succ (W : Waf) (k : Nat) : ringR W (k + 1) = nxtR W (doneR W k ++ ringR W k) (ringR W k) := rfl
theorem ringR_mem {W : Waf} {k : Nat} {q : Pt} (h : q ∈ ringR W k) : q ∈ plV W ∧ q ∉ doneR W k := by
  cases k with
  | zero =>
    have h' : q ∈ edgeL W := h
    exact ⟨(List.mem_filter.1 h').1, by simp [doneR, stR]⟩
  | succ k =>
    rw [ringR_succ] at h
    unfold nxtR at h
    rw [List.mem_filter] at h
    rw [doneR_succ]
    refine ⟨h.1, fun hd => ?_⟩
    have := h.2
    simp only [Bool.and_eq_true, Bool.not_eq_true', List.contains_eq_mem, decide_eq_false_iff_not] at this
    exact this.1.2 hd
theorem ringR_pw (W : Waf) (k : Nat) : (ringR W k).Pairwise ltP := by
  cases k with
  | zero => exact (plV_pw W).filter _
  | succ k => rw [ringR_succ]; exact (plV_pw W).filter _
theorem nodup_pw {l : List Pt} (h : l.Pairwise ltP) : l.Nodup := by
  unfold List.Nodup
  refine h.imp fun {a b} (h : ltP a b) (e : a = b) => ?_
  subst e
  exact ltP_irrefl a h
theorem ringR_nodup (W : Waf) (k : Nat) : (ringR W k).Nodup := nodup_pw (ringR_pw W k)
theorem ringR_len {W : Waf} (hW : WafOk W) (k : Nat) : (ringR W k).length ≤ 60000 := by
  have h1 := plTo_bd hW (Nat.le_refl _)
  have h2 : (ringR W k).length ≤ (plV W).length := by
    cases k with
    | zero => exact List.length_filter_le _ _
    | succ k => rw [ringR_succ]; exact List.length_filter_le _ _
  unfold plV at *
  omega
theorem mu_app {W : Waf} (S : List Pt) : ∀ (L : List Pt), (∀ q ∈ L, q ∈ plV W) → L.Nodup → (∀ q ∈ L, q ∉ S) → L.length + muV W (S ++ L) ≤ muV W S
  | [], _, _, _ => by simp
  | q :: L, h1, h2, h3 => by
    have hq := muV_lt (W := W) (S := S) (q := q) (h1 q List.mem_cons_self) (seenD_not.2 (h3 q List.mem_cons_self))
    have hn := List.nodup_cons.1 h2
    have ih := mu_app (S ++ [q]) L (fun a ha => h1 a (List.mem_cons_of_mem _ ha)) hn.2 (fun a ha => by
      rw [List.mem_append, not_or, List.mem_singleton]
      exact ⟨h3 a (List.mem_cons_of_mem _ ha), fun e => hn.1 (by rw [← e]; exact ha)⟩)
    rw [List.append_assoc, List.singleton_append] at ih
    rw [List.length_cons]
    omega
theorem mu_done {W : Waf} (k : Nat) : (ringR W k).length + muV W (doneR W (k + 1)) ≤ muV W (doneR W k) := by
  rw [doneR_succ]
  exact mu_app _ _ (fun q hq => (ringR_mem hq).1) (ringR_nodup W k) (fun q hq => (ringR_mem hq).2)
theorem done_len {W : Waf} : ∀ k, (doneR W k).length + muV W (doneR W k) ≤ muV W []
  | 0 => by simp [doneR, stR]
  | k + 1 => by
    have h1 := done_len (W := W) k
    have h2 := mu_done (W := W) k
    rw [doneR_succ] at h2 ⊢
    rw [List.length_append]
    omega
theorem ring_ends {W : Waf} (hW : WafOk W) : ∃ k, ringR W k = [] := by
  refine Classical.byContradiction fun h => ?_
  have hp : ∀ k, 1 ≤ (ringR W k).length := fun k => by
    rcases Nat.eq_zero_or_pos (ringR W k).length with e | e
    · exact absurd ⟨k, List.length_eq_zero_iff.1 e⟩ h
    · exact e
  have hm : ∀ k, muV W (doneR W k) + k ≤ muV W (doneR W 0) := by
    intro k
    induction k with
    | zero => simp
    | succ k ih => have := mu_done (W := W) k; have := hp k; omega
  have h1 := muV_le hW (doneR W 0)
  have h2 := hm 60001
  omega
theorem least_nat {p : Nat → Prop} (h : ∃ k, p k) : ∃ k, p k ∧ ∀ j, j < k → ¬ p j := by
  obtain ⟨k, hk⟩ := h
  induction k using Nat.strongRecOn with
  | _ k ih =>
    by_cases h2 : ∃ j, j < k ∧ p j
    · obtain ⟨j, hj, hp⟩ := h2
      exact ih j hj hp
    · exact ⟨k, hk, fun j hj hp => h2 ⟨j, hj, hp⟩⟩
noncomputable def manyR (W : Waf) : Nat := open Classical in if h : ∃ k, ringR W k = [] then (least_nat h).choose else 0
theorem manyR_ok {W : Waf} (hW : WafOk W) : ringR W (manyR W) = [] ∧ ∀ j, j < manyR W → ringR W j ≠ [] := by
  have h := ring_ends hW
  unfold manyR
  rw [dif_pos h]
  exact (least_nat h).choose_spec
theorem manyR_le {W : Waf} (hW : WafOk W) : manyR W ≤ 60001 := by
  have hm : ∀ k, k ≤ manyR W → muV W (doneR W k) + k ≤ muV W (doneR W 0) := by
    intro k
    induction k with
    | zero => intro _; omega
    | succ k ih =>
      intro hk
      have h1 := mu_done (W := W) k
      have h2 := List.length_pos_iff.2 ((manyR_ok hW).2 k (by omega))
      have h3 := ih (by omega)
      omega
  have h1 := muV_le hW (doneR W 0)
  have h2 := hm _ (Nat.le_refl _)
  omega
def frR (W : Waf) (k : Nat) : Pt := let a := cntN (allP W) (ringR W k); let g := cntN (goodP W) (ringR W k); if a = 0 then (0, 1) else ((g / Nat.gcd g a : Nat), (a / Nat.gcd g a : Nat))
def hasR (W : Waf) (k : Nat) : Bool := decide (cntN (allP W) (ringR W k) ≠ 0)
def frsR (W : Waf) (k : Nat) : List Pt := (List.range k).map (frR W)
def hasL (W : Waf) (k : Nat) : List Bool := (List.range k).map (hasR W)
theorem frsR_succ (W : Waf) (k : Nat) : frsR W (k + 1) = frsR W k ++ [frR W k] := by simp [frsR, List.range_succ]
theorem hasL_succ (W : Waf) (k : Nat) : hasL W (k + 1) = hasL W k ++ [hasR W k] := by simp [hasL, List.range_succ]
theorem frsR_len (W : Waf) (k : Nat) : (frsR W k).length = k := by simp [frsR]
theorem hasL_len (W : Waf) (k : Nat) : (hasL W k).length = k := by simp [hasL]
theorem good_all {W : Waf} {p : Pt} (h : goodP W p = true) : allP W p = true := by
  unfold goodP passedV at h
  unfold allP testedV
  rw [Bool.and_eq_true] at h
  rw [h.1]
  rfl
theorem good_le (W : Waf) (l : List Pt) : cntN (goodP W) l ≤ cntN (allP W) l := List.countP_mono_left fun p _ h => good_all h
theorem fr_prog {W : Waf} {l : List Pt} {k : Nat} (h : l.Perm (ringR W k)) : (((cntN (goodP W) l / Nat.gcd (cntN (goodP W) l) (max (cntN (allP W) l) 1) : Nat) : Int), ((max (cntN (allP W) l) 1 / Nat.gcd (cntN (goodP W) l) (max (cntN (allP W) l) 1) : Nat) : Int)) = frR W k := by
  have e1 : cntN (goodP W) l = cntN (goodP W) (ringR W k) := h.countP_eq _
  have e2 : cntN (allP W) l = cntN (allP W) (ringR W k) := h.countP_eq _
  have hle := good_le W (ringR W k)
  rw [e1, e2]
  unfold frR
  simp only
  by_cases h0 : cntN (allP W) (ringR W k) = 0
  · rw [if_pos h0]
    have hg : cntN (goodP W) (ringR W k) = 0 := by omega
    rw [h0, hg]
    rfl
  · rw [if_neg h0, Nat.max_eq_left (by omega)]
theorem has_prog {W : Waf} {l : List Pt} {k : Nat} (h : l.Perm (ringR W k)) : decide ((0 : Int) < (cntN (allP W) l : Nat)) = hasR W k := by
  have e2 : cntN (allP W) l = cntN (allP W) (ringR W k) := h.countP_eq _
  unfold hasR
  rw [e2]
  apply decide_eq_decide.2
  omega
structure NxtOk (W : Waf) (S L R : List Pt) : Prop where
  nodup : L.Nodup
  mem : ∀ q ∈ L, q ∈ plV W ∧ noneP W q = false ∧ q ∉ S ∧ ∃ p ∈ R, q ∈ arV p
theorem NxtOk.nil (W : Waf) (S R : List Pt) : NxtOk W S [] R := ⟨List.nodup_nil, by simp⟩
theorem NxtOk.add {W : Waf} (hW : WafOk W) {S L R : List Pt} (h : NxtOk W S L R) {p q : Pt} (hp : p ∈ R) (hq : q ∈ arV p) (hn : noneP W q = false) (hs : q ∉ S ++ L) : NxtOk W S (L ++ [q]) R := by
  rw [List.mem_append, not_or] at hs
  refine ⟨?_, fun a ha => ?_⟩
  · rw [List.nodup_append]
    refine ⟨h.nodup, by simp, fun a ha b hb e => ?_⟩
    rw [List.mem_singleton.1 hb] at e
    exact hs.2 (by rw [← e]; exact ha)
  · rcases List.mem_append.1 ha with ha | ha
    · exact h.mem a ha
    · rw [List.mem_singleton.1 ha]
      refine ⟨die_mem hW fun e => ?_, hn, hs.1, p, hp, hq⟩
      unfold noneP at hn
      rw [e] at hn
      cases hn
theorem nxt_perm {W : Waf} (hW : WafOk W) {S L R : List Pt} {k : Nat} (hR : R.Perm (ringR W k)) (hS : ∀ q, q ∈ S ↔ q ∈ doneR W k ∨ q ∈ ringR W k) (h : NxtOk W S L R) (hall : ∀ p ∈ R, ∀ q ∈ arV p, noneP W q = false → q ∈ S ∨ q ∈ L) : L.Perm (ringR W (k + 1)) ∧ ∀ q, q ∈ S ++ L ↔ q ∈ doneR W (k + 1) ∨ q ∈ ringR W (k + 1) := by
  have hm : ∀ q, q ∈ L ↔ q ∈ ringR W (k + 1) := fun q => by
    rw [ringR_succ]
    unfold nxtR
    rw [List.mem_filter]
    simp only [Bool.and_eq_true, Bool.not_eq_true', List.contains_eq_mem, decide_eq_false_iff_not, List.any_eq_true, decide_eq_true_eq, List.mem_append]
    constructor
    · intro hq
      obtain ⟨h1, h2, h3, p, hp, hqp⟩ := h.mem q hq
      exact ⟨h1, ⟨h2, fun hd => h3 ((hS q).2 hd)⟩, p, arV_symm hqp, hR.mem_iff.1 hp⟩
    · rintro ⟨h1, ⟨h2, h3⟩, p, hp, hr⟩
      rcases hall p (hR.mem_iff.2 hr) q (arV_symm hp) h2 with hh | hh
      · exact absurd ((hS q).1 hh) h3
      · exact hh
  refine ⟨(List.perm_ext_iff_of_nodup h.nodup (ringR_nodup W (k + 1))).2 hm, fun q => ?_⟩
  rw [List.mem_append, hm q, hS q, doneR_succ, List.mem_append]
end Go.Proofs.YtmgfcjblclanmaaGreat
namespace Go.Proofs.YtmgfcjblclanmaaGreat
open Go.RowKit
theorem rch_off {W : Waf} (hW : WafOk W) {c : List (List Pt)} {p r : Pt} {S : List Pt} (hc : ClOk W c) (hS : SeenOk c S) (hp : p ∉ S) (hr : Rch W p r) : r ∉ S := fun h => by
  obtain ⟨g, hg, hrg⟩ := (hS r).1 h
  obtain ⟨a, _, rfl⟩ := hc.comp g hg
  have h3 := (compL_mem hW).1 hrg
  exact hp ((hS p).2 ⟨_, hg, (compL_mem hW).2 (h3.trans hr.symm)⟩)
noncomputable def clB (W : Waf) (k : Nat) : List (List Pt) := (((plV W).filter (badP W)).take k).foldl (clNext W) []
theorem clB_succ {W : Waf} {k : Nat} (h : k < ((plV W).filter (badP W)).length) : clB W (k + 1) = clNext W (clB W k) (((plV W).filter (badP W)).getD k p0) := by
  unfold clB
  rw [take_snoc (x := ((plV W).filter (badP W)).getD k p0) (by rw [List.getD_eq_getElem?_getD, List.getElem?_eq_getElem h]; rfl), List.foldl_append]
  rfl
theorem fold_bad (W : Waf) : ∀ (l : List Pt) (c : List (List Pt)), (l.filter (badP W)).foldl (clNext W) c = l.foldl (clNext W) c
  | [], c => rfl
  | p :: l, c => by
    cases h : badP W p
    · rw [List.filter_cons_of_neg (by simp [h]), fold_bad W l, List.foldl_cons]
      have e : clNext W c p = c := by unfold clNext; rw [if_neg (by simp [h])]
      rw [e]
    · rw [List.filter_cons_of_pos h, List.foldl_cons, List.foldl_cons, fold_bad W l]
theorem clB_all (W : Waf) : clB W ((plV W).filter (badP W)).length = clV W := by
  unfold clB clV clTo
  rw [List.take_length, List.take_length, fold_bad]
theorem clB_ok {W : Waf} (hW : WafOk W) (k : Nat) : ClOk W (clB W k) := ClOk.fold hW _ (.nil W)
theorem clB_len {W : Waf} : ∀ k, k ≤ ((plV W).filter (badP W)).length → (clB W k).length ≤ k
  | 0, _ => by simp [clB]
  | k + 1, h => by
    rw [clB_succ (by omega)]
    have := clNext_len (W := W) (c := clB W k) (p := ((plV W).filter (badP W)).getD k p0)
    have := clB_len (W := W) k (by omega)
    omega
theorem comp_filter {W : Waf} {p : Pt} {L : List Pt} (h : ∀ q, q ∈ L ↔ Rch W p q) : (plV W).filter (fun q => L.contains q) = compL W p := by
  unfold compL
  apply List.filter_congr
  intro q _
  rw [Bool.eq_iff_iff, List.contains_iff_mem, h q]
  simp
theorem bad1_c (ia : Nat) (nl : Bool) (W : Waf) (p : Pt) (nid : Nat) (hia : ia < nid) (hW : WafOk W) (hp : inI64 p.1 ∧ inI64 p.2) : ACall Tryz.prog 51 [.agg [.int .i64 p.1, .int .i64 p.2], .ptr ia 0] [(ia, boxW nl W)] nid (.bool (badP W p)) [] := by
  obtain ⟨a1, a2, a3, a4, a5, a6, a7, a8, a9⟩ := id_all hia
  have hf := fun m => failedR_all nl W p m hW hp
  refine acall_run c51 (by simp [a51]) ?_
  unfold boxW
  unfold wafP at hf
  simp -dsimp only [a51, aqT, aqU, aqN, aqS, ↓seqK, ↓blkK, ↓loopK, step, stepBin, Nat.add_assoc nid, ↓reduceIte, Option.toList, ← Int.ofNat_tmod, ← Int.ofNat_tdiv, simprocAttr, BEq.rfl, LN_succ, a1, a2, a3, a4, a5, a6, a7, a8, a9]
  refine CallO.pure (hf _) ?_
  simp -dsimp only [aqT, aqU, aqN, aqS, ↓seqK, ↓blkK, ↓loopK, step, stepBin, Nat.add_assoc nid, ↓reduceIte, Option.toList, ← Int.ofNat_tmod, ← Int.ofNat_tdiv, simprocAttr, BEq.rfl, LN_succ, a1, a2, a3, a4, a5, a6, a7, a8, a9]
  refine RetOK.go [] [] (.inl rfl) ?_
  simp [a51, cvT, step, res, a1, a2, a3, a4, a5, a6, a7, a8, a9]
def boxL (g n : Nat) : Option ABlk := some (.box 38 [.sl g 0 n])
theorem group2_c (ib ig : Nat) (L : List Pt) (p : Pt) (nid : Nat) (hib : ib < nid) (hig : ig < nid) (n1 : ib ≠ ig) (hl : L.length ≤ 1000000) : ACall Tryz.prog 55 [.agg [.int .i64 p.1, .int .i64 p.2], .ptr ib 0] [(ib, boxL ig L.length), (ig, arrPl L)] nid (.bool (L.contains p)) [] := by
  obtain ⟨a1, a2, a3, a4, a5, a6, a7, a8, a9⟩ := id_all hib; obtain ⟨b1, b2, b3, b4, b5, b6, b7, b8, b9⟩ := id_all hig; have g1 : (ib == ig) = false := (by simpa using n1); have g2 : (ig == ib) = false := (by simpa using fun h => n1 h.symm); have m1 : ¬ ig = ib := fun h => n1 h.symm
  have hc := fun nl k => containsPt_c nl L p k hl
  refine acall_run c55 (by simp [a55]) ?_
  unfold boxL arrPl
  unfold litPl at hc
  simp -dsimp only [a55, aqT, aqU, aqN, aqS, ↓seqK, ↓blkK, ↓loopK, step, stepBin, Nat.add_assoc nid, ↓reduceIte, Option.toList, ← Int.ofNat_tmod, ← Int.ofNat_tdiv, simprocAttr, BEq.rfl, LN_succ, a1, a2, a3, a4, a5, a6, a7, a8, a9, b1, b2, b3, b4, b5, b6, b7, b8, b9, g1, g2, n1, m1]
  refine CallO.lent [ig] (fun nl' => by
    simp only [lends, lend, aqT, aqU, aqN, aqS, ↓seqK, ↓blkK, ↓loopK, step, stepBin, Nat.add_assoc nid, ↓reduceIte, Option.toList, ← Int.ofNat_tmod, ← Int.ofNat_tdiv, simprocAttr, BEq.rfl, LN_succ, a1, a2, a3, a4, a5, a6, a7, a8, a9, b1, b2, b3, b4, b5, b6, b7, b8, b9, g1, g2, n1, m1]
    exact hc _ _) rfl rfl (by simp [getH]) ?_
  simp -dsimp only [aqT, aqU, aqN, aqS, ↓seqK, ↓blkK, ↓loopK, step, stepBin, Nat.add_assoc nid, ↓reduceIte, Option.toList, ← Int.ofNat_tmod, ← Int.ofNat_tdiv, simprocAttr, BEq.rfl, LN_succ, a1, a2, a3, a4, a5, a6, a7, a8, a9, b1, b2, b3, b4, b5, b6, b7, b8, b9, g1, g2, n1, m1]
  refine RetOK.go [] [] (.inl rfl) ?_
  simp [a55, cvT, step, res, a1, a2, a3, a4, a5, a6, a7, a8, a9, b1, b2, b3, b4, b5, b6, b7, b8, b9, g1, g2, n1, m1]
theorem getD_appL2 (l m : List Pt) (f : Pt → Int) (h0 : f p0 = 0) : (fun i => if i < l.length then f (l.getD i p0) else f (m.getD (i - l.length) p0)) = fun i => f ((l ++ m).getD i p0) := by
  funext i
  simp only [List.getD_eq_getElem?_getD, List.getElem?_append]
  split <;> rfl
set_option maxHeartbeats 8000000 in
theorem clustersR_c (nl : Bool) (W : Waf) (least : Nat) (nid : Nat) (hW : WafOk W) (h1 : 1 ≤ least) (h2 : least ≤ 3600) : ACall Tryz.prog 16 [wafP nl W, .int .i64 (least : Nat)] [] nid (.sl nid 0 (bigC least (clV W)).length) [(nid, arrCl (bigC least (clV W)))] := by
  have hpl := plTo_bd hW (Nat.le_refl _)
  have hplv : (plV W).length ≤ 60000 := hpl
  have hBl : ((plV W).filter (badP W)).length ≤ 60000 := by have := List.length_filter_le (badP W) (plV W); omega
  have hBm : ∀ k, k < ((plV W).filter (badP W)).length → badP W (((plV W).filter (badP W)).getD k p0) = true ∧ PtBd (((plV W).filter (badP W)).getD k p0) := fun k hk => by
    have hm := List.mem_filter.1 (ptMem' hk)
    exact ⟨hm.2, plV_bd hW hm.1⟩
  have hall := clB_all W
  have hsucc := fun k hk => clB_succ (W := W) (k := k) hk
  have hlen := fun k hk => clB_len (W := W) k hk
  have hpB := fun f caps Hs k => placesR_h f caps Hs (badP W) nl W k hW
  refine acall_sr c16 (by simp [a16]) ?_
  unfold a16
  generalize hBd : (plV W).filter (badP W) = B at *
  unfold wafP at *
  refine SR.seq ?_
  simp -dsimp only [aqT, aqU, aqN, aqS, ↓seqK, ↓blkK, ↓loopK, step, stepBin, Nat.add_assoc nid, ↓reduceIte, Option.toList, ← Int.ofNat_tmod, ← Int.ofNat_tdiv, simprocAttr, BEq.rfl, LN_succ]
  refine SR.seq ?_
  simp -dsimp only [aqT, aqU, aqN, aqS, ↓seqK, ↓blkK, ↓loopK, step, stepBin, Nat.add_assoc nid, ↓reduceIte, Option.toList, ← Int.ofNat_tmod, ← Int.ofNat_tdiv, simprocAttr, BEq.rfl, LN_succ]
  refine SR.seq ?_
  simp -dsimp only [aqT, aqU, aqN, aqS, ↓seqK, ↓blkK, ↓loopK, step, stepBin, Nat.add_assoc nid, ↓reduceIte, Option.toList, ← Int.ofNat_tmod, ← Int.ofNat_tdiv, simprocAttr, BEq.rfl, LN_succ]
  refine SR.seqW (ι := Unit) (fun _ => ⟨[(5, .sl (nid + 4) 0 (bigC least (clV W)).length)], [(nid + 4, arrCl (bigC least (clV W)))], nid + 90000, nid⟩) ?_ (fun _ => ?_)
  · refine SR.seqTo ⟨[(17, .int .i64 0), (16, .int .i64 B.length), (15, .sl (nid + 12) 0 B.length), (6, .lit true 0 []), (5, .lit true 0 []), (1, .int .i64 (least : Nat)), (2, .ptr nid 0)], [(nid, boxW nl W), (nid + 12, arrPl B)], nid + 300, nid⟩ ?_ ?_
    · simp -dsimp only [aqT, aqU, aqN, aqS, ↓seqK, ↓blkK, ↓loopK, step, stepBin, Nat.add_assoc nid, ↓reduceIte, Option.toList, ← Int.ofNat_tmod, ← Int.ofNat_tdiv, simprocAttr, BEq.rfl, LN_succ]
      refine CallO.on (hpB 51 [.ptr nid 0] [(nid, boxW nl W)] _ (scp1 (by omega) rfl) (by simp [idsOfs, idsOf, lowAll]) (fun p hp nid' h' => bad1_c nid nl W p nid' (by omega) hW (pt_in (plV_bd hW hp)))) (subH_get (by simp only [aqT, aqU, aqN, aqS, ↓seqK, ↓blkK, ↓loopK, step, stepBin, Nat.add_assoc nid, ↓reduceIte, Option.toList, ← Int.ofNat_tmod, ← Int.ofNat_tdiv, simprocAttr, BEq.rfl, LN_succ, boxW])) ?_
      unfold arrPl
      simp -dsimp only [aqT, aqU, aqN, aqS, ↓seqK, ↓blkK, ↓loopK, step, stepBin, Nat.add_assoc nid, ↓reduceIte, Option.toList, ← Int.ofNat_tmod, ← Int.ofNat_tdiv, simprocAttr, BEq.rfl, LN_succ]
      refine Cov.go [(nid + 12, nid + 24)] [] ?_
      simp [cvT, step, res, boxW, arrPl, -List.getD_eq_getElem?_getD]
    refine SR.block ?_
    refine SR.loopP (fun x : Nat × List Pt => x.1 ≤ B.length ∧ SeenOk (clB W x.1) x.2 ∧ x.2.length + muV W x.2 ≤ muV W []) (fun x : Nat × List Pt => ⟨[(17, .int .i64 x.1), (16, .int .i64 B.length), (15, .sl (nid + 12) 0 B.length), (6, .sl (nid + 8) 0 x.2.length), (5, .sl (nid + 4) 0 (bigC least (clB W x.1)).length), (1, .int .i64 (least : Nat)), (2, .ptr nid 0)], [(nid, boxW nl W), (nid + 4, arrCl (bigC least (clB W x.1))), (nid + 8, arrPl x.2), (nid + 12, arrPl B)], nid + 1000, nid⟩) (fun x => B.length + 1 - x.1) (0, []) ⟨by omega, by intro q; simp [clB], by simp⟩ (Cov.go [] [(nid + 4, 1), (nid + 8, 2)] ?_) (fun x hx => ?_)
    · have hb0 : bigC least (clB W 0) = [] := rfl
      simp [cvT, step, res, boxW, arrPl, arrCl, hb0]
    obtain ⟨k, S⟩ := x
    obtain ⟨hk, hS, hSm⟩ := hx
    simp only at hk hS hSm ⊢
    have hm0 := muV_le hW []
    have hcl := hlen k hk
    have hbl := bigC_len least (clB W k)
    refine SR.seq ?_
    unfold arrPl boxW arrCl
    simp -dsimp only [aqT, aqU, aqN, aqS, ↓seqK, ↓blkK, ↓loopK, step, stepBin, Nat.add_assoc nid, ↓reduceIte, Option.toList, ← Int.ofNat_tmod, ← Int.ofNat_tdiv, simprocAttr, BEq.rfl, LN_succ]
    refine SR.seq ?_
    simp -dsimp only [aqT, aqU, aqN, aqS, ↓seqK, ↓blkK, ↓loopK, step, stepBin, Nat.add_assoc nid, ↓reduceIte, Option.toList, ← Int.ofNat_tmod, ← Int.ofNat_tdiv, simprocAttr, BEq.rfl, LN_succ]
    refine S2.dec (fun h3 => ?_) (fun h3 => ?_) <;> simp -dsimp only [aqT, aqU, aqN, aqS, ↓seqK, ↓blkK, ↓loopK, step, stepBin, Nat.add_assoc nid, ↓reduceIte, Option.toList, ← Int.ofNat_tmod, ← Int.ofNat_tdiv, simprocAttr, BEq.rfl, LN_succ]
    · have hkl : k < B.length := by omega
      have hcs := hsucc k hkl
      have hok := clB_ok hW k
      obtain ⟨hbp, hpb⟩ := hBm k hkl
      refine SR.seqW (ι := {T : List Pt // SeenOk (clB W (k + 1)) T ∧ T.length + muV W T ≤ muV W []}) (fun T => ⟨[(17, .int .i64 k), (16, .int .i64 B.length), (15, .sl (nid + 12) 0 B.length), (6, .sl (nid + 8) 0 T.1.length), (5, .sl (nid + 4) 0 (bigC least (clB W (k + 1))).length), (1, .int .i64 (least : Nat)), (2, .ptr nid 0)], [(nid, boxW nl W), (nid + 4, arrCl (bigC least (clB W (k + 1)))), (nid + 8, arrPl T.1), (nid + 12, arrPl B)], nid + 9000, nid⟩) ?_ (fun ⟨T, hT⟩ => ?_)
      · refine SR.block ?_
        refine SR.seq ?_
        simp -dsimp only [aqT, aqU, aqN, aqS, ↓seqK, ↓blkK, ↓loopK, step, stepBin, Nat.add_assoc nid, ↓reduceIte, Option.toList, ← Int.ofNat_tmod, ← Int.ofNat_tdiv, simprocAttr, BEq.rfl, LN_succ]
        refine ⟨by omega, ?_⟩
        rw [hcs]
        generalize hpd : B.getD k p0 = p at *
        have hpi := pt_in hpb
        refine SR.cov (t' := .mk) (st' := ⟨[(8, .ptr (nid + 16) 0), (17, .int .i64 k), (16, .int .i64 B.length), (15, .sl (nid + 12) 0 B.length), (6, .sl (nid + 8) 0 S.length), (5, .sl (nid + 4) 0 (bigC least (clB W k)).length), (1, .int .i64 (least : Nat)), (2, .ptr nid 0)], [(nid, boxW nl W), (nid + 4, arrCl (bigC least (clB W k))), (nid + 8, arrPl S), (nid + 12, arrPl B), (nid + 16, some (.box 54 [.int .i64 p.1, .int .i64 p.2]))], nid + 2000, nid⟩) (Cov.go [(nid + 16, nid + 1012)] [] ?_) ?_
        · simp [cvT, step, res, boxW, arrPl, arrCl, -List.getD_eq_getElem?_getD]
        generalize hCd : bigC least (clB W k) = C at *
        refine SR.seqEx (ι := PLift (p ∉ S)) (fun _ => ⟨[(8, .ptr (nid + 16) 0), (17, .int .i64 k), (16, .int .i64 B.length), (15, .sl (nid + 12) 0 B.length), (6, .sl (nid + 8) 0 S.length), (5, .sl (nid + 4) 0 C.length), (1, .int .i64 (least : Nat)), (2, .ptr nid 0)], [(nid, boxW nl W), (nid + 4, arrCl C), (nid + 8, arrPl S), (nid + 12, arrPl B), (nid + 16, some (.box 54 [.int .i64 p.1, .int .i64 p.2]))], nid + 3000, nid⟩) ?_ (fun ⟨hpS⟩ => ?_)
        · have hc := fun nl k => containsPt_c nl S p k (by omega)
          unfold litPl at hc
          unfold arrPl boxW arrCl
          simp -dsimp only [aqT, aqU, aqN, aqS, ↓seqK, ↓blkK, ↓loopK, step, stepBin, Nat.add_assoc nid, ↓reduceIte, Option.toList, ← Int.ofNat_tmod, ← Int.ofNat_tdiv, simprocAttr, BEq.rfl, LN_succ]
          refine CallO.lent [nid + 8] (fun nl' => by
            simp only [lends, lend, noOs, aqT, aqU, aqN, aqS, ↓seqK, ↓blkK, ↓loopK, step, stepBin, Nat.add_assoc nid, ↓reduceIte, Option.toList, ← Int.ofNat_tmod, ← Int.ofNat_tdiv, simprocAttr, BEq.rfl, LN_succ]
            exact hc _ _) rfl rfl (by simp [getH]) ?_
          simp -dsimp only [aqT, aqU, aqN, aqS, ↓seqK, ↓blkK, ↓loopK, step, stepBin, Nat.add_assoc nid, ↓reduceIte, Option.toList, ← Int.ofNat_tmod, ← Int.ofNat_tdiv, simprocAttr, BEq.rfl, LN_succ]
          cases hs : S.contains p <;> simp -dsimp only [aqT, aqU, aqN, aqS, ↓seqK, ↓blkK, ↓loopK, step, stepBin, Nat.add_assoc nid, ↓reduceIte, Option.toList, ← Int.ofNat_tmod, ← Int.ofNat_tdiv, simprocAttr, BEq.rfl, LN_succ]
          · refine ⟨⟨by simpa using hs⟩, Cov.go [] [] ?_⟩
            simp [cvT, step, res, boxW, arrPl, arrCl, -List.getD_eq_getElem?_getD]
          · have hps : p ∈ S := by simpa using hs
            rw [clNext_old hS (.inl hps)]
            refine ⟨⟨S, hS, hSm⟩, Cov.go [] [] ?_⟩
            simp [cvT, step, res, hCd, boxW, arrPl, arrCl, -List.getD_eq_getElem?_getD]
        have hcn := clNext_new hS hpS hbp
        have hstart := BfsOk.start hW hbp hpS
        rw [hcn]
        refine SR.seq ?_
        unfold arrPl boxW arrCl
        simp -dsimp only [aqT, aqU, aqN, aqS, ↓seqK, ↓blkK, ↓loopK, step, stepBin, Nat.add_assoc nid, ↓reduceIte, Option.toList, ← Int.ofNat_tmod, ← Int.ofNat_tdiv, simprocAttr, BEq.rfl, LN_succ]
        refine SR.seqEx (ι := {L : List Pt // BfsOk W p S L ∧ ShutTo W S L L.length}) (fun L => ⟨[(9, .ptr (nid + 24) 0), (17, .int .i64 k), (16, .int .i64 B.length), (15, .sl (nid + 12) 0 B.length), (6, .sl (nid + 8) 0 S.length), (5, .sl (nid + 4) 0 C.length), (1, .int .i64 (least : Nat)), (2, .ptr nid 0)], [(nid, boxW nl W), (nid + 4, arrCl C), (nid + 8, arrPl S), (nid + 12, arrPl B), (nid + 20, arrPl L.1), (nid + 24, boxL (nid + 20) L.1.length)], nid + 6000, nid⟩) ?_ (fun ⟨L, hL, hLs⟩ => ?_)
        · simp -dsimp only [aqT, aqU, aqN, aqS, ↓seqK, ↓blkK, ↓loopK, step, stepBin, Nat.add_assoc nid, ↓reduceIte, Option.toList, ← Int.ofNat_tmod, ← Int.ofNat_tdiv, simprocAttr, BEq.rfl, LN_succ]
          refine LP.mkP (fun x : Nat × List Pt => x.1 ≤ x.2.length ∧ BfsOk W p S x.2 ∧ ShutTo W S x.2 x.1) (fun x : Nat × List Pt => ⟨[(10, .int .i64 x.1), (9, .ptr (nid + 24) 0), (17, .int .i64 k), (16, .int .i64 B.length), (15, .sl (nid + 12) 0 B.length), (6, .sl (nid + 8) 0 S.length), (5, .sl (nid + 4) 0 C.length), (1, .int .i64 (least : Nat)), (2, .ptr nid 0)], [(nid, boxW nl W), (nid + 4, arrCl C), (nid + 8, arrPl S), (nid + 12, arrPl B), (nid + 20, arrPl x.2), (nid + 24, boxL (nid + 20) x.2.length)], nid + 4000, nid⟩) (fun x => muV W S + 1 - x.1) (0, [p]) ⟨by simp, hstart, fun j hj => by omega⟩ (Cov.go [(nid + 20, nid + 3004), (nid + 24, nid + 3008)] [] ?_) (fun x hx => ?_)
          · simp [cvT, step, res, boxW, arrPl, arrCl, boxL, -List.getD_eq_getElem?_getD, -List.length_append]
            refine ⟨ColEq.i fun i hi => ?_, ColEq.i fun i hi => ?_⟩ <;> (have hi0 : i = 0 := by omega) <;> subst hi0 <;> rfl
          obtain ⟨i, L⟩ := x
          obtain ⟨hi, hL, hSh⟩ := hx
          simp only at hi hL hSh ⊢
          have hmS := muV_le hW S
          have hLs := hL.sum
          unfold arrPl boxW arrCl boxL
          simp -dsimp only [aqT, aqU, aqN, aqS, ↓seqK, ↓blkK, ↓loopK, step, stepBin, Nat.add_assoc nid, ↓reduceIte, Option.toList, ← Int.ofNat_tmod, ← Int.ofNat_tdiv, simprocAttr, BEq.rfl, LN_succ]
          refine S2.dec (fun h4 => ?_) (fun h4 => ?_) <;> simp -dsimp only [aqT, aqU, aqN, aqS, ↓seqK, ↓blkK, ↓loopK, step, stepBin, Nat.add_assoc nid, ↓reduceIte, Option.toList, ← Int.ofNat_tmod, ← Int.ofNat_tdiv, simprocAttr, BEq.rfl, LN_succ]
          · have hiL : i < L.length := by omega
            have hqL := ptMem' hiL
            have hqb : PtBd (L.getD i p0) := plV_bd hW (badP_mem hW (hL.rch _ hqL).bad)
            have hin := fun q hq => hqb.ar (q := q) hq
            have har := arV_len (L.getD i p0)
            refine ⟨by omega, CallO.pure (eight_all (L.getD i p0) _ hqb) ?_⟩
            generalize hqd : L.getD i p0 = q at *
            generalize hRd : arV q = R at *
            unfold arrPl
            simp -dsimp only [aqT, aqU, aqN, aqS, ↓seqK, ↓blkK, ↓loopK, step, stepBin, Nat.add_assoc nid, ↓reduceIte, Option.toList, ← Int.ofNat_tmod, ← Int.ofNat_tdiv, simprocAttr, BEq.rfl, LN_succ]
            refine LP.mkP (fun x : Nat × List Pt => x.1 ≤ R.length ∧ BfsOk W p S (L ++ x.2) ∧ ∀ j, j < x.1 → badP W (R.getD j p0) = true → R.getD j p0 ∈ S ∨ R.getD j p0 ∈ L ++ x.2) (fun x : Nat × List Pt => ⟨[(38, .int .i64 x.1), (37, .int .i64 R.length), (36, .sl (nid + 28) 0 R.length), (10, .int .i64 i), (9, .ptr (nid + 24) 0), (17, .int .i64 k), (16, .int .i64 B.length), (15, .sl (nid + 12) 0 B.length), (6, .sl (nid + 8) 0 S.length), (5, .sl (nid + 4) 0 C.length), (1, .int .i64 (least : Nat)), (2, .ptr nid 0)], [(nid, boxW nl W), (nid + 4, arrCl C), (nid + 8, arrPl S), (nid + 12, arrPl B), (nid + 20, arrPl (L ++ x.2)), (nid + 24, boxL (nid + 20) (L ++ x.2).length), (nid + 28, arrPl R)], nid + 5000, nid⟩) (fun x => R.length + 1 - x.1) (0, []) ⟨by simp, by simpa using hL, fun j hj => by omega⟩ (Cov.go [(nid + 28, nid + 4032)] [] ?_) (fun x hx => ?_)
            · simp [cvT, step, res, boxW, arrPl, arrCl, boxL, -List.getD_eq_getElem?_getD, -List.length_append]
            obtain ⟨j, M⟩ := x
            obtain ⟨hj, hLM, hjs⟩ := hx
            simp only at hj hLM hjs ⊢
            have hLMs := hLM.sum
            unfold arrPl boxW arrCl boxL
            simp -dsimp only [aqT, aqU, aqN, aqS, ↓seqK, ↓blkK, ↓loopK, step, stepBin, Nat.add_assoc nid, ↓reduceIte, Option.toList, ← Int.ofNat_tmod, ← Int.ofNat_tdiv, simprocAttr, BEq.rfl, LN_succ]
            refine S2.dec (fun h5 => ?_) (fun h5 => ?_) <;> simp -dsimp only [aqT, aqU, aqN, aqS, ↓seqK, ↓blkK, ↓loopK, step, stepBin, Nat.add_assoc nid, ↓reduceIte, Option.toList, ← Int.ofNat_tmod, ← Int.ofNat_tdiv, simprocAttr, BEq.rfl, LN_succ]
            · have hjr : j < R.length := by omega
              have hij := hin _ (ptMem' hjr)
              have hrR := ptMem' hjr
              have hnext : ∀ M', (∀ a ∈ L ++ M, a ∈ L ++ M') → (badP W (R.getD j p0) = true → R.getD j p0 ∈ S ∨ R.getD j p0 ∈ L ++ M') → ∀ j', j' < j + 1 → badP W (R.getD j' p0) = true → R.getD j' p0 ∈ S ∨ R.getD j' p0 ∈ L ++ M' := by
                intro M' hsub hnew j' hj' hb'
                rcases (by omega : j' < j ∨ j' = j) with e | e
                · exact (hjs j' e hb').imp id (hsub _)
                · subst e; exact hnew hb'
              have hadd := fun hb hn => hLM.add hW (List.mem_append_left M hqL) (r := R.getD j p0) (by rw [hRd]; exact hrR) hb hn
              have hoff := fun hb => rch_off hW hok hS hpS (Rch.step (hL.rch _ hqL) (by rw [hRd]; exact hrR) hb : Rch W p (R.getD j p0))
              generalize R.getD j p0 = r at *
              have hf := fun m => failedR_all nl W r m hW hij
              have hc := fun nl k => containsPt_c nl (L ++ M) r k (by omega)
              unfold wafP at hf
              unfold litPl at hc
              refine ⟨by omega, CallO.pure (hf _) ?_⟩
              simp -dsimp only [aqT, aqU, aqN, aqS, ↓seqK, ↓blkK, ↓loopK, step, stepBin, Nat.add_assoc nid, ↓reduceIte, Option.toList, ← Int.ofNat_tmod, ← Int.ofNat_tdiv, simprocAttr, BEq.rfl, LN_succ]
              cases hb : badP W r <;> simp -dsimp only [aqT, aqU, aqN, aqS, ↓seqK, ↓blkK, ↓loopK, step, stepBin, Nat.add_assoc nid, ↓reduceIte, Option.toList, ← Int.ofNat_tmod, ← Int.ofNat_tdiv, simprocAttr, BEq.rfl, LN_succ]
              · refine ⟨by unfold inI64; omega, (j + 1, M), ⟨⟨by simp only; omega, hLM, hnext M (fun _ h => h) (fun hb' => by rw [hb] at hb'; cases hb')⟩, by simp only; omega⟩, Cov.go [] [] ?_⟩
                simp [cvT, step, res, boxW, arrPl, arrCl, boxL, -List.getD_eq_getElem?_getD, -List.length_append]
              · refine CallO.lent [nid + 20] (fun nl' => by
                  simp only [lends, lend, noOs, aqT, aqU, aqN, aqS, ↓seqK, ↓blkK, ↓loopK, step, stepBin, Nat.add_assoc nid, ↓reduceIte, Option.toList, ← Int.ofNat_tmod, ← Int.ofNat_tdiv, simprocAttr, BEq.rfl, LN_succ]
                  exact hc _ _) rfl rfl (by simp [getH]) ?_
                simp -dsimp only [aqT, aqU, aqN, aqS, ↓seqK, ↓blkK, ↓loopK, step, stepBin, Nat.add_assoc nid, ↓reduceIte, Option.toList, ← Int.ofNat_tmod, ← Int.ofNat_tdiv, simprocAttr, BEq.rfl, LN_succ]
                cases hs : (L ++ M).contains r <;> simp -dsimp only [aqT, aqU, aqN, aqS, ↓seqK, ↓blkK, ↓loopK, step, stepBin, Nat.add_assoc nid, ↓reduceIte, Option.toList, ← Int.ofNat_tmod, ← Int.ofNat_tdiv, simprocAttr, BEq.rfl, LN_succ, Bool.not_true, Bool.not_false]
                · have hnin : r ∉ L ++ M := by simpa using hs
                  have hLM2 := hadd hb (by rw [List.mem_append, not_or]; exact ⟨hoff hb, hnin⟩)
                  rw [List.append_assoc] at hLM2
                  have hl2 : (L ++ (M ++ [r])).length = (L ++ M).length + 1 := by simp only [List.length_append, List.length_singleton]; omega
                  rw [getD_appP (L ++ M) r rfl (fun q => q.1) rfl rfl, getD_appP (L ++ M) r rfl (fun q => q.2) rfl rfl, List.append_assoc, ← hl2]
                  refine ⟨⟨by omega, by omega⟩, by unfold inI64; omega, (j + 1, M ++ [r]), ⟨⟨by simp only; omega, hLM2, hnext (M ++ [r]) (fun a h => by rw [← List.append_assoc]; exact List.mem_append_left _ h) (fun _ => .inr (by simp))⟩, by simp only; omega⟩, Cov.go [(nid + 20, nid + 5068)] [] ?_⟩
                  simp [cvT, step, res, boxW, arrPl, arrCl, boxL, -List.getD_eq_getElem?_getD, -List.length_append]
                · refine ⟨by unfold inI64; omega, (j + 1, M), ⟨⟨by simp only; omega, hLM, hnext M (fun _ h => h) (fun _ => .inr (by simpa using hs))⟩, by simp only; omega⟩, Cov.go [] [] ?_⟩
                  simp [cvT, step, res, boxW, arrPl, arrCl, boxL, -List.getD_eq_getElem?_getD, -List.length_append]
            · obtain rfl : j = R.length := by omega
              have hsh2 : ShutTo W S (L ++ M) (i + 1) := by
                intro i' hi' r hr hb
                rcases (by omega : i' < i ∨ i' = i) with e | e
                · have e2 : (L ++ M).getD i' p0 = L.getD i' p0 := by
                    rw [List.getD_eq_getElem?_getD, List.getElem?_append_left (by omega), ← List.getD_eq_getElem?_getD]
                  rw [e2] at hr
                  exact (hSh i' e r hr hb).imp id (List.mem_append_left _)
                · subst e
                  have e2 : (L ++ M).getD i' p0 = q := by
                    rw [List.getD_eq_getElem?_getD, List.getElem?_append_left (by omega), ← List.getD_eq_getElem?_getD, hqd]
                  rw [e2, hRd] at hr
                  obtain ⟨j', hj', hjr⟩ := List.getElem_of_mem hr
                  have hg : R.getD j' p0 = r := by rw [List.getD_eq_getElem?_getD, List.getElem?_eq_getElem hj']; exact hjr
                  have := hjs j' hj' (by rw [hg]; exact hb)
                  rwa [hg] at this
              have hLl := hLM.sum
              refine ⟨by unfold inI64; omega, (i + 1, L ++ M), ⟨⟨by simp only; rw [List.length_append]; omega, hLM, hsh2⟩, by simp only; rw [List.length_append] at hLl; omega⟩, Cov.go [] [] ?_⟩
              simp [cvT, step, res, boxW, arrPl, arrCl, boxL, -List.getD_eq_getElem?_getD, -List.length_append]
          · obtain rfl : i = L.length := by omega
            refine ⟨⟨L, hL, hSh⟩, Cov.go [] [] ?_⟩
            simp [cvT, step, res, boxW, arrPl, arrCl, boxL, -List.getD_eq_getElem?_getD, -List.length_append]
        have hLc := bfs_done hW hok hS hL hpS hLs
        have hcomp := comp_filter hLc
        have hba := bigC_app least (clB W k) (compL W p)
        have hlc : (compL W p).length = L.length := by
          have hnd : (compL W p).Nodup := nodup_pw (compL_pw W p)
          exact (List.perm_ext_iff_of_nodup hnd hL.nodup).2 (fun q => by rw [compL_mem hW, hLc q]) |>.length_eq
        rw [hCd, hlc] at hba
        have hsx := seen_next hW hS hLc
        have hpos : 0 < L.length := List.length_pos_of_mem hL.has
        have hmS := muV_le hW S
        have hLsum := hL.sum
        have hSL : (S ++ L).length + muV W (S ++ L) ≤ muV W [] := by rw [List.length_append]; omega
        simp only
        refine SR.seqTo ⟨[(9, .ptr (nid + 24) 0), (17, .int .i64 k), (16, .int .i64 B.length), (15, .sl (nid + 12) 0 B.length), (6, .sl (nid + 8) 0 (S ++ L).length), (5, .sl (nid + 4) 0 C.length), (1, .int .i64 (least : Nat)), (2, .ptr nid 0)], [(nid, boxW nl W), (nid + 4, arrCl C), (nid + 8, arrPl (S ++ L)), (nid + 12, arrPl B), (nid + 20, arrPl L), (nid + 24, boxL (nid + 20) L.length)], nid + 7000, nid⟩ ?_ ?_
        · unfold arrPl boxW arrCl boxL
          simp -dsimp only [aqT, aqU, aqN, aqS, ↓seqK, ↓blkK, ↓loopK, step, stepBin, Nat.add_assoc nid, ↓reduceIte, Option.toList, ← Int.ofNat_tmod, ← Int.ofNat_tdiv, simprocAttr, BEq.rfl, LN_succ]
          rw [getD_appL2 S L (fun q => q.1) rfl, getD_appL2 S L (fun q => q.2) rfl]
          rw [List.length_append] at hSL
          refine ⟨⟨by omega, by omega⟩, Cov.go [(nid + 8, nid + 6008)] [] ?_⟩
          simp [cvT, step, res, -List.getD_eq_getElem?_getD]
        refine SR.seq ?_
        unfold arrPl boxW arrCl boxL
        simp -dsimp only [aqT, aqU, aqN, aqS, ↓seqK, ↓blkK, ↓loopK, step, stepBin, Nat.add_assoc nid, ↓reduceIte, Option.toList, ← Int.ofNat_tmod, ← Int.ofNat_tdiv, simprocAttr, BEq.rfl, LN_succ]
        have hCl : C.length ≤ 60000 := by omega
        refine SR.cond (b := decide ((least : Int) ≤ (L.length : Int))) (by simp [AX.val, getS]) (fun hb => ?_) (fun hb => ?_)
        · have hb' := of_decide_eq_true hb
          rw [if_pos (by omega)] at hba
          have hpg : ∀ m, nid + 25 ≤ m → ACall Tryz.prog 50 [.agg [.lit nl W.rows.length [.s fun i => W.rows.getD i []], .str W.pass], .fn 55 [.ptr (nid + 24) 0]] [(nid + 24, boxL (nid + 20) L.length), (nid + 20, arrPl L)] m (.lit false (compL W p).length (colPts (compL W p))) [] := fun m hm => by
            have h0 := placesR_h 55 [.ptr (nid + 24) 0] [(nid + 24, boxL (nid + 20) L.length), (nid + 20, arrPl L)] (fun q => L.contains q) nl W m hW (scp2 (by omega) (by omega) (by simp [lowBlk, lowAll, idsOfs, idsOf]; omega) rfl) (by simp [lowAll, idsOfs, idsOf]; omega) (fun q hq nid' h' => group2_c (nid + 24) (nid + 20) L q nid' (by omega) (by omega) (by omega) (by omega))
            rw [hcomp] at h0
            have e1 : (nid + 24 == m) = false := by rw [beq_eq_false_iff_ne]; omega
            have e2 : (nid + 20 == m) = false := by rw [beq_eq_false_iff_ne]; omega
            exact ACall.lit h0 (by rw [hlc]; exact hpos) rfl (by simp only [getH, e1, e2, cond_false])
          refine SR.run (t := .mk) ?_
          simp -dsimp only [aqT, aqU, aqN, aqS, ↓seqK, ↓blkK, ↓loopK, step, stepBin, Nat.add_assoc nid, ↓reduceIte, Option.toList, ← Int.ofNat_tmod, ← Int.ofNat_tdiv, simprocAttr, BEq.rfl, LN_succ]
          refine CallO.on (hpg _ (by omega)) (subH_cons (by simp only [aqT, aqU, aqN, aqS, ↓seqK, ↓blkK, ↓loopK, step, stepBin, Nat.add_assoc nid, ↓reduceIte, Option.toList, ← Int.ofNat_tmod, ← Int.ofNat_tdiv, simprocAttr, BEq.rfl, LN_succ, boxL]) (subH_get (by simp only [aqT, aqU, aqN, aqS, ↓seqK, ↓blkK, ↓loopK, step, stepBin, Nat.add_assoc nid, ↓reduceIte, Option.toList, ← Int.ofNat_tmod, ← Int.ofNat_tdiv, simprocAttr, BEq.rfl, LN_succ, arrPl]))) ?_
          unfold colPts
          simp -dsimp only [aqT, aqU, aqN, aqS, ↓seqK, ↓blkK, ↓loopK, step, stepBin, Nat.add_assoc nid, ↓reduceIte, Option.toList, ← Int.ofNat_tmod, ← Int.ofNat_tdiv, simprocAttr, BEq.rfl, LN_succ]
          have hC1 : C.length + 1 = (C ++ [compL W p]).length := by simp
          rw [hba, hC1]
          refine ⟨⟨by omega, by omega⟩, ⟨S ++ L, hsx, hSL⟩, Cov.go [(nid + 4, nid + 7036)] [] ?_⟩
          simp [cvT, step, res, boxW, arrPl, arrCl, boxL, -List.getD_eq_getElem?_getD, -List.length_append]
          refine ColEq.l fun i hi => ?_
          by_cases hiC : i < C.length
          · have e : (C ++ [compL W p]).getD i [] = C.getD i [] := by rw [List.getD_eq_getElem?_getD, List.getElem?_append_left hiC, ← List.getD_eq_getElem?_getD]
            rw [e, if_pos hiC, if_pos hiC]
            exact ⟨by simp [hiC], rfl, ColsEq.refl _ _⟩
          · have e : (C ++ [compL W p]).getD i [] = compL W p := by
              rw [List.length_append, List.length_singleton] at hi
              rw [List.getD_eq_getElem?_getD, List.getElem?_append_right (by omega), show i - C.length = 0 by omega]
              rfl
            have e0 : i - C.length = 0 := by rw [List.length_append, List.length_singleton] at hi; omega
            rw [e, if_neg hiC, if_neg hiC, e0]
            exact ⟨by simp, rfl, ColsEq.refl _ _⟩
        · have hb' := of_decide_eq_false hb
          rw [if_neg (by omega), List.append_nil] at hba
          refine SR.run (t := .mk) ?_
          simp -dsimp only [aqT, aqU, aqN, aqS, ↓seqK, ↓blkK, ↓loopK, step, stepBin, Nat.add_assoc nid, ↓reduceIte, Option.toList, ← Int.ofNat_tmod, ← Int.ofNat_tdiv, simprocAttr, BEq.rfl, LN_succ]
          rw [hba]
          refine ⟨⟨S ++ L, hsx, hSL⟩, Cov.go [] [] ?_⟩
          simp [cvT, step, res, boxW, arrPl, arrCl, boxL, -List.getD_eq_getElem?_getD, -List.length_append]
      · refine SR.run (t := .mk) ?_
        unfold arrPl boxW arrCl
        simp -dsimp only [aqT, aqU, aqN, aqS, ↓seqK, ↓blkK, ↓loopK, step, stepBin, Nat.add_assoc nid, ↓reduceIte, Option.toList, ← Int.ofNat_tmod, ← Int.ofNat_tdiv, simprocAttr, BEq.rfl, LN_succ]
        refine ⟨by unfold inI64; omega, (k + 1, T), ⟨⟨by omega, hT.1, hT.2⟩, by simp only; omega⟩, Cov.go [] [] ?_⟩
        simp [cvT, step, res, boxW, arrPl, arrCl, -List.getD_eq_getElem?_getD, -List.length_append]
    · obtain rfl : k = B.length := by omega
      rw [hall]
      refine ⟨(), Cov.go [] [] ?_⟩
      simp [cvT, step, res, boxW, arrPl, arrCl, -List.getD_eq_getElem?_getD, -List.length_append]
  · refine SR.run (t := .mk) ?_
    unfold arrCl
    simp -dsimp only [aqT, aqU, aqN, aqS, ↓seqK, ↓blkK, ↓loopK, step, stepBin, Nat.add_assoc nid, ↓reduceIte, Option.toList, ← Int.ofNat_tmod, ← Int.ofNat_tdiv, simprocAttr, BEq.rfl, LN_succ]
    refine RetOK.go [(nid, nid + 4)] [] (.inl rfl) ?_
    simp [a16, cvT, step, res, -List.getD_eq_getElem?_getD]
end Go.Proofs.YtmgfcjblclanmaaGreat
namespace Go.Proofs.YtmgfcjblclanmaaGreat
open Go.RowKit Go.Lib
theorem indexPt_h (f : Nat) (caps : List PV) (Hs : Heap) (F : Nat → Bool) (nl : Bool) (n : Nat) (G : Nat → Int) (G2 : Nat → Int) (nid : Nat) (hs : Scoped nid Hs) (hcap : lowAll nid (idsOfs caps) = true) (hl : n ≤ 1000000)
    (hf : ∀ k, k < n → ∀ nid', nid ≤ nid' → ACall Tryz.prog f (.agg [.int .i64 (G k), .int .i64 (G2 k)] :: caps) Hs nid' (.bool (F k)) []) :
    ACall Tryz.prog 86 [.lit nl n [.i .i64 G, .i .i64 G2], .fn f caps] Hs nid (.int .i64 (idxR F n)) [] := by
  have hcv := capsC hcap
  refine acall_run c86 (by simp [a86]) ?_
  simp -dsimp only [a86, aqT, aqU, aqN, aqS, ↓seqK, ↓blkK, ↓loopK, step, stepBin, Nat.add_assoc nid, ↓reduceIte, Option.toList, ← Int.ofNat_tmod, ← Int.ofNat_tdiv, simprocAttr, BEq.rfl, LN_succ]
  refine LP.mkP (fun k : Nat => k ≤ n ∧ ∀ j, j < k → F j = false) (fun k : Nat => ⟨[(8, .int .i64 k), (7, .int .i64 n), (0, .lit nl n [.i .i64 G, .i .i64 G2]), (1, .fn f caps)], Hs, nid + 100, nid⟩) (fun k => n + 1 - k) 0 ⟨by omega, fun j hj => by omega⟩ (Cov.goF Hs [] [] [] [] hs (by simp [kOK]) rfl ?_) (fun k hk => ?_)
  · simp [cvT, step, res, hcv]
  obtain ⟨hk, hb⟩ := hk
  simp -dsimp only [aqT, aqU, aqN, aqS, ↓seqK, ↓blkK, ↓loopK, step, stepBin, Nat.add_assoc nid, ↓reduceIte, Option.toList, ← Int.ofNat_tmod, ← Int.ofNat_tdiv, simprocAttr, BEq.rfl, LN_succ]
  refine S2.dec (fun h3 => ?_) (fun h3 => ?_) <;> simp -dsimp only [aqT, aqU, aqN, aqS, ↓seqK, ↓blkK, ↓loopK, step, stepBin, Nat.add_assoc nid, ↓reduceIte, Option.toList, ← Int.ofNat_tmod, ← Int.ofNat_tdiv, simprocAttr, BEq.rfl, LN_succ]
  · have hkl : k < n := by omega
    refine ⟨by omega, CallO.on (hf k hkl _ (by omega)) (subH_frame (X := []) hs (by simp [kOK])) ?_⟩
    simp -dsimp only [aqT, aqU, aqN, aqS, ↓seqK, ↓blkK, ↓loopK, step, stepBin, Nat.add_assoc nid, ↓reduceIte, Option.toList, ← Int.ofNat_tmod, ← Int.ofNat_tdiv, simprocAttr, BEq.rfl, LN_succ]
    refine S2.intro (fun h4 => ?_) (fun h4 => ?_) <;> simp -dsimp only [aqT, aqU, aqN, aqS, ↓seqK, ↓blkK, ↓loopK, step, stepBin, Nat.add_assoc nid, ↓reduceIte, Option.toList, ← Int.ofNat_tmod, ← Int.ofNat_tdiv, simprocAttr, BEq.rfl, LN_succ]
    · rw [idxR_at hkl h4 hb]
      refine RetOK.goF Hs [] [] [] [] [] (.inl rfl) hs (by simp [kOK]) rfl ?_
      simp [a86, cvT, step, res]
    · refine ⟨by unfold inI64; omega, k + 1, ⟨⟨by omega, fun j hj => ?_⟩, by omega⟩, Cov.goF Hs [] [] [] [] hs (by simp [kOK]) rfl ?_⟩
      · rcases (by omega : j < k ∨ j = k) with hj | hj
        · exact hb j hj
        · rw [hj]; exact h4
      · simp [cvT, step, res, hcv]
  · have hkn : k = n := by omega
    subst hkn
    rw [idxR_no hb]
    refine RetOK.goF Hs [] [] [] [] [] (.inl rfl) hs (by simp [kOK]) rfl ?_
    simp [a86, cvT, step, res]
theorem containsPt_h (f : Nat) (caps : List PV) (Hs : Heap) (F : Nat → Bool) (nl : Bool) (n : Nat) (G : Nat → Int) (G2 : Nat → Int) (nid : Nat) (hs : Scoped nid Hs) (hcap : lowAll nid (idsOfs caps) = true) (hl : n ≤ 1000000)
    (hf : ∀ k, k < n → ∀ nid', nid ≤ nid' → ACall Tryz.prog f (.agg [.int .i64 (G k), .int .i64 (G2 k)] :: caps) Hs nid' (.bool (F k)) []) :
    ACall Tryz.prog 63 [.lit nl n [.i .i64 G, .i .i64 G2], .fn f caps] Hs nid (.bool ((List.range n).any F)) [] := by
  have hcv := capsC hcap
  refine acall_run c63 (by simp [a63]) ?_
  simp -dsimp only [a63, aqT, aqU, aqN, aqS, ↓seqK, ↓blkK, ↓loopK, step, stepBin, Nat.add_assoc nid, ↓reduceIte, Option.toList, ← Int.ofNat_tmod, ← Int.ofNat_tdiv, simprocAttr, BEq.rfl, LN_succ]
  refine CallO.on (indexPt_h f caps Hs F nl n G G2 _ (hs.mono (by omega)) (lowAll_mono hcap (by omega)) hl (fun k hk nid' h' => hf k hk nid' (by omega))) (fun _ _ h => h) ?_
  simp -dsimp only [aqT, aqU, aqN, aqS, ↓seqK, ↓blkK, ↓loopK, step, stepBin, Nat.add_assoc nid, ↓reduceIte, Option.toList, ← Int.ofNat_tmod, ← Int.ofNat_tdiv, simprocAttr, BEq.rfl, LN_succ]
  have e := idxR_any F n
  generalize idxR F n = i at *
  rw [← e]
  refine RetOK.goF Hs [] [] [] [] [] (.inl rfl) hs (by simp [kOK]) rfl ?_
  simp [a63, cvT, step, res]
end Go.Proofs.YtmgfcjblclanmaaGreat
namespace Go.Proofs.YtmgfcjblclanmaaGreat
open Go.RowKit
theorem edgeL_len {W : Waf} (hW : WafOk W) : (edgeL W).length ≤ 60000 := by
  have h1 := plTo_bd hW (Nat.le_refl _)
  have h2 := keepP_len (innerP W) (plV W)
  unfold edgeL
  unfold plV at *
  omega
theorem getD_appB (l : List Bool) (x : Bool) : (fun i => if i < l.length then l.getD i false else [x].getD (i - l.length) false) = fun i => (l ++ [x]).getD i false := by
  funext i
  simp only [List.getD_eq_getElem?_getD, List.getElem?_append]
  split <;> rfl
end Go.Proofs.YtmgfcjblclanmaaGreat
namespace Go.Proofs.YtmgfcjblclanmaaGreat
open Go.RowKit
theorem CallO.lentOn {P : Program} {f : Nat} {args : List PV} {H : Heap} {nid : Nat} {K : PV → Heap → Prop} (L : List Nat) {Hs : Heap} {r : PV} {u : Heap} (h : ∀ nl, ACall P f (lends H L nl args) Hs nid r u) (hs : subH Hs H) (hp : r.plain = true) (hu : plainH u = true) (hHs : plainH Hs = true) (hL : ∀ id ∈ L, getH Hs id = none ∧ getH u id = none) (hK : K r u) : CallOK P f args H nid K :=
  CallO.x ⟨L, [], Hs, r, u, hs, by simpa using hL, .inr ⟨hp, hu, hHs⟩, by simpa using h, by simpa [kill] using hK⟩
theorem Scoped.push {b i : Nat} {x : ABlk} {Hs : Heap} (hs : Scoped b Hs) (hi : i < b) (hx : lowBlk b (some x) = true) : Scoped b ((i, some x) :: Hs) := ⟨fun j hj => by
  simp only [keys, List.map_cons, List.mem_cons] at hj
  rcases hj with rfl | hj
  · exact hi
  · exact hs.lt j hj, fun j y hy => by
  simp only [getH] at hy
  by_cases e : (i == j) = true
  · simp only [e, cond_true, Option.some.injEq] at hy; subst hy; exact hx
  · simp only [Bool.not_eq_true] at e
    simp only [e, cond_false] at hy
    exact hs.blk j y hy⟩
theorem por_fr {W : Waf} {k : Nat} : (porV (cntN (goodP W) (ringR W k)) (cntN (allP W) (ringR W k))).1 = (frR W k).1 ∧ (porV (cntN (goodP W) (ringR W k)) (cntN (allP W) (ringR W k))).2.1 = (frR W k).2 ∧ (porV (cntN (goodP W) (ringR W k)) (cntN (allP W) (ringR W k))).2.2 = hasR W k := by
  unfold porV frR hasR
  by_cases h : cntN (allP W) (ringR W k) = 0
  · simp [h]
  · simp [h]
def nxtP (W : Waf) (d r : List Pt) (p : Pt) : Bool := !noneP W p && !d.contains p && (arV p).any fun q => r.contains q
theorem ring11_c (ib ig : Nat) (L : List Pt) (p : Pt) (nid : Nat) (hib : ib < nid) (hig : ig < nid) (n1 : ib ≠ ig) (hl : L.length ≤ 1000000) : ACall Tryz.prog 64 [.agg [.int .i64 p.1, .int .i64 p.2], .ptr ib 0] [(ib, boxL ig L.length), (ig, arrPl L)] nid (.bool (L.contains p)) [] := by
  obtain ⟨a1, a2, a3, a4, a5, a6, a7, a8, a9⟩ := id_all hib; obtain ⟨b1, b2, b3, b4, b5, b6, b7, b8, b9⟩ := id_all hig; have g1 : (ib == ig) = false := (by simpa using n1); have g2 : (ig == ib) = false := (by simpa using fun h => n1 h.symm); have m1 : ¬ ig = ib := fun h => n1 h.symm
  have hc := fun nl k => containsPt_c nl L p k hl
  refine acall_run c64 (by simp [a64]) ?_
  unfold boxL arrPl
  unfold litPl at hc
  simp -dsimp only [a64, aqT, aqU, aqN, aqS, ↓seqK, ↓blkK, ↓loopK, step, stepBin, Nat.add_assoc nid, ↓reduceIte, Option.toList, ← Int.ofNat_tmod, ← Int.ofNat_tdiv, simprocAttr, BEq.rfl, LN_succ, a1, a2, a3, a4, a5, a6, a7, a8, a9, b1, b2, b3, b4, b5, b6, b7, b8, b9, g1, g2, n1, m1]
  refine CallO.lent [ig] (fun nl' => by
    simp only [lends, lend, aqT, aqU, aqN, aqS, ↓seqK, ↓blkK, ↓loopK, step, stepBin, Nat.add_assoc nid, ↓reduceIte, Option.toList, ← Int.ofNat_tmod, ← Int.ofNat_tdiv, simprocAttr, BEq.rfl, LN_succ, a1, a2, a3, a4, a5, a6, a7, a8, a9, b1, b2, b3, b4, b5, b6, b7, b8, b9, g1, g2, n1, m1]
    exact hc _ _) rfl rfl (by simp [getH]) ?_
  simp -dsimp only [aqT, aqU, aqN, aqS, ↓seqK, ↓blkK, ↓loopK, step, stepBin, Nat.add_assoc nid, ↓reduceIte, Option.toList, ← Int.ofNat_tmod, ← Int.ofNat_tdiv, simprocAttr, BEq.rfl, LN_succ, a1, a2, a3, a4, a5, a6, a7, a8, a9, b1, b2, b3, b4, b5, b6, b7, b8, b9, g1, g2, n1, m1]
  refine RetOK.go [] [] (.inl rfl) ?_
  simp [a64, cvT, step, res, a1, a2, a3, a4, a5, a6, a7, a8, a9, b1, b2, b3, b4, b5, b6, b7, b8, b9, g1, g2, n1, m1]
theorem any_pts (l : List Pt) (F : Pt → Bool) : ((List.range l.length).any fun k => F (l.getD k p0)) = l.any F := by
  rw [Bool.eq_iff_iff, List.any_eq_true, List.any_eq_true]
  constructor
  · rintro ⟨k, hk, h⟩
    exact ⟨_, ptMem' (List.mem_range.1 hk), h⟩
  · rintro ⟨q, hq, h⟩
    obtain ⟨k, hk, e⟩ := List.getElem_of_mem hq
    refine ⟨k, List.mem_range.2 hk, ?_⟩
    rw [List.getD_eq_getElem?_getD, List.getElem?_eq_getElem hk, Option.getD_some, e]
    exact h
set_option maxHeartbeats 4000000 in
theorem ring1_c (Hs : Heap) (ia ib id ic ir : Nat) (nl : Bool) (W : Waf) (d r : List Pt) (p : Pt) (nid : Nat) (hs : Scoped nid Hs) (hW : WafOk W) (hp : PtBd p) (hdl : d.length ≤ 1000000) (hrl : r.length ≤ 1000000) (n1 : ic ≠ ir)
    (ga : getH Hs ia = boxW nl W) (gb : getH Hs ib = boxL id d.length) (gd : getH Hs id = arrPl d) (gc : getH Hs ic = boxL ir r.length) (gr : getH Hs ir = arrPl r) :
    ACall Tryz.prog 61 [.agg [.int .i64 p.1, .int .i64 p.2], .ptr ia 0, .ptr ib 0, .ptr ic 0] Hs nid (.bool (nxtP W d r p)) [] := by
  have hpi := pt_in hp
  have hd := fun m => dieR_all nl W p.1 p.2 m hW hpi.1 hpi.2
  have hc := fun nl k => containsPt_c nl d p k hdl
  have he := fun m => eight_all p m hp
  have hal := arV_len p
  unfold boxW boxL arrPl at *
  unfold wafP at hd
  unfold litPl at hc
  have fa := kFact hs ga
  have fb := kFact hs gb
  have fd := kFact hs gd
  have fc := kFact hs gc
  have fr := kFact hs gr
  obtain ⟨fa1, fa2, fa3⟩ := fa
  obtain ⟨fb1, fb2, fb3⟩ := fb
  obtain ⟨fd1, fd2, fd3⟩ := fd
  obtain ⟨fc1, fc2, fc3⟩ := fc
  obtain ⟨fr1, fr2, fr3⟩ := fr
  have hno : (dieV W p.1 p.2 != 46) = !noneP W p := rfl
  have hsub : subH [(ic, some (.box 38 [.sl ir 0 r.length])), (ir, some (.arr 54 r.length [.i .i64 fun i => (r.getD i p0).1, .i .i64 fun i => (r.getD i p0).2]))] Hs := subH_cons gc (subH_get gr)
  refine acall_run c61 (by simp [a61]) ?_
  simp -dsimp only [a61, aqT, aqU, aqN, aqS, ↓seqK, ↓blkK, ↓loopK, step, stepBin, Nat.add_assoc nid, ↓reduceIte, Option.toList, ← Int.ofNat_tmod, ← Int.ofNat_tdiv, simprocAttr, BEq.rfl, LN_succ, fa1, fa2, fb1, fb2, fd1, fd2, fc1, fc2, fr1, fr2, ga, gb, gd, gc, gr]
  refine CallO.pure (hd _) ?_
  simp -dsimp only [aqT, aqU, aqN, aqS, ↓seqK, ↓blkK, ↓loopK, step, stepBin, Nat.add_assoc nid, ↓reduceIte, Option.toList, ← Int.ofNat_tmod, ← Int.ofNat_tdiv, simprocAttr, BEq.rfl, LN_succ, fa1, fa2, fb1, fb2, fd1, fd2, fc1, fc2, fr1, fr2, ga, gb, gd, gc, gr]
  rw [hno]
  unfold nxtP
  cases h : noneP W p <;> simp -dsimp only [aqT, aqU, aqN, aqS, ↓seqK, ↓blkK, ↓loopK, step, stepBin, Nat.add_assoc nid, ↓reduceIte, Option.toList, ← Int.ofNat_tmod, ← Int.ofNat_tdiv, simprocAttr, BEq.rfl, LN_succ, fa1, fa2, fb1, fb2, fd1, fd2, fc1, fc2, fr1, fr2, ga, gb, gd, gc, gr]
  · refine CallO.lent [id] (fun nl' => by
      simp only [lends, lend, noOs, aqT, aqU, aqN, aqS, ↓seqK, ↓blkK, ↓loopK, step, stepBin, Nat.add_assoc nid, ↓reduceIte, Option.toList, ← Int.ofNat_tmod, ← Int.ofNat_tdiv, simprocAttr, BEq.rfl, LN_succ, fa1, fa2, fb1, fb2, fd1, fd2, fc1, fc2, fr1, fr2, ga, gb, gd, gc, gr]
      exact hc _ _) rfl rfl (by simp [getH]) ?_
    simp -dsimp only [aqT, aqU, aqN, aqS, ↓seqK, ↓blkK, ↓loopK, step, stepBin, Nat.add_assoc nid, ↓reduceIte, Option.toList, ← Int.ofNat_tmod, ← Int.ofNat_tdiv, simprocAttr, BEq.rfl, LN_succ, fa1, fa2, fb1, fb2, fd1, fd2, fc1, fc2, fr1, fr2, ga, gb, gd, gc, gr]
    cases h2 : d.contains p <;> simp -dsimp only [aqT, aqU, aqN, aqS, ↓seqK, ↓blkK, ↓loopK, step, stepBin, Nat.add_assoc nid, ↓reduceIte, Option.toList, ← Int.ofNat_tmod, ← Int.ofNat_tdiv, simprocAttr, BEq.rfl, LN_succ, fa1, fa2, fb1, fb2, fd1, fd2, fc1, fc2, fr1, fr2, ga, gb, gd, gc, gr, Bool.not_true, Bool.not_false]
    · refine CallO.pure (he _) ?_
      simp -dsimp only [aqT, aqU, aqN, aqS, ↓seqK, ↓blkK, ↓loopK, step, stepBin, Nat.add_assoc nid, ↓reduceIte, Option.toList, ← Int.ofNat_tmod, ← Int.ofNat_tdiv, simprocAttr, BEq.rfl, LN_succ, fa1, fa2, fb1, fb2, fd1, fd2, fc1, fc2, fr1, fr2, ga, gb, gd, gc, gr]
      refine CallO.lentOn [nid + 56] (Hs := [(ic, some (.box 38 [.sl ir 0 r.length])), (ir, some (.arr 54 r.length [.i .i64 fun i => (r.getD i p0).1, .i .i64 fun i => (r.getD i p0).2]))]) (r := .bool ((arV p).any fun q => r.contains q)) (u := []) (fun nl' => ?_) (fun i b hb => subH_frame (X := [_, _]) hs (by simp [kOK]) i b (hsub i b hb)) rfl rfl rfl (fun i hi => ?_) ?_
      · simp only [lends, lend, noOs, aqT, aqU, aqN, aqS, ↓seqK, ↓blkK, ↓loopK, step, stepBin, Nat.add_assoc nid, ↓reduceIte, Option.toList, ← Int.ofNat_tmod, ← Int.ofNat_tdiv, simprocAttr, BEq.rfl, LN_succ]
        have hK := containsPt_h 64 [.ptr ic 0] [(ic, some (.box 38 [.sl ir 0 r.length])), (ir, some (.arr 54 r.length [.i .i64 fun i => (r.getD i p0).1, .i .i64 fun i => (r.getD i p0).2]))] (fun k => r.contains ((arV p).getD k p0)) (nl' (nid + 56)) (arV p).length (fun k => ((arV p).getD k p0).1) (fun k => ((arV p).getD k p0).2) (nid + 64) (scp2 (by omega) (by omega) (by simp [lowBlk, lowAll, idsOfs, idsOf]; omega) rfl) (by simp [lowAll, idsOfs, idsOf]; omega) (by omega) (fun k hk nid' h' => ring11_c ic ir r ((arV p).getD k p0) nid' (by omega) (by omega) n1 hrl)
        rw [any_pts (arV p) (fun q => r.contains q)] at hK
        exact hK
      · have hi' : i = nid + 56 := by simpa using hi
        subst hi'
        have e1 : (ic == nid + 56) = false := by rw [beq_eq_false_iff_ne]; omega
        have e2 : (ir == nid + 56) = false := by rw [beq_eq_false_iff_ne]; omega
        exact ⟨by simp only [getH, e1, e2, cond_false], rfl⟩
      · simp -dsimp only [aqT, aqU, aqN, aqS, ↓seqK, ↓blkK, ↓loopK, step, stepBin, Nat.add_assoc nid, ↓reduceIte, Option.toList, ← Int.ofNat_tmod, ← Int.ofNat_tdiv, simprocAttr, BEq.rfl, LN_succ, Bool.not_false]
        generalize ((arV p).any fun q => r.contains q) = bb
        first | refine RetOK.goF Hs [] [_] [] [] [] (.inl rfl) hs (by simp [kOK]) (by simp) ?_ | refine RetOK.goF Hs [] [_, _] [] [] [] (.inl rfl) hs (by simp [kOK]) (by simp) ?_ | refine RetOK.goF Hs [] [_, _, _] [] [] [] (.inl rfl) hs (by simp [kOK]) (by simp) ?_ | refine RetOK.goF Hs [] [_, _, _, _] [] [] [] (.inl rfl) hs (by simp [kOK]) (by simp) ?_ | refine RetOK.goF Hs [] [_, _, _, _, _] [] [] [] (.inl rfl) hs (by simp [kOK]) (by simp) ?_ | refine RetOK.goF Hs [] [_, _, _, _, _, _] [] [] [] (.inl rfl) hs (by simp [kOK]) (by simp) ?_ | refine RetOK.goF Hs [] [_, _, _, _, _, _, _] [] [] [] (.inl rfl) hs (by simp [kOK]) (by simp) ?_ | refine RetOK.goF Hs [] [_, _, _, _, _, _, _, _] [] [] [] (.inl rfl) hs (by simp [kOK]) (by simp) ?_ | refine RetOK.goF Hs [] [] [] [] [] (.inl rfl) hs (by simp [kOK]) (by simp) ?_
        simp [a61, cvT, step, res]
    · first | refine RetOK.goF Hs [] [_] [] [] [] (.inl rfl) hs (by simp [kOK]) (by simp) ?_ | refine RetOK.goF Hs [] [_, _] [] [] [] (.inl rfl) hs (by simp [kOK]) (by simp) ?_ | refine RetOK.goF Hs [] [_, _, _] [] [] [] (.inl rfl) hs (by simp [kOK]) (by simp) ?_ | refine RetOK.goF Hs [] [_, _, _, _] [] [] [] (.inl rfl) hs (by simp [kOK]) (by simp) ?_ | refine RetOK.goF Hs [] [_, _, _, _, _] [] [] [] (.inl rfl) hs (by simp [kOK]) (by simp) ?_ | refine RetOK.goF Hs [] [_, _, _, _, _, _] [] [] [] (.inl rfl) hs (by simp [kOK]) (by simp) ?_ | refine RetOK.goF Hs [] [_, _, _, _, _, _, _] [] [] [] (.inl rfl) hs (by simp [kOK]) (by simp) ?_ | refine RetOK.goF Hs [] [_, _, _, _, _, _, _, _] [] [] [] (.inl rfl) hs (by simp [kOK]) (by simp) ?_ | refine RetOK.goF Hs [] [] [] [] [] (.inl rfl) hs (by simp [kOK]) (by simp) ?_
      simp [a61, cvT, step, res]
  · first | refine RetOK.goF Hs [] [_] [] [] [] (.inl rfl) hs (by simp [kOK]) (by simp) ?_ | refine RetOK.goF Hs [] [_, _] [] [] [] (.inl rfl) hs (by simp [kOK]) (by simp) ?_ | refine RetOK.goF Hs [] [_, _, _] [] [] [] (.inl rfl) hs (by simp [kOK]) (by simp) ?_ | refine RetOK.goF Hs [] [_, _, _, _] [] [] [] (.inl rfl) hs (by simp [kOK]) (by simp) ?_ | refine RetOK.goF Hs [] [_, _, _, _, _] [] [] [] (.inl rfl) hs (by simp [kOK]) (by simp) ?_ | refine RetOK.goF Hs [] [_, _, _, _, _, _] [] [] [] (.inl rfl) hs (by simp [kOK]) (by simp) ?_ | refine RetOK.goF Hs [] [_, _, _, _, _, _, _] [] [] [] (.inl rfl) hs (by simp [kOK]) (by simp) ?_ | refine RetOK.goF Hs [] [_, _, _, _, _, _, _, _] [] [] [] (.inl rfl) hs (by simp [kOK]) (by simp) ?_ | refine RetOK.goF Hs [] [] [] [] [] (.inl rfl) hs (by simp [kOK]) (by simp) ?_
    simp [a61, cvT, step, res]
set_option maxHeartbeats 8000000 in
theorem ringsR_c (nl : Bool) (W : Waf) (nid : Nat) (hW : WafOk W) : ACall Tryz.prog 19 [wafP nl W] [] nid (.tup [.sl nid 0 (frsR W (manyR W)).length, .sl (nid + 1) 0 (hasL W (manyR W)).length]) [(nid, arrFr (frsR W (manyR W))), (nid + 1, arrBl (hasL W (manyR W)))] := by
  have hmN := manyR_le hW
  have hmok := manyR_ok hW
  have hE := fun k => edgeR_all nl W k hW
  have hm0 := muV_le hW []
  have he0 : edgeL W = ringR W 0 := rfl
  rw [he0] at hE
  refine acall_sr c19 (by simp [a19]) ?_
  unfold a19
  unfold wafP at *
  refine SR.seq ?_
  simp -dsimp only [aqT, aqU, aqN, aqS, ↓seqK, ↓blkK, ↓loopK, step, stepBin, Nat.add_assoc nid, ↓reduceIte, Option.toList, ← Int.ofNat_tmod, ← Int.ofNat_tdiv, simprocAttr, BEq.rfl, LN_succ]
  refine SR.seq ?_
  simp -dsimp only [aqT, aqU, aqN, aqS, ↓seqK, ↓blkK, ↓loopK, step, stepBin, Nat.add_assoc nid, ↓reduceIte, Option.toList, ← Int.ofNat_tmod, ← Int.ofNat_tdiv, simprocAttr, BEq.rfl, LN_succ]
  refine SR.seq ?_
  simp -dsimp only [aqT, aqU, aqN, aqS, ↓seqK, ↓blkK, ↓loopK, step, stepBin, Nat.add_assoc nid, ↓reduceIte, Option.toList, ← Int.ofNat_tmod, ← Int.ofNat_tdiv, simprocAttr, BEq.rfl, LN_succ]
  refine SR.seq ?_
  simp -dsimp only [aqT, aqU, aqN, aqS, ↓seqK, ↓blkK, ↓loopK, step, stepBin, Nat.add_assoc nid, ↓reduceIte, Option.toList, ← Int.ofNat_tmod, ← Int.ofNat_tdiv, simprocAttr, BEq.rfl, LN_succ]
  refine SR.seqTo ⟨[(7, .ptr (nid + 20) 0), (6, .ptr (nid + 12) 0), (5, .lit true 0 []), (4, .lit true 0 []), (1, .ptr nid 0)], [(nid, boxW nl W), (nid + 12, some (.box 38 [.lit true 0 []])), (nid + 20, boxL (nid + 24) (ringR W 0).length), (nid + 24, arrPl (ringR W 0))], nid + 100, nid⟩ ?_ ?_
  · simp -dsimp only [aqT, aqU, aqN, aqS, ↓seqK, ↓blkK, ↓loopK, step, stepBin, Nat.add_assoc nid, ↓reduceIte, Option.toList, ← Int.ofNat_tmod, ← Int.ofNat_tdiv, simprocAttr, BEq.rfl, LN_succ]
    refine CallO.pure (hE _) ?_
    unfold arrPl
    simp -dsimp only [aqT, aqU, aqN, aqS, ↓seqK, ↓blkK, ↓loopK, step, stepBin, Nat.add_assoc nid, ↓reduceIte, Option.toList, ← Int.ofNat_tmod, ← Int.ofNat_tdiv, simprocAttr, BEq.rfl, LN_succ]
    refine Cov.go [(nid + 12, nid + 20), (nid + 20, nid + 32), (nid + 24, nid + 28)] [] ?_
    simp [cvT, step, res, boxW, boxL, arrPl, -List.getD_eq_getElem?_getD]
  refine SR.seqW (ι := Unit) (fun _ => ⟨[(5, .sl (nid + 8) 0 (hasL W (manyR W)).length), (4, .sl (nid + 4) 0 (frsR W (manyR W)).length)], [(nid + 4, arrFr (frsR W (manyR W))), (nid + 8, arrBl (hasL W (manyR W)))], nid + 90000, nid⟩) ?_ (fun _ => ?_)
  · refine SR.block ?_
    refine SR.loopP (fun k : Nat => k ≤ manyR W) (fun k : Nat => ⟨[(7, .ptr (nid + 20) 0), (6, .ptr (nid + 12) 0), (5, .sl (nid + 8) 0 (hasL W k).length), (4, .sl (nid + 4) 0 (frsR W k).length), (1, .ptr nid 0)], [(nid, boxW nl W), (nid + 4, arrFr (frsR W k)), (nid + 8, arrBl (hasL W k)), (nid + 12, boxL (nid + 16) (doneR W k).length), (nid + 16, arrPl (doneR W k)), (nid + 20, boxL (nid + 24) (ringR W k).length), (nid + 24, arrPl (ringR W k))], nid + 1000, nid⟩) (fun k => manyR W + 1 - k) 0 (Nat.zero_le _) (Cov.go [] [(nid + 4, 2), (nid + 8, 1), (nid + 16, 2)] ?_) (fun k hk => ?_)
    · simp [cvT, step, res, boxW, boxL, arrPl, arrFr, arrBl, frsR, hasL, doneR, stR, -List.getD_eq_getElem?_getD]
    have hkl : (frsR W k).length = k := frsR_len W k
    have hkh : (hasL W k).length = k := hasL_len W k
    have hkl1 : (frsR W (k + 1)).length = k + 1 := frsR_len W (k + 1)
    have hkh1 : (hasL W (k + 1)).length = k + 1 := hasL_len W (k + 1)
    have hfs := frsR_succ W k
    have has := hasL_succ W k
    have hds := doneR_succ W k
    have hrl := ringR_len hW k
    have hdl := done_len (W := W) k
    have hdl1 := done_len (W := W) (k + 1)
    have hrm : ∀ p ∈ ringR W k, inI64 p.1 ∧ inI64 p.2 := fun p hp => plV_in' hW (ringR_mem hp).1
    have hpo := fun nl' m => portion_all nl nl' W (ringR W k) m hW (by omega) hrm
    obtain ⟨q1, q2, q3⟩ := por_fr (W := W) (k := k)
    rw [q1, q2, q3] at hpo
    have hnx : (plV W).filter (nxtP W (doneR W (k + 1)) (ringR W k)) = ringR W (k + 1) := rfl
    refine SR.seq ?_
    unfold boxW boxL arrPl arrFr arrBl
    unfold wafP litPl at hpo
    simp -dsimp only [aqT, aqU, aqN, aqS, ↓seqK, ↓blkK, ↓loopK, step, stepBin, Nat.add_assoc nid, ↓reduceIte, Option.toList, ← Int.ofNat_tmod, ← Int.ofNat_tdiv, simprocAttr, BEq.rfl, LN_succ]
    refine S2.dec (fun h1 => ?_) (fun h1 => ?_) <;> simp -dsimp only [aqT, aqU, aqN, aqS, ↓seqK, ↓blkK, ↓loopK, step, stepBin, Nat.add_assoc nid, ↓reduceIte, Option.toList, ← Int.ofNat_tmod, ← Int.ofNat_tdiv, simprocAttr, BEq.rfl, LN_succ]
    · have hkN : k < manyR W := by
        rcases (by omega : k < manyR W ∨ k = manyR W) with e | e
        · exact e
        · exfalso
          rw [e, hmok.1] at h1
          simp at h1
      refine SR.block ?_
      refine SR.seqTo ⟨[(9, .bool (hasR W k)), (8, .ptr (nid + 28) 0), (7, .ptr (nid + 20) 0), (6, .ptr (nid + 12) 0), (5, .sl (nid + 8) 0 (hasL W k).length), (4, .sl (nid + 4) 0 (frsR W k).length), (1, .ptr nid 0)], [(nid, boxW nl W), (nid + 4, arrFr (frsR W k)), (nid + 8, arrBl (hasL W k)), (nid + 12, boxL (nid + 16) (doneR W k).length), (nid + 16, arrPl (doneR W k)), (nid + 20, boxL (nid + 24) (ringR W k).length), (nid + 24, arrPl (ringR W k)), (nid + 28, some (.box 62 [.int .i64 (frR W k).1, .int .i64 (frR W k).2]))], nid + 2000, nid⟩ ?_ ?_
      · simp -dsimp only [aqT, aqU, aqN, aqS, ↓seqK, ↓blkK, ↓loopK, step, stepBin, Nat.add_assoc nid, ↓reduceIte, Option.toList, ← Int.ofNat_tmod, ← Int.ofNat_tdiv, simprocAttr, BEq.rfl, LN_succ]
        refine CallO.lent [nid + 24] (fun nl' => by
          simp only [lends, lend, noOs, aqT, aqU, aqN, aqS, ↓seqK, ↓blkK, ↓loopK, step, stepBin, Nat.add_assoc nid, ↓reduceIte, Option.toList, ← Int.ofNat_tmod, ← Int.ofNat_tdiv, simprocAttr, BEq.rfl, LN_succ]
          exact hpo _ _) rfl rfl (by simp [getH]) ?_
        simp -dsimp only [aqT, aqU, aqN, aqS, ↓seqK, ↓blkK, ↓loopK, step, stepBin, Nat.add_assoc nid, ↓reduceIte, Option.toList, ← Int.ofNat_tmod, ← Int.ofNat_tdiv, simprocAttr, BEq.rfl, LN_succ]
        refine Cov.go [(nid + 28, nid + 1036)] [] ?_
        simp [cvT, step, res, boxW, boxL, arrPl, arrFr, arrBl, -List.getD_eq_getElem?_getD]
      refine SR.seqTo ⟨[(7, .ptr (nid + 20) 0), (6, .ptr (nid + 12) 0), (5, .sl (nid + 8) 0 (hasL W (k + 1)).length), (4, .sl (nid + 4) 0 (frsR W (k + 1)).length), (1, .ptr nid 0)], [(nid, boxW nl W), (nid + 4, arrFr (frsR W (k + 1))), (nid + 8, arrBl (hasL W (k + 1))), (nid + 12, boxL (nid + 16) (doneR W k).length), (nid + 16, arrPl (doneR W k)), (nid + 20, boxL (nid + 24) (ringR W k).length), (nid + 24, arrPl (ringR W k))], nid + 3000, nid⟩ ?_ ?_
      · unfold boxW boxL arrPl arrFr arrBl
        simp -dsimp only [aqT, aqU, aqN, aqS, ↓seqK, ↓blkK, ↓loopK, step, stepBin, Nat.add_assoc nid, ↓reduceIte, Option.toList, ← Int.ofNat_tmod, ← Int.ofNat_tdiv, simprocAttr, BEq.rfl, LN_succ]
        rw [getD_appB, getD_appP (frsR W k) (frR W k) rfl (fun q => q.1) rfl rfl, getD_appP (frsR W k) (frR W k) rfl (fun q => q.2) rfl rfl, ← hfs, ← has]
        refine ⟨⟨by omega, by omega⟩, ⟨by omega, by omega⟩, Cov.go [(nid + 4, nid + 2012), (nid + 8, nid + 2028)] [] ?_⟩
        simp [cvT, step, res, hkl, hkh, hkl1, hkh1, -List.getD_eq_getElem?_getD]
      refine SR.seqTo ⟨[(7, .ptr (nid + 20) 0), (6, .ptr (nid + 12) 0), (5, .sl (nid + 8) 0 (hasL W (k + 1)).length), (4, .sl (nid + 4) 0 (frsR W (k + 1)).length), (1, .ptr nid 0)], [(nid, boxW nl W), (nid + 4, arrFr (frsR W (k + 1))), (nid + 8, arrBl (hasL W (k + 1))), (nid + 12, boxL (nid + 16) (doneR W (k + 1)).length), (nid + 16, arrPl (doneR W (k + 1))), (nid + 20, boxL (nid + 24) (ringR W k).length), (nid + 24, arrPl (ringR W k))], nid + 4000, nid⟩ ?_ ?_
      · unfold boxW boxL arrPl arrFr arrBl
        simp -dsimp only [aqT, aqU, aqN, aqS, ↓seqK, ↓blkK, ↓loopK, step, stepBin, Nat.add_assoc nid, ↓reduceIte, Option.toList, ← Int.ofNat_tmod, ← Int.ofNat_tdiv, simprocAttr, BEq.rfl, LN_succ]
        rw [getD_appL2 (doneR W k) (ringR W k) (fun q => q.1) rfl, getD_appL2 (doneR W k) (ringR W k) (fun q => q.2) rfl, ← hds]
        have hd1 : (doneR W (k + 1)).length = (doneR W k).length + (ringR W k).length := by rw [hds, List.length_append]
        refine ⟨⟨by omega, by omega⟩, Cov.go [(nid + 16, nid + 3008)] [] ?_⟩
        simp [cvT, step, res, hd1, -List.getD_eq_getElem?_getD]
      have hpl : ∀ m, nid + 25 ≤ m → ACall Tryz.prog 50 [.agg [.lit nl W.rows.length [.s fun i => W.rows.getD i []], .str W.pass], .fn 61 [.ptr nid 0, .ptr (nid + 12) 0, .ptr (nid + 20) 0]] [(nid, boxW nl W), (nid + 12, boxL (nid + 16) (doneR W (k + 1)).length), (nid + 16, arrPl (doneR W (k + 1))), (nid + 20, boxL (nid + 24) (ringR W k).length), (nid + 24, arrPl (ringR W k))] m (.sl m 0 (ringR W (k + 1)).length) [(m, arrPl (ringR W (k + 1)))] := fun m hm => by
        have hsc : ∀ m, nid + 25 ≤ m → Scoped m [(nid, boxW nl W), (nid + 12, boxL (nid + 16) (doneR W (k + 1)).length), (nid + 16, arrPl (doneR W (k + 1))), (nid + 20, boxL (nid + 24) (ringR W k).length), (nid + 24, arrPl (ringR W k))] := fun m hm => by
          refine Scoped.push (Scoped.push (Scoped.push (scp2 (by omega) (by omega) (by simp [lowBlk, lowAll, idsOfs, idsOf]; omega) rfl) (by omega) rfl) (by omega) (by simp [lowBlk, lowAll, idsOfs, idsOf]; omega)) (by omega) rfl
        have h0 := placesR_h 61 [.ptr nid 0, .ptr (nid + 12) 0, .ptr (nid + 20) 0] _ (nxtP W (doneR W (k + 1)) (ringR W k)) nl W m hW (hsc m hm) (by simp [lowAll, idsOfs, idsOf]; omega) (fun q hq nid' h' => ring1_c _ nid (nid + 12) (nid + 16) (nid + 20) (nid + 24) nl W (doneR W (k + 1)) (ringR W k) q nid' (hsc nid' (by omega)) hW (plV_bd hW hq) (by omega) (by omega) (by omega) (by simp only [aqT, aqU, aqN, aqS, ↓seqK, ↓blkK, ↓loopK, step, stepBin, Nat.add_assoc nid, ↓reduceIte, Option.toList, ← Int.ofNat_tmod, ← Int.ofNat_tdiv, simprocAttr, BEq.rfl, LN_succ]) (by simp only [aqT, aqU, aqN, aqS, ↓seqK, ↓blkK, ↓loopK, step, stepBin, Nat.add_assoc nid, ↓reduceIte, Option.toList, ← Int.ofNat_tmod, ← Int.ofNat_tdiv, simprocAttr, BEq.rfl, LN_succ]) (by simp only [aqT, aqU, aqN, aqS, ↓seqK, ↓blkK, ↓loopK, step, stepBin, Nat.add_assoc nid, ↓reduceIte, Option.toList, ← Int.ofNat_tmod, ← Int.ofNat_tdiv, simprocAttr, BEq.rfl, LN_succ]) (by simp only [aqT, aqU, aqN, aqS, ↓seqK, ↓blkK, ↓loopK, step, stepBin, Nat.add_assoc nid, ↓reduceIte, Option.toList, ← Int.ofNat_tmod, ← Int.ofNat_tdiv, simprocAttr, BEq.rfl, LN_succ]) (by simp only [aqT, aqU, aqN, aqS, ↓seqK, ↓blkK, ↓loopK, step, stepBin, Nat.add_assoc nid, ↓reduceIte, Option.toList, ← Int.ofNat_tmod, ← Int.ofNat_tdiv, simprocAttr, BEq.rfl, LN_succ]))
        rw [hnx] at h0
        exact h0
      refine SR.run (t := .mk) ?_
      unfold boxW boxL arrPl arrFr arrBl at *
      simp -dsimp only [aqT, aqU, aqN, aqS, ↓seqK, ↓blkK, ↓loopK, step, stepBin, Nat.add_assoc nid, ↓reduceIte, Option.toList, ← Int.ofNat_tmod, ← Int.ofNat_tdiv, simprocAttr, BEq.rfl, LN_succ]
      refine CallO.on (hpl _ (by omega)) (subH_cons (by simp only [aqT, aqU, aqN, aqS, ↓seqK, ↓blkK, ↓loopK, step, stepBin, Nat.add_assoc nid, ↓reduceIte, Option.toList, ← Int.ofNat_tmod, ← Int.ofNat_tdiv, simprocAttr, BEq.rfl, LN_succ]) (subH_cons (by simp only [aqT, aqU, aqN, aqS, ↓seqK, ↓blkK, ↓loopK, step, stepBin, Nat.add_assoc nid, ↓reduceIte, Option.toList, ← Int.ofNat_tmod, ← Int.ofNat_tdiv, simprocAttr, BEq.rfl, LN_succ]) (subH_cons (by simp only [aqT, aqU, aqN, aqS, ↓seqK, ↓blkK, ↓loopK, step, stepBin, Nat.add_assoc nid, ↓reduceIte, Option.toList, ← Int.ofNat_tmod, ← Int.ofNat_tdiv, simprocAttr, BEq.rfl, LN_succ]) (subH_cons (by simp only [aqT, aqU, aqN, aqS, ↓seqK, ↓blkK, ↓loopK, step, stepBin, Nat.add_assoc nid, ↓reduceIte, Option.toList, ← Int.ofNat_tmod, ← Int.ofNat_tdiv, simprocAttr, BEq.rfl, LN_succ]) (subH_get (by simp only [aqT, aqU, aqN, aqS, ↓seqK, ↓blkK, ↓loopK, step, stepBin, Nat.add_assoc nid, ↓reduceIte, Option.toList, ← Int.ofNat_tmod, ← Int.ofNat_tdiv, simprocAttr, BEq.rfl, LN_succ])))))) ?_
      simp -dsimp only [aqT, aqU, aqN, aqS, ↓seqK, ↓blkK, ↓loopK, step, stepBin, Nat.add_assoc nid, ↓reduceIte, Option.toList, ← Int.ofNat_tmod, ← Int.ofNat_tdiv, simprocAttr, BEq.rfl, LN_succ]
      refine ⟨k + 1, ⟨by omega, by omega⟩, Cov.go [(nid + 24, nid + 4008)] [] ?_⟩
      simp [cvT, step, res, boxW, boxL, arrPl, arrFr, arrBl, -List.getD_eq_getElem?_getD]
    · have hkN : k = manyR W := by
        rcases (by omega : k < manyR W ∨ k = manyR W) with e | e
        · have h2 := List.length_pos_iff.2 (hmok.2 k e)
          omega
        · exact e
      subst hkN
      refine ⟨(), Cov.go [] [] ?_⟩
      simp [cvT, step, res, boxW, boxL, arrPl, arrFr, arrBl, -List.getD_eq_getElem?_getD]
  · refine SR.run (t := .mk) ?_
    unfold arrFr arrBl
    simp -dsimp only [aqT, aqU, aqN, aqS, ↓seqK, ↓blkK, ↓loopK, step, stepBin, Nat.add_assoc nid, ↓reduceIte, Option.toList, ← Int.ofNat_tmod, ← Int.ofNat_tdiv, simprocAttr, BEq.rfl, LN_succ]
    refine RetOK.go [(nid, nid + 4), (nid + 1, nid + 8)] [] (.inl rfl) ?_
    simp [a19, cvT, step, res, -List.getD_eq_getElem?_getD]
end Go.Proofs.YtmgfcjblclanmaaGreat
namespace Go.Proofs.YtmgfcjblclanmaaGreat
open Go.RowKit
theorem turnRs_take (W : Waf) {x : Nat} (h : x < wideOf W) : (turnRs W).take (x + 1) = (turnRs W).take x ++ [turnR W x] := by
  refine take_snoc ?_
  unfold turnRs
  rw [List.getElem?_map, List.getElem?_range h]
  rfl
theorem turnR_take (W : Waf) (x : Nat) {y : Nat} (h : y < W.rows.length) : (turnR W x).take (y + 1) = (turnR W x).take y ++ [(W.rows.getD (W.rows.length - 1 - y) []).getD x 0] := by
  refine take_snoc ?_
  have := turnR_at W x h
  rw [List.getD_eq_getElem?_getD, List.getElem?_eq_getElem (by rw [turnR_len]; exact h)] at this
  rw [List.getElem?_eq_getElem (by rw [turnR_len]; exact h)]
  simpa using this
def boxS (nm : Nat) (l : List (List UInt8)) (pass : List UInt8) : Option ABlk := some (.box 28 [.sl nm 0 l.length, .str pass])
set_option maxHeartbeats 8000000 in
theorem turnedW_c (nl : Bool) (W : Waf) (nid : Nat) (h : waferV W = 0) (hp : W.pass.length ≤ 1000000) : ACall Tryz.prog 11 [wafP nl W] [] nid (.tup [.agg [.sl nid 0 (turnRs W).length, .str W.pass], .int .i64 0]) [(nid, arrS (turnRs W))] := by
  have hW := waferV_ok h
  have hl := hW.len
  have hps := hW.pos
  have hww := hW.wide
  have hrl := turnRs_len W
  refine acall_sr c11 (by simp [a11]) ?_
  unfold a11 wafP
  refine SR.seq ?_
  simp -dsimp only [aqT, aqU, aqN, aqS, ↓seqK, ↓blkK, ↓loopK, step, stepBin, Nat.add_assoc nid, ↓reduceIte, Option.toList, ← Int.ofNat_tmod, ← Int.ofNat_tdiv, simprocAttr, BEq.rfl, LN_succ]
  refine SR.seqTo ⟨[(1, .ptr nid 0), (2, .ptr (nid + 4) 0), (3, .int .i64 0)], [(nid, boxW nl W), (nid + 4, some (.box 28 [.lit true 0 [], .str []]))], nid + 100, nid⟩ ?_ ?_
  · simp -dsimp only [aqT, aqU, aqN, aqS, ↓seqK, ↓blkK, ↓loopK, step, stepBin, Nat.add_assoc nid, ↓reduceIte, Option.toList, ← Int.ofNat_tmod, ← Int.ofNat_tdiv, simprocAttr, BEq.rfl, LN_succ]
    refine CallO.pure (checkWafer_all nl W _ (hW.bd hp)) ?_
    rw [h]
    simp -dsimp only [aqT, aqU, aqN, aqS, ↓seqK, ↓blkK, ↓loopK, step, stepBin, Nat.add_assoc nid, ↓reduceIte, Option.toList, ← Int.ofNat_tmod, ← Int.ofNat_tdiv, simprocAttr, BEq.rfl, LN_succ]
    refine Cov.go [] [] ?_
    simp [cvT, step, res, boxW]
  refine SR.seq ?_
  unfold boxW
  simp -dsimp only [aqT, aqU, aqN, aqS, ↓seqK, ↓blkK, ↓loopK, step, stepBin, Nat.add_assoc nid, ↓reduceIte, Option.toList, ← Int.ofNat_tmod, ← Int.ofNat_tdiv, simprocAttr, BEq.rfl, LN_succ]
  refine SR.seqTo ⟨[(5, .ptr (nid + 8) 0), (2, .ptr (nid + 4) 0), (3, .int .i64 0)], [(nid + 4, some (.box 28 [.lit true 0 [], .str []])), (nid + 8, boxS (nid + 12) (turnRs W) W.pass), (nid + 12, arrS (turnRs W))], nid + 9000, nid⟩ ?_ ?_
  · simp -dsimp only [aqT, aqU, aqN, aqS, ↓seqK, ↓blkK, ↓loopK, step, stepBin, Nat.add_assoc nid, ↓reduceIte, Option.toList, ← Int.ofNat_tmod, ← Int.ofNat_tdiv, simprocAttr, BEq.rfl, LN_succ]
    refine ⟨by omega, ?_⟩
    have h0 : (W.rows.getD 0 []).length = wideOf W := rfl
    rw [h0]
    refine LP.mkP (fun x : Nat => x ≤ wideOf W) (fun x : Nat => ⟨[(23, .int .i64 x), (22, .int .i64 (wideOf W : Nat)), (5, .ptr (nid + 8) 0), (1, .ptr nid 0), (2, .ptr (nid + 4) 0), (3, .int .i64 0)], [(nid, boxW nl W), (nid + 4, some (.box 28 [.lit true 0 [], .str []])), (nid + 8, boxS (nid + 12) ((turnRs W).take x) W.pass), (nid + 12, arrS ((turnRs W).take x))], nid + 1000, nid⟩) (fun x => wideOf W + 1 - x) 0 (by omega) (Cov.go [(nid + 8, nid + 112)] [(nid + 12, 1)] ?_) (fun x hx => ?_)
    · simp [cvT, step, res, boxW, boxS, arrS]
    have hxl : ((turnRs W).take x).length = x := by rw [List.length_take]; omega
    unfold boxW boxS arrS
    rw [hxl]
    simp -dsimp only [aqT, aqU, aqN, aqS, ↓seqK, ↓blkK, ↓loopK, step, stepBin, Nat.add_assoc nid, ↓reduceIte, Option.toList, ← Int.ofNat_tmod, ← Int.ofNat_tdiv, simprocAttr, BEq.rfl, LN_succ]
    refine S2.dec (fun h1 => ?_) (fun h1 => ?_) <;> simp -dsimp only [aqT, aqU, aqN, aqS, ↓seqK, ↓blkK, ↓loopK, step, stepBin, Nat.add_assoc nid, ↓reduceIte, Option.toList, ← Int.ofNat_tmod, ← Int.ofNat_tdiv, simprocAttr, BEq.rfl, LN_succ]
    · have hxw : x < wideOf W := by omega
      have htk := turnRs_take W hxw
      have hRl := turnR_len W x
      have hRt := fun y hy => turnR_take W x (y := y) hy
      have hRc : ∀ y, y < W.rows.length → (W.rows.getD y []).length = wideOf W := fun y hy => (hW.at hy).1
      generalize turnR W x = R at *
      generalize (turnRs W).take x = T at *
      refine ⟨by unfold inI64; omega, ?_⟩
      refine LP.mkP (fun y : Nat => y ≤ W.rows.length) (fun y : Nat => ⟨[(8, .int .i64 ((W.rows.length : Int) - 1 - y)), (7, .sl (nid + 16) 0 (R.take y).length), (6, .int .i64 x), (23, .int .i64 x), (22, .int .i64 (wideOf W : Nat)), (5, .ptr (nid + 8) 0), (1, .ptr nid 0), (2, .ptr (nid + 4) 0), (3, .int .i64 0)], [(nid, boxW nl W), (nid + 4, some (.box 28 [.lit true 0 [], .str []])), (nid + 8, boxS (nid + 12) T W.pass), (nid + 12, arrS T), (nid + 16, some (.arr 5 (R.take y).length [.i .u8 fun i => ((((R.take y).getD i 0).toNat : Nat) : Int)]))], nid + 2000, nid⟩) (fun y => W.rows.length + 1 - y) 0 (by omega) (Cov.go [] [(nid + 16, 1)] ?_) (fun y hy => ?_)
      · simp [cvT, step, res, boxW, boxS, arrS, hxl]
      have hyl : (R.take y).length = y := by rw [List.length_take]; omega
      unfold boxW boxS arrS
      simp -dsimp only [aqT, aqU, aqN, aqS, ↓seqK, ↓blkK, ↓loopK, step, stepBin, Nat.add_assoc nid, ↓reduceIte, Option.toList, ← Int.ofNat_tmod, ← Int.ofNat_tdiv, simprocAttr, BEq.rfl, LN_succ]
      refine S2.dec (fun h2 => ?_) (fun h2 => ?_) <;> simp -dsimp only [aqT, aqU, aqN, aqS, ↓seqK, ↓blkK, ↓loopK, step, stepBin, Nat.add_assoc nid, ↓reduceIte, Option.toList, ← Int.ofNat_tmod, ← Int.ofNat_tdiv, simprocAttr, BEq.rfl, LN_succ]
      · have e1 : ((W.rows.length : Int) - 1 - y).toNat = W.rows.length - 1 - y := by omega
        have hrow := hRc (W.rows.length - 1 - y) (by omega)
        have hst := hRt y (by omega)
        simp only [e1]
        generalize W.rows.getD (W.rows.length - 1 - y) [] = row at *
        rw [getD_appU (R.take y) (row.getD x 0) rfl, ← hst]
        have hyl2 : (R.take (y + 1)).length = y + 1 := by rw [List.length_take]; omega
        refine ⟨⟨by omega, by omega⟩, ⟨by omega, by omega⟩, ⟨by omega, by omega⟩, by unfold inI64; omega, y + 1, ⟨by omega, by omega⟩, Cov.go [(nid + 16, nid + 2044)] [] ?_⟩
        simp [cvT, step, res, boxW, boxS, arrS, hxl, hyl, hyl2, -List.getD_eq_getElem?_getD]
        omega
      · have hyn : y = W.rows.length := by omega
        subst hyn
        have hR : R.take W.rows.length = R := List.take_of_length_le (by omega)
        rw [hR, bytes_list rfl, getD_app1 T R rfl]
        refine ⟨⟨by omega, by omega⟩, by unfold inI64; omega, x + 1, ⟨by omega, by omega⟩, Cov.go [(nid + 12, nid + 2028)] [] ?_⟩
        simp [cvT, step, res, boxW, boxS, arrS, hxl, htk, -List.getD_eq_getElem?_getD]
    · have hxn : x = wideOf W := by omega
      subst hxn
      have hT : (turnRs W).take (wideOf W) = turnRs W := List.take_of_length_le (by omega)
      rw [hT]
      refine Cov.go [] [] ?_
      simp [cvT, step, res, boxW, boxS, arrS, hrl, -List.getD_eq_getElem?_getD]
  refine SR.run (t := .mk) ?_
  unfold boxS arrS
  simp -dsimp only [aqT, aqU, aqN, aqS, ↓seqK, ↓blkK, ↓loopK, step, stepBin, Nat.add_assoc nid, ↓reduceIte, Option.toList, ← Int.ofNat_tmod, ← Int.ofNat_tdiv, simprocAttr, BEq.rfl, LN_succ]
  refine RetOK.go [(nid, nid + 12)] [] (.inl rfl) ?_
  simp [cvT, step, res, arrS, -List.getD_eq_getElem?_getD]
end Go.Proofs.YtmgfcjblclanmaaGreat
