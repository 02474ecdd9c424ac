/-
  Ink of a right wafer, by the abstract machine.
-/
import Derived.Test.YtmgfcjblclanmaaGreatWAN5
import Derived.Test.YtmgfcjblclanmaaGreatWAN4
import Derived.Test.YtmgfcjblclanmaaGreatWAN3
import Derived.Test.YtmgfcjblclanmaaGreatProg
import Derived.Test.YtmgfcjblclanmaaGreatChecked
import Derived.Handed
import Derived.HandedShaped
import Derived.Shelf.Vars
import Derived.KernelRfl
set_option linter.unusedVariables false
set_option linter.unusedSimpArgs false
set_option maxRecDepth 100000
namespace Go.Proofs.YtmgfcjblclanmaaGreat
open Go.RowKit
set_option maxHeartbeats 4000000 in
theorem ink_all (nl : Bool) (W : Waf) (m : Nat) (nid : Nat) (h : waferV W = 0) (hp : W.pass.length ≤ 1000000) (h1 : 1 ≤ m) (h8 : m ≤ 8) : ACall Tryz.prog 8 [wafP nl W, .int .i64 (m : Nat)] [] nid (.tup [.agg [.sl nid 0 W.rows.length, .str W.pass], .int .i64 (cntN (inkAt W m) (plV W) : Nat), .int .i64 0]) [(nid, arrS (inkRs W m))] := by
  have hW := waferV_ok h
  have ho : outB (m : Int) 1 8 = false := by unfold outB; simp; omega
  refine acall_run c8 (by simp [a8]) ?_
  unfold wafP
  simp -dsimp only [a8, aqT, aqU, aqN, aqS, ↓seqK, ↓blkK, ↓loopK, step, stepBin, Nat.add_assoc nid, ↓reduceIte, Option.toList, ← Int.ofNat_tmod, ← Int.ofNat_tdiv, simprocAttr, BEq.rfl, LN_succ]
  refine CallO.pure (checkWafer_all nl W _ (hW.bd hp)) ?_
  rw [h]
  simp -dsimp only [aqT, aqU, aqN, aqS, ↓seqK, ↓blkK, ↓loopK, step, stepBin, Nat.add_assoc nid, ↓reduceIte, Option.toList, ← Int.ofNat_tmod, ← Int.ofNat_tdiv, simprocAttr, BEq.rfl, LN_succ]
  refine CallO.pure (out_c _ _ _ _) ?_
  rw [ho]
  simp -dsimp only [aqT, aqU, aqN, aqS, ↓seqK, ↓blkK, ↓loopK, step, stepBin, Nat.add_assoc nid, ↓reduceIte, Option.toList, ← Int.ofNat_tmod, ← Int.ofNat_tdiv, simprocAttr, BEq.rfl, LN_succ]
  refine CallO.on (changedInk_c nid (nid + 4) (nid + 48) nl nl W m _ (by omega) (by omega) (by omega) (by omega) (by omega) (by omega) hW) (subH_cons (by simp only [aqT, aqU, aqN, aqS, ↓seqK, ↓blkK, ↓loopK, step, stepBin, Nat.add_assoc nid, ↓reduceIte, Option.toList, ← Int.ofNat_tmod, ← Int.ofNat_tdiv, simprocAttr, BEq.rfl, LN_succ, boxW]) (subH_cons (by simp only [aqT, aqU, aqN, aqS, ↓seqK, ↓blkK, ↓loopK, step, stepBin, Nat.add_assoc nid, ↓reduceIte, Option.toList, ← Int.ofNat_tmod, ← Int.ofNat_tdiv, simprocAttr, BEq.rfl, LN_succ, boxI]) (subH_get (by simp only [aqT, aqU, aqN, aqS, ↓seqK, ↓blkK, ↓loopK, step, stepBin, Nat.add_assoc nid, ↓reduceIte, Option.toList, ← Int.ofNat_tmod, ← Int.ofNat_tdiv, simprocAttr, BEq.rfl, LN_succ, boxI])))) ?_
  unfold boxW boxI arrS
  simp -dsimp only [aqT, aqU, aqN, aqS, ↓seqK, ↓blkK, ↓loopK, step, stepBin, Nat.add_assoc nid, ↓reduceIte, Option.toList, ← Int.ofNat_tmod, ← Int.ofNat_tdiv, simprocAttr, BEq.rfl, LN_succ]
  refine RetOK.go [(nid, nid + 64)] [] (.inl rfl) ?_
  simp [a8, cvT, step, res, arrS, -List.getD_eq_getElem?_getD]
end Go.Proofs.YtmgfcjblclanmaaGreat
namespace Go.Proofs.YtmgfcjblclanmaaGreat
open Go.RowKit
theorem clusters_bad (nl : Bool) (W : Waf) (x : Int) (nid : Nat) (hW : WafBd W) (h : waferV W ≠ 0) : ACall Tryz.prog 7 [wafP nl W, .int .i64 x] [] nid (.tup [.lit true 0 [], .int .i64 (waferV W)]) [] := by
  have hc := fun k => checkWafer_all nl W k hW
  have hb : (waferV W != 0) = true := by simpa using h
  generalize waferV W = v at *
  refine acall_run c7 (by simp [a7]) ?_
  unfold wafP at *
  simp -dsimp only [aqT, aqU, aqN, aqS, ↓seqK, ↓blkK, ↓loopK, step, stepBin, Nat.add_assoc nid, ↓reduceIte, Option.toList, ← Int.ofNat_tmod, ← Int.ofNat_tdiv, simprocAttr, BEq.rfl, LN_succ, a7]
  refine CallO.pure (hc _) ?_
  simp -dsimp only [aqT, aqU, aqN, aqS, ↓seqK, ↓blkK, ↓loopK, step, stepBin, Nat.add_assoc nid, ↓reduceIte, Option.toList, ← Int.ofNat_tmod, ← Int.ofNat_tdiv, simprocAttr, BEq.rfl, LN_succ, hb]
  refine RetOK.pure (.inl rfl) rfl ?_
  simp [cvT, step, res]
theorem clusters_arg (nl : Bool) (W : Waf) (x : Int) (nid : Nat) (hW : WafBd W) (h : waferV W = 0) (ho : outB x 1 3600 = true) : ACall Tryz.prog 7 [wafP nl W, .int .i64 x] [] nid (.tup [.lit true 0 [], .int .i64 1]) [] := by
  have hc := fun k => checkWafer_all nl W k hW
  rw [h] at hc
  refine acall_run c7 (by simp [a7]) ?_
  unfold wafP at *
  simp -dsimp only [aqT, aqU, aqN, aqS, ↓seqK, ↓blkK, ↓loopK, step, stepBin, Nat.add_assoc nid, ↓reduceIte, Option.toList, ← Int.ofNat_tmod, ← Int.ofNat_tdiv, simprocAttr, BEq.rfl, LN_succ, a7]
  refine CallO.pure (hc _) ?_
  simp -dsimp only [aqT, aqU, aqN, aqS, ↓seqK, ↓blkK, ↓loopK, step, stepBin, Nat.add_assoc nid, ↓reduceIte, Option.toList, ← Int.ofNat_tmod, ← Int.ofNat_tdiv, simprocAttr, BEq.rfl, LN_succ]
  refine CallO.pure (out_c _ _ _ _) ?_
  rw [ho]
  simp -dsimp only [aqT, aqU, aqN, aqS, ↓seqK, ↓blkK, ↓loopK, step, stepBin, Nat.add_assoc nid, ↓reduceIte, Option.toList, ← Int.ofNat_tmod, ← Int.ofNat_tdiv, simprocAttr, BEq.rfl, LN_succ]
  refine RetOK.pure (.inl rfl) rfl ?_
  simp [cvT, step, res]
theorem ink_bad (nl : Bool) (W : Waf) (x : Int) (nid : Nat) (hW : WafBd W) (h : waferV W ≠ 0) : ACall Tryz.prog 8 [wafP nl W, .int .i64 x] [] nid (.tup [.agg [.lit true 0 [], .str []], .int .i64 0, .int .i64 (waferV W)]) [] := by
  have hc := fun k => checkWafer_all nl W k hW
  have hb : (waferV W != 0) = true := by simpa using h
  generalize waferV W = v at *
  refine acall_run c8 (by simp [a8]) ?_
  unfold wafP at *
  simp -dsimp only [aqT, aqU, aqN, aqS, ↓seqK, ↓blkK, ↓loopK, step, stepBin, Nat.add_assoc nid, ↓reduceIte, Option.toList, ← Int.ofNat_tmod, ← Int.ofNat_tdiv, simprocAttr, BEq.rfl, LN_succ, a8]
  refine CallO.pure (hc _) ?_
  simp -dsimp only [aqT, aqU, aqN, aqS, ↓seqK, ↓blkK, ↓loopK, step, stepBin, Nat.add_assoc nid, ↓reduceIte, Option.toList, ← Int.ofNat_tmod, ← Int.ofNat_tdiv, simprocAttr, BEq.rfl, LN_succ, hb]
  refine RetOK.go [] [] (.inl rfl) ?_
  simp [a8, cvT, step, res]
theorem ink_arg (nl : Bool) (W : Waf) (x : Int) (nid : Nat) (hW : WafBd W) (h : waferV W = 0) (ho : outB x 1 8 = true) : ACall Tryz.prog 8 [wafP nl W, .int .i64 x] [] nid (.tup [.agg [.lit true 0 [], .str []], .int .i64 0, .int .i64 1]) [] := by
  have hc := fun k => checkWafer_all nl W k hW
  rw [h] at hc
  refine acall_run c8 (by simp [a8]) ?_
  unfold wafP at *
  simp -dsimp only [aqT, aqU, aqN, aqS, ↓seqK, ↓blkK, ↓loopK, step, stepBin, Nat.add_assoc nid, ↓reduceIte, Option.toList, ← Int.ofNat_tmod, ← Int.ofNat_tdiv, simprocAttr, BEq.rfl, LN_succ, a8]
  refine CallO.pure (hc _) ?_
  simp -dsimp only [aqT, aqU, aqN, aqS, ↓seqK, ↓blkK, ↓loopK, step, stepBin, Nat.add_assoc nid, ↓reduceIte, Option.toList, ← Int.ofNat_tmod, ← Int.ofNat_tdiv, simprocAttr, BEq.rfl, LN_succ]
  refine CallO.pure (out_c _ _ _ _) ?_
  rw [ho]
  simp -dsimp only [aqT, aqU, aqN, aqS, ↓seqK, ↓blkK, ↓loopK, step, stepBin, Nat.add_assoc nid, ↓reduceIte, Option.toList, ← Int.ofNat_tmod, ← Int.ofNat_tdiv, simprocAttr, BEq.rfl, LN_succ]
  refine RetOK.go [] [] (.inl rfl) ?_
  simp [a8, cvT, step, res]
theorem edge_bad (nl : Bool) (W : Waf) (nid : Nat) (hW : WafBd W) (h : waferV W ≠ 0) : ACall Tryz.prog 9 [wafP nl W] [] nid (.tup [.lit true 0 [], .int .i64 (waferV W)]) [] := by
  have hc := fun k => checkWafer_all nl W k hW
  have hb : (waferV W != 0) = true := by simpa using h
  generalize waferV W = v at *
  refine acall_run c9 (by simp [a9]) ?_
  unfold wafP at *
  simp -dsimp only [aqT, aqU, aqN, aqS, ↓seqK, ↓blkK, ↓loopK, step, stepBin, Nat.add_assoc nid, ↓reduceIte, Option.toList, ← Int.ofNat_tmod, ← Int.ofNat_tdiv, simprocAttr, BEq.rfl, LN_succ, a9]
  refine CallO.pure (hc _) ?_
  simp -dsimp only [aqT, aqU, aqN, aqS, ↓seqK, ↓blkK, ↓loopK, step, stepBin, Nat.add_assoc nid, ↓reduceIte, Option.toList, ← Int.ofNat_tmod, ← Int.ofNat_tdiv, simprocAttr, BEq.rfl, LN_succ, hb]
  refine RetOK.go [] [] (.inl rfl) ?_
  simp [a9, cvT, step, res]
theorem rings_bad (nl : Bool) (W : Waf) (nid : Nat) (hW : WafBd W) (h : waferV W ≠ 0) : ACall Tryz.prog 10 [wafP nl W] [] nid (.tup [.lit true 0 [], .lit true 0 [], .int .i64 (waferV W)]) [] := by
  have hc := fun k => checkWafer_all nl W k hW
  have hb : (waferV W != 0) = true := by simpa using h
  generalize waferV W = v at *
  refine acall_run c10 (by simp [a10]) ?_
  unfold wafP at *
  simp -dsimp only [aqT, aqU, aqN, aqS, ↓seqK, ↓blkK, ↓loopK, step, stepBin, Nat.add_assoc nid, ↓reduceIte, Option.toList, ← Int.ofNat_tmod, ← Int.ofNat_tdiv, simprocAttr, BEq.rfl, LN_succ, a10]
  refine CallO.pure (hc _) ?_
  simp -dsimp only [aqT, aqU, aqN, aqS, ↓seqK, ↓blkK, ↓loopK, step, stepBin, Nat.add_assoc nid, ↓reduceIte, Option.toList, ← Int.ofNat_tmod, ← Int.ofNat_tdiv, simprocAttr, BEq.rfl, LN_succ, hb]
  refine RetOK.go [] [] (.inl rfl) ?_
  simp [a10, cvT, step, res]
theorem turned_bad (nl : Bool) (W : Waf) (nid : Nat) (hW : WafBd W) (h : waferV W ≠ 0) : ACall Tryz.prog 11 [wafP nl W] [] nid (.tup [.agg [.lit true 0 [], .str []], .int .i64 (waferV W)]) [] := by
  have hc := fun k => checkWafer_all nl W k hW
  have hb : (waferV W != 0) = true := by simpa using h
  generalize waferV W = v at *
  refine acall_run c11 (by simp [a11]) ?_
  unfold wafP at *
  simp -dsimp only [aqT, aqU, aqN, aqS, ↓seqK, ↓blkK, ↓loopK, step, stepBin, Nat.add_assoc nid, ↓reduceIte, Option.toList, ← Int.ofNat_tmod, ← Int.ofNat_tdiv, simprocAttr, BEq.rfl, LN_succ, a11]
  refine CallO.pure (hc _) ?_
  simp -dsimp only [aqT, aqU, aqN, aqS, ↓seqK, ↓blkK, ↓loopK, step, stepBin, Nat.add_assoc nid, ↓reduceIte, Option.toList, ← Int.ofNat_tmod, ← Int.ofNat_tdiv, simprocAttr, BEq.rfl, LN_succ, hb]
  refine RetOK.go [] [] (.inl rfl) ?_
  simp [a11, cvT, step, res]
end Go.Proofs.YtmgfcjblclanmaaGreat
namespace Go.Proofs.YtmgfcjblclanmaaGreat
open Go.RowKit
def setPt (R : List (List UInt8)) (c : UInt8) (p : Pt) : List (List UInt8) := R.set p.2.toNat ((R.getD p.2.toNat []).set p.1.toNat c)
def withTo (R : List (List UInt8)) (l : List Pt) (c : UInt8) (k : Nat) : List (List UInt8) := (l.take k).foldl (fun R p => setPt R c p) R
theorem withTo_succ (R : List (List UInt8)) {l : List Pt} (c : UInt8) {k : Nat} (h : k < l.length) : withTo R l c (k + 1) = setPt (withTo R l c k) c (l.getD k p0) := by
  unfold withTo
  rw [take_snoc (x := l.getD k p0) (by rw [List.getD_eq_getElem?_getD, List.getElem?_eq_getElem h]; rfl), List.foldl_append]
  rfl
theorem setPt_len (R : List (List UInt8)) (c : UInt8) (p : Pt) : (setPt R c p).length = R.length := by simp [setPt]
theorem setPt_row (R : List (List UInt8)) (c : UInt8) (p : Pt) (y : Nat) : ((setPt R c p).getD y []).length = (R.getD y []).length := by
  unfold setPt
  rw [List.getD_eq_getElem?_getD, List.getElem?_set]
  by_cases h : p.2.toNat = y
  · subst h
    by_cases h2 : p.2.toNat < R.length
    · simp [h2]
    · simp [h2]
  · rw [if_neg h, List.getD_eq_getElem?_getD]
theorem setPt_at (R : List (List UInt8)) (c : UInt8) (p : Pt) {y x : Nat} (hy : y < R.length) (hx : x < (R.getD y []).length) : ((setPt R c p).getD y []).getD x 0 = if p.1.toNat = x ∧ p.2.toNat = y then c else (R.getD y []).getD x 0 := by
  unfold setPt
  rw [List.getD_eq_getElem?_getD (l := R.set _ _), List.getElem?_set]
  by_cases h : p.2.toNat = y
  · subst h
    rw [if_pos rfl, if_pos hy]
    simp only [Option.getD_some]
    rw [List.getD_eq_getElem?_getD, List.getElem?_set]
    by_cases h2 : p.1.toNat = x
    · subst h2
      rw [if_pos rfl, if_pos hx, if_pos (by simp)]
      rfl
    · rw [if_neg h2, if_neg (fun e => h2 e.1), List.getD_eq_getElem?_getD (i := x)]
  · rw [if_neg h, if_neg (fun e => h e.2), List.getD_eq_getElem?_getD (l := R)]
theorem withTo_len (R : List (List UInt8)) (l : List Pt) (c : UInt8) : ∀ k, k ≤ l.length → (withTo R l c k).length = R.length
  | 0, _ => by simp [withTo]
  | k + 1, h => by rw [withTo_succ R c (by omega), setPt_len, withTo_len R l c k (by omega)]
theorem withTo_row (R : List (List UInt8)) (l : List Pt) (c : UInt8) (y : Nat) : ∀ k, k ≤ l.length → ((withTo R l c k).getD y []).length = (R.getD y []).length
  | 0, _ => by simp [withTo]
  | k + 1, h => by rw [withTo_succ R c (by omega), setPt_row, withTo_row R l c y k (by omega)]
theorem withTo_at (R : List (List UInt8)) (l : List Pt) (c : UInt8) {y x : Nat} (hy : y < R.length) (hx : x < (R.getD y []).length) (hl : ∀ p ∈ l, 0 ≤ p.1 ∧ 0 ≤ p.2) : ∀ k, k ≤ l.length → ((withTo R l c k).getD y []).getD x 0 = if ((x : Int), (y : Int)) ∈ l.take k then c else (R.getD y []).getD x 0
  | 0, _ => by simp [withTo]
  | k + 1, h => by
    have hk : k < l.length := by omega
    have ht : l.take (k + 1) = l.take k ++ [l.getD k p0] := take_snoc (by rw [List.getD_eq_getElem?_getD, List.getElem?_eq_getElem hk]; rfl)
    obtain ⟨h1, h2⟩ := hl _ (ptMem' hk)
    rw [withTo_succ R c hk, setPt_at _ _ _ (by rw [withTo_len R l c k (by omega)]; exact hy) (by rw [withTo_row R l c y k (by omega)]; exact hx), withTo_at R l c hy hx hl k (by omega), ht]
    have e : ((x : Int), (y : Int)) = l.getD k p0 ↔ (l.getD k p0).1.toNat = x ∧ (l.getD k p0).2.toNat = y := by
      rw [Prod.ext_iff]
      simp only
      omega
    by_cases hp : (l.getD k p0).1.toNat = x ∧ (l.getD k p0).2.toNat = y
    · rw [if_pos hp, if_pos (List.mem_append.2 (.inr (by rw [List.mem_singleton]; exact e.2 hp)))]
    · rw [if_neg hp]
      by_cases hm : ((x : Int), (y : Int)) ∈ l.take k
      · rw [if_pos hm, if_pos (List.mem_append.2 (.inl hm))]
      · rw [if_neg hm, if_neg (fun hh => by
          rcases List.mem_append.1 hh with hh | hh
          · exact hm hh
          · rw [List.mem_singleton] at hh
            exact hp (e.1 hh))]
theorem map_setB (r : List UInt8) (x : Nat) (c : UInt8) : ((List.range r.length).map fun i => UInt8.ofNat (if i = x then ((c.toNat : Nat) : Int) else (((r.getD i 0).toNat : Nat) : Int)).toNat) = r.set x c := by
  apply List.ext_getElem
  · simp
  · intro i h1 h2
    simp only [List.length_set] at h2
    rw [List.getElem_map, List.getElem_range, List.getElem_set]
    by_cases h : i = x
    · subst h; simp
    · rw [if_neg h, if_neg (fun e => h e.symm)]
      simp [List.getElem?_eq_getElem h2]
set_option maxHeartbeats 8000000 in
theorem with_all (nl nlp : Bool) (W : Waf) (l : List Pt) (c : UInt8) (nid : Nat) (hW : WafOk W) (hl : l.length ≤ 1000000) (hp : ∀ p ∈ l, p ∈ plV W) : ACall Tryz.prog 59 [wafP nl W, litPl nlp l, .int .u8 (c.toNat : Nat)] [] nid (.agg [.sl nid 0 W.rows.length, .str W.pass]) [(nid, arrS (withTo W.rows l c l.length))] := by
  have hwl := hW.len
  have hww := hW.wide.2
  have hnn : nl = true ∨ nl = false := by cases nl <;> simp
  have hcl := fun m => ACall.nonnil (i := 0) (nl := nl) (n := W.rows.length) (cols := [.s fun i => W.rows.getD i []]) rfl (fun h => cloneS_c nl W.rows m (by omega) (fun e => List.length_eq_zero_iff.1 (h e)))
  refine acall_sr c59 (by simp [a59]) ?_
  unfold a59 wafP litPl
  refine SR.seq ?_
  simp -dsimp only [aqT, aqU, aqN, aqS, ↓seqK, ↓blkK, ↓loopK, step, stepBin, Nat.add_assoc nid, ↓reduceIte, Option.toList, ← Int.ofNat_tmod, ← Int.ofNat_tdiv, simprocAttr, BEq.rfl, LN_succ]
  refine SR.seqTo ⟨[(7, .ptr (nid + 8) 0), (6, .ptr (nid + 4) 0), (1, litPl nlp l), (2, .int .u8 (c.toNat : Nat))], [(nid + 4, some (.box 28 [.lit true 0 [], .str []])), (nid + 8, boxS (nid + 12) W.rows W.pass), (nid + 12, arrS W.rows)], nid + 100, nid⟩ ?_ ?_
  · simp -dsimp only [aqT, aqU, aqN, aqS, ↓seqK, ↓blkK, ↓loopK, step, stepBin, Nat.add_assoc nid, ↓reduceIte, Option.toList, ← Int.ofNat_tmod, ← Int.ofNat_tdiv, simprocAttr, BEq.rfl, LN_succ]
    refine CallX.pure (hcl _) ?_
    unfold arrS
    simp -dsimp only [aqT, aqU, aqN, aqS, ↓seqK, ↓blkK, ↓loopK, step, stepBin, Nat.add_assoc nid, ↓reduceIte, Option.toList, ← Int.ofNat_tmod, ← Int.ofNat_tdiv, simprocAttr, BEq.rfl, LN_succ]
    refine Cov.go [(nid + 8, nid + 32), (nid + 12, nid + 16)] [] ?_
    simp [cvT, step, res, boxS, arrS, litPl, -List.getD_eq_getElem?_getD]
  refine SR.seqTo ⟨[(7, .ptr (nid + 8) 0), (6, .ptr (nid + 4) 0)], [(nid + 4, some (.box 28 [.lit true 0 [], .str []])), (nid + 8, boxS (nid + 12) (withTo W.rows l c l.length) W.pass), (nid + 12, arrS (withTo W.rows l c l.length))], nid + 9000, nid⟩ ?_ ?_
  · unfold boxS arrS litPl
    simp -dsimp only [aqT, aqU, aqN, aqS, ↓seqK, ↓blkK, ↓loopK, step, stepBin, Nat.add_assoc nid, ↓reduceIte, Option.toList, ← Int.ofNat_tmod, ← Int.ofNat_tdiv, simprocAttr, BEq.rfl, LN_succ]
    refine LP.mkP (fun k : Nat => k ≤ l.length) (fun k : Nat => ⟨[(19, .int .i64 k), (18, .int .i64 l.length), (17, litPl nlp l), (7, .ptr (nid + 8) 0), (6, .ptr (nid + 4) 0), (2, .int .u8 (c.toNat : Nat))], [(nid + 4, some (.box 28 [.lit true 0 [], .str []])), (nid + 8, boxS (nid + 12) (withTo W.rows l c k) W.pass), (nid + 12, arrS (withTo W.rows l c k))], nid + 1000, nid⟩) (fun k => l.length + 1 - k) 0 (by omega) (Cov.go [] [] ?_) (fun k hk => ?_)
    · simp [cvT, step, res, boxS, arrS, litPl, withTo, -List.getD_eq_getElem?_getD]
    have hRl := withTo_len W.rows l c k hk
    have hRr := fun y => withTo_row W.rows l c y k hk
    have hsu := fun h => withTo_succ W.rows (l := l) c (k := k) h
    generalize hRe : withTo W.rows l c k = R at *
    unfold boxS arrS litPl
    simp -dsimp only [aqT, aqU, aqN, aqS, ↓seqK, ↓blkK, ↓loopK, step, stepBin, Nat.add_assoc nid, ↓reduceIte, Option.toList, ← Int.ofNat_tmod, ← Int.ofNat_tdiv, simprocAttr, BEq.rfl, LN_succ]
    refine S2.dec (fun h1 => ?_) (fun h1 => ?_) <;> simp -dsimp only [aqT, aqU, aqN, aqS, ↓seqK, ↓blkK, ↓loopK, step, stepBin, Nat.add_assoc nid, ↓reduceIte, Option.toList, ← Int.ofNat_tmod, ← Int.ofNat_tdiv, simprocAttr, BEq.rfl, LN_succ]
    · have hkl : k < l.length := by omega
      obtain ⟨x, y, hxy, hy, hx⟩ := plV_mem (hp _ (ptMem' hkl))
      have hs := hsu hkl
      have hrl := (hW.at hy).1
      have hrr := hRr y
      rw [hxy] at hs ⊢
      simp only [setPt, Int.toNat_natCast] at hs
      have hR2 : (withTo W.rows l c (k + 1)).length = R.length := by rw [hs, List.length_set]
      simp only [Int.toNat_natCast]
      generalize hrw : R.getD y [] = r at *
      have hm := map_setB r x c
      rw [hm, getD_setS R (r.set x c) (by omega), ← hs]
      refine ⟨by omega, ⟨by omega, by omega⟩, by omega, ⟨by omega, by omega⟩, ⟨by omega, by omega⟩, by unfold inI64; omega, k + 1, ⟨by omega, by omega⟩, Cov.go [] [] ?_⟩
      simp [cvT, step, res, boxS, arrS, litPl, hR2, -List.getD_eq_getElem?_getD]
    · obtain rfl : k = l.length := by omega
      refine Cov.go [] [] ?_
      have hk' := hk
      simp [cvT, step, res, boxS, arrS, litPl, hRl, hRe, -List.getD_eq_getElem?_getD]
  refine SR.run (t := .mk) ?_
  have hLl := withTo_len W.rows l c l.length (Nat.le_refl _)
  unfold boxS arrS
  rw [hLl]
  simp -dsimp only [aqT, aqU, aqN, aqS, ↓seqK, ↓blkK, ↓loopK, step, stepBin, Nat.add_assoc nid, ↓reduceIte, Option.toList, ← Int.ofNat_tmod, ← Int.ofNat_tdiv, simprocAttr, BEq.rfl, LN_succ]
  refine RetOK.go [(nid, nid + 12)] [] (.inl rfl) ?_
  simp [cvT, step, res, a59, arrS, hLl, -List.getD_eq_getElem?_getD]
theorem inkedF_c (ia im : Nat) (nl : Bool) (W : Waf) (m : Nat) (p : Pt) (nid : Nat) (hia : ia < nid) (him : im < nid) (n1 : ia ≠ im) (hW : WafOk W) (hp : PtBd p) : ACall Tryz.prog 56 [.agg [.int .i64 p.1, .int .i64 p.2], .ptr ia 0, .ptr im 0] [(ia, boxW nl W), (im, boxI (m : Nat))] nid (.bool (inkAt W m p)) [] := by
  obtain ⟨a1, a2, a3, a4, a5, a6, a7, a8, a9⟩ := id_all hia; obtain ⟨b1, b2, b3, b4, b5, b6, b7, b8, b9⟩ := id_all him; have g1 : (ia == im) = false := (by simpa using n1); have g2 : (im == ia) = false := (by simpa using fun h => n1 h.symm); have m1 : ¬ im = ia := fun h => n1 h.symm
  have hpi : inI64 p.1 ∧ inI64 p.2 := by obtain ⟨h1, h2, h3, h4⟩ := hp; unfold inI64; omega
  have e : inkAt W m p = (goodP W p && decide ((m : Int) ≤ (cntN (badP W) (arV p) : Nat))) := rfl
  have hpa := fun k => passedR_all nl W p k hW hpi
  have hfa := fun k => failedAround_all nl W p k hW hp
  rw [e]
  generalize cntN (badP W) (arV p) = q at *
  refine acall_run c56 (by simp [a56]) ?_
  unfold boxW boxI
  unfold wafP at *
  simp -dsimp only [a56, aqT, aqU, aqN, aqS, ↓seqK, ↓blkK, ↓loopK, step, stepBin, Nat.add_assoc nid, ↓reduceIte, Option.toList, ← Int.ofNat_tmod, ← Int.ofNat_tdiv, simprocAttr, BEq.rfl, LN_succ, a1, a2, a3, a4, a5, a6, a7, a8, a9, b1, b2, b3, b4, b5, b6, b7, b8, b9, g1, g2, n1, m1]
  refine CallX.pure (hpa _) ?_
  cases h : goodP W p <;> simp -dsimp only [aqT, aqU, aqN, aqS, ↓seqK, ↓blkK, ↓loopK, step, stepBin, Nat.add_assoc nid, ↓reduceIte, Option.toList, ← Int.ofNat_tmod, ← Int.ofNat_tdiv, simprocAttr, BEq.rfl, LN_succ, a1, a2, a3, a4, a5, a6, a7, a8, a9, b1, b2, b3, b4, b5, b6, b7, b8, b9, g1, g2, n1, m1]
  · refine RetOK.go [] [] (.inl rfl) ?_
    simp [a56, cvT, step, res, a1, a2, a3, a4, a5, a6, a7, a8, a9, b1, b2, b3, b4, b5, b6, b7, b8, b9, g1, g2, n1, m1]
  · refine CallX.pure (hfa _) ?_
    simp -dsimp only [aqT, aqU, aqN, aqS, ↓seqK, ↓blkK, ↓loopK, step, stepBin, Nat.add_assoc nid, ↓reduceIte, Option.toList, ← Int.ofNat_tmod, ← Int.ofNat_tdiv, simprocAttr, BEq.rfl, LN_succ, a1, a2, a3, a4, a5, a6, a7, a8, a9, b1, b2, b3, b4, b5, b6, b7, b8, b9, g1, g2, n1, m1]
    refine RetOK.go [] [] (.inl rfl) ?_
    simp [a56, cvT, step, res, a1, a2, a3, a4, a5, a6, a7, a8, a9, b1, b2, b3, b4, b5, b6, b7, b8, b9, g1, g2, n1, m1]
theorem inkedR_all (nl : Bool) (W : Waf) (m : Nat) (nid : Nat) (hW : WafOk W) : ACall Tryz.prog 18 [wafP nl W, .int .i64 (m : Nat)] [] nid (.tup [.agg [.sl nid 0 W.rows.length, .str W.pass], .int .i64 (cntN (inkAt W m) (plV W) : Nat)]) [(nid, arrS (withTo W.rows ((plV W).filter (inkAt W m)) 42 ((plV W).filter (inkAt W m)).length))] := by
  have hcn : cntN (inkAt W m) (plV W) = ((plV W).filter (inkAt W m)).length := List.countP_eq_length_filter
  have hpb := plTo_bd hW (Nat.le_refl _)
  have hfl := List.length_filter_le (inkAt W m) (plV W)
  have hlen : ((plV W).filter (inkAt W m)).length ≤ 1000000 := by unfold plV at *; omega
  have hwi := fun nlp k => with_all nl nlp W ((plV W).filter (inkAt W m)) 42 k hW hlen (fun p hp => (List.mem_filter.1 hp).1)
  have hpl := fun f caps Hs k => placesR_h f caps Hs (inkAt W m) nl W k hW
  have hwl := fun k (hk : k ≤ ((plV W).filter (inkAt W m)).length) => withTo_len W.rows ((plV W).filter (inkAt W m)) 42 k hk
  rw [hcn]
  generalize (plV W).filter (inkAt W m) = L at *
  have hLl := hwl L.length (Nat.le_refl _)
  generalize withTo W.rows L 42 L.length = R at *
  refine acall_sr c18 (by simp [a18]) ?_
  unfold a18
  unfold wafP litPl at *
  refine SR.seq ?_
  simp -dsimp only [aqT, aqU, aqN, aqS, ↓seqK, ↓blkK, ↓loopK, step, stepBin, Nat.add_assoc nid, ↓reduceIte, Option.toList, ← Int.ofNat_tmod, ← Int.ofNat_tdiv, simprocAttr, BEq.rfl, LN_succ]
  refine SR.seqTo ⟨[(6, .sl (nid + 8) 0 L.length), (2, .ptr nid 0), (4, .ptr (nid + 4) 0)], [(nid, boxW nl W), (nid + 4, some (.box 28 [.lit true 0 [], .str []])), (nid + 8, arrPl L)], nid + 200, nid⟩ ?_ ?_
  · simp -dsimp only [aqT, aqU, aqN, aqS, ↓seqK, ↓blkK, ↓loopK, step, stepBin, Nat.add_assoc nid, ↓reduceIte, Option.toList, ← Int.ofNat_tmod, ← Int.ofNat_tdiv, simprocAttr, BEq.rfl, LN_succ]
    refine CallO.on (hpl 56 [.ptr nid 0, .ptr (nid + 4) 0] [(nid, boxW nl W), (nid + 4, boxI (m : Nat))] _ (scp2 (by omega) (by omega) rfl rfl) (by simp [idsOfs, idsOf, lowAll]) (fun p hp nid' h' => inkedF_c nid (nid + 4) nl W m p nid' (by omega) (by omega) (by omega) hW (plV_bd hW hp))) (subH_cons (by simp only [aqT, aqU, aqN, aqS, ↓seqK, ↓blkK, ↓loopK, step, stepBin, Nat.add_assoc nid, ↓reduceIte, Option.toList, ← Int.ofNat_tmod, ← Int.ofNat_tdiv, simprocAttr, BEq.rfl, LN_succ, boxW]) (subH_get (by simp only [aqT, aqU, aqN, aqS, ↓seqK, ↓blkK, ↓loopK, step, stepBin, Nat.add_assoc nid, ↓reduceIte, Option.toList, ← Int.ofNat_tmod, ← Int.ofNat_tdiv, simprocAttr, BEq.rfl, LN_succ, boxI]))) ?_
    unfold arrPl
    simp -dsimp only [aqT, aqU, aqN, aqS, ↓seqK, ↓blkK, ↓loopK, step, stepBin, Nat.add_assoc nid, ↓reduceIte, Option.toList, ← Int.ofNat_tmod, ← Int.ofNat_tdiv, simprocAttr, BEq.rfl, LN_succ]
    refine Cov.go [(nid + 4, nid + 8), (nid + 8, nid + 24)] [] ?_
    simp [cvT, step, res, boxW, arrPl, -List.getD_eq_getElem?_getD]
  unfold arrPl
  refine SR.freezeB [nid + 8] (fun nl' => ?_)
  simp only [frzS, frzH, frzBlk, lends, lend, kill, noOs, boxW, aqT, aqU, aqN, aqS, ↓seqK, ↓blkK, ↓loopK, step, stepBin, Nat.add_assoc nid, ↓reduceIte, Option.toList, ← Int.ofNat_tmod, ← Int.ofNat_tdiv, simprocAttr, BEq.rfl, LN_succ]
  generalize nl' (nid + 8) = ns
  refine SR.run (t := .mk) ?_
  simp -dsimp only [aqT, aqU, aqN, aqS, ↓seqK, ↓blkK, ↓loopK, step, stepBin, Nat.add_assoc nid, ↓reduceIte, Option.toList, ← Int.ofNat_tmod, ← Int.ofNat_tdiv, simprocAttr, BEq.rfl, LN_succ]
  refine CallO.pure (hwi ns _) ?_
  unfold arrS
  simp -dsimp only [aqT, aqU, aqN, aqS, ↓seqK, ↓blkK, ↓loopK, step, stepBin, Nat.add_assoc nid, ↓reduceIte, Option.toList, ← Int.ofNat_tmod, ← Int.ofNat_tdiv, simprocAttr, BEq.rfl, LN_succ]
  refine RetOK.go [(nid, nid + 208)] [] (.inl rfl) ?_
  simp [cvT, step, res, a18, arrS, hLl, -List.getD_eq_getElem?_getD]
end Go.Proofs.YtmgfcjblclanmaaGreat
namespace Go.Proofs.YtmgfcjblclanmaaGreat
open Go.RowKit
theorem enc128 : ((List.range 128).all fun n => decide ((Utf8.encode (n : Int)).data.toList = [n.toUInt8])) = true := by kernel_rfl
theorem place128 : ((List.range 256).all fun n => !placeB (n : Int) || decide (n < 128)) = true := by kernel_rfl
theorem enc_place {b : UInt8} (h : placeB (byteI b) = true) : (Utf8.encode (byteI b)).data.toList = [b] := by
  have h1 := List.all_eq_true.1 place128 b.toNat (List.mem_range.2 (UInt8.toNat_lt b))
  unfold byteI at h
  rw [h] at h1
  have h2 : b.toNat < 128 := by simpa using h1
  have h3 := of_decide_eq_true (List.all_eq_true.1 enc128 b.toNat (List.mem_range.2 h2))
  unfold byteI
  rw [h3]
  simp [Nat.toUInt8]
theorem WafOk.byte {W : Waf} (h : WafOk W) {y x : Nat} (hy : y < W.rows.length) (hx : x < wideOf W) : placeB (byteI ((W.rows.getD y []).getD x 0)) = true := by
  obtain ⟨h1, h2⟩ := h.at hy
  unfold oddB at h2
  have hm : (W.rows.getD y []).getD x 0 ∈ W.rows.getD y [] := by
    rw [List.getD_eq_getElem?_getD (i := x), List.getElem?_eq_getElem (by rw [h1]; exact hx)]; exact List.getElem_mem _
  have := List.any_eq_false.1 h2 _ hm
  simpa using this
set_option maxHeartbeats 8000000 in
theorem turnedR_c (nl : Bool) (W : Waf) (nid : Nat) (hW : WafOk W) : ACall Tryz.prog 23 [wafP nl W] [] nid (.agg [.sl nid 0 (turnRs W).length, .str W.pass]) [(nid, arrS (turnRs W))] := by
  have hl := hW.len
  have hps := hW.pos
  have hww := hW.wide
  have hrl := turnRs_len W
  refine acall_sr c23 (by simp [a23]) ?_
  unfold a23 wafP
  refine SR.seq ?_
  simp -dsimp only [aqT, aqU, aqN, aqS, ↓seqK, ↓blkK, ↓loopK, step, stepBin, Nat.add_assoc nid, ↓reduceIte, Option.toList, ← Int.ofNat_tmod, ← Int.ofNat_tdiv, simprocAttr, BEq.rfl, LN_succ]
  refine SR.seqTo ⟨[(3, .ptr (nid + 8) 0), (1, .ptr nid 0), (2, .ptr (nid + 4) 0)], [(nid, boxW nl W), (nid + 4, some (.box 28 [.lit true 0 [], .str []])), (nid + 8, some (.box 28 [.lit true 0 [], .str W.pass]))], nid + 100, nid⟩ ?_ ?_
  · simp -dsimp only [aqT, aqU, aqN, aqS, ↓seqK, ↓blkK, ↓loopK, step, stepBin, Nat.add_assoc nid, ↓reduceIte, Option.toList, ← Int.ofNat_tmod, ← Int.ofNat_tdiv, simprocAttr, BEq.rfl, LN_succ]
    refine Cov.go [(nid + 8, nid + 20)] [] ?_
    simp [cvT, step, res, boxW]
  refine SR.seqTo ⟨[(3, .ptr (nid + 8) 0), (2, .ptr (nid + 4) 0)], [(nid + 4, some (.box 28 [.lit true 0 [], .str []])), (nid + 8, boxS (nid + 12) (turnRs W) W.pass), (nid + 12, arrS (turnRs W))], nid + 9000, nid⟩ ?_ ?_
  · unfold boxW
    simp -dsimp only [aqT, aqU, aqN, aqS, ↓seqK, ↓blkK, ↓loopK, step, stepBin, Nat.add_assoc nid, ↓reduceIte, Option.toList, ← Int.ofNat_tmod, ← Int.ofNat_tdiv, simprocAttr, BEq.rfl, LN_succ]
    refine ⟨by omega, ?_⟩
    have h0 : (W.rows.getD 0 []).length = wideOf W := rfl
    rw [h0]
    refine LP.mkP (fun x : Nat => x ≤ wideOf W) (fun x : Nat => ⟨[(15, .int .i64 x), (14, .int .i64 (wideOf W : Nat)), (3, .ptr (nid + 8) 0), (1, .ptr nid 0), (2, .ptr (nid + 4) 0)], [(nid, boxW nl W), (nid + 4, some (.box 28 [.lit true 0 [], .str []])), (nid + 8, boxS (nid + 12) ((turnRs W).take x) W.pass), (nid + 12, arrS ((turnRs W).take x))], nid + 1000, nid⟩) (fun x => wideOf W + 1 - x) 0 (by omega) (Cov.go [] [(nid + 12, 1)] ?_) (fun x hx => ?_)
    · simp [cvT, step, res, boxW, boxS, arrS]
    have hxl : ((turnRs W).take x).length = x := by rw [List.length_take]; omega
    unfold boxW boxS arrS
    rw [hxl]
    simp -dsimp only [aqT, aqU, aqN, aqS, ↓seqK, ↓blkK, ↓loopK, step, stepBin, Nat.add_assoc nid, ↓reduceIte, Option.toList, ← Int.ofNat_tmod, ← Int.ofNat_tdiv, simprocAttr, BEq.rfl, LN_succ]
    refine S2.dec (fun h1 => ?_) (fun h1 => ?_) <;> simp -dsimp only [aqT, aqU, aqN, aqS, ↓seqK, ↓blkK, ↓loopK, step, stepBin, Nat.add_assoc nid, ↓reduceIte, Option.toList, ← Int.ofNat_tmod, ← Int.ofNat_tdiv, simprocAttr, BEq.rfl, LN_succ]
    · have hxw : x < wideOf W := by omega
      have htk := turnRs_take W hxw
      have hRl := turnR_len W x
      have hRt := fun y hy => turnR_take W x (y := y) hy
      generalize turnR W x = R at *
      generalize (turnRs W).take x = T at *
      refine LP.mkP (fun y : Nat => y ≤ W.rows.length) (fun y : Nat => ⟨[(21, .int .i64 y), (20, .int .i64 W.rows.length), (5, .str (R.take y)), (4, .int .i64 x), (15, .int .i64 x), (14, .int .i64 (wideOf W : Nat)), (3, .ptr (nid + 8) 0), (1, .ptr nid 0), (2, .ptr (nid + 4) 0)], [(nid, boxW nl W), (nid + 4, some (.box 28 [.lit true 0 [], .str []])), (nid + 8, boxS (nid + 12) T W.pass), (nid + 12, arrS T)], nid + 2000, nid⟩) (fun y => W.rows.length + 1 - y) 0 (by omega) (Cov.go [] [] ?_) (fun y hy => ?_)
      · simp [cvT, step, res, boxW, boxS, arrS, hxl]
      have hyl : (R.take y).length = y := by rw [List.length_take]; omega
      unfold boxW boxS arrS
      simp -dsimp only [aqT, aqU, aqN, aqS, ↓seqK, ↓blkK, ↓loopK, step, stepBin, Nat.add_assoc nid, ↓reduceIte, Option.toList, ← Int.ofNat_tmod, ← Int.ofNat_tdiv, simprocAttr, BEq.rfl, LN_succ]
      refine S2.dec (fun h2 => ?_) (fun h2 => ?_) <;> simp -dsimp only [aqT, aqU, aqN, aqS, ↓seqK, ↓blkK, ↓loopK, step, stepBin, Nat.add_assoc nid, ↓reduceIte, Option.toList, ← Int.ofNat_tmod, ← Int.ofNat_tdiv, simprocAttr, BEq.rfl, LN_succ]
      · have hst := hRt y (by omega)
        have e1 : ((W.rows.length : Int) - 1 - y) = ((W.rows.length - 1 - y : Nat) : Int) := by omega
        have hd := fun k => dieR_all nl W (x : Int) ((W.rows.length - 1 - y : Nat) : Int) k hW (by unfold inI64; omega) (by unfold inI64; omega)
        rw [dieV_in (by omega) hxw] at hd
        have hen := enc_place (hW.byte (y := W.rows.length - 1 - y) (x := x) (by omega) hxw)
        generalize (W.rows.getD (W.rows.length - 1 - y) []).getD x 0 = b at *
        unfold wafP at hd
        refine ⟨by unfold inI64; omega, by unfold inI64; omega, ?_⟩
        rw [e1]
        refine CallO.pure (hd _) ?_
        simp -dsimp only [aqT, aqU, aqN, aqS, ↓seqK, ↓blkK, ↓loopK, step, stepBin, Nat.add_assoc nid, ↓reduceIte, Option.toList, ← Int.ofNat_tmod, ← Int.ofNat_tdiv, simprocAttr, BEq.rfl, LN_succ]
        rw [hen, ← hst]
        have hyl2 : (R.take (y + 1)).length = y + 1 := by rw [List.length_take]; omega
        refine ⟨?_, by unfold inI64; omega, y + 1, ⟨by omega, by omega⟩, Cov.go [] [] ?_⟩
        · rw [hyl]; simp only [List.length_cons, List.length_nil]; omega
        · simp [cvT, step, res, boxW, boxS, arrS, hxl, -List.getD_eq_getElem?_getD]
      · obtain rfl : y = W.rows.length := by omega
        have hR : R.take W.rows.length = R := List.take_of_length_le (by omega)
        rw [hR, getD_app1 T R rfl]
        have hT1 : (T ++ [R]).length = x + 1 := by rw [List.length_append]; simp [hxl]
        refine ⟨⟨by omega, by omega⟩, by unfold inI64; omega, x + 1, ⟨by omega, by omega⟩, Cov.go [(nid + 12, nid + 2020)] [] ?_⟩
        simp [cvT, step, res, boxW, boxS, arrS, hxl, htk, -List.getD_eq_getElem?_getD]
    · obtain rfl : x = wideOf W := by omega
      have hT : (turnRs W).take (wideOf W) = turnRs W := List.take_of_length_le (by omega)
      rw [hT]
      refine Cov.go [] [] ?_
      simp [cvT, step, res, boxS, arrS, hrl, -List.getD_eq_getElem?_getD]
  refine SR.run (t := .mk) ?_
  unfold boxS arrS
  rw [hrl]
  simp -dsimp only [aqT, aqU, aqN, aqS, ↓seqK, ↓blkK, ↓loopK, step, stepBin, Nat.add_assoc nid, ↓reduceIte, Option.toList, ← Int.ofNat_tmod, ← Int.ofNat_tdiv, simprocAttr, BEq.rfl, LN_succ]
  refine RetOK.go [(nid, nid + 12)] [] (.inl rfl) ?_
  simp [cvT, step, res, a23, arrS, hrl, -List.getD_eq_getElem?_getD]
end Go.Proofs.YtmgfcjblclanmaaGreat
namespace Go.Proofs.YtmgfcjblclanmaaGreat
theorem inkRs_atW (W : Waf) (m : Nat) {y : Nat} (h : y < W.rows.length) : (inkRs W m).getD y [] = inkR W m y (W.rows.getD y []) := by
  unfold inkRs
  rw [List.getD_eq_getElem?_getD, List.getElem?_zipWith, List.getElem?_eq_getElem h, List.getElem?_range h, List.getD_eq_getElem?_getD, List.getElem?_eq_getElem h]
  rfl
theorem inkR_atW (W : Waf) (m y : Nat) {r : List UInt8} {x : Nat} (h : x < r.length) : (inkR W m y r).getD x 0 = inkB W m (r.getD x 0) ((x : Int), (y : Int)) := by
  unfold inkR
  rw [List.getD_eq_getElem?_getD, List.getElem?_zipWith, List.getElem?_eq_getElem h, List.getElem?_range h, List.getD_eq_getElem?_getD, List.getElem?_eq_getElem h]
  rfl
theorem ink_with {W : Waf} (hW : WafOk W) (m : Nat) : withTo W.rows ((plV W).filter (inkAt W m)) 42 ((plV W).filter (inkAt W m)).length = inkRs W m := by
  have hl := withTo_len W.rows ((plV W).filter (inkAt W m)) 42 _ (Nat.le_refl _)
  have hpos : ∀ p ∈ (plV W).filter (inkAt W m), 0 ≤ p.1 ∧ 0 ≤ p.2 := fun p hp => by
    obtain ⟨x, y, rfl, _, _⟩ := plV_mem (List.mem_filter.1 hp).1
    simp only
    omega
  apply List.ext_getElem
  · rw [hl, inkRs_len]
  · intro y h1 h2
    have hy : y < W.rows.length := by rw [hl] at h1; exact h1
    have hr := withTo_row W.rows ((plV W).filter (inkAt W m)) 42 y _ (Nat.le_refl _)
    have e1 : (withTo W.rows ((plV W).filter (inkAt W m)) 42 ((plV W).filter (inkAt W m)).length).getD y [] = (withTo W.rows ((plV W).filter (inkAt W m)) 42 ((plV W).filter (inkAt W m)).length)[y] := by
      rw [List.getD_eq_getElem?_getD, List.getElem?_eq_getElem h1]; rfl
    have e2 : (inkRs W m).getD y [] = (inkRs W m)[y] := by rw [List.getD_eq_getElem?_getD, List.getElem?_eq_getElem h2]; rfl
    rw [← e1, ← e2, inkRs_atW W m hy]
    apply List.ext_getElem
    · rw [hr, inkR_len]
    · intro x h3 h4
      have hx : x < (W.rows.getD y []).length := by rw [hr] at h3; exact h3
      have hxw : x < wideOf W := by rw [← (hW.at hy).1]; exact hx
      have e3 : ((withTo W.rows ((plV W).filter (inkAt W m)) 42 ((plV W).filter (inkAt W m)).length).getD y []).getD x 0 = ((withTo W.rows ((plV W).filter (inkAt W m)) 42 ((plV W).filter (inkAt W m)).length).getD y [])[x] := by
        rw [List.getD_eq_getElem?_getD (i := x), List.getElem?_eq_getElem h3]; rfl
      have e4 : (inkR W m y (W.rows.getD y [])).getD x 0 = (inkR W m y (W.rows.getD y []))[x] := by rw [List.getD_eq_getElem?_getD (i := x), List.getElem?_eq_getElem h4]; rfl
      rw [← e3, ← e4, inkR_atW W m y hx, withTo_at W.rows _ 42 hy hx hpos _ (Nat.le_refl _), List.take_length]
      have hia : inkAt W m ((x : Int), (y : Int)) = inkP W m (byteI ((W.rows.getD y []).getD x 0)) ((x : Int), (y : Int)) := by unfold inkAt; simp only; rw [dieV_in hy hxw]
      have hpv : ((x : Int), (y : Int)) ∈ plV W := by
        unfold plV plTo rowPl
        rw [List.mem_flatMap]
        exact ⟨y, List.mem_range.2 hy, List.mem_map.2 ⟨x, List.mem_range.2 hx, rfl⟩⟩
      unfold inkB
      rw [← hia]
      by_cases hk : inkAt W m ((x : Int), (y : Int)) = true
      · rw [if_pos (List.mem_filter.2 ⟨hpv, hk⟩), if_pos hk]
      · rw [if_neg (fun hh => hk (List.mem_filter.1 hh).2), if_neg hk]
end Go.Proofs.YtmgfcjblclanmaaGreat
namespace Go.Proofs.YtmgfcjblclanmaaGreat
open Go.RowKit
structure RgX where
  A : List Pt
  r : Nat
  S : List Pt
  k : Nat
structure RgY (W : Waf) (x : RgX) : Prop where
  le : x.r ≤ x.A.length
  len : x.A.length ≤ 60000
  perm : (x.A.take x.r).Perm (ringR W x.k)
  seen : ∀ q, q ∈ x.S ↔ q ∈ doneR W x.k ∨ q ∈ ringR W x.k
  many : x.k ≤ manyR W
theorem take_at {A : List Pt} {r i : Nat} (hr : r ≤ A.length) (hi : i < r) : A.getD i p0 ∈ A.take r := by
  rw [List.getD_eq_getElem?_getD, List.getElem?_eq_getElem (by omega : i < A.length)]
  exact List.mem_take_iff_getElem.2 ⟨i, by omega, rfl⟩
set_option maxHeartbeats 8000000 in
theorem ringsX_all (nl : Bool) (W : Waf) (nid : Nat) (h : waferV W = 0) (hp : W.pass.length ≤ 1000000) :
    ACall Tryz.prog 10 [wafP nl W] [] nid (.tup [.sl nid 0 (frsR W (manyR W)).length, .sl (nid + 1) 0 (hasL W (manyR W)).length, .int .i64 0]) [(nid, arrFr (frsR W (manyR W))), (nid + 1, arrBl (hasL W (manyR W)))] := by
  have hW := waferV_ok h
  have hel := edgeL_len hW
  have hdl : (doneP (innerP W) (plV W)).length ≤ 60000 := by
    have h1 := plTo_bd hW (Nat.le_refl _)
    rw [doneP_len]; exact h1
  have hkd : (edgeL W).length ≤ (doneP (innerP W) (plV W)).length := by
    have h2 := keepP_len (innerP W) (plV W)
    rw [doneP_len]; exact h2
  have hin : ∀ i, i < (edgeL W).length → (doneP (innerP W) (plV W)).getD i p0 ∈ plV W := fun i hi => by
    have hi' : i < (keepP (innerP W) (plV W)).length := hi
    unfold doneP
    rw [List.getD_eq_getElem?_getD, List.getElem?_append_left hi', ← List.getD_eq_getElem?_getD]
    have := ptMem (l := keepP (innerP W) (plV W)) (k := i) hi
    exact (List.mem_filter.1 this).1
  have hmN := manyR_le hW
  have hmok := manyR_ok hW
  have hek : (doneP (innerP W) (plV W)).take (edgeL W).length = edgeL W := by
    unfold doneP edgeL
    rw [List.take_append_of_le_length (Nat.le_refl _), List.take_length]
  refine acall_run c10 (by simp [a10]) ?_
  unfold wafP
  simp -dsimp only [aqT, aqU, aqN, aqS, ↓seqK, ↓blkK, ↓loopK, step, stepBin, Nat.add_assoc nid, ↓reduceIte, Option.toList, ← Int.ofNat_tmod, ← Int.ofNat_tdiv, simprocAttr, BEq.rfl, LN_succ, a10]
  refine CallO.pure (checkWafer_all nl W _ (hW.bd hp)) ?_
  rw [h]
  simp -dsimp only [aqT, aqU, aqN, aqS, ↓seqK, ↓blkK, ↓loopK, step, stepBin, Nat.add_assoc nid, ↓reduceIte, Option.toList, ← Int.ofNat_tmod, ← Int.ofNat_tdiv, simprocAttr, BEq.rfl, LN_succ]
  refine CallO.pure (edge_all nl W _ hW) ?_
  generalize hA : doneP (innerP W) (plV W) = A0 at *
  generalize hE : (edgeL W).length = e at *
  unfold arrPl
  simp -dsimp only [aqT, aqU, aqN, aqS, ↓seqK, ↓blkK, ↓loopK, step, stepBin, Nat.add_assoc nid, ↓reduceIte, Option.toList, ← Int.ofNat_tmod, ← Int.ofNat_tdiv, simprocAttr, BEq.rfl, LN_succ]
  have hs0 : seenD (A0.take 0) = fun _ => false := by rw [List.take_zero]; exact seenD_nil.symm
  have hsk : ∀ k, k < A0.length → A0.take (k + 1) = A0.take k ++ [A0.getD k p0] := fun k hk => take_snoc (by rw [List.getD_eq_getElem?_getD, List.getElem?_eq_getElem hk]; rfl)
  refine LP.mkP (fun k : Nat => k ≤ e) (fun k : Nat => ⟨[(29, .int .i64 k), (28, .int .i64 e), (27, .sl (nid + 56) 0 e), (9, .sl (nid + 56) 0 e), (8, .mp (nid + 44)), (7, .lit true 0 []), (6, .lit true 0 []), (1, .ptr nid 0)], [(nid + 56, arrPl A0), (nid + 44, mapS (A0.take k)), (nid, boxW nl W)], nid + 100, nid⟩) (fun k => e + 1 - k) 0 (by omega) (Cov.go [] [] ?_) (fun k hk => ?_)
  · unfold mapS
    rw [hs0]
    simp [cvT, step, res, arrPl, boxW]
  unfold arrPl boxW mapS
  simp -dsimp only [aqT, aqU, aqN, aqS, ↓seqK, ↓blkK, ↓loopK, step, stepBin, Nat.add_assoc nid, ↓reduceIte, Option.toList, ← Int.ofNat_tmod, ← Int.ofNat_tdiv, simprocAttr, BEq.rfl, LN_succ]
  refine S2.dec (fun h1 => ?_) (fun h1 => ?_) <;> simp -dsimp only [aqT, aqU, aqN, aqS, ↓seqK, ↓blkK, ↓loopK, step, stepBin, Nat.add_assoc nid, ↓reduceIte, Option.toList, ← Int.ofNat_tmod, ← Int.ofNat_tdiv, simprocAttr, BEq.rfl, LN_succ]
  · have hka : k < A0.length := by omega
    obtain ⟨i1, i2⟩ := plV_in' hW (hin k (by omega))
    rw [seenD_snoc, ← hsk k hka]
    refine ⟨by omega, ⟨i1, i2⟩, by unfold inI64; omega, k + 1, ⟨by omega, by omega⟩, Cov.go [] [] ?_⟩
    simp [cvT, step, res, arrPl, boxW, mapS]
  have hke : k = e := by omega
  subst hke
  clear h1
  have hed : A0.take k = edgeL W := hek
  refine LP.mkP (RgY W) (fun x : RgX => ⟨[(9, .sl (nid + 16) 0 x.r), (8, .mp (nid + 12)), (7, .sl (nid + 8) 0 (hasL W x.k).length), (6, .sl (nid + 4) 0 (frsR W x.k).length), (1, .ptr nid 0)], [(nid, boxW nl W), (nid + 4, arrFr (frsR W x.k)), (nid + 8, arrBl (hasL W x.k)), (nid + 12, mapS x.S), (nid + 16, arrPl x.A)], nid + 100, nid⟩) (fun x => manyR W + 1 - x.k) ⟨A0, k, A0.take k, 0⟩ ⟨hkd, hdl, by simp only; rw [hed]; exact List.Perm.refl _, fun q => by simp only; rw [hed]; simp [doneR, ringR, stR], Nat.zero_le _⟩ (Cov.go [(nid + 16, nid + 56), (nid + 12, nid + 44)] [(nid + 4, 2), (nid + 8, 1)] ?_) (fun x hx => ?_)
  · simp [cvT, step, res, arrPl, boxW, mapS, arrFr, arrBl, frsR, hasL]
  obtain ⟨A, r, S, i⟩ := x
  obtain ⟨x1, x2, x3, x4, x5⟩ := hx
  simp only at x1 x2 x3 x4 x5
  have hfl : (frsR W i).length ≤ 60001 := by rw [frsR_len]; omega
  have hfl1 : (frsR W (i + 1)).length ≤ 60002 := by rw [frsR_len]; omega
  have hal : (hasL W i).length = (frsR W i).length := by rw [frsR_len, hasL_len]
  have hal1 : (hasL W (i + 1)).length = (frsR W (i + 1)).length := by rw [frsR_len, hasL_len]
  have hfs := frsR_succ W i
  have has := hasL_succ W i
  have hpg := fr_prog x3
  have hph := has_prog x3
  have hpm : ∀ j, j < r → A.getD j p0 ∈ plV W := fun j hj => (ringR_mem (x3.mem_iff.1 (take_at x1 hj))).1
  have hc1 : cntTo (goodP W) A r = cntN (goodP W) (A.take r) := rfl
  have hc2 : cntTo (allP W) A r = cntN (allP W) (A.take r) := rfl
  unfold arrPl boxW mapS arrFr arrBl
  simp -dsimp only [aqT, aqU, aqN, aqS, ↓seqK, ↓blkK, ↓loopK, step, stepBin, Nat.add_assoc nid, ↓reduceIte, Option.toList, ← Int.ofNat_tmod, ← Int.ofNat_tdiv, simprocAttr, BEq.rfl, LN_succ]
  refine S2.dec (fun h1 => ?_) (fun h1 => ?_) <;> simp -dsimp only [aqT, aqU, aqN, aqS, ↓seqK, ↓blkK, ↓loopK, step, stepBin, Nat.add_assoc nid, ↓reduceIte, Option.toList, ← Int.ofNat_tmod, ← Int.ofNat_tdiv, simprocAttr, BEq.rfl, LN_succ]
  · have hr1 : 0 < r := by omega
    have hkN : i < manyR W := by
      rcases (by omega : i < manyR W ∨ i = manyR W) with e | e
      · exact e
      · exfalso
        have := x3.length_eq
        rw [e, hmok.1, List.length_take, List.length_nil] at this
        omega
    have cg := cntTo_le (goodP W) A r
    have ca := cntTo_le (allP W) A r
    have hpi : ∀ j, j < r → inI64 (A.getD j p0).1 ∧ inI64 (A.getD j p0).2 := fun j hj => plV_in' hW (hpm j hj)
    refine CallO.lent [nid + 16] (fun nl' => by
      simp only [lends, lend, noOs, aqT, aqU, aqN, aqS, ↓seqK, ↓blkK, ↓loopK, step, stepBin, Nat.add_assoc nid, ↓reduceIte, Option.toList, ← Int.ofNat_tmod, ← Int.ofNat_tdiv, simprocAttr, BEq.rfl, LN_succ]
      exact share_take nl (nl' _) W A r _ hW (by omega) (by omega) hpi) rfl rfl (by simp [getH]) ?_
    have hmx : max ((cntTo (allP W) A r : Nat) : Int) 1 = ((max (cntTo (allP W) A r) 1 : Nat) : Int) := by omega
    simp -dsimp only [aqT, aqU, aqN, aqS, ↓seqK, ↓blkK, ↓loopK, step, stepBin, Nat.add_assoc nid, ↓reduceIte, Option.toList, ← Int.ofNat_tmod, ← Int.ofNat_tdiv, simprocAttr, BEq.rfl, LN_succ, kill]
    rw [hmx]
    refine CallO.pure (frac_c _ _ _ (by omega) (by omega) (by omega)) ?_
    rw [← hc1, ← hc2] at hpg
    rw [← hc2] at hph
    have hp1 := congrArg Prod.fst hpg
    have hp2 := congrArg Prod.snd hpg
    simp only at hp1 hp2
    rw [hp1, hp2]
    clear hmx hpg hp1 hp2
    generalize cntTo (goodP W) A r = g1 at *
    generalize cntTo (allP W) A r = g2 at *
    simp -dsimp only [aqT, aqU, aqN, aqS, ↓seqK, ↓blkK, ↓loopK, step, stepBin, Nat.add_assoc nid, ↓reduceIte, Option.toList, ← Int.ofNat_tmod, ← Int.ofNat_tdiv, simprocAttr, BEq.rfl, LN_succ]
    rw [hph, getD_appB, getD_appP (frsR W i) (frR W i) rfl (fun q => q.1) rfl rfl, getD_appP (frsR W i) (frR W i) rfl (fun q => q.2) rfl rfl, ← hfs, ← has]
    have f1 : (frsR W i).length + 1 = (frsR W (i + 1)).length := by rw [frsR_len, frsR_len]
    have a1 : (hasL W i).length + 1 = (hasL W (i + 1)).length := by rw [hasL_len, hasL_len]
    refine ⟨⟨by omega, by omega⟩, ⟨by omega, by omega⟩, ?_⟩
    rw [f1, a1]
    clear hfl f1 a1 hfs has hal
    have hrb : ∀ j, j < r → PtBd (A.getD j p0) := fun j hj => plV_bd hW (hpm j hj)
    refine LP.mkP (fun x : Nat × List Pt => x.1 ≤ r ∧ NxtOk W S x.2 (A.take r) ∧ ∀ j, j < x.1 → ∀ q ∈ arV (A.getD j p0), noneP W q = false → q ∈ S ∨ q ∈ x.2) (fun x => ⟨[(59, .int .i64 x.1), (58, .int .i64 r), (57, .sl (nid + 16) 0 r), (14, .sl (nid + 20) 0 x.2.length), (8, .mp (nid + 12)), (7, .sl (nid + 8) 0 (hasL W (i + 1)).length), (6, .sl (nid + 4) 0 (frsR W (i + 1)).length), (1, .ptr nid 0)],
      [(nid, boxW nl W), (nid + 4, arrFr (frsR W (i + 1))), (nid + 8, arrBl (hasL W (i + 1))), (nid + 12, mapS (S ++ x.2)), (nid + 16, arrPl A), (nid + 20, arrPl x.2)], nid + 300, nid⟩) (fun x => r + 1 - x.1) (0, []) ⟨by omega, NxtOk.nil W S _, fun j hj => by omega⟩ (Cov.go [(nid + 4, nid + 168), (nid + 8, nid + 188)] [(nid + 20, 2)] ?_) (fun x hx => ?_)
    · simp [cvT, step, res, arrPl, boxW, mapS, arrFr, arrBl, -List.getD_eq_getElem?_getD]
    obtain ⟨k, L⟩ := x
    obtain ⟨y1, y2, y3⟩ := hx
    simp only at y1 y2 y3
    unfold arrPl boxW mapS arrFr arrBl
    simp -dsimp only [aqT, aqU, aqN, aqS, ↓seqK, ↓blkK, ↓loopK, step, stepBin, Nat.add_assoc nid, ↓reduceIte, Option.toList, ← Int.ofNat_tmod, ← Int.ofNat_tdiv, simprocAttr, BEq.rfl, LN_succ]
    refine S2.dec (fun h2 => ?_) (fun h2 => ?_) <;> simp -dsimp only [aqT, aqU, aqN, aqS, ↓seqK, ↓blkK, ↓loopK, step, stepBin, Nat.add_assoc nid, ↓reduceIte, Option.toList, ← Int.ofNat_tmod, ← Int.ofNat_tdiv, simprocAttr, BEq.rfl, LN_succ]
    · have hkr : k < r := by omega
      have hkA := take_at x1 hkr
      refine ⟨by omega, CallO.pure (around_all (A.getD k p0) _ (hrb k hkr)) ?_⟩
      have hin2 := fun q hq => (hrb k hkr).ar (q := q) hq
      have har := arV_len (A.getD k p0)
      generalize hpk : A.getD k p0 = pk at *
      generalize hRd : arV pk = R at *
      unfold arrPl
      simp -dsimp only [aqT, aqU, aqN, aqS, ↓seqK, ↓blkK, ↓loopK, step, stepBin, Nat.add_assoc nid, ↓reduceIte, Option.toList, ← Int.ofNat_tmod, ← Int.ofNat_tdiv, simprocAttr, BEq.rfl, LN_succ]
      refine LP.mkP (fun x : Nat × List Pt => x.1 ≤ R.length ∧ NxtOk W S x.2 (A.take r) ∧ (∀ a ∈ L, a ∈ x.2) ∧ ∀ j, j < x.1 → noneP W (R.getD j p0) = false → R.getD j p0 ∈ S ∨ R.getD j p0 ∈ x.2) (fun x => ⟨[(66, .int .i64 x.1), (65, .int .i64 R.length), (64, .sl (nid + 24) 0 R.length), (59, .int .i64 k), (58, .int .i64 r), (57, .sl (nid + 16) 0 r), (14, .sl (nid + 20) 0 x.2.length), (8, .mp (nid + 12)), (7, .sl (nid + 8) 0 (hasL W (i + 1)).length), (6, .sl (nid + 4) 0 (frsR W (i + 1)).length), (1, .ptr nid 0)],
        [(nid, boxW nl W), (nid + 4, arrFr (frsR W (i + 1))), (nid + 8, arrBl (hasL W (i + 1))), (nid + 12, mapS (S ++ x.2)), (nid + 16, arrPl A), (nid + 20, arrPl x.2), (nid + 24, arrPl R)], nid + 500, nid⟩) (fun x => R.length + 1 - x.1) (0, L) ⟨by omega, y2, fun a h => h, fun j hj => by omega⟩ (Cov.go [(nid + 24, nid + 324)] [] ?_) (fun x hx => ?_)
      · simp [cvT, step, res, arrPl, boxW, mapS, arrFr, arrBl, -List.getD_eq_getElem?_getD]
      clear h2
      obtain ⟨j, M⟩ := x
      obtain ⟨z1, z2, z3, z4⟩ := hx
      simp only at z1 z2 z3 z4
      have hMs := mu_app (W := W) S M (fun q hq => (z2.mem q hq).1) z2.nodup (fun q hq => (z2.mem q hq).2.2.1)
      have hml := muV_le hW S
      unfold arrPl boxW mapS arrFr arrBl
      simp -dsimp only [aqT, aqU, aqN, aqS, ↓seqK, ↓blkK, ↓loopK, step, stepBin, Nat.add_assoc nid, ↓reduceIte, Option.toList, ← Int.ofNat_tmod, ← Int.ofNat_tdiv, simprocAttr, BEq.rfl, LN_succ]
      refine S2.dec (fun h3 => ?_) (fun h3 => ?_) <;> simp -dsimp only [aqT, aqU, aqN, aqS, ↓seqK, ↓blkK, ↓loopK, step, stepBin, Nat.add_assoc nid, ↓reduceIte, Option.toList, ← Int.ofNat_tmod, ← Int.ofNat_tdiv, simprocAttr, BEq.rfl, LN_succ]
      · have hjr : j < R.length := by omega
        have hjm := ptMem hjr
        obtain ⟨i1, i2⟩ := hin2 _ hjm
        refine ⟨by omega, CallO.pure (at_all nl W _ _ _ hW i1 i2) ?_⟩
        have hnext : ∀ M' : List Pt, (∀ a ∈ M, a ∈ M') → (noneP W (R.getD j p0) = false → R.getD j p0 ∈ S ∨ R.getD j p0 ∈ M') → ∀ j', j' < j + 1 → noneP W (R.getD j' p0) = false → R.getD j' p0 ∈ S ∨ R.getD j' p0 ∈ M' := by
          intro M' hsub hnew j' hj' hb'
          rcases (by omega : j' < j ∨ j' = j) with e | e
          · exact (z4 j' e hb').imp id (hsub _)
          · subst e; exact hnew hb'
        have hadd := fun hn hs => z2.add hW hkA (q := R.getD j p0) (by rw [hRd]; exact hjm) hn hs
        have hsn := seenD_snoc (S ++ M) (R.getD j p0)
        rw [List.append_assoc] at hsn
        generalize R.getD j p0 = q at *
        have hno : noneP W q = (dieV W q.1 q.2 == 46) := rfl
        generalize dieV W q.1 q.2 = d at *
        simp -dsimp only [aqT, aqU, aqN, aqS, ↓seqK, ↓blkK, ↓loopK, step, stepBin, Nat.add_assoc nid, ↓reduceIte, Option.toList, ← Int.ofNat_tmod, ← Int.ofNat_tdiv, simprocAttr, BEq.rfl, LN_succ]
        refine S2.intro (fun h4 => ?_) (fun h4 => ?_) <;> simp -dsimp only [aqT, aqU, aqN, aqS, ↓seqK, ↓blkK, ↓loopK, step, stepBin, Nat.add_assoc nid, ↓reduceIte, Option.toList, ← Int.ofNat_tmod, ← Int.ofNat_tdiv, simprocAttr, BEq.rfl, LN_succ]
        · have hq : noneP W q = false := by rw [hno]; simpa using h4
          refine ⟨⟨i1, i2⟩, ?_⟩
          cases hs : seenD (S ++ M) (MK.p q.1 q.2) <;> simp -dsimp only [aqT, aqU, aqN, aqS, ↓seqK, ↓blkK, ↓loopK, step, stepBin, Nat.add_assoc nid, ↓reduceIte, Option.toList, ← Int.ofNat_tmod, ← Int.ofNat_tdiv, simprocAttr, BEq.rfl, LN_succ]
          · have hz := hadd hq (seenD_not.1 hs)
            rw [hsn, getD_appP M q rfl (fun q => q.1) rfl rfl, getD_appP M q rfl (fun q => q.2) rfl rfl]
            have hl3 : M.length + 1 = (M ++ [q]).length := by simp
            rw [hl3]
            refine ⟨⟨i1, i2⟩, ⟨by omega, by omega⟩, by unfold inI64; omega, (j + 1, M ++ [q]), ⟨⟨by simp only; omega, hz, fun a ha => List.mem_append_left _ (z3 a ha), hnext _ (fun a ha => List.mem_append_left _ ha) (fun _ => .inr (by simp))⟩, by simp only; omega⟩, Cov.go [(nid + 20, nid + 584)] [] ?_⟩
            simp [cvT, step, res, arrPl, boxW, mapS, arrFr, arrBl, -List.getD_eq_getElem?_getD, -List.length_append]
          · have hse := List.mem_append.1 (seenD_iff.1 hs)
            refine ⟨by unfold inI64; omega, (j + 1, M), ⟨⟨by simp only; omega, z2, z3, hnext M (fun a h => h) (fun _ => hse)⟩, by simp only; omega⟩, Cov.go [] [] ?_⟩
            simp [cvT, step, res, arrPl, boxW, mapS, arrFr, arrBl, -List.getD_eq_getElem?_getD]
        · have hq : noneP W q = true := by rw [hno]; simpa using h4
          refine ⟨by unfold inI64; omega, (j + 1, M), ⟨⟨by simp only; omega, z2, z3, hnext M (fun a h => h) (fun hb => by rw [hq] at hb; cases hb)⟩, by simp only; omega⟩, Cov.go [] [] ?_⟩
          simp [cvT, step, res, arrPl, boxW, mapS, arrFr, arrBl, -List.getD_eq_getElem?_getD]
      · obtain rfl : j = R.length := by omega
        have hy3 : ∀ k', k' < k + 1 → ∀ q ∈ arV (A.getD k' p0), noneP W q = false → q ∈ S ∨ q ∈ M := by
          intro k' hk' q hq hn
          rcases (by omega : k' < k ∨ k' = k) with e | e
          · exact (y3 k' e q hq hn).imp id (z3 q)
          · subst e
            rw [hpk, hRd] at hq
            obtain ⟨j', hj', hjq⟩ := List.getElem_of_mem hq
            have hg : R.getD j' p0 = q := by rw [List.getD_eq_getElem?_getD, List.getElem?_eq_getElem hj']; exact hjq
            have := z4 j' hj' (by rw [hg]; exact hn)
            rwa [hg] at this
        refine ⟨by unfold inI64; omega, (k + 1, M), ⟨⟨by simp only; omega, z2, hy3⟩, by simp only; omega⟩, Cov.go [] [] ?_⟩
        simp [cvT, step, res, arrPl, boxW, mapS, arrFr, arrBl, -List.getD_eq_getElem?_getD]
    · obtain rfl : k = r := by omega
      have hml := muV_le hW S
      have hLs := mu_app (W := W) S L (fun q hq => (y2.mem q hq).1) y2.nodup (fun q hq => (y2.mem q hq).2.2.1)
      obtain ⟨hLp, hSp⟩ := nxt_perm hW x3 x4 y2 (fun p hp q hq hn => by
        obtain ⟨j, hj, e⟩ := List.mem_take_iff_getElem.1 hp
        have e2 : A.getD j p0 = p := by rw [List.getD_eq_getElem?_getD, List.getElem?_eq_getElem (by omega)]; exact e
        exact y3 j (by omega) q (by rw [e2]; exact hq) hn)
      refine ⟨⟨L, L.length, S ++ L, i + 1⟩, ⟨⟨Nat.le_refl _, by simp only; omega, by simp only; rw [List.take_length]; exact hLp, hSp, hkN⟩, by simp only; omega⟩, Cov.go [(nid + 16, nid + 20)] [] ?_⟩
      simp [cvT, step, res, arrPl, boxW, mapS, arrFr, arrBl, -List.getD_eq_getElem?_getD]
  · have hr0 : r = 0 := by omega
    have hie : i = manyR W := by
      refine Classical.byContradiction fun hne => ?_
      have h5 := hmok.2 i (by omega)
      have h6 := x3.length_eq
      rw [hr0, List.take_zero, List.length_nil] at h6
      exact h5 (List.length_eq_zero_iff.1 h6.symm)
    subst hie
    refine RetOK.go [(nid, nid + 4), (nid + 1, nid + 8)] [] (.inl rfl) ?_
    simp [a10, cvT, step, res, arrFr, arrBl, -List.getD_eq_getElem?_getD]
end Go.Proofs.YtmgfcjblclanmaaGreat
namespace Go.Proofs.YtmgfcjblclanmaaGreat
open Go.RowKit
def w1x (nl : Bool) : PV := .lit nl 1 [.s fun i => [[49, 120]].getD i []]
theorem out_00 : outB 0 0 0 = false := by decide
theorem out_01 : outB 0 0 1 = false := by decide
theorem out_11 : outB 1 0 1 = false := by decide
theorem t49 : (isBinV 49 || (49 : Int) == 42) = true := by decide
theorem t120 : (isBinV 120 || (120 : Int) == 42) = true := by decide
theorem p49 : passedV [49] 49 = true := by decide
theorem p120 : passedV [49] 120 = false := by decide
theorem s1x : (([49, 120] : List UInt8) == []) = false := by decide
theorem at_1x (nl : Bool) (x : Int) (c : Int) (hx : (x = 0 ∧ c = 49) ∨ (x = 1 ∧ c = 120)) (nid : Nat) : ACall Tryz.prog 36 [.agg [w1x nl, .str [49]], .agg [.int .i64 x, .int .i64 0]] [] nid (.int .u8 c) [] := by
  refine acall_run c36 (by simp [a36]) ?_
  unfold w1x
  rcases hx with ⟨rfl, rfl⟩ | ⟨rfl, rfl⟩
  · simp -dsimp only [a36, aqT, aqU, aqN, ↓seqK, ↓blkK, ↓loopK, step, stepBin, Nat.reduceBEq, Nat.reduceBeqDiff, Nat.add_assoc nid, Nat.reduceAdd, reduceCtorEq, ↓reduceIte, Nat.reduceLeDiff, Nat.reduceBneDiff, Option.toList, ← Int.ofNat_tmod, ← Int.ofNat_tdiv, Nat.reduceLT, Int.cast_ofNat_Int, Int.reduceBEq, Int.reduceBNe, Int.reduceLT, Int.reduceLE, Int.reduceAdd, Int.reduceSub, Int.reduceMul, Int.reduceToNat, Int.reduceNeg, Int.reduceTMod, Int.reduceEq, not_false_eq_true, Int.reducePow, Int.reduceFDiv, Nat.reducePow, Nat.reduceSub, Nat.reduceMul, Nat.min_eq_left, Nat.reduceEqDiff, BEq.rfl, Int.tdiv_one, LN_succ]
    refine ⟨by unfold inI64; omega, CallX.pure (out_c _ _ _ _) ?_⟩
    simp -dsimp only [aqT, aqU, aqN, ↓seqK, ↓blkK, ↓loopK, step, stepBin, Nat.reduceBEq, Nat.reduceBeqDiff, Nat.add_assoc nid, Nat.reduceAdd, reduceCtorEq, ↓reduceIte, Nat.reduceLeDiff, Nat.reduceBneDiff, Option.toList, ← Int.ofNat_tmod, ← Int.ofNat_tdiv, Nat.reduceLT, Int.cast_ofNat_Int, Int.reduceBEq, Int.reduceBNe, Int.reduceLT, Int.reduceLE, Int.reduceAdd, Int.reduceSub, Int.reduceMul, Int.reduceToNat, Int.reduceNeg, Int.reduceTMod, Int.reduceEq, not_false_eq_true, Int.reducePow, Int.reduceFDiv, Nat.reducePow, Nat.reduceSub, Nat.reduceMul, Nat.min_eq_left, Nat.reduceEqDiff, BEq.rfl, Int.tdiv_one, LN_succ, out_00, List.getD_cons_zero]
    refine ⟨by unfold inI64; omega, CallX.pure (out_c _ _ _ _) ?_⟩
    simp -dsimp only [aqT, aqU, aqN, ↓seqK, ↓blkK, ↓loopK, step, stepBin, Nat.reduceBEq, Nat.reduceBeqDiff, Nat.add_assoc nid, Nat.reduceAdd, reduceCtorEq, ↓reduceIte, Nat.reduceLeDiff, Nat.reduceBneDiff, Option.toList, ← Int.ofNat_tmod, ← Int.ofNat_tdiv, Nat.reduceLT, Int.cast_ofNat_Int, Int.reduceBEq, Int.reduceBNe, Int.reduceLT, Int.reduceLE, Int.reduceAdd, Int.reduceSub, Int.reduceMul, Int.reduceToNat, Int.reduceNeg, Int.reduceTMod, Int.reduceEq, not_false_eq_true, Int.reducePow, Int.reduceFDiv, Nat.reducePow, Nat.reduceSub, Nat.reduceMul, Nat.min_eq_left, Nat.reduceEqDiff, BEq.rfl, Int.tdiv_one, LN_succ, out_01, List.getD_cons_zero]
    refine RetOK.pure (.inl rfl) rfl ?_
    simp [retPV, over, keys, List.map_nil, List.map_cons, List.contains_cons, List.contains_nil, Bool.or_false, Bool.or_true, Bool.true_or, Bool.false_or, beq_self_eq_true, cond_true, cond_false, HeapCov, orNil, nilSz, onBlk, srcOf, getH_hit, getH_miss, getH.eq_1, getS_hit, getS_miss, getS.eq_1, BlkCov, MEq, PVCovs, PVCov, ColsEq, AColsEq, ACEq, ColEq.refl, liveIds, SlotsCov, List.all_nil, List.all_cons, List.any_nil, List.any_cons, List.nil_append, List.cons_append, inRange, apart, nilBlk, idS1, idS2, readAll, readRes, onAll, step, res, AX.val, List.drop_zero, List.drop_succ_cons, List.take_succ_cons, List.take_zero]
  · simp -dsimp only [a36, aqT, aqU, aqN, ↓seqK, ↓blkK, ↓loopK, step, stepBin, Nat.reduceBEq, Nat.reduceBeqDiff, Nat.add_assoc nid, Nat.reduceAdd, reduceCtorEq, ↓reduceIte, Nat.reduceLeDiff, Nat.reduceBneDiff, Option.toList, ← Int.ofNat_tmod, ← Int.ofNat_tdiv, Nat.reduceLT, Int.cast_ofNat_Int, Int.reduceBEq, Int.reduceBNe, Int.reduceLT, Int.reduceLE, Int.reduceAdd, Int.reduceSub, Int.reduceMul, Int.reduceToNat, Int.reduceNeg, Int.reduceTMod, Int.reduceEq, not_false_eq_true, Int.reducePow, Int.reduceFDiv, Nat.reducePow, Nat.reduceSub, Nat.reduceMul, Nat.min_eq_left, Nat.reduceEqDiff, BEq.rfl, Int.tdiv_one, LN_succ]
    refine ⟨by unfold inI64; omega, CallX.pure (out_c _ _ _ _) ?_⟩
    simp -dsimp only [aqT, aqU, aqN, ↓seqK, ↓blkK, ↓loopK, step, stepBin, Nat.reduceBEq, Nat.reduceBeqDiff, Nat.add_assoc nid, Nat.reduceAdd, reduceCtorEq, ↓reduceIte, Nat.reduceLeDiff, Nat.reduceBneDiff, Option.toList, ← Int.ofNat_tmod, ← Int.ofNat_tdiv, Nat.reduceLT, Int.cast_ofNat_Int, Int.reduceBEq, Int.reduceBNe, Int.reduceLT, Int.reduceLE, Int.reduceAdd, Int.reduceSub, Int.reduceMul, Int.reduceToNat, Int.reduceNeg, Int.reduceTMod, Int.reduceEq, not_false_eq_true, Int.reducePow, Int.reduceFDiv, Nat.reducePow, Nat.reduceSub, Nat.reduceMul, Nat.min_eq_left, Nat.reduceEqDiff, BEq.rfl, Int.tdiv_one, LN_succ, out_00, List.getD_cons_zero]
    refine ⟨by unfold inI64; omega, CallX.pure (out_c _ _ _ _) ?_⟩
    simp -dsimp only [aqT, aqU, aqN, ↓seqK, ↓blkK, ↓loopK, step, stepBin, Nat.reduceBEq, Nat.reduceBeqDiff, Nat.add_assoc nid, Nat.reduceAdd, reduceCtorEq, ↓reduceIte, Nat.reduceLeDiff, Nat.reduceBneDiff, Option.toList, ← Int.ofNat_tmod, ← Int.ofNat_tdiv, Nat.reduceLT, Int.cast_ofNat_Int, Int.reduceBEq, Int.reduceBNe, Int.reduceLT, Int.reduceLE, Int.reduceAdd, Int.reduceSub, Int.reduceMul, Int.reduceToNat, Int.reduceNeg, Int.reduceTMod, Int.reduceEq, not_false_eq_true, Int.reducePow, Int.reduceFDiv, Nat.reducePow, Nat.reduceSub, Nat.reduceMul, Nat.min_eq_left, Nat.reduceEqDiff, BEq.rfl, Int.tdiv_one, LN_succ, out_11, List.getD_cons_zero]
    refine RetOK.pure (.inl rfl) rfl ?_
    simp [retPV, over, keys, List.map_nil, List.map_cons, List.contains_cons, List.contains_nil, Bool.or_false, Bool.or_true, Bool.true_or, Bool.false_or, beq_self_eq_true, cond_true, cond_false, HeapCov, orNil, nilSz, onBlk, srcOf, getH_hit, getH_miss, getH.eq_1, getS_hit, getS_miss, getS.eq_1, BlkCov, MEq, PVCovs, PVCov, ColsEq, AColsEq, ACEq, ColEq.refl, liveIds, SlotsCov, List.all_nil, List.all_cons, List.any_nil, List.any_cons, List.nil_append, List.cons_append, inRange, apart, nilBlk, idS1, idS2, readAll, readRes, onAll, step, res, AX.val, List.drop_zero, List.drop_succ_cons, List.take_succ_cons, List.take_zero]
theorem places_c (nl : Bool) (nid : Nat) : ACall Tryz.prog 34 [.agg [w1x nl, .str [49]]] [] nid (.sl nid 0 2) [(nid, some (.arr 54 2 [.i .i64 fun i => [0, 1].getD i 0, .i .i64 fun i => [0, 0].getD i 0]))] := by
  refine acall_run c34 (by simp [a34]) ?_
  unfold w1x
  simp -dsimp only [a34, aqT, aqU, aqN, ↓seqK, ↓blkK, ↓loopK, step, stepBin, Nat.reduceBEq, Nat.reduceBeqDiff, Nat.add_assoc nid, Nat.reduceAdd, reduceCtorEq, ↓reduceIte, Nat.reduceLeDiff, Nat.reduceBneDiff, Option.toList, ← Int.ofNat_tmod, ← Int.ofNat_tdiv, Nat.reduceLT, Int.cast_ofNat_Int, Int.reduceBEq, Int.reduceBNe, Int.reduceLT, Int.reduceLE, Int.reduceAdd, Int.reduceSub, Int.reduceMul, Int.reduceToNat, Int.reduceNeg, Int.reduceTMod, Int.reduceEq, not_false_eq_true, Int.reducePow, Int.reduceFDiv, Nat.reducePow, Nat.reduceSub, Nat.reduceMul, Nat.min_eq_left, Nat.reduceEqDiff, BEq.rfl, Int.tdiv_one, LN_succ]
  refine LP.rounds 3 ?_
  simp -dsimp only [aqT, aqU, aqN, ↓seqK, ↓blkK, ↓loopK, step, stepBin, Nat.reduceBEq, Nat.reduceBeqDiff, Nat.add_assoc nid, Nat.reduceAdd, reduceCtorEq, ↓reduceIte, Nat.reduceLeDiff, Nat.reduceBneDiff, Option.toList, ← Int.ofNat_tmod, ← Int.ofNat_tdiv, Nat.reduceLT, Int.cast_ofNat_Int, Int.reduceBEq, Int.reduceBNe, Int.reduceLT, Int.reduceLE, Int.reduceAdd, Int.reduceSub, Int.reduceMul, Int.reduceToNat, Int.reduceNeg, Int.reduceTMod, Int.reduceEq, not_false_eq_true, Int.reducePow, Int.reduceFDiv, Nat.reducePow, Nat.reduceSub, Nat.reduceMul, Nat.min_eq_left, Nat.reduceEqDiff, BEq.rfl, Int.tdiv_one, LN_succ, List.getD_cons_zero]
  refine LP.rounds 4 ?_
  simp -dsimp only [aqT, aqU, aqN, ↓seqK, ↓blkK, ↓loopK, step, stepBin, Nat.reduceBEq, Nat.reduceBeqDiff, Nat.add_assoc nid, Nat.reduceAdd, reduceCtorEq, ↓reduceIte, Nat.reduceLeDiff, Nat.reduceBneDiff, Option.toList, ← Int.ofNat_tmod, ← Int.ofNat_tdiv, Nat.reduceLT, Int.cast_ofNat_Int, Int.reduceBEq, Int.reduceBNe, Int.reduceLT, Int.reduceLE, Int.reduceAdd, Int.reduceSub, Int.reduceMul, Int.reduceToNat, Int.reduceNeg, Int.reduceTMod, Int.reduceEq, not_false_eq_true, Int.reducePow, Int.reduceFDiv, Nat.reducePow, Nat.reduceSub, Nat.reduceMul, Nat.min_eq_left, Nat.reduceEqDiff, BEq.rfl, Int.tdiv_one, LN_succ, List.getD_cons_zero]
  refine ⟨by unfold inI64; omega, by unfold inI64; omega, by unfold inI64; omega, RetOK.go [(nid, nid + 144)] [] (.inl rfl) ?_⟩
  simp [a34, retPV, over, keys, List.map_nil, List.map_cons, List.contains_cons, List.contains_nil, Bool.or_false, Bool.or_true, Bool.true_or, Bool.false_or, beq_self_eq_true, cond_true, cond_false, HeapCov, orNil, nilSz, onBlk, srcOf, getH_hit, getH_miss, getH.eq_1, getS_hit, getS_miss, getS.eq_1, BlkCov, MEq, PVCovs, PVCov, ColsEq, AColsEq, ACEq, ColEq.refl, liveIds, SlotsCov, List.all_nil, List.all_cons, List.any_nil, List.any_cons, List.nil_append, List.cons_append, inRange, apart, nilBlk, idS1, idS2, readAll, readRes, onAll, step, res, AX.val, List.drop_zero, List.drop_succ_cons, List.take_succ_cons, List.take_zero]
  constructor <;> refine ColEq.i fun i hi => ?_ <;> (have : i = 0 ∨ i = 1 := by omega) <;> rcases this with rfl | rfl <;> simp
theorem share_c (nl nlp : Bool) (nid : Nat) : ACall Tryz.prog 45 [.agg [w1x nl, .str [49]], .lit nlp 2 [.i .i64 fun i => [0, 1].getD i 0, .i .i64 fun i => [0, 0].getD i 0]] [] nid (.tup [.int .i64 1, .int .i64 2]) [] := by
  refine acall_run c45 (by simp [a45]) ?_
  unfold w1x
  simp -dsimp only [a45, aqT, aqU, aqN, ↓seqK, ↓blkK, ↓loopK, step, stepBin, Nat.reduceBEq, Nat.reduceBeqDiff, Nat.add_assoc nid, Nat.reduceAdd, reduceCtorEq, ↓reduceIte, Nat.reduceLeDiff, Nat.reduceBneDiff, Option.toList, ← Int.ofNat_tmod, ← Int.ofNat_tdiv, Nat.reduceLT, Int.cast_ofNat_Int, Int.reduceBEq, Int.reduceBNe, Int.reduceLT, Int.reduceLE, Int.reduceAdd, Int.reduceSub, Int.reduceMul, Int.reduceToNat, Int.reduceNeg, Int.reduceTMod, Int.reduceEq, not_false_eq_true, Int.reducePow, Int.reduceFDiv, Nat.reducePow, Nat.reduceSub, Nat.reduceMul, Nat.min_eq_left, Nat.reduceEqDiff, BEq.rfl, Int.tdiv_one, LN_succ]
  refine LP.rounds 4 ?_
  simp -dsimp only [aqT, aqU, aqN, ↓seqK, ↓blkK, ↓loopK, step, stepBin, Nat.reduceBEq, Nat.reduceBeqDiff, Nat.add_assoc nid, Nat.reduceAdd, reduceCtorEq, ↓reduceIte, Nat.reduceLeDiff, Nat.reduceBneDiff, Option.toList, ← Int.ofNat_tmod, ← Int.ofNat_tdiv, Nat.reduceLT, Int.cast_ofNat_Int, Int.reduceBEq, Int.reduceBNe, Int.reduceLT, Int.reduceLE, Int.reduceAdd, Int.reduceSub, Int.reduceMul, Int.reduceToNat, Int.reduceNeg, Int.reduceTMod, Int.reduceEq, not_false_eq_true, Int.reducePow, Int.reduceFDiv, Nat.reducePow, Nat.reduceSub, Nat.reduceMul, Nat.min_eq_left, Nat.reduceEqDiff, BEq.rfl, Int.tdiv_one, LN_succ, List.getD_cons_zero, List.getD_cons_succ]
  refine CallO.pure (at_1x nl 0 49 (.inl ⟨rfl, rfl⟩) _) ?_
  simp -dsimp only [aqT, aqU, aqN, ↓seqK, ↓blkK, ↓loopK, step, stepBin, Nat.reduceBEq, Nat.reduceBeqDiff, Nat.add_assoc nid, Nat.reduceAdd, reduceCtorEq, ↓reduceIte, Nat.reduceLeDiff, Nat.reduceBneDiff, Option.toList, ← Int.ofNat_tmod, ← Int.ofNat_tdiv, Nat.reduceLT, Int.cast_ofNat_Int, Int.reduceBEq, Int.reduceBNe, Int.reduceLT, Int.reduceLE, Int.reduceAdd, Int.reduceSub, Int.reduceMul, Int.reduceToNat, Int.reduceNeg, Int.reduceTMod, Int.reduceEq, not_false_eq_true, Int.reducePow, Int.reduceFDiv, Nat.reducePow, Nat.reduceSub, Nat.reduceMul, Nat.min_eq_left, Nat.reduceEqDiff, BEq.rfl, Int.tdiv_one, LN_succ]
  refine CallO.pure (tested_c _ _) ?_
  rw [t49]
  simp -dsimp only [aqT, aqU, aqN, ↓seqK, ↓blkK, ↓loopK, step, stepBin, Nat.reduceBEq, Nat.reduceBeqDiff, Nat.add_assoc nid, Nat.reduceAdd, reduceCtorEq, ↓reduceIte, Nat.reduceLeDiff, Nat.reduceBneDiff, Option.toList, ← Int.ofNat_tmod, ← Int.ofNat_tdiv, Nat.reduceLT, Int.cast_ofNat_Int, Int.reduceBEq, Int.reduceBNe, Int.reduceLT, Int.reduceLE, Int.reduceAdd, Int.reduceSub, Int.reduceMul, Int.reduceToNat, Int.reduceNeg, Int.reduceTMod, Int.reduceEq, not_false_eq_true, Int.reducePow, Int.reduceFDiv, Nat.reducePow, Nat.reduceSub, Nat.reduceMul, Nat.min_eq_left, Nat.reduceEqDiff, BEq.rfl, Int.tdiv_one, LN_succ]
  refine ⟨by unfold inI64; omega, CallO.pure (passed_c _ _ _ _ _ _ _ rfl) ?_⟩
  rw [p49]
  simp -dsimp only [aqT, aqU, aqN, ↓seqK, ↓blkK, ↓loopK, step, stepBin, Nat.reduceBEq, Nat.reduceBeqDiff, Nat.add_assoc nid, Nat.reduceAdd, reduceCtorEq, ↓reduceIte, Nat.reduceLeDiff, Nat.reduceBneDiff, Option.toList, ← Int.ofNat_tmod, ← Int.ofNat_tdiv, Nat.reduceLT, Int.cast_ofNat_Int, Int.reduceBEq, Int.reduceBNe, Int.reduceLT, Int.reduceLE, Int.reduceAdd, Int.reduceSub, Int.reduceMul, Int.reduceToNat, Int.reduceNeg, Int.reduceTMod, Int.reduceEq, not_false_eq_true, Int.reducePow, Int.reduceFDiv, Nat.reducePow, Nat.reduceSub, Nat.reduceMul, Nat.min_eq_left, Nat.reduceEqDiff, BEq.rfl, Int.tdiv_one, LN_succ, List.getD_cons_zero, List.getD_cons_succ]
  refine ⟨by unfold inI64; omega, by unfold inI64; omega, CallO.pure (at_1x nl 1 120 (.inr ⟨rfl, rfl⟩) _) ?_⟩
  simp -dsimp only [aqT, aqU, aqN, ↓seqK, ↓blkK, ↓loopK, step, stepBin, Nat.reduceBEq, Nat.reduceBeqDiff, Nat.add_assoc nid, Nat.reduceAdd, reduceCtorEq, ↓reduceIte, Nat.reduceLeDiff, Nat.reduceBneDiff, Option.toList, ← Int.ofNat_tmod, ← Int.ofNat_tdiv, Nat.reduceLT, Int.cast_ofNat_Int, Int.reduceBEq, Int.reduceBNe, Int.reduceLT, Int.reduceLE, Int.reduceAdd, Int.reduceSub, Int.reduceMul, Int.reduceToNat, Int.reduceNeg, Int.reduceTMod, Int.reduceEq, not_false_eq_true, Int.reducePow, Int.reduceFDiv, Nat.reducePow, Nat.reduceSub, Nat.reduceMul, Nat.min_eq_left, Nat.reduceEqDiff, BEq.rfl, Int.tdiv_one, LN_succ]
  refine CallO.pure (tested_c _ _) ?_
  rw [t120]
  simp -dsimp only [aqT, aqU, aqN, ↓seqK, ↓blkK, ↓loopK, step, stepBin, Nat.reduceBEq, Nat.reduceBeqDiff, Nat.add_assoc nid, Nat.reduceAdd, reduceCtorEq, ↓reduceIte, Nat.reduceLeDiff, Nat.reduceBneDiff, Option.toList, ← Int.ofNat_tmod, ← Int.ofNat_tdiv, Nat.reduceLT, Int.cast_ofNat_Int, Int.reduceBEq, Int.reduceBNe, Int.reduceLT, Int.reduceLE, Int.reduceAdd, Int.reduceSub, Int.reduceMul, Int.reduceToNat, Int.reduceNeg, Int.reduceTMod, Int.reduceEq, not_false_eq_true, Int.reducePow, Int.reduceFDiv, Nat.reducePow, Nat.reduceSub, Nat.reduceMul, Nat.min_eq_left, Nat.reduceEqDiff, BEq.rfl, Int.tdiv_one, LN_succ]
  refine ⟨by unfold inI64; omega, CallO.pure (passed_c _ _ _ _ _ _ _ rfl) ?_⟩
  rw [p120]
  simp -dsimp only [aqT, aqU, aqN, ↓seqK, ↓blkK, ↓loopK, step, stepBin, Nat.reduceBEq, Nat.reduceBeqDiff, Nat.add_assoc nid, Nat.reduceAdd, reduceCtorEq, ↓reduceIte, Nat.reduceLeDiff, Nat.reduceBneDiff, Option.toList, ← Int.ofNat_tmod, ← Int.ofNat_tdiv, Nat.reduceLT, Int.cast_ofNat_Int, Int.reduceBEq, Int.reduceBNe, Int.reduceLT, Int.reduceLE, Int.reduceAdd, Int.reduceSub, Int.reduceMul, Int.reduceToNat, Int.reduceNeg, Int.reduceTMod, Int.reduceEq, not_false_eq_true, Int.reducePow, Int.reduceFDiv, Nat.reducePow, Nat.reduceSub, Nat.reduceMul, Nat.min_eq_left, Nat.reduceEqDiff, BEq.rfl, Int.tdiv_one, LN_succ, List.getD_cons_zero, List.getD_cons_succ]
  refine ⟨by unfold inI64; omega, RetOK.pure (.inl rfl) rfl ?_⟩
  simp [retPV, over, keys, List.map_nil, List.map_cons, List.contains_cons, List.contains_nil, Bool.or_false, Bool.or_true, Bool.true_or, Bool.false_or, beq_self_eq_true, cond_true, cond_false, HeapCov, orNil, nilSz, onBlk, srcOf, getH_hit, getH_miss, getH.eq_1, getS_hit, getS_miss, getS.eq_1, BlkCov, MEq, PVCovs, PVCov, ColsEq, AColsEq, ACEq, ColEq.refl, liveIds, SlotsCov, List.all_nil, List.all_cons, List.any_nil, List.any_cons, List.nil_append, List.cons_append, inRange, apart, nilBlk, idS1, idS2, readAll, readRes, onAll, step, res, AX.val, List.drop_zero, List.drop_succ_cons, List.take_succ_cons, List.take_zero]
theorem checkWafer_c (nl : Bool) (nid : Nat) : ACall Tryz.prog 32 [.agg [w1x nl, .str [49]]] [] nid (.int .i64 0) [] := by
  refine acall_run c32 (by simp [a32]) ?_
  unfold w1x
  simp -dsimp only [a32, aqT, aqU, aqN, ↓seqK, ↓blkK, ↓loopK, step, stepBin, Nat.reduceBEq, Nat.reduceBeqDiff, Nat.add_assoc nid, Nat.reduceAdd, reduceCtorEq, ↓reduceIte, Nat.reduceLeDiff, Nat.reduceBneDiff, Option.toList, ← Int.ofNat_tmod, ← Int.ofNat_tdiv, Nat.reduceLT, Int.cast_ofNat_Int, Int.reduceBEq, Int.reduceBNe, Int.reduceLT, Int.reduceLE, Int.reduceAdd, Int.reduceSub, Int.reduceMul, Int.reduceToNat, Int.reduceNeg, Int.reduceTMod, Int.reduceEq, not_false_eq_true, Int.reducePow, Int.reduceFDiv, Nat.reducePow, Nat.reduceSub, Nat.reduceMul, Nat.min_eq_left, Nat.reduceEqDiff, BEq.rfl, Int.tdiv_one, LN_succ]
  refine LP.rounds 3 ?_
  simp -dsimp only [aqT, aqU, aqN, ↓seqK, ↓blkK, ↓loopK, step, stepBin, Nat.reduceBEq, Nat.reduceBeqDiff, Nat.add_assoc nid, Nat.reduceAdd, reduceCtorEq, ↓reduceIte, Nat.reduceLeDiff, Nat.reduceBneDiff, Option.toList, ← Int.ofNat_tmod, ← Int.ofNat_tdiv, Nat.reduceLT, Int.cast_ofNat_Int, Int.reduceBEq, Int.reduceBNe, Int.reduceLT, Int.reduceLE, Int.reduceAdd, Int.reduceSub, Int.reduceMul, Int.reduceToNat, Int.reduceNeg, Int.reduceTMod, Int.reduceEq, not_false_eq_true, Int.reducePow, Int.reduceFDiv, Nat.reducePow, Nat.reduceSub, Nat.reduceMul, Nat.min_eq_left, Nat.reduceEqDiff, BEq.rfl, Int.tdiv_one, LN_succ, List.getD_cons_zero, List.getD_cons_succ, s1x]
  refine CallO.pure (odd_c' [49, 120] _ (by simp) (fun i hi => by
    have : i = 0 ∨ i = 1 := by simp at hi; omega
    rcases this with rfl | rfl <;> decide)) ?_
  simp -dsimp only [aqT, aqU, aqN, ↓seqK, ↓blkK, ↓loopK, step, stepBin, Nat.reduceBEq, Nat.reduceBeqDiff, Nat.add_assoc nid, Nat.reduceAdd, reduceCtorEq, ↓reduceIte, Nat.reduceLeDiff, Nat.reduceBneDiff, Option.toList, ← Int.ofNat_tmod, ← Int.ofNat_tdiv, Nat.reduceLT, Int.cast_ofNat_Int, Int.reduceBEq, Int.reduceBNe, Int.reduceLT, Int.reduceLE, Int.reduceAdd, Int.reduceSub, Int.reduceMul, Int.reduceToNat, Int.reduceNeg, Int.reduceTMod, Int.reduceEq, not_false_eq_true, Int.reducePow, Int.reduceFDiv, Nat.reducePow, Nat.reduceSub, Nat.reduceMul, Nat.min_eq_left, Nat.reduceEqDiff, BEq.rfl, Int.tdiv_one, LN_succ, List.getD_cons_zero, List.getD_cons_succ, s1x]
  refine ⟨by unfold inI64; omega, LP.rounds 3 ?_⟩
  simp -dsimp only [aqT, aqU, aqN, ↓seqK, ↓blkK, ↓loopK, step, stepBin, Nat.reduceBEq, Nat.reduceBeqDiff, Nat.add_assoc nid, Nat.reduceAdd, reduceCtorEq, ↓reduceIte, Nat.reduceLeDiff, Nat.reduceBneDiff, Option.toList, ← Int.ofNat_tmod, ← Int.ofNat_tdiv, Nat.reduceLT, Int.cast_ofNat_Int, Int.reduceBEq, Int.reduceBNe, Int.reduceLT, Int.reduceLE, Int.reduceAdd, Int.reduceSub, Int.reduceMul, Int.reduceToNat, Int.reduceNeg, Int.reduceTMod, Int.reduceEq, not_false_eq_true, Int.reducePow, Int.reduceFDiv, Nat.reducePow, Nat.reduceSub, Nat.reduceMul, Nat.min_eq_left, Nat.reduceEqDiff, BEq.rfl, Int.tdiv_one, LN_succ, List.getD_cons_zero, List.getD_cons_succ, s1x]
  refine CallO.pure (isBin_c _ _) ?_
  have b49 : isBinV ((UInt8.toNat 49 : Nat) : Int) = true := by decide
  rw [b49]
  simp -dsimp only [aqT, aqU, aqN, ↓seqK, ↓blkK, ↓loopK, step, stepBin, Nat.reduceBEq, Nat.reduceBeqDiff, Nat.add_assoc nid, Nat.reduceAdd, reduceCtorEq, ↓reduceIte, Nat.reduceLeDiff, Nat.reduceBneDiff, Option.toList, ← Int.ofNat_tmod, ← Int.ofNat_tdiv, Nat.reduceLT, Int.cast_ofNat_Int, Int.reduceBEq, Int.reduceBNe, Int.reduceLT, Int.reduceLE, Int.reduceAdd, Int.reduceSub, Int.reduceMul, Int.reduceToNat, Int.reduceNeg, Int.reduceTMod, Int.reduceEq, not_false_eq_true, Int.reducePow, Int.reduceFDiv, Nat.reducePow, Nat.reduceSub, Nat.reduceMul, Nat.min_eq_left, Nat.reduceEqDiff, BEq.rfl, Int.tdiv_one, LN_succ, List.getD_cons_zero, List.getD_cons_succ, s1x]
  refine ⟨by unfold inI64; omega, RetOK.pure (.inl rfl) rfl ?_⟩
  simp [retPV, over, keys, List.map_nil, List.map_cons, List.contains_cons, List.contains_nil, Bool.or_false, Bool.or_true, Bool.true_or, Bool.false_or, beq_self_eq_true, cond_true, cond_false, HeapCov, orNil, nilSz, onBlk, srcOf, getH_hit, getH_miss, getH.eq_1, getS_hit, getS_miss, getS.eq_1, BlkCov, MEq, PVCovs, PVCov, ColsEq, AColsEq, ACEq, ColEq.refl, liveIds, SlotsCov, List.all_nil, List.all_cons, List.any_nil, List.any_cons, List.nil_append, List.cons_append, inRange, apart, nilBlk, idS1, idS2, readAll, readRes, onAll, step, res, AX.val, List.drop_zero, List.drop_succ_cons, List.take_succ_cons, List.take_zero]
theorem yield_c (nl : Bool) (nid : Nat) : ACall Tryz.prog 48 [.agg [w1x nl, .str [49]]] [] nid (.tup [.agg [.int .i64 1, .int .i64 2], .bool true, .int .i64 0]) [] := by
  refine acall_run c48 (by simp [a48]) ?_
  unfold w1x
  simp -dsimp only [a48, aqT, aqU, aqN, ↓seqK, ↓blkK, ↓loopK, step, stepBin, Nat.reduceBEq, Nat.reduceBeqDiff, Nat.add_assoc nid, Nat.reduceAdd, reduceCtorEq, ↓reduceIte, Nat.reduceLeDiff, Nat.reduceBneDiff, Option.toList, ← Int.ofNat_tmod, ← Int.ofNat_tdiv, Nat.reduceLT, Int.cast_ofNat_Int, Int.reduceBEq, Int.reduceBNe, Int.reduceLT, Int.reduceLE, Int.reduceAdd, Int.reduceSub, Int.reduceMul, Int.reduceToNat, Int.reduceNeg, Int.reduceTMod, Int.reduceEq, not_false_eq_true, Int.reducePow, Int.reduceFDiv, Nat.reducePow, Nat.reduceSub, Nat.reduceMul, Nat.min_eq_left, Nat.reduceEqDiff, BEq.rfl, Int.tdiv_one, LN_succ]
  refine CallO.pure (checkWafer_c nl _) ?_
  simp -dsimp only [aqT, aqU, aqN, ↓seqK, ↓blkK, ↓loopK, step, stepBin, Nat.reduceBEq, Nat.reduceBeqDiff, Nat.add_assoc nid, Nat.reduceAdd, reduceCtorEq, ↓reduceIte, Nat.reduceLeDiff, Nat.reduceBneDiff, Option.toList, ← Int.ofNat_tmod, ← Int.ofNat_tdiv, Nat.reduceLT, Int.cast_ofNat_Int, Int.reduceBEq, Int.reduceBNe, Int.reduceLT, Int.reduceLE, Int.reduceAdd, Int.reduceSub, Int.reduceMul, Int.reduceToNat, Int.reduceNeg, Int.reduceTMod, Int.reduceEq, not_false_eq_true, Int.reducePow, Int.reduceFDiv, Nat.reducePow, Nat.reduceSub, Nat.reduceMul, Nat.min_eq_left, Nat.reduceEqDiff, BEq.rfl, Int.tdiv_one, LN_succ]
  refine CallX.pure (places_c nl _) ?_
  simp -dsimp only [aqT, aqU, aqN, ↓seqK, ↓blkK, ↓loopK, step, stepBin, Nat.reduceBEq, Nat.reduceBeqDiff, Nat.add_assoc nid, Nat.reduceAdd, reduceCtorEq, ↓reduceIte, Nat.reduceLeDiff, Nat.reduceBneDiff, Option.toList, ← Int.ofNat_tmod, ← Int.ofNat_tdiv, Nat.reduceLT, Int.cast_ofNat_Int, Int.reduceBEq, Int.reduceBNe, Int.reduceLT, Int.reduceLE, Int.reduceAdd, Int.reduceSub, Int.reduceMul, Int.reduceToNat, Int.reduceNeg, Int.reduceTMod, Int.reduceEq, not_false_eq_true, Int.reducePow, Int.reduceFDiv, Nat.reducePow, Nat.reduceSub, Nat.reduceMul, Nat.min_eq_left, Nat.reduceEqDiff, BEq.rfl, Int.tdiv_one, LN_succ]
  refine CallX.gave [nid + 44] (fun nl' => by
    simp only [lends, lend, aqT, aqU, aqN, ↓seqK, ↓blkK, ↓loopK, step, stepBin, Nat.reduceBEq, Nat.reduceBeqDiff, Nat.add_assoc nid, Nat.reduceAdd, reduceCtorEq, ↓reduceIte, Nat.reduceLeDiff, Nat.reduceBneDiff, Option.toList, ← Int.ofNat_tmod, ← Int.ofNat_tdiv, Nat.reduceLT]
    exact share_c nl (nl' _) _) (by simp [getH]) ?_
  simp -dsimp only [aqT, aqU, aqN, ↓seqK, ↓blkK, ↓loopK, step, stepBin, Nat.reduceBEq, Nat.reduceBeqDiff, Nat.add_assoc nid, Nat.reduceAdd, reduceCtorEq, ↓reduceIte, Nat.reduceLeDiff, Nat.reduceBneDiff, Option.toList, ← Int.ofNat_tmod, ← Int.ofNat_tdiv, Nat.reduceLT, Int.cast_ofNat_Int, Int.reduceBEq, Int.reduceBNe, Int.reduceLT, Int.reduceLE, Int.reduceAdd, Int.reduceSub, Int.reduceMul, Int.reduceToNat, Int.reduceNeg, Int.reduceTMod, Int.reduceEq, not_false_eq_true, Int.reducePow, Int.reduceFDiv, Nat.reducePow, Nat.reduceSub, Nat.reduceMul, Nat.min_eq_left, Nat.reduceEqDiff, BEq.rfl, Int.tdiv_one, LN_succ, kill]
  refine CallO.pure (frac12_c _) ?_
  simp -dsimp only [aqT, aqU, aqN, ↓seqK, ↓blkK, ↓loopK, step, stepBin, Nat.reduceBEq, Nat.reduceBeqDiff, Nat.add_assoc nid, Nat.reduceAdd, reduceCtorEq, ↓reduceIte, Nat.reduceLeDiff, Nat.reduceBneDiff, Option.toList, ← Int.ofNat_tmod, ← Int.ofNat_tdiv, Nat.reduceLT, Int.cast_ofNat_Int, Int.reduceBEq, Int.reduceBNe, Int.reduceLT, Int.reduceLE, Int.reduceAdd, Int.reduceSub, Int.reduceMul, Int.reduceToNat, Int.reduceNeg, Int.reduceTMod, Int.reduceEq, not_false_eq_true, Int.reducePow, Int.reduceFDiv, Nat.reducePow, Nat.reduceSub, Nat.reduceMul, Nat.min_eq_left, Nat.reduceEqDiff, BEq.rfl, Int.tdiv_one, LN_succ]
  refine RetOK.go [] [] (.inl rfl) ?_
  simp [a48, retPV, over, keys, List.map_nil, List.map_cons, List.contains_cons, List.contains_nil, Bool.or_false, Bool.or_true, Bool.true_or, Bool.false_or, beq_self_eq_true, cond_true, cond_false, HeapCov, orNil, nilSz, onBlk, srcOf, getH_hit, getH_miss, getH.eq_1, getS_hit, getS_miss, getS.eq_1, BlkCov, MEq, PVCovs, PVCov, ColsEq, AColsEq, ACEq, ColEq.refl, liveIds, SlotsCov, List.all_nil, List.all_cons, List.any_nil, List.any_cons, List.nil_append, List.cons_append, inRange, apart, nilBlk, idS1, idS2, readAll, readRes, onAll, step, res, AX.val, List.drop_zero, List.drop_succ_cons, List.take_succ_cons, List.take_zero]
end Go.Proofs.YtmgfcjblclanmaaGreat
namespace Go.Proofs.YtmgfcjblclanmaaGreat
open Go.RowKit
theorem probed_c (nid : Nat) : ACall Tryz.prog 13 [] [] nid (.bool true) [] := by
  refine acall_run c13 (by simp [a13]) ?_
  simp -dsimp only [aqT, aqU, aqN, ↓seqK, ↓blkK, ↓loopK, step, stepBin, Nat.reduceBEq, Nat.reduceBeqDiff, Nat.add_assoc nid, Nat.reduceAdd, reduceCtorEq, ↓reduceIte, Nat.reduceLeDiff, Nat.reduceBneDiff, Option.toList, ← Int.ofNat_tmod, ← Int.ofNat_tdiv, Nat.reduceLT, a13]
  refine CallO.gave [nid + 4] (fun nl' => by
    simp only [lends, lend, aqT, aqU, aqN, ↓seqK, ↓blkK, ↓loopK, step, stepBin, Nat.reduceBEq, Nat.reduceBeqDiff, Nat.add_assoc nid, Nat.reduceAdd, reduceCtorEq, ↓reduceIte, Nat.reduceLeDiff, Nat.reduceBneDiff, Option.toList, ← Int.ofNat_tmod, ← Int.ofNat_tdiv, Nat.reduceLT]
    exact yield_c (nl' _) _) (by simp [getH]) ?_
  simp -dsimp only [aqT, aqU, aqN, aqS, ↓seqK, ↓blkK, ↓loopK, step, stepBin, Nat.add_assoc nid, ↓reduceIte, Option.toList, ← Int.ofNat_tmod, ← Int.ofNat_tdiv, simprocAttr, BEq.rfl, LN_succ, kill]
  refine RetOK.pure (.inl rfl) rfl ?_
  simp [cvT, step, res]
end Go.Proofs.YtmgfcjblclanmaaGreat
namespace Go.Proofs.YtmgfcjblclanmaaGreat
open Go.RowKit
def spanW (x lo hi : Int) : Int := if outB x lo hi = true then 1 else 0
theorem spanW_c (x lo hi : Int) (nid : Nat) : ACall Tryz.prog 14 [.int .i64 x, .int .i64 lo, .int .i64 hi] [] nid (.int .i64 (spanW x lo hi)) [] := by
  refine acall_run c14 (by simp [a14]) ?_
  simp -dsimp only [aqT, aqU, aqN, aqS, ↓seqK, ↓blkK, ↓loopK, step, stepBin, Nat.add_assoc nid, ↓reduceIte, Option.toList, ← Int.ofNat_tmod, ← Int.ofNat_tdiv, simprocAttr, BEq.rfl, LN_succ, a14]
  refine CallO.pure (in_c _ _ _ _) ?_
  simp -dsimp only [aqT, aqU, aqN, aqS, ↓seqK, ↓blkK, ↓loopK, step, stepBin, Nat.add_assoc nid, ↓reduceIte, Option.toList, ← Int.ofNat_tmod, ← Int.ofNat_tdiv, simprocAttr, BEq.rfl, LN_succ, Bool.not_not]
  unfold spanW
  cases h : outB x lo hi <;> simp -dsimp only [aqT, aqU, aqN, aqS, ↓seqK, ↓blkK, ↓loopK, step, stepBin, Nat.add_assoc nid, ↓reduceIte, Option.toList, ← Int.ofNat_tmod, ← Int.ofNat_tdiv, simprocAttr, BEq.rfl, LN_succ]
  · refine RetOK.pure (.inl rfl) rfl ?_
    simp [cvT, step, res]
  · refine RetOK.pure (.inl rfl) rfl ?_
    simp [cvT, step, res]
def LstOk (a : Int) : Prop := (1 ≤ a ∧ a ≤ 3) ∨ a = 0 ∨ a = 3601
def MnyOk (b : Int) : Prop := (1 ≤ b ∧ b ≤ 8) ∨ b = 0 ∨ b = 9
theorem lst_ok (i : Nat) : LstOk ([1, 1, 2, 3, 0, 3601].getD i 0) := by
  unfold LstOk
  rcases i with _ | _ | _ | _ | _ | _ | i <;> simp
theorem mny_ok (i : Nat) : MnyOk ([1, 2, 3, 5, 0, 9].getD i 0) := by
  unfold MnyOk
  rcases i with _ | _ | _ | _ | _ | _ | i <;> simp
theorem sameNN_c (nid : Nat) : ACall Tryz.prog 12 [.agg [.lit true 0 [], .str []], .agg [.lit true 0 [], .str []]] [] nid (.bool true) [] := by
  have he := fun k => ACall.nilArg (az := [.lit true 0 [], .lit true 0 []]) 1 (c := []) (c' := [.s fun i => ([] : List (List UInt8)).getD i []]) rfl (ACall.nilArg (az := [.lit true 0 [], litS true []]) 0 (c := []) (c' := [.s fun i => ([] : List (List UInt8)).getD i []]) rfl (equalS_c true true [] [] k (by simp) (by simp)))
  refine acall_run c12 (by simp [a12]) ?_
  simp -dsimp only [aqT, aqU, aqN, aqS, ↓seqK, ↓blkK, ↓loopK, step, stepBin, Nat.add_assoc nid, ↓reduceIte, Option.toList, ← Int.ofNat_tmod, ← Int.ofNat_tdiv, simprocAttr, BEq.rfl, LN_succ, a12]
  refine CallO.pure (he _) ?_
  simp -dsimp only [aqT, aqU, aqN, aqS, ↓seqK, ↓blkK, ↓loopK, step, stepBin, Nat.add_assoc nid, ↓reduceIte, Option.toList, ← Int.ofNat_tmod, ← Int.ofNat_tdiv, simprocAttr, BEq.rfl, LN_succ]
  refine RetOK.pure (.inl rfl) rfl ?_
  simp [cvT, step, res]
set_option maxHeartbeats 16000000 in
theorem wafersAnalysed_c (nl : Bool) (A : List Int) (nid : Nat) (hA : A.length ≤ 17592186044416) : ACall Tryz.prog 3 [litI nl A] [] nid (.bool true) [] := by
  refine acall_sr c3 (by simp [a3]) ?_
  unfold a3 litI
  refine SR.seq ?_
  simp -dsimp only [aqT, aqU, aqN, aqS, ↓seqK, ↓blkK, ↓loopK, step, stepBin, Nat.add_assoc nid, ↓reduceIte, Option.toList, ← Int.ofNat_tmod, ← Int.ofNat_tdiv, simprocAttr, BEq.rfl, LN_succ]
  refine SR.seq ?_
  simp -dsimp only [aqT, aqU, aqN, aqS, ↓seqK, ↓blkK, ↓loopK, step, stepBin, Nat.add_assoc nid, ↓reduceIte, Option.toList, ← Int.ofNat_tmod, ← Int.ofNat_tdiv, simprocAttr, BEq.rfl, LN_succ]
  refine SR.seqEx (ι := {x : Waf × Int × Int // WafSmall x.1 ∧ LstOk x.2.1 ∧ MnyOk x.2.2}) (fun x => ⟨[(4, .ptr (nid + 4) 0), (5, .int .i64 x.1.2.1), (6, .int .i64 x.1.2.2)], [(nid + 4, some (.box 28 [.sl (nid + 8) 0 x.1.1.rows.length, .str x.1.1.pass])), (nid + 8, arrS x.1.1.rows)], nid + 200, nid⟩) ?_ (fun ⟨⟨W, a, b⟩, hWs, ha, hb⟩ => ?_)
  · simp -dsimp only [aqT, aqU, aqN, aqS, ↓seqK, ↓blkK, ↓loopK, step, stepBin, Nat.add_assoc nid, ↓reduceIte, Option.toList, ← Int.ofNat_tmod, ← Int.ofNat_tdiv, simprocAttr, BEq.rfl, LN_succ]
    refine CallO.onE (waferOfX (nid + 12) _ nl A 0 (by omega) (by omega) hA) (subH_get (by simp only [aqT, aqU, aqN, aqS, ↓seqK, ↓blkK, ↓loopK, step, stepBin, Nat.add_assoc nid, ↓reduceIte, Option.toList, ← Int.ofNat_tmod, ← Int.ofNat_tdiv, simprocAttr, BEq.rfl, LN_succ, strmC])) (fun x hx => ?_)
    obtain ⟨hx1, hx2⟩ := hx
    unfold arrS
    simp -dsimp only [aqT, aqU, aqN, aqS, ↓seqK, ↓blkK, ↓loopK, step, stepBin, Nat.add_assoc nid, ↓reduceIte, Option.toList, ← Int.ofNat_tmod, ← Int.ofNat_tdiv, simprocAttr, BEq.rfl, LN_succ]
    refine CallO.pick_go (T := 3) (nl := nl) (A := A) (p := x.2) (g := fun i => [1, 1, 2, 3, 0, 3601].getD i 0) (by simp only [aqT, aqU, aqN, aqS, ↓seqK, ↓blkK, ↓loopK, step, stepBin, Nat.add_assoc nid, ↓reduceIte, Option.toList, ← Int.ofNat_tmod, ← Int.ofNat_tdiv, simprocAttr, BEq.rfl, LN_succ]) (by simp only [aqT, aqU, aqN, aqS, ↓seqK, ↓blkK, ↓loopK, step, stepBin, Nat.add_assoc nid, ↓reduceIte, Option.toList, ← Int.ofNat_tmod, ← Int.ofNat_tdiv, simprocAttr, BEq.rfl, LN_succ]) (by simp only [aqT, aqU, aqN, aqS, ↓seqK, ↓blkK, ↓loopK, step, stepBin, Nat.add_assoc nid, ↓reduceIte, Option.toList, ← Int.ofNat_tmod, ← Int.ofNat_tdiv, simprocAttr, BEq.rfl, LN_succ]) (by omega) (by omega) hA (by omega) (by omega) ?_
    have h1 := lst_ok (pickI A x.2 6)
    generalize [1, 1, 2, 3, 0, 3601].getD (pickI A x.2 6) (0 : Int) = a at *
    simp -dsimp only [aqT, aqU, aqN, aqS, ↓seqK, ↓blkK, ↓loopK, step, stepBin, Nat.add_assoc nid, ↓reduceIte, Option.toList, ← Int.ofNat_tmod, ← Int.ofNat_tdiv, simprocAttr, BEq.rfl, LN_succ]
    refine CallO.pick_go (T := 3) (nl := nl) (A := A) (p := x.2 + 1) (g := fun i => [1, 2, 3, 5, 0, 9].getD i 0) (by simp only [aqT, aqU, aqN, aqS, ↓seqK, ↓blkK, ↓loopK, step, stepBin, Nat.add_assoc nid, ↓reduceIte, Option.toList, ← Int.ofNat_tmod, ← Int.ofNat_tdiv, simprocAttr, BEq.rfl, LN_succ]) (by simp only [aqT, aqU, aqN, aqS, ↓seqK, ↓blkK, ↓loopK, step, stepBin, Nat.add_assoc nid, ↓reduceIte, Option.toList, ← Int.ofNat_tmod, ← Int.ofNat_tdiv, simprocAttr, BEq.rfl, LN_succ]) (by simp only [aqT, aqU, aqN, aqS, ↓seqK, ↓blkK, ↓loopK, step, stepBin, Nat.add_assoc nid, ↓reduceIte, Option.toList, ← Int.ofNat_tmod, ← Int.ofNat_tdiv, simprocAttr, BEq.rfl, LN_succ]) (by omega) (by omega) hA (by omega) (by omega) ?_
    have h2 := mny_ok (pickI A (x.2 + 1) 6)
    generalize [1, 2, 3, 5, 0, 9].getD (pickI A (x.2 + 1) 6) (0 : Int) = b at *
    simp -dsimp only [aqT, aqU, aqN, aqS, ↓seqK, ↓blkK, ↓loopK, step, stepBin, Nat.add_assoc nid, ↓reduceIte, Option.toList, ← Int.ofNat_tmod, ← Int.ofNat_tdiv, simprocAttr, BEq.rfl, LN_succ]
    refine ⟨⟨(x.1, a, b), hx1, h1, h2⟩, Cov.go [(nid + 4, nid + 52), (nid + 8, nid + 24)] [] ?_⟩
    simp [cvT, step, res, arrS, strmC]
  simp only at hWs ha hb
  have hbd := hWs.bd
  have hpl : W.pass.length ≤ 1000000 := by have := hWs.pass; omega
  unfold arrS
  refine SR.freezeB [nid + 8] (fun nl' => ?_)
  simp only [frzS, frzH, frzBlk, lends, lend, kill, aqT, aqU, aqN, aqS, ↓seqK, ↓blkK, ↓loopK, step, stepBin, Nat.add_assoc nid, ↓reduceIte, Option.toList, ← Int.ofNat_tmod, ← Int.ofNat_tdiv, simprocAttr, BEq.rfl, LN_succ]
  generalize nl' (nid + 8) = nw
  have hwf := fun k => waferFault_all nw W k hbd
  unfold wafP at hwf
  refine SR.seqTo ⟨[(7, .int .i64 (waferV W)), (4, .ptr (nid + 4) 0), (5, .int .i64 a), (6, .int .i64 b)], [(nid + 4, boxW nw W)], nid + 400, nid⟩ ?_ ?_
  · simp -dsimp only [aqT, aqU, aqN, aqS, ↓seqK, ↓blkK, ↓loopK, step, stepBin, Nat.add_assoc nid, ↓reduceIte, Option.toList, ← Int.ofNat_tmod, ← Int.ofNat_tdiv, simprocAttr, BEq.rfl, LN_succ]
    refine CallO.pure (hwf _) ?_
    simp -dsimp only [aqT, aqU, aqN, aqS, ↓seqK, ↓blkK, ↓loopK, step, stepBin, Nat.add_assoc nid, ↓reduceIte, Option.toList, ← Int.ofNat_tmod, ← Int.ofNat_tdiv, simprocAttr, BEq.rfl, LN_succ]
    refine Cov.go [] [] ?_
    simp [cvT, step, res, boxW, -List.getD_eq_getElem?_getD]
  by_cases hv : waferV W = 0
  · have hW := waferV_ok hv
    have hps := probed_c
    rw [hv]
    obtain ⟨C, hCm⟩ : ∃ C : List (List Pt), C.length ≤ 60000 ∧ ((spanW a 1 3600 = 1 ∧ C = [] ∧ ∀ k, ACall Tryz.prog 7 [wafP nw W, .int .i64 a] [] k (.tup [.lit true 0 [], .int .i64 1]) []) ∨ (spanW a 1 3600 = 0 ∧ (∀ i, (C.getD i []).length ≤ 60000) ∧ (∀ k, ACall Tryz.prog 7 [wafP nw W, .int .i64 a] [] k (.tup [.sl k 0 C.length, .int .i64 0]) [(k, arrCl C)]) ∧ ∀ nl k, ACall Tryz.prog 16 [wafP nl W, .int .i64 a] [] k (.sl k 0 C.length) [(k, arrCl C)])) := by
      have hplv : (plV W).length ≤ 60000 := plTo_bd hW (Nat.le_refl _)
      by_cases ho : outB a 1 3600 = true
      · exact ⟨[], by simp, .inl ⟨by unfold spanW; rw [if_pos ho], rfl, fun k => clusters_arg nw W a k hbd hv ho⟩⟩
      · have h12 : 1 ≤ a ∧ a ≤ 3600 := by unfold outB at ho; simp at ho; exact ho
        have ea : ((a.toNat : Nat) : Int) = a := by omega
        refine ⟨bigC a.toNat (clV W), ?_, .inr ⟨by unfold spanW; rw [if_neg ho], fun i => ?_, fun k => ?_, fun nl k => ?_⟩⟩
        · have h1 := bigC_len a.toNat (clV W)
          have h2 := clTo_len (W := W) (plV W).length (Nat.le_refl _)
          unfold clV at *
          omega
        · by_cases hi : i < (bigC a.toNat (clV W)).length
          · have hm : (bigC a.toNat (clV W)).getD i [] ∈ bigC a.toNat (clV W) := by
              rw [List.getD_eq_getElem?_getD, List.getElem?_eq_getElem hi]; exact List.getElem_mem _
            obtain ⟨p, _, e⟩ := (clV_ok hW).comp _ (List.mem_filter.1 hm).1
            rw [e]
            have := compL_len W p
            omega
          · rw [List.getD_eq_getElem?_getD, List.getElem?_eq_none (by omega)]; simp
        · have h := clusters_c nw W a.toNat k hv hpl (by omega) (by omega)
          rw [ea] at h
          exact h
        · have h := clustersR_c nl W a.toNat k hW (by omega) (by omega)
          rw [ea] at h
          exact h
    obtain ⟨R, P, q, hIm⟩ : ∃ (R : List (List UInt8)) (P : List UInt8) (q : Nat), R.length ≤ 60 ∧ ((spanW b 1 8 = 1 ∧ R = [] ∧ P = [] ∧ q = 0 ∧ ∀ k, ACall Tryz.prog 8 [wafP nw W, .int .i64 b] [] k (.tup [.agg [.lit true 0 [], .str []], .int .i64 0, .int .i64 1]) []) ∨ (spanW b 1 8 = 0 ∧ (∀ k, ACall Tryz.prog 8 [wafP nw W, .int .i64 b] [] k (.tup [.agg [.sl k 0 R.length, .str P], .int .i64 (q : Nat), .int .i64 0]) [(k, arrS R)]) ∧ ∀ nl k, ACall Tryz.prog 18 [wafP nl W, .int .i64 b] [] k (.tup [.agg [.sl k 0 R.length, .str P], .int .i64 (q : Nat)]) [(k, arrS R)])) := by
      by_cases ho : outB b 1 8 = true
      · exact ⟨[], [], 0, by simp, .inl ⟨by unfold spanW; rw [if_pos ho], rfl, rfl, rfl, fun k => ink_arg nw W b k hbd hv ho⟩⟩
      · have h12 : 1 ≤ b ∧ b ≤ 8 := by unfold outB at ho; simp at ho; exact ho
        have ea : ((b.toNat : Nat) : Int) = b := by omega
        have hl := inkRs_len W b.toNat
        refine ⟨inkRs W b.toNat, W.pass, cntN (inkAt W b.toNat) (plV W), by rw [hl]; exact hW.len, .inr ⟨by unfold spanW; rw [if_neg ho], fun k => ?_, fun nl k => ?_⟩⟩
        · have h := ink_all nw W b.toNat k hv hpl (by omega) (by omega)
          rw [ea, ← hl] at h
          exact h
        · have h := inkedR_all nl W b.toNat k hW
          rw [ea, ← hl, ink_with hW] at h
          exact h
    obtain ⟨hCl, hCm⟩ := hCm
    obtain ⟨hRl, hIm⟩ := hIm
    have hE := fun k => edgeApi_all nw W k hv hpl
    have hER := fun nl k => edgeR_all nl W k hW
    have hR := fun k => ringsX_all nw W k hv hpl
    have hRR := fun nl k => ringsR_c nl W k hW
    have hT := fun k => turnedW_c nw W k hv hpl
    have hTR := fun nl k => turnedR_c nl W k hW
    have hel := edgeL_len hW
    have hmN := manyR_le hW
    have hfl := frsR_len W (manyR W)
    have hhl := hasL_len W (manyR W)
    have htl := turnRs_len W
    have hww := hW.wide.2
    have hDt : (doneP (innerP W) (plV W)).take (edgeL W).length = edgeL W := by
      unfold doneP edgeL
      rw [List.take_append_of_le_length (Nat.le_refl _), List.take_length]
    have hDl : (edgeL W).length ≤ (doneP (innerP W) (plV W)).length := by
      have h2 := keepP_len (innerP W) (plV W)
      rw [doneP_len]; exact h2
    have hS1 := fun k => spanW_c a 1 3600 k
    have hS2 := fun k => spanW_c b 1 8 k
    generalize hDd : doneP (innerP W) (plV W) = D at *
    generalize edgeL W = E at *
    generalize frsR W (manyR W) = Fr at *
    generalize hasL W (manyR W) = Hl at *
    generalize turnRs W = T at *
    generalize spanW a 1 3600 = e1 at *
    generalize he2 : spanW b 1 8 = e2 at *
    unfold wafP at *
    refine SR.seqTo ⟨[(8, .sl (nid + 8) 0 C.length), (9, .int .i64 e1), (7, .int .i64 0), (4, .ptr (nid + 4) 0), (5, .int .i64 a), (6, .int .i64 b)], [(nid + 4, boxW nw W), (nid + 8, arrCl C)], nid + 500, nid⟩ ?_ ?_
    · unfold boxW
      simp -dsimp only [aqT, aqU, aqN, aqS, ↓seqK, ↓blkK, ↓loopK, step, stepBin, Nat.add_assoc nid, ↓reduceIte, Option.toList, ← Int.ofNat_tmod, ← Int.ofNat_tdiv, simprocAttr, BEq.rfl, LN_succ]
      rcases hCm with ⟨g1, g2, g3⟩ | ⟨g1, g2, g3, g4⟩
      · refine CallO.pure (g3 _) ?_
        simp -dsimp only [aqT, aqU, aqN, aqS, ↓seqK, ↓blkK, ↓loopK, step, stepBin, Nat.add_assoc nid, ↓reduceIte, Option.toList, ← Int.ofNat_tmod, ← Int.ofNat_tdiv, simprocAttr, BEq.rfl, LN_succ]
        refine Cov.go [] [(nid + 8, 1)] ?_
        simp [cvT, step, res, arrCl, g1, g2, -List.getD_eq_getElem?_getD]
      · refine CallO.pure (g3 _) ?_
        unfold arrCl
        simp -dsimp only [aqT, aqU, aqN, aqS, ↓seqK, ↓blkK, ↓loopK, step, stepBin, Nat.add_assoc nid, ↓reduceIte, Option.toList, ← Int.ofNat_tmod, ← Int.ofNat_tdiv, simprocAttr, BEq.rfl, LN_succ]
        refine Cov.go [(nid + 8, nid + 408)] [] ?_
        simp [cvT, step, res, g1, -List.getD_eq_getElem?_getD]
    refine SR.seqTo ⟨[(10, .ptr (nid + 12) 0), (11, .int .i64 (q : Nat)), (12, .int .i64 e2), (8, .sl (nid + 8) 0 C.length), (9, .int .i64 e1), (7, .int .i64 0), (4, .ptr (nid + 4) 0), (5, .int .i64 a), (6, .int .i64 b)], [(nid + 4, boxW nw W), (nid + 8, arrCl C), (nid + 12, some (.box 28 [.sl (nid + 16) 0 R.length, .str P])), (nid + 16, arrS R)], nid + 600, nid⟩ ?_ ?_
    · unfold boxW arrCl
      simp -dsimp only [aqT, aqU, aqN, aqS, ↓seqK, ↓blkK, ↓loopK, step, stepBin, Nat.add_assoc nid, ↓reduceIte, Option.toList, ← Int.ofNat_tmod, ← Int.ofNat_tdiv, simprocAttr, BEq.rfl, LN_succ]
      rcases hIm with ⟨g1, g2, g3, g4, g5⟩ | ⟨g1, g2, g3⟩
      · refine CallO.pure (g5 _) ?_
        simp -dsimp only [aqT, aqU, aqN, aqS, ↓seqK, ↓blkK, ↓loopK, step, stepBin, Nat.add_assoc nid, ↓reduceIte, Option.toList, ← Int.ofNat_tmod, ← Int.ofNat_tdiv, simprocAttr, BEq.rfl, LN_succ]
        refine Cov.go [(nid + 12, nid + 528)] [(nid + 16, 1)] ?_
        simp [cvT, step, res, arrS, g1, g2, g3, g4, -List.getD_eq_getElem?_getD]
      · refine CallO.pure (g2 _) ?_
        unfold arrS
        simp -dsimp only [aqT, aqU, aqN, aqS, ↓seqK, ↓blkK, ↓loopK, step, stepBin, Nat.add_assoc nid, ↓reduceIte, Option.toList, ← Int.ofNat_tmod, ← Int.ofNat_tdiv, simprocAttr, BEq.rfl, LN_succ]
        refine Cov.go [(nid + 12, nid + 528), (nid + 16, nid + 508)] [] ?_
        simp [cvT, step, res, g1, -List.getD_eq_getElem?_getD]
    refine SR.seqTo ⟨[(13, .sl (nid + 20) 0 E.length), (14, .int .i64 0), (10, .ptr (nid + 12) 0), (11, .int .i64 (q : Nat)), (12, .int .i64 e2), (8, .sl (nid + 8) 0 C.length), (9, .int .i64 e1), (7, .int .i64 0), (4, .ptr (nid + 4) 0), (5, .int .i64 a), (6, .int .i64 b)], [(nid + 4, boxW nw W), (nid + 8, arrCl C), (nid + 12, some (.box 28 [.sl (nid + 16) 0 R.length, .str P])), (nid + 16, arrS R), (nid + 20, arrPl D)], nid + 700, nid⟩ ?_ ?_
    · unfold boxW arrCl arrS arrPl
      unfold arrPl at hE
      simp -dsimp only [aqT, aqU, aqN, aqS, ↓seqK, ↓blkK, ↓loopK, step, stepBin, Nat.add_assoc nid, ↓reduceIte, Option.toList, ← Int.ofNat_tmod, ← Int.ofNat_tdiv, simprocAttr, BEq.rfl, LN_succ]
      refine CallO.pure (hE _) ?_
      simp -dsimp only [aqT, aqU, aqN, aqS, ↓seqK, ↓blkK, ↓loopK, step, stepBin, Nat.add_assoc nid, ↓reduceIte, Option.toList, ← Int.ofNat_tmod, ← Int.ofNat_tdiv, simprocAttr, BEq.rfl, LN_succ]
      refine Cov.go [(nid + 20, nid + 604)] [] ?_
      simp [cvT, step, res, -List.getD_eq_getElem?_getD]
    refine SR.seqTo ⟨[(15, .sl (nid + 24) 0 Fr.length), (16, .sl (nid + 28) 0 Hl.length), (17, .int .i64 0), (13, .sl (nid + 20) 0 E.length), (14, .int .i64 0), (10, .ptr (nid + 12) 0), (11, .int .i64 (q : Nat)), (12, .int .i64 e2), (8, .sl (nid + 8) 0 C.length), (9, .int .i64 e1), (7, .int .i64 0), (4, .ptr (nid + 4) 0), (5, .int .i64 a), (6, .int .i64 b)], [(nid + 4, boxW nw W), (nid + 8, arrCl C), (nid + 12, some (.box 28 [.sl (nid + 16) 0 R.length, .str P])), (nid + 16, arrS R), (nid + 20, arrPl D), (nid + 24, arrFr Fr), (nid + 28, arrBl Hl)], nid + 800, nid⟩ ?_ ?_
    · unfold boxW arrCl arrS arrPl arrFr arrBl
      unfold arrFr arrBl at hR
      simp -dsimp only [aqT, aqU, aqN, aqS, ↓seqK, ↓blkK, ↓loopK, step, stepBin, Nat.add_assoc nid, ↓reduceIte, Option.toList, ← Int.ofNat_tmod, ← Int.ofNat_tdiv, simprocAttr, BEq.rfl, LN_succ]
      refine CallO.pure (hR _) ?_
      simp -dsimp only [aqT, aqU, aqN, aqS, ↓seqK, ↓blkK, ↓loopK, step, stepBin, Nat.add_assoc nid, ↓reduceIte, Option.toList, ← Int.ofNat_tmod, ← Int.ofNat_tdiv, simprocAttr, BEq.rfl, LN_succ]
      refine Cov.go [(nid + 24, nid + 704), (nid + 28, nid + 705)] [] ?_
      simp [cvT, step, res, -List.getD_eq_getElem?_getD]
    refine SR.seqTo ⟨[(18, .ptr (nid + 32) 0), (19, .int .i64 0), (15, .sl (nid + 24) 0 Fr.length), (16, .sl (nid + 28) 0 Hl.length), (17, .int .i64 0), (13, .sl (nid + 20) 0 E.length), (14, .int .i64 0), (10, .ptr (nid + 12) 0), (11, .int .i64 (q : Nat)), (12, .int .i64 e2), (8, .sl (nid + 8) 0 C.length), (9, .int .i64 e1), (7, .int .i64 0), (4, .ptr (nid + 4) 0), (5, .int .i64 a), (6, .int .i64 b)], [(nid + 4, boxW nw W), (nid + 8, arrCl C), (nid + 12, some (.box 28 [.sl (nid + 16) 0 R.length, .str P])), (nid + 16, arrS R), (nid + 20, arrPl D), (nid + 24, arrFr Fr), (nid + 28, arrBl Hl), (nid + 32, some (.box 28 [.sl (nid + 36) 0 T.length, .str W.pass])), (nid + 36, arrS T)], nid + 900, nid⟩ ?_ ?_
    · unfold boxW arrCl arrS arrPl arrFr arrBl
      unfold arrS at hT
      simp -dsimp only [aqT, aqU, aqN, aqS, ↓seqK, ↓blkK, ↓loopK, step, stepBin, Nat.add_assoc nid, ↓reduceIte, Option.toList, ← Int.ofNat_tmod, ← Int.ofNat_tdiv, simprocAttr, BEq.rfl, LN_succ]
      refine CallO.pure (hT _) ?_
      simp -dsimp only [aqT, aqU, aqN, aqS, ↓seqK, ↓blkK, ↓loopK, step, stepBin, Nat.add_assoc nid, ↓reduceIte, Option.toList, ← Int.ofNat_tmod, ← Int.ofNat_tdiv, simprocAttr, BEq.rfl, LN_succ]
      refine Cov.go [(nid + 32, nid + 820), (nid + 36, nid + 804)] [] ?_
      simp [cvT, step, res, -List.getD_eq_getElem?_getD]
    unfold arrCl arrS arrPl arrFr arrBl boxW
    refine SR.freezeB [nid + 8, nid + 16, nid + 20, nid + 24, nid + 28, nid + 36] (fun nl' => ?_)
    simp only [frzS, frzH, frzBlk, lends, lend, kill, noOs, aqT, aqU, aqN, aqS, ↓seqK, ↓blkK, ↓loopK, step, stepBin, Nat.add_assoc nid, ↓reduceIte, Option.toList, ← Int.ofNat_tmod, ← Int.ofNat_tdiv, simprocAttr, BEq.rfl, LN_succ]
    generalize nl' (nid + 8) = n1
    generalize nl' (nid + 16) = n2
    generalize nl' (nid + 20) = n3
    generalize nl' (nid + 24) = n4
    generalize nl' (nid + 28) = n5
    generalize nl' (nid + 36) = n6
    refine SR.seqTo ⟨[(18, .ptr (nid + 32) 0), (19, .int .i64 0), (15, litPl n4 Fr), (16, litBl n5 Hl), (17, .int .i64 0), (13, litPl n3 E), (14, .int .i64 0), (10, .ptr (nid + 12) 0), (11, .int .i64 (q : Nat)), (12, .int .i64 e2), (8, litCl n1 (fun _ => false) C), (9, .int .i64 e1), (4, .ptr (nid + 4) 0), (5, .int .i64 a), (6, .int .i64 b)], [(nid + 4, boxW nw W), (nid + 12, some (.box 28 [litS n2 R, .str P])), (nid + 32, some (.box 28 [litS n6 T, .str W.pass]))], nid + 1000, nid⟩ ?_ ?_
    · simp -dsimp only [aqT, aqU, aqN, aqS, ↓seqK, ↓blkK, ↓loopK, step, stepBin, Nat.add_assoc nid, ↓reduceIte, Option.toList, ← Int.ofNat_tmod, ← Int.ofNat_tdiv, simprocAttr, BEq.rfl, LN_succ]
      refine Cov.go [] [] ?_
      simp [cvT, step, res, boxW, litPl, litBl, litCl, litS, colPts, colPs, ColsEq.refl, -List.getD_eq_getElem?_getD]
      have hDE : ∀ i, i < E.length → D.getD i p0 = E.getD i p0 := fun i hi => by
        have h : (D.take E.length).getD i p0 = E.getD i p0 := by rw [hDt]
        rw [← h, List.getD_eq_getElem?_getD, List.getD_eq_getElem?_getD, List.getElem?_take, if_pos hi]
      exact ⟨ColEq.i fun i hi => by rw [hDE i hi], ColEq.i fun i hi => by rw [hDE i hi]⟩
    refine SR.seqTo ⟨[(20, .int .i64 e1), (21, .int .i64 e2), (18, .ptr (nid + 32) 0), (19, .int .i64 0), (15, litPl n4 Fr), (16, litBl n5 Hl), (17, .int .i64 0), (13, litPl n3 E), (14, .int .i64 0), (10, .ptr (nid + 12) 0), (11, .int .i64 (q : Nat)), (12, .int .i64 e2), (8, litCl n1 (fun _ => false) C), (9, .int .i64 e1), (4, .ptr (nid + 4) 0), (5, .int .i64 a), (6, .int .i64 b)], [(nid + 4, boxW nw W), (nid + 12, some (.box 28 [litS n2 R, .str P])), (nid + 32, some (.box 28 [litS n6 T, .str W.pass]))], nid + 1100, nid⟩ ?_ ?_
    · unfold boxW litS litPl litBl litCl
      simp -dsimp only [aqT, aqU, aqN, aqS, ↓seqK, ↓blkK, ↓loopK, step, stepBin, Nat.add_assoc nid, ↓reduceIte, Option.toList, ← Int.ofNat_tmod, ← Int.ofNat_tdiv, simprocAttr, BEq.rfl, LN_succ]
      refine CallO.pure (hS1 _) ?_
      simp -dsimp only [aqT, aqU, aqN, aqS, ↓seqK, ↓blkK, ↓loopK, step, stepBin, Nat.add_assoc nid, ↓reduceIte, Option.toList, ← Int.ofNat_tmod, ← Int.ofNat_tdiv, simprocAttr, BEq.rfl, LN_succ]
      refine CallO.pure (hS2 _) ?_
      simp -dsimp only [aqT, aqU, aqN, aqS, ↓seqK, ↓blkK, ↓loopK, step, stepBin, Nat.add_assoc nid, ↓reduceIte, Option.toList, ← Int.ofNat_tmod, ← Int.ofNat_tdiv, simprocAttr, BEq.rfl, LN_succ]
      refine Cov.go [] [] ?_
      simp [cvT, step, res, ColsEq.refl, -List.getD_eq_getElem?_getD]
    refine SR.seqTo ⟨[(21, .int .i64 e2), (18, .ptr (nid + 32) 0), (19, .int .i64 0), (15, litPl n4 Fr), (16, litBl n5 Hl), (17, .int .i64 0), (13, litPl n3 E), (14, .int .i64 0), (10, .ptr (nid + 12) 0), (11, .int .i64 (q : Nat)), (12, .int .i64 e2), (4, .ptr (nid + 4) 0), (6, .int .i64 b)], [(nid + 4, boxW nw W), (nid + 12, some (.box 28 [litS n2 R, .str P])), (nid + 32, some (.box 28 [litS n6 T, .str W.pass]))], nid + 1300, nid⟩ ?_ ?_
    · unfold boxW litS litPl litBl
      rcases hCm with ⟨g1, g2, g3⟩ | ⟨g1, g2, g3, g4⟩
      · subst g1
        have hC0 : decide ((0 : Int) < (C.length : Nat)) = false := by rw [g2]; rfl
        unfold litCl
        simp -dsimp only [aqT, aqU, aqN, aqS, ↓seqK, ↓blkK, ↓loopK, step, stepBin, Nat.add_assoc nid, ↓reduceIte, Option.toList, ← Int.ofNat_tmod, ← Int.ofNat_tdiv, simprocAttr, BEq.rfl, LN_succ, hC0]
        refine Cov.go [] [] ?_
        simp [cvT, step, res, ColsEq.refl, -List.getD_eq_getElem?_getD]
      · subst g1
        have hq := fun nl' k => equalCl_c n1 nl' (fun _ => false) (fun _ => false) C C k (by omega) (by omega) (fun i => by have := g2 i; omega) (fun i => by have := g2 i; omega)
        unfold litCl at *
        unfold arrCl colPts at g4
        unfold colPs at *
        simp -dsimp only [aqT, aqU, aqN, aqS, ↓seqK, ↓blkK, ↓loopK, step, stepBin, Nat.add_assoc nid, ↓reduceIte, Option.toList, ← Int.ofNat_tmod, ← Int.ofNat_tdiv, simprocAttr, BEq.rfl, LN_succ]
        refine CallO.pure (g4 nw _) ?_
        simp -dsimp only [aqT, aqU, aqN, aqS, ↓seqK, ↓blkK, ↓loopK, step, stepBin, Nat.add_assoc nid, ↓reduceIte, Option.toList, ← Int.ofNat_tmod, ← Int.ofNat_tdiv, simprocAttr, BEq.rfl, LN_succ]
        refine CallO.lent [nid + 1140] (fun nl' => by
          simp only [lends, lend, noOs, aqT, aqU, aqN, aqS, ↓seqK, ↓blkK, ↓loopK, step, stepBin, Nat.add_assoc nid, ↓reduceIte, Option.toList, ← Int.ofNat_tmod, ← Int.ofNat_tdiv, simprocAttr, BEq.rfl, LN_succ]
          exact hq _ _) rfl rfl (by simp [getH]) ?_
        simp -dsimp only [aqT, aqU, aqN, aqS, ↓seqK, ↓blkK, ↓loopK, step, stepBin, Nat.add_assoc nid, ↓reduceIte, Option.toList, ← Int.ofNat_tmod, ← Int.ofNat_tdiv, simprocAttr, BEq.rfl, LN_succ, Bool.not_true]
        refine Cov.go [] [] ?_
        simp [cvT, step, res, ColsEq.refl, -List.getD_eq_getElem?_getD]
    refine SR.seq ?_
    unfold boxW litS litPl litBl
    simp -dsimp only [aqT, aqU, aqN, aqS, ↓seqK, ↓blkK, ↓loopK, step, stepBin, Nat.add_assoc nid, ↓reduceIte, Option.toList, ← Int.ofNat_tmod, ← Int.ofNat_tdiv, simprocAttr, BEq.rfl, LN_succ]
    refine SR.seq ?_
    simp -dsimp only [aqT, aqU, aqN, aqS, ↓seqK, ↓blkK, ↓loopK, step, stepBin, Nat.add_assoc nid, ↓reduceIte, Option.toList, ← Int.ofNat_tmod, ← Int.ofNat_tdiv, simprocAttr, BEq.rfl, LN_succ]
    refine SR.seqTo ⟨[(23, .int .i64 (q : Nat)), (22, .ptr (nid + 40) 0), (21, .int .i64 e2), (18, .ptr (nid + 32) 0), (19, .int .i64 0), (15, litPl n4 Fr), (16, litBl n5 Hl), (17, .int .i64 0), (13, litPl n3 E), (14, .int .i64 0), (10, .ptr (nid + 12) 0), (11, .int .i64 (q : Nat)), (12, .int .i64 e2), (4, .ptr (nid + 4) 0)], [(nid + 4, boxW nw W), (nid + 12, some (.box 28 [litS n2 R, .str P])), (nid + 32, some (.box 28 [litS n6 T, .str W.pass])), (nid + 40, some (.box 28 [.sl (nid + 44) 0 R.length, .str P])), (nid + 44, arrS R)], nid + 1400, nid⟩ ?_ ?_
    · rcases hIm with ⟨g1, g2, g3, g4, g5⟩ | ⟨g1, g2, g3⟩
      · subst g1
        simp -dsimp only [aqT, aqU, aqN, aqS, ↓seqK, ↓blkK, ↓loopK, step, stepBin, Nat.add_assoc nid, ↓reduceIte, Option.toList, ← Int.ofNat_tmod, ← Int.ofNat_tdiv, simprocAttr, BEq.rfl, LN_succ]
        refine Cov.go [(nid + 40, nid + 1300)] [(nid + 44, 1)] ?_
        simp [cvT, step, res, boxW, arrS, litS, litPl, litBl, g2, g3, g4, ColsEq.refl, -List.getD_eq_getElem?_getD]
      · subst g1
        unfold arrS at g3
        simp -dsimp only [aqT, aqU, aqN, aqS, ↓seqK, ↓blkK, ↓loopK, step, stepBin, Nat.add_assoc nid, ↓reduceIte, Option.toList, ← Int.ofNat_tmod, ← Int.ofNat_tdiv, simprocAttr, BEq.rfl, LN_succ]
        refine CallO.pure (g3 nw _) ?_
        simp -dsimp only [aqT, aqU, aqN, aqS, ↓seqK, ↓blkK, ↓loopK, step, stepBin, Nat.add_assoc nid, ↓reduceIte, Option.toList, ← Int.ofNat_tmod, ← Int.ofNat_tdiv, simprocAttr, BEq.rfl, LN_succ]
        refine Cov.go [(nid + 40, nid + 1300), (nid + 44, nid + 1324)] [] ?_
        simp [cvT, step, res, boxW, arrS, litS, litPl, litBl, ColsEq.refl, -List.getD_eq_getElem?_getD]
    unfold boxW arrS litS litPl litBl
    refine SR.freezeB [nid + 44] (fun nl' => ?_)
    simp only [frzS, frzH, frzBlk, lends, lend, kill, noOs, aqT, aqU, aqN, aqS, ↓seqK, ↓blkK, ↓loopK, step, stepBin, Nat.add_assoc nid, ↓reduceIte, Option.toList, ← Int.ofNat_tmod, ← Int.ofNat_tdiv, simprocAttr, BEq.rfl, LN_succ]
    generalize nl' (nid + 44) = m1
    refine SR.seqTo ⟨[(18, .ptr (nid + 32) 0), (19, .int .i64 0), (15, litPl n4 Fr), (16, litBl n5 Hl), (17, .int .i64 0), (13, litPl n3 E), (14, .int .i64 0), (4, .ptr (nid + 4) 0)], [(nid + 4, boxW nw W), (nid + 32, some (.box 28 [litS n6 T, .str W.pass]))], nid + 1500, nid⟩ ?_ ?_
    · have hsw := fun k => sameWafer_c n2 m1 ⟨R, P⟩ ⟨R, P⟩ k (by simp only; omega) (by simp only; omega)
      unfold wafP at hsw
      simp only [BEq.rfl, Bool.and_self] at hsw
      simp -dsimp only [aqT, aqU, aqN, aqS, ↓seqK, ↓blkK, ↓loopK, step, stepBin, Nat.add_assoc nid, ↓reduceIte, Option.toList, ← Int.ofNat_tmod, ← Int.ofNat_tdiv, simprocAttr, BEq.rfl, LN_succ]
      refine CallO.pure (hsw _) ?_
      simp -dsimp only [aqT, aqU, aqN, aqS, ↓seqK, ↓blkK, ↓loopK, step, stepBin, Nat.add_assoc nid, ↓reduceIte, Option.toList, ← Int.ofNat_tmod, ← Int.ofNat_tdiv, simprocAttr, BEq.rfl, LN_succ, Bool.not_true]
      refine Cov.go [] [] ?_
      simp [cvT, step, res, boxW, arrS, litS, litPl, litBl, ColsEq.refl, -List.getD_eq_getElem?_getD]
    refine SR.seqTo ⟨[(24, .sl (nid + 48) 0 Fr.length), (25, .sl (nid + 52) 0 Hl.length), (18, .ptr (nid + 32) 0), (19, .int .i64 0), (15, litPl n4 Fr), (16, litBl n5 Hl), (17, .int .i64 0), (13, litPl n3 E), (14, .int .i64 0), (4, .ptr (nid + 4) 0)], [(nid + 4, boxW nw W), (nid + 32, some (.box 28 [litS n6 T, .str W.pass])), (nid + 48, arrFr Fr), (nid + 52, arrBl Hl)], nid + 1600, nid⟩ ?_ ?_
    · unfold boxW litS litPl litBl
      unfold arrFr arrBl at *
      simp -dsimp only [aqT, aqU, aqN, aqS, ↓seqK, ↓blkK, ↓loopK, step, stepBin, Nat.add_assoc nid, ↓reduceIte, Option.toList, ← Int.ofNat_tmod, ← Int.ofNat_tdiv, simprocAttr, BEq.rfl, LN_succ]
      refine CallO.pure (hRR nw _) ?_
      simp -dsimp only [aqT, aqU, aqN, aqS, ↓seqK, ↓blkK, ↓loopK, step, stepBin, Nat.add_assoc nid, ↓reduceIte, Option.toList, ← Int.ofNat_tmod, ← Int.ofNat_tdiv, simprocAttr, BEq.rfl, LN_succ]
      refine Cov.go [(nid + 48, nid + 1504), (nid + 52, nid + 1505)] [] ?_
      simp [cvT, step, res, ColsEq.refl, -List.getD_eq_getElem?_getD]
    unfold boxW arrFr arrBl litS litPl litBl
    refine SR.freezeB [nid + 48, nid + 52] (fun nl' => ?_)
    simp only [frzS, frzH, frzBlk, lends, lend, kill, noOs, aqT, aqU, aqN, aqS, ↓seqK, ↓blkK, ↓loopK, step, stepBin, Nat.add_assoc nid, ↓reduceIte, Option.toList, ← Int.ofNat_tmod, ← Int.ofNat_tdiv, simprocAttr, BEq.rfl, LN_succ]
    generalize nl' (nid + 48) = m2
    generalize nl' (nid + 52) = m3
    have q1 := fun nl' k => equalPl_c n3 nl' E E k (by omega) (by omega)
    have q2 := fun k => equalFr_c n4 m2 Fr Fr k (by omega) (by omega)
    have q3 := fun k => equalBl_c n5 m3 Hl Hl k (by omega) (by omega)
    have q4 := fun nl' k => sameWafer_c n6 nl' ⟨T, W.pass⟩ ⟨T, W.pass⟩ k (by simp only; omega) (by simp only; omega)
    unfold litPl at q1 q2
    unfold litBl at q3
    unfold wafP at q4
    simp only [BEq.rfl, Bool.and_self] at q1 q2 q3 q4
    unfold arrPl at hER
    unfold arrS at hTR
    refine SR.seqTo ⟨[(2, .bool true)], [], nid + 3000, nid⟩ ?_ ?_
    · simp -dsimp only [aqT, aqU, aqN, aqS, ↓seqK, ↓blkK, ↓loopK, step, stepBin, Nat.add_assoc nid, ↓reduceIte, Option.toList, ← Int.ofNat_tmod, ← Int.ofNat_tdiv, simprocAttr, BEq.rfl, LN_succ]
      refine CallX.pure (hER nw _) ?_
      try simp -dsimp only [aqT, aqU, aqN, aqS, ↓seqK, ↓blkK, ↓loopK, step, stepBin, Nat.add_assoc nid, ↓reduceIte, Option.toList, ← Int.ofNat_tmod, ← Int.ofNat_tdiv, simprocAttr, BEq.rfl, LN_succ]
      refine CallX.lent [nid + 1620] (fun nl' => by
        simp only [lends, lend, noOs, aqT, aqU, aqN, aqS, ↓seqK, ↓blkK, ↓loopK, step, stepBin, Nat.add_assoc nid, ↓reduceIte, Option.toList, ← Int.ofNat_tmod, ← Int.ofNat_tdiv, simprocAttr, BEq.rfl, LN_succ]
        exact q1 _ _) rfl rfl (by simp [getH]) ?_
      simp -dsimp only [aqT, aqU, aqN, aqS, ↓seqK, ↓blkK, ↓loopK, step, stepBin, Nat.add_assoc nid, ↓reduceIte, Option.toList, ← Int.ofNat_tmod, ← Int.ofNat_tdiv, simprocAttr, BEq.rfl, LN_succ]
      refine CallX.pure (q2 _) ?_
      simp -dsimp only [aqT, aqU, aqN, aqS, ↓seqK, ↓blkK, ↓loopK, step, stepBin, Nat.add_assoc nid, ↓reduceIte, Option.toList, ← Int.ofNat_tmod, ← Int.ofNat_tdiv, simprocAttr, BEq.rfl, LN_succ]
      refine CallX.pure (q3 _) ?_
      simp -dsimp only [aqT, aqU, aqN, aqS, ↓seqK, ↓blkK, ↓loopK, step, stepBin, Nat.add_assoc nid, ↓reduceIte, Option.toList, ← Int.ofNat_tmod, ← Int.ofNat_tdiv, simprocAttr, BEq.rfl, LN_succ]
      refine CallX.pure (hTR nw _) ?_
      simp -dsimp only [aqT, aqU, aqN, aqS, ↓seqK, ↓blkK, ↓loopK, step, stepBin, Nat.add_assoc nid, ↓reduceIte, Option.toList, ← Int.ofNat_tmod, ← Int.ofNat_tdiv, simprocAttr, BEq.rfl, LN_succ]
      refine CallX.lent [nid + 1716] (fun nl' => by
        simp only [lends, lend, noOs, aqT, aqU, aqN, aqS, ↓seqK, ↓blkK, ↓loopK, step, stepBin, Nat.add_assoc nid, ↓reduceIte, Option.toList, ← Int.ofNat_tmod, ← Int.ofNat_tdiv, simprocAttr, BEq.rfl, LN_succ]
        exact q4 _ _) rfl rfl (by simp [getH]) ?_
      simp -dsimp only [aqT, aqU, aqN, aqS, ↓seqK, ↓blkK, ↓loopK, step, stepBin, Nat.add_assoc nid, ↓reduceIte, Option.toList, ← Int.ofNat_tmod, ← Int.ofNat_tdiv, simprocAttr, BEq.rfl, LN_succ]
      refine CallX.pure (hps _) ?_
      simp -dsimp only [aqT, aqU, aqN, aqS, ↓seqK, ↓blkK, ↓loopK, step, stepBin, Nat.add_assoc nid, ↓reduceIte, Option.toList, ← Int.ofNat_tmod, ← Int.ofNat_tdiv, simprocAttr, BEq.rfl, LN_succ]
      refine Cov.go [] [] ?_
      simp [cvT, step, res]
    refine SR.run (t := .mk) ?_
    simp -dsimp only [aqT, aqU, aqN, aqS, ↓seqK, ↓blkK, ↓loopK, step, stepBin, Nat.add_assoc nid, ↓reduceIte, Option.toList, ← Int.ofNat_tmod, ← Int.ofNat_tdiv, simprocAttr, BEq.rfl, LN_succ]
    refine RetOK.go [] [] (.inl rfl) ?_
    simp [a3, cvT, step, res]
  · have h1 := fun k => clusters_bad nw W a k hbd hv
    have h2 := fun k => ink_bad nw W b k hbd hv
    have h3 := fun k => edge_bad nw W k hbd hv
    have h4 := fun k => rings_bad nw W k hbd hv
    have h5 := fun k => turned_bad nw W k hbd hv
    have hne : (waferV W != 0) = true := by simpa using hv
    unfold wafP at *
    generalize waferV W = v at *
    refine SR.seqTo ⟨[(8, .lit true 0 []), (9, .int .i64 v), (7, .int .i64 v), (4, .ptr (nid + 4) 0), (6, .int .i64 b)], [(nid + 4, boxW nw W)], nid + 500, nid⟩ ?_ ?_
    · unfold boxW
      simp -dsimp only [aqT, aqU, aqN, aqS, ↓seqK, ↓blkK, ↓loopK, step, stepBin, Nat.add_assoc nid, ↓reduceIte, Option.toList, ← Int.ofNat_tmod, ← Int.ofNat_tdiv, simprocAttr, BEq.rfl, LN_succ]
      refine CallO.pure (h1 _) ?_
      simp -dsimp only [aqT, aqU, aqN, aqS, ↓seqK, ↓blkK, ↓loopK, step, stepBin, Nat.add_assoc nid, ↓reduceIte, Option.toList, ← Int.ofNat_tmod, ← Int.ofNat_tdiv, simprocAttr, BEq.rfl, LN_succ]
      refine Cov.go [] [] ?_
      simp [cvT, step, res, -List.getD_eq_getElem?_getD]
    refine SR.seqTo ⟨[(10, .ptr (nid + 8) 0), (11, .int .i64 0), (12, .int .i64 v), (8, .lit true 0 []), (9, .int .i64 v), (7, .int .i64 v), (4, .ptr (nid + 4) 0)], [(nid + 4, boxW nw W), (nid + 8, some (.box 28 [.lit true 0 [], .str []]))], nid + 600, nid⟩ ?_ ?_
    · unfold boxW
      simp -dsimp only [aqT, aqU, aqN, aqS, ↓seqK, ↓blkK, ↓loopK, step, stepBin, Nat.add_assoc nid, ↓reduceIte, Option.toList, ← Int.ofNat_tmod, ← Int.ofNat_tdiv, simprocAttr, BEq.rfl, LN_succ]
      refine CallO.pure (h2 _) ?_
      simp -dsimp only [aqT, aqU, aqN, aqS, ↓seqK, ↓blkK, ↓loopK, step, stepBin, Nat.add_assoc nid, ↓reduceIte, Option.toList, ← Int.ofNat_tmod, ← Int.ofNat_tdiv, simprocAttr, BEq.rfl, LN_succ]
      refine Cov.go [(nid + 8, nid + 528)] [] ?_
      simp [cvT, step, res, -List.getD_eq_getElem?_getD]
    refine SR.seqTo ⟨[(13, .lit true 0 []), (14, .int .i64 v), (10, .ptr (nid + 8) 0), (11, .int .i64 0), (12, .int .i64 v), (8, .lit true 0 []), (9, .int .i64 v), (7, .int .i64 v), (4, .ptr (nid + 4) 0)], [(nid + 4, boxW nw W), (nid + 8, some (.box 28 [.lit true 0 [], .str []]))], nid + 700, nid⟩ ?_ ?_
    · unfold boxW
      simp -dsimp only [aqT, aqU, aqN, aqS, ↓seqK, ↓blkK, ↓loopK, step, stepBin, Nat.add_assoc nid, ↓reduceIte, Option.toList, ← Int.ofNat_tmod, ← Int.ofNat_tdiv, simprocAttr, BEq.rfl, LN_succ]
      refine CallO.pure (h3 _) ?_
      simp -dsimp only [aqT, aqU, aqN, aqS, ↓seqK, ↓blkK, ↓loopK, step, stepBin, Nat.add_assoc nid, ↓reduceIte, Option.toList, ← Int.ofNat_tmod, ← Int.ofNat_tdiv, simprocAttr, BEq.rfl, LN_succ]
      refine Cov.go [] [] ?_
      simp [cvT, step, res, -List.getD_eq_getElem?_getD]
    refine SR.seqTo ⟨[(15, .lit true 0 []), (16, .lit true 0 []), (17, .int .i64 v), (13, .lit true 0 []), (14, .int .i64 v), (10, .ptr (nid + 8) 0), (11, .int .i64 0), (12, .int .i64 v), (8, .lit true 0 []), (9, .int .i64 v), (7, .int .i64 v), (4, .ptr (nid + 4) 0)], [(nid + 4, boxW nw W), (nid + 8, some (.box 28 [.lit true 0 [], .str []]))], nid + 800, nid⟩ ?_ ?_
    · unfold boxW
      simp -dsimp only [aqT, aqU, aqN, aqS, ↓seqK, ↓blkK, ↓loopK, step, stepBin, Nat.add_assoc nid, ↓reduceIte, Option.toList, ← Int.ofNat_tmod, ← Int.ofNat_tdiv, simprocAttr, BEq.rfl, LN_succ]
      refine CallO.pure (h4 _) ?_
      simp -dsimp only [aqT, aqU, aqN, aqS, ↓seqK, ↓blkK, ↓loopK, step, stepBin, Nat.add_assoc nid, ↓reduceIte, Option.toList, ← Int.ofNat_tmod, ← Int.ofNat_tdiv, simprocAttr, BEq.rfl, LN_succ]
      refine Cov.go [] [] ?_
      simp [cvT, step, res, -List.getD_eq_getElem?_getD]
    refine SR.seqTo ⟨[(18, .ptr (nid + 12) 0), (19, .int .i64 v), (15, .lit true 0 []), (16, .lit true 0 []), (17, .int .i64 v), (13, .lit true 0 []), (14, .int .i64 v), (10, .ptr (nid + 8) 0), (11, .int .i64 0), (12, .int .i64 v), (8, .lit true 0 []), (9, .int .i64 v), (7, .int .i64 v)], [(nid + 8, some (.box 28 [.lit true 0 [], .str []])), (nid + 12, some (.box 28 [.lit true 0 [], .str []]))], nid + 900, nid⟩ ?_ ?_
    · unfold boxW
      simp -dsimp only [aqT, aqU, aqN, aqS, ↓seqK, ↓blkK, ↓loopK, step, stepBin, Nat.add_assoc nid, ↓reduceIte, Option.toList, ← Int.ofNat_tmod, ← Int.ofNat_tdiv, simprocAttr, BEq.rfl, LN_succ]
      refine CallO.pure (h5 _) ?_
      simp -dsimp only [aqT, aqU, aqN, aqS, ↓seqK, ↓blkK, ↓loopK, step, stepBin, Nat.add_assoc nid, ↓reduceIte, Option.toList, ← Int.ofNat_tmod, ← Int.ofNat_tdiv, simprocAttr, BEq.rfl, LN_succ]
      refine Cov.go [(nid + 12, nid + 820)] [] ?_
      simp [cvT, step, res, -List.getD_eq_getElem?_getD]
    have hps := probed_c
    refine SR.run (t := .mk) ?_
    simp -dsimp only [aqT, aqU, aqN, aqS, ↓seqK, ↓blkK, ↓loopK, step, stepBin, Nat.add_assoc nid, ↓reduceIte, Option.toList, ← Int.ofNat_tmod, ← Int.ofNat_tdiv, simprocAttr, BEq.rfl, LN_succ, hne]
    refine ⟨by unfold inI64; omega, by unfold inI64; omega, by unfold inI64; omega, ?_⟩
    refine CallO.pure (sameNN_c _) ?_
    simp -dsimp only [aqT, aqU, aqN, aqS, ↓seqK, ↓blkK, ↓loopK, step, stepBin, Nat.add_assoc nid, ↓reduceIte, Option.toList, ← Int.ofNat_tmod, ← Int.ofNat_tdiv, simprocAttr, BEq.rfl, LN_succ]
    refine CallO.pure (sameNN_c _) ?_
    simp -dsimp only [aqT, aqU, aqN, aqS, ↓seqK, ↓blkK, ↓loopK, step, stepBin, Nat.add_assoc nid, ↓reduceIte, Option.toList, ← Int.ofNat_tmod, ← Int.ofNat_tdiv, simprocAttr, BEq.rfl, LN_succ]
    refine CallO.pure (hps _) ?_
    simp -dsimp only [aqT, aqU, aqN, aqS, ↓seqK, ↓blkK, ↓loopK, step, stepBin, Nat.add_assoc nid, ↓reduceIte, Option.toList, ← Int.ofNat_tmod, ← Int.ofNat_tdiv, simprocAttr, BEq.rfl, LN_succ]
    refine RetOK.go [] [] (.inl rfl) ?_
    simp [a3, cvT, step, res]
end Go.Proofs.YtmgfcjblclanmaaGreat
namespace Go.Proofs.YtmgfcjblclanmaaGreat
open Go.RowKit
theorem gok_cell {W : World} {g : Nat} {m : Int} (h : W.cell? ⟨g, 0, none⟩ = some (.int .i64 m)) : g < W.heap.size ∧ ∃ o, W.heap[g]? = some o ∧ cell0 o = some (.int .i64 m) := by
  unfold World.cell? at h
  simp only at h
  split at h
  · rename_i c t f hc
    refine ⟨?_, _, hc, ?_⟩
    · rcases Nat.lt_or_ge g W.heap.size with hl | hl
      · exact hl
      · rw [Array.getElem?_eq_none hl] at hc; cases hc
    · simpa [cell0] using h
  · cases h
set_option maxRecDepth 1000000 in
theorem gok0_of {W : World} (h : W.ShapedOpen Tryz.prog) : GOK0 (fun b => W.heap[b]?) W.heap.size := by
  obtain ⟨m, hm⟩ := cell_of_shapedOpen_int (g := 0) (t := 3) (zero := #[.int .i64 0]) (k := .i64) h (of_decide_eq_true (by kernel_rfl)) (by kernel_rfl) rfl (by kernel_rfl) (by kernel_rfl) Tryz.underlying3
  obtain ⟨h1, o, h2, h3⟩ := gok_cell hm
  exact ⟨o, m, h1, h2, h3⟩
theorem gok_of {W : World} (h : W.ShapedOpen Tryz.prog) : GOK (fun b => W.heap[b]?) W.heap.size := gok0_of h
end Go.Proofs.YtmgfcjblclanmaaGreat
