/-
  Sets of up to fourteen as numbers: their members, lists compared, the document's shortest list of members for which something is so.
-/
import Derived.Test.YthcldfmlfjomfaaDoorKVC5
import Derived.Test.YthcldfmlfjomfaaDoorKVC3
import Derived.Test.YthcldfmlfjomfaaDoorKVC4
import Derived.IntWalk
import Derived.Test.YthcldfmlfjomfaaDoorProg
import Derived.WalkKit
import Derived.Ground.NamesProg
import Derived.Shelf.Strings.OnBuilder
import Derived.Shelf.Strings.Search3
import Derived.Sort.EncStr
import Derived.RangeFuncBox
import Derived.RangeFuncWrites
import Derived.RangeFuncLeaves
import Derived.Shelf.Abstract
import Derived.OwnWalkIn
import Derived.TacticsInMore
import Derived.LoopNIn
import Derived.LoopIn
import Derived.Maps.AppendAt
set_option linter.unusedVariables false
set_option linter.unusedSimpArgs false
set_option maxRecDepth 100000
namespace Go.Proofs.YthcldfmlfjomfaaDoor
open Go.RowKit Go.Lib
theorem fewG_yes {B x : Nat} (h : B.testBit x = true) : fewG B (x + 1) = fewG B x ++ [x] := by
  unfold fewG
  rw [List.range_succ, List.filter_append]
  simp [h]
theorem fewG_no {B x : Nat} (h : B.testBit x = false) : fewG B (x + 1) = fewG B x := by
  unfold fewG
  rw [List.range_succ, List.filter_append]
  simp [h]
theorem fewG_len (B x : Nat) : (fewG B x).length ≤ x := Nat.le_trans (List.length_filter_le _ _) (by simp)
def bitQ (B i : Nat) : Bool := (((B : Nat) : Int).fdiv (2 ^ min i IntKind.i64.bits)).tmod 2 == 1
theorem bitQ_eq (B i : Nat) (hi : i < 62) : bitQ B i = B.testBit i := by
  unfold bitQ
  have h1 : min i IntKind.i64.bits = i := Nat.min_eq_left (by show i ≤ 64; omega)
  have h2 : ((B : Nat) : Int).fdiv (2 ^ i) = ((B / 2 ^ i : Nat) : Int) := by
    rw [Int.fdiv_eq_ediv_of_nonneg _ (Int.le_of_lt (Int.pow_pos (by decide))), Int.natCast_ediv, Int.natCast_pow]; rfl
  rw [h1, h2, Nat.testBit_eq_decide_div_mod_eq, Bool.eq_iff_iff]
  rw [show (((B / 2 ^ i : Nat) : Int).tmod 2) = ((B / 2 ^ i % 2 : Nat) : Int) from rfl]
  simp only [beq_iff_eq, decide_eq_true_eq]
  omega
theorem powQ_all : ((List.range 62).all fun j => decide (IntKind.u64.wrap (1 * 2 ^ (min ((j : Nat) : Int).toNat IntKind.u64.bits)) = ((2 ^ j : Nat) : Int) ∧ IntKind.i64.wrap (1 * 2 ^ (min ((j : Nat) : Int).toNat IntKind.i64.bits)) = ((2 ^ j : Nat) : Int))) = true := by kernel_rfl
theorem powQ_eq {j : Nat} (hj : j < 62) : IntKind.u64.wrap (1 * 2 ^ (min j IntKind.u64.bits)) = ((2 ^ j : Nat) : Int) ∧ IntKind.i64.wrap (1 * 2 ^ (min j IntKind.i64.bits)) = ((2 ^ j : Nat) : Int) :=
  of_decide_eq_true (List.all_eq_true.1 powQ_all j (List.mem_range.2 hj))
def litQ (nl : Bool) (l : List Nat) : PV := .lit nl l.length [.i .i64 fun k => ((l.getD k 0 : Nat) : Int)]
def arrQ (l : List Nat) : Option ABlk := some (.arr 3 l.length [.i .i64 fun k => ((l.getD k 0 : Nat) : Int)])
theorem getD_appQ (l : List Nat) (x : Nat) : (fun i => if i < l.length then ((l.getD i 0 : Nat) : Int) else [((x : Nat) : Int)].getD (i - l.length) 0) = fun i => (((l ++ [x]).getD i 0 : Nat) : Int) := by
  funext i
  simp only [List.getD_eq_getElem?_getD, List.getElem?_append]
  by_cases h : i < l.length
  · rw [if_pos h, if_pos h]
  · rw [if_neg h, if_neg h]
    rcases hk : i - l.length with _ | k
    · rfl
    · simp
theorem memQ_c (B n nid : Nat) (hn : n ≤ 14) : ACall Tryd.prog 149 [.int .i64 (B : Nat), .int .i64 (n : Nat)] [] nid (.sl nid 0 (fewG B n).length) [(nid, arrQ (fewG B n))] := by
  refine acall_run c149 (by simp [a149]) ?_
  simp -dsimp only [aqT, aqU, aqN, aqS, ↓seqK, ↓blkK, ↓loopK, step, stepBin, Nat.add_assoc nid, ↓reduceIte, Option.toList, ← Int.ofNat_tmod, ← Int.ofNat_tdiv, simprocAttr, BEq.rfl, LN_succ, a149]
  refine LP.mkP (fun i : Nat => i ≤ n) (fun i : Nat => ⟨[(8, .int .i64 i), (7, .int .i64 (n : Nat)), (5, .sl (nid + 40) 0 (fewG B i).length), (0, .int .i64 (B : Nat)), (1, .int .i64 (n : Nat))], [(nid + 40, arrQ (fewG B i))], nid + 100, nid⟩) (fun i => n + 1 - i) 0 (by omega) (Cov.go [] [(nid + 40, 1)] ?_) (fun i hi => ?_)
  · simp [cvT, step, res, arrQ, fewG]
  have hy := fewG_yes (B := B) (x := i)
  have hno := fewG_no (B := B) (x := i)
  have hfl := fewG_len B i
  have hend : i = n → fewG B n = fewG B i := fun e => by rw [e]
  generalize fewG B i = V at *
  unfold arrQ
  simp -dsimp only [aqT, aqU, aqN, aqS, ↓seqK, ↓blkK, ↓loopK, step, stepBin, Nat.add_assoc nid, ↓reduceIte, Option.toList, ← Int.ofNat_tmod, ← Int.ofNat_tdiv, simprocAttr, BEq.rfl, LN_succ]
  refine S2.dec (fun h5 => ?_) (fun h5 => ?_) <;> simp -dsimp only [aqT, aqU, aqN, aqS, ↓seqK, ↓blkK, ↓loopK, step, stepBin, Nat.add_assoc nid, ↓reduceIte, Option.toList, ← Int.ofNat_tmod, ← Int.ofNat_tdiv, simprocAttr, BEq.rfl, LN_succ]
  · have hbit := bitQ_eq B i (by omega)
    refine ⟨by omega, ?_⟩
    try change S2 (bitQ B i) _ _ _ _
    rw [hbit]
    cases hb : B.testBit i
    · simp -dsimp only [aqT, aqU, aqN, aqS, ↓seqK, ↓blkK, ↓loopK, step, stepBin, Nat.add_assoc nid, ↓reduceIte, Option.toList, ← Int.ofNat_tmod, ← Int.ofNat_tdiv, simprocAttr, BEq.rfl, LN_succ]
      refine ⟨by unfold inI64; omega, i + 1, ⟨by omega, by omega⟩, Cov.go [] [] ?_⟩
      rw [hno hb]
      simp [cvT, step, res, arrQ, -List.getD_eq_getElem?_getD]
    · have hvl2 : (fewG B (i + 1)).length = V.length + 1 := by rw [hy hb]; simp
      simp -dsimp only [aqT, aqU, aqN, aqS, ↓seqK, ↓blkK, ↓loopK, step, stepBin, Nat.add_assoc nid, ↓reduceIte, Option.toList, ← Int.ofNat_tmod, ← Int.ofNat_tdiv, simprocAttr, BEq.rfl, LN_succ]
      rw [getD_appQ V i, ← hy hb]
      refine ⟨⟨by omega, by omega⟩, by unfold inI64; omega, i + 1, ⟨by omega, by omega⟩, Cov.go [(nid + 40, nid + 144)] [] ?_⟩
      simp [cvT, step, res, arrQ, hvl2, -List.getD_eq_getElem?_getD]
  · have hend := hend (by omega)
    rw [hend]
    refine RetOK.go [(nid, nid + 40)] [] (.inl rfl) ?_
    simp [a149, cvT, step, res, arrQ, -List.getD_eq_getElem?_getD]
theorem cmpG_drop : ∀ (k : Nat) {l m : List Nat}, k ≤ l.length → k ≤ m.length → l.take k = m.take k → cmpG l m = cmpG (l.drop k) (m.drop k)
  | 0, l, m, _, _, _ => by simp
  | k + 1, [], m, h, _, _ => by simp at h
  | k + 1, a :: l, [], _, h, _ => by simp at h
  | k + 1, a :: l, b :: m, h1, h2, h => by
    simp only [List.take_succ_cons, List.cons.injEq] at h
    obtain ⟨rfl, h⟩ := h
    simp only [List.drop_succ_cons]
    rw [← cmpG_drop k (by simpa using h1) (by simpa using h2) h]
    simp [cmpG]
theorem cmpG_at {k : Nat} {l m : List Nat} (h1 : k < l.length) (h2 : k < m.length) (h : l.take k = m.take k) : cmpG l m = if l.getD k 0 < m.getD k 0 then -1 else if m.getD k 0 < l.getD k 0 then 1 else cmpG (l.drop (k + 1)) (m.drop (k + 1)) := by
  rw [cmpG_drop k (by omega) (by omega) h, List.drop_eq_getElem_cons h1, List.drop_eq_getElem_cons h2]
  simp only [cmpG, List.getD_eq_getElem?_getD, List.getElem?_eq_getElem h1, List.getElem?_eq_getElem h2, Option.getD_some]
theorem compareQ_c (nl nl' : Bool) (l m : List Nat) (nid : Nat) (hl : l.length ≤ 1000000) (hm : m.length ≤ 1000000) : ACall Tryd.prog 152 [litQ nl l, litQ nl' m] [] nid (.int .i64 (cmpG l m)) [] := by
  refine acall_run c152 (by simp [a152]) ?_
  unfold litQ
  simp -dsimp only [aqT, aqU, aqN, aqS, ↓seqK, ↓blkK, ↓loopK, step, stepBin, Nat.add_assoc nid, ↓reduceIte, Option.toList, ← Int.ofNat_tmod, ← Int.ofNat_tdiv, simprocAttr, BEq.rfl, LN_succ, a152]
  refine LP.mkP (fun k : Nat => k ≤ l.length ∧ k ≤ m.length ∧ l.take k = m.take k) (fun k : Nat => ⟨[(11, .int .i64 k), (10, .int .i64 l.length), (9, litQ nl l), (0, litQ nl l), (1, litQ nl' m)], [], nid + 100, nid⟩) (fun k => l.length + 1 - k) 0 ⟨by omega, by omega, rfl⟩ (Cov.go [] [] ?_) (fun k hk => ?_)
  · simp [cvT, step, res, litQ]
  obtain ⟨hk1, hk2, ht⟩ := hk
  have hd := cmpG_drop k hk1 hk2 ht
  have hat := fun h1 h2 => cmpG_at (k := k) (l := l) (m := m) h1 h2 ht
  unfold litQ
  simp -dsimp only [aqT, aqU, aqN, aqS, ↓seqK, ↓blkK, ↓loopK, step, stepBin, Nat.add_assoc nid, ↓reduceIte, Option.toList, ← Int.ofNat_tmod, ← Int.ofNat_tdiv, simprocAttr, BEq.rfl, LN_succ]
  refine S2.dec (fun h3 => ?_) (fun h3 => ?_) <;> simp -dsimp only [aqT, aqU, aqN, aqS, ↓seqK, ↓blkK, ↓loopK, step, stepBin, Nat.add_assoc nid, ↓reduceIte, Option.toList, ← Int.ofNat_tmod, ← Int.ofNat_tdiv, simprocAttr, BEq.rfl, LN_succ]
  · have hkl : k < l.length := by omega
    refine ⟨by omega, S2.dec (fun h4 => ?_) (fun h4 => ?_)⟩ <;> simp -dsimp only [aqT, aqU, aqN, aqS, ↓seqK, ↓blkK, ↓loopK, step, stepBin, Nat.add_assoc nid, ↓reduceIte, Option.toList, ← Int.ofNat_tmod, ← Int.ofNat_tdiv, simprocAttr, BEq.rfl, LN_succ]
    · have e : cmpG l m = 1 := by
        rw [hd, show m.drop k = [] from List.drop_eq_nil_of_le (by omega), List.drop_eq_getElem_cons hkl]
        rfl
      rw [e]
      refine RetOK.pure (.inl rfl) rfl ?_
      simp [cvT, step, res]
    have hkm : k < m.length := by omega
    have hat := hat hkl hkm
    have htk := fun (e : l.getD k 0 = m.getD k 0) => (show l.take (k + 1) = m.take (k + 1) by
      rw [List.take_succ_eq_append_getElem hkl, List.take_succ_eq_append_getElem hkm, ht]
      simp only [List.getD_eq_getElem?_getD, List.getElem?_eq_getElem hkl, List.getElem?_eq_getElem hkm, Option.getD_some] at e
      rw [e])
    generalize l.getD k 0 = x at *
    generalize m.getD k 0 = y at *
    refine ⟨by omega, CallO.pure (cmpI_c _ _ _) ?_⟩
    simp -dsimp only [aqT, aqU, aqN, aqS, ↓seqK, ↓blkK, ↓loopK, step, stepBin, Nat.add_assoc nid, ↓reduceIte, Option.toList, ← Int.ofNat_tmod, ← Int.ofNat_tdiv, simprocAttr, BEq.rfl, LN_succ]
    have e : cmpV (x : Nat) (y : Nat) = if x < y then -1 else if y < x then 1 else 0 := by unfold cmpV; simp only [Int.ofNat_lt]
    rw [e]
    by_cases h5 : x < y
    · rw [if_pos h5] at hat ⊢
      simp -dsimp only [aqT, aqU, aqN, aqS, ↓seqK, ↓blkK, ↓loopK, step, stepBin, Nat.add_assoc nid, ↓reduceIte, Option.toList, ← Int.ofNat_tmod, ← Int.ofNat_tdiv, simprocAttr, BEq.rfl, LN_succ]
      rw [hat]
      refine RetOK.pure (.inl rfl) rfl ?_
      simp [cvT, step, res]
    rw [if_neg h5] at hat ⊢
    by_cases h6 : y < x
    · rw [if_pos h6] at hat ⊢
      simp -dsimp only [aqT, aqU, aqN, aqS, ↓seqK, ↓blkK, ↓loopK, step, stepBin, Nat.add_assoc nid, ↓reduceIte, Option.toList, ← Int.ofNat_tmod, ← Int.ofNat_tdiv, simprocAttr, BEq.rfl, LN_succ]
      rw [hat]
      refine RetOK.pure (.inl rfl) rfl ?_
      simp [cvT, step, res]
    rw [if_neg h6] at hat ⊢
    simp -dsimp only [aqT, aqU, aqN, aqS, ↓seqK, ↓blkK, ↓loopK, step, stepBin, Nat.add_assoc nid, ↓reduceIte, Option.toList, ← Int.ofNat_tmod, ← Int.ofNat_tdiv, simprocAttr, BEq.rfl, LN_succ]
    refine ⟨by unfold inI64; omega, k + 1, ⟨⟨by omega, by omega, htk (by omega)⟩, by omega⟩, Cov.go [] [] ?_⟩
    simp [cvT, step, res, litQ]
  · have hkl : k = l.length := by omega
    subst hkl
    rw [show l.drop l.length = [] from List.drop_eq_nil_of_le (by omega)] at hd
    refine S2.dec (fun h4 => ?_) (fun h4 => ?_) <;> simp -dsimp only [aqT, aqU, aqN, aqS, ↓seqK, ↓blkK, ↓loopK, step, stepBin, Nat.add_assoc nid, ↓reduceIte, Option.toList, ← Int.ofNat_tmod, ← Int.ofNat_tdiv, simprocAttr, BEq.rfl, LN_succ]
    · have e : cmpG l m = -1 := by
        rw [hd, List.drop_eq_getElem_cons (by omega : l.length < m.length)]
        rfl
      rw [e]
      refine RetOK.pure (.inl rfl) rfl ?_
      simp [cvT, step, res]
    · have e : cmpG l m = 0 := by
        rw [hd, show m.drop l.length = [] from List.drop_eq_nil_of_le (by omega)]
        rfl
      rw [e]
      refine RetOK.pure (.inl rfl) rfl ?_
      simp [cvT, step, res]
theorem ordG_eq (l m : List Nat) : (if cmpV (l.length : Nat) (m.length : Nat) = 0 then cmpG l m else cmpV (l.length : Nat) (m.length : Nat)) = ordG l m := by
  unfold ordG cmpV
  simp only [Int.ofNat_lt]
  by_cases h1 : l.length < m.length
  · simp [h1]
  · by_cases h2 : m.length < l.length
    · simp [h1, h2]
    · simp [h1, h2]
set_option maxHeartbeats 2000000 in
theorem shortQ_I (f : Nat) (caps : List PV) (Hs : Heap) (F : Nat → Bool) (n : Nat) (nid : Nat) (hn : n ≤ 14) (hs : Scoped nid Hs) (hcap : lowAll nid (idsOfs caps) = true)
    (hf : ∀ nl B, B < 2 ^ n → ∀ nid', nid ≤ nid' → ACall Tryd.prog f (litQ nl (fewG B n) :: caps) Hs nid' (.bool (F B)) []) :
    ACallI Tryd.prog 108 [.int .i64 (n : Nat), .fn f caps] Hs nid (fun _ : Bool => True) (fun nb => litQ nb (fewG (shortToG F n (2 ^ n)) n)) (fun _ => []) := by
  have hcv := capsC hcap
  have hpw := (powQ_eq (j := n) (by omega)).2
  have hp1 : 2 ^ n ≤ 2 ^ 14 := Nat.pow_le_pow_right (by omega) hn
  have hp0 := Nat.two_pow_pos n
  refine acallI_sr c108 (by simp [a108]) ?_
  unfold a108
  refine SR.seq ?_
  simp -dsimp only [aqT, aqU, aqN, aqS, ↓seqK, ↓blkK, ↓loopK, step, stepBin, Nat.add_assoc nid, ↓reduceIte, Option.toList, ← Int.ofNat_tmod, ← Int.ofNat_tdiv, simprocAttr, BEq.rfl, LN_succ]
  refine SR.seqW (ι := Bool) (fun nb => ⟨[(5, litQ nb (fewG (2 ^ n - 1) n)), (0, .int .i64 (n : Nat)), (1, .fn f caps)], Hs, nid + 100, nid⟩) ?_ (fun nb => ?_)
  · refine SR.run (t := .mk) ?_
    simp -dsimp only [aqT, aqU, aqN, aqS, ↓seqK, ↓blkK, ↓loopK, step, stepBin, Nat.add_assoc nid, ↓reduceIte, Option.toList, ← Int.ofNat_tmod, ← Int.ofNat_tdiv, simprocAttr, BEq.rfl, LN_succ]
    rw [hpw]
    refine ⟨by omega, ?_⟩
    have e : (((2 ^ n : Nat) : Int) - 1) = ((2 ^ n - 1 : Nat) : Int) := by omega
    rw [e]
    refine ⟨by unfold inI64; omega, ?_⟩
    refine CallO.froze [nid + 20] (CallX.pure (memQ_c (2 ^ n - 1) n _ hn) (fun nb => ?_))
    unfold arrQ
    simp -dsimp only [aqT, aqU, aqN, aqS, ↓seqK, ↓blkK, ↓loopK, step, stepBin, Nat.add_assoc nid, ↓reduceIte, Option.toList, ← Int.ofNat_tmod, ← Int.ofNat_tdiv, simprocAttr, BEq.rfl, LN_succ, lend, kill, noOs, List.map_cons, List.map_nil]
    refine ⟨nb (nid + 20), Cov.goF Hs [_, _] [] [] [] hs (by simp [kOK]) rfl ?_⟩
    simp [cvT, step, res, litQ, hcv, ColsEq.refl, -List.getD_eq_getElem?_getD]
  refine SR.seqW (ι := Bool) (fun nb => ⟨[(5, litQ nb (fewG (shortToG F n (2 ^ n)) n))], Hs, nid + 5000, nid⟩) ?_ (fun nb => ?_)
  · refine SR.seqTo ⟨[(15, .int .i64 0), (14, .int .i64 ((2 ^ n : Nat) : Int)), (5, litQ nb (fewG (2 ^ n - 1) n)), (0, .int .i64 (n : Nat)), (1, .fn f caps)], Hs, nid + 200, nid⟩ ?_ ?_
    · simp -dsimp only [aqT, aqU, aqN, aqS, ↓seqK, ↓blkK, ↓loopK, step, stepBin, Nat.add_assoc nid, ↓reduceIte, Option.toList, ← Int.ofNat_tmod, ← Int.ofNat_tdiv, simprocAttr, BEq.rfl, LN_succ]
      rw [hpw]
      refine ⟨by omega, Cov.goF Hs [] [] [] [] hs (by simp [kOK]) rfl ?_⟩
      simp [cvT, step, res, litQ, hcv, ColsEq.refl, -List.getD_eq_getElem?_getD]
    refine SR.block ?_
    refine SR.loopP (fun x : Nat × Bool => x.1 ≤ 2 ^ n) (fun x => ⟨[(15, .int .i64 (x.1 : Nat)), (14, .int .i64 ((2 ^ n : Nat) : Int)), (5, litQ x.2 (fewG (shortToG F n x.1) n)), (0, .int .i64 (n : Nat)), (1, .fn f caps)], Hs, nid + 300, nid⟩) (fun x => 2 ^ n + 1 - x.1) (0, nb) (by simp) (Cov.goF Hs [] [] [] [] hs (by simp [kOK]) rfl ?_) (fun x hx => ?_)
    · simp [cvT, step, res, litQ, hcv, shortToG, ColsEq.refl, -List.getD_eq_getElem?_getD]
    obtain ⟨x, na⟩ := x
    simp only at hx ⊢
    have hst := shortToG_succ F n x
    have hlt := shortToG_lt F n x hx
    have hend : x = 2 ^ n → shortToG F n (2 ^ n) = shortToG F n x := fun e => by rw [e]
    generalize shortToG F n x = B at *
    refine SR.run (t := .mk) ?_
    unfold litQ
    simp -dsimp only [aqT, aqU, aqN, aqS, ↓seqK, ↓blkK, ↓loopK, step, stepBin, Nat.add_assoc nid, ↓reduceIte, Option.toList, ← Int.ofNat_tmod, ← Int.ofNat_tdiv, simprocAttr, BEq.rfl, LN_succ]
    refine S2.dec (fun h3 => ?_) (fun h3 => ?_) <;> simp -dsimp only [aqT, aqU, aqN, aqS, ↓seqK, ↓blkK, ↓loopK, step, stepBin, Nat.add_assoc nid, ↓reduceIte, Option.toList, ← Int.ofNat_tmod, ← Int.ofNat_tdiv, simprocAttr, BEq.rfl, LN_succ]
    · have hxl : x < 2 ^ n := by omega
      have hw : 2 ^ n ≤ 16384 := by omega
      generalize 2 ^ n = P at *
      refine CallO.froze [nid + 320] (CallX.pure (memQ_c x n _ hn) (fun nb => ?_))
      have hcm := fun a b m => compareQ_c a b (fewG x n) (fewG B n) m (by have := fewG_len x n; omega) (by have := fewG_len B n; omega)
      have hfx := fun a m h => hf a x hxl m h
      have hlx := fewG_len x n
      have hlB := fewG_len B n
      have hoe := ordG_eq (fewG x n) (fewG B n)
      unfold shortStepG at hst
      unfold litQ at hcm hfx
      unfold arrQ
      simp -dsimp only [aqT, aqU, aqN, aqS, ↓seqK, ↓blkK, ↓loopK, step, stepBin, Nat.add_assoc nid, ↓reduceIte, Option.toList, ← Int.ofNat_tmod, ← Int.ofNat_tdiv, simprocAttr, BEq.rfl, LN_succ, lend, kill, noOs, List.map_cons, List.map_nil]
      refine CallO.pure (cmpI_c _ _ _) ?_
      simp -dsimp only [aqT, aqU, aqN, aqS, ↓seqK, ↓blkK, ↓loopK, step, stepBin, Nat.add_assoc nid, ↓reduceIte, Option.toList, ← Int.ofNat_tmod, ← Int.ofNat_tdiv, simprocAttr, BEq.rfl, LN_succ]
      refine CallO.pure (hcm _ _ _) ?_
      simp -dsimp only [aqT, aqU, aqN, aqS, ↓seqK, ↓blkK, ↓loopK, step, stepBin, Nat.add_assoc nid, ↓reduceIte, Option.toList, ← Int.ofNat_tmod, ← Int.ofNat_tdiv, simprocAttr, BEq.rfl, LN_succ]
      refine CallO.gave1 (by simp only [aqT, aqU, aqN, aqS, ↓seqK, ↓blkK, ↓loopK, step, stepBin, Nat.add_assoc nid, ↓reduceIte, Option.toList, ← Int.ofNat_tmod, ← Int.ofNat_tdiv, simprocAttr, BEq.rfl, LN_succ]; rfl) (fun nl' => or2_c nl' _ _ _) rfl ?_
      rw [hoe]
      simp -dsimp only [aqT, aqU, aqN, aqS, ↓seqK, ↓blkK, ↓loopK, step, stepBin, Nat.add_assoc nid, ↓reduceIte, Option.toList, ← Int.ofNat_tmod, ← Int.ofNat_tdiv, simprocAttr, BEq.rfl, LN_succ]
      refine S2.dec (fun h7 => ?_) (fun h7 => ?_) <;> simp -dsimp only [aqT, aqU, aqN, aqS, ↓seqK, ↓blkK, ↓loopK, step, stepBin, Nat.add_assoc nid, ↓reduceIte, Option.toList, ← Int.ofNat_tmod, ← Int.ofNat_tdiv, simprocAttr, BEq.rfl, LN_succ]
      · first
          | refine CallO.on (hfx _ _ (by omega)) (subH_frame (X := [_]) hs (by simp [kOK])) ?_
          | refine CallO.on (hfx _ _ (by omega)) (subH_frame (X := [_, _]) hs (by simp [kOK])) ?_
          | refine CallO.on (hfx _ _ (by omega)) (subH_frame (X := [_, _, _]) hs (by simp [kOK])) ?_
          | refine CallO.on (hfx _ _ (by omega)) (subH_frame (X := [_, _, _, _]) hs (by simp [kOK])) ?_
          | refine CallO.on (hfx _ _ (by omega)) (subH_frame (X := [_, _, _, _, _]) hs (by simp [kOK])) ?_
          | refine CallO.on (hfx _ _ (by omega)) (subH_frame (X := [_, _, _, _, _, _]) hs (by simp [kOK])) ?_
        simp -dsimp only [aqT, aqU, aqN, aqS, ↓seqK, ↓blkK, ↓loopK, step, stepBin, Nat.add_assoc nid, ↓reduceIte, Option.toList, ← Int.ofNat_tmod, ← Int.ofNat_tdiv, simprocAttr, BEq.rfl, LN_succ]
        cases hF : F x <;> rw [hF] at hst <;> simp -dsimp only [aqT, aqU, aqN, aqS, ↓seqK, ↓blkK, ↓loopK, step, stepBin, Nat.add_assoc nid, ↓reduceIte, Option.toList, ← Int.ofNat_tmod, ← Int.ofNat_tdiv, simprocAttr, BEq.rfl, LN_succ]
        · rw [if_neg (by simp)] at hst
          refine ⟨by unfold inI64; omega, (x + 1, na), ⟨by simp only; omega, by simp only; omega⟩, ?_⟩
          first
            | refine Cov.goF Hs [_] [] [] [] hs (by simp [kOK]) rfl ?_
            | refine Cov.goF Hs [_, _] [] [] [] hs (by simp [kOK]) rfl ?_
            | refine Cov.goF Hs [_, _, _] [] [] [] hs (by simp [kOK]) rfl ?_
            | refine Cov.goF Hs [_, _, _, _] [] [] [] hs (by simp [kOK]) rfl ?_
            | refine Cov.goF Hs [_, _, _, _, _] [] [] [] hs (by simp [kOK]) rfl ?_
            | refine Cov.goF Hs [_, _, _, _, _, _] [] [] [] hs (by simp [kOK]) rfl ?_
          rw [hst]
          simp [cvT, step, res, litQ, hcv, ColsEq.refl, -List.getD_eq_getElem?_getD]
        · rw [if_pos ⟨h7, rfl⟩] at hst
          refine ⟨by unfold inI64; omega, (x + 1, nb (nid + 320)), ⟨by simp only; omega, by simp only; omega⟩, ?_⟩
          first
            | refine Cov.goF Hs [_] [] [] [] hs (by simp [kOK]) rfl ?_
            | refine Cov.goF Hs [_, _] [] [] [] hs (by simp [kOK]) rfl ?_
            | refine Cov.goF Hs [_, _, _] [] [] [] hs (by simp [kOK]) rfl ?_
            | refine Cov.goF Hs [_, _, _, _] [] [] [] hs (by simp [kOK]) rfl ?_
            | refine Cov.goF Hs [_, _, _, _, _] [] [] [] hs (by simp [kOK]) rfl ?_
            | refine Cov.goF Hs [_, _, _, _, _, _] [] [] [] hs (by simp [kOK]) rfl ?_
          rw [hst]
          simp [cvT, step, res, litQ, hcv, ColsEq.refl, -List.getD_eq_getElem?_getD]
      · rw [if_neg (fun e => h7 e.1)] at hst
        refine ⟨by unfold inI64; omega, (x + 1, na), ⟨by simp only; omega, by simp only; omega⟩, ?_⟩
        first
          | refine Cov.goF Hs [_] [] [] [] hs (by simp [kOK]) rfl ?_
          | refine Cov.goF Hs [_, _] [] [] [] hs (by simp [kOK]) rfl ?_
          | refine Cov.goF Hs [_, _, _] [] [] [] hs (by simp [kOK]) rfl ?_
          | refine Cov.goF Hs [_, _, _, _] [] [] [] hs (by simp [kOK]) rfl ?_
          | refine Cov.goF Hs [_, _, _, _, _] [] [] [] hs (by simp [kOK]) rfl ?_
          | refine Cov.goF Hs [_, _, _, _, _, _] [] [] [] hs (by simp [kOK]) rfl ?_
        rw [hst]
        simp [cvT, step, res, litQ, hcv, ColsEq.refl, -List.getD_eq_getElem?_getD]
    · have hxe : x = 2 ^ n := by omega
      have hend := hend hxe
      rw [hend]
      refine ⟨na, Cov.goF Hs [] [] [] [] hs (by simp [kOK]) rfl ?_⟩
      simp [cvT, step, res, litQ, ColsEq.refl, -List.getD_eq_getElem?_getD]
  refine SR.run (t := .mk) ?_
  unfold litQ
  simp -dsimp only [aqT, aqU, aqN, aqS, ↓seqK, ↓blkK, ↓loopK, step, stepBin, Nat.add_assoc nid, ↓reduceIte, Option.toList, ← Int.ofNat_tmod, ← Int.ofNat_tdiv, simprocAttr, BEq.rfl, LN_succ]
  refine ⟨nb, RetOK.goF Hs [] [] [] [] [] (.inl rfl) hs (by simp [kOK]) rfl ?_⟩
  simp [a108, cvT, step, res, litQ, ColsEq.refl, -List.getD_eq_getElem?_getD]
end Go.Proofs.YthcldfmlfjomfaaDoor
namespace Go.Proofs.YthcldfmlfjomfaaDoor
open Go.RowKit Go.Lib
def noB (_ : Nat) : Bool := false
def colQ (gs : List (List Nat)) : List Col := [.l noB (fun k => (gs.getD k []).length) (fun k => [.i .i64 fun j => (((gs.getD k []).getD j 0 : Nat) : Int)])]
def arrEq (gs : List (List Nat)) : Option ABlk := some (.arr 22 gs.length (colQ gs))
def litEq (nl : Bool) (gs : List (List Nat)) : PV := .lit nl gs.length (colQ gs)
theorem colQ_app (gs : List (List Nat)) (g : List Nat) (a2 : Nat → Bool) (l2 : Nat → Nat) (c2 : Nat → List Col) (ha : a2 0 = false) (hl : l2 0 = g.length) (hc : c2 0 = [.i .i64 fun j => ((g.getD j 0 : Nat) : Int)]) : ColEq (gs.length + 1) (.l (fun i => if i < gs.length then noB i else a2 (i - gs.length)) (fun i => if i < gs.length then (gs.getD i []).length else l2 (i - gs.length)) (fun i => if i < gs.length then [.i .i64 fun j => (((gs.getD i []).getD j 0 : Nat) : Int)] else c2 (i - gs.length)))
    (.l noB (fun k => ((gs ++ [g]).getD k []).length) (fun k => [.i .i64 fun j => ((((gs ++ [g]).getD k []).getD j 0 : Nat) : Int)])) := by
  refine ColEq.l fun i hi => ?_
  by_cases h : i < gs.length
  · have e : (gs ++ [g]).getD i [] = gs.getD i [] := by rw [List.getD_eq_getElem?_getD, List.getElem?_append_left h, ← List.getD_eq_getElem?_getD]
    rw [e, if_pos h, if_pos h, if_pos h]
    exact ⟨rfl, rfl, ColsEq.refl _ _⟩
  · have h0 : i - gs.length = 0 := by omega
    have e : (gs ++ [g]).getD i [] = g := by
      rw [List.getD_eq_getElem?_getD, List.getElem?_append_right (by omega), h0]
      rfl
    rw [e, if_neg h, if_neg h, if_neg h, h0, ha, hl, hc]
    exact ⟨rfl, rfl, ColsEq.refl _ _⟩
def eqPart (S : List (List UInt8)) (i k : Nat) : List Nat := i :: ((List.range' (i + 1) (k - i - 1)).filter fun k => S.getD k [] == S.getD i [])
theorem eqPart_succ (S : List (List UInt8)) {i k : Nat} (h : i + 1 ≤ k) : eqPart S i (k + 1) = if (S.getD k [] == S.getD i []) = true then eqPart S i k ++ [k] else eqPart S i k := by
  unfold eqPart
  have e : k + 1 - i - 1 = (k - i - 1) + 1 := by omega
  have e2 : i + 1 + (k - i - 1) = k := by omega
  rw [e, List.range'_1_concat, List.filter_append, e2]
  cases hb : (S.getD k [] == S.getD i [])
  · rw [List.filter_cons, hb]; simp
  · rw [List.filter_cons, hb]; simp
theorem eqPart_len (S : List (List UInt8)) {i k : Nat} (h : i + 1 ≤ k) : (eqPart S i k).length ≤ k := by
  unfold eqPart
  have := List.length_filter_le (fun k => S.getD k [] == S.getD i []) (List.range' (i + 1) (k - i - 1))
  rw [List.length_range'] at this
  rw [List.length_cons]
  omega
theorem containsT_c (ns : Bool) (S : List (List UInt8)) (i : Nat) (x : List UInt8) (nid : Nat) (hi : i ≤ S.length) (hS : S.length ≤ 1000000) : ACall Tryd.prog 153 [.lit ns i [.s fun j => S.getD j []], .str x] [] nid (.bool ((S.take i).contains x)) [] :=
  have h := containsN_c ns (S.take i) x nid (by rw [List.length_take]; omega)
  have hl : (S.take i).length = i := by rw [List.length_take]; omega
  by
    unfold litS at h
    rw [hl] at h
    refine ACall.args h ?_
    simp only [ArgEqs, ArgEq, and_true, true_and]
    refine ⟨ColEq.s fun j hj => ?_, trivial⟩
    rw [List.getD_eq_getElem?_getD, List.getD_eq_getElem?_getD, List.getElem?_take, if_pos hj]
set_option maxHeartbeats 8000000 in
theorem equalOf_c (nl : Bool) (v : List (List UInt8)) (n : Nat) (nid : Nat) (hv : v.length ≤ 1000000) (hn : n ≤ 100000) (hw : ∀ s ∈ v, n ≤ s.length) : ACall Tryd.prog 111 [.int .i64 (n : Nat), litS nl v] [] nid (.sl nid 0 (eqTo (turnL v n) n n).length) [(nid, arrEq (eqTo (turnL v n) n n))] := by
  have hql : (turnL v n).length = n := turnL_len v n
  refine acall_sr c111 (by simp [a111]) ?_
  unfold a111 litS
  refine SR.seq ?_
  simp -dsimp only [aqT, aqU, aqN, aqS, ↓seqK, ↓blkK, ↓loopK, step, stepBin, Nat.add_assoc nid, ↓reduceIte, Option.toList, ← Int.ofNat_tmod, ← Int.ofNat_tdiv, simprocAttr, BEq.rfl, LN_succ]
  refine SR.seq ?_
  simp -dsimp only [aqT, aqU, aqN, aqS, ↓seqK, ↓blkK, ↓loopK, step, stepBin, Nat.add_assoc nid, ↓reduceIte, Option.toList, ← Int.ofNat_tmod, ← Int.ofNat_tdiv, simprocAttr, BEq.rfl, LN_succ]
  refine SR.seqTo ⟨[(6, .sl (nid + 20) 0 n), (5, .lit true 0 []), (0, .int .i64 (n : Nat))], [(nid + 20, arrS (turnL v n))], nid + 100, nid⟩ ?_ ?_
  · simp -dsimp only [aqT, aqU, aqN, aqS, ↓seqK, ↓blkK, ↓loopK, step, stepBin, Nat.add_assoc nid, ↓reduceIte, Option.toList, ← Int.ofNat_tmod, ← Int.ofNat_tdiv, simprocAttr, BEq.rfl, LN_succ]
    have h := fun m => sequencesOf_c nl v n m hv (by omega) hw
    unfold litS at h
    refine CallO.pure (h _) ?_
    unfold arrS
    rw [hql]
    simp -dsimp only [aqT, aqU, aqN, aqS, ↓seqK, ↓blkK, ↓loopK, step, stepBin, Nat.add_assoc nid, ↓reduceIte, Option.toList, ← Int.ofNat_tmod, ← Int.ofNat_tdiv, simprocAttr, BEq.rfl, LN_succ]
    refine Cov.go [(nid + 20, nid + 16)] [] ?_
    simp [cvT, step, res, arrS, hql, ColsEq.refl, -List.getD_eq_getElem?_getD]
  generalize turnL v n = S at *
  unfold arrS
  refine SR.freezeB [nid + 20] (fun nl' => ?_)
  simp only [frzS, frzH, frzBlk, lends, lend, kill, noOs, hql, aqT, aqU, aqN, aqS, ↓seqK, ↓blkK, ↓loopK, step, stepBin, Nat.add_assoc nid, ↓reduceIte, Option.toList, ← Int.ofNat_tmod, ← Int.ofNat_tdiv, simprocAttr, BEq.rfl, LN_succ]
  generalize nl' (nid + 20) = ns
  refine SR.seqW (ι := Unit) (fun _ => ⟨[(5, .sl (nid + 16) 0 (eqTo S n n).length)], [(nid + 16, arrEq (eqTo S n n))], nid + 9000, nid⟩) ?_ (fun _ => ?_)
  · refine SR.seqTo ⟨[(15, .int .i64 0), (14, .int .i64 (n : Nat)), (6, .lit ns n [.s fun i => S.getD i []]), (5, .lit true 0 []), (0, .int .i64 (n : Nat))], [], nid + 200, nid⟩ ?_ ?_
    · simp -dsimp only [aqT, aqU, aqN, aqS, ↓seqK, ↓blkK, ↓loopK, step, stepBin, Nat.add_assoc nid, ↓reduceIte, Option.toList, ← Int.ofNat_tmod, ← Int.ofNat_tdiv, simprocAttr, BEq.rfl, LN_succ]
      refine Cov.go [] [] ?_
      simp [cvT, step, res, ColsEq.refl, -List.getD_eq_getElem?_getD]
    refine SR.block ?_
    refine SR.loopP (fun i : Nat => i ≤ n) (fun i => ⟨[(15, .int .i64 i), (14, .int .i64 (n : Nat)), (6, .lit ns n [.s fun i => S.getD i []]), (5, .sl (nid + 16) 0 (eqTo S n i).length), (0, .int .i64 (n : Nat))], [(nid + 16, arrEq (eqTo S n i))], nid + 300, nid⟩) (fun i => n + 1 - i) 0 (by omega) (Cov.go [] [(nid + 16, 1)] ?_) (fun i hi => ?_)
    · have e0 : eqTo S n 0 = [] := rfl
      rw [e0]
      simp [cvT, step, res, arrEq, colQ, ColsEq.refl, -List.getD_eq_getElem?_getD]
    have hel := eqTo_len S n i
    have hes := eqTo_succ S n i
    unfold arrEq
    refine SR.seq ?_
    simp -dsimp only [aqT, aqU, aqN, aqS, ↓seqK, ↓blkK, ↓loopK, step, stepBin, Nat.add_assoc nid, ↓reduceIte, Option.toList, ← Int.ofNat_tmod, ← Int.ofNat_tdiv, simprocAttr, BEq.rfl, LN_succ]
    refine SR.seq ?_
    simp -dsimp only [aqT, aqU, aqN, aqS, ↓seqK, ↓blkK, ↓loopK, step, stepBin, Nat.add_assoc nid, ↓reduceIte, Option.toList, ← Int.ofNat_tmod, ← Int.ofNat_tdiv, simprocAttr, BEq.rfl, LN_succ]
    refine S2.dec (fun h3 => ?_) (fun h3 => ?_) <;> simp -dsimp only [aqT, aqU, aqN, aqS, ↓seqK, ↓blkK, ↓loopK, step, stepBin, Nat.add_assoc nid, ↓reduceIte, Option.toList, ← Int.ofNat_tmod, ← Int.ofNat_tdiv, simprocAttr, BEq.rfl, LN_succ]
    · have hil : i < n := by omega
      refine SR.seqW (ι := Unit) (fun _ => ⟨[(15, .int .i64 i), (14, .int .i64 (n : Nat)), (6, .lit ns n [.s fun i => S.getD i []]), (5, .sl (nid + 16) 0 (eqTo S n (i + 1)).length), (0, .int .i64 (n : Nat))], [(nid + 16, arrEq (eqTo S n (i + 1)))], nid + 8000, nid⟩) ?_ (fun _ => ?_)
      · refine SR.block ?_
        refine SR.seq ?_
        simp -dsimp only [aqT, aqU, aqN, aqS, ↓seqK, ↓blkK, ↓loopK, step, stepBin, Nat.add_assoc nid, ↓reduceIte, Option.toList, ← Int.ofNat_tmod, ← Int.ofNat_tdiv, simprocAttr, BEq.rfl, LN_succ]
        refine SR.seqTo ⟨[(8, .sl (nid + 24) 0 1), (7, .int .i64 i), (15, .int .i64 i), (14, .int .i64 (n : Nat)), (6, .lit ns n [.s fun i => S.getD i []]), (5, .sl (nid + 16) 0 (eqTo S n i).length), (0, .int .i64 (n : Nat))], [(nid + 24, arrQ [i]), (nid + 16, arrEq (eqTo S n i))], nid + 500, nid⟩ ?_ ?_
        · simp -dsimp only [aqT, aqU, aqN, aqS, ↓seqK, ↓blkK, ↓loopK, step, stepBin, Nat.add_assoc nid, ↓reduceIte, Option.toList, ← Int.ofNat_tmod, ← Int.ofNat_tdiv, simprocAttr, BEq.rfl, LN_succ]
          refine Cov.go [(nid + 24, nid + 316)] [] ?_
          simp [cvT, step, res, arrEq, arrQ, colQ, ColsEq.refl, -List.getD_eq_getElem?_getD]
          exact ColEq.i fun j hj => by rcases (by omega : j = 0) with rfl; rfl
        refine SR.seqW (ι := Unit) (fun _ => ⟨[(8, .sl (nid + 24) 0 (eqOne S n i).length), (7, .int .i64 i), (15, .int .i64 i), (14, .int .i64 (n : Nat)), (6, .lit ns n [.s fun i => S.getD i []]), (5, .sl (nid + 16) 0 (eqTo S n i).length), (0, .int .i64 (n : Nat))], [(nid + 24, arrQ (eqOne S n i)), (nid + 16, arrEq (eqTo S n i))], nid + 4000, nid⟩) ?_ (fun _ => ?_)
        · refine SR.seqTo ⟨[(9, .int .i64 ((i + 1 : Nat) : Int)), (8, .sl (nid + 24) 0 1), (7, .int .i64 i), (15, .int .i64 i), (14, .int .i64 (n : Nat)), (6, .lit ns n [.s fun i => S.getD i []]), (5, .sl (nid + 16) 0 (eqTo S n i).length), (0, .int .i64 (n : Nat))], [(nid + 24, arrQ [i]), (nid + 16, arrEq (eqTo S n i))], nid + 600, nid⟩ ?_ ?_
          · unfold arrQ arrEq
            simp -dsimp only [aqT, aqU, aqN, aqS, ↓seqK, ↓blkK, ↓loopK, step, stepBin, Nat.add_assoc nid, ↓reduceIte, Option.toList, ← Int.ofNat_tmod, ← Int.ofNat_tdiv, simprocAttr, BEq.rfl, LN_succ]
            refine ⟨by unfold inI64; omega, Cov.go [] [] ?_⟩
            simp [cvT, step, res, arrEq, arrQ, colQ, ColsEq.refl, -List.getD_eq_getElem?_getD]
          refine SR.block ?_
          refine SR.loopP (fun k : Nat => i + 1 ≤ k ∧ k ≤ n) (fun k => ⟨[(9, .int .i64 (k : Nat)), (8, .sl (nid + 24) 0 (eqPart S i k).length), (7, .int .i64 i), (15, .int .i64 i), (14, .int .i64 (n : Nat)), (6, .lit ns n [.s fun i => S.getD i []]), (5, .sl (nid + 16) 0 (eqTo S n i).length), (0, .int .i64 (n : Nat))], [(nid + 24, arrQ (eqPart S i k)), (nid + 16, arrEq (eqTo S n i))], nid + 700, nid⟩) (fun k => n + 1 - k) (i + 1) ⟨by omega, by omega⟩ (Cov.go [] [] ?_) (fun k hk => ?_)
          · have e1 : eqPart S i (i + 1) = [i] := by unfold eqPart; simp
            rw [e1]
            simp [cvT, step, res, arrEq, arrQ, colQ, ColsEq.refl, -List.getD_eq_getElem?_getD]
          obtain ⟨hk1, hk2⟩ := hk
          have hps := eqPart_succ S hk1
          have hpl := eqPart_len S hk1
          refine SR.run (t := .mk) ?_
          unfold arrQ arrEq
          simp -dsimp only [aqT, aqU, aqN, aqS, ↓seqK, ↓blkK, ↓loopK, step, stepBin, Nat.add_assoc nid, ↓reduceIte, Option.toList, ← Int.ofNat_tmod, ← Int.ofNat_tdiv, simprocAttr, BEq.rfl, LN_succ]
          refine S2.dec (fun h4 => ?_) (fun h4 => ?_) <;> simp -dsimp only [aqT, aqU, aqN, aqS, ↓seqK, ↓blkK, ↓loopK, step, stepBin, Nat.add_assoc nid, ↓reduceIte, Option.toList, ← Int.ofNat_tmod, ← Int.ofNat_tdiv, simprocAttr, BEq.rfl, LN_succ]
          · have hkl : k < n := by omega
            refine ⟨⟨by omega, by omega⟩, ⟨by omega, by omega⟩, ?_⟩
            generalize hX : eqTo S n i = X at *
            cases hb : (S.getD k [] == S.getD i []) <;> rw [hb] at hps <;> simp -dsimp only [aqT, aqU, aqN, aqS, ↓seqK, ↓blkK, ↓loopK, step, stepBin, Nat.add_assoc nid, ↓reduceIte, Option.toList, ← Int.ofNat_tmod, ← Int.ofNat_tdiv, simprocAttr, BEq.rfl, LN_succ]
            · rw [if_neg (by simp)] at hps
              refine ⟨by unfold inI64; omega, k + 1, ⟨⟨by omega, by omega⟩, by omega⟩, Cov.go [] [] ?_⟩
              simp [cvT, step, res, hps, arrEq, arrQ, colQ, ColsEq.refl, -List.getD_eq_getElem?_getD]
            · rw [if_pos rfl] at hps
              have happ := getD_appQ (eqPart S i k) k
              have hl2 : (eqPart S i (k + 1)).length = (eqPart S i k).length + 1 := by rw [hps]; simp
              rw [happ, ← hps]
              refine ⟨⟨by omega, by omega⟩, by unfold inI64; omega, k + 1, ⟨⟨by omega, by omega⟩, by omega⟩, Cov.go [(nid + 24, nid + 760)] [] ?_⟩
              simp [cvT, step, res, hl2, arrEq, arrQ, colQ, ColsEq.refl, -List.getD_eq_getElem?_getD]
          · obtain rfl : k = n := by omega
            refine ⟨(), Cov.go [] [] ?_⟩
            have e1 : eqOne S k i = eqPart S i k := rfl
            rw [e1]
            simp [cvT, step, res, arrEq, arrQ, colQ, ColsEq.refl, -List.getD_eq_getElem?_getD]
        have hol : (eqOne S n i).length ≤ n := eqPart_len S (by omega)
        have ho1 : 0 < (eqOne S n i).length := by unfold eqOne; simp
        have hsl : (S.take i).length = i := by rw [List.length_take]; omega
        unfold arrQ arrEq colQ
        refine SR.freezeN [nid + 24] (fun nl' hnn => ?_)
        have hn0 := hnn (nid + 24) _ _ _ (by simp only [getH, aqT, aqU, aqN, aqS, ↓seqK, ↓blkK, ↓loopK, step, stepBin, Nat.add_assoc nid, ↓reduceIte, Option.toList, ← Int.ofNat_tmod, ← Int.ofNat_tdiv, simprocAttr, BEq.rfl, LN_succ]; rfl) ho1
        clear hnn
        simp only [frzS, frzH, frzBlk, lends, lend, kill, noOs, aqT, aqU, aqN, aqS, ↓seqK, ↓blkK, ↓loopK, step, stepBin, Nat.add_assoc nid, ↓reduceIte, Option.toList, ← Int.ofNat_tmod, ← Int.ofNat_tdiv, simprocAttr, BEq.rfl, LN_succ]
        rw [hn0]
        have hcon := fun m => containsT_c ns S i (S.getD i []) m (by omega) (by omega)
        have hb := hes
        unfold eqGb at hb
        generalize hO : eqOne S n i = O at *
        generalize hX : eqTo S n i = X at *
        refine SR.run (t := .mk) ?_
        simp -dsimp only [aqT, aqU, aqN, aqS, ↓seqK, ↓blkK, ↓loopK, step, stepBin, Nat.add_assoc nid, ↓reduceIte, Option.toList, ← Int.ofNat_tmod, ← Int.ofNat_tdiv, simprocAttr, BEq.rfl, LN_succ]
        refine S2.dec (fun h5 => ?_) (fun h5 => ?_) <;> simp -dsimp only [aqT, aqU, aqN, aqS, ↓seqK, ↓blkK, ↓loopK, step, stepBin, Nat.add_assoc nid, ↓reduceIte, Option.toList, ← Int.ofNat_tmod, ← Int.ofNat_tdiv, simprocAttr, BEq.rfl, LN_succ]
        · refine ⟨by omega, ⟨by omega, by omega⟩, ?_⟩
          refine CallX.pure (hcon _) ?_
          rw [decide_eq_true (by omega)] at hb
          cases hc : (S.take i).contains (S.getD i []) <;> rw [hc] at hb <;> simp -dsimp only [aqT, aqU, aqN, aqS, ↓seqK, ↓blkK, ↓loopK, step, stepBin, Nat.add_assoc nid, ↓reduceIte, Option.toList, ← Int.ofNat_tmod, ← Int.ofNat_tdiv, simprocAttr, BEq.rfl, LN_succ, Bool.not_true, Bool.not_false]
          · rw [if_pos (by simp)] at hb
            have hl2 : (eqTo S n (i + 1)).length = X.length + 1 := by rw [hb]; simp
            refine ⟨⟨by omega, by omega⟩, (), Cov.go [(nid + 16, nid + 4068)] [] ?_⟩
            have hca := colQ_app X O (fun i => ([(false, O.length, [Col.i .i64 fun k => ((O.getD k 0 : Nat) : Int)])].getD i (true, 0, [])).1) (fun i => ([(false, O.length, [Col.i .i64 fun k => ((O.getD k 0 : Nat) : Int)])].getD i (true, 0, [])).2.1) (fun i => ([(false, O.length, [Col.i .i64 fun k => ((O.getD k 0 : Nat) : Int)])].getD i (true, 0, [])).2.2) rfl rfl rfl
            rw [← hb] at hca
            simp [cvT, step, res, hl2, arrEq, colQ, ColsEq.refl, -List.getD_eq_getElem?_getD]
            exact hca
          · rw [if_neg (by simp)] at hb
            refine ⟨(), Cov.go [] [] ?_⟩
            simp [cvT, step, res, hb, arrEq, colQ, ColsEq.refl, -List.getD_eq_getElem?_getD]
        · rw [decide_eq_false (by omega), if_neg (by simp)] at hb
          refine ⟨(), Cov.go [] [] ?_⟩
          simp [cvT, step, res, hb, arrEq, colQ, ColsEq.refl, -List.getD_eq_getElem?_getD]
      · refine SR.run (t := .mk) ?_
        unfold arrEq
        simp -dsimp only [aqT, aqU, aqN, aqS, ↓seqK, ↓blkK, ↓loopK, step, stepBin, Nat.add_assoc nid, ↓reduceIte, Option.toList, ← Int.ofNat_tmod, ← Int.ofNat_tdiv, simprocAttr, BEq.rfl, LN_succ]
        refine ⟨by unfold inI64; omega, i + 1, ⟨by omega, by omega⟩, Cov.go [] [] ?_⟩
        simp [cvT, step, res, arrEq, colQ, ColsEq.refl, -List.getD_eq_getElem?_getD]
    · obtain rfl : i = n := by omega
      refine ⟨(), Cov.go [] [] ?_⟩
      simp [cvT, step, res, arrEq, colQ, ColsEq.refl, -List.getD_eq_getElem?_getD]
  refine SR.run (t := .mk) ?_
  unfold arrEq
  simp -dsimp only [aqT, aqU, aqN, aqS, ↓seqK, ↓blkK, ↓loopK, step, stepBin, Nat.add_assoc nid, ↓reduceIte, Option.toList, ← Int.ofNat_tmod, ← Int.ofNat_tdiv, simprocAttr, BEq.rfl, LN_succ]
  refine RetOK.go [(nid, nid + 16)] [] (.inl rfl) ?_
  simp [a111, cvT, step, res, arrEq, colQ, ColsEq.refl, -List.getD_eq_getElem?_getD]
end Go.Proofs.YthcldfmlfjomfaaDoor
namespace Go.Proofs.YthcldfmlfjomfaaDoor
open Go.RowKit Go.Lib
theorem apart_cc (a b : List UInt8) (nid : Nat) (hl : a.length = b.length) (ha : a.length ≤ 1000000) : ACall Tryd.prog 114 [.str a, .str b] [] nid (.int .i64 (hamK a b a.length : Nat)) [] := by
  refine acall_run c114 (by simp [a114]) ?_
  simp -dsimp only [aqT, aqU, aqN, aqS, ↓seqK, ↓blkK, ↓loopK, step, stepBin, Nat.add_assoc nid, ↓reduceIte, Option.toList, ← Int.ofNat_tmod, ← Int.ofNat_tdiv, simprocAttr, BEq.rfl, LN_succ, a114]
  refine LP.mkP (fun k : Nat => k ≤ a.length) (fun k : Nat => ⟨[(9, .int .i64 k), (8, .int .i64 a.length), (5, .int .i64 (hamK a b k : Nat)), (0, .str a), (1, .str b)], [], nid + 100, nid⟩) (fun k => a.length + 1 - k) 0 (by omega) (Cov.go [] [] ?_) (fun k hk => ?_)
  · simp [cvT, step, res, hamK]
  have hs := hamK_succ a b k
  have hle := hamK_le a b k
  simp -dsimp only [aqT, aqU, aqN, aqS, ↓seqK, ↓blkK, ↓loopK, step, stepBin, Nat.add_assoc nid, ↓reduceIte, Option.toList, ← Int.ofNat_tmod, ← Int.ofNat_tdiv, simprocAttr, BEq.rfl, LN_succ]
  refine S2.dec (fun h3 => ?_) (fun h3 => ?_) <;> simp -dsimp only [aqT, aqU, aqN, aqS, ↓seqK, ↓blkK, ↓loopK, step, stepBin, Nat.add_assoc nid, ↓reduceIte, Option.toList, ← Int.ofNat_tmod, ← Int.ofNat_tdiv, simprocAttr, BEq.rfl, LN_succ]
  · have hkl : k < a.length := by omega
    have eb : ∀ x y : UInt8, (((x.toNat : Nat) : Int) != ((y.toNat : Nat) : Int)) = !(x == y) := fun x y => by
      rw [Bool.eq_iff_iff]
      simp only [bne_iff_ne, ne_eq, Int.natCast_inj, UInt8.toNat_inj, Bool.not_eq_true', beq_eq_false_iff_ne]
    refine ⟨by omega, by omega, ?_⟩
    rw [eb]
    cases h4 : (a.getD k 0 == b.getD k 0) <;> rw [h4] at hs <;> simp -dsimp only [aqT, aqU, aqN, aqS, ↓seqK, ↓blkK, ↓loopK, step, stepBin, Nat.add_assoc nid, ↓reduceIte, Option.toList, ← Int.ofNat_tmod, ← Int.ofNat_tdiv, simprocAttr, BEq.rfl, LN_succ, Bool.not_true, Bool.not_false]
    · rw [if_neg (by simp)] at hs
      refine ⟨by unfold inI64; omega, by unfold inI64; omega, k + 1, ⟨by omega, by omega⟩, Cov.go [] [] ?_⟩
      simp [cvT, step, res, hs]
    · rw [if_pos rfl] at hs
      refine ⟨by unfold inI64; omega, k + 1, ⟨by omega, by omega⟩, Cov.go [] [] ?_⟩
      simp [cvT, step, res, hs]
  · obtain rfl : k = a.length := by omega
    refine RetOK.pure (.inl rfl) rfl ?_
    simp [cvT, step, res]
def boxNn (n : Nat) : Option ABlk := some (.box 3 [.int .i64 (n : Nat)])
def boxRm (im : Nat) : Option ABlk := some (.box 140 [.mp im])
def boxVs (nl : Bool) (v : List (List UInt8)) : Option ABlk := some (.box 26 [litS nl v])
def capO (b : Nat) : List PV := [.ptr (b + 4) 0, .ptr (b + 8) 0, .ptr (b + 12) 0, .ptr (b + 16) 0]
def boxCf (b : Nat) : Option ABlk := some (.box 55 [.fn 113 (capO b)])
def valO (v : List (List UInt8)) : MK → Int
  | .p a b => costV (dV v) v.length a.toNat b.toNat
  | _ => 0
def mapO (v : List (List UInt8)) (d : MK → Bool) : Option ABlk := some (.map .p d (.i .i64 (valO v)))
def hsO (b : Nat) (nl : Bool) (v : List (List UInt8)) (d : MK → Bool) : Heap := [(b + 4, boxNn v.length), (b + 8, boxRm (b + 20)), (b + 12, boxVs nl v), (b + 16, boxCf b), (b + 20, mapO v d)]
def domO (n : Nat) : Nat → Nat → Nat → (MK → Bool) → (MK → Bool)
  | 0, _, _, d => d
  | f + 1, was, last, d => if d (.p was last) = true then d else
    fun q => if q = .p was last then true else ((List.range n).foldl (fun d i => if was.testBit i = true then d else domO n f (was ||| 1 <<< i) i d) d) q
def domTo (n f was : Nat) (d : MK → Bool) (k : Nat) : MK → Bool := (List.range k).foldl (fun d i => if was.testBit i = true then d else domO n f (was ||| 1 <<< i) i d) d
theorem domTo_succ (n f was : Nat) (d : MK → Bool) (k : Nat) : domTo n f was d (k + 1) = if was.testBit k = true then domTo n f was d k else domO n f (was ||| 1 <<< k) k (domTo n f was d k) := by
  simp [domTo, List.range_succ]
theorem domO_hit {n f was last : Nat} {d : MK → Bool} (h : d (.p was last) = true) : domO n f was last d = d := by
  cases f with
  | zero => rfl
  | succ f => unfold domO; rw [if_pos h]
theorem domO_miss {n f was last : Nat} {d : MK → Bool} (h : d (.p was last) = false) : domO n (f + 1) was last d = fun q => if q = .p was last then true else domTo n f was d n q := by
  show (if d (.p was last) = true then d else _) = _
  rw [if_neg (by simp [h])]
  rfl
theorem two_lt {n : Nat} (h : n ≤ 10) : (2 : Nat) ^ n ≤ 1024 := Nat.le_trans (Nat.pow_le_pow_right (by omega) h) (by decide)
set_option maxHeartbeats 8000000 in
theorem count_c (b : Nat) (nl : Bool) (v : List (List UInt8)) (w : Nat) (hv : ∀ s ∈ v, s.length = w) (hw : w ≤ 100) (hn : v.length ≤ 10) : ∀ (f was last : Nat) (d : MK → Bool) (nid : Nat), b + 20 < nid → zc v.length was = f → was < 2 ^ v.length → last < v.length →
    ACall Tryd.prog 113 (.int .i64 (was : Nat) :: .int .i64 (last : Nat) :: capO b) (hsO b nl v d) nid (.int .i64 (costV (dV v) v.length was last)) [(b + 20, mapO v (domO v.length f was last d))] := by
  intro f
  induction f with
  | zero =>
    intro was last d nid hb hz hlt hla
    have h4 : b + 4 < nid := by omega
    have h8 : b + 8 < nid := by omega
    have h12 : b + 12 < nid := by omega
    have h16 : b + 16 < nid := by omega
    obtain ⟨p1, p2, p3, p4, p5, p6, p7, p8, p9⟩ := id_all h4
    obtain ⟨q1, q2, q3, q4, q5, q6, q7, q8, q9⟩ := id_all h8
    obtain ⟨r1, r2, r3, r4, r5, r6, r7, r8, r9⟩ := id_all h12
    obtain ⟨t1, t2, t3, t4, t5, t6, t7, t8, t9⟩ := id_all h16
    obtain ⟨u1, u2, u3, u4, u5, u6, u7, u8, u9⟩ := id_all hb
    have hN := two_lt hn
    have hfull := (zc_full hlt).1 hz
    rw [cost_full hz]
    refine acall_run c113 (by simp [a113, capO]) ?_
    unfold hsO boxNn boxRm boxVs boxCf mapO capO litS
    simp -dsimp only [a113, aqT, aqU, aqN, aqS, ↓seqK, ↓blkK, ↓loopK, step, stepBin, Nat.add_assoc nid, ↓reduceIte, Option.toList, ← Int.ofNat_tmod, ← Int.ofNat_tdiv, simprocAttr, BEq.rfl, LN_succ, p1, p2, p3, p4, q1, q2, q3, q4, r1, r2, r3, r4, t1, t2, t3, t4, u1, u2, u3, u4]
    have hsh := shl64 v.length (by omega)
    have e1 : (1 <<< v.length : Nat) = 2 ^ v.length := by rw [Nat.shiftLeft_eq, Nat.one_mul]
    rw [e1] at hsh
    rw [hsh]
    have hpos := Nat.two_pow_pos v.length
    have e2 : (((2 ^ v.length : Nat) : Int) - 1) = ((was : Nat) : Int) := by omega
    rw [e2]
    refine ⟨by omega, by unfold inI64; omega, ?_⟩
    simp -dsimp only [aqT, aqU, aqN, aqS, ↓seqK, ↓blkK, ↓loopK, step, stepBin, Nat.add_assoc nid, ↓reduceIte, Option.toList, ← Int.ofNat_tmod, ← Int.ofNat_tdiv, simprocAttr, BEq.rfl, LN_succ, beq_self_eq_true]
    refine RetOK.go [] [] (.inl rfl) ?_
    simp [a113, cvT, step, res, domO, p1, p2, p3, p4, q1, q2, q3, q4, r1, r2, r3, r4, t1, t2, t3, t4, u1, u2, u3, u4]
    omega
  | succ f ih =>
    intro was last d nid hb hz hlt hla
    have h4 : b + 4 < nid := by omega
    have h8 : b + 8 < nid := by omega
    have h12 : b + 12 < nid := by omega
    have h16 : b + 16 < nid := by omega
    obtain ⟨p1, p2, p3, p4, p5, p6, p7, p8, p9⟩ := id_all h4
    obtain ⟨q1, q2, q3, q4, q5, q6, q7, q8, q9⟩ := id_all h8
    obtain ⟨r1, r2, r3, r4, r5, r6, r7, r8, r9⟩ := id_all h12
    obtain ⟨t1, t2, t3, t4, t5, t6, t7, t8, t9⟩ := id_all h16
    obtain ⟨u1, u2, u3, u4, u5, u6, u7, u8, u9⟩ := id_all hb
    have hN := two_lt hn
    have hpos := Nat.two_pow_pos v.length
    have hfull : was ≠ 2 ^ v.length - 1 := fun e => by have := (zc_full hlt).2 e; omega
    have hbd := dV_bd hv
    have hsh := shl64 v.length (by omega)
    have e1 : (1 <<< v.length : Nat) = 2 ^ v.length := by rw [Nat.shiftLeft_eq, Nat.one_mul]
    rw [e1] at hsh
    have e2 : (((was : Nat) : Int) == (((2 ^ v.length : Nat) : Int) - 1)) = false := by
      rw [beq_eq_false_iff_ne]
      omega
    refine acall_run c113 (by simp [a113, capO]) ?_
    unfold hsO boxNn boxRm boxVs boxCf mapO capO litS
    simp -dsimp only [a113, aqT, aqU, aqN, aqS, ↓seqK, ↓blkK, ↓loopK, step, stepBin, Nat.add_assoc nid, ↓reduceIte, Option.toList, ← Int.ofNat_tmod, ← Int.ofNat_tdiv, simprocAttr, BEq.rfl, LN_succ, p1, p2, p3, p4, q1, q2, q3, q4, r1, r2, r3, r4, t1, t2, t3, t4, u1, u2, u3, u4]
    rw [hsh]
    refine ⟨by omega, by unfold inI64; omega, ?_⟩
    rw [e2]
    simp -dsimp only [aqT, aqU, aqN, aqS, ↓seqK, ↓blkK, ↓loopK, step, stepBin, Nat.add_assoc nid, ↓reduceIte, Option.toList, ← Int.ofNat_tmod, ← Int.ofNat_tdiv, simprocAttr, BEq.rfl, LN_succ, p1, p2, p3, p4, q1, q2, q3, q4, r1, r2, r3, r4, t1, t2, t3, t4, u1, u2, u3, u4]
    refine ⟨⟨by unfold inI64; omega, by unfold inI64; omega⟩, ?_⟩
    cases hd : d (.p (was : Nat) (last : Nat)) <;> simp -dsimp only [aqT, aqU, aqN, aqS, ↓seqK, ↓blkK, ↓loopK, step, stepBin, Nat.add_assoc nid, ↓reduceIte, Option.toList, ← Int.ofNat_tmod, ← Int.ofNat_tdiv, simprocAttr, BEq.rfl, LN_succ, p1, p2, p3, p4, q1, q2, q3, q4, r1, r2, r3, r4, t1, t2, t3, t4, u1, u2, u3, u4, hd]
    case true =>
      rw [domO_hit hd]
      have ev : valO v (.p (was : Nat) (last : Nat)) = costV (dV v) v.length was last := by simp [valO]
      rw [ev]
      refine RetOK.go [] [] (.inl rfl) ?_
      simp [a113, cvT, step, res, p1, p2, p3, p4, q1, q2, q3, q4, r1, r2, r3, r4, t1, t2, t3, t4, u1, u2, u3, u4]
      omega
    rw [domO_miss hd, cost_eq (by omega)]
    have hcb : ∀ ws i, 0 ≤ costV (dV v) v.length ws i ∧ costV (dV v) v.length ws i ≤ 1000 := fun ws i => by
      have h1 := cost_bd hbd (n := v.length) ws i
      have h2 : zc v.length ws ≤ v.length := by
        have := List.length_filter_le (fun i => !ws.testBit i) (List.range v.length)
        rw [List.length_range] at this
        exact this
      have h3 : (w : Int) * (zc v.length ws : Nat) ≤ 100 * 10 := Int.mul_le_mul (by omega) (by omega) (by omega) (by omega)
      omega
    obtain ⟨m, hm⟩ : ∃ m : Nat → Int, ∀ k, minTo (fun i => dV v last i + costV (dV v) v.length (was ||| 1 <<< i) i) (fun i => !was.testBit i) k = m k := ⟨_, fun _ => rfl⟩
    have hm0 : m 0 = -1 := (hm 0).symm
    have hms : ∀ k, m (k + 1) = if was.testBit k = false ∧ (m k < 0 ∨ dV v last k + costV (dV v) v.length (was ||| 1 <<< k) k < m k) then dV v last k + costV (dV v) v.length (was ||| 1 <<< k) k else m k := fun k => by
      rw [← hm (k + 1), ← hm k]
      show (if _ then _ else _) = _
      simp only [Bool.not_eq_true']
    rw [hm]
    refine LP.mkP (fun k : Nat => k ≤ v.length) (fun k : Nat => ⟨[(32, .int .i64 k), (31, .int .i64 v.length), (12, .int .i64 (m k)), (9, .ptr (nid + 36) 0), (0, .int .i64 was), (1, .int .i64 last), (2, .ptr (b + 4) 0), (3, .ptr (b + 8) 0), (4, .ptr (b + 12) 0), (5, .ptr (b + 16) 0)], (nid + 36, some (.box 141 [.int .i64 was, .int .i64 last])) :: hsO b nl v (domTo v.length f was d k), nid + 100, nid⟩) (fun k => v.length + 1 - k) 0 (by omega) (Cov.go [] [] ?_) (fun k hk => ?_)
    · unfold hsO boxNn boxRm boxVs boxCf mapO capO litS
      simp [a113, cvT, step, res, hm0, domTo, p1, p2, p3, p4, q1, q2, q3, q4, r1, r2, r3, r4, t1, t2, t3, t4, u1, u2, u3, u4]
      omega
    unfold hsO boxNn boxRm boxVs boxCf mapO capO litS
    simp -dsimp only [a113, aqT, aqU, aqN, aqS, ↓seqK, ↓blkK, ↓loopK, step, stepBin, Nat.add_assoc nid, ↓reduceIte, Option.toList, ← Int.ofNat_tmod, ← Int.ofNat_tdiv, simprocAttr, BEq.rfl, LN_succ, p1, p2, p3, p4, q1, q2, q3, q4, r1, r2, r3, r4, t1, t2, t3, t4, u1, u2, u3, u4]
    refine S2.dec (fun h3 => ?_) (fun h3 => ?_) <;> simp -dsimp only [aqT, aqU, aqN, aqS, ↓seqK, ↓blkK, ↓loopK, step, stepBin, Nat.add_assoc nid, ↓reduceIte, Option.toList, ← Int.ofNat_tmod, ← Int.ofNat_tdiv, simprocAttr, BEq.rfl, LN_succ]
    · have hkl : k < v.length := by omega
      rw [unset64 was k (by omega) (by omega)]
      refine ⟨by omega, ?_⟩
      have hds := domTo_succ v.length f was d k
      have hmk := hms k
      have hlen : ∀ i, i < v.length → (v.getD i []).length = w := fun i hi => by
        rw [show v.getD i [] = v[i] from by simp [hi]]
        exact hv _ (List.getElem_mem hi)
      cases hbt : was.testBit k <;> rw [hbt] at hds hmk <;> simp -dsimp only [aqT, aqU, aqN, aqS, ↓seqK, ↓blkK, ↓loopK, step, stepBin, Nat.add_assoc nid, ↓reduceIte, Option.toList, ← Int.ofNat_tmod, ← Int.ofNat_tdiv, simprocAttr, BEq.rfl, LN_succ, Bool.not_true, Bool.not_false, p1, p2, p3, p4, q1, q2, q3, q4, r1, r2, r3, r4, t1, t2, t3, t4, u1, u2, u3, u4]
      · have hzk := zc_or hkl hbt
        have hol := or_lt hlt hkl
        have hsk := shl64 k (by omega)
        have h2k : 1 <<< k < 4611686018427387904 := by rw [Nat.shiftLeft_eq, Nat.one_mul]; exact Nat.pow_lt_pow_right (a := 2) (by omega) (show k < 62 by omega)
        have ho := or64 was (1 <<< k) (by omega) h2k
        refine ⟨⟨by omega, by omega⟩, ⟨by omega, by omega⟩, ?_⟩
        refine CallX.pure (apart_cc _ _ _ (by rw [hlen last hla, hlen k hkl]) (by rw [hlen last hla]; omega)) ?_
        simp -dsimp only [aqT, aqU, aqN, aqS, ↓seqK, ↓blkK, ↓loopK, step, stepBin, Nat.add_assoc nid, ↓reduceIte, Option.toList, ← Int.ofNat_tmod, ← Int.ofNat_tdiv, simprocAttr, BEq.rfl, LN_succ, p1, p2, p3, p4, q1, q2, q3, q4, r1, r2, r3, r4, t1, t2, t3, t4, u1, u2, u3, u4]
        refine ⟨by omega, ?_⟩
        rw [hsk, ho]
        have hsub : subH (hsO b nl v (domTo v.length f was d k)) [(nid + 36, some (.box 141 [.int .i64 was, .int .i64 last])), (b + 4, boxNn v.length), (b + 8, boxRm (b + 20)), (b + 12, boxVs nl v), (b + 16, boxCf b), (b + 20, mapO v (domTo v.length f was d k))] := by
          refine subH_cons (by simp only [aqT, aqU, aqN, aqS, ↓seqK, ↓blkK, ↓loopK, step, stepBin, Nat.add_assoc nid, ↓reduceIte, Option.toList, ← Int.ofNat_tmod, ← Int.ofNat_tdiv, simprocAttr, BEq.rfl, LN_succ, p1, p2, p3, p4, q1, q2, q3, q4, r1, r2, r3, r4, t1, t2, t3, t4, u1, u2, u3, u4]) (subH_cons (by simp only [aqT, aqU, aqN, aqS, ↓seqK, ↓blkK, ↓loopK, step, stepBin, Nat.add_assoc nid, ↓reduceIte, Option.toList, ← Int.ofNat_tmod, ← Int.ofNat_tdiv, simprocAttr, BEq.rfl, LN_succ, p1, p2, p3, p4, q1, q2, q3, q4, r1, r2, r3, r4, t1, t2, t3, t4, u1, u2, u3, u4]) (subH_cons (by simp only [aqT, aqU, aqN, aqS, ↓seqK, ↓blkK, ↓loopK, step, stepBin, Nat.add_assoc nid, ↓reduceIte, Option.toList, ← Int.ofNat_tmod, ← Int.ofNat_tdiv, simprocAttr, BEq.rfl, LN_succ, p1, p2, p3, p4, q1, q2, q3, q4, r1, r2, r3, r4, t1, t2, t3, t4, u1, u2, u3, u4]) (subH_cons (by simp only [aqT, aqU, aqN, aqS, ↓seqK, ↓blkK, ↓loopK, step, stepBin, Nat.add_assoc nid, ↓reduceIte, Option.toList, ← Int.ofNat_tmod, ← Int.ofNat_tdiv, simprocAttr, BEq.rfl, LN_succ, p1, p2, p3, p4, q1, q2, q3, q4, r1, r2, r3, r4, t1, t2, t3, t4, u1, u2, u3, u4]) (subH_get (by simp only [aqT, aqU, aqN, aqS, ↓seqK, ↓blkK, ↓loopK, step, stepBin, Nat.add_assoc nid, ↓reduceIte, Option.toList, ← Int.ofNat_tmod, ← Int.ofNat_tdiv, simprocAttr, BEq.rfl, LN_succ, p1, p2, p3, p4, q1, q2, q3, q4, r1, r2, r3, r4, t1, t2, t3, t4, u1, u2, u3, u4])))))
        refine CallX.on (ih (was ||| 1 <<< k) k (domTo v.length f was d k) (nid + 192) (by omega) (by omega) hol hkl) hsub ?_
        have hlo : ∀ n, nid ≤ n → b + 4 < n ∧ b + 8 < n ∧ b + 12 < n ∧ b + 16 < n ∧ b + 20 < n := fun n h => ⟨by omega, by omega, by omega, by omega, by omega⟩
        refine ⟨?_, ?_, ?_⟩
        · have h20 := u9 192
          simp [lowH, lowBlk, lowAll, idsOf, idsOfs, keys, hsO, aqT, aqU, aqN, aqS, ↓seqK, ↓blkK, ↓loopK, step, stepBin, Nat.add_assoc nid, ↓reduceIte, Option.toList, ← Int.ofNat_tmod, ← Int.ofNat_tdiv, simprocAttr, BEq.rfl, LN_succ, p9, q9, r9, t9, h20, p1, p2, p3, p4, q1, q2, q3, q4, r1, r2, r3, r4, t1, t2, t3, t4, u1, u2, u3, u4]
        · unfold hsO mapO
          simp [freeOf, disj, keys, aqT, aqU, aqN, aqS, ↓seqK, ↓blkK, ↓loopK, step, stepBin, Nat.add_assoc nid, ↓reduceIte, Option.toList, ← Int.ofNat_tmod, ← Int.ofNat_tdiv, simprocAttr, BEq.rfl, LN_succ, p1, p2, p3, p4, q1, q2, q3, q4, r1, r2, r3, r4, t1, t2, t3, t4, u1, u2, u3, u4]
        rw [if_neg (by simp)] at hds
        rw [← hds]
        unfold mapO
        simp -dsimp only [aqT, aqU, aqN, aqS, ↓seqK, ↓blkK, ↓loopK, step, stepBin, Nat.add_assoc nid, ↓reduceIte, Option.toList, ← Int.ofNat_tmod, ← Int.ofNat_tdiv, simprocAttr, BEq.rfl, LN_succ, p1, p2, p3, p4, q1, q2, q3, q4, r1, r2, r3, r4, t1, t2, t3, t4, u1, u2, u3, u4]
        rw [show ((hamK (v.getD last []) (v.getD k []) (v.getD last []).length : Nat) : Int) = dV v last k from rfl]
        have hd1 := hbd last k
        have hc1 := hcb (was ||| 1 <<< k) k
        obtain ⟨c, hc⟩ : ∃ c, dV v last k + costV (dV v) v.length (was ||| 1 <<< k) k = c := ⟨_, rfl⟩
        rw [hc] at hmk
        rw [hc]
        refine ⟨by unfold inI64; omega, ?_⟩
        refine S2.dec (fun h5 => ?_) (fun h5 => ?_) <;> simp -dsimp only [aqT, aqU, aqN, aqS, ↓seqK, ↓blkK, ↓loopK, step, stepBin, Nat.add_assoc nid, ↓reduceIte, Option.toList, ← Int.ofNat_tmod, ← Int.ofNat_tdiv, simprocAttr, BEq.rfl, LN_succ, p1, p2, p3, p4, q1, q2, q3, q4, r1, r2, r3, r4, t1, t2, t3, t4, u1, u2, u3, u4]
        · rw [if_pos ⟨rfl, .inl h5⟩] at hmk
          refine ⟨by unfold inI64; omega, k + 1, ⟨by omega, by omega⟩, Cov.go [] [] ?_⟩
          simp [cvT, step, res, hmk, p1, p2, p3, p4, q1, q2, q3, q4, r1, r2, r3, r4, t1, t2, t3, t4, u1, u2, u3, u4]
          omega
        refine S2.dec (fun h6 => ?_) (fun h6 => ?_) <;> simp -dsimp only [aqT, aqU, aqN, aqS, ↓seqK, ↓blkK, ↓loopK, step, stepBin, Nat.add_assoc nid, ↓reduceIte, Option.toList, ← Int.ofNat_tmod, ← Int.ofNat_tdiv, simprocAttr, BEq.rfl, LN_succ, p1, p2, p3, p4, q1, q2, q3, q4, r1, r2, r3, r4, t1, t2, t3, t4, u1, u2, u3, u4]
        · rw [if_pos ⟨rfl, .inr h6⟩] at hmk
          refine ⟨by unfold inI64; omega, k + 1, ⟨by omega, by omega⟩, Cov.go [] [] ?_⟩
          simp [cvT, step, res, hmk, p1, p2, p3, p4, q1, q2, q3, q4, r1, r2, r3, r4, t1, t2, t3, t4, u1, u2, u3, u4]
          omega
        · rw [if_neg (by simp; omega)] at hmk
          refine ⟨by unfold inI64; omega, k + 1, ⟨by omega, by omega⟩, Cov.go [] [] ?_⟩
          simp [cvT, step, res, hmk, p1, p2, p3, p4, q1, q2, q3, q4, r1, r2, r3, r4, t1, t2, t3, t4, u1, u2, u3, u4]
          omega
      · refine ⟨by unfold inI64; omega, k + 1, ⟨by omega, by omega⟩, Cov.go [] [] ?_⟩
        rw [if_neg (by simp)] at hmk
        rw [if_pos rfl] at hds
        simp [cvT, step, res, hmk, hds, p1, p2, p3, p4, q1, q2, q3, q4, r1, r2, r3, r4, t1, t2, t3, t4, u1, u2, u3, u4]
        omega
    · obtain rfl : k = v.length := by omega
      have h36 : (nid + 36 == b + 8) = false := q3 36
      simp -dsimp only [aqT, aqU, aqN, aqS, ↓seqK, ↓blkK, ↓loopK, step, stepBin, Nat.add_assoc nid, ↓reduceIte, Option.toList, ← Int.ofNat_tmod, ← Int.ofNat_tdiv, simprocAttr, BEq.rfl, LN_succ, p1, p2, p3, p4, q1, q2, q3, q4, r1, r2, r3, r4, t1, t2, t3, t4, u1, u2, u3, u4]
      have ev : (fun p => if p = MK.p (was : Nat) (last : Nat) then m v.length else valO v p) = valO v := funext fun p => by
        by_cases hp : p = MK.p (was : Nat) (last : Nat)
        · rw [if_pos hp, hp]
          show m v.length = costV (dV v) v.length was last
          rw [← hm, ← cost_eq (by omega)]
        · rw [if_neg hp]
      rw [ev]
      refine ⟨⟨by unfold inI64; omega, by unfold inI64; omega⟩, ?_⟩
      refine RetOK.go [] [] (.inl rfl) ?_
      simp [a113, cvT, step, res, p1, p2, p3, p4, q1, q2, q3, q4, r1, r2, r3, r4, t1, t2, t3, t4, u1, u2, u3, u4]
      omega
end Go.Proofs.YthcldfmlfjomfaaDoor
namespace Go.Proofs.YthcldfmlfjomfaaDoor
open Go.RowKit Go.Lib
def intsO (l : List Nat) : List Int := l.map fun i : Nat => (i : Int)
theorem first_c (b : Nat) (nl : Bool) (v : List (List UInt8)) (w : Nat) (hv : ∀ s ∈ v, s.length = w) (hw : w ≤ 100) (hn : v.length ≤ 10) (i : Nat) (d : MK → Bool) (nid : Nat) (hb : b + 20 < nid) (hi : i < v.length) :
    ACall Tryd.prog 113 (.int .i64 (1 <<< i : Nat) :: .int .i64 (i : Nat) :: capO b) (hsO b nl v d) nid (.int .i64 (costV (dV v) v.length (1 <<< i) i)) [(b + 20, mapO v (domO v.length (v.length - 1) (1 <<< i) i d))] :=
  count_c b nl v w hv hw hn (v.length - 1) (1 <<< i) i d nid hb (by have := zc_one hi; omega) (by rw [Nat.shiftLeft_eq, Nat.one_mul]; exact Nat.pow_lt_pow_right (by omega) hi) hi
theorem fst_lt (v : List (List UInt8)) (h : 0 < v.length) {k : Nat} (hk : k ≤ v.length) : fstO (dV v) v.length k < v.length := by
  cases k with
  | zero => exact h
  | succ k => have := fstO_lt (dV v) v.length (k + 1) (by omega); omega
theorem getD_appI (l : List Int) (x : Int) : (fun i => if i < l.length then l.getD i 0 else [x].getD (i - l.length) 0) = fun i => (l ++ [x]).getD i 0 := by
  funext i
  rw [List.getD_eq_getElem?_getD, List.getD_eq_getElem?_getD, List.getD_eq_getElem?_getD, List.getElem?_append]
  split <;> rfl
theorem cost_hb {v : List (List UInt8)} {w : Nat} (hv : ∀ s ∈ v, s.length = w) (hw : w ≤ 100) (hn : v.length ≤ 10) (ws i : Nat) : 0 ≤ costV (dV v) v.length ws i ∧ costV (dV v) v.length ws i ≤ 1000 := by
  have h1 := cost_bd (dV_bd hv) (n := v.length) ws i
  have h2 : zc v.length ws ≤ v.length := by
    have := List.length_filter_le (fun i => !ws.testBit i) (List.range v.length)
    rw [List.length_range] at this
    exact this
  have h3 : (w : Int) * (zc v.length ws : Nat) ≤ 100 * 10 := Int.mul_le_mul (by omega) (by omega) (by omega) (by omega)
  omega
set_option maxHeartbeats 8000000 in
theorem order_all (nl : Bool) (v : List (List UInt8)) (w : Nat) (nid : Nat) (hv : ∀ s ∈ v, s.length = w) (hw : w ≤ 100) (hn : v.length ≤ 10) (h0 : 0 < v.length) (hp : patV w v = 0) : ACall Tryd.prog 49 [.int .i64 (w : Nat), litS nl v] [] nid (.tup [.sl nid 0 v.length, .int .i64 (sumO v), .int .i64 0]) [(nid, arrI (intsO (orderO v)))] := by
  refine acall_sr c49 (by simp [a49]) ?_
  unfold a49
  unfold litS
  refine SR.seq ?_
  simp -dsimp only [aqT, aqU, aqN, aqS, ↓seqK, ↓blkK, ↓loopK, step, stepBin, Nat.add_assoc nid, ↓reduceIte, Option.toList, ← Int.ofNat_tmod, ← Int.ofNat_tdiv, simprocAttr, BEq.rfl, LN_succ]
  refine SR.seq ?_
  simp -dsimp only [aqT, aqU, aqN, aqS, ↓seqK, ↓blkK, ↓loopK, step, stepBin, Nat.add_assoc nid, ↓reduceIte, Option.toList, ← Int.ofNat_tmod, ← Int.ofNat_tdiv, simprocAttr, BEq.rfl, LN_succ]
  refine CallO.pure (checkVectors_all nl w v _ (by omega) (fun s hs => by have := hv s hs; omega)) ?_
  rw [hp]
  simp -dsimp only [aqT, aqU, aqN, aqS, ↓seqK, ↓blkK, ↓loopK, step, stepBin, Nat.add_assoc nid, ↓reduceIte, Option.toList, ← Int.ofNat_tmod, ← Int.ofNat_tdiv, simprocAttr, BEq.rfl, LN_succ]
  refine SR.seq ?_
  simp -dsimp only [aqT, aqU, aqN, aqS, ↓seqK, ↓blkK, ↓loopK, step, stepBin, Nat.add_assoc nid, ↓reduceIte, Option.toList, ← Int.ofNat_tmod, ← Int.ofNat_tdiv, simprocAttr, BEq.rfl, LN_succ]
  refine SR.seq ?_
  simp -dsimp only [aqT, aqU, aqN, aqS, ↓seqK, ↓blkK, ↓loopK, step, stepBin, Nat.add_assoc nid, ↓reduceIte, Option.toList, ← Int.ofNat_tmod, ← Int.ofNat_tdiv, simprocAttr, BEq.rfl, LN_succ]
  refine S2.dec (fun h3 => absurd h3 (by omega)) (fun h3 => ?_) <;> simp -dsimp only [aqT, aqU, aqN, aqS, ↓seqK, ↓blkK, ↓loopK, step, stepBin, Nat.add_assoc nid, ↓reduceIte, Option.toList, ← Int.ofNat_tmod, ← Int.ofNat_tdiv, simprocAttr, BEq.rfl, LN_succ]
  rw [show (((v.length : Nat) : Int) == 0) = false from by rw [beq_eq_false_iff_ne]; omega]
  simp -dsimp only [aqT, aqU, aqN, aqS, ↓seqK, ↓blkK, ↓loopK, step, stepBin, Nat.add_assoc nid, ↓reduceIte, Option.toList, ← Int.ofNat_tmod, ← Int.ofNat_tdiv, simprocAttr, BEq.rfl, LN_succ]
  refine SR.seq ?_
  simp -dsimp only [aqT, aqU, aqN, aqS, ↓seqK, ↓blkK, ↓loopK, step, stepBin, Nat.add_assoc nid, ↓reduceIte, Option.toList, ← Int.ofNat_tmod, ← Int.ofNat_tdiv, simprocAttr, BEq.rfl, LN_succ]
  refine SR.seq ?_
  simp -dsimp only [aqT, aqU, aqN, aqS, ↓seqK, ↓blkK, ↓loopK, step, stepBin, Nat.add_assoc nid, ↓reduceIte, Option.toList, ← Int.ofNat_tmod, ← Int.ofNat_tdiv, simprocAttr, BEq.rfl, LN_succ]
  refine SR.seq ?_
  simp -dsimp only [aqT, aqU, aqN, aqS, ↓seqK, ↓blkK, ↓loopK, step, stepBin, Nat.add_assoc nid, ↓reduceIte, Option.toList, ← Int.ofNat_tmod, ← Int.ofNat_tdiv, simprocAttr, BEq.rfl, LN_succ]
  refine SR.seq ?_
  simp -dsimp only [aqT, aqU, aqN, aqS, ↓seqK, ↓blkK, ↓loopK, step, stepBin, Nat.add_assoc nid, ↓reduceIte, Option.toList, ← Int.ofNat_tmod, ← Int.ofNat_tdiv, simprocAttr, BEq.rfl, LN_succ]
  refine SR.seqEx (fun d : MK → Bool => ⟨[(11, .int .i64 (fstO (dV v) v.length v.length : Nat)), (8, .ptr (nid + 4) 0), (3, .ptr (nid + 12) 0), (10, .ptr (nid + 16) 0)], hsO nid nl v d, nid + 200, nid⟩) ?_ (fun d => ?_)
  · simp -dsimp only [aqT, aqU, aqN, aqS, ↓seqK, ↓blkK, ↓loopK, step, stepBin, Nat.add_assoc nid, ↓reduceIte, Option.toList, ← Int.ofNat_tmod, ← Int.ofNat_tdiv, simprocAttr, BEq.rfl, LN_succ]
    refine LP.mkP (fun x : Nat × (MK → Bool) => x.1 ≤ v.length) (fun x => ⟨[(34, .int .i64 x.1), (33, .int .i64 v.length), (11, .int .i64 (fstO (dV v) v.length x.1 : Nat)), (8, .ptr (nid + 4) 0), (3, .ptr (nid + 12) 0), (10, .ptr (nid + 16) 0)], hsO nid nl v x.2, nid + 100, nid⟩) (fun x => v.length + 1 - x.1) (0, fun _ => false) (by simp) (Cov.go [(nid + 4, nid + 48), (nid + 8, nid + 84), (nid + 12, nid), (nid + 16, nid + 92), (nid + 20, nid + 80)] [] ?_) (fun x hx => ?_)
    · unfold hsO boxNn boxRm boxVs boxCf mapO capO litS
      simp [cvT, step, res, fstO]
    obtain ⟨k, d⟩ := x
    simp only at hx ⊢
    unfold hsO boxNn boxRm boxVs boxCf mapO capO litS
    simp -dsimp only [aqT, aqU, aqN, aqS, ↓seqK, ↓blkK, ↓loopK, step, stepBin, Nat.add_assoc nid, ↓reduceIte, Option.toList, ← Int.ofNat_tmod, ← Int.ofNat_tdiv, simprocAttr, BEq.rfl, LN_succ]
    refine S2.dec (fun h3 => ?_) (fun h3 => ?_) <;> simp -dsimp only [aqT, aqU, aqN, aqS, ↓seqK, ↓blkK, ↓loopK, step, stepBin, Nat.add_assoc nid, ↓reduceIte, Option.toList, ← Int.ofNat_tmod, ← Int.ofNat_tdiv, simprocAttr, BEq.rfl, LN_succ]
    · have hkl : k < v.length := by omega
      have hfl := fst_lt v h0 hx
      have hf : fstO (dV v) v.length (k + 1) = if costV (dV v) v.length (1 <<< k) k < costV (dV v) v.length (1 <<< fstO (dV v) v.length k) (fstO (dV v) v.length k) then k else fstO (dV v) v.length k := rfl
      generalize fstO (dV v) v.length k = F at *
      refine ⟨by omega, ?_⟩
      rw [shl64 k (by omega)]
      refine CallX.on (first_c nid nl v w hv hw hn k d _ (by omega) hkl) (subH_cons (by simp only [aqT, aqU, aqN, aqS, ↓seqK, ↓blkK, ↓loopK, step, stepBin, Nat.add_assoc nid, ↓reduceIte, Option.toList, ← Int.ofNat_tmod, ← Int.ofNat_tdiv, simprocAttr, BEq.rfl, LN_succ, boxNn]) (subH_cons (by simp only [aqT, aqU, aqN, aqS, ↓seqK, ↓blkK, ↓loopK, step, stepBin, Nat.add_assoc nid, ↓reduceIte, Option.toList, ← Int.ofNat_tmod, ← Int.ofNat_tdiv, simprocAttr, BEq.rfl, LN_succ, boxRm]) (subH_cons (by simp only [aqT, aqU, aqN, aqS, ↓seqK, ↓blkK, ↓loopK, step, stepBin, Nat.add_assoc nid, ↓reduceIte, Option.toList, ← Int.ofNat_tmod, ← Int.ofNat_tdiv, simprocAttr, BEq.rfl, LN_succ, boxVs, litS]) (subH_cons (by simp only [aqT, aqU, aqN, aqS, ↓seqK, ↓blkK, ↓loopK, step, stepBin, Nat.add_assoc nid, ↓reduceIte, Option.toList, ← Int.ofNat_tmod, ← Int.ofNat_tdiv, simprocAttr, BEq.rfl, LN_succ, boxCf, capO]) (subH_get (by simp only [aqT, aqU, aqN, aqS, ↓seqK, ↓blkK, ↓loopK, step, stepBin, Nat.add_assoc nid, ↓reduceIte, Option.toList, ← Int.ofNat_tmod, ← Int.ofNat_tdiv, simprocAttr, BEq.rfl, LN_succ, mapO])))))) ?_
      refine ⟨by simp [lowH, lowBlk, lowAll, idsOf, idsOfs, keys, hsO, boxNn, boxRm, boxVs, boxCf, litS, capO, mapO, aqT, aqU, aqN, aqS, ↓seqK, ↓blkK, ↓loopK, step, stepBin, Nat.add_assoc nid, ↓reduceIte, Option.toList, ← Int.ofNat_tmod, ← Int.ofNat_tdiv, simprocAttr, BEq.rfl, LN_succ], by simp [hsO, mapO, freeOf, disj, keys, aqT, aqU, aqN, aqS, ↓seqK, ↓blkK, ↓loopK, step, stepBin, Nat.add_assoc nid, ↓reduceIte, Option.toList, ← Int.ofNat_tmod, ← Int.ofNat_tdiv, simprocAttr, BEq.rfl, LN_succ], ?_⟩
      unfold mapO
      simp -dsimp only [aqT, aqU, aqN, aqS, ↓seqK, ↓blkK, ↓loopK, step, stepBin, Nat.add_assoc nid, ↓reduceIte, Option.toList, ← Int.ofNat_tmod, ← Int.ofNat_tdiv, simprocAttr, BEq.rfl, LN_succ]
      refine ⟨by omega, ?_⟩
      rw [shl64 F (by omega)]
      refine CallX.on (first_c nid nl v w hv hw hn F (domO v.length (v.length - 1) (1 <<< k) k d) _ (by omega) hfl) (subH_cons (by simp only [aqT, aqU, aqN, aqS, ↓seqK, ↓blkK, ↓loopK, step, stepBin, Nat.add_assoc nid, ↓reduceIte, Option.toList, ← Int.ofNat_tmod, ← Int.ofNat_tdiv, simprocAttr, BEq.rfl, LN_succ, boxNn]) (subH_cons (by simp only [aqT, aqU, aqN, aqS, ↓seqK, ↓blkK, ↓loopK, step, stepBin, Nat.add_assoc nid, ↓reduceIte, Option.toList, ← Int.ofNat_tmod, ← Int.ofNat_tdiv, simprocAttr, BEq.rfl, LN_succ, boxRm]) (subH_cons (by simp only [aqT, aqU, aqN, aqS, ↓seqK, ↓blkK, ↓loopK, step, stepBin, Nat.add_assoc nid, ↓reduceIte, Option.toList, ← Int.ofNat_tmod, ← Int.ofNat_tdiv, simprocAttr, BEq.rfl, LN_succ, boxVs, litS]) (subH_cons (by simp only [aqT, aqU, aqN, aqS, ↓seqK, ↓blkK, ↓loopK, step, stepBin, Nat.add_assoc nid, ↓reduceIte, Option.toList, ← Int.ofNat_tmod, ← Int.ofNat_tdiv, simprocAttr, BEq.rfl, LN_succ, boxCf, capO]) (subH_get (by simp only [aqT, aqU, aqN, aqS, ↓seqK, ↓blkK, ↓loopK, step, stepBin, Nat.add_assoc nid, ↓reduceIte, Option.toList, ← Int.ofNat_tmod, ← Int.ofNat_tdiv, simprocAttr, BEq.rfl, LN_succ, mapO])))))) ?_
      refine ⟨by simp [lowH, lowBlk, lowAll, idsOf, idsOfs, keys, hsO, boxNn, boxRm, boxVs, boxCf, litS, capO, mapO, aqT, aqU, aqN, aqS, ↓seqK, ↓blkK, ↓loopK, step, stepBin, Nat.add_assoc nid, ↓reduceIte, Option.toList, ← Int.ofNat_tmod, ← Int.ofNat_tdiv, simprocAttr, BEq.rfl, LN_succ], by simp [hsO, mapO, freeOf, disj, keys, aqT, aqU, aqN, aqS, ↓seqK, ↓blkK, ↓loopK, step, stepBin, Nat.add_assoc nid, ↓reduceIte, Option.toList, ← Int.ofNat_tmod, ← Int.ofNat_tdiv, simprocAttr, BEq.rfl, LN_succ], ?_⟩
      unfold mapO
      simp -dsimp only [aqT, aqU, aqN, aqS, ↓seqK, ↓blkK, ↓loopK, step, stepBin, Nat.add_assoc nid, ↓reduceIte, Option.toList, ← Int.ofNat_tmod, ← Int.ofNat_tdiv, simprocAttr, BEq.rfl, LN_succ]
      refine S2.dec (fun h5 => ?_) (fun h5 => ?_) <;> simp -dsimp only [aqT, aqU, aqN, aqS, ↓seqK, ↓blkK, ↓loopK, step, stepBin, Nat.add_assoc nid, ↓reduceIte, Option.toList, ← Int.ofNat_tmod, ← Int.ofNat_tdiv, simprocAttr, BEq.rfl, LN_succ]
      · rw [if_pos h5] at hf
        refine ⟨by unfold inI64; omega, (k + 1, domO v.length (v.length - 1) (1 <<< F) F (domO v.length (v.length - 1) (1 <<< k) k d)), ⟨by simp only; omega, by simp only; omega⟩, Cov.go [] [] ?_⟩
        simp [cvT, step, res, hf]
      · rw [if_neg h5] at hf
        refine ⟨by unfold inI64; omega, (k + 1, domO v.length (v.length - 1) (1 <<< F) F (domO v.length (v.length - 1) (1 <<< k) k d)), ⟨by simp only; omega, by simp only; omega⟩, Cov.go [] [] ?_⟩
        simp [cvT, step, res, hf]
    · obtain rfl : k = v.length := by omega
      refine ⟨d, Cov.go [] [] ?_⟩
      simp [cvT, step, res]
  have hfl := fst_lt v h0 (Nat.le_refl _)
  have hgo : goO (dV v) v.length (v.length - 1) (1 <<< fstO (dV v) v.length v.length) (fstO (dV v) v.length v.length) [fstO (dV v) v.length v.length] = orderO v := rfl
  have hsum : costV (dV v) v.length (1 <<< fstO (dV v) v.length v.length) (fstO (dV v) v.length v.length) = sumO v := rfl
  have hat := ordAt_first (dV v) hfl
  rw [hsum] at hat
  generalize fstO (dV v) v.length v.length = F at *
  unfold hsO boxNn boxRm boxVs boxCf mapO capO litS
  refine SR.seq ?_
  simp -dsimp only [aqT, aqU, aqN, aqS, ↓seqK, ↓blkK, ↓loopK, step, stepBin, Nat.add_assoc nid, ↓reduceIte, Option.toList, ← Int.ofNat_tmod, ← Int.ofNat_tdiv, simprocAttr, BEq.rfl, LN_succ]
  refine ⟨by omega, ?_⟩
  rw [shl64 F (by omega)]
  refine SR.seqEx (fun d : MK → Bool => ⟨[(13, .sl (nid + 24) 0 v.length), (11, .int .i64 F), (8, .ptr (nid + 4) 0), (3, .ptr (nid + 12) 0), (10, .ptr (nid + 16) 0)], (nid + 24, arrI (intsO (orderO v))) :: hsO nid nl v d, nid + 900, nid⟩) ?_ (fun d => ?_)
  · have hol : (orderO v).length = v.length := (order_facts hv h0).1
    simp -dsimp only [aqT, aqU, aqN, aqS, ↓seqK, ↓blkK, ↓loopK, step, stepBin, Nat.add_assoc nid, ↓reduceIte, Option.toList, ← Int.ofNat_tmod, ← Int.ofNat_tdiv, simprocAttr, BEq.rfl, LN_succ]
    refine LP.mkP (fun x : Nat × Nat × Nat × List Nat × (MK → Bool) => x.2.2.2.1.length + x.1 = v.length ∧ OrdAt (dV v) v.length (sumO v) x.2.2.2.1 x.2.1 x.2.2.1 ∧ goO (dV v) v.length x.1 x.2.1 x.2.2.1 x.2.2.2.1 = orderO v) (fun x => ⟨[(13, .sl (nid + 24) 0 x.2.2.2.1.length), (14, .int .i64 x.2.1), (15, .int .i64 x.2.2.1), (11, .int .i64 F), (8, .ptr (nid + 4) 0), (3, .ptr (nid + 12) 0), (10, .ptr (nid + 16) 0)], (nid + 24, arrI (intsO x.2.2.2.1)) :: hsO nid nl v x.2.2.2.2, nid + 400, nid⟩) (fun x => x.1) (v.length - 1, 1 <<< F, F, [F], d) ⟨by simp only [List.length_singleton]; omega, hat, hgo⟩ (Cov.go [(nid + 24, nid + 204)] [] ?_) (fun x hx => ?_)
    · unfold hsO boxNn boxRm boxVs boxCf mapO capO litS arrI intsO
      simp [cvT, step, res]
    obtain ⟨f, was, last, out, d⟩ := x
    obtain ⟨hlf, hat, hgo⟩ := hx
    simp only at hlf hat hgo ⊢
    unfold hsO boxNn boxRm boxVs boxCf mapO capO litS arrI
    have hil : (intsO out).length = out.length := by unfold intsO; rw [List.length_map]
    have hlast : last < v.length := by
      have h1 := hat.pos
      have h2 := hat.ins (out.getD (out.length - 1) 0) (by rw [List.getD_eq_getElem?_getD, List.getElem?_eq_getElem (by omega : out.length - 1 < out.length)]; exact List.getElem_mem _)
      rw [← hat.lst] at h2
      exact h2
    have hN := two_lt hn
    have hlt := hat.lt
    have hlen : ∀ i, i < v.length → (v.getD i []).length = w := fun i hi => by
      rw [show v.getD i [] = v[i] from by simp [hi]]
      exact hv _ (List.getElem_mem hi)
    have hcb := cost_hb hv hw hn
    simp -dsimp only [aqT, aqU, aqN, aqS, ↓seqK, ↓blkK, ↓loopK, step, stepBin, Nat.add_assoc nid, ↓reduceIte, Option.toList, ← Int.ofNat_tmod, ← Int.ofNat_tdiv, simprocAttr, BEq.rfl, LN_succ, hil]
    refine S2.dec (fun h4 => ?_) (fun h4 => ?_) <;> simp -dsimp only [aqT, aqU, aqN, aqS, ↓seqK, ↓blkK, ↓loopK, step, stepBin, Nat.add_assoc nid, ↓reduceIte, Option.toList, ← Int.ofNat_tmod, ← Int.ofNat_tdiv, simprocAttr, BEq.rfl, LN_succ]
    · obtain ⟨f', rfl⟩ : ∃ f', f = f' + 1 := ⟨f - 1, by omega⟩
      refine LP.mkP (fun x : Nat × (MK → Bool) => x.1 ≤ v.length ∧ ∀ i, i < x.1 → nxtP (dV v) v.length was last i = false) (fun x => ⟨[(60, .int .i64 x.1), (59, .int .i64 v.length), (13, .sl (nid + 24) 0 out.length), (14, .int .i64 was), (15, .int .i64 last), (11, .int .i64 F), (8, .ptr (nid + 4) 0), (3, .ptr (nid + 12) 0), (10, .ptr (nid + 16) 0)], (nid + 24, arrI (intsO out)) :: hsO nid nl v x.2, nid + 500, nid⟩) (fun x => v.length + 1 - x.1) (0, d) ⟨by simp, fun i hi => absurd hi (by simp)⟩ (Cov.go [] [] ?_) (fun x hx => ?_)
      · unfold hsO boxNn boxRm boxVs boxCf mapO capO litS arrI
        simp [cvT, step, res, hil, ColsEq.refl, -List.getD_eq_getElem?_getD]
      obtain ⟨j, d⟩ := x
      obtain ⟨hj, hno⟩ := hx
      simp only at hj hno ⊢
      unfold hsO boxNn boxRm boxVs boxCf mapO capO litS arrI
      simp -dsimp only [aqT, aqU, aqN, aqS, ↓seqK, ↓blkK, ↓loopK, step, stepBin, Nat.add_assoc nid, ↓reduceIte, Option.toList, ← Int.ofNat_tmod, ← Int.ofNat_tdiv, simprocAttr, BEq.rfl, LN_succ, hil]
      refine S2.dec (fun h5 => ?_) (fun h5 => ?_)
      · have hjl : j < v.length := by omega
        have hnx : nxtP (dV v) v.length was last j = (!was.testBit j && (dV v last j + costV (dV v) v.length (was ||| 1 <<< j) j == costV (dV v) v.length was last)) := rfl
        have hu := unset64 was j (by omega) (by omega)
        have hsk := shl64 j (by omega)
        have h2k : 1 <<< j < 4611686018427387904 := by rw [Nat.shiftLeft_eq, Nat.one_mul]; exact Nat.pow_lt_pow_right (a := 2) (by omega) (show j < 62 by omega)
        have ho := or64 was (1 <<< j) (by omega) h2k
        have hol := or_lt hlt hjl
        have hd1 := dV_bd hv last j
        have hc1 := hcb (was ||| 1 <<< j) j
        cases hbt : was.testBit j <;> rw [hbt] at hnx hu
        · rw [Bool.not_false] at hu
          simp -dsimp only [Run.eq_1, Run.eq_2, Run.eq_3, Run.eq_4, Run.eq_5, Run.eq_6, Run.eq_7, Run.eq_8, Run.eq_9, ↓seqK, ↓blkK, ↓loopK]
          simp -dsimp only [ROps.eq_1, ROps.eq_2, ROps.eq_3, ROps.eq_4, BS_some, BS_true, BS_none, OB_bool, OG_bool, OG_tup, S2_true, S2_false, OF_fn, getS_hit, getS_miss, getS.eq_1, getH_hit, getH_miss, getH.eq_1, putS.eq_1, putS.eq_2, AX.val.eq_1, AX.val.eq_2, cond_true, cond_false, idS1, idS2, List.nil_append, List.cons_append, true_and, and_true, ne_eq, not_true_eq_false, if_false, if_true, ite_false, ite_true, List.map_cons, List.map_nil, List.drop_zero, List.drop_succ_cons, List.take_succ_cons, List.take_zero, List.length_cons, List.length_nil, Nat.zero_add, decide_true, decide_false, beq_self_eq_true, Bool.and_true, Bool.and_false, Bool.true_and, Bool.false_and, Int.toNat_natCast, lowBlk_box, lowBlk_arr, lowBlk_none, List.append_nil, List.getElem?_cons_zero, List.getElem?_cons_succ, List.all_cons, List.all_nil, List.any_cons, List.any_nil, List.contains_cons, List.contains_nil, Bool.or_false, Bool.false_or, Bool.or_true, Bool.true_or, Bool.not_false, Bool.not_true, bne_self_eq_false, List.singleton_append, Int.add_sub_cancel, List.replicate_succ, List.replicate_zero, List.flatten_cons, List.flatten_nil, List.set_cons_succ, List.set_cons_zero, List.headD_cons, List.tail_cons, Nat.add_lt_add_iff_left, freeOf.eq_1, freeOf.eq_2, indep.eq_1, offO.eq_1, offO.eq_2, neqO.eq_1, neqO.eq_2, disj.eq_1, namesX.eq_1, namesX.eq_2, axSlot.eq_1, axSlot.eq_2, opXs.eq_1, opXs.eq_2, opXs.eq_3, opXs.eq_4, opXs.eq_5, opXs.eq_6, opXs.eq_7, opXs.eq_8, opXs.eq_9, opXs.eq_10, opXs.eq_11, opXs.eq_12, opXs.eq_13, opXs.eq_14, opXs.eq_15, opXs.eq_16, opXs.eq_17, opXs.eq_18, opXs.eq_19, opXs.eq_20, opXs.eq_21, opXs.eq_22, opXs.eq_23, opXs.eq_24, opXs.eq_25, opXs.eq_26, opXs.eq_27, opXs.eq_28, opXs.eq_29, opXs.eq_30, opXs.eq_31, opXs.eq_32, opXs.eq_33, opXs.eq_34, opXs.eq_35, opXs.eq_36, opXs.eq_37, opXs.eq_38, opXs.eq_39, opXs.eq_40, opXs.eq_41, opXs.eq_42, opXs.eq_43, opXs.eq_44, opXs.eq_45, opXs.eq_46, opXs.eq_47, rdXs.eq_1, rdXs.eq_2, rdXs.eq_3, rdXs.eq_4, rdXs.eq_5, rdXs.eq_6, rdXs.eq_7, rdXs.eq_8, rdXs.eq_9, rdXs.eq_10, rdXs.eq_11, rdXs.eq_12, rdXs.eq_13, rdXs.eq_14, rdXs.eq_15, idsOf.eq_1, idsOf.eq_2, idsOf.eq_3, idsOf.eq_4, idsOf.eq_5, idsOf.eq_6, idsOf.eq_7, idsOf.eq_8, idsOf.eq_9, idsOfs.eq_1, idsOfs.eq_2, lowH.eq_1, lowH.eq_2, lowAll.eq_1, keys.eq_1, optInt.eq_1, optInt.eq_2, fillP.eq_1, fillP.eq_2, repl.eq_1, chunk.eq_1, chunk.eq_2, mkCols.eq_1, mkCols.eq_2, mkCols.eq_3, mkCol.eq_1, mkCol.eq_2, mkCol.eq_3, mkCol.eq_4, mkCol.eq_5, colInts.eq_1, colInts.eq_2, colInts.eq_3, colBools.eq_1, colBools.eq_2, colBools.eq_3, colStrs.eq_1, colStrs.eq_2, colStrs.eq_3, colLits.eq_1, colLits.eq_2, colLits.eq_3, colsApp.eq_1, colsApp.eq_2, colsApp.eq_3, Col.app.eq_1, Col.app.eq_2, Col.app.eq_3, Col.app.eq_4, Col.app.eq_5, tailOf.eq_1, tailOf.eq_2, tailOf.eq_3, splice.eq_1, splice.eq_2, colsPut.eq_1, colsPut.eq_2, colsPut.eq_3, colsPut.eq_4, Col.put.eq_1, Col.put.eq_2, Col.put.eq_3, Col.put.eq_4, Col.put.eq_5, mmFold.eq_1, mmFold.eq_2, mmFold.eq_3, eqK.eq_1, eqK.eq_2, eqK.eq_3, eqK.eq_4, eqK.eq_5, colsPaste.eq_1, colsPaste.eq_2, colsPaste.eq_3, Col.paste.eq_1, Col.paste.eq_2, Col.paste.eq_3, Col.paste.eq_4, Col.paste.eq_5, mNew.eq_1, mNew.eq_2, mNew.eq_3, mNew.eq_4, mkKey.eq_1, mkKey.eq_2, mkKey.eq_3, mkKey.eq_4, keyIn.eq_1, keyIn.eq_2, keyIn.eq_3, mGet.eq_1, mGet.eq_2, mGet.eq_3, mGet.eq_4, mPut.eq_1, mPut.eq_2, mPut.eq_3, mPut.eq_4, res.eq_1, stepIdx.eq_1, mix.eq_1, mix.eq_2, mix.eq_3, mix.eq_4, PV.cells.eq_1, PV.cells.eq_2, PV.cells.eq_3, PV.cells.eq_4, argSlots.eq_1, argSlots.eq_2, colPV.eq_1, colPV.eq_2, colPV.eq_3, colPV.eq_4, ROp.eq_1, ROp.eq_2, ROp.eq_3, OX.eq_1, OX.eq_2, OX.eq_3, noOs.eq_1, noOs.eq_2, noOs.eq_3, noOs.eq_4, noOs.eq_5, noOs.eq_6, mkCol.eq_6, Col.app.eq_6, Col.put.eq_6, Col.paste.eq_6, colPV.eq_5, colSls.eq_1, colSls.eq_2, colSls.eq_3, step, stepBin, Nat.reduceBEq, Nat.reduceBeqDiff, Nat.add_assoc nid, Nat.reduceAdd, reduceCtorEq, Nat.reduceLeDiff, Nat.reduceBneDiff, Option.toList, ← Int.ofNat_tmod, ← Int.ofNat_tdiv, Nat.reduceLT]
          rw [seqK, Run.eq_4, Run.eq_3]
          rw [RAny.eq_2]
          simp -dsimp only [ROps.eq_1, ROps.eq_2, ROps.eq_3, ROps.eq_4, BS_some, BS_true, BS_none, OB_bool, OG_bool, OG_tup, S2_true, S2_false, OF_fn, getS_hit, getS_miss, getS.eq_1, getH_hit, getH_miss, getH.eq_1, putS.eq_1, putS.eq_2, AX.val.eq_1, AX.val.eq_2, cond_true, cond_false, idS1, idS2, List.nil_append, List.cons_append, true_and, and_true, ne_eq, not_true_eq_false, if_false, if_true, ite_false, ite_true, List.map_cons, List.map_nil, List.drop_zero, List.drop_succ_cons, List.take_succ_cons, List.take_zero, List.length_cons, List.length_nil, Nat.zero_add, decide_true, decide_false, beq_self_eq_true, Bool.and_true, Bool.and_false, Bool.true_and, Bool.false_and, Int.toNat_natCast, lowBlk_box, lowBlk_arr, lowBlk_none, List.append_nil, List.getElem?_cons_zero, List.getElem?_cons_succ, List.all_cons, List.all_nil, List.any_cons, List.any_nil, List.contains_cons, List.contains_nil, Bool.or_false, Bool.false_or, Bool.or_true, Bool.true_or, Bool.not_false, Bool.not_true, bne_self_eq_false, List.singleton_append, Int.add_sub_cancel, List.replicate_succ, List.replicate_zero, List.flatten_cons, List.flatten_nil, List.set_cons_succ, List.set_cons_zero, List.headD_cons, List.tail_cons, Nat.add_lt_add_iff_left, freeOf.eq_1, freeOf.eq_2, indep.eq_1, offO.eq_1, offO.eq_2, neqO.eq_1, neqO.eq_2, disj.eq_1, namesX.eq_1, namesX.eq_2, axSlot.eq_1, axSlot.eq_2, opXs.eq_1, opXs.eq_2, opXs.eq_3, opXs.eq_4, opXs.eq_5, opXs.eq_6, opXs.eq_7, opXs.eq_8, opXs.eq_9, opXs.eq_10, opXs.eq_11, opXs.eq_12, opXs.eq_13, opXs.eq_14, opXs.eq_15, opXs.eq_16, opXs.eq_17, opXs.eq_18, opXs.eq_19, opXs.eq_20, opXs.eq_21, opXs.eq_22, opXs.eq_23, opXs.eq_24, opXs.eq_25, opXs.eq_26, opXs.eq_27, opXs.eq_28, opXs.eq_29, opXs.eq_30, opXs.eq_31, opXs.eq_32, opXs.eq_33, opXs.eq_34, opXs.eq_35, opXs.eq_36, opXs.eq_37, opXs.eq_38, opXs.eq_39, opXs.eq_40, opXs.eq_41, opXs.eq_42, opXs.eq_43, opXs.eq_44, opXs.eq_45, opXs.eq_46, opXs.eq_47, rdXs.eq_1, rdXs.eq_2, rdXs.eq_3, rdXs.eq_4, rdXs.eq_5, rdXs.eq_6, rdXs.eq_7, rdXs.eq_8, rdXs.eq_9, rdXs.eq_10, rdXs.eq_11, rdXs.eq_12, rdXs.eq_13, rdXs.eq_14, rdXs.eq_15, idsOf.eq_1, idsOf.eq_2, idsOf.eq_3, idsOf.eq_4, idsOf.eq_5, idsOf.eq_6, idsOf.eq_7, idsOf.eq_8, idsOf.eq_9, idsOfs.eq_1, idsOfs.eq_2, lowH.eq_1, lowH.eq_2, lowAll.eq_1, keys.eq_1, optInt.eq_1, optInt.eq_2, fillP.eq_1, fillP.eq_2, repl.eq_1, chunk.eq_1, chunk.eq_2, mkCols.eq_1, mkCols.eq_2, mkCols.eq_3, mkCol.eq_1, mkCol.eq_2, mkCol.eq_3, mkCol.eq_4, mkCol.eq_5, colInts.eq_1, colInts.eq_2, colInts.eq_3, colBools.eq_1, colBools.eq_2, colBools.eq_3, colStrs.eq_1, colStrs.eq_2, colStrs.eq_3, colLits.eq_1, colLits.eq_2, colLits.eq_3, colsApp.eq_1, colsApp.eq_2, colsApp.eq_3, Col.app.eq_1, Col.app.eq_2, Col.app.eq_3, Col.app.eq_4, Col.app.eq_5, tailOf.eq_1, tailOf.eq_2, tailOf.eq_3, splice.eq_1, splice.eq_2, colsPut.eq_1, colsPut.eq_2, colsPut.eq_3, colsPut.eq_4, Col.put.eq_1, Col.put.eq_2, Col.put.eq_3, Col.put.eq_4, Col.put.eq_5, mmFold.eq_1, mmFold.eq_2, mmFold.eq_3, eqK.eq_1, eqK.eq_2, eqK.eq_3, eqK.eq_4, eqK.eq_5, colsPaste.eq_1, colsPaste.eq_2, colsPaste.eq_3, Col.paste.eq_1, Col.paste.eq_2, Col.paste.eq_3, Col.paste.eq_4, Col.paste.eq_5, mNew.eq_1, mNew.eq_2, mNew.eq_3, mNew.eq_4, mkKey.eq_1, mkKey.eq_2, mkKey.eq_3, mkKey.eq_4, keyIn.eq_1, keyIn.eq_2, keyIn.eq_3, mGet.eq_1, mGet.eq_2, mGet.eq_3, mGet.eq_4, mPut.eq_1, mPut.eq_2, mPut.eq_3, mPut.eq_4, res.eq_1, stepIdx.eq_1, mix.eq_1, mix.eq_2, mix.eq_3, mix.eq_4, PV.cells.eq_1, PV.cells.eq_2, PV.cells.eq_3, PV.cells.eq_4, argSlots.eq_1, argSlots.eq_2, colPV.eq_1, colPV.eq_2, colPV.eq_3, colPV.eq_4, ROp.eq_1, ROp.eq_2, ROp.eq_3, OX.eq_1, OX.eq_2, OX.eq_3, noOs.eq_1, noOs.eq_2, noOs.eq_3, noOs.eq_4, noOs.eq_5, noOs.eq_6, mkCol.eq_6, Col.app.eq_6, Col.put.eq_6, Col.paste.eq_6, colPV.eq_5, colSls.eq_1, colSls.eq_2, colSls.eq_3, step, stepBin, Nat.reduceBEq, Nat.reduceBeqDiff, Nat.add_assoc nid, Nat.reduceAdd, reduceCtorEq, Nat.reduceLeDiff, Nat.reduceBneDiff, Option.toList, ← Int.ofNat_tmod, ← Int.ofNat_tdiv, Nat.reduceLT]
          rw [RAny.eq_2]
          simp -dsimp only [ROps.eq_1, ROps.eq_2, ROps.eq_3, ROps.eq_4, BS_some, BS_true, BS_none, OB_bool, OG_bool, OG_tup, S2_true, S2_false, OF_fn, getS_hit, getS_miss, getS.eq_1, getH_hit, getH_miss, getH.eq_1, putS.eq_1, putS.eq_2, AX.val.eq_1, AX.val.eq_2, cond_true, cond_false, idS1, idS2, List.nil_append, List.cons_append, true_and, and_true, ne_eq, not_true_eq_false, if_false, if_true, ite_false, ite_true, List.map_cons, List.map_nil, List.drop_zero, List.drop_succ_cons, List.take_succ_cons, List.take_zero, List.length_cons, List.length_nil, Nat.zero_add, decide_true, decide_false, beq_self_eq_true, Bool.and_true, Bool.and_false, Bool.true_and, Bool.false_and, Int.toNat_natCast, lowBlk_box, lowBlk_arr, lowBlk_none, List.append_nil, List.getElem?_cons_zero, List.getElem?_cons_succ, List.all_cons, List.all_nil, List.any_cons, List.any_nil, List.contains_cons, List.contains_nil, Bool.or_false, Bool.false_or, Bool.or_true, Bool.true_or, Bool.not_false, Bool.not_true, bne_self_eq_false, List.singleton_append, Int.add_sub_cancel, List.replicate_succ, List.replicate_zero, List.flatten_cons, List.flatten_nil, List.set_cons_succ, List.set_cons_zero, List.headD_cons, List.tail_cons, Nat.add_lt_add_iff_left, freeOf.eq_1, freeOf.eq_2, indep.eq_1, offO.eq_1, offO.eq_2, neqO.eq_1, neqO.eq_2, disj.eq_1, namesX.eq_1, namesX.eq_2, axSlot.eq_1, axSlot.eq_2, opXs.eq_1, opXs.eq_2, opXs.eq_3, opXs.eq_4, opXs.eq_5, opXs.eq_6, opXs.eq_7, opXs.eq_8, opXs.eq_9, opXs.eq_10, opXs.eq_11, opXs.eq_12, opXs.eq_13, opXs.eq_14, opXs.eq_15, opXs.eq_16, opXs.eq_17, opXs.eq_18, opXs.eq_19, opXs.eq_20, opXs.eq_21, opXs.eq_22, opXs.eq_23, opXs.eq_24, opXs.eq_25, opXs.eq_26, opXs.eq_27, opXs.eq_28, opXs.eq_29, opXs.eq_30, opXs.eq_31, opXs.eq_32, opXs.eq_33, opXs.eq_34, opXs.eq_35, opXs.eq_36, opXs.eq_37, opXs.eq_38, opXs.eq_39, opXs.eq_40, opXs.eq_41, opXs.eq_42, opXs.eq_43, opXs.eq_44, opXs.eq_45, opXs.eq_46, opXs.eq_47, rdXs.eq_1, rdXs.eq_2, rdXs.eq_3, rdXs.eq_4, rdXs.eq_5, rdXs.eq_6, rdXs.eq_7, rdXs.eq_8, rdXs.eq_9, rdXs.eq_10, rdXs.eq_11, rdXs.eq_12, rdXs.eq_13, rdXs.eq_14, rdXs.eq_15, idsOf.eq_1, idsOf.eq_2, idsOf.eq_3, idsOf.eq_4, idsOf.eq_5, idsOf.eq_6, idsOf.eq_7, idsOf.eq_8, idsOf.eq_9, idsOfs.eq_1, idsOfs.eq_2, lowH.eq_1, lowH.eq_2, lowAll.eq_1, keys.eq_1, optInt.eq_1, optInt.eq_2, fillP.eq_1, fillP.eq_2, repl.eq_1, chunk.eq_1, chunk.eq_2, mkCols.eq_1, mkCols.eq_2, mkCols.eq_3, mkCol.eq_1, mkCol.eq_2, mkCol.eq_3, mkCol.eq_4, mkCol.eq_5, colInts.eq_1, colInts.eq_2, colInts.eq_3, colBools.eq_1, colBools.eq_2, colBools.eq_3, colStrs.eq_1, colStrs.eq_2, colStrs.eq_3, colLits.eq_1, colLits.eq_2, colLits.eq_3, colsApp.eq_1, colsApp.eq_2, colsApp.eq_3, Col.app.eq_1, Col.app.eq_2, Col.app.eq_3, Col.app.eq_4, Col.app.eq_5, tailOf.eq_1, tailOf.eq_2, tailOf.eq_3, splice.eq_1, splice.eq_2, colsPut.eq_1, colsPut.eq_2, colsPut.eq_3, colsPut.eq_4, Col.put.eq_1, Col.put.eq_2, Col.put.eq_3, Col.put.eq_4, Col.put.eq_5, mmFold.eq_1, mmFold.eq_2, mmFold.eq_3, eqK.eq_1, eqK.eq_2, eqK.eq_3, eqK.eq_4, eqK.eq_5, colsPaste.eq_1, colsPaste.eq_2, colsPaste.eq_3, Col.paste.eq_1, Col.paste.eq_2, Col.paste.eq_3, Col.paste.eq_4, Col.paste.eq_5, mNew.eq_1, mNew.eq_2, mNew.eq_3, mNew.eq_4, mkKey.eq_1, mkKey.eq_2, mkKey.eq_3, mkKey.eq_4, keyIn.eq_1, keyIn.eq_2, keyIn.eq_3, mGet.eq_1, mGet.eq_2, mGet.eq_3, mGet.eq_4, mPut.eq_1, mPut.eq_2, mPut.eq_3, mPut.eq_4, res.eq_1, stepIdx.eq_1, mix.eq_1, mix.eq_2, mix.eq_3, mix.eq_4, PV.cells.eq_1, PV.cells.eq_2, PV.cells.eq_3, PV.cells.eq_4, argSlots.eq_1, argSlots.eq_2, colPV.eq_1, colPV.eq_2, colPV.eq_3, colPV.eq_4, ROp.eq_1, ROp.eq_2, ROp.eq_3, OX.eq_1, OX.eq_2, OX.eq_3, noOs.eq_1, noOs.eq_2, noOs.eq_3, noOs.eq_4, noOs.eq_5, noOs.eq_6, mkCol.eq_6, Col.app.eq_6, Col.put.eq_6, Col.paste.eq_6, colPV.eq_5, colSls.eq_1, colSls.eq_2, colSls.eq_3, step, stepBin, Nat.reduceBEq, Nat.reduceBeqDiff, Nat.add_assoc nid, Nat.reduceAdd, reduceCtorEq, Nat.reduceLeDiff, Nat.reduceBneDiff, Option.toList, ← Int.ofNat_tmod, ← Int.ofNat_tdiv, Nat.reduceLT]
          rw [RAny.eq_2]
          simp -dsimp only [ROps.eq_1, ROps.eq_2, ROps.eq_3, ROps.eq_4, BS_some, BS_true, BS_none, OB_bool, OG_bool, OG_tup, S2_true, S2_false, OF_fn, getS_hit, getS_miss, getS.eq_1, getH_hit, getH_miss, getH.eq_1, putS.eq_1, putS.eq_2, AX.val.eq_1, AX.val.eq_2, cond_true, cond_false, idS1, idS2, List.nil_append, List.cons_append, true_and, and_true, ne_eq, not_true_eq_false, if_false, if_true, ite_false, ite_true, List.map_cons, List.map_nil, List.drop_zero, List.drop_succ_cons, List.take_succ_cons, List.take_zero, List.length_cons, List.length_nil, Nat.zero_add, decide_true, decide_false, beq_self_eq_true, Bool.and_true, Bool.and_false, Bool.true_and, Bool.false_and, Int.toNat_natCast, lowBlk_box, lowBlk_arr, lowBlk_none, List.append_nil, List.getElem?_cons_zero, List.getElem?_cons_succ, List.all_cons, List.all_nil, List.any_cons, List.any_nil, List.contains_cons, List.contains_nil, Bool.or_false, Bool.false_or, Bool.or_true, Bool.true_or, Bool.not_false, Bool.not_true, bne_self_eq_false, List.singleton_append, Int.add_sub_cancel, List.replicate_succ, List.replicate_zero, List.flatten_cons, List.flatten_nil, List.set_cons_succ, List.set_cons_zero, List.headD_cons, List.tail_cons, Nat.add_lt_add_iff_left, freeOf.eq_1, freeOf.eq_2, indep.eq_1, offO.eq_1, offO.eq_2, neqO.eq_1, neqO.eq_2, disj.eq_1, namesX.eq_1, namesX.eq_2, axSlot.eq_1, axSlot.eq_2, opXs.eq_1, opXs.eq_2, opXs.eq_3, opXs.eq_4, opXs.eq_5, opXs.eq_6, opXs.eq_7, opXs.eq_8, opXs.eq_9, opXs.eq_10, opXs.eq_11, opXs.eq_12, opXs.eq_13, opXs.eq_14, opXs.eq_15, opXs.eq_16, opXs.eq_17, opXs.eq_18, opXs.eq_19, opXs.eq_20, opXs.eq_21, opXs.eq_22, opXs.eq_23, opXs.eq_24, opXs.eq_25, opXs.eq_26, opXs.eq_27, opXs.eq_28, opXs.eq_29, opXs.eq_30, opXs.eq_31, opXs.eq_32, opXs.eq_33, opXs.eq_34, opXs.eq_35, opXs.eq_36, opXs.eq_37, opXs.eq_38, opXs.eq_39, opXs.eq_40, opXs.eq_41, opXs.eq_42, opXs.eq_43, opXs.eq_44, opXs.eq_45, opXs.eq_46, opXs.eq_47, rdXs.eq_1, rdXs.eq_2, rdXs.eq_3, rdXs.eq_4, rdXs.eq_5, rdXs.eq_6, rdXs.eq_7, rdXs.eq_8, rdXs.eq_9, rdXs.eq_10, rdXs.eq_11, rdXs.eq_12, rdXs.eq_13, rdXs.eq_14, rdXs.eq_15, idsOf.eq_1, idsOf.eq_2, idsOf.eq_3, idsOf.eq_4, idsOf.eq_5, idsOf.eq_6, idsOf.eq_7, idsOf.eq_8, idsOf.eq_9, idsOfs.eq_1, idsOfs.eq_2, lowH.eq_1, lowH.eq_2, lowAll.eq_1, keys.eq_1, optInt.eq_1, optInt.eq_2, fillP.eq_1, fillP.eq_2, repl.eq_1, chunk.eq_1, chunk.eq_2, mkCols.eq_1, mkCols.eq_2, mkCols.eq_3, mkCol.eq_1, mkCol.eq_2, mkCol.eq_3, mkCol.eq_4, mkCol.eq_5, colInts.eq_1, colInts.eq_2, colInts.eq_3, colBools.eq_1, colBools.eq_2, colBools.eq_3, colStrs.eq_1, colStrs.eq_2, colStrs.eq_3, colLits.eq_1, colLits.eq_2, colLits.eq_3, colsApp.eq_1, colsApp.eq_2, colsApp.eq_3, Col.app.eq_1, Col.app.eq_2, Col.app.eq_3, Col.app.eq_4, Col.app.eq_5, tailOf.eq_1, tailOf.eq_2, tailOf.eq_3, splice.eq_1, splice.eq_2, colsPut.eq_1, colsPut.eq_2, colsPut.eq_3, colsPut.eq_4, Col.put.eq_1, Col.put.eq_2, Col.put.eq_3, Col.put.eq_4, Col.put.eq_5, mmFold.eq_1, mmFold.eq_2, mmFold.eq_3, eqK.eq_1, eqK.eq_2, eqK.eq_3, eqK.eq_4, eqK.eq_5, colsPaste.eq_1, colsPaste.eq_2, colsPaste.eq_3, Col.paste.eq_1, Col.paste.eq_2, Col.paste.eq_3, Col.paste.eq_4, Col.paste.eq_5, mNew.eq_1, mNew.eq_2, mNew.eq_3, mNew.eq_4, mkKey.eq_1, mkKey.eq_2, mkKey.eq_3, mkKey.eq_4, keyIn.eq_1, keyIn.eq_2, keyIn.eq_3, mGet.eq_1, mGet.eq_2, mGet.eq_3, mGet.eq_4, mPut.eq_1, mPut.eq_2, mPut.eq_3, mPut.eq_4, res.eq_1, stepIdx.eq_1, mix.eq_1, mix.eq_2, mix.eq_3, mix.eq_4, PV.cells.eq_1, PV.cells.eq_2, PV.cells.eq_3, PV.cells.eq_4, argSlots.eq_1, argSlots.eq_2, colPV.eq_1, colPV.eq_2, colPV.eq_3, colPV.eq_4, ROp.eq_1, ROp.eq_2, ROp.eq_3, OX.eq_1, OX.eq_2, OX.eq_3, noOs.eq_1, noOs.eq_2, noOs.eq_3, noOs.eq_4, noOs.eq_5, noOs.eq_6, mkCol.eq_6, Col.app.eq_6, Col.put.eq_6, Col.paste.eq_6, colPV.eq_5, colSls.eq_1, colSls.eq_2, colSls.eq_3, step, stepBin, Nat.reduceBEq, Nat.reduceBeqDiff, Nat.add_assoc nid, Nat.reduceAdd, reduceCtorEq, Nat.reduceLeDiff, Nat.reduceBneDiff, Option.toList, ← Int.ofNat_tmod, ← Int.ofNat_tdiv, Nat.reduceLT]
          refine ⟨by omega, ?_⟩
          rw [RAny.eq_2]
          simp -dsimp only [ROps.eq_1, ROps.eq_2, ROps.eq_3, ROps.eq_4, BS_some, BS_true, BS_none, OB_bool, OG_bool, OG_tup, S2_true, S2_false, OF_fn, getS_hit, getS_miss, getS.eq_1, getH_hit, getH_miss, getH.eq_1, putS.eq_1, putS.eq_2, AX.val.eq_1, AX.val.eq_2, cond_true, cond_false, idS1, idS2, List.nil_append, List.cons_append, true_and, and_true, ne_eq, not_true_eq_false, if_false, if_true, ite_false, ite_true, List.map_cons, List.map_nil, List.drop_zero, List.drop_succ_cons, List.take_succ_cons, List.take_zero, List.length_cons, List.length_nil, Nat.zero_add, decide_true, decide_false, beq_self_eq_true, Bool.and_true, Bool.and_false, Bool.true_and, Bool.false_and, Int.toNat_natCast, lowBlk_box, lowBlk_arr, lowBlk_none, List.append_nil, List.getElem?_cons_zero, List.getElem?_cons_succ, List.all_cons, List.all_nil, List.any_cons, List.any_nil, List.contains_cons, List.contains_nil, Bool.or_false, Bool.false_or, Bool.or_true, Bool.true_or, Bool.not_false, Bool.not_true, bne_self_eq_false, List.singleton_append, Int.add_sub_cancel, List.replicate_succ, List.replicate_zero, List.flatten_cons, List.flatten_nil, List.set_cons_succ, List.set_cons_zero, List.headD_cons, List.tail_cons, Nat.add_lt_add_iff_left, freeOf.eq_1, freeOf.eq_2, indep.eq_1, offO.eq_1, offO.eq_2, neqO.eq_1, neqO.eq_2, disj.eq_1, namesX.eq_1, namesX.eq_2, axSlot.eq_1, axSlot.eq_2, opXs.eq_1, opXs.eq_2, opXs.eq_3, opXs.eq_4, opXs.eq_5, opXs.eq_6, opXs.eq_7, opXs.eq_8, opXs.eq_9, opXs.eq_10, opXs.eq_11, opXs.eq_12, opXs.eq_13, opXs.eq_14, opXs.eq_15, opXs.eq_16, opXs.eq_17, opXs.eq_18, opXs.eq_19, opXs.eq_20, opXs.eq_21, opXs.eq_22, opXs.eq_23, opXs.eq_24, opXs.eq_25, opXs.eq_26, opXs.eq_27, opXs.eq_28, opXs.eq_29, opXs.eq_30, opXs.eq_31, opXs.eq_32, opXs.eq_33, opXs.eq_34, opXs.eq_35, opXs.eq_36, opXs.eq_37, opXs.eq_38, opXs.eq_39, opXs.eq_40, opXs.eq_41, opXs.eq_42, opXs.eq_43, opXs.eq_44, opXs.eq_45, opXs.eq_46, opXs.eq_47, rdXs.eq_1, rdXs.eq_2, rdXs.eq_3, rdXs.eq_4, rdXs.eq_5, rdXs.eq_6, rdXs.eq_7, rdXs.eq_8, rdXs.eq_9, rdXs.eq_10, rdXs.eq_11, rdXs.eq_12, rdXs.eq_13, rdXs.eq_14, rdXs.eq_15, idsOf.eq_1, idsOf.eq_2, idsOf.eq_3, idsOf.eq_4, idsOf.eq_5, idsOf.eq_6, idsOf.eq_7, idsOf.eq_8, idsOf.eq_9, idsOfs.eq_1, idsOfs.eq_2, lowH.eq_1, lowH.eq_2, lowAll.eq_1, keys.eq_1, optInt.eq_1, optInt.eq_2, fillP.eq_1, fillP.eq_2, repl.eq_1, chunk.eq_1, chunk.eq_2, mkCols.eq_1, mkCols.eq_2, mkCols.eq_3, mkCol.eq_1, mkCol.eq_2, mkCol.eq_3, mkCol.eq_4, mkCol.eq_5, colInts.eq_1, colInts.eq_2, colInts.eq_3, colBools.eq_1, colBools.eq_2, colBools.eq_3, colStrs.eq_1, colStrs.eq_2, colStrs.eq_3, colLits.eq_1, colLits.eq_2, colLits.eq_3, colsApp.eq_1, colsApp.eq_2, colsApp.eq_3, Col.app.eq_1, Col.app.eq_2, Col.app.eq_3, Col.app.eq_4, Col.app.eq_5, tailOf.eq_1, tailOf.eq_2, tailOf.eq_3, splice.eq_1, splice.eq_2, colsPut.eq_1, colsPut.eq_2, colsPut.eq_3, colsPut.eq_4, Col.put.eq_1, Col.put.eq_2, Col.put.eq_3, Col.put.eq_4, Col.put.eq_5, mmFold.eq_1, mmFold.eq_2, mmFold.eq_3, eqK.eq_1, eqK.eq_2, eqK.eq_3, eqK.eq_4, eqK.eq_5, colsPaste.eq_1, colsPaste.eq_2, colsPaste.eq_3, Col.paste.eq_1, Col.paste.eq_2, Col.paste.eq_3, Col.paste.eq_4, Col.paste.eq_5, mNew.eq_1, mNew.eq_2, mNew.eq_3, mNew.eq_4, mkKey.eq_1, mkKey.eq_2, mkKey.eq_3, mkKey.eq_4, keyIn.eq_1, keyIn.eq_2, keyIn.eq_3, mGet.eq_1, mGet.eq_2, mGet.eq_3, mGet.eq_4, mPut.eq_1, mPut.eq_2, mPut.eq_3, mPut.eq_4, res.eq_1, stepIdx.eq_1, mix.eq_1, mix.eq_2, mix.eq_3, mix.eq_4, PV.cells.eq_1, PV.cells.eq_2, PV.cells.eq_3, PV.cells.eq_4, argSlots.eq_1, argSlots.eq_2, colPV.eq_1, colPV.eq_2, colPV.eq_3, colPV.eq_4, ROp.eq_1, ROp.eq_2, ROp.eq_3, OX.eq_1, OX.eq_2, OX.eq_3, noOs.eq_1, noOs.eq_2, noOs.eq_3, noOs.eq_4, noOs.eq_5, noOs.eq_6, mkCol.eq_6, Col.app.eq_6, Col.put.eq_6, Col.paste.eq_6, colPV.eq_5, colSls.eq_1, colSls.eq_2, colSls.eq_3, step, stepBin, Nat.reduceBEq, Nat.reduceBeqDiff, Nat.add_assoc nid, Nat.reduceAdd, reduceCtorEq, Nat.reduceLeDiff, Nat.reduceBneDiff, Option.toList, ← Int.ofNat_tmod, ← Int.ofNat_tdiv, Nat.reduceLT]
          rw [RAny.eq_2]
          simp -dsimp only [ROps.eq_1, ROps.eq_2, ROps.eq_3, ROps.eq_4, BS_some, BS_true, BS_none, OB_bool, OG_bool, OG_tup, S2_true, S2_false, OF_fn, getS_hit, getS_miss, getS.eq_1, getH_hit, getH_miss, getH.eq_1, putS.eq_1, putS.eq_2, AX.val.eq_1, AX.val.eq_2, cond_true, cond_false, idS1, idS2, List.nil_append, List.cons_append, true_and, and_true, ne_eq, not_true_eq_false, if_false, if_true, ite_false, ite_true, List.map_cons, List.map_nil, List.drop_zero, List.drop_succ_cons, List.take_succ_cons, List.take_zero, List.length_cons, List.length_nil, Nat.zero_add, decide_true, decide_false, beq_self_eq_true, Bool.and_true, Bool.and_false, Bool.true_and, Bool.false_and, Int.toNat_natCast, lowBlk_box, lowBlk_arr, lowBlk_none, List.append_nil, List.getElem?_cons_zero, List.getElem?_cons_succ, List.all_cons, List.all_nil, List.any_cons, List.any_nil, List.contains_cons, List.contains_nil, Bool.or_false, Bool.false_or, Bool.or_true, Bool.true_or, Bool.not_false, Bool.not_true, bne_self_eq_false, List.singleton_append, Int.add_sub_cancel, List.replicate_succ, List.replicate_zero, List.flatten_cons, List.flatten_nil, List.set_cons_succ, List.set_cons_zero, List.headD_cons, List.tail_cons, Nat.add_lt_add_iff_left, freeOf.eq_1, freeOf.eq_2, indep.eq_1, offO.eq_1, offO.eq_2, neqO.eq_1, neqO.eq_2, disj.eq_1, namesX.eq_1, namesX.eq_2, axSlot.eq_1, axSlot.eq_2, opXs.eq_1, opXs.eq_2, opXs.eq_3, opXs.eq_4, opXs.eq_5, opXs.eq_6, opXs.eq_7, opXs.eq_8, opXs.eq_9, opXs.eq_10, opXs.eq_11, opXs.eq_12, opXs.eq_13, opXs.eq_14, opXs.eq_15, opXs.eq_16, opXs.eq_17, opXs.eq_18, opXs.eq_19, opXs.eq_20, opXs.eq_21, opXs.eq_22, opXs.eq_23, opXs.eq_24, opXs.eq_25, opXs.eq_26, opXs.eq_27, opXs.eq_28, opXs.eq_29, opXs.eq_30, opXs.eq_31, opXs.eq_32, opXs.eq_33, opXs.eq_34, opXs.eq_35, opXs.eq_36, opXs.eq_37, opXs.eq_38, opXs.eq_39, opXs.eq_40, opXs.eq_41, opXs.eq_42, opXs.eq_43, opXs.eq_44, opXs.eq_45, opXs.eq_46, opXs.eq_47, rdXs.eq_1, rdXs.eq_2, rdXs.eq_3, rdXs.eq_4, rdXs.eq_5, rdXs.eq_6, rdXs.eq_7, rdXs.eq_8, rdXs.eq_9, rdXs.eq_10, rdXs.eq_11, rdXs.eq_12, rdXs.eq_13, rdXs.eq_14, rdXs.eq_15, idsOf.eq_1, idsOf.eq_2, idsOf.eq_3, idsOf.eq_4, idsOf.eq_5, idsOf.eq_6, idsOf.eq_7, idsOf.eq_8, idsOf.eq_9, idsOfs.eq_1, idsOfs.eq_2, lowH.eq_1, lowH.eq_2, lowAll.eq_1, keys.eq_1, optInt.eq_1, optInt.eq_2, fillP.eq_1, fillP.eq_2, repl.eq_1, chunk.eq_1, chunk.eq_2, mkCols.eq_1, mkCols.eq_2, mkCols.eq_3, mkCol.eq_1, mkCol.eq_2, mkCol.eq_3, mkCol.eq_4, mkCol.eq_5, colInts.eq_1, colInts.eq_2, colInts.eq_3, colBools.eq_1, colBools.eq_2, colBools.eq_3, colStrs.eq_1, colStrs.eq_2, colStrs.eq_3, colLits.eq_1, colLits.eq_2, colLits.eq_3, colsApp.eq_1, colsApp.eq_2, colsApp.eq_3, Col.app.eq_1, Col.app.eq_2, Col.app.eq_3, Col.app.eq_4, Col.app.eq_5, tailOf.eq_1, tailOf.eq_2, tailOf.eq_3, splice.eq_1, splice.eq_2, colsPut.eq_1, colsPut.eq_2, colsPut.eq_3, colsPut.eq_4, Col.put.eq_1, Col.put.eq_2, Col.put.eq_3, Col.put.eq_4, Col.put.eq_5, mmFold.eq_1, mmFold.eq_2, mmFold.eq_3, eqK.eq_1, eqK.eq_2, eqK.eq_3, eqK.eq_4, eqK.eq_5, colsPaste.eq_1, colsPaste.eq_2, colsPaste.eq_3, Col.paste.eq_1, Col.paste.eq_2, Col.paste.eq_3, Col.paste.eq_4, Col.paste.eq_5, mNew.eq_1, mNew.eq_2, mNew.eq_3, mNew.eq_4, mkKey.eq_1, mkKey.eq_2, mkKey.eq_3, mkKey.eq_4, keyIn.eq_1, keyIn.eq_2, keyIn.eq_3, mGet.eq_1, mGet.eq_2, mGet.eq_3, mGet.eq_4, mPut.eq_1, mPut.eq_2, mPut.eq_3, mPut.eq_4, res.eq_1, stepIdx.eq_1, mix.eq_1, mix.eq_2, mix.eq_3, mix.eq_4, PV.cells.eq_1, PV.cells.eq_2, PV.cells.eq_3, PV.cells.eq_4, argSlots.eq_1, argSlots.eq_2, colPV.eq_1, colPV.eq_2, colPV.eq_3, colPV.eq_4, ROp.eq_1, ROp.eq_2, ROp.eq_3, OX.eq_1, OX.eq_2, OX.eq_3, noOs.eq_1, noOs.eq_2, noOs.eq_3, noOs.eq_4, noOs.eq_5, noOs.eq_6, mkCol.eq_6, Col.app.eq_6, Col.put.eq_6, Col.paste.eq_6, colPV.eq_5, colSls.eq_1, colSls.eq_2, colSls.eq_3, step, stepBin, Nat.reduceBEq, Nat.reduceBeqDiff, Nat.add_assoc nid, Nat.reduceAdd, reduceCtorEq, Nat.reduceLeDiff, Nat.reduceBneDiff, Option.toList, ← Int.ofNat_tmod, ← Int.ofNat_tdiv, Nat.reduceLT]
          rw [RAny.eq_2]
          simp -dsimp only [ROps.eq_1, ROps.eq_2, ROps.eq_3, ROps.eq_4, BS_some, BS_true, BS_none, OB_bool, OG_bool, OG_tup, S2_true, S2_false, OF_fn, getS_hit, getS_miss, getS.eq_1, getH_hit, getH_miss, getH.eq_1, putS.eq_1, putS.eq_2, AX.val.eq_1, AX.val.eq_2, cond_true, cond_false, idS1, idS2, List.nil_append, List.cons_append, true_and, and_true, ne_eq, not_true_eq_false, if_false, if_true, ite_false, ite_true, List.map_cons, List.map_nil, List.drop_zero, List.drop_succ_cons, List.take_succ_cons, List.take_zero, List.length_cons, List.length_nil, Nat.zero_add, decide_true, decide_false, beq_self_eq_true, Bool.and_true, Bool.and_false, Bool.true_and, Bool.false_and, Int.toNat_natCast, lowBlk_box, lowBlk_arr, lowBlk_none, List.append_nil, List.getElem?_cons_zero, List.getElem?_cons_succ, List.all_cons, List.all_nil, List.any_cons, List.any_nil, List.contains_cons, List.contains_nil, Bool.or_false, Bool.false_or, Bool.or_true, Bool.true_or, Bool.not_false, Bool.not_true, bne_self_eq_false, List.singleton_append, Int.add_sub_cancel, List.replicate_succ, List.replicate_zero, List.flatten_cons, List.flatten_nil, List.set_cons_succ, List.set_cons_zero, List.headD_cons, List.tail_cons, Nat.add_lt_add_iff_left, freeOf.eq_1, freeOf.eq_2, indep.eq_1, offO.eq_1, offO.eq_2, neqO.eq_1, neqO.eq_2, disj.eq_1, namesX.eq_1, namesX.eq_2, axSlot.eq_1, axSlot.eq_2, opXs.eq_1, opXs.eq_2, opXs.eq_3, opXs.eq_4, opXs.eq_5, opXs.eq_6, opXs.eq_7, opXs.eq_8, opXs.eq_9, opXs.eq_10, opXs.eq_11, opXs.eq_12, opXs.eq_13, opXs.eq_14, opXs.eq_15, opXs.eq_16, opXs.eq_17, opXs.eq_18, opXs.eq_19, opXs.eq_20, opXs.eq_21, opXs.eq_22, opXs.eq_23, opXs.eq_24, opXs.eq_25, opXs.eq_26, opXs.eq_27, opXs.eq_28, opXs.eq_29, opXs.eq_30, opXs.eq_31, opXs.eq_32, opXs.eq_33, opXs.eq_34, opXs.eq_35, opXs.eq_36, opXs.eq_37, opXs.eq_38, opXs.eq_39, opXs.eq_40, opXs.eq_41, opXs.eq_42, opXs.eq_43, opXs.eq_44, opXs.eq_45, opXs.eq_46, opXs.eq_47, rdXs.eq_1, rdXs.eq_2, rdXs.eq_3, rdXs.eq_4, rdXs.eq_5, rdXs.eq_6, rdXs.eq_7, rdXs.eq_8, rdXs.eq_9, rdXs.eq_10, rdXs.eq_11, rdXs.eq_12, rdXs.eq_13, rdXs.eq_14, rdXs.eq_15, idsOf.eq_1, idsOf.eq_2, idsOf.eq_3, idsOf.eq_4, idsOf.eq_5, idsOf.eq_6, idsOf.eq_7, idsOf.eq_8, idsOf.eq_9, idsOfs.eq_1, idsOfs.eq_2, lowH.eq_1, lowH.eq_2, lowAll.eq_1, keys.eq_1, optInt.eq_1, optInt.eq_2, fillP.eq_1, fillP.eq_2, repl.eq_1, chunk.eq_1, chunk.eq_2, mkCols.eq_1, mkCols.eq_2, mkCols.eq_3, mkCol.eq_1, mkCol.eq_2, mkCol.eq_3, mkCol.eq_4, mkCol.eq_5, colInts.eq_1, colInts.eq_2, colInts.eq_3, colBools.eq_1, colBools.eq_2, colBools.eq_3, colStrs.eq_1, colStrs.eq_2, colStrs.eq_3, colLits.eq_1, colLits.eq_2, colLits.eq_3, colsApp.eq_1, colsApp.eq_2, colsApp.eq_3, Col.app.eq_1, Col.app.eq_2, Col.app.eq_3, Col.app.eq_4, Col.app.eq_5, tailOf.eq_1, tailOf.eq_2, tailOf.eq_3, splice.eq_1, splice.eq_2, colsPut.eq_1, colsPut.eq_2, colsPut.eq_3, colsPut.eq_4, Col.put.eq_1, Col.put.eq_2, Col.put.eq_3, Col.put.eq_4, Col.put.eq_5, mmFold.eq_1, mmFold.eq_2, mmFold.eq_3, eqK.eq_1, eqK.eq_2, eqK.eq_3, eqK.eq_4, eqK.eq_5, colsPaste.eq_1, colsPaste.eq_2, colsPaste.eq_3, Col.paste.eq_1, Col.paste.eq_2, Col.paste.eq_3, Col.paste.eq_4, Col.paste.eq_5, mNew.eq_1, mNew.eq_2, mNew.eq_3, mNew.eq_4, mkKey.eq_1, mkKey.eq_2, mkKey.eq_3, mkKey.eq_4, keyIn.eq_1, keyIn.eq_2, keyIn.eq_3, mGet.eq_1, mGet.eq_2, mGet.eq_3, mGet.eq_4, mPut.eq_1, mPut.eq_2, mPut.eq_3, mPut.eq_4, res.eq_1, stepIdx.eq_1, mix.eq_1, mix.eq_2, mix.eq_3, mix.eq_4, PV.cells.eq_1, PV.cells.eq_2, PV.cells.eq_3, PV.cells.eq_4, argSlots.eq_1, argSlots.eq_2, colPV.eq_1, colPV.eq_2, colPV.eq_3, colPV.eq_4, ROp.eq_1, ROp.eq_2, ROp.eq_3, OX.eq_1, OX.eq_2, OX.eq_3, noOs.eq_1, noOs.eq_2, noOs.eq_3, noOs.eq_4, noOs.eq_5, noOs.eq_6, mkCol.eq_6, Col.app.eq_6, Col.put.eq_6, Col.paste.eq_6, colPV.eq_5, colSls.eq_1, colSls.eq_2, colSls.eq_3, step, stepBin, Nat.reduceBEq, Nat.reduceBeqDiff, Nat.add_assoc nid, Nat.reduceAdd, reduceCtorEq, Nat.reduceLeDiff, Nat.reduceBneDiff, Option.toList, ← Int.ofNat_tmod, ← Int.ofNat_tdiv, Nat.reduceLT]
          rw [hu]
          simp -dsimp only [aqT, aqU, aqN, ↓seqK, ↓blkK, ↓loopK, step, stepBin, Nat.reduceBEq, Nat.reduceBeqDiff, Nat.add_assoc nid, Nat.reduceAdd, reduceCtorEq, ↓reduceIte, Nat.reduceLeDiff, Nat.reduceBneDiff, Option.toList, ← Int.ofNat_tmod, ← Int.ofNat_tdiv, Nat.reduceLT]
          refine ⟨⟨by omega, by omega⟩, ⟨by omega, by omega⟩, ?_⟩
          refine CallX.pure (apart_cc _ _ _ (by rw [hlen last hlast, hlen j hjl]) (by rw [hlen last hlast]; omega)) ?_
          simp -dsimp only [aqT, aqU, aqN, aqS, ↓seqK, ↓blkK, ↓loopK, step, stepBin, Nat.add_assoc nid, ↓reduceIte, Option.toList, ← Int.ofNat_tmod, ← Int.ofNat_tdiv, simprocAttr, BEq.rfl, LN_succ]
          refine ⟨by omega, ?_⟩
          rw [hsk, ho]
          refine CallX.on (count_c nid nl v w hv hw hn _ (was ||| 1 <<< j) j d _ (by omega) rfl hol hjl) (subH_cons (by simp only [aqT, aqU, aqN, aqS, ↓seqK, ↓blkK, ↓loopK, step, stepBin, Nat.add_assoc nid, ↓reduceIte, Option.toList, ← Int.ofNat_tmod, ← Int.ofNat_tdiv, simprocAttr, BEq.rfl, LN_succ, boxNn]) (subH_cons (by simp only [aqT, aqU, aqN, aqS, ↓seqK, ↓blkK, ↓loopK, step, stepBin, Nat.add_assoc nid, ↓reduceIte, Option.toList, ← Int.ofNat_tmod, ← Int.ofNat_tdiv, simprocAttr, BEq.rfl, LN_succ, boxRm]) (subH_cons (by simp only [aqT, aqU, aqN, aqS, ↓seqK, ↓blkK, ↓loopK, step, stepBin, Nat.add_assoc nid, ↓reduceIte, Option.toList, ← Int.ofNat_tmod, ← Int.ofNat_tdiv, simprocAttr, BEq.rfl, LN_succ, boxVs, litS]) (subH_cons (by simp only [aqT, aqU, aqN, aqS, ↓seqK, ↓blkK, ↓loopK, step, stepBin, Nat.add_assoc nid, ↓reduceIte, Option.toList, ← Int.ofNat_tmod, ← Int.ofNat_tdiv, simprocAttr, BEq.rfl, LN_succ, boxCf, capO]) (subH_get (by simp only [aqT, aqU, aqN, aqS, ↓seqK, ↓blkK, ↓loopK, step, stepBin, Nat.add_assoc nid, ↓reduceIte, Option.toList, ← Int.ofNat_tmod, ← Int.ofNat_tdiv, simprocAttr, BEq.rfl, LN_succ, mapO])))))) ?_
          refine ⟨by simp [lowH, lowBlk, lowAll, idsOf, idsOfs, keys, hsO, boxNn, boxRm, boxVs, boxCf, litS, capO, mapO, aqT, aqU, aqN, aqS, ↓seqK, ↓blkK, ↓loopK, step, stepBin, Nat.add_assoc nid, ↓reduceIte, Option.toList, ← Int.ofNat_tmod, ← Int.ofNat_tdiv, simprocAttr, BEq.rfl, LN_succ], by simp [hsO, mapO, freeOf, disj, keys, aqT, aqU, aqN, aqS, ↓seqK, ↓blkK, ↓loopK, step, stepBin, Nat.add_assoc nid, ↓reduceIte, Option.toList, ← Int.ofNat_tmod, ← Int.ofNat_tdiv, simprocAttr, BEq.rfl, LN_succ], ?_⟩
          rw [show ((hamK (v.getD last []) (v.getD j []) (v.getD last []).length : Nat) : Int) = dV v last j from rfl]
          unfold mapO
          simp -dsimp only [aqT, aqU, aqN, aqS, ↓seqK, ↓blkK, ↓loopK, step, stepBin, Nat.add_assoc nid, ↓reduceIte, Option.toList, ← Int.ofNat_tmod, ← Int.ofNat_tdiv, simprocAttr, BEq.rfl, LN_succ]
          refine ⟨by unfold inI64; omega, ?_⟩
          refine CallX.on (count_c nid nl v w hv hw hn _ was last (domO v.length (zc v.length (was ||| 1 <<< j)) (was ||| 1 <<< j) j d) _ (by omega) rfl hlt hlast) (subH_cons (by simp only [aqT, aqU, aqN, aqS, ↓seqK, ↓blkK, ↓loopK, step, stepBin, Nat.add_assoc nid, ↓reduceIte, Option.toList, ← Int.ofNat_tmod, ← Int.ofNat_tdiv, simprocAttr, BEq.rfl, LN_succ, boxNn]) (subH_cons (by simp only [aqT, aqU, aqN, aqS, ↓seqK, ↓blkK, ↓loopK, step, stepBin, Nat.add_assoc nid, ↓reduceIte, Option.toList, ← Int.ofNat_tmod, ← Int.ofNat_tdiv, simprocAttr, BEq.rfl, LN_succ, boxRm]) (subH_cons (by simp only [aqT, aqU, aqN, aqS, ↓seqK, ↓blkK, ↓loopK, step, stepBin, Nat.add_assoc nid, ↓reduceIte, Option.toList, ← Int.ofNat_tmod, ← Int.ofNat_tdiv, simprocAttr, BEq.rfl, LN_succ, boxVs, litS]) (subH_cons (by simp only [aqT, aqU, aqN, aqS, ↓seqK, ↓blkK, ↓loopK, step, stepBin, Nat.add_assoc nid, ↓reduceIte, Option.toList, ← Int.ofNat_tmod, ← Int.ofNat_tdiv, simprocAttr, BEq.rfl, LN_succ, boxCf, capO]) (subH_get (by simp only [aqT, aqU, aqN, aqS, ↓seqK, ↓blkK, ↓loopK, step, stepBin, Nat.add_assoc nid, ↓reduceIte, Option.toList, ← Int.ofNat_tmod, ← Int.ofNat_tdiv, simprocAttr, BEq.rfl, LN_succ, mapO])))))) ?_
          refine ⟨by simp [lowH, lowBlk, lowAll, idsOf, idsOfs, keys, hsO, boxNn, boxRm, boxVs, boxCf, litS, capO, mapO, aqT, aqU, aqN, aqS, ↓seqK, ↓blkK, ↓loopK, step, stepBin, Nat.add_assoc nid, ↓reduceIte, Option.toList, ← Int.ofNat_tmod, ← Int.ofNat_tdiv, simprocAttr, BEq.rfl, LN_succ], by simp [hsO, mapO, freeOf, disj, keys, aqT, aqU, aqN, aqS, ↓seqK, ↓blkK, ↓loopK, step, stepBin, Nat.add_assoc nid, ↓reduceIte, Option.toList, ← Int.ofNat_tmod, ← Int.ofNat_tdiv, simprocAttr, BEq.rfl, LN_succ], ?_⟩
          unfold mapO
          simp -dsimp only [aqT, aqU, aqN, aqS, ↓seqK, ↓blkK, ↓loopK, step, stepBin, Nat.add_assoc nid, ↓reduceIte, Option.toList, ← Int.ofNat_tmod, ← Int.ofNat_tdiv, simprocAttr, BEq.rfl, LN_succ]
          generalize domO v.length (zc v.length was) was last (domO v.length (zc v.length (was ||| 1 <<< j)) (was ||| 1 <<< j) j d) = d2
          cases he : (dV v last j + costV (dV v) v.length (was ||| 1 <<< j) j == costV (dV v) v.length was last) <;> rw [he] at hnx <;> simp -dsimp only [aqT, aqU, aqN, aqS, ↓seqK, ↓blkK, ↓loopK, step, stepBin, Nat.add_assoc nid, ↓reduceIte, Option.toList, ← Int.ofNat_tmod, ← Int.ofNat_tdiv, simprocAttr, BEq.rfl, LN_succ]
          · refine ⟨by unfold inI64; omega, (j + 1, d2), ⟨⟨by simp only; omega, fun i hi => ?_⟩, by simp only; omega⟩, Cov.go [] [] ?_⟩
            · simp only at hi
              rcases (by omega : i < j ∨ i = j) with h6 | h6
              · exact hno i h6
              · subst h6
                rw [hnx]
                rfl
            simp [cvT, step, res, hil, ColsEq.refl, -List.getD_eq_getElem?_getD]
          · refine ⟨by omega, ?_⟩
            rw [hsk, ho]
            have hnx2 : nxtP (dV v) v.length was last j = true := hnx
            have hni := nxtI_eq hjl hnx2 hno
            have happ := getD_appI (intsO out) (j : Int)
            rw [hil] at happ
            rw [happ, show intsO out ++ [((j : Nat) : Int)] = intsO (out ++ [j]) from by simp [intsO]]
            refine ⟨by omega, (f', was ||| 1 <<< j, j, out ++ [j], d2), ⟨⟨by simp only [List.length_append, List.length_singleton]; omega, hat.next hjl hnx2, ?_⟩, by simp only; omega⟩, Cov.go [(nid + 24, nid + 640)] [] ?_⟩
            · rw [← hgo]
              show _ = goO (dV v) v.length f' (was ||| 1 <<< nxtI (dV v) v.length was last) (nxtI (dV v) v.length was last) (out ++ [nxtI (dV v) v.length was last])
              rw [hni]
            have hil2 : (intsO (out ++ [j])).length = out.length + 1 := by simp [intsO]
            simp [cvT, step, res, arrI, hil, hil2, ColsEq.refl, -List.getD_eq_getElem?_getD]
        · rw [Bool.not_true] at hu
          simp -dsimp only [Run.eq_1, Run.eq_2, Run.eq_3, Run.eq_4, Run.eq_5, Run.eq_6, Run.eq_7, Run.eq_8, Run.eq_9, ↓seqK, ↓blkK, ↓loopK]
          simp -dsimp only [ROps.eq_1, ROps.eq_2, ROps.eq_3, ROps.eq_4, BS_some, BS_true, BS_none, OB_bool, OG_bool, OG_tup, S2_true, S2_false, OF_fn, getS_hit, getS_miss, getS.eq_1, getH_hit, getH_miss, getH.eq_1, putS.eq_1, putS.eq_2, AX.val.eq_1, AX.val.eq_2, cond_true, cond_false, idS1, idS2, List.nil_append, List.cons_append, true_and, and_true, ne_eq, not_true_eq_false, if_false, if_true, ite_false, ite_true, List.map_cons, List.map_nil, List.drop_zero, List.drop_succ_cons, List.take_succ_cons, List.take_zero, List.length_cons, List.length_nil, Nat.zero_add, decide_true, decide_false, beq_self_eq_true, Bool.and_true, Bool.and_false, Bool.true_and, Bool.false_and, Int.toNat_natCast, lowBlk_box, lowBlk_arr, lowBlk_none, List.append_nil, List.getElem?_cons_zero, List.getElem?_cons_succ, List.all_cons, List.all_nil, List.any_cons, List.any_nil, List.contains_cons, List.contains_nil, Bool.or_false, Bool.false_or, Bool.or_true, Bool.true_or, Bool.not_false, Bool.not_true, bne_self_eq_false, List.singleton_append, Int.add_sub_cancel, List.replicate_succ, List.replicate_zero, List.flatten_cons, List.flatten_nil, List.set_cons_succ, List.set_cons_zero, List.headD_cons, List.tail_cons, Nat.add_lt_add_iff_left, freeOf.eq_1, freeOf.eq_2, indep.eq_1, offO.eq_1, offO.eq_2, neqO.eq_1, neqO.eq_2, disj.eq_1, namesX.eq_1, namesX.eq_2, axSlot.eq_1, axSlot.eq_2, opXs.eq_1, opXs.eq_2, opXs.eq_3, opXs.eq_4, opXs.eq_5, opXs.eq_6, opXs.eq_7, opXs.eq_8, opXs.eq_9, opXs.eq_10, opXs.eq_11, opXs.eq_12, opXs.eq_13, opXs.eq_14, opXs.eq_15, opXs.eq_16, opXs.eq_17, opXs.eq_18, opXs.eq_19, opXs.eq_20, opXs.eq_21, opXs.eq_22, opXs.eq_23, opXs.eq_24, opXs.eq_25, opXs.eq_26, opXs.eq_27, opXs.eq_28, opXs.eq_29, opXs.eq_30, opXs.eq_31, opXs.eq_32, opXs.eq_33, opXs.eq_34, opXs.eq_35, opXs.eq_36, opXs.eq_37, opXs.eq_38, opXs.eq_39, opXs.eq_40, opXs.eq_41, opXs.eq_42, opXs.eq_43, opXs.eq_44, opXs.eq_45, opXs.eq_46, opXs.eq_47, rdXs.eq_1, rdXs.eq_2, rdXs.eq_3, rdXs.eq_4, rdXs.eq_5, rdXs.eq_6, rdXs.eq_7, rdXs.eq_8, rdXs.eq_9, rdXs.eq_10, rdXs.eq_11, rdXs.eq_12, rdXs.eq_13, rdXs.eq_14, rdXs.eq_15, idsOf.eq_1, idsOf.eq_2, idsOf.eq_3, idsOf.eq_4, idsOf.eq_5, idsOf.eq_6, idsOf.eq_7, idsOf.eq_8, idsOf.eq_9, idsOfs.eq_1, idsOfs.eq_2, lowH.eq_1, lowH.eq_2, lowAll.eq_1, keys.eq_1, optInt.eq_1, optInt.eq_2, fillP.eq_1, fillP.eq_2, repl.eq_1, chunk.eq_1, chunk.eq_2, mkCols.eq_1, mkCols.eq_2, mkCols.eq_3, mkCol.eq_1, mkCol.eq_2, mkCol.eq_3, mkCol.eq_4, mkCol.eq_5, colInts.eq_1, colInts.eq_2, colInts.eq_3, colBools.eq_1, colBools.eq_2, colBools.eq_3, colStrs.eq_1, colStrs.eq_2, colStrs.eq_3, colLits.eq_1, colLits.eq_2, colLits.eq_3, colsApp.eq_1, colsApp.eq_2, colsApp.eq_3, Col.app.eq_1, Col.app.eq_2, Col.app.eq_3, Col.app.eq_4, Col.app.eq_5, tailOf.eq_1, tailOf.eq_2, tailOf.eq_3, splice.eq_1, splice.eq_2, colsPut.eq_1, colsPut.eq_2, colsPut.eq_3, colsPut.eq_4, Col.put.eq_1, Col.put.eq_2, Col.put.eq_3, Col.put.eq_4, Col.put.eq_5, mmFold.eq_1, mmFold.eq_2, mmFold.eq_3, eqK.eq_1, eqK.eq_2, eqK.eq_3, eqK.eq_4, eqK.eq_5, colsPaste.eq_1, colsPaste.eq_2, colsPaste.eq_3, Col.paste.eq_1, Col.paste.eq_2, Col.paste.eq_3, Col.paste.eq_4, Col.paste.eq_5, mNew.eq_1, mNew.eq_2, mNew.eq_3, mNew.eq_4, mkKey.eq_1, mkKey.eq_2, mkKey.eq_3, mkKey.eq_4, keyIn.eq_1, keyIn.eq_2, keyIn.eq_3, mGet.eq_1, mGet.eq_2, mGet.eq_3, mGet.eq_4, mPut.eq_1, mPut.eq_2, mPut.eq_3, mPut.eq_4, res.eq_1, stepIdx.eq_1, mix.eq_1, mix.eq_2, mix.eq_3, mix.eq_4, PV.cells.eq_1, PV.cells.eq_2, PV.cells.eq_3, PV.cells.eq_4, argSlots.eq_1, argSlots.eq_2, colPV.eq_1, colPV.eq_2, colPV.eq_3, colPV.eq_4, ROp.eq_1, ROp.eq_2, ROp.eq_3, OX.eq_1, OX.eq_2, OX.eq_3, noOs.eq_1, noOs.eq_2, noOs.eq_3, noOs.eq_4, noOs.eq_5, noOs.eq_6, mkCol.eq_6, Col.app.eq_6, Col.put.eq_6, Col.paste.eq_6, colPV.eq_5, colSls.eq_1, colSls.eq_2, colSls.eq_3, step, stepBin, Nat.reduceBEq, Nat.reduceBeqDiff, Nat.add_assoc nid, Nat.reduceAdd, reduceCtorEq, Nat.reduceLeDiff, Nat.reduceBneDiff, Option.toList, ← Int.ofNat_tmod, ← Int.ofNat_tdiv, Nat.reduceLT]
          rw [seqK, Run.eq_4, Run.eq_3]
          rw [RAny.eq_2]
          simp -dsimp only [ROps.eq_1, ROps.eq_2, ROps.eq_3, ROps.eq_4, BS_some, BS_true, BS_none, OB_bool, OG_bool, OG_tup, S2_true, S2_false, OF_fn, getS_hit, getS_miss, getS.eq_1, getH_hit, getH_miss, getH.eq_1, putS.eq_1, putS.eq_2, AX.val.eq_1, AX.val.eq_2, cond_true, cond_false, idS1, idS2, List.nil_append, List.cons_append, true_and, and_true, ne_eq, not_true_eq_false, if_false, if_true, ite_false, ite_true, List.map_cons, List.map_nil, List.drop_zero, List.drop_succ_cons, List.take_succ_cons, List.take_zero, List.length_cons, List.length_nil, Nat.zero_add, decide_true, decide_false, beq_self_eq_true, Bool.and_true, Bool.and_false, Bool.true_and, Bool.false_and, Int.toNat_natCast, lowBlk_box, lowBlk_arr, lowBlk_none, List.append_nil, List.getElem?_cons_zero, List.getElem?_cons_succ, List.all_cons, List.all_nil, List.any_cons, List.any_nil, List.contains_cons, List.contains_nil, Bool.or_false, Bool.false_or, Bool.or_true, Bool.true_or, Bool.not_false, Bool.not_true, bne_self_eq_false, List.singleton_append, Int.add_sub_cancel, List.replicate_succ, List.replicate_zero, List.flatten_cons, List.flatten_nil, List.set_cons_succ, List.set_cons_zero, List.headD_cons, List.tail_cons, Nat.add_lt_add_iff_left, freeOf.eq_1, freeOf.eq_2, indep.eq_1, offO.eq_1, offO.eq_2, neqO.eq_1, neqO.eq_2, disj.eq_1, namesX.eq_1, namesX.eq_2, axSlot.eq_1, axSlot.eq_2, opXs.eq_1, opXs.eq_2, opXs.eq_3, opXs.eq_4, opXs.eq_5, opXs.eq_6, opXs.eq_7, opXs.eq_8, opXs.eq_9, opXs.eq_10, opXs.eq_11, opXs.eq_12, opXs.eq_13, opXs.eq_14, opXs.eq_15, opXs.eq_16, opXs.eq_17, opXs.eq_18, opXs.eq_19, opXs.eq_20, opXs.eq_21, opXs.eq_22, opXs.eq_23, opXs.eq_24, opXs.eq_25, opXs.eq_26, opXs.eq_27, opXs.eq_28, opXs.eq_29, opXs.eq_30, opXs.eq_31, opXs.eq_32, opXs.eq_33, opXs.eq_34, opXs.eq_35, opXs.eq_36, opXs.eq_37, opXs.eq_38, opXs.eq_39, opXs.eq_40, opXs.eq_41, opXs.eq_42, opXs.eq_43, opXs.eq_44, opXs.eq_45, opXs.eq_46, opXs.eq_47, rdXs.eq_1, rdXs.eq_2, rdXs.eq_3, rdXs.eq_4, rdXs.eq_5, rdXs.eq_6, rdXs.eq_7, rdXs.eq_8, rdXs.eq_9, rdXs.eq_10, rdXs.eq_11, rdXs.eq_12, rdXs.eq_13, rdXs.eq_14, rdXs.eq_15, idsOf.eq_1, idsOf.eq_2, idsOf.eq_3, idsOf.eq_4, idsOf.eq_5, idsOf.eq_6, idsOf.eq_7, idsOf.eq_8, idsOf.eq_9, idsOfs.eq_1, idsOfs.eq_2, lowH.eq_1, lowH.eq_2, lowAll.eq_1, keys.eq_1, optInt.eq_1, optInt.eq_2, fillP.eq_1, fillP.eq_2, repl.eq_1, chunk.eq_1, chunk.eq_2, mkCols.eq_1, mkCols.eq_2, mkCols.eq_3, mkCol.eq_1, mkCol.eq_2, mkCol.eq_3, mkCol.eq_4, mkCol.eq_5, colInts.eq_1, colInts.eq_2, colInts.eq_3, colBools.eq_1, colBools.eq_2, colBools.eq_3, colStrs.eq_1, colStrs.eq_2, colStrs.eq_3, colLits.eq_1, colLits.eq_2, colLits.eq_3, colsApp.eq_1, colsApp.eq_2, colsApp.eq_3, Col.app.eq_1, Col.app.eq_2, Col.app.eq_3, Col.app.eq_4, Col.app.eq_5, tailOf.eq_1, tailOf.eq_2, tailOf.eq_3, splice.eq_1, splice.eq_2, colsPut.eq_1, colsPut.eq_2, colsPut.eq_3, colsPut.eq_4, Col.put.eq_1, Col.put.eq_2, Col.put.eq_3, Col.put.eq_4, Col.put.eq_5, mmFold.eq_1, mmFold.eq_2, mmFold.eq_3, eqK.eq_1, eqK.eq_2, eqK.eq_3, eqK.eq_4, eqK.eq_5, colsPaste.eq_1, colsPaste.eq_2, colsPaste.eq_3, Col.paste.eq_1, Col.paste.eq_2, Col.paste.eq_3, Col.paste.eq_4, Col.paste.eq_5, mNew.eq_1, mNew.eq_2, mNew.eq_3, mNew.eq_4, mkKey.eq_1, mkKey.eq_2, mkKey.eq_3, mkKey.eq_4, keyIn.eq_1, keyIn.eq_2, keyIn.eq_3, mGet.eq_1, mGet.eq_2, mGet.eq_3, mGet.eq_4, mPut.eq_1, mPut.eq_2, mPut.eq_3, mPut.eq_4, res.eq_1, stepIdx.eq_1, mix.eq_1, mix.eq_2, mix.eq_3, mix.eq_4, PV.cells.eq_1, PV.cells.eq_2, PV.cells.eq_3, PV.cells.eq_4, argSlots.eq_1, argSlots.eq_2, colPV.eq_1, colPV.eq_2, colPV.eq_3, colPV.eq_4, ROp.eq_1, ROp.eq_2, ROp.eq_3, OX.eq_1, OX.eq_2, OX.eq_3, noOs.eq_1, noOs.eq_2, noOs.eq_3, noOs.eq_4, noOs.eq_5, noOs.eq_6, mkCol.eq_6, Col.app.eq_6, Col.put.eq_6, Col.paste.eq_6, colPV.eq_5, colSls.eq_1, colSls.eq_2, colSls.eq_3, step, stepBin, Nat.reduceBEq, Nat.reduceBeqDiff, Nat.add_assoc nid, Nat.reduceAdd, reduceCtorEq, Nat.reduceLeDiff, Nat.reduceBneDiff, Option.toList, ← Int.ofNat_tmod, ← Int.ofNat_tdiv, Nat.reduceLT]
          rw [RAny.eq_2]
          simp -dsimp only [ROps.eq_1, ROps.eq_2, ROps.eq_3, ROps.eq_4, BS_some, BS_true, BS_none, OB_bool, OG_bool, OG_tup, S2_true, S2_false, OF_fn, getS_hit, getS_miss, getS.eq_1, getH_hit, getH_miss, getH.eq_1, putS.eq_1, putS.eq_2, AX.val.eq_1, AX.val.eq_2, cond_true, cond_false, idS1, idS2, List.nil_append, List.cons_append, true_and, and_true, ne_eq, not_true_eq_false, if_false, if_true, ite_false, ite_true, List.map_cons, List.map_nil, List.drop_zero, List.drop_succ_cons, List.take_succ_cons, List.take_zero, List.length_cons, List.length_nil, Nat.zero_add, decide_true, decide_false, beq_self_eq_true, Bool.and_true, Bool.and_false, Bool.true_and, Bool.false_and, Int.toNat_natCast, lowBlk_box, lowBlk_arr, lowBlk_none, List.append_nil, List.getElem?_cons_zero, List.getElem?_cons_succ, List.all_cons, List.all_nil, List.any_cons, List.any_nil, List.contains_cons, List.contains_nil, Bool.or_false, Bool.false_or, Bool.or_true, Bool.true_or, Bool.not_false, Bool.not_true, bne_self_eq_false, List.singleton_append, Int.add_sub_cancel, List.replicate_succ, List.replicate_zero, List.flatten_cons, List.flatten_nil, List.set_cons_succ, List.set_cons_zero, List.headD_cons, List.tail_cons, Nat.add_lt_add_iff_left, freeOf.eq_1, freeOf.eq_2, indep.eq_1, offO.eq_1, offO.eq_2, neqO.eq_1, neqO.eq_2, disj.eq_1, namesX.eq_1, namesX.eq_2, axSlot.eq_1, axSlot.eq_2, opXs.eq_1, opXs.eq_2, opXs.eq_3, opXs.eq_4, opXs.eq_5, opXs.eq_6, opXs.eq_7, opXs.eq_8, opXs.eq_9, opXs.eq_10, opXs.eq_11, opXs.eq_12, opXs.eq_13, opXs.eq_14, opXs.eq_15, opXs.eq_16, opXs.eq_17, opXs.eq_18, opXs.eq_19, opXs.eq_20, opXs.eq_21, opXs.eq_22, opXs.eq_23, opXs.eq_24, opXs.eq_25, opXs.eq_26, opXs.eq_27, opXs.eq_28, opXs.eq_29, opXs.eq_30, opXs.eq_31, opXs.eq_32, opXs.eq_33, opXs.eq_34, opXs.eq_35, opXs.eq_36, opXs.eq_37, opXs.eq_38, opXs.eq_39, opXs.eq_40, opXs.eq_41, opXs.eq_42, opXs.eq_43, opXs.eq_44, opXs.eq_45, opXs.eq_46, opXs.eq_47, rdXs.eq_1, rdXs.eq_2, rdXs.eq_3, rdXs.eq_4, rdXs.eq_5, rdXs.eq_6, rdXs.eq_7, rdXs.eq_8, rdXs.eq_9, rdXs.eq_10, rdXs.eq_11, rdXs.eq_12, rdXs.eq_13, rdXs.eq_14, rdXs.eq_15, idsOf.eq_1, idsOf.eq_2, idsOf.eq_3, idsOf.eq_4, idsOf.eq_5, idsOf.eq_6, idsOf.eq_7, idsOf.eq_8, idsOf.eq_9, idsOfs.eq_1, idsOfs.eq_2, lowH.eq_1, lowH.eq_2, lowAll.eq_1, keys.eq_1, optInt.eq_1, optInt.eq_2, fillP.eq_1, fillP.eq_2, repl.eq_1, chunk.eq_1, chunk.eq_2, mkCols.eq_1, mkCols.eq_2, mkCols.eq_3, mkCol.eq_1, mkCol.eq_2, mkCol.eq_3, mkCol.eq_4, mkCol.eq_5, colInts.eq_1, colInts.eq_2, colInts.eq_3, colBools.eq_1, colBools.eq_2, colBools.eq_3, colStrs.eq_1, colStrs.eq_2, colStrs.eq_3, colLits.eq_1, colLits.eq_2, colLits.eq_3, colsApp.eq_1, colsApp.eq_2, colsApp.eq_3, Col.app.eq_1, Col.app.eq_2, Col.app.eq_3, Col.app.eq_4, Col.app.eq_5, tailOf.eq_1, tailOf.eq_2, tailOf.eq_3, splice.eq_1, splice.eq_2, colsPut.eq_1, colsPut.eq_2, colsPut.eq_3, colsPut.eq_4, Col.put.eq_1, Col.put.eq_2, Col.put.eq_3, Col.put.eq_4, Col.put.eq_5, mmFold.eq_1, mmFold.eq_2, mmFold.eq_3, eqK.eq_1, eqK.eq_2, eqK.eq_3, eqK.eq_4, eqK.eq_5, colsPaste.eq_1, colsPaste.eq_2, colsPaste.eq_3, Col.paste.eq_1, Col.paste.eq_2, Col.paste.eq_3, Col.paste.eq_4, Col.paste.eq_5, mNew.eq_1, mNew.eq_2, mNew.eq_3, mNew.eq_4, mkKey.eq_1, mkKey.eq_2, mkKey.eq_3, mkKey.eq_4, keyIn.eq_1, keyIn.eq_2, keyIn.eq_3, mGet.eq_1, mGet.eq_2, mGet.eq_3, mGet.eq_4, mPut.eq_1, mPut.eq_2, mPut.eq_3, mPut.eq_4, res.eq_1, stepIdx.eq_1, mix.eq_1, mix.eq_2, mix.eq_3, mix.eq_4, PV.cells.eq_1, PV.cells.eq_2, PV.cells.eq_3, PV.cells.eq_4, argSlots.eq_1, argSlots.eq_2, colPV.eq_1, colPV.eq_2, colPV.eq_3, colPV.eq_4, ROp.eq_1, ROp.eq_2, ROp.eq_3, OX.eq_1, OX.eq_2, OX.eq_3, noOs.eq_1, noOs.eq_2, noOs.eq_3, noOs.eq_4, noOs.eq_5, noOs.eq_6, mkCol.eq_6, Col.app.eq_6, Col.put.eq_6, Col.paste.eq_6, colPV.eq_5, colSls.eq_1, colSls.eq_2, colSls.eq_3, step, stepBin, Nat.reduceBEq, Nat.reduceBeqDiff, Nat.add_assoc nid, Nat.reduceAdd, reduceCtorEq, Nat.reduceLeDiff, Nat.reduceBneDiff, Option.toList, ← Int.ofNat_tmod, ← Int.ofNat_tdiv, Nat.reduceLT]
          rw [RAny.eq_2]
          simp -dsimp only [ROps.eq_1, ROps.eq_2, ROps.eq_3, ROps.eq_4, BS_some, BS_true, BS_none, OB_bool, OG_bool, OG_tup, S2_true, S2_false, OF_fn, getS_hit, getS_miss, getS.eq_1, getH_hit, getH_miss, getH.eq_1, putS.eq_1, putS.eq_2, AX.val.eq_1, AX.val.eq_2, cond_true, cond_false, idS1, idS2, List.nil_append, List.cons_append, true_and, and_true, ne_eq, not_true_eq_false, if_false, if_true, ite_false, ite_true, List.map_cons, List.map_nil, List.drop_zero, List.drop_succ_cons, List.take_succ_cons, List.take_zero, List.length_cons, List.length_nil, Nat.zero_add, decide_true, decide_false, beq_self_eq_true, Bool.and_true, Bool.and_false, Bool.true_and, Bool.false_and, Int.toNat_natCast, lowBlk_box, lowBlk_arr, lowBlk_none, List.append_nil, List.getElem?_cons_zero, List.getElem?_cons_succ, List.all_cons, List.all_nil, List.any_cons, List.any_nil, List.contains_cons, List.contains_nil, Bool.or_false, Bool.false_or, Bool.or_true, Bool.true_or, Bool.not_false, Bool.not_true, bne_self_eq_false, List.singleton_append, Int.add_sub_cancel, List.replicate_succ, List.replicate_zero, List.flatten_cons, List.flatten_nil, List.set_cons_succ, List.set_cons_zero, List.headD_cons, List.tail_cons, Nat.add_lt_add_iff_left, freeOf.eq_1, freeOf.eq_2, indep.eq_1, offO.eq_1, offO.eq_2, neqO.eq_1, neqO.eq_2, disj.eq_1, namesX.eq_1, namesX.eq_2, axSlot.eq_1, axSlot.eq_2, opXs.eq_1, opXs.eq_2, opXs.eq_3, opXs.eq_4, opXs.eq_5, opXs.eq_6, opXs.eq_7, opXs.eq_8, opXs.eq_9, opXs.eq_10, opXs.eq_11, opXs.eq_12, opXs.eq_13, opXs.eq_14, opXs.eq_15, opXs.eq_16, opXs.eq_17, opXs.eq_18, opXs.eq_19, opXs.eq_20, opXs.eq_21, opXs.eq_22, opXs.eq_23, opXs.eq_24, opXs.eq_25, opXs.eq_26, opXs.eq_27, opXs.eq_28, opXs.eq_29, opXs.eq_30, opXs.eq_31, opXs.eq_32, opXs.eq_33, opXs.eq_34, opXs.eq_35, opXs.eq_36, opXs.eq_37, opXs.eq_38, opXs.eq_39, opXs.eq_40, opXs.eq_41, opXs.eq_42, opXs.eq_43, opXs.eq_44, opXs.eq_45, opXs.eq_46, opXs.eq_47, rdXs.eq_1, rdXs.eq_2, rdXs.eq_3, rdXs.eq_4, rdXs.eq_5, rdXs.eq_6, rdXs.eq_7, rdXs.eq_8, rdXs.eq_9, rdXs.eq_10, rdXs.eq_11, rdXs.eq_12, rdXs.eq_13, rdXs.eq_14, rdXs.eq_15, idsOf.eq_1, idsOf.eq_2, idsOf.eq_3, idsOf.eq_4, idsOf.eq_5, idsOf.eq_6, idsOf.eq_7, idsOf.eq_8, idsOf.eq_9, idsOfs.eq_1, idsOfs.eq_2, lowH.eq_1, lowH.eq_2, lowAll.eq_1, keys.eq_1, optInt.eq_1, optInt.eq_2, fillP.eq_1, fillP.eq_2, repl.eq_1, chunk.eq_1, chunk.eq_2, mkCols.eq_1, mkCols.eq_2, mkCols.eq_3, mkCol.eq_1, mkCol.eq_2, mkCol.eq_3, mkCol.eq_4, mkCol.eq_5, colInts.eq_1, colInts.eq_2, colInts.eq_3, colBools.eq_1, colBools.eq_2, colBools.eq_3, colStrs.eq_1, colStrs.eq_2, colStrs.eq_3, colLits.eq_1, colLits.eq_2, colLits.eq_3, colsApp.eq_1, colsApp.eq_2, colsApp.eq_3, Col.app.eq_1, Col.app.eq_2, Col.app.eq_3, Col.app.eq_4, Col.app.eq_5, tailOf.eq_1, tailOf.eq_2, tailOf.eq_3, splice.eq_1, splice.eq_2, colsPut.eq_1, colsPut.eq_2, colsPut.eq_3, colsPut.eq_4, Col.put.eq_1, Col.put.eq_2, Col.put.eq_3, Col.put.eq_4, Col.put.eq_5, mmFold.eq_1, mmFold.eq_2, mmFold.eq_3, eqK.eq_1, eqK.eq_2, eqK.eq_3, eqK.eq_4, eqK.eq_5, colsPaste.eq_1, colsPaste.eq_2, colsPaste.eq_3, Col.paste.eq_1, Col.paste.eq_2, Col.paste.eq_3, Col.paste.eq_4, Col.paste.eq_5, mNew.eq_1, mNew.eq_2, mNew.eq_3, mNew.eq_4, mkKey.eq_1, mkKey.eq_2, mkKey.eq_3, mkKey.eq_4, keyIn.eq_1, keyIn.eq_2, keyIn.eq_3, mGet.eq_1, mGet.eq_2, mGet.eq_3, mGet.eq_4, mPut.eq_1, mPut.eq_2, mPut.eq_3, mPut.eq_4, res.eq_1, stepIdx.eq_1, mix.eq_1, mix.eq_2, mix.eq_3, mix.eq_4, PV.cells.eq_1, PV.cells.eq_2, PV.cells.eq_3, PV.cells.eq_4, argSlots.eq_1, argSlots.eq_2, colPV.eq_1, colPV.eq_2, colPV.eq_3, colPV.eq_4, ROp.eq_1, ROp.eq_2, ROp.eq_3, OX.eq_1, OX.eq_2, OX.eq_3, noOs.eq_1, noOs.eq_2, noOs.eq_3, noOs.eq_4, noOs.eq_5, noOs.eq_6, mkCol.eq_6, Col.app.eq_6, Col.put.eq_6, Col.paste.eq_6, colPV.eq_5, colSls.eq_1, colSls.eq_2, colSls.eq_3, step, stepBin, Nat.reduceBEq, Nat.reduceBeqDiff, Nat.add_assoc nid, Nat.reduceAdd, reduceCtorEq, Nat.reduceLeDiff, Nat.reduceBneDiff, Option.toList, ← Int.ofNat_tmod, ← Int.ofNat_tdiv, Nat.reduceLT]
          refine ⟨by omega, ?_⟩
          rw [RAny.eq_2]
          simp -dsimp only [ROps.eq_1, ROps.eq_2, ROps.eq_3, ROps.eq_4, BS_some, BS_true, BS_none, OB_bool, OG_bool, OG_tup, S2_true, S2_false, OF_fn, getS_hit, getS_miss, getS.eq_1, getH_hit, getH_miss, getH.eq_1, putS.eq_1, putS.eq_2, AX.val.eq_1, AX.val.eq_2, cond_true, cond_false, idS1, idS2, List.nil_append, List.cons_append, true_and, and_true, ne_eq, not_true_eq_false, if_false, if_true, ite_false, ite_true, List.map_cons, List.map_nil, List.drop_zero, List.drop_succ_cons, List.take_succ_cons, List.take_zero, List.length_cons, List.length_nil, Nat.zero_add, decide_true, decide_false, beq_self_eq_true, Bool.and_true, Bool.and_false, Bool.true_and, Bool.false_and, Int.toNat_natCast, lowBlk_box, lowBlk_arr, lowBlk_none, List.append_nil, List.getElem?_cons_zero, List.getElem?_cons_succ, List.all_cons, List.all_nil, List.any_cons, List.any_nil, List.contains_cons, List.contains_nil, Bool.or_false, Bool.false_or, Bool.or_true, Bool.true_or, Bool.not_false, Bool.not_true, bne_self_eq_false, List.singleton_append, Int.add_sub_cancel, List.replicate_succ, List.replicate_zero, List.flatten_cons, List.flatten_nil, List.set_cons_succ, List.set_cons_zero, List.headD_cons, List.tail_cons, Nat.add_lt_add_iff_left, freeOf.eq_1, freeOf.eq_2, indep.eq_1, offO.eq_1, offO.eq_2, neqO.eq_1, neqO.eq_2, disj.eq_1, namesX.eq_1, namesX.eq_2, axSlot.eq_1, axSlot.eq_2, opXs.eq_1, opXs.eq_2, opXs.eq_3, opXs.eq_4, opXs.eq_5, opXs.eq_6, opXs.eq_7, opXs.eq_8, opXs.eq_9, opXs.eq_10, opXs.eq_11, opXs.eq_12, opXs.eq_13, opXs.eq_14, opXs.eq_15, opXs.eq_16, opXs.eq_17, opXs.eq_18, opXs.eq_19, opXs.eq_20, opXs.eq_21, opXs.eq_22, opXs.eq_23, opXs.eq_24, opXs.eq_25, opXs.eq_26, opXs.eq_27, opXs.eq_28, opXs.eq_29, opXs.eq_30, opXs.eq_31, opXs.eq_32, opXs.eq_33, opXs.eq_34, opXs.eq_35, opXs.eq_36, opXs.eq_37, opXs.eq_38, opXs.eq_39, opXs.eq_40, opXs.eq_41, opXs.eq_42, opXs.eq_43, opXs.eq_44, opXs.eq_45, opXs.eq_46, opXs.eq_47, rdXs.eq_1, rdXs.eq_2, rdXs.eq_3, rdXs.eq_4, rdXs.eq_5, rdXs.eq_6, rdXs.eq_7, rdXs.eq_8, rdXs.eq_9, rdXs.eq_10, rdXs.eq_11, rdXs.eq_12, rdXs.eq_13, rdXs.eq_14, rdXs.eq_15, idsOf.eq_1, idsOf.eq_2, idsOf.eq_3, idsOf.eq_4, idsOf.eq_5, idsOf.eq_6, idsOf.eq_7, idsOf.eq_8, idsOf.eq_9, idsOfs.eq_1, idsOfs.eq_2, lowH.eq_1, lowH.eq_2, lowAll.eq_1, keys.eq_1, optInt.eq_1, optInt.eq_2, fillP.eq_1, fillP.eq_2, repl.eq_1, chunk.eq_1, chunk.eq_2, mkCols.eq_1, mkCols.eq_2, mkCols.eq_3, mkCol.eq_1, mkCol.eq_2, mkCol.eq_3, mkCol.eq_4, mkCol.eq_5, colInts.eq_1, colInts.eq_2, colInts.eq_3, colBools.eq_1, colBools.eq_2, colBools.eq_3, colStrs.eq_1, colStrs.eq_2, colStrs.eq_3, colLits.eq_1, colLits.eq_2, colLits.eq_3, colsApp.eq_1, colsApp.eq_2, colsApp.eq_3, Col.app.eq_1, Col.app.eq_2, Col.app.eq_3, Col.app.eq_4, Col.app.eq_5, tailOf.eq_1, tailOf.eq_2, tailOf.eq_3, splice.eq_1, splice.eq_2, colsPut.eq_1, colsPut.eq_2, colsPut.eq_3, colsPut.eq_4, Col.put.eq_1, Col.put.eq_2, Col.put.eq_3, Col.put.eq_4, Col.put.eq_5, mmFold.eq_1, mmFold.eq_2, mmFold.eq_3, eqK.eq_1, eqK.eq_2, eqK.eq_3, eqK.eq_4, eqK.eq_5, colsPaste.eq_1, colsPaste.eq_2, colsPaste.eq_3, Col.paste.eq_1, Col.paste.eq_2, Col.paste.eq_3, Col.paste.eq_4, Col.paste.eq_5, mNew.eq_1, mNew.eq_2, mNew.eq_3, mNew.eq_4, mkKey.eq_1, mkKey.eq_2, mkKey.eq_3, mkKey.eq_4, keyIn.eq_1, keyIn.eq_2, keyIn.eq_3, mGet.eq_1, mGet.eq_2, mGet.eq_3, mGet.eq_4, mPut.eq_1, mPut.eq_2, mPut.eq_3, mPut.eq_4, res.eq_1, stepIdx.eq_1, mix.eq_1, mix.eq_2, mix.eq_3, mix.eq_4, PV.cells.eq_1, PV.cells.eq_2, PV.cells.eq_3, PV.cells.eq_4, argSlots.eq_1, argSlots.eq_2, colPV.eq_1, colPV.eq_2, colPV.eq_3, colPV.eq_4, ROp.eq_1, ROp.eq_2, ROp.eq_3, OX.eq_1, OX.eq_2, OX.eq_3, noOs.eq_1, noOs.eq_2, noOs.eq_3, noOs.eq_4, noOs.eq_5, noOs.eq_6, mkCol.eq_6, Col.app.eq_6, Col.put.eq_6, Col.paste.eq_6, colPV.eq_5, colSls.eq_1, colSls.eq_2, colSls.eq_3, step, stepBin, Nat.reduceBEq, Nat.reduceBeqDiff, Nat.add_assoc nid, Nat.reduceAdd, reduceCtorEq, Nat.reduceLeDiff, Nat.reduceBneDiff, Option.toList, ← Int.ofNat_tmod, ← Int.ofNat_tdiv, Nat.reduceLT]
          rw [RAny.eq_2]
          simp -dsimp only [ROps.eq_1, ROps.eq_2, ROps.eq_3, ROps.eq_4, BS_some, BS_true, BS_none, OB_bool, OG_bool, OG_tup, S2_true, S2_false, OF_fn, getS_hit, getS_miss, getS.eq_1, getH_hit, getH_miss, getH.eq_1, putS.eq_1, putS.eq_2, AX.val.eq_1, AX.val.eq_2, cond_true, cond_false, idS1, idS2, List.nil_append, List.cons_append, true_and, and_true, ne_eq, not_true_eq_false, if_false, if_true, ite_false, ite_true, List.map_cons, List.map_nil, List.drop_zero, List.drop_succ_cons, List.take_succ_cons, List.take_zero, List.length_cons, List.length_nil, Nat.zero_add, decide_true, decide_false, beq_self_eq_true, Bool.and_true, Bool.and_false, Bool.true_and, Bool.false_and, Int.toNat_natCast, lowBlk_box, lowBlk_arr, lowBlk_none, List.append_nil, List.getElem?_cons_zero, List.getElem?_cons_succ, List.all_cons, List.all_nil, List.any_cons, List.any_nil, List.contains_cons, List.contains_nil, Bool.or_false, Bool.false_or, Bool.or_true, Bool.true_or, Bool.not_false, Bool.not_true, bne_self_eq_false, List.singleton_append, Int.add_sub_cancel, List.replicate_succ, List.replicate_zero, List.flatten_cons, List.flatten_nil, List.set_cons_succ, List.set_cons_zero, List.headD_cons, List.tail_cons, Nat.add_lt_add_iff_left, freeOf.eq_1, freeOf.eq_2, indep.eq_1, offO.eq_1, offO.eq_2, neqO.eq_1, neqO.eq_2, disj.eq_1, namesX.eq_1, namesX.eq_2, axSlot.eq_1, axSlot.eq_2, opXs.eq_1, opXs.eq_2, opXs.eq_3, opXs.eq_4, opXs.eq_5, opXs.eq_6, opXs.eq_7, opXs.eq_8, opXs.eq_9, opXs.eq_10, opXs.eq_11, opXs.eq_12, opXs.eq_13, opXs.eq_14, opXs.eq_15, opXs.eq_16, opXs.eq_17, opXs.eq_18, opXs.eq_19, opXs.eq_20, opXs.eq_21, opXs.eq_22, opXs.eq_23, opXs.eq_24, opXs.eq_25, opXs.eq_26, opXs.eq_27, opXs.eq_28, opXs.eq_29, opXs.eq_30, opXs.eq_31, opXs.eq_32, opXs.eq_33, opXs.eq_34, opXs.eq_35, opXs.eq_36, opXs.eq_37, opXs.eq_38, opXs.eq_39, opXs.eq_40, opXs.eq_41, opXs.eq_42, opXs.eq_43, opXs.eq_44, opXs.eq_45, opXs.eq_46, opXs.eq_47, rdXs.eq_1, rdXs.eq_2, rdXs.eq_3, rdXs.eq_4, rdXs.eq_5, rdXs.eq_6, rdXs.eq_7, rdXs.eq_8, rdXs.eq_9, rdXs.eq_10, rdXs.eq_11, rdXs.eq_12, rdXs.eq_13, rdXs.eq_14, rdXs.eq_15, idsOf.eq_1, idsOf.eq_2, idsOf.eq_3, idsOf.eq_4, idsOf.eq_5, idsOf.eq_6, idsOf.eq_7, idsOf.eq_8, idsOf.eq_9, idsOfs.eq_1, idsOfs.eq_2, lowH.eq_1, lowH.eq_2, lowAll.eq_1, keys.eq_1, optInt.eq_1, optInt.eq_2, fillP.eq_1, fillP.eq_2, repl.eq_1, chunk.eq_1, chunk.eq_2, mkCols.eq_1, mkCols.eq_2, mkCols.eq_3, mkCol.eq_1, mkCol.eq_2, mkCol.eq_3, mkCol.eq_4, mkCol.eq_5, colInts.eq_1, colInts.eq_2, colInts.eq_3, colBools.eq_1, colBools.eq_2, colBools.eq_3, colStrs.eq_1, colStrs.eq_2, colStrs.eq_3, colLits.eq_1, colLits.eq_2, colLits.eq_3, colsApp.eq_1, colsApp.eq_2, colsApp.eq_3, Col.app.eq_1, Col.app.eq_2, Col.app.eq_3, Col.app.eq_4, Col.app.eq_5, tailOf.eq_1, tailOf.eq_2, tailOf.eq_3, splice.eq_1, splice.eq_2, colsPut.eq_1, colsPut.eq_2, colsPut.eq_3, colsPut.eq_4, Col.put.eq_1, Col.put.eq_2, Col.put.eq_3, Col.put.eq_4, Col.put.eq_5, mmFold.eq_1, mmFold.eq_2, mmFold.eq_3, eqK.eq_1, eqK.eq_2, eqK.eq_3, eqK.eq_4, eqK.eq_5, colsPaste.eq_1, colsPaste.eq_2, colsPaste.eq_3, Col.paste.eq_1, Col.paste.eq_2, Col.paste.eq_3, Col.paste.eq_4, Col.paste.eq_5, mNew.eq_1, mNew.eq_2, mNew.eq_3, mNew.eq_4, mkKey.eq_1, mkKey.eq_2, mkKey.eq_3, mkKey.eq_4, keyIn.eq_1, keyIn.eq_2, keyIn.eq_3, mGet.eq_1, mGet.eq_2, mGet.eq_3, mGet.eq_4, mPut.eq_1, mPut.eq_2, mPut.eq_3, mPut.eq_4, res.eq_1, stepIdx.eq_1, mix.eq_1, mix.eq_2, mix.eq_3, mix.eq_4, PV.cells.eq_1, PV.cells.eq_2, PV.cells.eq_3, PV.cells.eq_4, argSlots.eq_1, argSlots.eq_2, colPV.eq_1, colPV.eq_2, colPV.eq_3, colPV.eq_4, ROp.eq_1, ROp.eq_2, ROp.eq_3, OX.eq_1, OX.eq_2, OX.eq_3, noOs.eq_1, noOs.eq_2, noOs.eq_3, noOs.eq_4, noOs.eq_5, noOs.eq_6, mkCol.eq_6, Col.app.eq_6, Col.put.eq_6, Col.paste.eq_6, colPV.eq_5, colSls.eq_1, colSls.eq_2, colSls.eq_3, step, stepBin, Nat.reduceBEq, Nat.reduceBeqDiff, Nat.add_assoc nid, Nat.reduceAdd, reduceCtorEq, Nat.reduceLeDiff, Nat.reduceBneDiff, Option.toList, ← Int.ofNat_tmod, ← Int.ofNat_tdiv, Nat.reduceLT]
          rw [RAny.eq_2]
          simp -dsimp only [ROps.eq_1, ROps.eq_2, ROps.eq_3, ROps.eq_4, BS_some, BS_true, BS_none, OB_bool, OG_bool, OG_tup, S2_true, S2_false, OF_fn, getS_hit, getS_miss, getS.eq_1, getH_hit, getH_miss, getH.eq_1, putS.eq_1, putS.eq_2, AX.val.eq_1, AX.val.eq_2, cond_true, cond_false, idS1, idS2, List.nil_append, List.cons_append, true_and, and_true, ne_eq, not_true_eq_false, if_false, if_true, ite_false, ite_true, List.map_cons, List.map_nil, List.drop_zero, List.drop_succ_cons, List.take_succ_cons, List.take_zero, List.length_cons, List.length_nil, Nat.zero_add, decide_true, decide_false, beq_self_eq_true, Bool.and_true, Bool.and_false, Bool.true_and, Bool.false_and, Int.toNat_natCast, lowBlk_box, lowBlk_arr, lowBlk_none, List.append_nil, List.getElem?_cons_zero, List.getElem?_cons_succ, List.all_cons, List.all_nil, List.any_cons, List.any_nil, List.contains_cons, List.contains_nil, Bool.or_false, Bool.false_or, Bool.or_true, Bool.true_or, Bool.not_false, Bool.not_true, bne_self_eq_false, List.singleton_append, Int.add_sub_cancel, List.replicate_succ, List.replicate_zero, List.flatten_cons, List.flatten_nil, List.set_cons_succ, List.set_cons_zero, List.headD_cons, List.tail_cons, Nat.add_lt_add_iff_left, freeOf.eq_1, freeOf.eq_2, indep.eq_1, offO.eq_1, offO.eq_2, neqO.eq_1, neqO.eq_2, disj.eq_1, namesX.eq_1, namesX.eq_2, axSlot.eq_1, axSlot.eq_2, opXs.eq_1, opXs.eq_2, opXs.eq_3, opXs.eq_4, opXs.eq_5, opXs.eq_6, opXs.eq_7, opXs.eq_8, opXs.eq_9, opXs.eq_10, opXs.eq_11, opXs.eq_12, opXs.eq_13, opXs.eq_14, opXs.eq_15, opXs.eq_16, opXs.eq_17, opXs.eq_18, opXs.eq_19, opXs.eq_20, opXs.eq_21, opXs.eq_22, opXs.eq_23, opXs.eq_24, opXs.eq_25, opXs.eq_26, opXs.eq_27, opXs.eq_28, opXs.eq_29, opXs.eq_30, opXs.eq_31, opXs.eq_32, opXs.eq_33, opXs.eq_34, opXs.eq_35, opXs.eq_36, opXs.eq_37, opXs.eq_38, opXs.eq_39, opXs.eq_40, opXs.eq_41, opXs.eq_42, opXs.eq_43, opXs.eq_44, opXs.eq_45, opXs.eq_46, opXs.eq_47, rdXs.eq_1, rdXs.eq_2, rdXs.eq_3, rdXs.eq_4, rdXs.eq_5, rdXs.eq_6, rdXs.eq_7, rdXs.eq_8, rdXs.eq_9, rdXs.eq_10, rdXs.eq_11, rdXs.eq_12, rdXs.eq_13, rdXs.eq_14, rdXs.eq_15, idsOf.eq_1, idsOf.eq_2, idsOf.eq_3, idsOf.eq_4, idsOf.eq_5, idsOf.eq_6, idsOf.eq_7, idsOf.eq_8, idsOf.eq_9, idsOfs.eq_1, idsOfs.eq_2, lowH.eq_1, lowH.eq_2, lowAll.eq_1, keys.eq_1, optInt.eq_1, optInt.eq_2, fillP.eq_1, fillP.eq_2, repl.eq_1, chunk.eq_1, chunk.eq_2, mkCols.eq_1, mkCols.eq_2, mkCols.eq_3, mkCol.eq_1, mkCol.eq_2, mkCol.eq_3, mkCol.eq_4, mkCol.eq_5, colInts.eq_1, colInts.eq_2, colInts.eq_3, colBools.eq_1, colBools.eq_2, colBools.eq_3, colStrs.eq_1, colStrs.eq_2, colStrs.eq_3, colLits.eq_1, colLits.eq_2, colLits.eq_3, colsApp.eq_1, colsApp.eq_2, colsApp.eq_3, Col.app.eq_1, Col.app.eq_2, Col.app.eq_3, Col.app.eq_4, Col.app.eq_5, tailOf.eq_1, tailOf.eq_2, tailOf.eq_3, splice.eq_1, splice.eq_2, colsPut.eq_1, colsPut.eq_2, colsPut.eq_3, colsPut.eq_4, Col.put.eq_1, Col.put.eq_2, Col.put.eq_3, Col.put.eq_4, Col.put.eq_5, mmFold.eq_1, mmFold.eq_2, mmFold.eq_3, eqK.eq_1, eqK.eq_2, eqK.eq_3, eqK.eq_4, eqK.eq_5, colsPaste.eq_1, colsPaste.eq_2, colsPaste.eq_3, Col.paste.eq_1, Col.paste.eq_2, Col.paste.eq_3, Col.paste.eq_4, Col.paste.eq_5, mNew.eq_1, mNew.eq_2, mNew.eq_3, mNew.eq_4, mkKey.eq_1, mkKey.eq_2, mkKey.eq_3, mkKey.eq_4, keyIn.eq_1, keyIn.eq_2, keyIn.eq_3, mGet.eq_1, mGet.eq_2, mGet.eq_3, mGet.eq_4, mPut.eq_1, mPut.eq_2, mPut.eq_3, mPut.eq_4, res.eq_1, stepIdx.eq_1, mix.eq_1, mix.eq_2, mix.eq_3, mix.eq_4, PV.cells.eq_1, PV.cells.eq_2, PV.cells.eq_3, PV.cells.eq_4, argSlots.eq_1, argSlots.eq_2, colPV.eq_1, colPV.eq_2, colPV.eq_3, colPV.eq_4, ROp.eq_1, ROp.eq_2, ROp.eq_3, OX.eq_1, OX.eq_2, OX.eq_3, noOs.eq_1, noOs.eq_2, noOs.eq_3, noOs.eq_4, noOs.eq_5, noOs.eq_6, mkCol.eq_6, Col.app.eq_6, Col.put.eq_6, Col.paste.eq_6, colPV.eq_5, colSls.eq_1, colSls.eq_2, colSls.eq_3, step, stepBin, Nat.reduceBEq, Nat.reduceBeqDiff, Nat.add_assoc nid, Nat.reduceAdd, reduceCtorEq, Nat.reduceLeDiff, Nat.reduceBneDiff, Option.toList, ← Int.ofNat_tmod, ← Int.ofNat_tdiv, Nat.reduceLT]
          rw [hu]
          simp -dsimp only [aqT, aqU, aqN, aqS, ↓seqK, ↓blkK, ↓loopK, step, stepBin, Nat.add_assoc nid, ↓reduceIte, Option.toList, ← Int.ofNat_tmod, ← Int.ofNat_tdiv, simprocAttr, BEq.rfl, LN_succ]
          refine ⟨by unfold inI64; omega, (j + 1, d), ⟨⟨by simp only; omega, fun i hi => ?_⟩, by simp only; omega⟩, Cov.go [] [] ?_⟩
          · simp only at hi
            rcases (by omega : i < j ∨ i = j) with h6 | h6
            · exact hno i h6
            · subst h6
              rw [hnx]
              rfl
          simp [cvT, step, res, hil, ColsEq.refl, -List.getD_eq_getElem?_getD]
      · obtain rfl : j = v.length := by omega
        obtain ⟨i, hi, hp⟩ := hat.more (dV_bd hv) (by omega)
        rw [hno i hi] at hp
        cases hp
    · obtain rfl : f = 0 := by omega
      obtain rfl : out = orderO v := hgo
      refine ⟨d, Cov.go [] [] ?_⟩
      simp [cvT, step, res, hil, hol, ColsEq.refl, -List.getD_eq_getElem?_getD]
  · have hol : (intsO (orderO v)).length = v.length := by unfold intsO; rw [List.length_map]; exact (order_facts hv h0).1
    unfold hsO boxNn boxRm boxVs boxCf mapO capO litS arrI
    refine SR.run (t := .mk) ?_
    simp -dsimp only [aqT, aqU, aqN, aqS, ↓seqK, ↓blkK, ↓loopK, step, stepBin, Nat.add_assoc nid, ↓reduceIte, Option.toList, ← Int.ofNat_tmod, ← Int.ofNat_tdiv, simprocAttr, BEq.rfl, LN_succ]
    refine ⟨by omega, ?_⟩
    rw [shl64 F (by omega)]
    refine CallX.on (first_c nid nl v w hv hw hn F d _ (by omega) hfl) (subH_cons (by simp only [aqT, aqU, aqN, aqS, ↓seqK, ↓blkK, ↓loopK, step, stepBin, Nat.add_assoc nid, ↓reduceIte, Option.toList, ← Int.ofNat_tmod, ← Int.ofNat_tdiv, simprocAttr, BEq.rfl, LN_succ, boxNn]) (subH_cons (by simp only [aqT, aqU, aqN, aqS, ↓seqK, ↓blkK, ↓loopK, step, stepBin, Nat.add_assoc nid, ↓reduceIte, Option.toList, ← Int.ofNat_tmod, ← Int.ofNat_tdiv, simprocAttr, BEq.rfl, LN_succ, boxRm]) (subH_cons (by simp only [aqT, aqU, aqN, aqS, ↓seqK, ↓blkK, ↓loopK, step, stepBin, Nat.add_assoc nid, ↓reduceIte, Option.toList, ← Int.ofNat_tmod, ← Int.ofNat_tdiv, simprocAttr, BEq.rfl, LN_succ, boxVs, litS]) (subH_cons (by simp only [aqT, aqU, aqN, aqS, ↓seqK, ↓blkK, ↓loopK, step, stepBin, Nat.add_assoc nid, ↓reduceIte, Option.toList, ← Int.ofNat_tmod, ← Int.ofNat_tdiv, simprocAttr, BEq.rfl, LN_succ, boxCf, capO]) (subH_get (by simp only [aqT, aqU, aqN, aqS, ↓seqK, ↓blkK, ↓loopK, step, stepBin, Nat.add_assoc nid, ↓reduceIte, Option.toList, ← Int.ofNat_tmod, ← Int.ofNat_tdiv, simprocAttr, BEq.rfl, LN_succ, mapO])))))) ?_
    rw [hsum]
    refine ⟨by simp [lowH, lowBlk, lowAll, idsOf, idsOfs, keys, hsO, boxNn, boxRm, boxVs, boxCf, litS, capO, mapO, aqT, aqU, aqN, aqS, ↓seqK, ↓blkK, ↓loopK, step, stepBin, Nat.add_assoc nid, ↓reduceIte, Option.toList, ← Int.ofNat_tmod, ← Int.ofNat_tdiv, simprocAttr, BEq.rfl, LN_succ], by simp [hsO, mapO, freeOf, disj, keys, aqT, aqU, aqN, aqS, ↓seqK, ↓blkK, ↓loopK, step, stepBin, Nat.add_assoc nid, ↓reduceIte, Option.toList, ← Int.ofNat_tmod, ← Int.ofNat_tdiv, simprocAttr, BEq.rfl, LN_succ], ?_⟩
    unfold mapO
    simp -dsimp only [aqT, aqU, aqN, aqS, ↓seqK, ↓blkK, ↓loopK, step, stepBin, Nat.add_assoc nid, ↓reduceIte, Option.toList, ← Int.ofNat_tmod, ← Int.ofNat_tdiv, simprocAttr, BEq.rfl, LN_succ]
    refine RetOK.go [(nid, nid + 24)] [] (.inl rfl) ?_
    simp [a49, cvT, step, res, arrI, hol, ColsEq.refl, -List.getD_eq_getElem?_getD]
end Go.Proofs.YthcldfmlfjomfaaDoor
namespace Go.Proofs.YthcldfmlfjomfaaDoor
open Go.RowKit Go.Lib
theorem getD_appS1 (l : List (List UInt8)) (x : List UInt8) : (fun i => if i < l.length then l.getD i [] else [x].getD (i - l.length) []) = fun i => (l ++ [x]).getD i [] := by
  funext i
  rw [List.getD_eq_getElem?_getD, List.getD_eq_getElem?_getD, List.getD_eq_getElem?_getD, List.getElem?_append]
  split <;> rfl
theorem inOrd_len (v : List (List UInt8)) (o : List Nat) : (inOrd v o).length = o.length := by simp [inOrd]
theorem inOrd_snoc (v : List (List UInt8)) {o : List Nat} {k : Nat} (h : k < o.length) : inOrd v (o.take (k + 1)) = inOrd v (o.take k) ++ [v.getD (o.getD k 0) []] := by
  unfold inOrd
  rw [List.take_add_one, List.map_append, List.getElem?_eq_getElem h]
  simp [h]
end Go.Proofs.YthcldfmlfjomfaaDoor
namespace Go.Proofs.YthcldfmlfjomfaaDoor
open Go.RowKit Go.Lib
set_option maxHeartbeats 4000000 in
theorem someR_c (nl nl2 : Bool) (v : List (List UInt8)) (o : List Nat) (nid : Nat) (hv : v.length ≤ 1000) (ho : ∀ x ∈ o, x < v.length) (hol : o.length ≤ 1000) : ACall Tryd.prog 110 [litS nl v, litI nl2 (intsO o)] [] nid (.sl nid 0 o.length) [(nid, arrS (inOrd v o))] := by
  have hil : (intsO o).length = o.length := by unfold intsO; rw [List.length_map]
  have hig : ∀ k, k < o.length → (intsO o).getD k 0 = ((o.getD k 0 : Nat) : Int) := fun k hk => by
    unfold intsO
    rw [List.getD_eq_getElem?_getD, List.getElem?_map, List.getElem?_eq_getElem hk]
    simp [hk]
  refine acall_run c110 (by simp [a110]) ?_
  unfold litS litI
  rw [hil]
  simp -dsimp only [aqT, aqU, aqN, aqS, ↓seqK, ↓blkK, ↓loopK, step, stepBin, Nat.add_assoc nid, ↓reduceIte, Option.toList, ← Int.ofNat_tmod, ← Int.ofNat_tdiv, simprocAttr, BEq.rfl, LN_succ, a110]
  refine LP.mkP (fun k : Nat => k ≤ o.length) (fun k : Nat => ⟨[(10, .int .i64 k), (9, .int .i64 o.length), (8, .lit nl2 o.length [.i .i64 fun i => (intsO o).getD i 0]), (5, .sl (nid + 8) 0 k), (0, litS nl v)], [(nid + 8, arrS (inOrd v (o.take k)))], nid + 100, nid⟩) (fun k => o.length + 1 - k) 0 (by omega) (Cov.go [] [(nid + 8, 1)] ?_) (fun k hk => ?_)
  · unfold litS arrS
    simp [cvT, step, res, inOrd, ColsEq.refl, -List.getD_eq_getElem?_getD]
  have htl : (inOrd v (o.take k)).length = k := by rw [inOrd_len, List.length_take]; omega
  unfold litS arrS
  simp -dsimp only [aqT, aqU, aqN, aqS, ↓seqK, ↓blkK, ↓loopK, step, stepBin, Nat.add_assoc nid, ↓reduceIte, Option.toList, ← Int.ofNat_tmod, ← Int.ofNat_tdiv, simprocAttr, BEq.rfl, LN_succ, htl]
  refine S2.dec (fun h3 => ?_) (fun h3 => ?_) <;> simp -dsimp only [aqT, aqU, aqN, aqS, ↓seqK, ↓blkK, ↓loopK, step, stepBin, Nat.add_assoc nid, ↓reduceIte, Option.toList, ← Int.ofNat_tmod, ← Int.ofNat_tdiv, simprocAttr, BEq.rfl, LN_succ]
  · have hkl : k < o.length := by omega
    rw [hig k hkl]
    have hx := ho (o.getD k 0) (by rw [List.getD_eq_getElem?_getD, List.getElem?_eq_getElem hkl]; exact List.getElem_mem _)
    have hsn := inOrd_snoc v hkl
    generalize o.getD k 0 = x at *
    refine ⟨⟨by omega, by omega⟩, ⟨by omega, by omega⟩, ?_⟩
    try rw [Int.toNat_natCast]
    have happ : (fun i => if i < k then (inOrd v (o.take k)).getD i [] else [v.getD x []].getD (i - k) []) = fun i => (inOrd v (o.take (k + 1))).getD i [] := by
      rw [hsn]
      have := getD_appS1 (inOrd v (o.take k)) (v.getD x [])
      rw [htl] at this
      exact this
    rw [happ]
    have htl2 : (inOrd v (o.take (k + 1))).length = k + 1 := by rw [inOrd_len, List.length_take]; omega
    refine ⟨by omega, by unfold inI64; omega, k + 1, ⟨by omega, by omega⟩, Cov.go [(nid + 8, nid + 140)] [] ?_⟩
    simp [cvT, step, res, htl2, arrS, ColsEq.refl, -List.getD_eq_getElem?_getD]
  · obtain rfl : k = o.length := by omega
    rw [List.take_length] at htl ⊢
    refine RetOK.go [(nid, nid + 8)] [] (.inl rfl) ?_
    simp [a110, cvT, step, res, arrS, htl, ColsEq.refl, -List.getD_eq_getElem?_getD]
end Go.Proofs.YthcldfmlfjomfaaDoor
namespace Go.Proofs.YthcldfmlfjomfaaDoor
open Go.RowKit Go.Lib
set_option maxHeartbeats 4000000 in
theorem stuckR_c (hc : ∀ (s : List UInt8) (c : UInt8) (nid : Nat), ACall Tryd.prog 154 [.str s, .str [c]] [] nid (.bool (decide (0 ≤ Lib.indexByte s c))) []) (nl : Bool) (v : List (List UInt8)) (n : Nat) (nid : Nat) (hv : v.length ≤ 1000000) (hn : n ≤ 1000000) (hw : ∀ s ∈ v, n ≤ s.length) : ACall Tryd.prog 112 [.int .i64 (n : Nat), litS nl v] [] nid (.sl nid 0 (stuckTo (turnL v n) n).length) [(nid, arrI (intsO (stuckTo (turnL v n) n)))] := by
  have hql : (turnL v n).length = n := turnL_len v n
  refine acall_run c112 (by simp [a112]) ?_
  simp -dsimp only [aqT, aqU, aqN, aqS, ↓seqK, ↓blkK, ↓loopK, step, stepBin, Nat.add_assoc nid, ↓reduceIte, Option.toList, ← Int.ofNat_tmod, ← Int.ofNat_tdiv, simprocAttr, BEq.rfl, LN_succ, a112]
  refine CallO.pure (sequencesOf_c nl v n _ hv hn hw) ?_
  unfold arrS
  rw [hql]
  simp -dsimp only [aqT, aqU, aqN, aqS, ↓seqK, ↓blkK, ↓loopK, step, stepBin, Nat.add_assoc nid, ↓reduceIte, Option.toList, ← Int.ofNat_tmod, ← Int.ofNat_tdiv, simprocAttr, BEq.rfl, LN_succ]
  generalize turnL v n = S at *
  refine LP.mkP (fun k : Nat => k ≤ n) (fun k : Nat => ⟨[(12, .int .i64 k), (11, .int .i64 n), (10, .sl (nid + 4) 0 n), (5, .sl (nid + 8) 0 (stuckTo S k).length)], [(nid + 8, arrI (intsO (stuckTo S k))), (nid + 4, some (.arr 9 n [.s fun i => S.getD i []]))], nid + 100, nid⟩) (fun k => n + 1 - k) 0 (by omega) (Cov.go [(nid + 4, nid + 16)] [(nid + 8, 1)] ?_) (fun k hk => ?_)
  · have e0 : stuckTo S 0 = [] := rfl
    rw [e0]
    unfold arrI intsO
    simp [cvT, step, res, ColsEq.refl, -List.getD_eq_getElem?_getD]
  have hst := stuckTo_succ S k
  have hsl := stuckTo_len S k
  have hil : (intsO (stuckTo S k)).length = (stuckTo S k).length := by unfold intsO; rw [List.length_map]
  unfold arrI
  rw [hil]
  simp -dsimp only [aqT, aqU, aqN, aqS, ↓seqK, ↓blkK, ↓loopK, step, stepBin, Nat.add_assoc nid, ↓reduceIte, Option.toList, ← Int.ofNat_tmod, ← Int.ofNat_tdiv, simprocAttr, BEq.rfl, LN_succ]
  refine S2.dec (fun h3 => ?_) (fun h3 => ?_) <;> simp -dsimp only [aqT, aqU, aqN, aqS, ↓seqK, ↓blkK, ↓loopK, step, stepBin, Nat.add_assoc nid, ↓reduceIte, Option.toList, ← Int.ofNat_tmod, ← Int.ofNat_tdiv, simprocAttr, BEq.rfl, LN_succ]
  · refine ⟨⟨by omega, by omega⟩, ?_⟩
    refine CallO.pure (hc _ 48 _) ?_
    simp -dsimp only [aqT, aqU, aqN, aqS, ↓seqK, ↓blkK, ↓loopK, step, stepBin, Nat.add_assoc nid, ↓reduceIte, Option.toList, ← Int.ofNat_tmod, ← Int.ofNat_tdiv, simprocAttr, BEq.rfl, LN_succ]
    have hil2 : ∀ x : Nat, (intsO (stuckTo S k ++ [x])).length = (stuckTo S k).length + 1 := fun x => by unfold intsO; simp
    have happ := getD_appI (intsO (stuckTo S k)) (k : Int)
    rw [hil, show intsO (stuckTo S k) ++ [((k : Nat) : Int)] = intsO (stuckTo S k ++ [k]) from by simp [intsO]] at happ
    unfold stuckOne at hst
    cases h48 : decide (0 ≤ Lib.indexByte (S.getD k []) 48) <;> rw [h48] at hst <;> simp -dsimp only [aqT, aqU, aqN, aqS, ↓seqK, ↓blkK, ↓loopK, step, stepBin, Nat.add_assoc nid, ↓reduceIte, Option.toList, ← Int.ofNat_tmod, ← Int.ofNat_tdiv, simprocAttr, BEq.rfl, LN_succ, Bool.not_true, Bool.not_false]
    · rw [if_pos (by simp)] at hst
      rw [happ]
      refine ⟨by omega, by unfold inI64; omega, k + 1, ⟨by omega, by omega⟩, Cov.go [(nid + 8, nid + 168)] [] ?_⟩
      simp [cvT, step, res, hst, arrI, hil2, ColsEq.refl, -List.getD_eq_getElem?_getD]
    · refine CallO.pure (hc _ 49 _) ?_
      simp -dsimp only [aqT, aqU, aqN, aqS, ↓seqK, ↓blkK, ↓loopK, step, stepBin, Nat.add_assoc nid, ↓reduceIte, Option.toList, ← Int.ofNat_tmod, ← Int.ofNat_tdiv, simprocAttr, BEq.rfl, LN_succ]
      cases h49 : decide (0 ≤ Lib.indexByte (S.getD k []) 49) <;> rw [h49] at hst <;> simp -dsimp only [aqT, aqU, aqN, aqS, ↓seqK, ↓blkK, ↓loopK, step, stepBin, Nat.add_assoc nid, ↓reduceIte, Option.toList, ← Int.ofNat_tmod, ← Int.ofNat_tdiv, simprocAttr, BEq.rfl, LN_succ, Bool.not_true, Bool.not_false]
      · rw [if_pos (by simp)] at hst
        rw [happ]
        refine ⟨by omega, by unfold inI64; omega, k + 1, ⟨by omega, by omega⟩, Cov.go [(nid + 8, nid + 168)] [] ?_⟩
        simp [cvT, step, res, hst, arrI, hil2, ColsEq.refl, -List.getD_eq_getElem?_getD]
      · rw [if_neg (by simp)] at hst
        refine ⟨by unfold inI64; omega, k + 1, ⟨by omega, by omega⟩, Cov.go [] [] ?_⟩
        simp [cvT, step, res, hst, arrI, hil, ColsEq.refl, -List.getD_eq_getElem?_getD]
  · obtain rfl : k = n := by omega
    refine RetOK.go [(nid, nid + 8)] [] (.inl rfl) ?_
    simp [a112, cvT, step, res, arrI, hil, ColsEq.refl, -List.getD_eq_getElem?_getD]
end Go.Proofs.YthcldfmlfjomfaaDoor
namespace Go.Proofs.YthcldfmlfjomfaaDoor
open Go.RowKit Go.Lib
theorem intsQ_at (l : List Nat) : (fun j => (intsO l).getD j 0) = fun j => ((l.getD j 0 : Nat) : Int) := by
  funext j
  unfold intsO
  rw [List.getD_eq_getElem?_getD, List.getD_eq_getElem?_getD, List.getElem?_map]
  cases l[j]? <;> rfl
theorem intsQ_len (l : List Nat) : (intsO l).length = l.length := by unfold intsO; rw [List.length_map]
theorem intsQ_eq (l m : List Nat) : (intsO l == intsO m) = (l == m) := by
  rw [Bool.eq_iff_iff, beq_iff_eq, beq_iff_eq]
  unfold intsO
  exact List.map_inj_right (fun x y h => by injection h)
theorem litQ_int (nl : Bool) (l : List Nat) : litI nl (intsO l) = litQ nl l := by
  unfold litI litQ
  rw [intsQ_len, intsQ_at]
theorem equalQ_c (nl nl' : Bool) (l m : List Nat) (nid : Nat) (hl : l.length ≤ 1000000) (hm : m.length ≤ 1000000) : ACall Tryd.prog 47 [litQ nl l, litQ nl' m] [] nid (.bool (l == m)) [] := by
  have h := equalI_c nl nl' (intsO l) (intsO m) nid (by rw [intsQ_len]; omega) (by rw [intsQ_len]; omega)
  rw [litQ_int, litQ_int, intsQ_eq] at h
  exact h
theorem take_eqQ {l m : List (List Nat)} {k : Nat} (hl : k < l.length) (hm : k < m.length) (h : l.take k = m.take k) (hx : l.getD k [] = m.getD k []) : l.take (k + 1) = m.take (k + 1) := by
  rw [take_snoc (x := l.getD k []) (by rw [List.getD_eq_getElem?_getD, List.getElem?_eq_getElem hl]; rfl), take_snoc (x := m.getD k []) (by rw [List.getD_eq_getElem?_getD, List.getElem?_eq_getElem hm]; rfl), h, hx]
set_option maxHeartbeats 4000000 in
theorem equalEq_c (nl nl' : Bool) (l m : List (List Nat)) (nid : Nat) (hl : l.length ≤ 1000000) (hm : m.length ≤ 1000000) (hls : ∀ k, (l.getD k []).length ≤ 1000000) (hms : ∀ k, (m.getD k []).length ≤ 1000000) : ACall Tryd.prog 54 [litEq nl l, litEq nl' m, .fn 47 []] [] nid (.bool (l == m)) [] := by
  refine acall_run c54 (by simp [a54]) ?_
  unfold litEq colQ
  simp -dsimp only [aqT, aqU, aqN, aqS, ↓seqK, ↓blkK, ↓loopK, step, stepBin, Nat.add_assoc nid, ↓reduceIte, Option.toList, ← Int.ofNat_tmod, ← Int.ofNat_tdiv, simprocAttr, BEq.rfl, LN_succ, a54]
  refine S2.intro (fun h => ?_) (fun h => ?_) <;> simp -dsimp only [aqT, aqU, aqN, aqS, ↓seqK, ↓blkK, ↓loopK, step, stepBin, Nat.add_assoc nid, ↓reduceIte, Option.toList, ← Int.ofNat_tmod, ← Int.ofNat_tdiv, simprocAttr, BEq.rfl, LN_succ]
  · refine RetOK.pure (.inl rfl) rfl ?_
    have h1 : l ≠ m := fun e => by subst e; simp at h
    have h2 : (l == m) = false := by simpa using h1
    simp [cvT, step, res, h1]
  have hlm : l.length = m.length := by have : (l.length : Int) = m.length := by simpa using h
                                       omega
  refine LP.mkP (fun k : Nat => k ≤ l.length ∧ l.take k = m.take k) (fun k : Nat => ⟨[(17, .int .i64 k), (16, .int .i64 l.length), (15, litEq nl l), (0, litEq nl l), (1, litEq nl' m), (2, .fn 47 [])], [], nid + 100, nid⟩) (fun k => l.length + 1 - k) 0 ⟨by omega, rfl⟩ (Cov.go [] [] ?_) (fun k hk => ?_)
  · simp [cvT, step, res, litEq, colQ, ColsEq.refl, -List.getD_eq_getElem?_getD]
  unfold litEq colQ
  obtain ⟨hk, ht⟩ := hk
  simp -dsimp only [aqT, aqU, aqN, aqS, ↓seqK, ↓blkK, ↓loopK, step, stepBin, Nat.add_assoc nid, ↓reduceIte, Option.toList, ← Int.ofNat_tmod, ← Int.ofNat_tdiv, simprocAttr, BEq.rfl, LN_succ]
  refine S2.dec (fun h3 => ?_) (fun h3 => ?_) <;> simp -dsimp only [aqT, aqU, aqN, aqS, ↓seqK, ↓blkK, ↓loopK, step, stepBin, Nat.add_assoc nid, ↓reduceIte, Option.toList, ← Int.ofNat_tmod, ← Int.ofNat_tdiv, simprocAttr, BEq.rfl, LN_succ]
  · have hkl : k < l.length := by omega
    have hstep := fun hx => take_eqQ (l := l) (m := m) hkl (by omega) ht hx
    have hne : l.getD k [] ≠ m.getD k [] → l ≠ m := fun hd e => hd (by rw [e])
    have hc := fun nid => equalQ_c (noB k) (noB k) (l.getD k []) (m.getD k []) nid (hls k) (hms k)
    unfold litQ at hc
    refine ⟨⟨by omega, by omega⟩, ⟨by omega, by omega⟩, CallO.pure (hc _) ?_⟩
    generalize l.getD k [] = a at *
    generalize m.getD k [] = b at *
    simp -dsimp only [aqT, aqU, aqN, aqS, ↓seqK, ↓blkK, ↓loopK, step, stepBin, Nat.add_assoc nid, ↓reduceIte, Option.toList, ← Int.ofNat_tmod, ← Int.ofNat_tdiv, simprocAttr, BEq.rfl, LN_succ]
    cases hab : (a == b) <;> simp -dsimp only [aqT, aqU, aqN, aqS, ↓seqK, ↓blkK, ↓loopK, step, stepBin, Nat.add_assoc nid, ↓reduceIte, Option.toList, ← Int.ofNat_tmod, ← Int.ofNat_tdiv, simprocAttr, BEq.rfl, LN_succ, Bool.not_true, Bool.not_false]
    · have h1 : l ≠ m := hne (by simpa using hab)
      refine RetOK.pure (.inl rfl) rfl ?_
      simp [cvT, step, res, h1]
    · have h5 : a = b := by simpa using hab
      refine ⟨by unfold inI64; omega, k + 1, ⟨⟨by omega, hstep h5⟩, by omega⟩, Cov.go [] [] ?_⟩
      simp [cvT, step, res, litEq, colQ, ColsEq.refl, -List.getD_eq_getElem?_getD]
  · have hke : k = l.length := by omega
    subst hke
    have h1 : l = m := by
      rw [List.take_of_length_le (Nat.le_refl _), List.take_of_length_le (by omega)] at ht
      exact ht
    refine RetOK.pure (.inl rfl) rfl ?_
    simp [cvT, step, res, h1]
end Go.Proofs.YthcldfmlfjomfaaDoor
namespace Go.Proofs.YthcldfmlfjomfaaDoor
open Go.RowKit Go.Shelf Go.Lib
theorem contains_cc (s : List UInt8) (c : UInt8) (nid : Nat) : ACall Tryd.prog 154 [.str s, .str [c]] [] nid (.bool (decide (0 ≤ Lib.indexByte s c))) [] :=
  acall_below (us := [.string ⟨s.toArray⟩, .string ⟨[c].toArray⟩]) nid Tryd.func154 (by kernel_rfl) (by kernel_rfl) rfl rfl (fun w => by
    have h := Any.strings_Contains_one Tryd.lays144 ⟨s.toArray⟩ c w
    have hf : Tryd.lays144_ren.f 144 = 154 := by kernel_rfl
    rw [hf] at h
    exact h.mono fun e w' ⟨he, hw⟩ => ⟨by simpa using he, hw ▸ Below.refl _ _⟩)
end Go.Proofs.YthcldfmlfjomfaaDoor
namespace Go.Proofs.YthcldfmlfjomfaaDoor
open Go.RowKit Go.Lib
def boxVw (nv : Bool) (v : List (List UInt8)) : Option ABlk := some (.box 26 [litS nv v])
def boxNw (n : Nat) : Option ABlk := some (.box 3 [.int .i64 (n : Nat)])
def testV (n : Nat) (v : List (List UInt8)) (B : Nat) : Bool := (eqTo (turnL (inOrd v (fewG B v.length)) n) n n == eqTo (turnL v n) n n) && (stuckTo (turnL (inOrd v (fewG B v.length)) n) n == stuckTo (turnL v n) n)
theorem eqRows (S : List (List UInt8)) (n x k : Nat) : ((eqTo S n x).getD k []).length ≤ n + 1 := by
  by_cases h : k < (eqTo S n x).length
  · rw [List.getD_eq_getElem?_getD, List.getElem?_eq_getElem h]
    have hm : (eqTo S n x)[k] ∈ eqTo S n x := List.getElem_mem h
    generalize (eqTo S n x)[k] = y at *
    unfold eqTo at hm
    obtain ⟨i, _, rfl⟩ := List.mem_map.1 hm
    unfold eqOne
    have := List.length_filter_le (fun k => S.getD k [] == S.getD i []) (List.range' (i + 1) (n - i - 1))
    rw [List.length_range'] at this
    simp only [Option.getD_some, List.length_cons]
    omega
  · rw [List.getD_eq_getElem?_getD, List.getElem?_eq_none (by omega)]
    simp
set_option maxHeartbeats 8000000 in
theorem fewF_c (iv iu : Nat) (nv : Bool) (v : List (List UInt8)) (n : Nat) (nl : Bool) (B nid : Nat) (hiv : iv < nid) (hiu : iu < nid) (hne : iv ≠ iu) (hv : v.length ≤ 1000) (hn : n ≤ 1000) (hw : ∀ s ∈ v, s.length = n) :
    ACall Tryd.prog 109 [litQ nl (fewG B v.length), .ptr iv 0, .ptr iu 0] [(iv, boxVw nv v), (iu, boxNw n)] nid (.bool (testV n v B)) [] := by
  have hfl := fewG_len B v.length
  have hfm : ∀ x ∈ fewG B v.length, x < v.length := fun x hx => by unfold fewG at hx; exact List.mem_range.1 (List.mem_filter.1 hx).1
  have hx : ∀ s ∈ inOrd v (fewG B v.length), s.length = n := fun s hs => by
    unfold inOrd at hs
    obtain ⟨i, hi, rfl⟩ := List.mem_map.1 hs
    have := hfm i hi
    rw [List.getD_eq_getElem?_getD, List.getElem?_eq_getElem this]
    exact hw _ (List.getElem_mem _)
  have hxl : (inOrd v (fewG B v.length)).length = (fewG B v.length).length := inOrd_len _ _
  obtain ⟨e1, e2, e3, e4, e5, e6, e7, e8, e9⟩ := id_all hiv
  obtain ⟨b1, b2, b3, b4, b5, b6, b7, b8, b9⟩ := id_all hiu
  have g1 : ¬ iu = iv := fun h => hne h.symm
  have d1 : (iv == iu) = false := by simpa using hne
  have d2 : (iu == iv) = false := by simpa using fun h => hne h.symm
  have hsome := fun m => someR_c nv nl v (fewG B v.length) m (by omega) hfm (by omega)
  rw [litQ_int] at hsome
  unfold testV
  generalize fewG B v.length = L at *
  generalize inOrd v L = X at *
  refine acall_sr c109 (by simp [a109]) ?_
  unfold a109 boxVw boxNw
  refine SR.seq ?_
  simp -dsimp only [aqT, aqU, aqN, aqS, ↓seqK, ↓blkK, ↓loopK, step, stepBin, Nat.add_assoc nid, ↓reduceIte, Option.toList, ← Int.ofNat_tmod, ← Int.ofNat_tdiv, simprocAttr, BEq.rfl, LN_succ]
  refine SR.seqTo ⟨[(5, .sl (nid + 20) 0 L.length), (1, .ptr iv 0), (2, .ptr iu 0)], [(nid + 20, arrS X), (iv, boxVw nv v), (iu, boxNw n)], nid + 100, nid⟩ ?_ ?_
  · unfold litQ litS at *
    simp -dsimp only [aqT, aqU, aqN, aqS, ↓seqK, ↓blkK, ↓loopK, step, stepBin, Nat.add_assoc nid, ↓reduceIte, Option.toList, ← Int.ofNat_tmod, ← Int.ofNat_tdiv, simprocAttr, BEq.rfl, LN_succ, e1, e2, e3, e4, e5, e6, e7, e8, e9, b1, b2, b3, b4, b5, b6, b7, b8, b9, d1, d2]
    refine CallO.pure (hsome _) ?_
    unfold arrS
    simp -dsimp only [aqT, aqU, aqN, aqS, ↓seqK, ↓blkK, ↓loopK, step, stepBin, Nat.add_assoc nid, ↓reduceIte, Option.toList, ← Int.ofNat_tmod, ← Int.ofNat_tdiv, simprocAttr, BEq.rfl, LN_succ, e1, e2, e3, e4, e5, e6, e7, e8, e9, b1, b2, b3, b4, b5, b6, b7, b8, b9, d1, d2]
    refine Cov.go [(nid + 20, nid + 12)] [] ?_
    simp [cvT, step, res, e1, e2, e3, e4, e5, e6, e7, e8, e9, b1, b2, b3, b4, b5, b6, b7, b8, b9, d1, d2, arrS, boxVw, boxNw, litS, hiv, hiu, hne, g1, ColsEq.refl, -List.getD_eq_getElem?_getD]
  unfold arrS boxVw boxNw
  rw [hxl]
  refine SR.freezeB [nid + 20] (fun nl' => ?_)
  simp only [frzS, frzH, frzBlk, lends, lend, kill, noOs, litS, aqT, aqU, aqN, aqS, ↓seqK, ↓blkK, ↓loopK, step, stepBin, Nat.add_assoc nid, ↓reduceIte, Option.toList, ← Int.ofNat_tmod, ← Int.ofNat_tdiv, simprocAttr, BEq.rfl, LN_succ, e1, e2, e3, e4, e5, e6, e7, e8, e9, b1, b2, b3, b4, b5, b6, b7, b8, b9, d1, d2]
  generalize nl' (nid + 20) = nx
  have h1 := fun m => equalOf_c nx X n m (by omega) (by omega) (fun s hs => by rw [hx s hs]; omega)
  have h2 := fun m => equalOf_c nv v n m (by omega) (by omega) (fun s hs => by rw [hw s hs]; omega)
  have h3 := fun m => stuckR_c contains_cc nx X n m (by omega) (by omega) (fun s hs => by rw [hx s hs]; omega)
  have h4 := fun m => stuckR_c contains_cc nv v n m (by omega) (by omega) (fun s hs => by rw [hw s hs]; omega)
  have l1 := eqTo_len (turnL X n) n n
  have l2 := eqTo_len (turnL v n) n n
  have r1 := fun k => eqRows (turnL X n) n n k
  have r2 := fun k => eqRows (turnL v n) n n k
  have k1 := stuckTo_len (turnL X n) n
  have k2 := stuckTo_len (turnL v n) n
  have hE := fun a b m => equalEq_c a b (eqTo (turnL X n) n n) (eqTo (turnL v n) n n) m (by omega) (by omega) (fun k => by have := r1 k; omega) (fun k => by have := r2 k; omega)
  have hI := fun a b m => equalI_c a b (intsO (stuckTo (turnL X n) n)) (intsO (stuckTo (turnL v n) n)) m (by rw [intsQ_len]; omega) (by rw [intsQ_len]; omega)
  rw [intsQ_eq] at hI
  unfold litS at h1 h2 h3 h4
  unfold litEq colQ at hE
  unfold litI at hI
  unfold arrEq colQ at h1 h2
  unfold arrI at h3 h4
  simp only [intsQ_len] at hI h3 h4
  rw [hxl] at h1 h3
  generalize eqTo (turnL X n) n n = E1 at *
  generalize eqTo (turnL v n) n n = E2 at *
  generalize stuckTo (turnL X n) n = K1 at *
  generalize stuckTo (turnL v n) n = K2 at *
  refine SR.run (t := .mk) ?_
  simp -dsimp only [aqT, aqU, aqN, aqS, ↓seqK, ↓blkK, ↓loopK, step, stepBin, Nat.add_assoc nid, ↓reduceIte, Option.toList, ← Int.ofNat_tmod, ← Int.ofNat_tdiv, simprocAttr, BEq.rfl, LN_succ, e1, e2, e3, e4, e5, e6, e7, e8, e9, b1, b2, b3, b4, b5, b6, b7, b8, b9, d1, d2]
  refine CallX.pure (h1 _) ?_
  simp -dsimp only [aqT, aqU, aqN, aqS, ↓seqK, ↓blkK, ↓loopK, step, stepBin, Nat.add_assoc nid, ↓reduceIte, Option.toList, ← Int.ofNat_tmod, ← Int.ofNat_tdiv, simprocAttr, BEq.rfl, LN_succ, e1, e2, e3, e4, e5, e6, e7, e8, e9, b1, b2, b3, b4, b5, b6, b7, b8, b9, d1, d2]
  refine CallX.pure (h2 _) ?_
  simp -dsimp only [aqT, aqU, aqN, aqS, ↓seqK, ↓blkK, ↓loopK, step, stepBin, Nat.add_assoc nid, ↓reduceIte, Option.toList, ← Int.ofNat_tmod, ← Int.ofNat_tdiv, simprocAttr, BEq.rfl, LN_succ, e1, e2, e3, e4, e5, e6, e7, e8, e9, b1, b2, b3, b4, b5, b6, b7, b8, b9, d1, d2]
  refine CallX.lent [nid + 108, nid + 120] (fun nl' => by
    simp only [lends, lend, noOs, aqT, aqU, aqN, aqS, ↓seqK, ↓blkK, ↓loopK, step, stepBin, Nat.add_assoc nid, ↓reduceIte, Option.toList, ← Int.ofNat_tmod, ← Int.ofNat_tdiv, simprocAttr, BEq.rfl, LN_succ, e1, e2, e3, e4, e5, e6, e7, e8, e9, b1, b2, b3, b4, b5, b6, b7, b8, b9, d1, d2]
    exact hE (nl' _) (nl' _) _) rfl rfl (by simp [getH]) ?_
  cases hb1 : (E1 == E2) <;> simp -dsimp only [aqT, aqU, aqN, aqS, ↓seqK, ↓blkK, ↓loopK, step, stepBin, Nat.add_assoc nid, ↓reduceIte, Option.toList, ← Int.ofNat_tmod, ← Int.ofNat_tdiv, simprocAttr, BEq.rfl, LN_succ, e1, e2, e3, e4, e5, e6, e7, e8, e9, b1, b2, b3, b4, b5, b6, b7, b8, b9, d1, d2, Bool.false_and, Bool.true_and]
  · refine RetOK.go [] [] (.inl rfl) ?_
    simp [a109, cvT, step, res, e1, e2, e3, e4, e5, e6, e7, e8, e9, b1, b2, b3, b4, b5, b6, b7, b8, b9, d1, d2, boxVw, boxNw, litS, hiv, hiu, hne, g1, ColsEq.refl, -List.getD_eq_getElem?_getD]
  · refine CallX.pure (h3 _) ?_
    simp -dsimp only [aqT, aqU, aqN, aqS, ↓seqK, ↓blkK, ↓loopK, step, stepBin, Nat.add_assoc nid, ↓reduceIte, Option.toList, ← Int.ofNat_tmod, ← Int.ofNat_tdiv, simprocAttr, BEq.rfl, LN_succ, e1, e2, e3, e4, e5, e6, e7, e8, e9, b1, b2, b3, b4, b5, b6, b7, b8, b9, d1, d2]
    refine CallX.pure (h4 _) ?_
    simp -dsimp only [aqT, aqU, aqN, aqS, ↓seqK, ↓blkK, ↓loopK, step, stepBin, Nat.add_assoc nid, ↓reduceIte, Option.toList, ← Int.ofNat_tmod, ← Int.ofNat_tdiv, simprocAttr, BEq.rfl, LN_succ, e1, e2, e3, e4, e5, e6, e7, e8, e9, b1, b2, b3, b4, b5, b6, b7, b8, b9, d1, d2]
    refine CallX.lent [nid + 140, nid + 152] (fun nl' => by
      simp only [lends, lend, noOs, aqT, aqU, aqN, aqS, ↓seqK, ↓blkK, ↓loopK, step, stepBin, Nat.add_assoc nid, ↓reduceIte, Option.toList, ← Int.ofNat_tmod, ← Int.ofNat_tdiv, simprocAttr, BEq.rfl, LN_succ, e1, e2, e3, e4, e5, e6, e7, e8, e9, b1, b2, b3, b4, b5, b6, b7, b8, b9, d1, d2]
      exact hI (nl' _) (nl' _) _) rfl rfl (by simp [getH]) ?_
    simp -dsimp only [aqT, aqU, aqN, aqS, ↓seqK, ↓blkK, ↓loopK, step, stepBin, Nat.add_assoc nid, ↓reduceIte, Option.toList, ← Int.ofNat_tmod, ← Int.ofNat_tdiv, simprocAttr, BEq.rfl, LN_succ, e1, e2, e3, e4, e5, e6, e7, e8, e9, b1, b2, b3, b4, b5, b6, b7, b8, b9, d1, d2]
    refine RetOK.go [] [] (.inl rfl) ?_
    simp [a109, cvT, step, res, e1, e2, e3, e4, e5, e6, e7, e8, e9, b1, b2, b3, b4, b5, b6, b7, b8, b9, d1, d2, boxVw, boxNw, litS, hiv, hiu, hne, g1, ColsEq.refl, -List.getD_eq_getElem?_getD]
def fewD (n : Nat) (v : List (List UInt8)) : List Nat := fewG (shortToG (testV n v) v.length (2 ^ v.length)) v.length
set_option maxHeartbeats 2000000 in
theorem fewestOf_I (nv : Bool) (v : List (List UInt8)) (n nid : Nat) (hv : v.length ≤ 14) (hn : n ≤ 1000) (hw : ∀ s ∈ v, s.length = n) :
    ACallI Tryd.prog 48 [.int .i64 (n : Nat), litS nv v] [] nid (fun _ : Bool => True) (fun nb => litQ nb (fewD n v)) (fun _ => []) := by
  have hsh := fun m (hm : nid + 4 < m) => shortQ_I 109 [.ptr (nid + 4) 0, .ptr nid 0] [(nid + 4, boxVw nv v), (nid, boxNw n)] (testV n v) v.length m hv (scp2 (by omega) (by omega) rfl rfl) (by simp [lowAll, idsOfs, idsOf]; omega) (fun a B hB m' h' => fewF_c (nid + 4) nid nv v n a B m' (by omega) (by omega) (by omega) (by omega) hn hw)
  change ∀ m, nid + 4 < m → ACallI _ _ _ _ _ _ (fun nb => litQ nb (fewD n v)) _ at hsh
  generalize fewD n v = l at *
  refine acallI_sr c48 (by simp [a48]) ?_
  unfold a48 boxVw boxNw litS at *
  refine SR.seq ?_
  simp -dsimp only [aqT, aqU, aqN, aqS, ↓seqK, ↓blkK, ↓loopK, step, stepBin, Nat.add_assoc nid, ↓reduceIte, Option.toList, ← Int.ofNat_tmod, ← Int.ofNat_tdiv, simprocAttr, BEq.rfl, LN_succ]
  refine SR.run (t := .mk) ?_
  simp -dsimp only [aqT, aqU, aqN, aqS, ↓seqK, ↓blkK, ↓loopK, step, stepBin, Nat.add_assoc nid, ↓reduceIte, Option.toList, ← Int.ofNat_tmod, ← Int.ofNat_tdiv, simprocAttr, BEq.rfl, LN_succ]
  refine CallO.any (hsh _ (by omega)) (subH_cons (by simp only [aqT, aqU, aqN, aqS, ↓seqK, ↓blkK, ↓loopK, step, stepBin, Nat.add_assoc nid, ↓reduceIte, Option.toList, ← Int.ofNat_tmod, ← Int.ofNat_tdiv, simprocAttr, BEq.rfl, LN_succ]) (subH_get (by simp only [aqT, aqU, aqN, aqS, ↓seqK, ↓blkK, ↓loopK, step, stepBin, Nat.add_assoc nid, ↓reduceIte, Option.toList, ← Int.ofNat_tmod, ← Int.ofNat_tdiv, simprocAttr, BEq.rfl, LN_succ]))) (fun nb _ => ?_)
  unfold litQ
  simp -dsimp only [aqT, aqU, aqN, aqS, ↓seqK, ↓blkK, ↓loopK, step, stepBin, Nat.add_assoc nid, ↓reduceIte, Option.toList, ← Int.ofNat_tmod, ← Int.ofNat_tdiv, simprocAttr, BEq.rfl, LN_succ]
  refine ⟨nb, RetOK.pure (.inl rfl) rfl ?_⟩
  simp [a48, cvT, step, res, ColsEq.refl, -List.getD_eq_getElem?_getD]
theorem few_doc {n : Nat} {v : List (List UInt8)} (hv : PatOk (n : Nat) v) (hl : v.length ≤ 14) : fewTo (bestV ((turnL v n).map rowN) v.length) v.length = fewD n v := by
  rw [bestV_short _ hl]
  unfold fewD
  rw [shortToG_congr (G := testV n v) (fun B hB => ?_) _ (Nat.le_refl _)]
  · rfl
  · rw [sameV_doc hv hB]
    unfold testV
    congr 1
    · rw [Bool.eq_iff_iff, decide_eq_true_eq, beq_iff_eq]; rfl
    · rw [Bool.eq_iff_iff, decide_eq_true_eq, beq_iff_eq]; rfl
end Go.Proofs.YthcldfmlfjomfaaDoor
namespace Go.Proofs.YthcldfmlfjomfaaDoor
open Go.RowKit Go.Lib
theorem mul64_5 (nid : Nat) : ACall Tryd.prog 148 [.int .u64 2, .int .u64 5] [] nid (.tup [.int .u64 0, .int .u64 10]) [] := by
  refine acall_run c148 (by simp [a148]) ?_
  simp -dsimp only [aqT, aqU, aqN, ↓seqK, ↓blkK, ↓loopK, step, stepBin, Nat.reduceBEq, Nat.reduceBeqDiff, Nat.add_assoc nid, Nat.reduceAdd, reduceCtorEq, ↓reduceIte, Nat.reduceLeDiff, Nat.reduceBneDiff, Option.toList, ← Int.ofNat_tmod, ← Int.ofNat_tdiv, Nat.reduceLT, a148]
  refine ⟨by decide, by decide, by decide, by decide, by decide, ?_⟩
  refine RetOK.pure (.inl rfl) rfl ?_
  simp only [cvT, step, res, a148, aqT, aqU, aqN, aqS, ↓seqK, ↓blkK, ↓loopK, step, stepBin, Nat.add_assoc nid, ↓reduceIte, Option.toList, ← Int.ofNat_tmod, ← Int.ofNat_tdiv, simprocAttr, BEq.rfl, LN_succ]
  decide +kernel
theorem mul64_6 (nid : Nat) : ACall Tryd.prog 148 [.int .u64 2, .int .u64 6] [] nid (.tup [.int .u64 0, .int .u64 12]) [] := by
  refine acall_run c148 (by simp [a148]) ?_
  simp -dsimp only [aqT, aqU, aqN, ↓seqK, ↓blkK, ↓loopK, step, stepBin, Nat.reduceBEq, Nat.reduceBeqDiff, Nat.add_assoc nid, Nat.reduceAdd, reduceCtorEq, ↓reduceIte, Nat.reduceLeDiff, Nat.reduceBneDiff, Option.toList, ← Int.ofNat_tmod, ← Int.ofNat_tdiv, Nat.reduceLT, a148]
  refine ⟨by decide, by decide, by decide, by decide, by decide, ?_⟩
  refine RetOK.pure (.inl rfl) rfl ?_
  simp only [cvT, step, res, a148, aqT, aqU, aqN, aqS, ↓seqK, ↓blkK, ↓loopK, step, stepBin, Nat.add_assoc nid, ↓reduceIte, Option.toList, ← Int.ofNat_tmod, ← Int.ofNat_tdiv, simprocAttr, BEq.rfl, LN_succ]
  decide +kernel
theorem mul64_7 (nid : Nat) : ACall Tryd.prog 148 [.int .u64 2, .int .u64 7] [] nid (.tup [.int .u64 0, .int .u64 14]) [] := by
  refine acall_run c148 (by simp [a148]) ?_
  simp -dsimp only [aqT, aqU, aqN, ↓seqK, ↓blkK, ↓loopK, step, stepBin, Nat.reduceBEq, Nat.reduceBeqDiff, Nat.add_assoc nid, Nat.reduceAdd, reduceCtorEq, ↓reduceIte, Nat.reduceLeDiff, Nat.reduceBneDiff, Option.toList, ← Int.ofNat_tmod, ← Int.ofNat_tdiv, Nat.reduceLT, a148]
  refine ⟨by decide, by decide, by decide, by decide, by decide, ?_⟩
  refine RetOK.pure (.inl rfl) rfl ?_
  simp only [cvT, step, res, a148, aqT, aqU, aqN, aqS, ↓seqK, ↓blkK, ↓loopK, step, stepBin, Nat.add_assoc nid, ↓reduceIte, Option.toList, ← Int.ofNat_tmod, ← Int.ofNat_tdiv, simprocAttr, BEq.rfl, LN_succ]
  decide +kernel
theorem mul64_8 (nid : Nat) : ACall Tryd.prog 148 [.int .u64 2, .int .u64 8] [] nid (.tup [.int .u64 0, .int .u64 16]) [] := by
  refine acall_run c148 (by simp [a148]) ?_
  simp -dsimp only [aqT, aqU, aqN, ↓seqK, ↓blkK, ↓loopK, step, stepBin, Nat.reduceBEq, Nat.reduceBeqDiff, Nat.add_assoc nid, Nat.reduceAdd, reduceCtorEq, ↓reduceIte, Nat.reduceLeDiff, Nat.reduceBneDiff, Option.toList, ← Int.ofNat_tmod, ← Int.ofNat_tdiv, Nat.reduceLT, a148]
  refine ⟨by decide, by decide, by decide, by decide, by decide, ?_⟩
  refine RetOK.pure (.inl rfl) rfl ?_
  simp only [cvT, step, res, a148, aqT, aqU, aqN, aqS, ↓seqK, ↓blkK, ↓loopK, step, stepBin, Nat.add_assoc nid, ↓reduceIte, Option.toList, ← Int.ofNat_tmod, ← Int.ofNat_tdiv, simprocAttr, BEq.rfl, LN_succ]
  decide +kernel
theorem mulR_c (r nid : Nat) (h1 : 5 ≤ r) (h2 : r ≤ 8) : ACall Tryd.prog 107 [.int .u64 2, .int .u64 (r : Nat)] [] nid (.tup [.int .u64 0, .int .u64 ((2 * r : Nat) : Int)]) [] := by
  have h : ∀ m, ACall Tryd.prog 148 [.int .u64 2, .int .u64 (r : Nat)] [] m (.tup [.int .u64 0, .int .u64 ((2 * r : Nat) : Int)]) [] := fun m => by
    rcases (by omega : r = 5 ∨ r = 6 ∨ r = 7 ∨ r = 8) with rfl | rfl | rfl | rfl
    · exact mul64_5 m
    · exact mul64_6 m
    · exact mul64_7 m
    · exact mul64_8 m
  refine acall_run c107 (by simp [a107]) ?_
  simp -dsimp only [aqT, aqU, aqN, ↓seqK, ↓blkK, ↓loopK, step, stepBin, Nat.reduceBEq, Nat.reduceBeqDiff, Nat.add_assoc nid, Nat.reduceAdd, reduceCtorEq, ↓reduceIte, Nat.reduceLeDiff, Nat.reduceBneDiff, Option.toList, ← Int.ofNat_tmod, ← Int.ofNat_tdiv, Nat.reduceLT, a107]
  refine CallO.pure (h _) ?_
  simp -dsimp only [aqT, aqU, aqN, aqS, ↓seqK, ↓blkK, ↓loopK, step, stepBin, Nat.add_assoc nid, ↓reduceIte, Option.toList, ← Int.ofNat_tmod, ← Int.ofNat_tdiv, simprocAttr, BEq.rfl, LN_succ]
  refine RetOK.pure (.inl rfl) rfl ?_
  simp [cvT, step, res]
def altF (i : Nat) : List UInt8 := if i % 2 = 0 then [48] else [49]
def altL (n : Nat) : List (List UInt8) := (List.range n).map altF
theorem altL_len (n : Nat) : (altL n).length = n := by simp [altL]
theorem altL_at {n i : Nat} (h : i < n) : (altL n).getD i [] = altF i := by
  unfold altL
  rw [List.getD_eq_getElem?_getD, List.getElem?_map, List.getElem?_range h]; rfl
set_option maxHeartbeats 2000000 in
theorem repeatS_c (nl : Bool) (r nid : Nat) (h1 : 5 ≤ r) (h2 : r ≤ 8) : ACall Tryd.prog 44 [.lit nl 2 [.s fun i => [[48], [49]].getD i []], .int .i64 (r : Nat)] [] nid (.sl nid 0 (2 * r)) [(nid, arrS (altL (2 * r)))] := by
  have hll := altL_len (2 * r)
  refine acall_run c44 (by simp [a44]) ?_
  simp -dsimp only [aqT, aqU, aqN, aqS, ↓seqK, ↓blkK, ↓loopK, step, stepBin, Nat.add_assoc nid, ↓reduceIte, Option.toList, ← Int.ofNat_tmod, ← Int.ofNat_tdiv, simprocAttr, BEq.rfl, LN_succ, a44]
  refine S2.dec (fun h => absurd h (by omega)) (fun _ => ?_)
  simp -dsimp only [aqT, aqU, aqN, aqS, ↓seqK, ↓blkK, ↓loopK, step, stepBin, Nat.add_assoc nid, ↓reduceIte, Option.toList, ← Int.ofNat_tmod, ← Int.ofNat_tdiv, simprocAttr, BEq.rfl, LN_succ]
  have w1 : IntKind.u64.wrap 2 = 2 := by decide
  have w2 : IntKind.u64.wrap (r : Int) = r := by show (r : Int) % 18446744073709551616 = r; omega
  simp -dsimp only [aqT, aqU, aqN, aqS, ↓seqK, ↓blkK, ↓loopK, step, stepBin, Nat.add_assoc nid, ↓reduceIte, Option.toList, ← Int.ofNat_tmod, ← Int.ofNat_tdiv, simprocAttr, BEq.rfl, LN_succ, w1, w2]
  refine CallO.pure (mulR_c r _ h1 h2) ?_
  simp -dsimp only [aqT, aqU, aqN, aqS, ↓seqK, ↓blkK, ↓loopK, step, stepBin, Nat.add_assoc nid, ↓reduceIte, Option.toList, ← Int.ofNat_tmod, ← Int.ofNat_tdiv, simprocAttr, BEq.rfl, LN_succ]
  refine S2.dec (fun h => absurd h (by omega)) (fun _ => ?_)
  simp -dsimp only [aqT, aqU, aqN, aqS, ↓seqK, ↓blkK, ↓loopK, step, stepBin, Nat.add_assoc nid, ↓reduceIte, Option.toList, ← Int.ofNat_tmod, ← Int.ofNat_tdiv, simprocAttr, BEq.rfl, LN_succ]
  have w3 : IntKind.i64.wrap ((2 * r : Nat) : Int) = ((2 * r : Nat) : Int) := IntWalk.i64_in _ (by omega)
  simp -dsimp only [aqT, aqU, aqN, aqS, ↓seqK, ↓blkK, ↓loopK, step, stepBin, Nat.add_assoc nid, ↓reduceIte, Option.toList, ← Int.ofNat_tmod, ← Int.ofNat_tdiv, simprocAttr, BEq.rfl, LN_succ, w3]
  refine ⟨⟨by omega, by omega, by omega⟩, ?_⟩
  simp -dsimp only [aqT, aqU, aqN, aqS, ↓seqK, ↓blkK, ↓loopK, step, stepBin, Nat.add_assoc nid, ↓reduceIte, Option.toList, ← Int.ofNat_tmod, ← Int.ofNat_tdiv, simprocAttr, BEq.rfl, LN_succ, Col.const]
  refine ⟨by omega, ?_⟩
  refine LP.mkP (fun n : Nat => n % 2 = 0 ∧ 2 ≤ n ∧ n ≤ 2 * r) (fun n : Nat => ⟨[(8, .int .i64 n), (7, .sl (nid + 4) 0 (2 * r))], [(nid + 4, some (.arr 9 (2 * r) [.s fun i => if i < n then altF i else []]))], nid + 200, nid⟩) (fun n => 40 - n) 2 (by omega) (Cov.go [(nid + 4, nid + 88)] [] ?_) (fun n hn => ?_)
  · simp [cvT, step, res]
    refine ⟨ColEq.s fun i hi => ?_, by omega, by rw [IntWalk.i64_in _ (by omega)]; omega⟩
    rcases (by omega : i = 0 ∨ i = 1 ∨ 2 ≤ i) with rfl | rfl | h
    · rw [if_pos (by omega)]; rfl
    · rw [if_pos (by omega)]; rfl
    · rw [if_neg (by omega), if_neg (by omega)]
  simp -dsimp only [aqT, aqU, aqN, aqS, ↓seqK, ↓blkK, ↓loopK, step, stepBin, Nat.add_assoc nid, ↓reduceIte, Option.toList, ← Int.ofNat_tmod, ← Int.ofNat_tdiv, simprocAttr, BEq.rfl, LN_succ]
  refine S2.dec (fun h => ?_) (fun h => ?_) <;> simp -dsimp only [aqT, aqU, aqN, aqS, ↓seqK, ↓blkK, ↓loopK, step, stepBin, Nat.add_assoc nid, ↓reduceIte, Option.toList, ← Int.ofNat_tmod, ← Int.ofNat_tdiv, simprocAttr, BEq.rfl, LN_succ]
  · refine ⟨⟨by omega, by omega⟩, ⟨by omega, by omega⟩, by omega, by unfold inI64; omega, n + min n (2 * r - n), ⟨by omega, by omega⟩, Cov.go [] [] ?_⟩
    simp [cvT, step, res]
    refine ColEq.s fun i hi => ?_
    by_cases h1 : i < n
    · rw [if_neg (by omega), if_pos h1, if_pos (by omega)]
    · by_cases h2 : i < n + min n (2 * r - n)
      · rw [if_pos (by omega), if_pos (by omega), if_pos h2]
        unfold altF
        have : (i - n) % 2 = i % 2 := by omega
        rw [this]
      · rw [if_neg (by omega), if_neg h1, if_neg h2]
  · have hn10 : n = 2 * r := by omega
    subst hn10
    refine RetOK.go [(nid, nid + 4)] [] (.inl rfl) ?_
    simp [cvT, step, res, arrS, hll, a44, -List.getD_eq_getElem?_getD]
    exact ColEq.s fun i hi => by rw [if_pos hi, altL_at hi]
end Go.Proofs.YthcldfmlfjomfaaDoor
namespace Go.Proofs.YthcldfmlfjomfaaDoor
open Go.RowKit
theorem whenL_c (b : Bool) (e : Int) (nid : Nat) : ACall Tryd.prog 46 [.bool b, .int .i64 e] [] nid (.int .i64 (if b = true then e else 0)) [] := by
  refine acall_run c46 (by simp [a46]) ?_
  simp -dsimp only [aqT, aqU, aqN, ↓seqK, ↓blkK, ↓loopK, step, stepBin, Nat.reduceBEq, Nat.reduceBeqDiff, Nat.add_assoc nid, Nat.reduceAdd, reduceCtorEq, ↓reduceIte, Nat.reduceLeDiff, Nat.reduceBneDiff, Option.toList, ← Int.ofNat_tmod, ← Int.ofNat_tdiv, Nat.reduceLT, a46]
  cases b <;> simp -dsimp only [aqT, aqU, aqN, ↓seqK, ↓blkK, ↓loopK, step, stepBin, Nat.reduceBEq, Nat.reduceBeqDiff, Nat.add_assoc nid, Nat.reduceAdd, reduceCtorEq, ↓reduceIte, Nat.reduceLeDiff, Nat.reduceBneDiff, Option.toList, ← Int.ofNat_tmod, ← Int.ofNat_tdiv, Nat.reduceLT]
  · refine RetOK.pure (.inl rfl) rfl ?_
    simp [cvT, step, res]
  · refine RetOK.pure (.inl rfl) rfl ?_
    simp [cvT, step, res]
theorem fewest_bad (nl : Bool) (n : Int) (v : List (List UInt8)) (nid : Nat) (hv : v.length ≤ 1000) (hr : ShortRows 1000 v) (hp : patV n v ≠ 0) : ACall Tryd.prog 15 [.int .i64 n, litS nl v] [] nid (.tup [.lit true 0 [], .int .i64 (patV n v)]) [] := by
  have h := fun m => checkVectors_all nl n v m (by omega) (hr.mono (by omega))
  refine acall_run c15 (by simp [a15]) ?_
  unfold litS at *
  simp -dsimp only [aqT, aqU, aqN, aqS, ↓seqK, ↓blkK, ↓loopK, step, stepBin, Nat.add_assoc nid, ↓reduceIte, Option.toList, ← Int.ofNat_tmod, ← Int.ofNat_tdiv, simprocAttr, BEq.rfl, LN_succ, a15]
  refine CallO.pure (h _) ?_
  generalize patV n v = e at *
  simp -dsimp only [aqT, aqU, aqN, aqS, ↓seqK, ↓blkK, ↓loopK, step, stepBin, Nat.add_assoc nid, ↓reduceIte, Option.toList, ← Int.ofNat_tmod, ← Int.ofNat_tdiv, simprocAttr, BEq.rfl, LN_succ]
  refine S2.yes (by simpa using hp) ?_
  simp -dsimp only [aqT, aqU, aqN, aqS, ↓seqK, ↓blkK, ↓loopK, step, stepBin, Nat.add_assoc nid, ↓reduceIte, Option.toList, ← Int.ofNat_tmod, ← Int.ofNat_tdiv, simprocAttr, BEq.rfl, LN_succ]
  refine RetOK.pure (.inl rfl) rfl ?_
  simp [cvT, step, res]
theorem fewest_long (nl : Bool) (n : Int) (v : List (List UInt8)) (nid : Nat) (hv : v.length ≤ 1000) (hr : ShortRows 1000 v) (hp : patV n v = 0) (hl : 14 < v.length) : ACall Tryd.prog 15 [.int .i64 n, litS nl v] [] nid (.tup [.lit true 0 [], .int .i64 2]) [] := by
  have h := fun m => checkVectors_all nl n v m (by omega) (hr.mono (by omega))
  rw [hp] at h
  refine acall_run c15 (by simp [a15]) ?_
  unfold litS at *
  simp -dsimp only [aqT, aqU, aqN, aqS, ↓seqK, ↓blkK, ↓loopK, step, stepBin, Nat.add_assoc nid, ↓reduceIte, Option.toList, ← Int.ofNat_tmod, ← Int.ofNat_tdiv, simprocAttr, BEq.rfl, LN_succ, a15]
  refine CallO.pure (h _) ?_
  simp -dsimp only [aqT, aqU, aqN, aqS, ↓seqK, ↓blkK, ↓loopK, step, stepBin, Nat.add_assoc nid, ↓reduceIte, Option.toList, ← Int.ofNat_tmod, ← Int.ofNat_tdiv, simprocAttr, BEq.rfl, LN_succ]
  refine S2.yes (by simp; omega) ?_
  simp -dsimp only [aqT, aqU, aqN, aqS, ↓seqK, ↓blkK, ↓loopK, step, stepBin, Nat.add_assoc nid, ↓reduceIte, Option.toList, ← Int.ofNat_tmod, ← Int.ofNat_tdiv, simprocAttr, BEq.rfl, LN_succ]
  refine RetOK.pure (.inl rfl) rfl ?_
  simp [cvT, step, res]
theorem order_bad (nl : Bool) (n : Int) (v : List (List UInt8)) (nid : Nat) (hv : v.length ≤ 1000) (hr : ShortRows 1000 v) (hp : patV n v ≠ 0) : ACall Tryd.prog 49 [.int .i64 n, litS nl v] [] nid (.tup [.lit true 0 [], .int .i64 0, .int .i64 (patV n v)]) [] := by
  have h := fun m => checkVectors_all nl n v m (by omega) (hr.mono (by omega))
  refine acall_run c49 (by simp [a49]) ?_
  unfold litS at *
  simp -dsimp only [aqT, aqU, aqN, aqS, ↓seqK, ↓blkK, ↓loopK, step, stepBin, Nat.add_assoc nid, ↓reduceIte, Option.toList, ← Int.ofNat_tmod, ← Int.ofNat_tdiv, simprocAttr, BEq.rfl, LN_succ, a49]
  refine CallO.pure (h _) ?_
  generalize patV n v = e at *
  simp -dsimp only [aqT, aqU, aqN, aqS, ↓seqK, ↓blkK, ↓loopK, step, stepBin, Nat.add_assoc nid, ↓reduceIte, Option.toList, ← Int.ofNat_tmod, ← Int.ofNat_tdiv, simprocAttr, BEq.rfl, LN_succ]
  refine S2.yes (by simpa using hp) ?_
  simp -dsimp only [aqT, aqU, aqN, aqS, ↓seqK, ↓blkK, ↓loopK, step, stepBin, Nat.add_assoc nid, ↓reduceIte, Option.toList, ← Int.ofNat_tmod, ← Int.ofNat_tdiv, simprocAttr, BEq.rfl, LN_succ]
  refine RetOK.pure (.inl rfl) rfl ?_
  simp [cvT, step, res]
theorem order_long (nl : Bool) (n : Int) (v : List (List UInt8)) (nid : Nat) (hv : v.length ≤ 1000) (hr : ShortRows 1000 v) (hp : patV n v = 0) (hl : 10 < v.length) : ACall Tryd.prog 49 [.int .i64 n, litS nl v] [] nid (.tup [.lit true 0 [], .int .i64 0, .int .i64 2]) [] := by
  have h := fun m => checkVectors_all nl n v m (by omega) (hr.mono (by omega))
  rw [hp] at h
  refine acall_run c49 (by simp [a49]) ?_
  unfold litS at *
  simp -dsimp only [aqT, aqU, aqN, aqS, ↓seqK, ↓blkK, ↓loopK, step, stepBin, Nat.add_assoc nid, ↓reduceIte, Option.toList, ← Int.ofNat_tmod, ← Int.ofNat_tdiv, simprocAttr, BEq.rfl, LN_succ, a49]
  refine CallO.pure (h _) ?_
  simp -dsimp only [aqT, aqU, aqN, aqS, ↓seqK, ↓blkK, ↓loopK, step, stepBin, Nat.add_assoc nid, ↓reduceIte, Option.toList, ← Int.ofNat_tmod, ← Int.ofNat_tdiv, simprocAttr, BEq.rfl, LN_succ]
  refine S2.yes (by simp; omega) ?_
  simp -dsimp only [aqT, aqU, aqN, aqS, ↓seqK, ↓blkK, ↓loopK, step, stepBin, Nat.add_assoc nid, ↓reduceIte, Option.toList, ← Int.ofNat_tmod, ← Int.ofNat_tdiv, simprocAttr, BEq.rfl, LN_succ]
  refine RetOK.pure (.inl rfl) rfl ?_
  simp [cvT, step, res]
end Go.Proofs.YthcldfmlfjomfaaDoor
namespace Go.Proofs.YthcldfmlfjomfaaDoor
open Go.RowKit Go.Lib
theorem truthO_c (b : Bool) (nid : Nat) : ACall Tryd.prog 156 [.bool b] [] nid (.int .i64 (if b = true then 1 else 0)) [] := by
  refine acall_run c156 (by simp [a156]) ?_
  simp -dsimp only [aqT, aqU, aqN, aqS, ↓seqK, ↓blkK, ↓loopK, step, stepBin, Nat.add_assoc nid, ↓reduceIte, Option.toList, ← Int.ofNat_tmod, ← Int.ofNat_tdiv, simprocAttr, BEq.rfl, LN_succ, a156]
  cases b <;> simp -dsimp only [aqT, aqU, aqN, aqS, ↓seqK, ↓blkK, ↓loopK, step, stepBin, Nat.add_assoc nid, ↓reduceIte, Option.toList, ← Int.ofNat_tmod, ← Int.ofNat_tdiv, simprocAttr, BEq.rfl, LN_succ] <;> (refine RetOK.pure (.inl rfl) rfl ?_; simp [cvT, step, res])
theorem apartO_c (a b : List UInt8) (nid : Nat) (hl : a.length = b.length) (ha : a.length ≤ 1000000) : ACall Tryd.prog 117 [.str a, .str b] [] nid (.int .i64 (hamK a b a.length : Nat)) [] := by
  refine acall_run c117 (by simp [a117]) ?_
  simp -dsimp only [aqT, aqU, aqN, aqS, ↓seqK, ↓blkK, ↓loopK, step, stepBin, Nat.add_assoc nid, ↓reduceIte, Option.toList, ← Int.ofNat_tmod, ← Int.ofNat_tdiv, simprocAttr, BEq.rfl, LN_succ, a117]
  refine LP.mkP (fun k : Nat => k ≤ a.length) (fun k : Nat => ⟨[(9, .int .i64 k), (8, .int .i64 a.length), (5, .int .i64 (hamK a b k : Nat)), (0, .str a), (1, .str b)], [], nid + 100, nid⟩) (fun k => a.length + 1 - k) 0 (by omega) (Cov.go [] [] ?_) (fun k hk => ?_)
  · simp [cvT, step, res, hamK]
  have hs := hamK_succ a b k
  have hle := hamK_le a b k
  simp -dsimp only [aqT, aqU, aqN, aqS, ↓seqK, ↓blkK, ↓loopK, step, stepBin, Nat.add_assoc nid, ↓reduceIte, Option.toList, ← Int.ofNat_tmod, ← Int.ofNat_tdiv, simprocAttr, BEq.rfl, LN_succ]
  refine S2.dec (fun h3 => ?_) (fun h3 => ?_) <;> simp -dsimp only [aqT, aqU, aqN, aqS, ↓seqK, ↓blkK, ↓loopK, step, stepBin, Nat.add_assoc nid, ↓reduceIte, Option.toList, ← Int.ofNat_tmod, ← Int.ofNat_tdiv, simprocAttr, BEq.rfl, LN_succ]
  · have hkl : k < a.length := by omega
    have eb : ∀ x y : UInt8, (((x.toNat : Nat) : Int) != ((y.toNat : Nat) : Int)) = !(x == y) := fun x y => by
      rw [Bool.eq_iff_iff]
      simp only [bne_iff_ne, ne_eq, Int.natCast_inj, UInt8.toNat_inj, Bool.not_eq_true', beq_eq_false_iff_ne]
    refine ⟨by omega, by omega, ?_⟩
    rw [eb]
    refine CallX.pure (truthO_c _ _) ?_
    cases h4 : (a.getD k 0 == b.getD k 0) <;> rw [h4] at hs <;> simp -dsimp only [aqT, aqU, aqN, aqS, ↓seqK, ↓blkK, ↓loopK, step, stepBin, Nat.add_assoc nid, ↓reduceIte, Option.toList, ← Int.ofNat_tmod, ← Int.ofNat_tdiv, simprocAttr, BEq.rfl, LN_succ, Bool.not_true, Bool.not_false]
    · rw [if_neg (by simp)] at hs
      refine ⟨by unfold inI64; omega, by unfold inI64; omega, k + 1, ⟨by omega, by omega⟩, Cov.go [] [] ?_⟩
      simp [cvT, step, res, hs]
    · rw [if_pos rfl] at hs
      refine ⟨by unfold inI64; simp; omega, by unfold inI64; omega, k + 1, ⟨by omega, by omega⟩, Cov.go [] [] ?_⟩
      simp [cvT, step, res, hs]
  · obtain rfl : k = a.length := by omega
    refine RetOK.pure (.inl rfl) rfl ?_
    simp [cvT, step, res]
theorem cloneIl_c (nl : Bool) (l : List Int) (nid : Nat) (h0 : 0 < l.length) (hl : l.length ≤ 1000000000) : ACall Tryd.prog 56 [litI nl l] [] nid (litI false l) [] :=
  ACall.nonnil 0 rfl fun hn => ACall.lit (cloneI_c nl l nid hl fun e => List.eq_nil_of_length_eq_zero (hn e)) h0 rfl rfl
theorem intsO_mem (l : List Nat) (k : Nat) : (intsO l).contains ((k : Nat) : Int) = l.contains k := by
  unfold intsO
  induction l with
  | nil => rfl
  | cons a l ih =>
    rw [List.map_cons, List.contains_cons, List.contains_cons, ih]
    congr 1
    rw [Bool.eq_iff_iff]
    simp only [beq_iff_eq]
    omega
theorem intsO_len (l : List Nat) : (intsO l).length = l.length := by unfold intsO; rw [List.length_map]
theorem intsO_get (l : List Nat) (i : Nat) : (intsO l).getD i 0 = ((l.getD i 0 : Nat) : Int) := by
  unfold intsO
  rw [List.getD_eq_getElem?_getD, List.getElem?_map, List.getD_eq_getElem?_getD]
  cases l[i]? <;> rfl
def bLitO : BestO → PV
  | none => .lit true 0 []
  | some (l, _) => litI false (intsO l)
def bLeastO : BestO → Int
  | none => -1
  | some (_, s) => s
def eBoxO (b : BestO) : Option ABlk := some (.box 3 [.int .i64 (bLeastO b)])
def bBoxO (b : BestO) : Option ABlk := some (.box 22 [bLitO b])
def tBoxO (e p b t : Nat) : Option ABlk := some (.box 143 [.fn 115 [.ptr e 0, .ptr p 0, .ptr b 0, .ptr t 0]])
theorem bLitO_cov (n : Nat) (r : List (Nat × Nat)) (z : List (Nat × Nat)) (b : BestO) : PVCov n r z (bLitO b) (bLitO b) := by
  cases b with
  | none => simp [cvT, step, res, bLitO]
  | some x => simp [cvT, step, res, bLitO, litI, ColsEq.refl]
theorem bLitO_ids (b : BestO) : idsOf (bLitO b) = [] := by
  cases b with
  | none => rfl
  | some x => rfl
set_option maxHeartbeats 8000000 in
theorem tryO_c (nlv : Bool) (v : List (List UInt8)) (w : Nat) (hv : ∀ s ∈ v, s.length = w) (hw : w ≤ 100) (hn : v.length ≤ 10) (e p bb t : Nat) (hep : e ≠ p) (heb : e ≠ bb) (het : e ≠ t) (hpb : p ≠ bb) (hpt : p ≠ t) (hbt : bb ≠ t) : ∀ (f : Nat) (now : List Nat) (nl : Bool) (sum : Int) (b : BestO) (nid : Nat), e < nid → p < nid → bb < nid → t < nid →
    now.length + f = v.length + 1 → 0 < f → 0 < now.length → (∀ x ∈ now, x < v.length) → 0 ≤ sum → sum ≤ 100 * (now.length : Int) → BOk v.length b →
    ACall Tryd.prog 115 [litI nl (intsO now), .int .i64 sum, .ptr e 0, .ptr p 0, .ptr bb 0, .ptr t 0] [(e, eBoxO b), (p, boxVs nlv v), (bb, bBoxO b), (t, tBoxO e p bb t)] nid (.tup [])
      [(e, eBoxO (ovGo (dV v) v.length f now sum b)), (bb, bBoxO (ovGo (dV v) v.length f now sum b))]
  | 0, _, _, _, _, _, _, _, _, _, _, h, _, _, _, _, _ => absurd h (by omega)
  | f + 1, now, nl, sum, b, nid, he, hp, hb', ht, hlen, _, hn0, hnow, h0, h1, hb => by
    have hil := intsO_len now
    refine ACall.nonnil 0 rfl (fun hnl => ?_)
    have hnlf : nl = false := by
      cases nl with
      | false => rfl
      | true => have := hnl rfl; omega
    subst hnlf
    obtain ⟨e1, e2, e3, e4, e5, e6, e7, e8, e9⟩ := id_all he
    obtain ⟨a1, a2, a3, a4, a5, a6, a7, a8, a9⟩ := id_all hp
    obtain ⟨b1, b2, b3, b4, b5, b6, b7, b8, b9⟩ := id_all hb'
    obtain ⟨c1, c2, c3, c4, c5, c6, c7, c8, c9⟩ := id_all ht
    have d1 : (e == p) = false := by simpa using hep
    have d2 : (e == bb) = false := by simpa using heb
    have d3 : (e == t) = false := by simpa using het
    have d4 : (p == bb) = false := by simpa using hpb
    have d5 : (p == t) = false := by simpa using hpt
    have d6 : (bb == t) = false := by simpa using hbt
    have k1 : (p == e) = false := by simpa using fun x => hep x.symm
    have k2 : (bb == e) = false := by simpa using fun x => heb x.symm
    have k3 : (t == e) = false := by simpa using fun x => het x.symm
    have k4 : (bb == p) = false := by simpa using fun x => hpb x.symm
    have k5 : (t == p) = false := by simpa using fun x => hpt x.symm
    have k6 : (t == bb) = false := by simpa using fun x => hbt x.symm
    have g1 : ¬ p = e := fun x => hep x.symm
    have g2 : ¬ bb = e := fun x => heb x.symm
    have g3 : ¬ t = e := fun x => het x.symm
    have g4 : ¬ bb = p := fun x => hpb x.symm
    have g5 : ¬ t = p := fun x => hpt x.symm
    have g6 : ¬ t = bb := fun x => hbt x.symm
    refine acall_sr c115 (by simp [a115]) ?_
    unfold a115
    refine SR.seqEx (ι := PLift (¬ leO b sum)) (fun _ => ⟨[(0, litI false (intsO now)), (1, .int .i64 sum), (2, .ptr e 0), (3, .ptr p 0), (4, .ptr bb 0), (5, .ptr t 0)], [(e, eBoxO b), (p, boxVs nlv v), (bb, bBoxO b), (t, tBoxO e p bb t)], nid + 100, nid⟩) ?_ (fun hcut => ?_)
    · cases b with
      | none =>
        unfold eBoxO boxVs bBoxO tBoxO bLitO bLeastO litI litS
        simp -dsimp only [aqT, aqU, aqN, aqS, ↓seqK, ↓blkK, ↓loopK, step, stepBin, Nat.add_assoc nid, ↓reduceIte, Option.toList, ← Int.ofNat_tmod, ← Int.ofNat_tdiv, simprocAttr, BEq.rfl, LN_succ, e1, e2, e3, e4, e5, e6, e7, e8, e9, a1, a2, a3, a4, a5, a6, a7, a8, a9, b1, b2, b3, b4, b5, b6, b7, b8, b9, c1, c2, c3, c4, c5, c6, c7, c8, c9, d1, d2, d3, d4, d5, d6, k1, k2, k3, k4, k5, k6, g1, g2, g3, g4, g5, g6, hep, heb, het, hpb, hpt, hbt]
        refine ⟨⟨fun ⟨_, _, h, _⟩ => by cases h⟩, Cov.go [] [] ?_⟩
        simp [cvT, step, res, e1, e2, e3, e4, e5, e6, e7, e8, e9, a1, a2, a3, a4, a5, a6, a7, a8, a9, b1, b2, b3, b4, b5, b6, b7, b8, b9, c1, c2, c3, c4, c5, c6, c7, c8, c9, d1, d2, d3, d4, d5, d6, k1, k2, k3, k4, k5, k6, g1, g2, g3, g4, g5, g6, hep, heb, het, hpb, hpt, hbt, litI, litS, eBoxO, boxVs, bBoxO, tBoxO, bLitO, bLeastO, ColsEq.refl, -List.getD_eq_getElem?_getD]
      | some lb =>
        obtain ⟨bl, bs⟩ := lb
        obtain ⟨hbl, hb0, hb1⟩ := hb bl bs rfl
        have hd : decide (0 ≤ bs) = true := by simpa using hb0
        unfold eBoxO boxVs bBoxO tBoxO bLitO bLeastO litI litS
        simp -dsimp only [aqT, aqU, aqN, ↓seqK, ↓blkK, ↓loopK, step, stepBin, Nat.reduceBEq, Nat.reduceBeqDiff, Nat.add_assoc nid, Nat.reduceAdd, reduceCtorEq, ↓reduceIte, Nat.reduceLeDiff, Nat.reduceBneDiff, Option.toList, ← Int.ofNat_tmod, ← Int.ofNat_tdiv, Nat.reduceLT, e1, e2, e3, e4, e5, e6, e7, e8, e9, a1, a2, a3, a4, a5, a6, a7, a8, a9, b1, b2, b3, b4, b5, b6, b7, b8, b9, c1, c2, c3, c4, c5, c6, c7, c8, c9, d1, d2, d3, d4, d5, d6, k1, k2, k3, k4, k5, k6, g1, g2, g3, g4, g5, g6, hep, heb, het, hpb, hpt, hbt, hd]
        refine S2.dec (fun h => ?_) (fun h => ?_) <;> simp -dsimp only [aqT, aqU, aqN, ↓seqK, ↓blkK, ↓loopK, step, stepBin, Nat.reduceBEq, Nat.reduceBeqDiff, Nat.add_assoc nid, Nat.reduceAdd, reduceCtorEq, ↓reduceIte, Nat.reduceLeDiff, Nat.reduceBneDiff, Option.toList, ← Int.ofNat_tmod, ← Int.ofNat_tdiv, Nat.reduceLT, e1, e2, e3, e4, e5, e6, e7, e8, e9, a1, a2, a3, a4, a5, a6, a7, a8, a9, b1, b2, b3, b4, b5, b6, b7, b8, b9, c1, c2, c3, c4, c5, c6, c7, c8, c9, d1, d2, d3, d4, d5, d6, k1, k2, k3, k4, k5, k6, g1, g2, g3, g4, g5, g6, hep, heb, het, hpb, hpt, hbt]
        · rw [ovGo_cut ⟨bl, bs, rfl, h⟩]
          refine RetOK.go [] [] (.inl rfl) ?_
          simp [cvT, step, res, e1, e2, e3, e4, e5, e6, e7, e8, e9, a1, a2, a3, a4, a5, a6, a7, a8, a9, b1, b2, b3, b4, b5, b6, b7, b8, b9, c1, c2, c3, c4, c5, c6, c7, c8, c9, d1, d2, d3, d4, d5, d6, k1, k2, k3, k4, k5, k6, g1, g2, g3, g4, g5, g6, hep, heb, het, hpb, hpt, hbt, a115, litI, litS, eBoxO, boxVs, bBoxO, tBoxO, bLitO, bLeastO, ColsEq.refl, -List.getD_eq_getElem?_getD]
        · refine ⟨⟨fun ⟨_, _, h', h''⟩ => by injection h' with h'; injection h' with _ h'; omega⟩, Cov.go [] [] ?_⟩
          simp [cvT, step, res, e1, e2, e3, e4, e5, e6, e7, e8, e9, a1, a2, a3, a4, a5, a6, a7, a8, a9, b1, b2, b3, b4, b5, b6, b7, b8, b9, c1, c2, c3, c4, c5, c6, c7, c8, c9, d1, d2, d3, d4, d5, d6, k1, k2, k3, k4, k5, k6, g1, g2, g3, g4, g5, g6, hep, heb, het, hpb, hpt, hbt, litI, litS, eBoxO, boxVs, bBoxO, tBoxO, bLitO, bLeastO, ColsEq.refl, -List.getD_eq_getElem?_getD]
    have hcut : ¬ leO b sum := hcut.down
    refine SR.seqEx (ι := PLift (now.length ≠ v.length)) (fun _ => ⟨[(0, litI false (intsO now)), (1, .int .i64 sum), (2, .ptr e 0), (3, .ptr p 0), (4, .ptr bb 0), (5, .ptr t 0)], [(e, eBoxO b), (p, boxVs nlv v), (bb, bBoxO b), (t, tBoxO e p bb t)], nid + 200, nid⟩) ?_ (fun hfull => ?_)
    · unfold eBoxO boxVs bBoxO tBoxO litI litS
      simp -dsimp only [aqT, aqU, aqN, ↓seqK, ↓blkK, ↓loopK, step, stepBin, Nat.reduceBEq, Nat.reduceBeqDiff, Nat.add_assoc nid, Nat.reduceAdd, reduceCtorEq, ↓reduceIte, Nat.reduceLeDiff, Nat.reduceBneDiff, Option.toList, ← Int.ofNat_tmod, ← Int.ofNat_tdiv, Nat.reduceLT, e1, e2, e3, e4, e5, e6, e7, e8, e9, a1, a2, a3, a4, a5, a6, a7, a8, a9, b1, b2, b3, b4, b5, b6, b7, b8, b9, c1, c2, c3, c4, c5, c6, c7, c8, c9, d1, d2, d3, d4, d5, d6, k1, k2, k3, k4, k5, k6, g1, g2, g3, g4, g5, g6, hep, heb, het, hpb, hpt, hbt]
      refine S2.intro (fun h => ?_) (fun h => ?_) <;> simp -dsimp only [aqT, aqU, aqN, ↓seqK, ↓blkK, ↓loopK, step, stepBin, Nat.reduceBEq, Nat.reduceBeqDiff, Nat.add_assoc nid, Nat.reduceAdd, reduceCtorEq, ↓reduceIte, Nat.reduceLeDiff, Nat.reduceBneDiff, Option.toList, ← Int.ofNat_tmod, ← Int.ofNat_tdiv, Nat.reduceLT, e1, e2, e3, e4, e5, e6, e7, e8, e9, a1, a2, a3, a4, a5, a6, a7, a8, a9, b1, b2, b3, b4, b5, b6, b7, b8, b9, c1, c2, c3, c4, c5, c6, c7, c8, c9, d1, d2, d3, d4, d5, d6, k1, k2, k3, k4, k5, k6, g1, g2, g3, g4, g5, g6, hep, heb, het, hpb, hpt, hbt]
      · have hln : now.length = v.length := by
          have : ((intsO now).length : Int) = v.length := by simpa using h
          omega
        rw [ovGo_full hcut hln]
        refine CallO.pure (cloneIl_c false (intsO now) _ (by omega) (by omega)) ?_
        unfold litI
        simp -dsimp only [aqT, aqU, aqN, ↓seqK, ↓blkK, ↓loopK, step, stepBin, Nat.reduceBEq, Nat.reduceBeqDiff, Nat.add_assoc nid, Nat.reduceAdd, reduceCtorEq, ↓reduceIte, Nat.reduceLeDiff, Nat.reduceBneDiff, Option.toList, ← Int.ofNat_tmod, ← Int.ofNat_tdiv, Nat.reduceLT, e1, e2, e3, e4, e5, e6, e7, e8, e9, a1, a2, a3, a4, a5, a6, a7, a8, a9, b1, b2, b3, b4, b5, b6, b7, b8, b9, c1, c2, c3, c4, c5, c6, c7, c8, c9, d1, d2, d3, d4, d5, d6, k1, k2, k3, k4, k5, k6, g1, g2, g3, g4, g5, g6, hep, heb, het, hpb, hpt, hbt]
        refine RetOK.go [] [] (.inl rfl) ?_
        simp [cvT, step, res, e1, e2, e3, e4, e5, e6, e7, e8, e9, a1, a2, a3, a4, a5, a6, a7, a8, a9, b1, b2, b3, b4, b5, b6, b7, b8, b9, c1, c2, c3, c4, c5, c6, c7, c8, c9, d1, d2, d3, d4, d5, d6, k1, k2, k3, k4, k5, k6, g1, g2, g3, g4, g5, g6, hep, heb, het, hpb, hpt, hbt, a115, litI, litS, eBoxO, boxVs, bBoxO, tBoxO, bLitO, bLeastO, ColsEq.refl, -List.getD_eq_getElem?_getD]
      · refine ⟨⟨fun e => by rw [hil] at h; simp [e] at h⟩, Cov.go [] [] ?_⟩
        simp [cvT, step, res, e1, e2, e3, e4, e5, e6, e7, e8, e9, a1, a2, a3, a4, a5, a6, a7, a8, a9, b1, b2, b3, b4, b5, b6, b7, b8, b9, c1, c2, c3, c4, c5, c6, c7, c8, c9, d1, d2, d3, d4, d5, d6, k1, k2, k3, k4, k5, k6, g1, g2, g3, g4, g5, g6, hep, heb, het, hpb, hpt, hbt, litI, litS, eBoxO, boxVs, bBoxO, tBoxO, bLitO_cov, ColsEq.refl, -List.getD_eq_getElem?_getD]
    have hfull : now.length ≠ v.length := hfull.down
    rw [ovGo_more hcut hfull]
    refine SR.seqTo ⟨[(27, .int .i64 0), (26, .int .i64 v.length), (0, litI false (intsO now)), (1, .int .i64 sum), (2, .ptr e 0), (3, .ptr p 0), (4, .ptr bb 0), (5, .ptr t 0)], [(e, eBoxO b), (p, boxVs nlv v), (bb, bBoxO b), (t, tBoxO e p bb t)], nid + 300, nid⟩ ?_ ?_
    · unfold eBoxO boxVs bBoxO tBoxO litI litS
      simp -dsimp only [aqT, aqU, aqN, ↓seqK, ↓blkK, ↓loopK, step, stepBin, Nat.reduceBEq, Nat.reduceBeqDiff, Nat.add_assoc nid, Nat.reduceAdd, reduceCtorEq, ↓reduceIte, Nat.reduceLeDiff, Nat.reduceBneDiff, Option.toList, ← Int.ofNat_tmod, ← Int.ofNat_tdiv, Nat.reduceLT, e1, e2, e3, e4, e5, e6, e7, e8, e9, a1, a2, a3, a4, a5, a6, a7, a8, a9, b1, b2, b3, b4, b5, b6, b7, b8, b9, c1, c2, c3, c4, c5, c6, c7, c8, c9, d1, d2, d3, d4, d5, d6, k1, k2, k3, k4, k5, k6, g1, g2, g3, g4, g5, g6, hep, heb, het, hpb, hpt, hbt]
      refine Cov.go [] [] ?_
      simp [cvT, step, res, e1, e2, e3, e4, e5, e6, e7, e8, e9, a1, a2, a3, a4, a5, a6, a7, a8, a9, b1, b2, b3, b4, b5, b6, b7, b8, b9, c1, c2, c3, c4, c5, c6, c7, c8, c9, d1, d2, d3, d4, d5, d6, k1, k2, k3, k4, k5, k6, g1, g2, g3, g4, g5, g6, hep, heb, het, hpb, hpt, hbt, litI, litS, eBoxO, boxVs, bBoxO, tBoxO, bLitO_cov, ColsEq.refl, -List.getD_eq_getElem?_getD]
    refine SR.run (t := .mk) ?_
    simp -dsimp only [aqT, aqU, aqN, ↓seqK, ↓blkK, ↓loopK, step, stepBin, Nat.reduceBEq, Nat.reduceBeqDiff, Nat.add_assoc nid, Nat.reduceAdd, reduceCtorEq, ↓reduceIte, Nat.reduceLeDiff, Nat.reduceBneDiff, Option.toList, ← Int.ofNat_tmod, ← Int.ofNat_tdiv, Nat.reduceLT, e1, e2, e3, e4, e5, e6, e7, e8, e9, a1, a2, a3, a4, a5, a6, a7, a8, a9, b1, b2, b3, b4, b5, b6, b7, b8, b9, c1, c2, c3, c4, c5, c6, c7, c8, c9, d1, d2, d3, d4, d5, d6, k1, k2, k3, k4, k5, k6, g1, g2, g3, g4, g5, g6, hep, heb, het, hpb, hpt, hbt]
    refine LP.mkP (fun k : Nat => k ≤ v.length) (fun k : Nat => ⟨[(27, .int .i64 k), (26, .int .i64 v.length), (0, litI false (intsO now)), (1, .int .i64 sum), (2, .ptr e 0), (3, .ptr p 0), (4, .ptr bb 0), (5, .ptr t 0)],
      [(e, eBoxO (ovTo (dV v) v.length f now sum b k)), (p, boxVs nlv v), (bb, bBoxO (ovTo (dV v) v.length f now sum b k)), (t, tBoxO e p bb t)], nid + 1000, nid⟩) (fun k => v.length + 1 - k) 0 (by omega) (Cov.go [] [] ?_) (fun k hk => ?_)
    · have e0 : ovTo (dV v) v.length f now sum b 0 = b := rfl
      rw [e0]
      simp [cvT, step, res, e1, e2, e3, e4, e5, e6, e7, e8, e9, a1, a2, a3, a4, a5, a6, a7, a8, a9, b1, b2, b3, b4, b5, b6, b7, b8, b9, c1, c2, c3, c4, c5, c6, c7, c8, c9, d1, d2, d3, d4, d5, d6, k1, k2, k3, k4, k5, k6, g1, g2, g3, g4, g5, g6, hep, heb, het, hpb, hpt, hbt, litI, litS, eBoxO, boxVs, bBoxO, tBoxO, bLitO_cov, ColsEq.refl, -List.getD_eq_getElem?_getD]
    have hst := ovTo_succ (D := dV v) (n := v.length) f now sum b k
    have hD : ∀ i j, 0 ≤ dV v i j ∧ dV v i j ≤ 100 := fun i j => by have := dV_bd hv i j; omega
    have hbk := ovTo_ok hD (f := f) (l := now) h0 (by omega) hb k
    unfold eBoxO boxVs bBoxO tBoxO litI litS
    generalize hB : ovTo (dV v) v.length f now sum b k = B at *
    simp -dsimp only [aqT, aqU, aqN, ↓seqK, ↓blkK, ↓loopK, step, stepBin, Nat.reduceBEq, Nat.reduceBeqDiff, Nat.add_assoc nid, Nat.reduceAdd, reduceCtorEq, ↓reduceIte, Nat.reduceLeDiff, Nat.reduceBneDiff, Option.toList, ← Int.ofNat_tmod, ← Int.ofNat_tdiv, Nat.reduceLT, e1, e2, e3, e4, e5, e6, e7, e8, e9, a1, a2, a3, a4, a5, a6, a7, a8, a9, b1, b2, b3, b4, b5, b6, b7, b8, b9, c1, c2, c3, c4, c5, c6, c7, c8, c9, d1, d2, d3, d4, d5, d6, k1, k2, k3, k4, k5, k6, g1, g2, g3, g4, g5, g6, hep, heb, het, hpb, hpt, hbt]
    refine S2.dec (fun h3 => ?_) (fun h3 => ?_) <;> simp -dsimp only [aqT, aqU, aqN, ↓seqK, ↓blkK, ↓loopK, step, stepBin, Nat.reduceBEq, Nat.reduceBeqDiff, Nat.add_assoc nid, Nat.reduceAdd, reduceCtorEq, ↓reduceIte, Nat.reduceLeDiff, Nat.reduceBneDiff, Option.toList, ← Int.ofNat_tmod, ← Int.ofNat_tdiv, Nat.reduceLT, e1, e2, e3, e4, e5, e6, e7, e8, e9, a1, a2, a3, a4, a5, a6, a7, a8, a9, b1, b2, b3, b4, b5, b6, b7, b8, b9, c1, c2, c3, c4, c5, c6, c7, c8, c9, d1, d2, d3, d4, d5, d6, k1, k2, k3, k4, k5, k6, g1, g2, g3, g4, g5, g6, hep, heb, het, hpb, hpt, hbt]
    · refine CallO.pure (contains_c false (intsO now) (k : Int) _ (by omega)) ?_
      rw [intsO_mem]
      have hkv : k < v.length := by omega
      cases hcon : now.contains k <;> simp -dsimp only [aqT, aqU, aqN, ↓seqK, ↓blkK, ↓loopK, step, stepBin, Nat.reduceBEq, Nat.reduceBeqDiff, Nat.add_assoc nid, Nat.reduceAdd, reduceCtorEq, ↓reduceIte, Nat.reduceLeDiff, Nat.reduceBneDiff, Option.toList, ← Int.ofNat_tmod, ← Int.ofNat_tdiv, Nat.reduceLT, e1, e2, e3, e4, e5, e6, e7, e8, e9, a1, a2, a3, a4, a5, a6, a7, a8, a9, b1, b2, b3, b4, b5, b6, b7, b8, b9, c1, c2, c3, c4, c5, c6, c7, c8, c9, d1, d2, d3, d4, d5, d6, k1, k2, k3, k4, k5, k6, g1, g2, g3, g4, g5, g6, hep, heb, het, hpb, hpt, hbt]
      · rw [hcon, if_neg (by simp)] at hst
        refine S2.dec (fun h5 => ?_) (fun h5 => absurd (show (0 : Int) < ((intsO now).length : Nat) by omega) h5) <;> simp -dsimp only [aqT, aqU, aqN, ↓seqK, ↓blkK, ↓loopK, step, stepBin, Nat.reduceBEq, Nat.reduceBeqDiff, Nat.add_assoc nid, Nat.reduceAdd, reduceCtorEq, ↓reduceIte, Nat.reduceLeDiff, Nat.reduceBneDiff, Option.toList, ← Int.ofNat_tmod, ← Int.ofNat_tdiv, Nat.reduceLT, e1, e2, e3, e4, e5, e6, e7, e8, e9, a1, a2, a3, a4, a5, a6, a7, a8, a9, b1, b2, b3, b4, b5, b6, b7, b8, b9, c1, c2, c3, c4, c5, c6, c7, c8, c9, d1, d2, d3, d4, d5, d6, k1, k2, k3, k4, k5, k6, g1, g2, g3, g4, g5, g6, hep, heb, het, hpb, hpt, hbt]
        have hn1 : (((intsO now).length : Int) - 1).toNat = now.length - 1 := by omega
        rw [hn1, intsO_get]
        have hlast : now.getD (now.length - 1) 0 < v.length := hnow _ (by
          rw [List.getD_eq_getElem?_getD, List.getElem?_eq_getElem (show now.length - 1 < now.length by omega)]
          exact List.getElem_mem _)
        have hso : stepO (dV v) now k = dV v (now.getD (now.length - 1) 0) k := by unfold stepO; rw [if_neg (by omega)]
        generalize now.getD (now.length - 1) 0 = L at *
        have hlen : ∀ i, i < v.length → (v.getD i []).length = w := fun i hi => by
          rw [show v.getD i [] = v[i] from by simp [hi]]
          exact hv _ (List.getElem_mem hi)
        refine ⟨by unfold inI64; omega, ⟨by omega, by omega⟩, ⟨by omega, by omega⟩, ⟨by omega, by omega⟩, ?_⟩
        rw [Int.toNat_natCast]
        refine CallX.pure (apartO_c _ _ _ (by rw [hlen L hlast, hlen k hkv]) (by rw [hlen L hlast]; omega)) ?_
        simp -dsimp only [aqT, aqU, aqN, ↓seqK, ↓blkK, ↓loopK, step, stepBin, Nat.reduceBEq, Nat.reduceBeqDiff, Nat.add_assoc nid, Nat.reduceAdd, reduceCtorEq, ↓reduceIte, Nat.reduceLeDiff, Nat.reduceBneDiff, Option.toList, ← Int.ofNat_tmod, ← Int.ofNat_tdiv, Nat.reduceLT, e1, e2, e3, e4, e5, e6, e7, e8, e9, a1, a2, a3, a4, a5, a6, a7, a8, a9, b1, b2, b3, b4, b5, b6, b7, b8, b9, c1, c2, c3, c4, c5, c6, c7, c8, c9, d1, d2, d3, d4, d5, d6, k1, k2, k3, k4, k5, k6, g1, g2, g3, g4, g5, g6, hep, heb, het, hpb, hpt, hbt]
        rw [show ((hamK (v.getD L []) (v.getD k []) (v.getD L []).length : Nat) : Int) = dV v L k from rfl]
        have hdk := hD L k
        rw [← hso] at hdk
        rw [← hso]
        generalize hd : stepO (dV v) now k = d at *
        refine CallX.pure (cloneI_c false (intsO now) _ (by omega) (fun e => by cases e)) ?_
        unfold arrI
        simp -dsimp only [aqT, aqU, aqN, ↓seqK, ↓blkK, ↓loopK, step, stepBin, Nat.reduceBEq, Nat.reduceBeqDiff, Nat.add_assoc nid, Nat.reduceAdd, reduceCtorEq, ↓reduceIte, Nat.reduceLeDiff, Nat.reduceBneDiff, Option.toList, ← Int.ofNat_tmod, ← Int.ofNat_tdiv, Nat.reduceLT, e1, e2, e3, e4, e5, e6, e7, e8, e9, a1, a2, a3, a4, a5, a6, a7, a8, a9, b1, b2, b3, b4, b5, b6, b7, b8, b9, c1, c2, c3, c4, c5, c6, c7, c8, c9, d1, d2, d3, d4, d5, d6, k1, k2, k3, k4, k5, k6, g1, g2, g3, g4, g5, g6, hep, heb, het, hpb, hpt, hbt]
        have hcol := getD_appI (intsO now) (k : Int)
        rw [hcol, show intsO now ++ [((k : Nat) : Int)] = intsO (now ++ [k]) from by simp [intsO]]
        have hf : 0 < f := by omega
        have hl1 : (now ++ [k]).length = now.length + 1 := by simp
        have hl2 : (intsO (now ++ [k])).length = (intsO now).length + 1 := by rw [intsO_len, intsO_len, hl1]
        have hih := fun (nl' : Bool) (nid' : Nat) (h : nid < nid') => tryO_c nlv v w hv hw hn e p bb t hep heb het hpb hpt hbt f (now ++ [k]) nl' (sum + d) B nid' (by omega) (by omega) (by omega) (by omega) (by omega) hf (by omega)
          (fun x hx => by
            rcases List.mem_append.1 hx with hx | hx
            · exact hnow x hx
            · rw [List.mem_singleton] at hx; omega) (by omega) (by rw [hl1]; push_cast; omega) hbk
        unfold eBoxO boxVs bBoxO tBoxO litI litS at hih
        simp only [hl2] at hih
        rw [← hst] at hih
        generalize hB1 : ovTo (dV v) v.length f now sum b (k + 1) = B1 at *
        refine ⟨⟨by omega, by omega⟩, by unfold inI64; omega, CallX.given [nid + 1120] (fun nl' => by
          simp only [lends, lend, aqT, aqU, aqN, ↓seqK, ↓blkK, ↓loopK, step, stepBin, Nat.reduceBEq, Nat.reduceBeqDiff, Nat.add_assoc nid, Nat.reduceAdd, reduceCtorEq, ↓reduceIte, Nat.reduceLeDiff, Nat.reduceBneDiff, Option.toList, ← Int.ofNat_tmod, ← Int.ofNat_tdiv, Nat.reduceLT, e1, e2, e3, e4, e5, e6, e7, e8, e9, a1, a2, a3, a4, a5, a6, a7, a8, a9, b1, b2, b3, b4, b5, b6, b7, b8, b9, c1, c2, c3, c4, c5, c6, c7, c8, c9, d1, d2, d3, d4, d5, d6, k1, k2, k3, k4, k5, k6, g1, g2, g3, g4, g5, g6, hep, heb, het, hpb, hpt, hbt]
          exact hih (nl' _) _ (by omega)) (subH_cons (by simp only [aqT, aqU, aqN, ↓seqK, ↓blkK, ↓loopK, step, stepBin, Nat.reduceBEq, Nat.reduceBeqDiff, Nat.add_assoc nid, Nat.reduceAdd, reduceCtorEq, ↓reduceIte, Nat.reduceLeDiff, Nat.reduceBneDiff, Option.toList, ← Int.ofNat_tmod, ← Int.ofNat_tdiv, Nat.reduceLT, e1, e2, e3, e4, e5, e6, e7, e8, e9, a1, a2, a3, a4, a5, a6, a7, a8, a9, b1, b2, b3, b4, b5, b6, b7, b8, b9, c1, c2, c3, c4, c5, c6, c7, c8, c9, d1, d2, d3, d4, d5, d6, k1, k2, k3, k4, k5, k6, g1, g2, g3, g4, g5, g6, hep, heb, het, hpb, hpt, hbt]) (subH_cons (by simp only [aqT, aqU, aqN, ↓seqK, ↓blkK, ↓loopK, step, stepBin, Nat.reduceBEq, Nat.reduceBeqDiff, Nat.add_assoc nid, Nat.reduceAdd, reduceCtorEq, ↓reduceIte, Nat.reduceLeDiff, Nat.reduceBneDiff, Option.toList, ← Int.ofNat_tmod, ← Int.ofNat_tdiv, Nat.reduceLT, e1, e2, e3, e4, e5, e6, e7, e8, e9, a1, a2, a3, a4, a5, a6, a7, a8, a9, b1, b2, b3, b4, b5, b6, b7, b8, b9, c1, c2, c3, c4, c5, c6, c7, c8, c9, d1, d2, d3, d4, d5, d6, k1, k2, k3, k4, k5, k6, g1, g2, g3, g4, g5, g6, hep, heb, het, hpb, hpt, hbt]) (subH_cons (by simp only [aqT, aqU, aqN, ↓seqK, ↓blkK, ↓loopK, step, stepBin, Nat.reduceBEq, Nat.reduceBeqDiff, Nat.add_assoc nid, Nat.reduceAdd, reduceCtorEq, ↓reduceIte, Nat.reduceLeDiff, Nat.reduceBneDiff, Option.toList, ← Int.ofNat_tmod, ← Int.ofNat_tdiv, Nat.reduceLT, e1, e2, e3, e4, e5, e6, e7, e8, e9, a1, a2, a3, a4, a5, a6, a7, a8, a9, b1, b2, b3, b4, b5, b6, b7, b8, b9, c1, c2, c3, c4, c5, c6, c7, c8, c9, d1, d2, d3, d4, d5, d6, k1, k2, k3, k4, k5, k6, g1, g2, g3, g4, g5, g6, hep, heb, het, hpb, hpt, hbt]) (subH_get (by simp only [aqT, aqU, aqN, ↓seqK, ↓blkK, ↓loopK, step, stepBin, Nat.reduceBEq, Nat.reduceBeqDiff, Nat.add_assoc nid, Nat.reduceAdd, reduceCtorEq, ↓reduceIte, Nat.reduceLeDiff, Nat.reduceBneDiff, Option.toList, ← Int.ofNat_tmod, ← Int.ofNat_tdiv, Nat.reduceLT, e1, e2, e3, e4, e5, e6, e7, e8, e9, a1, a2, a3, a4, a5, a6, a7, a8, a9, b1, b2, b3, b4, b5, b6, b7, b8, b9, c1, c2, c3, c4, c5, c6, c7, c8, c9, d1, d2, d3, d4, d5, d6, k1, k2, k3, k4, k5, k6, g1, g2, g3, g4, g5, g6, hep, heb, het, hpb, hpt, hbt]))))) (by simp [getH, e1, e2, e3, e4, e5, e6, e7, e8, e9, a1, a2, a3, a4, a5, a6, a7, a8, a9, b1, b2, b3, b4, b5, b6, b7, b8, b9, c1, c2, c3, c4, c5, c6, c7, c8, c9, d1, d2, d3, d4, d5, d6, k1, k2, k3, k4, k5, k6, g1, g2, g3, g4, g5, g6, hep, heb, het, hpb, hpt, hbt]) ?_⟩
        simp -dsimp only [aqT, aqU, aqN, ↓seqK, ↓blkK, ↓loopK, step, stepBin, Nat.reduceBEq, Nat.reduceBeqDiff, Nat.add_assoc nid, Nat.reduceAdd, reduceCtorEq, ↓reduceIte, Nat.reduceLeDiff, Nat.reduceBneDiff, Option.toList, ← Int.ofNat_tmod, ← Int.ofNat_tdiv, Nat.reduceLT, e1, e2, e3, e4, e5, e6, e7, e8, e9, a1, a2, a3, a4, a5, a6, a7, a8, a9, b1, b2, b3, b4, b5, b6, b7, b8, b9, c1, c2, c3, c4, c5, c6, c7, c8, c9, d1, d2, d3, d4, d5, d6, k1, k2, k3, k4, k5, k6, g1, g2, g3, g4, g5, g6, hep, heb, het, hpb, hpt, hbt]
        refine ⟨by simp [bLitO_ids], by unfold inI64; omega, k + 1, ⟨by omega, by omega⟩, Cov.go [] [] ?_⟩
        rw [hB1]
        simp [cvT, step, res, e1, e2, e3, e4, e5, e6, e7, e8, e9, a1, a2, a3, a4, a5, a6, a7, a8, a9, b1, b2, b3, b4, b5, b6, b7, b8, b9, c1, c2, c3, c4, c5, c6, c7, c8, c9, d1, d2, d3, d4, d5, d6, k1, k2, k3, k4, k5, k6, g1, g2, g3, g4, g5, g6, hep, heb, het, hpb, hpt, hbt, kill, litI, litS, eBoxO, boxVs, bBoxO, tBoxO, bLitO_cov, ColsEq.refl, -List.getD_eq_getElem?_getD]
      · rw [hcon, if_pos rfl] at hst
        refine ⟨by unfold inI64; omega, k + 1, ⟨by omega, by omega⟩, Cov.go [] [] ?_⟩
        rw [hst]
        simp [cvT, step, res, e1, e2, e3, e4, e5, e6, e7, e8, e9, a1, a2, a3, a4, a5, a6, a7, a8, a9, b1, b2, b3, b4, b5, b6, b7, b8, b9, c1, c2, c3, c4, c5, c6, c7, c8, c9, d1, d2, d3, d4, d5, d6, k1, k2, k3, k4, k5, k6, g1, g2, g3, g4, g5, g6, hep, heb, het, hpb, hpt, hbt, litI, litS, eBoxO, boxVs, bBoxO, tBoxO, bLitO_cov, ColsEq.refl, -List.getD_eq_getElem?_getD]
    · obtain rfl : k = v.length := by omega
      rw [hB]
      refine RetOK.go [] [] (.inr rfl) ?_
      simp [cvT, step, res, e1, e2, e3, e4, e5, e6, e7, e8, e9, a1, a2, a3, a4, a5, a6, a7, a8, a9, b1, b2, b3, b4, b5, b6, b7, b8, b9, c1, c2, c3, c4, c5, c6, c7, c8, c9, d1, d2, d3, d4, d5, d6, k1, k2, k3, k4, k5, k6, g1, g2, g3, g4, g5, g6, hep, heb, het, hpb, hpt, hbt, a115, litI, litS, eBoxO, boxVs, bBoxO, tBoxO, bLitO_cov, ColsEq.refl, -List.getD_eq_getElem?_getD]
end Go.Proofs.YthcldfmlfjomfaaDoor
namespace Go.Proofs.YthcldfmlfjomfaaDoor
open Go.RowKit Go.Lib
theorem index0_c (x : Int) (nid : Nat) : ACall Tryd.prog 155 [.lit true 0 [], .int .i64 x] [] nid (.int .i64 (-1)) [] := by
  refine acall_run c155 (by simp [a155]) ?_
  simp -dsimp only [aqT, aqU, aqN, aqS, ↓seqK, ↓blkK, ↓loopK, step, stepBin, Nat.add_assoc nid, ↓reduceIte, Option.toList, ← Int.ofNat_tmod, ← Int.ofNat_tdiv, simprocAttr, BEq.rfl, LN_succ, a155]
  refine LP.mkP (fun _ : Unit => True) (fun _ => ⟨[(8, .int .i64 0), (7, .int .i64 0)], [], nid + 50, nid⟩) (fun _ => 0) () trivial (Cov.go [] [] ?_) (fun _ _ => ?_)
  · simp [cvT, step, res]
  simp -dsimp only [aqT, aqU, aqN, aqS, ↓seqK, ↓blkK, ↓loopK, step, stepBin, Nat.add_assoc nid, ↓reduceIte, Option.toList, ← Int.ofNat_tmod, ← Int.ofNat_tdiv, simprocAttr, BEq.rfl, LN_succ]
  refine RetOK.pure (.inl rfl) rfl ?_
  simp [cvT, step, res]
theorem contains0_c (x : Int) (nid : Nat) : ACall Tryd.prog 116 [.lit true 0 [], .int .i64 x] [] nid (.bool false) [] := by
  refine acall_run c116 (by simp [a116]) ?_
  simp -dsimp only [aqT, aqU, aqN, aqS, ↓seqK, ↓blkK, ↓loopK, step, stepBin, Nat.add_assoc nid, ↓reduceIte, Option.toList, ← Int.ofNat_tmod, ← Int.ofNat_tdiv, simprocAttr, BEq.rfl, LN_succ, a116]
  refine CallO.pure (index0_c x _) ?_
  simp -dsimp only [aqT, aqU, aqN, aqS, ↓seqK, ↓blkK, ↓loopK, step, stepBin, Nat.add_assoc nid, ↓reduceIte, Option.toList, ← Int.ofNat_tmod, ← Int.ofNat_tdiv, simprocAttr, BEq.rfl, LN_succ]
  refine RetOK.pure (.inl rfl) rfl ?_
  simp [cvT, step, res]
theorem clone0_c (nid : Nat) : ACall Tryd.prog 56 [.lit true 0 []] [] nid (.lit true 0 []) [] := by
  refine acall_run c56 (by simp [a56]) ?_
  simp -dsimp only [aqT, aqU, aqN, aqS, ↓seqK, ↓blkK, ↓loopK, step, stepBin, Nat.add_assoc nid, ↓reduceIte, Option.toList, ← Int.ofNat_tmod, ← Int.ofNat_tdiv, simprocAttr, BEq.rfl, LN_succ, a56]
  refine RetOK.pure (.inl rfl) rfl ?_
  simp [cvT, step, res]
set_option maxHeartbeats 8000000 in
theorem tryO_0 (nlv : Bool) (v : List (List UInt8)) (w : Nat) (hv : ∀ s ∈ v, s.length = w) (hw : w ≤ 100) (hn : v.length ≤ 10) (h0 : 0 < v.length) (e p bb t nid : Nat) (hep : e ≠ p) (heb : e ≠ bb) (het : e ≠ t) (hpb : p ≠ bb) (hpt : p ≠ t) (hbt : bb ≠ t) (he : e < nid) (hp : p < nid) (hb' : bb < nid) (ht : t < nid) :
    ACall Tryd.prog 115 [.lit true 0 [], .int .i64 0, .ptr e 0, .ptr p 0, .ptr bb 0, .ptr t 0] [(e, eBoxO none), (p, boxVs nlv v), (bb, bBoxO none), (t, tBoxO e p bb t)] nid (.tup [])
      [(e, eBoxO (ovGo (dV v) v.length (v.length + 1) [] 0 none)), (bb, bBoxO (ovGo (dV v) v.length (v.length + 1) [] 0 none))] := by
  obtain ⟨e1, e2, e3, e4, e5, e6, e7, e8, e9⟩ := id_all he
  obtain ⟨a1, a2, a3, a4, a5, a6, a7, a8, a9⟩ := id_all hp
  obtain ⟨b1, b2, b3, b4, b5, b6, b7, b8, b9⟩ := id_all hb'
  obtain ⟨c1, c2, c3, c4, c5, c6, c7, c8, c9⟩ := id_all ht
  have d1 : (e == p) = false := by simpa using hep
  have d2 : (e == bb) = false := by simpa using heb
  have d3 : (e == t) = false := by simpa using het
  have d4 : (p == bb) = false := by simpa using hpb
  have d5 : (p == t) = false := by simpa using hpt
  have d6 : (bb == t) = false := by simpa using hbt
  have k1 : (p == e) = false := by simpa using fun x => hep x.symm
  have k2 : (bb == e) = false := by simpa using fun x => heb x.symm
  have k3 : (t == e) = false := by simpa using fun x => het x.symm
  have k4 : (bb == p) = false := by simpa using fun x => hpb x.symm
  have k5 : (t == p) = false := by simpa using fun x => hpt x.symm
  have k6 : (t == bb) = false := by simpa using fun x => hbt x.symm
  have g1 : ¬ p = e := fun x => hep x.symm
  have g2 : ¬ bb = e := fun x => heb x.symm
  have g3 : ¬ t = e := fun x => het x.symm
  have g4 : ¬ bb = p := fun x => hpb x.symm
  have g5 : ¬ t = p := fun x => hpt x.symm
  have g6 : ¬ t = bb := fun x => hbt x.symm
  have hcut : ¬ leO none 0 := fun ⟨_, _, h, _⟩ => by cases h
  have hfull : ([] : List Nat).length ≠ v.length := by simp; omega
  rw [ovGo_more hcut hfull]
  refine acall_sr c115 (by simp [a115]) ?_
  unfold a115
  refine SR.seqTo ⟨[(0, .lit true 0 []), (1, .int .i64 0), (2, .ptr e 0), (3, .ptr p 0), (4, .ptr bb 0), (5, .ptr t 0)], [(e, eBoxO none), (p, boxVs nlv v), (bb, bBoxO none), (t, tBoxO e p bb t)], nid + 100, nid⟩ ?_ ?_
  · unfold eBoxO boxVs bBoxO tBoxO bLitO bLeastO litS
    simp -dsimp only [aqT, aqU, aqN, aqS, ↓seqK, ↓blkK, ↓loopK, step, stepBin, Nat.add_assoc nid, ↓reduceIte, Option.toList, ← Int.ofNat_tmod, ← Int.ofNat_tdiv, simprocAttr, BEq.rfl, LN_succ, e1, e2, e3, e4, e5, e6, e7, e8, e9, a1, a2, a3, a4, a5, a6, a7, a8, a9, b1, b2, b3, b4, b5, b6, b7, b8, b9, c1, c2, c3, c4, c5, c6, c7, c8, c9, d1, d2, d3, d4, d5, d6, k1, k2, k3, k4, k5, k6, g1, g2, g3, g4, g5, g6, hep, heb, het, hpb, hpt, hbt]
    refine Cov.go [] [] ?_
    simp [cvT, step, res, e1, e2, e3, e4, e5, e6, e7, e8, e9, a1, a2, a3, a4, a5, a6, a7, a8, a9, b1, b2, b3, b4, b5, b6, b7, b8, b9, c1, c2, c3, c4, c5, c6, c7, c8, c9, d1, d2, d3, d4, d5, d6, k1, k2, k3, k4, k5, k6, g1, g2, g3, g4, g5, g6, hep, heb, het, hpb, hpt, hbt, litI, litS, eBoxO, boxVs, bBoxO, tBoxO, bLitO, bLeastO, bLitO_cov, ColsEq.refl, -List.getD_eq_getElem?_getD]
  refine SR.seqTo ⟨[(0, .lit true 0 []), (1, .int .i64 0), (2, .ptr e 0), (3, .ptr p 0), (4, .ptr bb 0), (5, .ptr t 0)], [(e, eBoxO none), (p, boxVs nlv v), (bb, bBoxO none), (t, tBoxO e p bb t)], nid + 200, nid⟩ ?_ ?_
  · unfold eBoxO boxVs bBoxO tBoxO bLitO bLeastO litS
    simp -dsimp only [aqT, aqU, aqN, aqS, ↓seqK, ↓blkK, ↓loopK, step, stepBin, Nat.add_assoc nid, ↓reduceIte, Option.toList, ← Int.ofNat_tmod, ← Int.ofNat_tdiv, simprocAttr, BEq.rfl, LN_succ, e1, e2, e3, e4, e5, e6, e7, e8, e9, a1, a2, a3, a4, a5, a6, a7, a8, a9, b1, b2, b3, b4, b5, b6, b7, b8, b9, c1, c2, c3, c4, c5, c6, c7, c8, c9, d1, d2, d3, d4, d5, d6, k1, k2, k3, k4, k5, k6, g1, g2, g3, g4, g5, g6, hep, heb, het, hpb, hpt, hbt]
    rw [show ((0 : Int) == ((v.length : Nat) : Int)) = false from by rw [beq_eq_false_iff_ne]; omega]
    simp -dsimp only [aqT, aqU, aqN, aqS, ↓seqK, ↓blkK, ↓loopK, step, stepBin, Nat.add_assoc nid, ↓reduceIte, Option.toList, ← Int.ofNat_tmod, ← Int.ofNat_tdiv, simprocAttr, BEq.rfl, LN_succ, e1, e2, e3, e4, e5, e6, e7, e8, e9, a1, a2, a3, a4, a5, a6, a7, a8, a9, b1, b2, b3, b4, b5, b6, b7, b8, b9, c1, c2, c3, c4, c5, c6, c7, c8, c9, d1, d2, d3, d4, d5, d6, k1, k2, k3, k4, k5, k6, g1, g2, g3, g4, g5, g6, hep, heb, het, hpb, hpt, hbt]
    refine Cov.go [] [] ?_
    simp [cvT, step, res, e1, e2, e3, e4, e5, e6, e7, e8, e9, a1, a2, a3, a4, a5, a6, a7, a8, a9, b1, b2, b3, b4, b5, b6, b7, b8, b9, c1, c2, c3, c4, c5, c6, c7, c8, c9, d1, d2, d3, d4, d5, d6, k1, k2, k3, k4, k5, k6, g1, g2, g3, g4, g5, g6, hep, heb, het, hpb, hpt, hbt, litI, litS, eBoxO, boxVs, bBoxO, tBoxO, bLitO, bLeastO, bLitO_cov, ColsEq.refl, -List.getD_eq_getElem?_getD]
  refine SR.seqTo ⟨[(27, .int .i64 0), (26, .int .i64 v.length), (0, .lit true 0 []), (1, .int .i64 0), (2, .ptr e 0), (3, .ptr p 0), (4, .ptr bb 0), (5, .ptr t 0)], [(e, eBoxO none), (p, boxVs nlv v), (bb, bBoxO none), (t, tBoxO e p bb t)], nid + 300, nid⟩ ?_ ?_
  · unfold eBoxO boxVs bBoxO tBoxO bLitO bLeastO litS
    simp -dsimp only [aqT, aqU, aqN, aqS, ↓seqK, ↓blkK, ↓loopK, step, stepBin, Nat.add_assoc nid, ↓reduceIte, Option.toList, ← Int.ofNat_tmod, ← Int.ofNat_tdiv, simprocAttr, BEq.rfl, LN_succ, e1, e2, e3, e4, e5, e6, e7, e8, e9, a1, a2, a3, a4, a5, a6, a7, a8, a9, b1, b2, b3, b4, b5, b6, b7, b8, b9, c1, c2, c3, c4, c5, c6, c7, c8, c9, d1, d2, d3, d4, d5, d6, k1, k2, k3, k4, k5, k6, g1, g2, g3, g4, g5, g6, hep, heb, het, hpb, hpt, hbt]
    refine Cov.go [] [] ?_
    simp [cvT, step, res, e1, e2, e3, e4, e5, e6, e7, e8, e9, a1, a2, a3, a4, a5, a6, a7, a8, a9, b1, b2, b3, b4, b5, b6, b7, b8, b9, c1, c2, c3, c4, c5, c6, c7, c8, c9, d1, d2, d3, d4, d5, d6, k1, k2, k3, k4, k5, k6, g1, g2, g3, g4, g5, g6, hep, heb, het, hpb, hpt, hbt, litI, litS, eBoxO, boxVs, bBoxO, tBoxO, bLitO, bLeastO, bLitO_cov, ColsEq.refl, -List.getD_eq_getElem?_getD]
  refine SR.run (t := .mk) ?_
  simp -dsimp only [aqT, aqU, aqN, ↓seqK, ↓blkK, ↓loopK, step, stepBin, Nat.reduceBEq, Nat.reduceBeqDiff, Nat.add_assoc nid, Nat.reduceAdd, reduceCtorEq, ↓reduceIte, Nat.reduceLeDiff, Nat.reduceBneDiff, Option.toList, ← Int.ofNat_tmod, ← Int.ofNat_tdiv, Nat.reduceLT, e1, e2, e3, e4, e5, e6, e7, e8, e9, a1, a2, a3, a4, a5, a6, a7, a8, a9, b1, b2, b3, b4, b5, b6, b7, b8, b9, c1, c2, c3, c4, c5, c6, c7, c8, c9, d1, d2, d3, d4, d5, d6, k1, k2, k3, k4, k5, k6, g1, g2, g3, g4, g5, g6, hep, heb, het, hpb, hpt, hbt]
  refine LP.mkP (fun k : Nat => k ≤ v.length) (fun k : Nat => ⟨[(27, .int .i64 k), (26, .int .i64 v.length), (0, .lit true 0 []), (1, .int .i64 0), (2, .ptr e 0), (3, .ptr p 0), (4, .ptr bb 0), (5, .ptr t 0)], [(e, eBoxO (ovTo (dV v) v.length v.length [] 0 none k)), (p, boxVs nlv v), (bb, bBoxO (ovTo (dV v) v.length v.length [] 0 none k)), (t, tBoxO e p bb t)], nid + 1000, nid⟩) (fun k => v.length + 1 - k) 0 (by omega) (Cov.go [] [] ?_) (fun k hk => ?_)
  · have e0 : ovTo (dV v) v.length v.length [] 0 none 0 = none := rfl
    rw [e0]
    simp [cvT, step, res, e1, e2, e3, e4, e5, e6, e7, e8, e9, a1, a2, a3, a4, a5, a6, a7, a8, a9, b1, b2, b3, b4, b5, b6, b7, b8, b9, c1, c2, c3, c4, c5, c6, c7, c8, c9, d1, d2, d3, d4, d5, d6, k1, k2, k3, k4, k5, k6, g1, g2, g3, g4, g5, g6, hep, heb, het, hpb, hpt, hbt, litI, litS, eBoxO, boxVs, bBoxO, tBoxO, bLitO, bLeastO, bLitO_cov, ColsEq.refl, -List.getD_eq_getElem?_getD]
  have hst := ovTo_succ (D := dV v) (n := v.length) v.length [] 0 none k
  have hD : ∀ i j, 0 ≤ dV v i j ∧ dV v i j ≤ 100 := fun i j => by have := dV_bd hv i j; omega
  have hbk := ovTo_ok (n := v.length) hD (f := v.length) (l := []) (sum := 0) (b := none) (by omega) (by omega) (fun _ _ h => by cases h) k
  unfold eBoxO boxVs bBoxO tBoxO litS
  generalize hB : ovTo (dV v) v.length v.length [] 0 none k = B at *
  simp -dsimp only [aqT, aqU, aqN, aqS, ↓seqK, ↓blkK, ↓loopK, step, stepBin, Nat.add_assoc nid, ↓reduceIte, Option.toList, ← Int.ofNat_tmod, ← Int.ofNat_tdiv, simprocAttr, BEq.rfl, LN_succ, e1, e2, e3, e4, e5, e6, e7, e8, e9, a1, a2, a3, a4, a5, a6, a7, a8, a9, b1, b2, b3, b4, b5, b6, b7, b8, b9, c1, c2, c3, c4, c5, c6, c7, c8, c9, d1, d2, d3, d4, d5, d6, k1, k2, k3, k4, k5, k6, g1, g2, g3, g4, g5, g6, hep, heb, het, hpb, hpt, hbt]
  refine S2.dec (fun h3 => ?_) (fun h3 => ?_) <;> simp -dsimp only [aqT, aqU, aqN, aqS, ↓seqK, ↓blkK, ↓loopK, step, stepBin, Nat.add_assoc nid, ↓reduceIte, Option.toList, ← Int.ofNat_tmod, ← Int.ofNat_tdiv, simprocAttr, BEq.rfl, LN_succ, e1, e2, e3, e4, e5, e6, e7, e8, e9, a1, a2, a3, a4, a5, a6, a7, a8, a9, b1, b2, b3, b4, b5, b6, b7, b8, b9, c1, c2, c3, c4, c5, c6, c7, c8, c9, d1, d2, d3, d4, d5, d6, k1, k2, k3, k4, k5, k6, g1, g2, g3, g4, g5, g6, hep, heb, het, hpb, hpt, hbt]
  · refine CallO.pure (contains0_c (k : Int) _) ?_
    have hkv : k < v.length := by omega
    simp -dsimp only [aqT, aqU, aqN, aqS, ↓seqK, ↓blkK, ↓loopK, step, stepBin, Nat.add_assoc nid, ↓reduceIte, Option.toList, ← Int.ofNat_tmod, ← Int.ofNat_tdiv, simprocAttr, BEq.rfl, LN_succ, e1, e2, e3, e4, e5, e6, e7, e8, e9, a1, a2, a3, a4, a5, a6, a7, a8, a9, b1, b2, b3, b4, b5, b6, b7, b8, b9, c1, c2, c3, c4, c5, c6, c7, c8, c9, d1, d2, d3, d4, d5, d6, k1, k2, k3, k4, k5, k6, g1, g2, g3, g4, g5, g6, hep, heb, het, hpb, hpt, hbt]
    rw [if_neg (by simp)] at hst
    rw [show (0 : Int) + stepO (dV v) [] k = 0 from rfl, List.nil_append] at hst
    refine CallX.pure (clone0_c _) ?_
    simp -dsimp only [aqT, aqU, aqN, aqS, ↓seqK, ↓blkK, ↓loopK, step, stepBin, Nat.add_assoc nid, ↓reduceIte, Option.toList, ← Int.ofNat_tmod, ← Int.ofNat_tdiv, simprocAttr, BEq.rfl, LN_succ, e1, e2, e3, e4, e5, e6, e7, e8, e9, a1, a2, a3, a4, a5, a6, a7, a8, a9, b1, b2, b3, b4, b5, b6, b7, b8, b9, c1, c2, c3, c4, c5, c6, c7, c8, c9, d1, d2, d3, d4, d5, d6, k1, k2, k3, k4, k5, k6, g1, g2, g3, g4, g5, g6, hep, heb, het, hpb, hpt, hbt]
    have hih := fun (nl' : Bool) (nid' : Nat) (h : nid < nid') => tryO_c nlv v w hv hw hn e p bb t hep heb het hpb hpt hbt v.length [k] nl' 0 B nid' (by omega) (by omega) (by omega) (by omega) (by simp; omega) h0 (by simp)
      (fun x hx => by rw [List.mem_singleton] at hx; omega) (by omega) (by simp) hbk
    unfold eBoxO boxVs bBoxO tBoxO litI litS intsO at hih
    simp only [List.map_cons, List.map_nil, List.length_cons, List.length_nil] at hih
    rw [← hst] at hih
    generalize hB1 : ovTo (dV v) v.length v.length [] 0 none (k + 1) = B1 at *
    refine ⟨by unfold inI64; omega, CallX.given [nid + 1060] (fun nl' => by
      simp only [lends, lend, aqT, aqU, aqN, ↓seqK, ↓blkK, ↓loopK, step, stepBin, Nat.reduceBEq, Nat.reduceBeqDiff, Nat.add_assoc nid, Nat.reduceAdd, reduceCtorEq, ↓reduceIte, Nat.reduceLeDiff, Nat.reduceBneDiff, Option.toList, ← Int.ofNat_tmod, ← Int.ofNat_tdiv, Nat.reduceLT, e1, e2, e3, e4, e5, e6, e7, e8, e9, a1, a2, a3, a4, a5, a6, a7, a8, a9, b1, b2, b3, b4, b5, b6, b7, b8, b9, c1, c2, c3, c4, c5, c6, c7, c8, c9, d1, d2, d3, d4, d5, d6, k1, k2, k3, k4, k5, k6, g1, g2, g3, g4, g5, g6, hep, heb, het, hpb, hpt, hbt]
      exact hih (nl' _) _ (by omega)) (subH_cons (by simp only [aqT, aqU, aqN, ↓seqK, ↓blkK, ↓loopK, step, stepBin, Nat.reduceBEq, Nat.reduceBeqDiff, Nat.add_assoc nid, Nat.reduceAdd, reduceCtorEq, ↓reduceIte, Nat.reduceLeDiff, Nat.reduceBneDiff, Option.toList, ← Int.ofNat_tmod, ← Int.ofNat_tdiv, Nat.reduceLT, e1, e2, e3, e4, e5, e6, e7, e8, e9, a1, a2, a3, a4, a5, a6, a7, a8, a9, b1, b2, b3, b4, b5, b6, b7, b8, b9, c1, c2, c3, c4, c5, c6, c7, c8, c9, d1, d2, d3, d4, d5, d6, k1, k2, k3, k4, k5, k6, g1, g2, g3, g4, g5, g6, hep, heb, het, hpb, hpt, hbt]) (subH_cons (by simp only [aqT, aqU, aqN, ↓seqK, ↓blkK, ↓loopK, step, stepBin, Nat.reduceBEq, Nat.reduceBeqDiff, Nat.add_assoc nid, Nat.reduceAdd, reduceCtorEq, ↓reduceIte, Nat.reduceLeDiff, Nat.reduceBneDiff, Option.toList, ← Int.ofNat_tmod, ← Int.ofNat_tdiv, Nat.reduceLT, e1, e2, e3, e4, e5, e6, e7, e8, e9, a1, a2, a3, a4, a5, a6, a7, a8, a9, b1, b2, b3, b4, b5, b6, b7, b8, b9, c1, c2, c3, c4, c5, c6, c7, c8, c9, d1, d2, d3, d4, d5, d6, k1, k2, k3, k4, k5, k6, g1, g2, g3, g4, g5, g6, hep, heb, het, hpb, hpt, hbt]) (subH_cons (by simp only [aqT, aqU, aqN, ↓seqK, ↓blkK, ↓loopK, step, stepBin, Nat.reduceBEq, Nat.reduceBeqDiff, Nat.add_assoc nid, Nat.reduceAdd, reduceCtorEq, ↓reduceIte, Nat.reduceLeDiff, Nat.reduceBneDiff, Option.toList, ← Int.ofNat_tmod, ← Int.ofNat_tdiv, Nat.reduceLT, e1, e2, e3, e4, e5, e6, e7, e8, e9, a1, a2, a3, a4, a5, a6, a7, a8, a9, b1, b2, b3, b4, b5, b6, b7, b8, b9, c1, c2, c3, c4, c5, c6, c7, c8, c9, d1, d2, d3, d4, d5, d6, k1, k2, k3, k4, k5, k6, g1, g2, g3, g4, g5, g6, hep, heb, het, hpb, hpt, hbt]) (subH_get (by simp only [aqT, aqU, aqN, ↓seqK, ↓blkK, ↓loopK, step, stepBin, Nat.reduceBEq, Nat.reduceBeqDiff, Nat.add_assoc nid, Nat.reduceAdd, reduceCtorEq, ↓reduceIte, Nat.reduceLeDiff, Nat.reduceBneDiff, Option.toList, ← Int.ofNat_tmod, ← Int.ofNat_tdiv, Nat.reduceLT, e1, e2, e3, e4, e5, e6, e7, e8, e9, a1, a2, a3, a4, a5, a6, a7, a8, a9, b1, b2, b3, b4, b5, b6, b7, b8, b9, c1, c2, c3, c4, c5, c6, c7, c8, c9, d1, d2, d3, d4, d5, d6, k1, k2, k3, k4, k5, k6, g1, g2, g3, g4, g5, g6, hep, heb, het, hpb, hpt, hbt]))))) (by simp [getH, e1, e2, e3, e4, e5, e6, e7, e8, e9, a1, a2, a3, a4, a5, a6, a7, a8, a9, b1, b2, b3, b4, b5, b6, b7, b8, b9, c1, c2, c3, c4, c5, c6, c7, c8, c9, d1, d2, d3, d4, d5, d6, k1, k2, k3, k4, k5, k6, g1, g2, g3, g4, g5, g6, hep, heb, het, hpb, hpt, hbt]) ?_⟩
    simp -dsimp only [aqT, aqU, aqN, ↓seqK, ↓blkK, ↓loopK, step, stepBin, Nat.reduceBEq, Nat.reduceBeqDiff, Nat.add_assoc nid, Nat.reduceAdd, reduceCtorEq, ↓reduceIte, Nat.reduceLeDiff, Nat.reduceBneDiff, Option.toList, ← Int.ofNat_tmod, ← Int.ofNat_tdiv, Nat.reduceLT, e1, e2, e3, e4, e5, e6, e7, e8, e9, a1, a2, a3, a4, a5, a6, a7, a8, a9, b1, b2, b3, b4, b5, b6, b7, b8, b9, c1, c2, c3, c4, c5, c6, c7, c8, c9, d1, d2, d3, d4, d5, d6, k1, k2, k3, k4, k5, k6, g1, g2, g3, g4, g5, g6, hep, heb, het, hpb, hpt, hbt]
    refine ⟨by simp [bLitO_ids], by unfold inI64; omega, k + 1, ⟨by omega, by omega⟩, Cov.go [] [] ?_⟩
    rw [hB1]
    simp [cvT, step, res, e1, e2, e3, e4, e5, e6, e7, e8, e9, a1, a2, a3, a4, a5, a6, a7, a8, a9, b1, b2, b3, b4, b5, b6, b7, b8, b9, c1, c2, c3, c4, c5, c6, c7, c8, c9, d1, d2, d3, d4, d5, d6, k1, k2, k3, k4, k5, k6, g1, g2, g3, g4, g5, g6, hep, heb, het, hpb, hpt, hbt, kill, litI, litS, eBoxO, boxVs, bBoxO, tBoxO, bLitO_cov, ColsEq.refl, -List.getD_eq_getElem?_getD]
  · obtain rfl : k = v.length := by omega
    rw [hB]
    refine RetOK.go [] [] (.inr rfl) ?_
    simp [cvT, step, res, e1, e2, e3, e4, e5, e6, e7, e8, e9, a1, a2, a3, a4, a5, a6, a7, a8, a9, b1, b2, b3, b4, b5, b6, b7, b8, b9, c1, c2, c3, c4, c5, c6, c7, c8, c9, d1, d2, d3, d4, d5, d6, k1, k2, k3, k4, k5, k6, g1, g2, g3, g4, g5, g6, hep, heb, het, hpb, hpt, hbt, a115, litI, litS, eBoxO, boxVs, bBoxO, tBoxO, bLitO_cov, ColsEq.refl, -List.getD_eq_getElem?_getD]
set_option maxHeartbeats 4000000 in
theorem orderOf_c (nl : Bool) (v : List (List UInt8)) (w nid : Nat) (hv : ∀ s ∈ v, s.length = w) (hw : w ≤ 100) (hn : v.length ≤ 10) (h0 : 0 < v.length) :
    ACall Tryd.prog 50 [litS nl v] [] nid (.tup [litI false (intsO (orderO v)), .int .i64 (sumO v)]) [] := by
  refine acall_run c50 (by simp [a50]) ?_
  unfold litS
  simp -dsimp only [aqT, aqU, aqN, aqS, ↓seqK, ↓blkK, ↓loopK, step, stepBin, Nat.add_assoc nid, ↓reduceIte, Option.toList, ← Int.ofNat_tmod, ← Int.ofNat_tdiv, simprocAttr, BEq.rfl, LN_succ, a50]
  have hov : ovGo (dV v) v.length (v.length + 1) [] 0 none = some (orderO v, sumO v) := ov_all (dV_bd hv) h0
  have h := tryO_0 nl v w hv hw hn h0 (nid + 16) nid (nid + 12) (nid + 24) (nid + 40) (by omega) (by omega) (by omega) (by omega) (by omega) (by omega) (by omega) (by omega) (by omega) (by omega)
  rw [hov] at h
  unfold eBoxO boxVs bBoxO tBoxO bLitO bLeastO litS at h
  refine CallO.on h (subH_cons (by simp only [aqT, aqU, aqN, aqS, ↓seqK, ↓blkK, ↓loopK, step, stepBin, Nat.add_assoc nid, ↓reduceIte, Option.toList, ← Int.ofNat_tmod, ← Int.ofNat_tdiv, simprocAttr, BEq.rfl, LN_succ]) (subH_cons (by simp only [aqT, aqU, aqN, aqS, ↓seqK, ↓blkK, ↓loopK, step, stepBin, Nat.add_assoc nid, ↓reduceIte, Option.toList, ← Int.ofNat_tmod, ← Int.ofNat_tdiv, simprocAttr, BEq.rfl, LN_succ]) (subH_cons (by simp only [aqT, aqU, aqN, aqS, ↓seqK, ↓blkK, ↓loopK, step, stepBin, Nat.add_assoc nid, ↓reduceIte, Option.toList, ← Int.ofNat_tmod, ← Int.ofNat_tdiv, simprocAttr, BEq.rfl, LN_succ]) (subH_get (by simp only [aqT, aqU, aqN, aqS, ↓seqK, ↓blkK, ↓loopK, step, stepBin, Nat.add_assoc nid, ↓reduceIte, Option.toList, ← Int.ofNat_tmod, ← Int.ofNat_tdiv, simprocAttr, BEq.rfl, LN_succ]))))) ?_
  unfold litI
  simp -dsimp only [aqT, aqU, aqN, aqS, ↓seqK, ↓blkK, ↓loopK, step, stepBin, Nat.add_assoc nid, ↓reduceIte, Option.toList, ← Int.ofNat_tmod, ← Int.ofNat_tdiv, simprocAttr, BEq.rfl, LN_succ]
  refine RetOK.pure (.inl rfl) rfl ?_
  simp [cvT, step, res]
set_option maxHeartbeats 4000000 in
theorem tryO_e (nlv : Bool) (e p bb t nid : Nat) (hep : e ≠ p) (heb : e ≠ bb) (het : e ≠ t) (hpb : p ≠ bb) (hpt : p ≠ t) (hbt : bb ≠ t) (he : e < nid) (hp : p < nid) (hb' : bb < nid) (ht : t < nid) :
    ACall Tryd.prog 115 [.lit true 0 [], .int .i64 0, .ptr e 0, .ptr p 0, .ptr bb 0, .ptr t 0] [(e, eBoxO none), (p, boxVs nlv []), (bb, bBoxO none), (t, tBoxO e p bb t)] nid (.tup [])
      [(e, some (.box 3 [.int .i64 0])), (bb, bBoxO none)] := by
  obtain ⟨e1, e2, e3, e4, e5, e6, e7, e8, e9⟩ := id_all he
  obtain ⟨a1, a2, a3, a4, a5, a6, a7, a8, a9⟩ := id_all hp
  obtain ⟨b1, b2, b3, b4, b5, b6, b7, b8, b9⟩ := id_all hb'
  obtain ⟨c1, c2, c3, c4, c5, c6, c7, c8, c9⟩ := id_all ht
  have d1 : (e == p) = false := by simpa using hep
  have d2 : (e == bb) = false := by simpa using heb
  have d3 : (e == t) = false := by simpa using het
  have d4 : (p == bb) = false := by simpa using hpb
  have d5 : (p == t) = false := by simpa using hpt
  have d6 : (bb == t) = false := by simpa using hbt
  have k1 : (p == e) = false := by simpa using fun x => hep x.symm
  have k2 : (bb == e) = false := by simpa using fun x => heb x.symm
  have k3 : (t == e) = false := by simpa using fun x => het x.symm
  have k4 : (bb == p) = false := by simpa using fun x => hpb x.symm
  have k5 : (t == p) = false := by simpa using fun x => hpt x.symm
  have k6 : (t == bb) = false := by simpa using fun x => hbt x.symm
  have g1 : ¬ p = e := fun x => hep x.symm
  have g2 : ¬ bb = e := fun x => heb x.symm
  have g3 : ¬ t = e := fun x => het x.symm
  have g4 : ¬ bb = p := fun x => hpb x.symm
  have g5 : ¬ t = p := fun x => hpt x.symm
  have g6 : ¬ t = bb := fun x => hbt x.symm
  refine acall_run c115 (by simp [a115]) ?_
  unfold eBoxO boxVs bBoxO tBoxO bLitO bLeastO litS
  simp -dsimp only [a115, aqT, aqU, aqN, aqS, ↓seqK, ↓blkK, ↓loopK, step, stepBin, Nat.add_assoc nid, ↓reduceIte, Option.toList, ← Int.ofNat_tmod, ← Int.ofNat_tdiv, simprocAttr, BEq.rfl, LN_succ, e1, e2, e3, e4, e5, e6, e7, e8, e9, a1, a2, a3, a4, a5, a6, a7, a8, a9, b1, b2, b3, b4, b5, b6, b7, b8, b9, c1, c2, c3, c4, c5, c6, c7, c8, c9, d1, d2, d3, d4, d5, d6, k1, k2, k3, k4, k5, k6, g1, g2, g3, g4, g5, g6, hep, heb, het, hpb, hpt, hbt]
  refine CallO.pure (clone0_c _) ?_
  simp -dsimp only [aqT, aqU, aqN, aqS, ↓seqK, ↓blkK, ↓loopK, step, stepBin, Nat.add_assoc nid, ↓reduceIte, Option.toList, ← Int.ofNat_tmod, ← Int.ofNat_tdiv, simprocAttr, BEq.rfl, LN_succ, e1, e2, e3, e4, e5, e6, e7, e8, e9, a1, a2, a3, a4, a5, a6, a7, a8, a9, b1, b2, b3, b4, b5, b6, b7, b8, b9, c1, c2, c3, c4, c5, c6, c7, c8, c9, d1, d2, d3, d4, d5, d6, k1, k2, k3, k4, k5, k6, g1, g2, g3, g4, g5, g6, hep, heb, het, hpb, hpt, hbt]
  refine RetOK.go [] [] (.inl rfl) ?_
  simp [cvT, step, res, e1, e2, e3, e4, e5, e6, e7, e8, e9, a1, a2, a3, a4, a5, a6, a7, a8, a9, b1, b2, b3, b4, b5, b6, b7, b8, b9, c1, c2, c3, c4, c5, c6, c7, c8, c9, d1, d2, d3, d4, d5, d6, k1, k2, k3, k4, k5, k6, g1, g2, g3, g4, g5, g6, hep, heb, het, hpb, hpt, hbt, a115, litI, litS, eBoxO, boxVs, bBoxO, tBoxO, bLitO, bLeastO, ColsEq.refl, -List.getD_eq_getElem?_getD]
theorem orderOf_0 (nl : Bool) (nid : Nat) : ACall Tryd.prog 50 [litS nl []] [] nid (.tup [.lit true 0 [], .int .i64 0]) [] := by
  refine acall_run c50 (by simp [a50]) ?_
  unfold litS
  simp -dsimp only [aqT, aqU, aqN, aqS, ↓seqK, ↓blkK, ↓loopK, step, stepBin, Nat.add_assoc nid, ↓reduceIte, Option.toList, ← Int.ofNat_tmod, ← Int.ofNat_tdiv, simprocAttr, BEq.rfl, LN_succ, a50]
  have h := tryO_e nl (nid + 16) nid (nid + 12) (nid + 24) (nid + 40) (by omega) (by omega) (by omega) (by omega) (by omega) (by omega) (by omega) (by omega) (by omega) (by omega)
  unfold eBoxO boxVs bBoxO tBoxO bLitO bLeastO litS at h
  simp only [List.length_nil] at h
  refine CallO.on h (subH_cons (by simp only [aqT, aqU, aqN, aqS, ↓seqK, ↓blkK, ↓loopK, step, stepBin, Nat.add_assoc nid, ↓reduceIte, Option.toList, ← Int.ofNat_tmod, ← Int.ofNat_tdiv, simprocAttr, BEq.rfl, LN_succ]) (subH_cons (by simp only [aqT, aqU, aqN, aqS, ↓seqK, ↓blkK, ↓loopK, step, stepBin, Nat.add_assoc nid, ↓reduceIte, Option.toList, ← Int.ofNat_tmod, ← Int.ofNat_tdiv, simprocAttr, BEq.rfl, LN_succ]) (subH_cons (by simp only [aqT, aqU, aqN, aqS, ↓seqK, ↓blkK, ↓loopK, step, stepBin, Nat.add_assoc nid, ↓reduceIte, Option.toList, ← Int.ofNat_tmod, ← Int.ofNat_tdiv, simprocAttr, BEq.rfl, LN_succ]) (subH_get (by simp only [aqT, aqU, aqN, aqS, ↓seqK, ↓blkK, ↓loopK, step, stepBin, Nat.add_assoc nid, ↓reduceIte, Option.toList, ← Int.ofNat_tmod, ← Int.ofNat_tdiv, simprocAttr, BEq.rfl, LN_succ]))))) ?_
  simp -dsimp only [aqT, aqU, aqN, aqS, ↓seqK, ↓blkK, ↓loopK, step, stepBin, Nat.add_assoc nid, ↓reduceIte, Option.toList, ← Int.ofNat_tmod, ← Int.ofNat_tdiv, simprocAttr, BEq.rfl, LN_succ]
  refine RetOK.pure (.inl rfl) rfl ?_
  simp [cvT, step, res]
end Go.Proofs.YthcldfmlfjomfaaDoor
namespace Go.Proofs.YthcldfmlfjomfaaDoor
open Go.RowKit Go.Shelf Go.Sort
attribute [local go_sem] Oper.semAt_some
def IntsN (n₀ : Nat) (W : World) (sv : Value) (n : Nat) (g : Nat → Int) : Prop := ∃ A cap, sv = .slice A n cap ∧ (0 < n → ∃ b o, A = some ⟨b, o, none⟩ ∧ b < n₀ ∧ ∀ j, j < n → W.cell? ⟨b, o + j, none⟩ = some ((Value.int .i64) (g j)))
theorem IntsN.below {n₀ : Nat} {A B : World} (h : Below n₀ A B) {sv : Value} {n : Nat} {g : Nat → Int} : IntsN n₀ A sv n g → IntsN n₀ B sv n g
  | ⟨a, cap, e, hs⟩ => ⟨a, cap, e, fun hn => by
    obtain ⟨b, o, e1, hb, hc⟩ := hs hn
    exact ⟨b, o, e1, hb, fun j hj => (h.cell (p := ⟨b, o + j, none⟩) hb).trans (hc j hj)⟩⟩
end Go.Proofs.YthcldfmlfjomfaaDoor
namespace Go.Proofs.YthcldfmlfjomfaaDoor
open Go.RowKit Go.Shelf Go.Sort
attribute [local go_sem] Oper.semAt_some
end Go.Proofs.YthcldfmlfjomfaaDoor
namespace Go.Proofs.YthcldfmlfjomfaaDoor
open Go.RowKit Go.Shelf Go.Sort
attribute [local go_sem] Oper.semAt_some
end Go.Proofs.YthcldfmlfjomfaaDoor
namespace Go.Proofs.YthcldfmlfjomfaaDoor
open Go.RowKit Go.Shelf Go.Sort
end Go.Proofs.YthcldfmlfjomfaaDoor
namespace Go.Proofs.YthcldfmlfjomfaaDoor
open Go.RowKit Go.Shelf Go.Sort
end Go.Proofs.YthcldfmlfjomfaaDoor
namespace Go.Proofs.YthcldfmlfjomfaaDoor
open Go.RowKit Go.Lib
end Go.Proofs.YthcldfmlfjomfaaDoor
