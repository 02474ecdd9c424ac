/-
  Dictionaries that the stream makes, by the abstract machine.
-/
import Derived.Test.YtpifoghhaohhaaaGreatDoorKFC4
import Derived.Test.YtpifoghhaohhaaaGreatDoorKFC3
import Derived.Shelf.Strconv.Itoa3
import Derived.Lib.Bytealg
import Derived.Laws.Externs
set_option linter.unusedVariables false
set_option linter.unusedSimpArgs false
set_option maxRecDepth 100000
namespace Go.Proofs.YtpifoghhaohhaaaGreatDoor
open Go.RowKit Go.Shelf Go.Lib
theorem itoa_cc (n : Nat) (nid : Nat) (hn : n < 100) : ACall Tryz.prog 84 [.int .i64 (n : Nat)] [] nid (.str (Lib.decDigits n)) [] :=
  acall_below (us := [.int .i64 (n : Nat)]) nid Tryz.func84 (by kernel_rfl) (by kernel_rfl) rfl rfl (fun w => by
    have h := Any.strconv_Itoa_small Tryz.lays171 n hn w
    have hf : Tryz.lays171_ren.f 171 = 84 := by kernel_rfl
    rw [hf] at h
    refine h.mono ?_
    rintro e w' ⟨rfl, rfl⟩
    exact ⟨rfl, Below.refl _ _⟩)
def ansL : List (List UInt8) := [[48], [48], [49], [49], [120, 126]]
def ansV (A : List Int) (p : Nat) : List UInt8 := ansL.getD (pickI A p 5) []
theorem ansV_len (A : List Int) (p : Nat) : (ansV A p).length ≤ 2 := by
  unfold ansV
  exact getD_all (P := fun x : List UInt8 => x.length ≤ 2) (by unfold ansL; simp) (pickI_lt A p (n := 5) (by omega))
def boxP (s : Nat) : Option ABlk := some (.box 23 [.ptr s 0])
theorem ans_c (s b nid : Nat) (nl : Bool) (A : List Int) (p : Nat) (hs : s < b) (hb : b < nid) (hp : p ≤ 1099511627775) (hA : A.length ≤ 17592186044416) :
    ACall Tryz.prog 82 [.ptr b 0] [(b, boxP s), (s, strmC nl A p)] nid (.str (ansV A p)) [(s, strmC nl A (p + 1))] := by
  have hs1 : s < nid := by omega
  have n1 : s ≠ b := by omega
  obtain ⟨a1, a2, a3, a4, a5, a6, a7, a8, a9⟩ := id_all hs1; obtain ⟨b1, b2, b3, b4, b5, b6, b7, b8, b9⟩ := id_all hb; have g1 : (s == b) = false := (by simpa using n1); have g2 : (b == s) = false := (by simpa using fun h => n1 h.symm); have m1 : ¬ b = s := fun h => n1 h.symm
  refine acall_run c82 (by simp [a82]) ?_
  unfold boxP
  simp -dsimp only [a82, aqT, aqU, aqN, ↓seqK, ↓blkK, ↓loopK, step, stepBin, Nat.reduceBEq, Nat.reduceBeqDiff, Nat.add_assoc nid, Nat.reduceAdd, reduceCtorEq, ↓reduceIte, Nat.reduceLeDiff, Nat.reduceBneDiff, Option.toList, ← Int.ofNat_tmod, ← Int.ofNat_tdiv, Nat.reduceLT, Int.cast_ofNat_Int, Int.reduceBEq, Int.reduceBNe, Int.reduceLT, Int.reduceLE, Int.reduceAdd, Int.reduceSub, Int.reduceMul, Int.reduceToNat, Int.reduceNeg, Int.reduceTMod, Int.reduceEq, not_false_eq_true, Int.reducePow, Int.reduceFDiv, Nat.reducePow, Nat.reduceSub, Nat.reduceMul, Nat.min_eq_left, Nat.reduceEqDiff, BEq.rfl, Int.tdiv_one, LN_succ, a1, a2, a3, a4, a5, a6, a7, a8, a9, b1, b2, b3, b4, b5, b6, b7, b8, b9, g1, g2, n1, m1, strmC_low]
  refine CallO.some_go (T := 9) (nl := nl) (A := A) (p := p) (g := fun i => ansL.getD i []) (by simp only [aqT, aqU, aqN, ↓seqK, ↓blkK, ↓loopK, step, stepBin, Nat.reduceBEq, Nat.reduceBeqDiff, Nat.add_assoc nid, Nat.reduceAdd, reduceCtorEq, ↓reduceIte, Nat.reduceLeDiff, Nat.reduceBneDiff, Option.toList, ← Int.ofNat_tmod, ← Int.ofNat_tdiv, Nat.reduceLT, Int.cast_ofNat_Int, Int.reduceBEq, Int.reduceBNe, Int.reduceLT, Int.reduceLE, Int.reduceAdd, Int.reduceSub, Int.reduceMul, Int.reduceToNat, Int.reduceNeg, Int.reduceTMod, Int.reduceEq, not_false_eq_true, Int.reducePow, Int.reduceFDiv, Nat.reducePow, Nat.reduceSub, Nat.reduceMul, Nat.min_eq_left, Nat.reduceEqDiff, BEq.rfl, Int.tdiv_one, LN_succ, a1, a2, a3, a4, a5, a6, a7, a8, a9, b1, b2, b3, b4, b5, b6, b7, b8, b9, g1, g2, n1, m1]) (by simp only [aqT, aqU, aqN, ↓seqK, ↓blkK, ↓loopK, step, stepBin, Nat.reduceBEq, Nat.reduceBeqDiff, Nat.add_assoc nid, Nat.reduceAdd, reduceCtorEq, ↓reduceIte, Nat.reduceLeDiff, Nat.reduceBneDiff, Option.toList, ← Int.ofNat_tmod, ← Int.ofNat_tdiv, Nat.reduceLT, Int.cast_ofNat_Int, Int.reduceBEq, Int.reduceBNe, Int.reduceLT, Int.reduceLE, Int.reduceAdd, Int.reduceSub, Int.reduceMul, Int.reduceToNat, Int.reduceNeg, Int.reduceTMod, Int.reduceEq, not_false_eq_true, Int.reducePow, Int.reduceFDiv, Nat.reducePow, Nat.reduceSub, Nat.reduceMul, Nat.min_eq_left, Nat.reduceEqDiff, BEq.rfl, Int.tdiv_one, LN_succ, a1, a2, a3, a4, a5, a6, a7, a8, a9, b1, b2, b3, b4, b5, b6, b7, b8, b9, g1, g2, n1, m1]; rfl) (by simp only [aqT, aqU, aqN, ↓seqK, ↓blkK, ↓loopK, step, stepBin, Nat.reduceBEq, Nat.reduceBeqDiff, Nat.add_assoc nid, Nat.reduceAdd, reduceCtorEq, ↓reduceIte, Nat.reduceLeDiff, Nat.reduceBneDiff, Option.toList, ← Int.ofNat_tmod, ← Int.ofNat_tdiv, Nat.reduceLT, Int.cast_ofNat_Int, Int.reduceBEq, Int.reduceBNe, Int.reduceLT, Int.reduceLE, Int.reduceAdd, Int.reduceSub, Int.reduceMul, Int.reduceToNat, Int.reduceNeg, Int.reduceTMod, Int.reduceEq, not_false_eq_true, Int.reducePow, Int.reduceFDiv, Nat.reducePow, Nat.reduceSub, Nat.reduceMul, Nat.min_eq_left, Nat.reduceEqDiff, BEq.rfl, Int.tdiv_one, LN_succ, a1, a2, a3, a4, a5, a6, a7, a8, a9, b1, b2, b3, b4, b5, b6, b7, b8, b9, g1, g2, n1, m1]) (by omega) (by omega) hA (by omega) (by omega) ?_
  simp -dsimp only [aqT, aqU, aqN, ↓seqK, ↓blkK, ↓loopK, step, stepBin, Nat.reduceBEq, Nat.reduceBeqDiff, Nat.add_assoc nid, Nat.reduceAdd, reduceCtorEq, ↓reduceIte, Nat.reduceLeDiff, Nat.reduceBneDiff, Option.toList, ← Int.ofNat_tmod, ← Int.ofNat_tdiv, Nat.reduceLT, Int.cast_ofNat_Int, Int.reduceBEq, Int.reduceBNe, Int.reduceLT, Int.reduceLE, Int.reduceAdd, Int.reduceSub, Int.reduceMul, Int.reduceToNat, Int.reduceNeg, Int.reduceTMod, Int.reduceEq, not_false_eq_true, Int.reducePow, Int.reduceFDiv, Nat.reducePow, Nat.reduceSub, Nat.reduceMul, Nat.min_eq_left, Nat.reduceEqDiff, BEq.rfl, Int.tdiv_one, LN_succ, a1, a2, a3, a4, a5, a6, a7, a8, a9, b1, b2, b3, b4, b5, b6, b7, b8, b9, g1, g2, n1, m1, strmC_low]
  refine RetOK.go [] [] (.inl rfl) ?_
  simp [a82, retPV, over, keys, List.map_nil, List.map_cons, List.contains_cons, List.contains_nil, Bool.or_false, Bool.or_true, Bool.true_or, Bool.false_or, beq_self_eq_true, cond_true, cond_false, HeapCov, orNil, nilSz, onBlk, srcOf, getH_hit, getH_miss, getH.eq_1, getS_hit, getS_miss, getS.eq_1, BlkCov, PVCovs, PVCov, ColsEq, AColsEq, ACEq, ColEq.refl, liveIds, SlotsCov, List.all_nil, List.all_cons, List.any_nil, List.any_cons, List.nil_append, List.cons_append, inRange, apart, nilBlk, idS1, idS2, readAll, readRes, onAll, step, res, AX.val, List.drop_zero, List.drop_succ_cons, List.take_succ_cons, List.take_zero, a1, a2, a3, a4, a5, a6, a7, a8, a9, b1, b2, b3, b4, b5, b6, b7, b8, b9, g1, g2, n1, m1, strmC, ansV]
abbrev RowL := List (List UInt8 × List (List UInt8))
def rowF (R : RowL) (k : Nat) : List UInt8 := (R.getD k ([], [])).1
def rowR (R : RowL) (k : Nat) : List (List UInt8) := (R.getD k ([], [])).2
def arrR (b : Nat) (R : RowL) : Option ABlk := some (.arr 67 R.length [.s fun k => rowF R k, .o (fun k => b + (100 + k)) (fun k => (rowR R k).length)])
def inR (R : RowL) (c k : Nat) : Option ABlk := if k < c then arrS (rowR R k) else none
def famC (b : Nat) (R : RowL) (c : Nat) : Heap := [(b + 100, inR R c 0), (b + 101, inR R c 1), (b + 102, inR R c 2), (b + 103, inR R c 3), (b + 104, inR R c 4), (b + 105, inR R c 5), (b + 106, inR R c 6)]
def famR (b : Nat) (R : RowL) : Heap := famC b R R.length
theorem famR_snoc (b : Nat) (R : RowL) (x : List UInt8 × List (List UInt8)) : famR b (R ++ [x]) = famC b (R ++ [x]) (R.length + 1) := by unfold famR; rw [List.length_append]; rfl
theorem rowF_old {R : RowL} {x : List UInt8 × List (List UInt8)} {k : Nat} (h : k < R.length) : rowF (R ++ [x]) k = rowF R k := by unfold rowF; rw [List.getD_eq_getElem?_getD, List.getElem?_append_left h, ← List.getD_eq_getElem?_getD]
theorem rowR_old {R : RowL} {x : List UInt8 × List (List UInt8)} {k : Nat} (h : k < R.length) : rowR (R ++ [x]) k = rowR R k := by unfold rowR; rw [List.getD_eq_getElem?_getD, List.getElem?_append_left h, ← List.getD_eq_getElem?_getD]
theorem rowF_new {R : RowL} {x : List UInt8 × List (List UInt8)} {k : Nat} (h : k = R.length) : rowF (R ++ [x]) k = x.1 := by unfold rowF; subst h; simp
theorem rowR_new {R : RowL} {x : List UInt8 × List (List UInt8)} {k : Nat} (h : k = R.length) : rowR (R ++ [x]) k = x.2 := by unfold rowR; subst h; simp
def boxD (g n r m : Nat) : Option ABlk := some (.box 29 [.sl g 0 n, .sl r 0 m])
def namesL : List (List UInt8) := [[], [70], [102, 48], [102, 49], [102, 50], [102, 51], [102, 52], [102, 53], [102, 54]]
structure DictB (most : Nat) (G : List (List UInt8)) (R : RowL) : Prop where
  gl : G.length ≤ most
  gs : ShortRows 101 G
  rl : R.length ≤ 7
  rs : ∀ x ∈ R, x.1 ∈ namesL ∧ x.2.length ≤ most + 1 ∧ ShortRows 101 x.2
def dictP (g0 r0 : Bool) (b : Nat → Bool) (G : List (List UInt8)) (R : RowL) : PV := .agg [.lit g0 G.length [.s fun k => G.getD k []], .lit r0 R.length [.s fun k => rowF R k, .l b (fun k => (rowR R k).length) (fun k => [.s fun j => (rowR R k).getD j []])]]
structure DictX where
  g0 : Bool
  r0 : Bool
  b : Nat → Bool
  G : List (List UInt8)
  R : RowL
  q : Nat
def dropV : Nat → ACode → ACode
  | 0, c => c
  | k + 1, .seq _ b => dropV k b
  | _ + 1, c => c
def headV : ACode → ACode
  | .seq a _ => a
  | c => c
def roundV : ACode → ACode
  | .seq _ (.block _ (.loop (.seq _ (.seq _ (.seq x _))))) => x
  | c => c
theorem decDigits_len {n : Nat} (h : n < 10) : (Lib.decDigits n).length = 1 := by
  unfold Lib.decDigits
  rw [dif_pos h]
  rfl
def faultN (i : Nat) : List UInt8 := [102] ++ Lib.decDigits i
theorem faultN_mem {i : Nat} (h : i < 7) : faultN i ∈ namesL := by
  have e : i = 0 ∨ i = 1 ∨ i = 2 ∨ i = 3 ∨ i = 4 ∨ i = 5 ∨ i = 6 := by omega
  rcases e with rfl | rfl | rfl | rfl | rfl | rfl | rfl <;> (unfold faultN Lib.decDigits; rw [dif_pos (by omega)]; decide)
set_option maxHeartbeats 8000000 in
theorem dict_round (s nid : Nat) (nl : Bool) (A : List Int) (q m n : Nat) (G : List (List UInt8)) (R : RowL) (h : s < nid) (hq : q ≤ 1099500001000) (hA : A.length ≤ 17592186044416) (hG : G.length = m) (hm0 : 1 ≤ m) (hm : m ≤ 6) (hG2 : ShortRows 2 G) (hi : R.length = 0 ∨ R.length = 1 ∨ R.length = 2 ∨ R.length = 3 ∨ R.length = 4 ∨ R.length = 5 ∨ R.length = 6) (Q : AEx → ST → Prop) :
    SR Tryz.prog (roundV (headV (dropV 4 a14.body))) ⟨[(31, .bool true), (30, .int .i64 R.length), (29, .int .i64 (n : Nat)), (8, .fn 82 [.ptr nid 0]), (7, .ptr (nid + 8) 0), (6, .ptr (nid + 4) 0), (3, .ptr nid 0)], [(nid, boxP s), (nid + 4, some (.box 29 [.lit true 0 [], .lit true 0 []])), (nid + 8, boxD (nid + 20) G.length (nid + 24) R.length), (nid + 20, arrS G), (s, strmC nl A q), (nid + 24, arrR nid R)] ++ famR nid R, nid + 1200, nid⟩
      (seqK (fun st => ∃ L : {L : List (List UInt8) // L.length = m ∧ ShortRows 2 L}, Cov st ⟨[(30, .int .i64 R.length), (29, .int .i64 (n : Nat)), (8, .fn 82 [.ptr nid 0]), (7, .ptr (nid + 8) 0), (6, .ptr (nid + 4) 0), (3, .ptr nid 0)], [(nid, boxP s), (nid + 4, some (.box 29 [.lit true 0 [], .lit true 0 []])), (nid + 8, boxD (nid + 20) G.length (nid + 24) (R.length + 1)), (nid + 20, arrS G), (s, strmC nl A (q + 2 * m)), (nid + 24, arrR nid (R ++ [(faultN R.length, L.1)]))] ++ famR nid (R ++ [(faultN R.length, L.1)]), nid + 1180, nid⟩) Q) .mk := by
  obtain ⟨e1, e2, e3, e4, e5, e6, e7, e8, e9⟩ := id_all h
  simp only [a14, dropV, headV, roundV]
  have hdl := decDigits_len (n := R.length) (by omega)
  have hf0 : ∀ c, R.length = c → famR nid R = famC nid R c := fun c hc => by rw [← hc]; rfl
  have hrl : R.length ≤ 6 := by omega
  refine SR.block ?_
  refine SR.seq ?_
  unfold boxP boxD arrS arrR
  rcases hi with hi | hi | hi | hi | hi | hi | hi
  all_goals
    rw [hf0 _ hi]
    unfold famC inR arrS
    simp -dsimp only [aqT, aqU, aqN, ↓seqK, ↓blkK, ↓loopK, step, stepBin, Nat.reduceBEq, Nat.reduceBeqDiff, Nat.add_assoc nid, Nat.reduceAdd, reduceCtorEq, ↓reduceIte, Nat.reduceLeDiff, Nat.reduceBneDiff, Option.toList, ← Int.ofNat_tmod, ← Int.ofNat_tdiv, Nat.reduceLT, Int.cast_ofNat_Int, Int.reduceBEq, Int.reduceBNe, Int.reduceLT, Int.reduceLE, Int.reduceAdd, Int.reduceSub, Int.reduceMul, Int.reduceToNat, Int.reduceNeg, Int.reduceTMod, Int.reduceEq, not_false_eq_true, Int.reducePow, Int.reduceFDiv, Nat.reducePow, Nat.reduceSub, Nat.reduceMul, Nat.min_eq_left, Nat.reduceEqDiff, BEq.rfl, Int.tdiv_one, LN_succ, e1, e2, e3, e4, e5, e6, e7, e8, e9, strmC_low, Nat.reduceLT, Nat.lt_irrefl, if_true, if_false]
    refine SR.seq ?_
    simp -dsimp only [aqT, aqU, aqN, ↓seqK, ↓blkK, ↓loopK, step, stepBin, Nat.reduceBEq, Nat.reduceBeqDiff, Nat.add_assoc nid, Nat.reduceAdd, reduceCtorEq, ↓reduceIte, Nat.reduceLeDiff, Nat.reduceBneDiff, Option.toList, ← Int.ofNat_tmod, ← Int.ofNat_tdiv, Nat.reduceLT, Int.cast_ofNat_Int, Int.reduceBEq, Int.reduceBNe, Int.reduceLT, Int.reduceLE, Int.reduceAdd, Int.reduceSub, Int.reduceMul, Int.reduceToNat, Int.reduceNeg, Int.reduceTMod, Int.reduceEq, not_false_eq_true, Int.reducePow, Int.reduceFDiv, Nat.reducePow, Nat.reduceSub, Nat.reduceMul, Nat.min_eq_left, Nat.reduceEqDiff, BEq.rfl, Int.tdiv_one, LN_succ, e1, e2, e3, e4, e5, e6, e7, e8, e9, strmC_low]
    refine CallO.pure (itoa_cc R.length _ (by omega)) ?_
    simp -dsimp only [aqT, aqU, aqN, ↓seqK, ↓blkK, ↓loopK, step, stepBin, Nat.reduceBEq, Nat.reduceBeqDiff, Nat.add_assoc nid, Nat.reduceAdd, reduceCtorEq, ↓reduceIte, Nat.reduceLeDiff, Nat.reduceBneDiff, Option.toList, ← Int.ofNat_tmod, ← Int.ofNat_tdiv, Nat.reduceLT, Int.cast_ofNat_Int, Int.reduceBEq, Int.reduceBNe, Int.reduceLT, Int.reduceLE, Int.reduceAdd, Int.reduceSub, Int.reduceMul, Int.reduceToNat, Int.reduceNeg, Int.reduceTMod, Int.reduceEq, not_false_eq_true, Int.reducePow, Int.reduceFDiv, Nat.reducePow, Nat.reduceSub, Nat.reduceMul, Nat.min_eq_left, Nat.reduceEqDiff, BEq.rfl, Int.tdiv_one, LN_succ, e1, e2, e3, e4, e5, e6, e7, e8, e9, strmC_low]
    refine ⟨by rw [hdl]; simp, ?_⟩
    refine SR.seqW (ι := {L : List (List UInt8) // L.length = m ∧ ShortRows 2 L}) (fun L => ⟨[(10, .ptr (nid + 28) 0), (30, .int .i64 R.length), (29, .int .i64 (n : Nat)), (8, .fn 82 [.ptr nid 0]), (7, .ptr (nid + 8) 0), (6, .ptr (nid + 4) 0), (3, .ptr nid 0)], [(nid + 28, some (.box 67 [.str (faultN R.length), .sl (nid + 32) 0 L.1.length])), (nid + 32, arrS L.1), (nid, boxP s), (nid + 4, some (.box 29 [.lit true 0 [], .lit true 0 []])), (nid + 8, boxD (nid + 20) G.length (nid + 24) R.length), (nid + 20, arrS G), (s, strmC nl A (q + 2 * m)), (nid + 24, arrR nid R)] ++ famR nid R, nid + 2400, nid⟩) ?_ (fun ⟨L, hL1, hL2⟩ => ?_)
    · refine SR.seqTo ⟨[(40, .int .i64 0), (39, .int .i64 G.length), (38, .sl (nid + 20) 0 G.length), (10, .ptr (nid + 28) 0), (30, .int .i64 R.length), (29, .int .i64 (n : Nat)), (8, .fn 82 [.ptr nid 0]), (7, .ptr (nid + 8) 0), (6, .ptr (nid + 4) 0), (3, .ptr nid 0)], [(nid + 28, some (.box 67 [.str (faultN R.length), .lit true 0 []])), (nid, boxP s), (nid + 4, some (.box 29 [.lit true 0 [], .lit true 0 []])), (nid + 8, boxD (nid + 20) G.length (nid + 24) R.length), (nid + 20, arrS G), (s, strmC nl A q), (nid + 24, arrR nid R)] ++ famR nid R, nid + 1400, nid⟩ ?_ ?_
      · simp -dsimp only [aqT, aqU, aqN, ↓seqK, ↓blkK, ↓loopK, step, stepBin, Nat.reduceBEq, Nat.reduceBeqDiff, Nat.add_assoc nid, Nat.reduceAdd, reduceCtorEq, ↓reduceIte, Nat.reduceLeDiff, Nat.reduceBneDiff, Option.toList, ← Int.ofNat_tmod, ← Int.ofNat_tdiv, Nat.reduceLT, Int.cast_ofNat_Int, Int.reduceBEq, Int.reduceBNe, Int.reduceLT, Int.reduceLE, Int.reduceAdd, Int.reduceSub, Int.reduceMul, Int.reduceToNat, Int.reduceNeg, Int.reduceTMod, Int.reduceEq, not_false_eq_true, Int.reducePow, Int.reduceFDiv, Nat.reducePow, Nat.reduceSub, Nat.reduceMul, Nat.min_eq_left, Nat.reduceEqDiff, BEq.rfl, Int.tdiv_one, LN_succ, e1, e2, e3, e4, e5, e6, e7, e8, e9, strmC_low]
        refine Cov.go [(nid + 28, nid + 1224)] [] ?_
        rw [hf0 _ hi]
        simp [retPV, over, keys, List.map_nil, List.map_cons, List.contains_cons, List.contains_nil, Bool.or_false, Bool.or_true, Bool.true_or, Bool.false_or, beq_self_eq_true, cond_true, cond_false, HeapCov, orNil, nilSz, onBlk, srcOf, getH_hit, getH_miss, getH.eq_1, getS_hit, getS_miss, getS.eq_1, BlkCov, PVCovs, PVCov, ColsEq, AColsEq, ACEq, ColEq.refl, liveIds, SlotsCov, List.all_nil, List.all_cons, List.any_nil, List.any_cons, List.nil_append, List.cons_append, inRange, apart, nilBlk, idS1, idS2, readAll, readRes, onAll, step, res, AX.val, List.drop_zero, List.drop_succ_cons, List.take_succ_cons, List.take_zero, e1, e2, e3, e4, e5, e6, e7, e8, e9, strmC, famC, inR, boxP, boxD, arrS, arrR, faultN, -List.getD_eq_getElem?_getD, -List.length_append]
        exact fun j hj => ⟨by first | omega | (rw [show (nid + 28 == nid + (100 + j)) = false by simp; omega]; rfl), by omega⟩
      refine SR.run (t := .mk) ?_
      rw [hf0 _ hi]
      unfold famC inR boxP boxD arrS arrR
      simp -dsimp only [aqT, aqU, aqN, ↓seqK, ↓blkK, ↓loopK, step, stepBin, Nat.reduceBEq, Nat.reduceBeqDiff, Nat.add_assoc nid, Nat.reduceAdd, reduceCtorEq, ↓reduceIte, Nat.reduceLeDiff, Nat.reduceBneDiff, Option.toList, ← Int.ofNat_tmod, ← Int.ofNat_tdiv, Nat.reduceLT, Int.cast_ofNat_Int, Int.reduceBEq, Int.reduceBNe, Int.reduceLT, Int.reduceLE, Int.reduceAdd, Int.reduceSub, Int.reduceMul, Int.reduceToNat, Int.reduceNeg, Int.reduceTMod, Int.reduceEq, not_false_eq_true, Int.reducePow, Int.reduceFDiv, Nat.reducePow, Nat.reduceSub, Nat.reduceMul, Nat.min_eq_left, Nat.reduceEqDiff, BEq.rfl, Int.tdiv_one, LN_succ, e1, e2, e3, e4, e5, e6, e7, e8, e9, strmC_low, Nat.reduceLT, Nat.lt_irrefl, if_true, if_false]
      refine LP.mkP (fun L : List (List UInt8) => L.length ≤ m ∧ ShortRows 2 L) (fun L => ⟨[(40, .int .i64 L.length), (39, .int .i64 G.length), (38, .sl (nid + 20) 0 G.length), (10, .ptr (nid + 28) 0), (30, .int .i64 R.length), (29, .int .i64 (n : Nat)), (8, .fn 82 [.ptr nid 0]), (7, .ptr (nid + 8) 0), (6, .ptr (nid + 4) 0), (3, .ptr nid 0)], [(nid + 28, some (.box 67 [.str (faultN R.length), .sl (nid + 32) 0 L.length])), (nid + 32, arrS L), (nid, boxP s), (nid + 4, some (.box 29 [.lit true 0 [], .lit true 0 []])), (nid + 8, boxD (nid + 20) G.length (nid + 24) R.length), (nid + 20, arrS G), (s, strmC nl A (q + 2 * L.length)), (nid + 24, arrR nid R)] ++ famR nid R, nid + 1600, nid⟩) (fun L => m + 1 - L.length) [] ⟨by simp, fun r hr => by simp at hr⟩ (Cov.go [] [(nid + 32, 1)] ?_) (fun L hL => ?_)
      · rw [hf0 _ hi]
        simp [retPV, over, keys, List.map_nil, List.map_cons, List.contains_cons, List.contains_nil, Bool.or_false, Bool.or_true, Bool.true_or, Bool.false_or, beq_self_eq_true, cond_true, cond_false, HeapCov, orNil, nilSz, onBlk, srcOf, getH_hit, getH_miss, getH.eq_1, getS_hit, getS_miss, getS.eq_1, BlkCov, PVCovs, PVCov, ColsEq, AColsEq, ACEq, ColEq.refl, liveIds, SlotsCov, List.all_nil, List.all_cons, List.any_nil, List.any_cons, List.nil_append, List.cons_append, inRange, apart, nilBlk, idS1, idS2, readAll, readRes, onAll, step, res, AX.val, List.drop_zero, List.drop_succ_cons, List.take_succ_cons, List.take_zero, e1, e2, e3, e4, e5, e6, e7, e8, e9, strmC, famC, inR, boxP, boxD, arrS, arrR, faultN, -List.getD_eq_getElem?_getD, -List.length_append]
        exact fun j hj => ⟨by first | omega | (rw [show (nid + 28 == nid + (100 + j)) = false by simp; omega]; rfl), by omega⟩
      obtain ⟨hL1, hL2⟩ := hL
      rw [hf0 _ hi]
      unfold famC inR boxP boxD arrS arrR
      simp -dsimp only [aqT, aqU, aqN, ↓seqK, ↓blkK, ↓loopK, step, stepBin, Nat.reduceBEq, Nat.reduceBeqDiff, Nat.add_assoc nid, Nat.reduceAdd, reduceCtorEq, ↓reduceIte, Nat.reduceLeDiff, Nat.reduceBneDiff, Option.toList, ← Int.ofNat_tmod, ← Int.ofNat_tdiv, Nat.reduceLT, Int.cast_ofNat_Int, Int.reduceBEq, Int.reduceBNe, Int.reduceLT, Int.reduceLE, Int.reduceAdd, Int.reduceSub, Int.reduceMul, Int.reduceToNat, Int.reduceNeg, Int.reduceTMod, Int.reduceEq, not_false_eq_true, Int.reducePow, Int.reduceFDiv, Nat.reducePow, Nat.reduceSub, Nat.reduceMul, Nat.min_eq_left, Nat.reduceEqDiff, BEq.rfl, Int.tdiv_one, LN_succ, e1, e2, e3, e4, e5, e6, e7, e8, e9, strmC_low, Nat.reduceLT, Nat.lt_irrefl, if_true, if_false]
      refine S2.dec (fun h3 => ?_) (fun h3 => ?_) <;> simp -dsimp only [aqT, aqU, aqN, ↓seqK, ↓blkK, ↓loopK, step, stepBin, Nat.reduceBEq, Nat.reduceBeqDiff, Nat.add_assoc nid, Nat.reduceAdd, reduceCtorEq, ↓reduceIte, Nat.reduceLeDiff, Nat.reduceBneDiff, Option.toList, ← Int.ofNat_tmod, ← Int.ofNat_tdiv, Nat.reduceLT, Int.cast_ofNat_Int, Int.reduceBEq, Int.reduceBNe, Int.reduceLT, Int.reduceLE, Int.reduceAdd, Int.reduceSub, Int.reduceMul, Int.reduceToNat, Int.reduceNeg, Int.reduceTMod, Int.reduceEq, not_false_eq_true, Int.reducePow, Int.reduceFDiv, Nat.reducePow, Nat.reduceSub, Nat.reduceMul, Nat.min_eq_left, Nat.reduceEqDiff, BEq.rfl, Int.tdiv_one, LN_succ, e1, e2, e3, e4, e5, e6, e7, e8, e9, strmC_low]
      · have hLG : L.length < G.length := by omega
        have hgl := hG2.at L.length
        have hal := ansV_len A (q + 2 * L.length)
        refine ⟨⟨by omega, by omega⟩, ?_⟩
        refine CallX.on (ans_c s nid _ nl A (q + 2 * L.length) h (by omega) (by omega) hA) (subH_cons (by simp only [aqT, aqU, aqN, ↓seqK, ↓blkK, ↓loopK, step, stepBin, Nat.reduceBEq, Nat.reduceBeqDiff, Nat.add_assoc nid, Nat.reduceAdd, reduceCtorEq, ↓reduceIte, Nat.reduceLeDiff, Nat.reduceBneDiff, Option.toList, ← Int.ofNat_tmod, ← Int.ofNat_tdiv, Nat.reduceLT, e1, e2, e3, e4, e5, e6, e7, e8, e9, Int.cast_ofNat_Int, Int.reduceBEq, Int.reduceBNe, Int.reduceLT, Int.reduceLE, Int.reduceAdd, Int.reduceSub, Int.reduceMul, Int.reduceToNat, Int.reduceNeg, Int.reduceTMod, Int.reduceEq, not_false_eq_true, Int.reducePow, Int.reduceFDiv, Nat.reducePow, Nat.reduceSub, Nat.reduceMul, Nat.min_eq_left, Nat.reduceEqDiff, BEq.rfl, Int.tdiv_one, LN_succ, boxP]) (subH_get (by simp only [aqT, aqU, aqN, ↓seqK, ↓blkK, ↓loopK, step, stepBin, Nat.reduceBEq, Nat.reduceBeqDiff, Nat.add_assoc nid, Nat.reduceAdd, reduceCtorEq, ↓reduceIte, Nat.reduceLeDiff, Nat.reduceBneDiff, Option.toList, ← Int.ofNat_tmod, ← Int.ofNat_tdiv, Nat.reduceLT, Int.cast_ofNat_Int, Int.reduceBEq, Int.reduceBNe, Int.reduceLT, Int.reduceLE, Int.reduceAdd, Int.reduceSub, Int.reduceMul, Int.reduceToNat, Int.reduceNeg, Int.reduceTMod, Int.reduceEq, not_false_eq_true, Int.reducePow, Int.reduceFDiv, Nat.reducePow, Nat.reduceSub, Nat.reduceMul, Nat.min_eq_left, Nat.reduceEqDiff, BEq.rfl, Int.tdiv_one, LN_succ, e1, e2, e3, e4, e5, e6, e7, e8, e9]))) ?_
        simp -dsimp only [aqT, aqU, aqN, ↓seqK, ↓blkK, ↓loopK, step, stepBin, Nat.reduceBEq, Nat.reduceBeqDiff, Nat.add_assoc nid, Nat.reduceAdd, reduceCtorEq, ↓reduceIte, Nat.reduceLeDiff, Nat.reduceBneDiff, Option.toList, ← Int.ofNat_tmod, ← Int.ofNat_tdiv, Nat.reduceLT, Int.cast_ofNat_Int, Int.reduceBEq, Int.reduceBNe, Int.reduceLT, Int.reduceLE, Int.reduceAdd, Int.reduceSub, Int.reduceMul, Int.reduceToNat, Int.reduceNeg, Int.reduceTMod, Int.reduceEq, not_false_eq_true, Int.reducePow, Int.reduceFDiv, Nat.reducePow, Nat.reduceSub, Nat.reduceMul, Nat.min_eq_left, Nat.reduceEqDiff, BEq.rfl, Int.tdiv_one, LN_succ, e1, e2, e3, e4, e5, e6, e7, e8, e9, strmC_low]
        refine ⟨by simp, ?_⟩
        refine CallX.some_go (T := 9) (nl := nl) (A := A) (p := q + 2 * L.length + 1) (g := fun i => [G.getD L.length [], G.getD L.length [], ansV A (q + 2 * L.length)].getD i []) (by simp only [aqT, aqU, aqN, ↓seqK, ↓blkK, ↓loopK, step, stepBin, Nat.reduceBEq, Nat.reduceBeqDiff, Nat.add_assoc nid, Nat.reduceAdd, reduceCtorEq, ↓reduceIte, Nat.reduceLeDiff, Nat.reduceBneDiff, Option.toList, ← Int.ofNat_tmod, ← Int.ofNat_tdiv, Nat.reduceLT, Int.cast_ofNat_Int, Int.reduceBEq, Int.reduceBNe, Int.reduceLT, Int.reduceLE, Int.reduceAdd, Int.reduceSub, Int.reduceMul, Int.reduceToNat, Int.reduceNeg, Int.reduceTMod, Int.reduceEq, not_false_eq_true, Int.reducePow, Int.reduceFDiv, Nat.reducePow, Nat.reduceSub, Nat.reduceMul, Nat.min_eq_left, Nat.reduceEqDiff, BEq.rfl, Int.tdiv_one, LN_succ, e1, e2, e3, e4, e5, e6, e7, e8, e9]) (by simp only [aqT, aqU, aqN, ↓seqK, ↓blkK, ↓loopK, step, stepBin, Nat.reduceBEq, Nat.reduceBeqDiff, Nat.add_assoc nid, Nat.reduceAdd, reduceCtorEq, ↓reduceIte, Nat.reduceLeDiff, Nat.reduceBneDiff, Option.toList, ← Int.ofNat_tmod, ← Int.ofNat_tdiv, Nat.reduceLT, Int.cast_ofNat_Int, Int.reduceBEq, Int.reduceBNe, Int.reduceLT, Int.reduceLE, Int.reduceAdd, Int.reduceSub, Int.reduceMul, Int.reduceToNat, Int.reduceNeg, Int.reduceTMod, Int.reduceEq, not_false_eq_true, Int.reducePow, Int.reduceFDiv, Nat.reducePow, Nat.reduceSub, Nat.reduceMul, Nat.min_eq_left, Nat.reduceEqDiff, BEq.rfl, Int.tdiv_one, LN_succ, e1, e2, e3, e4, e5, e6, e7, e8, e9]) (by simp only [aqT, aqU, aqN, ↓seqK, ↓blkK, ↓loopK, step, stepBin, Nat.reduceBEq, Nat.reduceBeqDiff, Nat.add_assoc nid, Nat.reduceAdd, reduceCtorEq, ↓reduceIte, Nat.reduceLeDiff, Nat.reduceBneDiff, Option.toList, ← Int.ofNat_tmod, ← Int.ofNat_tdiv, Nat.reduceLT, Int.cast_ofNat_Int, Int.reduceBEq, Int.reduceBNe, Int.reduceLT, Int.reduceLE, Int.reduceAdd, Int.reduceSub, Int.reduceMul, Int.reduceToNat, Int.reduceNeg, Int.reduceTMod, Int.reduceEq, not_false_eq_true, Int.reducePow, Int.reduceFDiv, Nat.reducePow, Nat.reduceSub, Nat.reduceMul, Nat.min_eq_left, Nat.reduceEqDiff, BEq.rfl, Int.tdiv_one, LN_succ, e1, e2, e3, e4, e5, e6, e7, e8, e9]) (by omega) (by omega) hA (by omega) (by omega) ?_
        have hb := getD_all (P := fun x : List UInt8 => x.length ≤ 2) (l := [G.getD L.length [], G.getD L.length [], ansV A (q + 2 * L.length)]) (d := []) (by intro x hx; simp only [List.mem_cons, List.not_mem_nil, or_false] at hx; rcases hx with rfl | rfl | rfl <;> assumption) (pickI_lt A (q + 2 * L.length + 1) (n := 3) (by omega))
        generalize ([G.getD L.length [], G.getD L.length [], ansV A (q + 2 * L.length)].getD (pickI A (q + 2 * L.length + 1) 3) [] : List UInt8) = v at hb ⊢
        simp -dsimp only [aqT, aqU, aqN, ↓seqK, ↓blkK, ↓loopK, step, stepBin, Nat.reduceBEq, Nat.reduceBeqDiff, Nat.add_assoc nid, Nat.reduceAdd, reduceCtorEq, ↓reduceIte, Nat.reduceLeDiff, Nat.reduceBneDiff, Option.toList, ← Int.ofNat_tmod, ← Int.ofNat_tdiv, Nat.reduceLT, Int.cast_ofNat_Int, Int.reduceBEq, Int.reduceBNe, Int.reduceLT, Int.reduceLE, Int.reduceAdd, Int.reduceSub, Int.reduceMul, Int.reduceToNat, Int.reduceNeg, Int.reduceTMod, Int.reduceEq, not_false_eq_true, Int.reducePow, Int.reduceFDiv, Nat.reducePow, Nat.reduceSub, Nat.reduceMul, Nat.min_eq_left, Nat.reduceEqDiff, BEq.rfl, Int.tdiv_one, LN_succ, e1, e2, e3, e4, e5, e6, e7, e8, e9, strmC_low]
        rw [getD_app1 L v rfl]
        have hl : (L ++ [v]).length = L.length + 1 := by simp
        refine ⟨by omega, by unfold inI64; omega, L ++ [v], ⟨⟨by omega, hL2.snoc hb⟩, by omega⟩, Cov.go [(nid + 32, nid + 1656)] [] ?_⟩
        simp [retPV, over, keys, List.map_nil, List.map_cons, List.contains_cons, List.contains_nil, Bool.or_false, Bool.or_true, Bool.true_or, Bool.false_or, beq_self_eq_true, cond_true, cond_false, HeapCov, orNil, nilSz, onBlk, srcOf, getH_hit, getH_miss, getH.eq_1, getS_hit, getS_miss, getS.eq_1, BlkCov, PVCovs, PVCov, ColsEq, AColsEq, ACEq, ColEq.refl, liveIds, SlotsCov, List.all_nil, List.all_cons, List.any_nil, List.any_cons, List.nil_append, List.cons_append, inRange, apart, nilBlk, idS1, idS2, readAll, readRes, onAll, step, res, AX.val, List.drop_zero, List.drop_succ_cons, List.take_succ_cons, List.take_zero, e1, e2, e3, e4, e5, e6, e7, e8, e9, strmC, famC, inR, boxP, boxD, arrS, arrR, faultN, hl, -List.getD_eq_getElem?_getD, -List.length_append]
        exact ⟨by omega, fun j hj => ⟨by rw [show (nid + 32 == nid + (100 + j)) = false by simp; omega]; rfl, by omega⟩⟩
      · have hLm : L.length = m := by omega
        refine ⟨⟨L, hLm, hL2⟩, Cov.go [] [] ?_⟩
        try rw [hf0 _ hi]
        simp [retPV, over, keys, List.map_nil, List.map_cons, List.contains_cons, List.contains_nil, Bool.or_false, Bool.or_true, Bool.true_or, Bool.false_or, beq_self_eq_true, cond_true, cond_false, HeapCov, orNil, nilSz, onBlk, srcOf, getH_hit, getH_miss, getH.eq_1, getS_hit, getS_miss, getS.eq_1, BlkCov, PVCovs, PVCov, ColsEq, AColsEq, ACEq, ColEq.refl, liveIds, SlotsCov, List.all_nil, List.all_cons, List.any_nil, List.any_cons, List.nil_append, List.cons_append, inRange, apart, nilBlk, idS1, idS2, readAll, readRes, onAll, step, res, AX.val, List.drop_zero, List.drop_succ_cons, List.take_succ_cons, List.take_zero, e1, e2, e3, e4, e5, e6, e7, e8, e9, strmC, famC, inR, boxP, boxD, arrS, arrR, faultN, hLm, -List.getD_eq_getElem?_getD, -List.length_append]
        try exact fun j hj => (by omega)
    simp only
    rw [hf0 _ hi]
    unfold famC inR boxP boxD arrS arrR
    refine SR.run (t := .mk) ?_
    simp -dsimp only [aqT, aqU, aqN, ↓seqK, ↓blkK, ↓loopK, step, stepBin, Nat.reduceBEq, Nat.reduceBeqDiff, Nat.add_assoc nid, Nat.reduceAdd, reduceCtorEq, ↓reduceIte, Nat.reduceLeDiff, Nat.reduceBneDiff, Option.toList, ← Int.ofNat_tmod, ← Int.ofNat_tdiv, Nat.reduceLT, Int.cast_ofNat_Int, Int.reduceBEq, Int.reduceBNe, Int.reduceLT, Int.reduceLE, Int.reduceAdd, Int.reduceSub, Int.reduceMul, Int.reduceToNat, Int.reduceNeg, Int.reduceTMod, Int.reduceEq, not_false_eq_true, Int.reducePow, Int.reduceFDiv, Nat.reducePow, Nat.reduceSub, Nat.reduceMul, Nat.min_eq_left, Nat.reduceEqDiff, BEq.rfl, Int.tdiv_one, LN_succ, e1, e2, e3, e4, e5, e6, e7, e8, e9, strmC_low, Nat.reduceLT, Nat.lt_irrefl, if_true, if_false]
    have ho1 : ∀ k, k < R.length → rowR (R ++ [(faultN R.length, L)]) k = rowR R k := fun k hk => rowR_old hk
    have ho2 : ∀ k, k < R.length → rowF (R ++ [(faultN R.length, L)]) k = rowF R k := fun k hk => rowF_old hk
    have hn1 : ∀ k, k = R.length → rowR (R ++ [(faultN R.length, L)]) k = L := fun k hk => rowR_new hk
    have hn2 : ∀ k, k = R.length → rowF (R ++ [(faultN R.length, L)]) k = faultN R.length := fun k hk => rowF_new hk
    have hll : (R ++ [(faultN R.length, L)]).length = R.length + 1 := by simp
    refine ⟨by omega, ⟨L, hL1, hL2⟩, Cov.go [(nid + 24, nid + 2416), (nid + (100 + R.length), nid + 32)] [] ?_⟩
    rw [famR_snoc]
    simp only [hll]
    generalize R ++ [(faultN R.length, L)] = R2 at *
    simp [retPV, over, keys, List.map_nil, List.map_cons, List.contains_cons, List.contains_nil, Bool.or_false, Bool.or_true, Bool.true_or, Bool.false_or, beq_self_eq_true, cond_true, cond_false, HeapCov, orNil, nilSz, onBlk, srcOf, getH_hit, getH_miss, getH.eq_1, getS_hit, getS_miss, getS.eq_1, BlkCov, PVCovs, PVCov, ColsEq, AColsEq, ACEq, ColEq.refl, liveIds, SlotsCov, List.all_nil, List.all_cons, List.any_nil, List.any_cons, List.nil_append, List.cons_append, inRange, apart, nilBlk, idS1, idS2, readAll, readRes, onAll, step, res, AX.val, List.drop_zero, List.drop_succ_cons, List.take_succ_cons, List.take_zero, e1, e2, e3, e4, e5, e6, e7, e8, e9, strmC, famC, inR, boxP, boxD, arrS, arrR, hi, ho1, hn1, -List.getD_eq_getElem?_getD, -List.length_append]
    first
      | exact ⟨ColEq.s fun j hj => by
          have e : j = 0 := by omega
          subst e
          rw [hn2 0 (by omega), hi]
          rfl, rfl, rfl⟩
      | refine ⟨ColEq.s fun j hj => ?_, fun j hj => ⟨?_, by omega, ?_⟩⟩
        · by_cases e : j < R.length
          · rw [ho2 j e, if_pos (by omega)]
          · have ej : j = R.length := by omega
            rw [hn2 j ej, if_neg (by omega), ej, hi]
            rfl
        · rw [if_neg (by omega)]
          by_cases e : j < R.length
          · have e2 : (nid + (100 + R.length) == nid + (100 + j)) = false := by simp; omega
            simp only [hi, Nat.reduceAdd] at e2
            rw [e2, if_pos (by omega)]
            rfl
          · have ej : j = R.length := by omega
            have e2 : (nid + (100 + R.length) == nid + (100 + j)) = true := by simp; omega
            simp only [hi, Nat.reduceAdd] at e2
            rw [e2, if_neg (by omega), ej, hi]
            rfl
        · by_cases e : j < R.length
          · rw [ho1 j e, if_pos (by omega)]
          · have ej : j = R.length := by omega
            rw [hn1 j ej, if_neg (by omega), ej, hi]
            rfl
end Go.Proofs.YtpifoghhaohhaaaGreatDoor
namespace Go.Proofs.YtpifoghhaohhaaaGreatDoor
open Go.RowKit Go.Shelf Go.Lib
def SlotsIn (s : Slots) : Slots → Prop
  | [] => True
  | (i, p) :: r => getS s i = p ∧ SlotsIn s r
theorem SlotsIn.get {s : Slots} : ∀ {s' : Slots}, SlotsIn s s' → ∀ i, getS s' i = .any ∨ getS s' i = getS s i
  | [], _, i => .inl rfl
  | (j, p) :: r, h, i => by
    simp only [getS]
    cases hj : j == i
    · exact SlotsIn.get h.2 i
    · have : j = i := by simpa using hj
      subst this
      exact .inr h.1.symm
theorem Cov.drop {s s' : Slots} {H : Heap} {n n' b : Nat} (hn : n ≤ n') (hs : SlotsIn s s') : Cov ⟨s, H, n, b⟩ ⟨s', H, n', b⟩ := fun C nt Y m a w h => by
  refine ⟨Y, m, h.size, h.defers, fun i p hp hne => ?_, h.heap.mono (fun id hid => Nat.le_trans hn hid), h.base⟩
  rcases hs.get i with e | e
  · exact absurd (hp.symm.trans e) hne
  · exact h.slots i p (e.symm.trans hp) hne
theorem fam_at (b : Nat) (R : RowL) (hR : R.length ≤ 7) {k : Nat} (hk : k < R.length) : getH (famR b R) (b + (100 + k)) = arrS (rowR R k) := by
  have : ∀ c, c ≤ 7 → ∀ k, k < c → getH (famC b R c) (b + (100 + k)) = arrS (rowR R k) := fun c hc k hk => by
    have : k = 0 ∨ k = 1 ∨ k = 2 ∨ k = 3 ∨ k = 4 ∨ k = 5 ∨ k = 6 := by omega
    have nb : ∀ x y : Nat, (x == y) = false → (b + x == b + y) = false := fun x y hxy => by
      have : x ≠ y := by simpa using hxy
      simp
      omega
    rcases this with rfl | rfl | rfl | rfl | rfl | rfl | rfl <;> simp only [famC, inR, getH, Nat.reduceAdd, cond_true, cond_false, beq_self_eq_true, if_pos hk, nb 100 101 rfl, nb 100 102 rfl, nb 101 102 rfl, nb 100 103 rfl, nb 101 103 rfl, nb 102 103 rfl, nb 100 104 rfl, nb 101 104 rfl, nb 102 104 rfl, nb 103 104 rfl, nb 100 105 rfl, nb 101 105 rfl, nb 102 105 rfl, nb 103 105 rfl, nb 104 105 rfl, nb 100 106 rfl, nb 101 106 rfl, nb 102 106 rfl, nb 103 106 rfl, nb 104 106 rfl, nb 105 106 rfl]
  exact this _ hR k hk
def dictH (s nid : Nat) (nl : Bool) (A : List Int) (q : Nat) (G : List (List UInt8)) (R : RowL) : Heap := [(nid, boxP s), (nid + 4, some (.box 29 [.lit true 0 [], .lit true 0 []])), (nid + 8, boxD (nid + 20) G.length (nid + 24) R.length), (nid + 20, arrS G), (s, strmC nl A q), (nid + 24, arrR nid R)] ++ famR nid R
theorem dict_at (s nid : Nat) (nl : Bool) (A : List Int) (q : Nat) (G : List (List UInt8)) (R : RowL) (h : s < nid) (hR : R.length ≤ 7) {k : Nat} (hk : k < R.length) : getH (dictH s nid nl A q G R) (nid + (100 + k)) = arrS (rowR R k) := by
  unfold dictH
  have e1 : (nid == nid + (100 + k)) = false := by simp
  have e2 : ∀ c, c < 100 → (nid + c == nid + (100 + k)) = false := fun c hc => by simp; omega
  have e3 : (s == nid + (100 + k)) = false := by simp; omega
  simp only [List.cons_append, List.nil_append, getH, e1, e2 4 (by omega), e2 8 (by omega), e2 20 (by omega), e2 24 (by omega), e3, cond_false]
  exact fam_at nid R hR hk
set_option maxHeartbeats 4000000 in
theorem dict_end (s nid p q q0 tests : Nat) (nl : Bool) (A : List Int) (G : List (List UInt8)) (R : RowL) (h : s < nid) (hB : DictB tests G R) (hq : q ≤ q0) :
    SR Tryz.prog (dropV 6 a14.body) ⟨[(7, .ptr (nid + 8) 0), (6, .ptr (nid + 4) 0)], dictH s nid nl A q G R, nid + 5000, nid⟩ (fun e st => ∃ x : DictX, (DictB tests x.G x.R ∧ x.q ≤ q0) ∧ RetOK a14.res [(s, strmC nl A p)] nid (dictP x.g0 x.r0 x.b x.G x.R) [(s, strmC nl A x.q)] e st) .mk := by
  obtain ⟨e1, e2, e3, e4, e5, e6, e7, e8, e9⟩ := id_all h
  have hat := fun k (hk : k < R.length) => dict_at s nid nl A q G R h hB.rl hk
  refine SR.freezeO [nid + 100, nid + 101, nid + 102, nid + 103, nid + 104, nid + 105, nid + 106] (nid + 24) 67 R.length [.s fun k => rowF R k, .o (fun k => nid + (100 + k)) (fun k => (rowR R k).length)] ?_ ?_ ?_ (fun n1 hn1 => ?_)
  · unfold dictH arrR
    simp only [List.cons_append, List.nil_append, aqT, aqU, aqN, ↓seqK, ↓blkK, ↓loopK, step, stepBin, Nat.reduceBEq, Nat.reduceBeqDiff, Nat.add_assoc nid, Nat.reduceAdd, reduceCtorEq, ↓reduceIte, Nat.reduceLeDiff, Nat.reduceBneDiff, Option.toList, ← Int.ofNat_tmod, ← Int.ofNat_tdiv, Nat.reduceLT, Int.cast_ofNat_Int, Int.reduceBEq, Int.reduceBNe, Int.reduceLT, Int.reduceLE, Int.reduceAdd, Int.reduceSub, Int.reduceMul, Int.reduceToNat, Int.reduceNeg, Int.reduceTMod, Int.reduceEq, not_false_eq_true, Int.reducePow, Int.reduceFDiv, Nat.reducePow, Nat.reduceSub, Nat.reduceMul, Nat.min_eq_left, Nat.reduceEqDiff, BEq.rfl, Int.tdiv_one, LN_succ, e1, e2, e3, e4, e5, e6, e7, e8, e9]
  · simp
  · intro c hc
    simp only [List.mem_cons, List.not_mem_nil, or_false] at hc
    rcases hc with rfl | rfl
    · trivial
    · intro k hk
      have hk6 : k = 0 ∨ k = 1 ∨ k = 2 ∨ k = 3 ∨ k = 4 ∨ k = 5 ∨ k = 6 := by have := hB.rl; omega
      refine ⟨?_, _, _, _, hat k hk, rfl⟩
      rcases hk6 with rfl | rfl | rfl | rfl | rfl | rfl | rfl <;> simp
  have hco : ∀ k, k < R.length → colsAt (dictH s nid nl A q G R) (nid + (100 + k)) = [.s fun j => (rowR R k).getD j []] := fun k hk => by
    unfold colsAt
    rw [hat k hk]
    rfl
  simp only [List.map_cons, List.map_nil, oCol]
  generalize hCA : colsAt (dictH s nid nl A q G R) = CA at *
  clear hn1 hat
  refine SR.cov (t' := .mk) (st' := ⟨[(7, .ptr (nid + 8) 0), (6, .ptr (nid + 4) 0)], [(nid + 4, some (.box 29 [.lit true 0 [], .lit true 0 []])), (nid + 8, boxD (nid + 20) G.length (nid + 24) R.length), (nid + 20, arrS G), (s, strmC nl A q), (nid + 24, some (.arr 67 R.length [.s fun k => rowF R k, .l (fun k => n1 (nid + (100 + k))) (fun k => (rowR R k).length) (fun k => [.s fun j => (rowR R k).getD j []])]))], nid + 5000, nid⟩) (Cov.go [] [] ?_) ?_
  · unfold dictH boxP boxD arrS arrR strmC
    simp [retPV, over, keys, List.map_nil, List.map_cons, List.contains_cons, List.contains_nil, Bool.or_false, Bool.or_true, Bool.true_or, Bool.false_or, beq_self_eq_true, cond_true, cond_false, HeapCov, orNil, nilSz, onBlk, srcOf, getH_hit, getH_miss, getH.eq_1, getS_hit, getS_miss, getS.eq_1, BlkCov, PVCovs, PVCov, ColsEq, AColsEq, ACEq, ColEq.refl, liveIds, SlotsCov, List.all_nil, List.all_cons, List.any_nil, List.any_cons, List.nil_append, List.cons_append, inRange, apart, nilBlk, idS1, idS2, readAll, readRes, onAll, step, res, AX.val, List.drop_zero, List.drop_succ_cons, List.take_succ_cons, List.take_zero, e1, e2, e3, e4, e5, e6, e7, e8, e9, frzS, frzH, frzBlk, lends, lend, kill, noOs, -List.getD_eq_getElem?_getD]
    exact ColEq.l fun k hk => ⟨rfl, rfl, by rw [hco k hk]; exact ColsEq.refl _ _⟩
  unfold boxD arrS
  refine SR.freezeB [nid + 20, nid + 24] (fun n2 => ?_)
  simp only [frzS, frzH, frzBlk, lends, lend, kill, strmC, aqT, aqU, aqN, ↓seqK, ↓blkK, ↓loopK, step, stepBin, Nat.reduceBEq, Nat.reduceBeqDiff, Nat.add_assoc nid, Nat.reduceAdd, reduceCtorEq, ↓reduceIte, Nat.reduceLeDiff, Nat.reduceBneDiff, Option.toList, ← Int.ofNat_tmod, ← Int.ofNat_tdiv, Nat.reduceLT, Int.cast_ofNat_Int, Int.reduceBEq, Int.reduceBNe, Int.reduceLT, Int.reduceLE, Int.reduceAdd, Int.reduceSub, Int.reduceMul, Int.reduceToNat, Int.reduceNeg, Int.reduceTMod, Int.reduceEq, not_false_eq_true, Int.reducePow, Int.reduceFDiv, Nat.reducePow, Nat.reduceSub, Nat.reduceMul, Nat.min_eq_left, Nat.reduceEqDiff, BEq.rfl, Int.tdiv_one, LN_succ, e1, e2, e3, e4, e5, e6, e7, e8, e9]
  clear hco hCA
  simp only [a14, dropV]
  refine SR.run (t := .mk) ?_
  simp -dsimp only [aqT, aqU, aqN, ↓seqK, ↓blkK, ↓loopK, step, stepBin, Nat.reduceBEq, Nat.reduceBeqDiff, Nat.add_assoc nid, Nat.reduceAdd, reduceCtorEq, ↓reduceIte, Nat.reduceLeDiff, Nat.reduceBneDiff, Option.toList, ← Int.ofNat_tmod, ← Int.ofNat_tdiv, Nat.reduceLT, e1, e2, e3, e4, e5, e6, e7, e8, e9]
  refine ⟨⟨n2 (nid + 20), n2 (nid + 24), fun k => n1 (nid + (100 + k)), G, R, q⟩, ⟨hB, hq⟩, RetOK.go [] [] (.inl rfl) ?_⟩
  simp [a14, retPV, over, keys, List.map_nil, List.map_cons, List.contains_cons, List.contains_nil, Bool.or_false, Bool.or_true, Bool.true_or, Bool.false_or, beq_self_eq_true, cond_true, cond_false, HeapCov, orNil, nilSz, onBlk, srcOf, getH_hit, getH_miss, getH.eq_1, getS_hit, getS_miss, getS.eq_1, BlkCov, PVCovs, PVCov, ColsEq, AColsEq, ACEq, ColEq.refl, liveIds, SlotsCov, List.all_nil, List.all_cons, List.any_nil, List.any_cons, List.nil_append, List.cons_append, inRange, apart, nilBlk, idS1, idS2, readAll, readRes, onAll, step, res, AX.val, List.drop_zero, List.drop_succ_cons, List.take_succ_cons, List.take_zero, e1, e2, e3, e4, e5, e6, e7, e8, e9, strmC, dictP, ColsEq.refl, -List.getD_eq_getElem?_getD]
end Go.Proofs.YtpifoghhaohhaaaGreatDoor
namespace Go.Proofs.YtpifoghhaohhaaaGreatDoor
open Go.RowKit Go.Shelf Go.Lib
def thenV : ACode → ACode
  | .seq _ (.cond _ a _) => a
  | c => c
theorem rowF_set {R : RowL} {I : Nat} (x : List UInt8 × List (List UInt8)) (hI : I < R.length) (j : Nat) : rowF (R.set I x) j = if j = I then x.1 else rowF R j := by
  unfold rowF
  rw [List.getD_eq_getElem?_getD, List.getElem?_set]
  by_cases h : j = I
  · subst h; simp [hI]
  · rw [if_neg (fun e => h e.symm), if_neg h, ← List.getD_eq_getElem?_getD]
theorem rowR_set {R : RowL} {I : Nat} (x : List UInt8 × List (List UInt8)) (hI : I < R.length) (j : Nat) : rowR (R.set I x) j = if j = I then x.2 else rowR R j := by
  unfold rowR
  rw [List.getD_eq_getElem?_getD, List.getElem?_set]
  by_cases h : j = I
  · subst h; simp [hI]
  · rw [if_neg (fun e => h e.symm), if_neg h, ← List.getD_eq_getElem?_getD]
structure SpX where
  G : List (List UInt8)
  R : RowL
  q : Nat
  o : Option Nat
def spU (s nid : Nat) (nl : Bool) (A : List Int) (x : SpX) : Heap := match x.o with
  | none => dictH s nid nl A x.q x.G x.R
  | some I => [(s, strmC nl A x.q), (nid + 24, some (.arr 67 x.R.length [.s fun k => rowF x.R k, .o (fun k => if k = I then nid + 4104 else nid + (100 + k)) (fun k => (rowR x.R k).length)])), (nid + 4104, arrS (rowR x.R I))]
def SpPost (tests q0 : Nat) (G : List (List UInt8)) (R : RowL) (x : SpX) : Prop := DictB tests x.G x.R ∧ x.q ≤ q0 ∧ ∀ I, x.o = some I → I < R.length ∧ x.G = G ∧ x.R = R.set I (rowF R I, rowR R I ++ [[48]])
theorem cloneD_c (nl : Bool) (l : List (List UInt8)) (nid : Nat) (hl : l.length ≤ 1000000000) (hnl : nl = true → l = []) : ACall Tryz.prog 100 [litS nl l] [] nid (.sl nid 0 l.length) [(nid, arrS l)] := by
  refine acall_run c100 (by simp [a100]) ?_
  unfold litS
  simp -dsimp only [aqT, aqU, aqN, ↓seqK, ↓blkK, ↓loopK, step, stepBin, Nat.reduceBEq, Nat.reduceBeqDiff, Nat.add_assoc nid, Nat.reduceAdd, reduceCtorEq, ↓reduceIte, Nat.reduceLeDiff, Nat.reduceBneDiff, Option.toList, ← Int.ofNat_tmod, ← Int.ofNat_tdiv, Nat.reduceLT, a100]
  refine S2.intro (fun h => ?_) (fun h => ?_) <;> simp -dsimp only [aqT, aqU, aqN, ↓seqK, ↓blkK, ↓loopK, step, stepBin, Nat.reduceBEq, Nat.reduceBeqDiff, Nat.add_assoc nid, Nat.reduceAdd, reduceCtorEq, ↓reduceIte, Nat.reduceLeDiff, Nat.reduceBneDiff, Option.toList, ← Int.ofNat_tmod, ← Int.ofNat_tdiv, Nat.reduceLT]
  · refine RetOK.go [] [(nid, 1)] (.inl rfl) ?_
    have := hnl h
    subst this
    simp [a100, retPV, over, keys, List.map_nil, List.map_cons, List.contains_cons, List.contains_nil, Bool.or_false, Bool.or_true, Bool.true_or, Bool.false_or, beq_self_eq_true, cond_true, cond_false, HeapCov, orNil, nilSz, onBlk, srcOf, getH_hit, getH_miss, getH.eq_1, getS_hit, getS_miss, getS.eq_1, BlkCov, PVCovs, PVCov, ColsEq, AColsEq, ACEq, ColEq.refl, liveIds, SlotsCov, List.all_nil, List.all_cons, List.any_nil, List.any_cons, List.nil_append, List.cons_append, inRange, apart, nilBlk, idS1, idS2, readAll, readRes, onAll, step, res, AX.val, List.drop_zero, List.drop_succ_cons, List.take_succ_cons, List.take_zero, arrS]
  · refine ⟨⟨by omega, by omega⟩, RetOK.go [(nid, nid + 20)] [] (.inl rfl) ?_⟩
    simp [a100, retPV, over, keys, List.map_nil, List.map_cons, List.contains_cons, List.contains_nil, Bool.or_false, Bool.or_true, Bool.true_or, Bool.false_or, beq_self_eq_true, cond_true, cond_false, HeapCov, orNil, nilSz, onBlk, srcOf, getH_hit, getH_miss, getH.eq_1, getS_hit, getS_miss, getS.eq_1, BlkCov, PVCovs, PVCov, ColsEq, AColsEq, ACEq, ColEq.refl, liveIds, SlotsCov, List.all_nil, List.all_cons, List.any_nil, List.any_cons, List.nil_append, List.cons_append, inRange, apart, nilBlk, idS1, idS2, readAll, readRes, onAll, step, res, AX.val, List.drop_zero, List.drop_succ_cons, List.take_succ_cons, List.take_zero, arrS]
abbrev SpEnd (s nid : Nat) (nl : Bool) (A : List Int) (tests q0 : Nat) (G : List (List UInt8)) (R : RowL) (H0 : Heap) (e : AEx) (st : ST) : Prop := ∃ x : SpX, SpPost tests q0 G R x ∧ RetOK a85.res H0 (nid + 4104) (.tup []) (spU s nid nl A x) e st
set_option maxHeartbeats 8000000 in
theorem spoil_G (s nid q q0 tests : Nat) (nl : Bool) (A : List Int) (G : List (List UInt8)) (R : RowL) (q1 : Nat) (h : s < nid) (hB : DictB tests G R) (hG0 : 0 < G.length) (ht : tests ≤ 6) (hq : q1 + 10 ≤ q0) (hq1 : q1 ≤ 1099500003000) (hA : A.length ≤ 17592186044416) (K : ST → Prop) :
    SR Tryz.prog (thenV (headV a85.body)) ⟨[(0, .ptr s 0), (1, .ptr (nid + 8) 0)], dictH s nid nl A q1 G R, nid + 4200, nid + 4104⟩ (seqK K (SpEnd s nid nl A tests q0 G R (dictH s nid nl A q G R))) .mk := by
  obtain ⟨e1, e2, e3, e4, e5, e6, e7, e8, e9⟩ := id_all h
  have hgl := hB.gl
  have hrl := hB.rl
  simp only [a85, headV, thenV]
  unfold dictH boxD arrS
  refine SR.seq ?_
  simp -dsimp only [aqT, aqU, aqN, ↓seqK, ↓blkK, ↓loopK, step, stepBin, Nat.reduceBEq, Nat.reduceBeqDiff, Nat.add_assoc nid, Nat.reduceAdd, reduceCtorEq, ↓reduceIte, Nat.reduceLeDiff, Nat.reduceBneDiff, Option.toList, ← Int.ofNat_tmod, ← Int.ofNat_tdiv, Nat.reduceLT, Int.cast_ofNat_Int, Int.reduceBEq, Int.reduceBNe, Int.reduceLT, Int.reduceLE, Int.reduceAdd, Int.reduceSub, Int.reduceMul, Int.reduceToNat, Int.reduceNeg, Int.reduceTMod, Int.reduceEq, not_false_eq_true, Int.reducePow, Int.reduceFDiv, Nat.reducePow, Nat.reduceSub, Nat.reduceMul, Nat.min_eq_left, Nat.reduceEqDiff, BEq.rfl, Int.tdiv_one, LN_succ, e1, e2, e3, e4, e5, e6, e7, e8, e9, strmC_low]
  have hnd := nextV_bd A q1 (n := (G.length : Nat)) (by omega)
  obtain ⟨I, hI⟩ : ∃ I : Nat, nextV A q1 ((G.length : Nat) : Int) = I := ⟨_, (Int.toNat_of_nonneg hnd.1).symm⟩
  have hIG : I < G.length := by omega
  refine CallX.on (next_c s _ nl A q1 _ (by omega) (by omega) hA (by omega)) (subH_get (by simp only [aqT, aqU, aqN, ↓seqK, ↓blkK, ↓loopK, step, stepBin, Nat.reduceBEq, Nat.reduceBeqDiff, Nat.add_assoc nid, Nat.reduceAdd, reduceCtorEq, ↓reduceIte, Nat.reduceLeDiff, Nat.reduceBneDiff, Option.toList, ← Int.ofNat_tmod, ← Int.ofNat_tdiv, Nat.reduceLT, Int.cast_ofNat_Int, Int.reduceBEq, Int.reduceBNe, Int.reduceLT, Int.reduceLE, Int.reduceAdd, Int.reduceSub, Int.reduceMul, Int.reduceToNat, Int.reduceNeg, Int.reduceTMod, Int.reduceEq, not_false_eq_true, Int.reducePow, Int.reduceFDiv, Nat.reducePow, Nat.reduceSub, Nat.reduceMul, Nat.min_eq_left, Nat.reduceEqDiff, BEq.rfl, Int.tdiv_one, LN_succ, e1, e2, e3, e4, e5, e6, e7, e8, e9])) ?_
  rw [hI]
  simp -dsimp only [aqT, aqU, aqN, ↓seqK, ↓blkK, ↓loopK, step, stepBin, Nat.reduceBEq, Nat.reduceBeqDiff, Nat.add_assoc nid, Nat.reduceAdd, reduceCtorEq, ↓reduceIte, Nat.reduceLeDiff, Nat.reduceBneDiff, Option.toList, ← Int.ofNat_tmod, ← Int.ofNat_tdiv, Nat.reduceLT, Int.cast_ofNat_Int, Int.reduceBEq, Int.reduceBNe, Int.reduceLT, Int.reduceLE, Int.reduceAdd, Int.reduceSub, Int.reduceMul, Int.reduceToNat, Int.reduceNeg, Int.reduceTMod, Int.reduceEq, not_false_eq_true, Int.reducePow, Int.reduceFDiv, Nat.reducePow, Nat.reduceSub, Nat.reduceMul, Nat.min_eq_left, Nat.reduceEqDiff, BEq.rfl, Int.tdiv_one, LN_succ, e1, e2, e3, e4, e5, e6, e7, e8, e9, strmC_low]
  refine CallX.pure (repeat_cc [48] 101 _ (by omega) (by simp)) ?_
  have hr48 : (Lib.repeatL [48] 101).length = 101 := by simp [Lib.repeatL]
  generalize Lib.repeatL [48] 101 = z at *
  simp -dsimp only [aqT, aqU, aqN, ↓seqK, ↓blkK, ↓loopK, step, stepBin, Nat.reduceBEq, Nat.reduceBeqDiff, Nat.add_assoc nid, Nat.reduceAdd, reduceCtorEq, ↓reduceIte, Nat.reduceLeDiff, Nat.reduceBneDiff, Option.toList, ← Int.ofNat_tmod, ← Int.ofNat_tdiv, Nat.reduceLT, Int.cast_ofNat_Int, Int.reduceBEq, Int.reduceBNe, Int.reduceLT, Int.reduceLE, Int.reduceAdd, Int.reduceSub, Int.reduceMul, Int.reduceToNat, Int.reduceNeg, Int.reduceTMod, Int.reduceEq, not_false_eq_true, Int.reducePow, Int.reduceFDiv, Nat.reducePow, Nat.reduceSub, Nat.reduceMul, Nat.min_eq_left, Nat.reduceEqDiff, BEq.rfl, Int.tdiv_one, LN_succ, e1, e2, e3, e4, e5, e6, e7, e8, e9, strmC_low]
  refine CallX.some_go (T := 9) (nl := nl) (A := A) (p := q1 + 1) (g := fun i => [[], [32], [195, 169], z].getD i []) (by simp only [aqT, aqU, aqN, ↓seqK, ↓blkK, ↓loopK, step, stepBin, Nat.reduceBEq, Nat.reduceBeqDiff, Nat.add_assoc nid, Nat.reduceAdd, reduceCtorEq, ↓reduceIte, Nat.reduceLeDiff, Nat.reduceBneDiff, Option.toList, ← Int.ofNat_tmod, ← Int.ofNat_tdiv, Nat.reduceLT, Int.cast_ofNat_Int, Int.reduceBEq, Int.reduceBNe, Int.reduceLT, Int.reduceLE, Int.reduceAdd, Int.reduceSub, Int.reduceMul, Int.reduceToNat, Int.reduceNeg, Int.reduceTMod, Int.reduceEq, not_false_eq_true, Int.reducePow, Int.reduceFDiv, Nat.reducePow, Nat.reduceSub, Nat.reduceMul, Nat.min_eq_left, Nat.reduceEqDiff, BEq.rfl, Int.tdiv_one, LN_succ, e1, e2, e3, e4, e5, e6, e7, e8, e9]) (by simp only [aqT, aqU, aqN, ↓seqK, ↓blkK, ↓loopK, step, stepBin, Nat.reduceBEq, Nat.reduceBeqDiff, Nat.add_assoc nid, Nat.reduceAdd, reduceCtorEq, ↓reduceIte, Nat.reduceLeDiff, Nat.reduceBneDiff, Option.toList, ← Int.ofNat_tmod, ← Int.ofNat_tdiv, Nat.reduceLT, Int.cast_ofNat_Int, Int.reduceBEq, Int.reduceBNe, Int.reduceLT, Int.reduceLE, Int.reduceAdd, Int.reduceSub, Int.reduceMul, Int.reduceToNat, Int.reduceNeg, Int.reduceTMod, Int.reduceEq, not_false_eq_true, Int.reducePow, Int.reduceFDiv, Nat.reducePow, Nat.reduceSub, Nat.reduceMul, Nat.min_eq_left, Nat.reduceEqDiff, BEq.rfl, Int.tdiv_one, LN_succ, e1, e2, e3, e4, e5, e6, e7, e8, e9]) (by simp only [aqT, aqU, aqN, ↓seqK, ↓blkK, ↓loopK, step, stepBin, Nat.reduceBEq, Nat.reduceBeqDiff, Nat.add_assoc nid, Nat.reduceAdd, reduceCtorEq, ↓reduceIte, Nat.reduceLeDiff, Nat.reduceBneDiff, Option.toList, ← Int.ofNat_tmod, ← Int.ofNat_tdiv, Nat.reduceLT, Int.cast_ofNat_Int, Int.reduceBEq, Int.reduceBNe, Int.reduceLT, Int.reduceLE, Int.reduceAdd, Int.reduceSub, Int.reduceMul, Int.reduceToNat, Int.reduceNeg, Int.reduceTMod, Int.reduceEq, not_false_eq_true, Int.reducePow, Int.reduceFDiv, Nat.reducePow, Nat.reduceSub, Nat.reduceMul, Nat.min_eq_left, Nat.reduceEqDiff, BEq.rfl, Int.tdiv_one, LN_succ, e1, e2, e3, e4, e5, e6, e7, e8, e9]) (by omega) (by omega) hA (by omega) (by omega) ?_
  have hb := getD_all (P := fun x : List UInt8 => x.length ≤ 101) (l := [[], [32], [195, 169], z]) (d := []) (by intro x hx; simp only [List.mem_cons, List.not_mem_nil, or_false] at hx; rcases hx with rfl | rfl | rfl | rfl; simp; simp; simp; omega) (pickI_lt A (q1 + 1) (n := 4) (by omega))
  generalize ([[], [32], [195, 169], z].getD (pickI A (q1 + 1) 4) [] : List UInt8) = v at hb ⊢
  simp -dsimp only [aqT, aqU, aqN, ↓seqK, ↓blkK, ↓loopK, step, stepBin, Nat.reduceBEq, Nat.reduceBeqDiff, Nat.add_assoc nid, Nat.reduceAdd, reduceCtorEq, ↓reduceIte, Nat.reduceLeDiff, Nat.reduceBneDiff, Option.toList, ← Int.ofNat_tmod, ← Int.ofNat_tdiv, Nat.reduceLT, Int.cast_ofNat_Int, Int.reduceBEq, Int.reduceBNe, Int.reduceLT, Int.reduceLE, Int.reduceAdd, Int.reduceSub, Int.reduceMul, Int.reduceToNat, Int.reduceNeg, Int.reduceTMod, Int.reduceEq, not_false_eq_true, Int.reducePow, Int.reduceFDiv, Nat.reducePow, Nat.reduceSub, Nat.reduceMul, Nat.min_eq_left, Nat.reduceEqDiff, BEq.rfl, Int.tdiv_one, LN_succ, e1, e2, e3, e4, e5, e6, e7, e8, e9, strmC_low]
  rw [getD_setS G v hIG]
  refine ⟨⟨by omega, by omega⟩, ?_⟩
  refine SR.run (t := .mk) ?_
  simp -dsimp only [aqT, aqU, aqN, ↓seqK, ↓blkK, ↓loopK, step, stepBin, Nat.reduceBEq, Nat.reduceBeqDiff, Nat.add_assoc nid, Nat.reduceAdd, reduceCtorEq, ↓reduceIte, Nat.reduceLeDiff, Nat.reduceBneDiff, Option.toList, ← Int.ofNat_tmod, ← Int.ofNat_tdiv, Nat.reduceLT, Int.cast_ofNat_Int, Int.reduceBEq, Int.reduceBNe, Int.reduceLT, Int.reduceLE, Int.reduceAdd, Int.reduceSub, Int.reduceMul, Int.reduceToNat, Int.reduceNeg, Int.reduceTMod, Int.reduceEq, not_false_eq_true, Int.reducePow, Int.reduceFDiv, Nat.reducePow, Nat.reduceSub, Nat.reduceMul, Nat.min_eq_left, Nat.reduceEqDiff, BEq.rfl, Int.tdiv_one, LN_succ, e1, e2, e3, e4, e5, e6, e7, e8, e9, strmC_low]
  have hsl : (G.set I v).length = G.length := List.length_set
  refine ⟨⟨G.set I v, R, q1 + 1 + 1, none⟩, ⟨⟨by rw [hsl]; exact hB.gl, (hB.gs).set I hb, hB.rl, hB.rs⟩, by simp only; omega, fun I h => by cases h⟩, ?_⟩
  have hf0 : ∀ c, R.length = c → famR nid R = famC nid R c := fun c hc => by rw [← hc]; rfl
  simp only [spU, dictH]
  have hi : R.length = 0 ∨ R.length = 1 ∨ R.length = 2 ∨ R.length = 3 ∨ R.length = 4 ∨ R.length = 5 ∨ R.length = 6 ∨ R.length = 7 := by omega
  rcases hi with hi | hi | hi | hi | hi | hi | hi | hi
  all_goals
    rw [hf0 _ hi]
    refine RetOK.go [] [] (.inl rfl) ?_
    simp [a85, retPV, over, keys, List.map_nil, List.map_cons, List.contains_cons, List.contains_nil, Bool.or_false, Bool.or_true, Bool.true_or, Bool.false_or, beq_self_eq_true, cond_true, cond_false, HeapCov, orNil, nilSz, onBlk, srcOf, getH_hit, getH_miss, getH.eq_1, getS_hit, getS_miss, getS.eq_1, BlkCov, PVCovs, PVCov, ColsEq, AColsEq, ACEq, ColEq.refl, liveIds, SlotsCov, List.all_nil, List.all_cons, List.any_nil, List.any_cons, List.nil_append, List.cons_append, inRange, apart, nilBlk, idS1, idS2, readAll, readRes, onAll, step, res, AX.val, List.drop_zero, List.drop_succ_cons, List.take_succ_cons, List.take_zero, e1, e2, e3, e4, e5, e6, e7, e8, e9, strmC, famC, inR, boxP, boxD, arrS, arrR, hsl, -List.getD_eq_getElem?_getD]
    exact ⟨⟨by omega, by omega⟩, by omega, fun j hj => by omega⟩
set_option maxHeartbeats 8000000 in
theorem spoil_R (s nid q q0 tests : Nat) (nl : Bool) (A : List Int) (G : List (List UInt8)) (R : RowL) (q1 : Nat) (h : s < nid) (hB : DictB tests G R) (hR0 : 0 < R.length) (hpos : ∀ y ∈ R, 1 ≤ y.2.length ∧ y.2.length ≤ tests) (ht : tests ≤ 6) (hq : q1 + 10 ≤ q0) (hq1 : q1 ≤ 1099500003000) (hA : A.length ≤ 17592186044416) :
    SR Tryz.prog (dropV 1 a85.body) ⟨[(0, .ptr s 0), (1, .ptr (nid + 8) 0)], dictH s nid nl A q1 G R, nid + 4200, nid + 4104⟩ (SpEnd s nid nl A tests q0 G R (dictH s nid nl A q G R)) .mk := by
  obtain ⟨e1, e2, e3, e4, e5, e6, e7, e8, e9⟩ := id_all h
  have hgl := hB.gl
  have hrl := hB.rl
  simp only [a85, dropV]
  unfold dictH boxD arrR
  refine SR.seq ?_
  simp -dsimp only [aqT, aqU, aqN, ↓seqK, ↓blkK, ↓loopK, step, stepBin, Nat.reduceBEq, Nat.reduceBeqDiff, Nat.add_assoc nid, Nat.reduceAdd, reduceCtorEq, ↓reduceIte, Nat.reduceLeDiff, Nat.reduceBneDiff, Option.toList, ← Int.ofNat_tmod, ← Int.ofNat_tdiv, Nat.reduceLT, Int.cast_ofNat_Int, Int.reduceBEq, Int.reduceBNe, Int.reduceLT, Int.reduceLE, Int.reduceAdd, Int.reduceSub, Int.reduceMul, Int.reduceToNat, Int.reduceNeg, Int.reduceTMod, Int.reduceEq, not_false_eq_true, Int.reducePow, Int.reduceFDiv, Nat.reducePow, Nat.reduceSub, Nat.reduceMul, Nat.min_eq_left, Nat.reduceEqDiff, BEq.rfl, Int.tdiv_one, LN_succ, e1, e2, e3, e4, e5, e6, e7, e8, e9, strmC_low]
  have hnd := nextV_bd A q1 (n := (R.length : Nat)) (by omega)
  obtain ⟨I, hI⟩ : ∃ I : Nat, nextV A q1 ((R.length : Nat) : Int) = I := ⟨_, (Int.toNat_of_nonneg hnd.1).symm⟩
  have hIR : I < R.length := by omega
  refine CallX.on (next_c s _ nl A q1 _ (by omega) (by omega) hA (by omega)) (subH_get (by simp only [aqT, aqU, aqN, ↓seqK, ↓blkK, ↓loopK, step, stepBin, Nat.reduceBEq, Nat.reduceBeqDiff, Nat.add_assoc nid, Nat.reduceAdd, reduceCtorEq, ↓reduceIte, Nat.reduceLeDiff, Nat.reduceBneDiff, Option.toList, ← Int.ofNat_tmod, ← Int.ofNat_tdiv, Nat.reduceLT, Int.cast_ofNat_Int, Int.reduceBEq, Int.reduceBNe, Int.reduceLT, Int.reduceLE, Int.reduceAdd, Int.reduceSub, Int.reduceMul, Int.reduceToNat, Int.reduceNeg, Int.reduceTMod, Int.reduceEq, not_false_eq_true, Int.reducePow, Int.reduceFDiv, Nat.reducePow, Nat.reduceSub, Nat.reduceMul, Nat.min_eq_left, Nat.reduceEqDiff, BEq.rfl, Int.tdiv_one, LN_succ, e1, e2, e3, e4, e5, e6, e7, e8, e9])) ?_
  rw [hI]
  simp -dsimp only [aqT, aqU, aqN, ↓seqK, ↓blkK, ↓loopK, step, stepBin, Nat.reduceBEq, Nat.reduceBeqDiff, Nat.add_assoc nid, Nat.reduceAdd, reduceCtorEq, ↓reduceIte, Nat.reduceLeDiff, Nat.reduceBneDiff, Option.toList, ← Int.ofNat_tmod, ← Int.ofNat_tdiv, Nat.reduceLT, Int.cast_ofNat_Int, Int.reduceBEq, Int.reduceBNe, Int.reduceLT, Int.reduceLE, Int.reduceAdd, Int.reduceSub, Int.reduceMul, Int.reduceToNat, Int.reduceNeg, Int.reduceTMod, Int.reduceEq, not_false_eq_true, Int.reducePow, Int.reduceFDiv, Nat.reducePow, Nat.reduceSub, Nat.reduceMul, Nat.min_eq_left, Nat.reduceEqDiff, BEq.rfl, Int.tdiv_one, LN_succ, e1, e2, e3, e4, e5, e6, e7, e8, e9, strmC_low]
  refine ⟨⟨by omega, by omega⟩, ?_⟩
  refine SR.seq ?_
  simp -dsimp only [aqT, aqU, aqN, ↓seqK, ↓blkK, ↓loopK, step, stepBin, Nat.reduceBEq, Nat.reduceBeqDiff, Nat.add_assoc nid, Nat.reduceAdd, reduceCtorEq, ↓reduceIte, Nat.reduceLeDiff, Nat.reduceBneDiff, Option.toList, ← Int.ofNat_tmod, ← Int.ofNat_tdiv, Nat.reduceLT, Int.cast_ofNat_Int, Int.reduceBEq, Int.reduceBNe, Int.reduceLT, Int.reduceLE, Int.reduceAdd, Int.reduceSub, Int.reduceMul, Int.reduceToNat, Int.reduceNeg, Int.reduceTMod, Int.reduceEq, not_false_eq_true, Int.reducePow, Int.reduceFDiv, Nat.reducePow, Nat.reduceSub, Nat.reduceMul, Nat.min_eq_left, Nat.reduceEqDiff, BEq.rfl, Int.tdiv_one, LN_succ, e1, e2, e3, e4, e5, e6, e7, e8, e9, strmC_low]
  have hkd := nextV_bd A (q1 + 1) (n := (3 : Int)) (by omega)
  refine CallO.on (next_c s _ nl A (q1 + 1) 3 (by omega) (by omega) hA (by omega)) (subH_get (by simp only [aqT, aqU, aqN, ↓seqK, ↓blkK, ↓loopK, step, stepBin, Nat.reduceBEq, Nat.reduceBeqDiff, Nat.add_assoc nid, Nat.reduceAdd, reduceCtorEq, ↓reduceIte, Nat.reduceLeDiff, Nat.reduceBneDiff, Option.toList, ← Int.ofNat_tmod, ← Int.ofNat_tdiv, Nat.reduceLT, Int.cast_ofNat_Int, Int.reduceBEq, Int.reduceBNe, Int.reduceLT, Int.reduceLE, Int.reduceAdd, Int.reduceSub, Int.reduceMul, Int.reduceToNat, Int.reduceNeg, Int.reduceTMod, Int.reduceEq, not_false_eq_true, Int.reducePow, Int.reduceFDiv, Nat.reducePow, Nat.reduceSub, Nat.reduceMul, Nat.min_eq_left, Nat.reduceEqDiff, BEq.rfl, Int.tdiv_one, LN_succ, e1, e2, e3, e4, e5, e6, e7, e8, e9])) ?_
  have hk : nextV A (q1 + 1) 3 = 0 ∨ nextV A (q1 + 1) 3 = 1 ∨ nextV A (q1 + 1) 3 = 2 := by omega
  have hf0 : ∀ c, R.length = c → famR nid R = famC nid R c := fun c hc => by rw [← hc]; rfl
  have hmem : R.getD I ([], []) ∈ R := by rw [List.getD_eq_getElem?_getD, List.getElem?_eq_getElem hIR]; exact List.getElem_mem hIR
  have hrow := hB.rs _ hmem
  have hrp := hpos _ hmem
  have hlI : rowR R I = (R.getD I ([], [])).2 := rfl
  rw [← hlI] at hrow hrp
  have hF1 := fun v => rowF_set (R := R) (I := I) (v, rowR R I) hIR
  have hi : R.length = 1 ∨ R.length = 2 ∨ R.length = 3 ∨ R.length = 4 ∨ R.length = 5 ∨ R.length = 6 ∨ R.length = 7 := by omega
  have hsl : ∀ x, (R.set I x).length = R.length := fun x => List.length_set
  have hnewB : ∀ x : List UInt8 × List (List UInt8), x.1 ∈ namesL → x.2.length ≤ tests + 1 → ShortRows 101 x.2 → DictB tests G (R.set I x) := fun x h1 h2 h3 => ⟨hB.gl, hB.gs, by rw [hsl]; exact hB.rl, fun y hy => by
    rcases List.mem_or_eq_of_mem_set hy with hy | rfl
    · exact hB.rs y hy
    · exact ⟨h1, h2, h3⟩⟩
  have k1 : ∀ c, c < 100 → (nid + c == nid + (100 + I)) = false := fun c hc => by simp; omega
  have k2 : ∀ c, c < 100 → (nid + (100 + I) == nid + c) = false := fun c hc => by simp; omega
  have k3 : ∀ c, 107 ≤ c → (nid + c == nid + (100 + I)) = false := fun c hc => by simp; omega
  have k4 : ∀ c, 107 ≤ c → (nid + (100 + I) == nid + c) = false := fun c hc => by simp; omega
  have k5 : (nid == nid + (100 + I)) = false := by simp
  have k6 : (nid + (100 + I) == nid) = false := by simp
  have k7 := fam_at nid R hrl hIR
  rcases hk with hk | hk | hk <;> rw [hk] <;> simp -dsimp only [aqT, aqU, aqN, ↓seqK, ↓blkK, ↓loopK, step, stepBin, Nat.reduceBEq, Nat.reduceBeqDiff, Nat.add_assoc nid, Nat.reduceAdd, reduceCtorEq, ↓reduceIte, Nat.reduceLeDiff, Nat.reduceBneDiff, Option.toList, ← Int.ofNat_tmod, ← Int.ofNat_tdiv, Nat.reduceLT, Int.cast_ofNat_Int, Int.reduceBEq, Int.reduceBNe, Int.reduceLT, Int.reduceLE, Int.reduceAdd, Int.reduceSub, Int.reduceMul, Int.reduceToNat, Int.reduceNeg, Int.reduceTMod, Int.reduceEq, not_false_eq_true, Int.reducePow, Int.reduceFDiv, Nat.reducePow, Nat.reduceSub, Nat.reduceMul, Nat.min_eq_left, Nat.reduceEqDiff, BEq.rfl, Int.tdiv_one, LN_succ, e1, e2, e3, e4, e5, e6, e7, e8, e9, strmC_low]
  · refine SR.run (t := .mk) ?_
    simp -dsimp only [aqT, aqU, aqN, ↓seqK, ↓blkK, ↓loopK, step, stepBin, Nat.reduceBEq, Nat.reduceBeqDiff, Nat.add_assoc nid, Nat.reduceAdd, reduceCtorEq, ↓reduceIte, Nat.reduceLeDiff, Nat.reduceBneDiff, Option.toList, ← Int.ofNat_tmod, ← Int.ofNat_tdiv, Nat.reduceLT, Int.cast_ofNat_Int, Int.reduceBEq, Int.reduceBNe, Int.reduceLT, Int.reduceLE, Int.reduceAdd, Int.reduceSub, Int.reduceMul, Int.reduceToNat, Int.reduceNeg, Int.reduceTMod, Int.reduceEq, not_false_eq_true, Int.reducePow, Int.reduceFDiv, Nat.reducePow, Nat.reduceSub, Nat.reduceMul, Nat.min_eq_left, Nat.reduceEqDiff, BEq.rfl, Int.tdiv_one, LN_succ, e1, e2, e3, e4, e5, e6, e7, e8, e9, strmC_low, Int.reduceBEq]
    refine CallO.some_go (T := 9) (nl := nl) (A := A) (p := q1 + 1 + 1) (g := fun i => [[], [102, 48], [70]].getD i []) (by simp only [aqT, aqU, aqN, ↓seqK, ↓blkK, ↓loopK, step, stepBin, Nat.reduceBEq, Nat.reduceBeqDiff, Nat.add_assoc nid, Nat.reduceAdd, reduceCtorEq, ↓reduceIte, Nat.reduceLeDiff, Nat.reduceBneDiff, Option.toList, ← Int.ofNat_tmod, ← Int.ofNat_tdiv, Nat.reduceLT, Int.cast_ofNat_Int, Int.reduceBEq, Int.reduceBNe, Int.reduceLT, Int.reduceLE, Int.reduceAdd, Int.reduceSub, Int.reduceMul, Int.reduceToNat, Int.reduceNeg, Int.reduceTMod, Int.reduceEq, not_false_eq_true, Int.reducePow, Int.reduceFDiv, Nat.reducePow, Nat.reduceSub, Nat.reduceMul, Nat.min_eq_left, Nat.reduceEqDiff, BEq.rfl, Int.tdiv_one, LN_succ, e1, e2, e3, e4, e5, e6, e7, e8, e9]) (by simp only [aqT, aqU, aqN, ↓seqK, ↓blkK, ↓loopK, step, stepBin, Nat.reduceBEq, Nat.reduceBeqDiff, Nat.add_assoc nid, Nat.reduceAdd, reduceCtorEq, ↓reduceIte, Nat.reduceLeDiff, Nat.reduceBneDiff, Option.toList, ← Int.ofNat_tmod, ← Int.ofNat_tdiv, Nat.reduceLT, Int.cast_ofNat_Int, Int.reduceBEq, Int.reduceBNe, Int.reduceLT, Int.reduceLE, Int.reduceAdd, Int.reduceSub, Int.reduceMul, Int.reduceToNat, Int.reduceNeg, Int.reduceTMod, Int.reduceEq, not_false_eq_true, Int.reducePow, Int.reduceFDiv, Nat.reducePow, Nat.reduceSub, Nat.reduceMul, Nat.min_eq_left, Nat.reduceEqDiff, BEq.rfl, Int.tdiv_one, LN_succ, e1, e2, e3, e4, e5, e6, e7, e8, e9]) (by simp only [aqT, aqU, aqN, ↓seqK, ↓blkK, ↓loopK, step, stepBin, Nat.reduceBEq, Nat.reduceBeqDiff, Nat.add_assoc nid, Nat.reduceAdd, reduceCtorEq, ↓reduceIte, Nat.reduceLeDiff, Nat.reduceBneDiff, Option.toList, ← Int.ofNat_tmod, ← Int.ofNat_tdiv, Nat.reduceLT, Int.cast_ofNat_Int, Int.reduceBEq, Int.reduceBNe, Int.reduceLT, Int.reduceLE, Int.reduceAdd, Int.reduceSub, Int.reduceMul, Int.reduceToNat, Int.reduceNeg, Int.reduceTMod, Int.reduceEq, not_false_eq_true, Int.reducePow, Int.reduceFDiv, Nat.reducePow, Nat.reduceSub, Nat.reduceMul, Nat.min_eq_left, Nat.reduceEqDiff, BEq.rfl, Int.tdiv_one, LN_succ, e1, e2, e3, e4, e5, e6, e7, e8, e9]) (by omega) (by omega) hA (by omega) (by omega) ?_
    have hb := getD_all (P := fun x : List UInt8 => x ∈ namesL) (l := [[], [102, 48], [70]]) (d := []) (by decide) (pickI_lt A (q1 + 1 + 1) (n := 3) (by omega))
    generalize ([[], [102, 48], [70]].getD (pickI A (q1 + 1 + 1) 3) [] : List UInt8) = v at hb ⊢
    simp -dsimp only [aqT, aqU, aqN, ↓seqK, ↓blkK, ↓loopK, step, stepBin, Nat.reduceBEq, Nat.reduceBeqDiff, Nat.add_assoc nid, Nat.reduceAdd, reduceCtorEq, ↓reduceIte, Nat.reduceLeDiff, Nat.reduceBneDiff, Option.toList, ← Int.ofNat_tmod, ← Int.ofNat_tdiv, Nat.reduceLT, Int.cast_ofNat_Int, Int.reduceBEq, Int.reduceBNe, Int.reduceLT, Int.reduceLE, Int.reduceAdd, Int.reduceSub, Int.reduceMul, Int.reduceToNat, Int.reduceNeg, Int.reduceTMod, Int.reduceEq, not_false_eq_true, Int.reducePow, Int.reduceFDiv, Nat.reducePow, Nat.reduceSub, Nat.reduceMul, Nat.min_eq_left, Nat.reduceEqDiff, BEq.rfl, Int.tdiv_one, LN_succ, e1, e2, e3, e4, e5, e6, e7, e8, e9, strmC_low]
    have e1' : (fun j => if j = I then v else rowF R j) = rowF (R.set I (v, rowR R I)) := by
      funext j
      rw [rowF_set _ hIR]
    have e2' : ∀ j, rowR (R.set I (v, rowR R I)) j = rowR R j := fun j => by
      rw [rowR_set _ hIR]
      split
      · rename_i e; rw [e]
      · rfl
    rw [e1']
    refine ⟨⟨G, R.set I (v, rowR R I), q1 + 1 + 1 + 1, none⟩, ⟨hnewB _ hb (show (rowR R I).length ≤ tests + 1 by omega) hrow.2.2, by simp only; omega, fun I h => by cases h⟩, ?_⟩
    have hll := hsl (v, rowR R I)
    generalize R.set I (v, rowR R I) = R2 at *
    have hf2 : ∀ c, R2.length = c → famR nid R2 = famC nid R2 c := fun c hc => by rw [← hc]; rfl
    simp only [spU, dictH]
    rcases hi with hi | hi | hi | hi | hi | hi | hi
    all_goals
      rw [hf0 _ hi, hf2 _ (hll.trans hi)]
      refine RetOK.go [] [] (.inr rfl) ?_
      simp [a85, retPV, over, keys, List.map_nil, List.map_cons, List.contains_cons, List.contains_nil, Bool.or_false, Bool.or_true, Bool.true_or, Bool.false_or, beq_self_eq_true, cond_true, cond_false, HeapCov, orNil, nilSz, onBlk, srcOf, getH_hit, getH_miss, getH.eq_1, getS_hit, getS_miss, getS.eq_1, BlkCov, PVCovs, PVCov, ColsEq, AColsEq, ACEq, ColEq.refl, liveIds, SlotsCov, List.all_nil, List.all_cons, List.any_nil, List.any_cons, List.nil_append, List.cons_append, inRange, apart, nilBlk, idS1, idS2, readAll, readRes, onAll, step, res, AX.val, List.drop_zero, List.drop_succ_cons, List.take_succ_cons, List.take_zero, e1, e2, e3, e4, e5, e6, e7, e8, e9, strmC, famC, inR, boxP, boxD, arrS, arrR, hll, e2', -List.getD_eq_getElem?_getD]
      exact ⟨⟨by omega, by omega⟩, by omega, fun j hj => by omega⟩
  · refine SR.run (t := .mk) ?_
    unfold arrS at k7
    simp -dsimp only [aqT, aqU, aqN, ↓seqK, ↓blkK, ↓loopK, step, stepBin, Nat.reduceBEq, Nat.reduceBeqDiff, Nat.add_assoc nid, Nat.reduceAdd, reduceCtorEq, ↓reduceIte, Nat.reduceLeDiff, Nat.reduceBneDiff, Option.toList, ← Int.ofNat_tmod, ← Int.ofNat_tdiv, Nat.reduceLT, Int.cast_ofNat_Int, Int.reduceBEq, Int.reduceBNe, Int.reduceLT, Int.reduceLE, Int.reduceAdd, Int.reduceSub, Int.reduceMul, Int.reduceToNat, Int.reduceNeg, Int.reduceTMod, Int.reduceEq, not_false_eq_true, Int.reducePow, Int.reduceFDiv, Nat.reducePow, Nat.reduceSub, Nat.reduceMul, Nat.min_eq_left, Nat.reduceEqDiff, BEq.rfl, Int.tdiv_one, LN_succ, e1, e2, e3, e4, e5, e6, e7, e8, e9, strmC_low, Int.reduceBEq]
    refine CallO.lent [nid + (100 + I)] (fun nl' => by
      simp only [lends, lend, aqT, aqU, aqN, ↓seqK, ↓blkK, ↓loopK, step, stepBin, Nat.reduceBEq, Nat.reduceBeqDiff, Nat.add_assoc nid, Nat.reduceAdd, reduceCtorEq, ↓reduceIte, Nat.reduceLeDiff, Nat.reduceBneDiff, Option.toList, ← Int.ofNat_tmod, ← Int.ofNat_tdiv, Nat.reduceLT, Int.cast_ofNat_Int, Int.reduceBEq, Int.reduceBNe, Int.reduceLT, Int.reduceLE, Int.reduceAdd, Int.reduceSub, Int.reduceMul, Int.reduceToNat, Int.reduceNeg, Int.reduceTMod, Int.reduceEq, not_false_eq_true, Int.reducePow, Int.reduceFDiv, Nat.reducePow, Nat.reduceSub, Nat.reduceMul, Nat.min_eq_left, Nat.reduceEqDiff, BEq.rfl, Int.tdiv_one, LN_succ, e1, e2, e3, e4, e5, e6, e7, e8, e9, k1, k2, k3, k4, k5, k6, k7, arrS, Nat.reduceLT, Nat.reduceLeDiff]
      exact ACall.nonnil 0 rfl (fun hn => cloneD_c _ (rowR R I) _ (by omega) (fun e => List.eq_nil_of_length_eq_zero (hn e)))) rfl rfl (by simp only [List.mem_singleton, forall_eq, aqT, aqU, aqN, ↓seqK, ↓blkK, ↓loopK, step, stepBin, Nat.reduceBEq, Nat.reduceBeqDiff, Nat.add_assoc nid, Nat.reduceAdd, reduceCtorEq, ↓reduceIte, Nat.reduceLeDiff, Nat.reduceBneDiff, Option.toList, ← Int.ofNat_tmod, ← Int.ofNat_tdiv, Nat.reduceLT, Int.cast_ofNat_Int, Int.reduceBEq, Int.reduceBNe, Int.reduceLT, Int.reduceLE, Int.reduceAdd, Int.reduceSub, Int.reduceMul, Int.reduceToNat, Int.reduceNeg, Int.reduceTMod, Int.reduceEq, not_false_eq_true, Int.reducePow, Int.reduceFDiv, Nat.reducePow, Nat.reduceSub, Nat.reduceMul, Nat.min_eq_left, Nat.reduceEqDiff, BEq.rfl, Int.tdiv_one, LN_succ, k1, k2, k3, k4, k5, k6, Nat.reduceLT, Nat.reduceLeDiff]) ?_
    unfold arrS
    simp -dsimp only [aqT, aqU, aqN, ↓seqK, ↓blkK, ↓loopK, step, stepBin, Nat.reduceBEq, Nat.reduceBeqDiff, Nat.add_assoc nid, Nat.reduceAdd, reduceCtorEq, ↓reduceIte, Nat.reduceLeDiff, Nat.reduceBneDiff, Option.toList, ← Int.ofNat_tmod, ← Int.ofNat_tdiv, Nat.reduceLT, Int.cast_ofNat_Int, Int.reduceBEq, Int.reduceBNe, Int.reduceLT, Int.reduceLE, Int.reduceAdd, Int.reduceSub, Int.reduceMul, Int.reduceToNat, Int.reduceNeg, Int.reduceTMod, Int.reduceEq, not_false_eq_true, Int.reducePow, Int.reduceFDiv, Nat.reducePow, Nat.reduceSub, Nat.reduceMul, Nat.min_eq_left, Nat.reduceEqDiff, BEq.rfl, Int.tdiv_one, LN_succ, e1, e2, e3, e4, e5, e6, e7, e8, e9, strmC_low, k1, k2, k3, k4, k5, k6, k7, Nat.reduceLT, Nat.reduceLeDiff]
    rw [getD_app1 (rowR R I) [48] rfl]
    have hlen : (rowR R I ++ [[48]]).length = (rowR R I).length + 1 := by simp
    have fF : ∀ j, rowF (R.set I (rowF R I, rowR R I ++ [[48]])) j = rowF R j := fun j => by
      rw [rowF_set _ hIR]
      split
      · rename_i e; rw [e]
      · rfl
    have fI : rowR (R.set I (rowF R I, rowR R I ++ [[48]])) I = rowR R I ++ [[48]] := by rw [rowR_set _ hIR, if_pos rfl]
    have fL : ∀ j, (rowR (R.set I (rowF R I, rowR R I ++ [[48]])) j).length = if j = I then (rowR R I).length + 1 else (rowR R j).length := fun j => by
      rw [rowR_set _ hIR]
      split
      · exact hlen
      · rfl
    have hll := hsl (rowF R I, rowR R I ++ [[48]])
    refine ⟨by omega, ⟨G, R.set I (rowF R I, rowR R I ++ [[48]]), q1 + 1 + 1, some I⟩, ⟨hnewB _ hrow.1 (show (rowR R I ++ [[48]]).length ≤ tests + 1 by omega) (hrow.2.2.snoc (by simp)), by simp only; omega, fun I' h => by cases h; exact ⟨hIR, rfl, rfl⟩⟩, ?_⟩
    simp only [spU, fI, hll, fF, fL]
    generalize R.set I (rowF R I, rowR R I ++ [[48]]) = R2 at *
    generalize rowR R I ++ [[48]] = L2 at *
    rcases hi with hi | hi | hi | hi | hi | hi | hi
    all_goals
      rw [hf0 _ hi]
      refine RetOK.go [(nid + 4104, nid + 4304)] [] (.inr rfl) ?_
      simp [a85, retPV, over, keys, List.map_nil, List.map_cons, List.contains_cons, List.contains_nil, Bool.or_false, Bool.or_true, Bool.true_or, Bool.false_or, beq_self_eq_true, cond_true, cond_false, HeapCov, orNil, nilSz, onBlk, srcOf, getH_hit, getH_miss, getH.eq_1, getS_hit, getS_miss, getS.eq_1, BlkCov, PVCovs, PVCov, ColsEq, AColsEq, ACEq, ColEq.refl, liveIds, SlotsCov, List.all_nil, List.all_cons, List.any_nil, List.any_cons, List.nil_append, List.cons_append, inRange, apart, nilBlk, idS1, idS2, readAll, readRes, onAll, step, res, AX.val, List.drop_zero, List.drop_succ_cons, List.take_succ_cons, List.take_zero, e1, e2, e3, e4, e5, e6, e7, e8, e9, strmC, famC, inR, boxP, boxD, arrS, arrR, hlen, -List.getD_eq_getElem?_getD]
      exact ⟨⟨by omega, by omega⟩, fun j hj => by
        by_cases e : j = I
        · subst e
          rw [if_pos (fun h => absurd rfl h)]
          simp only [if_true]
          exact ⟨trivial, by omega⟩
        · rw [if_neg (fun h => by have := h e; omega)]
          simp only [if_neg e]
          exact ⟨trivial, by omega⟩, by omega⟩
  · refine SR.run (t := .mk) ?_
    simp -dsimp only [aqT, aqU, aqN, ↓seqK, ↓blkK, ↓loopK, step, stepBin, Nat.reduceBEq, Nat.reduceBeqDiff, Nat.add_assoc nid, Nat.reduceAdd, reduceCtorEq, ↓reduceIte, Nat.reduceLeDiff, Nat.reduceBneDiff, Option.toList, ← Int.ofNat_tmod, ← Int.ofNat_tdiv, Nat.reduceLT, Int.cast_ofNat_Int, Int.reduceBEq, Int.reduceBNe, Int.reduceLT, Int.reduceLE, Int.reduceAdd, Int.reduceSub, Int.reduceMul, Int.reduceToNat, Int.reduceNeg, Int.reduceTMod, Int.reduceEq, not_false_eq_true, Int.reducePow, Int.reduceFDiv, Nat.reducePow, Nat.reduceSub, Nat.reduceMul, Nat.min_eq_left, Nat.reduceEqDiff, BEq.rfl, Int.tdiv_one, LN_succ, e1, e2, e3, e4, e5, e6, e7, e8, e9, strmC_low, Int.reduceBEq]
    have hjd := nextV_bd A (q1 + 1 + 1) (n := ((rowR R I).length : Nat)) (by omega)
    obtain ⟨J, hJ⟩ : ∃ J : Nat, nextV A (q1 + 1 + 1) (((rowR R I).length : Nat) : Int) = J := ⟨_, (Int.toNat_of_nonneg hjd.1).symm⟩
    have hJR : J < (rowR R I).length := by omega
    refine CallX.on (next_c s _ nl A (q1 + 1 + 1) _ (by omega) (by omega) hA (by omega)) (subH_get (by simp only [aqT, aqU, aqN, ↓seqK, ↓blkK, ↓loopK, step, stepBin, Nat.reduceBEq, Nat.reduceBeqDiff, Nat.add_assoc nid, Nat.reduceAdd, reduceCtorEq, ↓reduceIte, Nat.reduceLeDiff, Nat.reduceBneDiff, Option.toList, ← Int.ofNat_tmod, ← Int.ofNat_tdiv, Nat.reduceLT, Int.cast_ofNat_Int, Int.reduceBEq, Int.reduceBNe, Int.reduceLT, Int.reduceLE, Int.reduceAdd, Int.reduceSub, Int.reduceMul, Int.reduceToNat, Int.reduceNeg, Int.reduceTMod, Int.reduceEq, not_false_eq_true, Int.reducePow, Int.reduceFDiv, Nat.reducePow, Nat.reduceSub, Nat.reduceMul, Nat.min_eq_left, Nat.reduceEqDiff, BEq.rfl, Int.tdiv_one, LN_succ, e1, e2, e3, e4, e5, e6, e7, e8, e9])) ?_
    rw [hJ]
    simp -dsimp only [aqT, aqU, aqN, ↓seqK, ↓blkK, ↓loopK, step, stepBin, Nat.reduceBEq, Nat.reduceBeqDiff, Nat.add_assoc nid, Nat.reduceAdd, reduceCtorEq, ↓reduceIte, Nat.reduceLeDiff, Nat.reduceBneDiff, Option.toList, ← Int.ofNat_tmod, ← Int.ofNat_tdiv, Nat.reduceLT, Int.cast_ofNat_Int, Int.reduceBEq, Int.reduceBNe, Int.reduceLT, Int.reduceLE, Int.reduceAdd, Int.reduceSub, Int.reduceMul, Int.reduceToNat, Int.reduceNeg, Int.reduceTMod, Int.reduceEq, not_false_eq_true, Int.reducePow, Int.reduceFDiv, Nat.reducePow, Nat.reduceSub, Nat.reduceMul, Nat.min_eq_left, Nat.reduceEqDiff, BEq.rfl, Int.tdiv_one, LN_succ, e1, e2, e3, e4, e5, e6, e7, e8, e9, strmC_low]
    refine CallX.some_go (T := 9) (nl := nl) (A := A) (p := q1 + 1 + 1 + 1) (g := fun i => [[], [97, 32, 98], [49]].getD i []) (by simp only [aqT, aqU, aqN, ↓seqK, ↓blkK, ↓loopK, step, stepBin, Nat.reduceBEq, Nat.reduceBeqDiff, Nat.add_assoc nid, Nat.reduceAdd, reduceCtorEq, ↓reduceIte, Nat.reduceLeDiff, Nat.reduceBneDiff, Option.toList, ← Int.ofNat_tmod, ← Int.ofNat_tdiv, Nat.reduceLT, Int.cast_ofNat_Int, Int.reduceBEq, Int.reduceBNe, Int.reduceLT, Int.reduceLE, Int.reduceAdd, Int.reduceSub, Int.reduceMul, Int.reduceToNat, Int.reduceNeg, Int.reduceTMod, Int.reduceEq, not_false_eq_true, Int.reducePow, Int.reduceFDiv, Nat.reducePow, Nat.reduceSub, Nat.reduceMul, Nat.min_eq_left, Nat.reduceEqDiff, BEq.rfl, Int.tdiv_one, LN_succ, e1, e2, e3, e4, e5, e6, e7, e8, e9]) (by simp only [aqT, aqU, aqN, ↓seqK, ↓blkK, ↓loopK, step, stepBin, Nat.reduceBEq, Nat.reduceBeqDiff, Nat.add_assoc nid, Nat.reduceAdd, reduceCtorEq, ↓reduceIte, Nat.reduceLeDiff, Nat.reduceBneDiff, Option.toList, ← Int.ofNat_tmod, ← Int.ofNat_tdiv, Nat.reduceLT, Int.cast_ofNat_Int, Int.reduceBEq, Int.reduceBNe, Int.reduceLT, Int.reduceLE, Int.reduceAdd, Int.reduceSub, Int.reduceMul, Int.reduceToNat, Int.reduceNeg, Int.reduceTMod, Int.reduceEq, not_false_eq_true, Int.reducePow, Int.reduceFDiv, Nat.reducePow, Nat.reduceSub, Nat.reduceMul, Nat.min_eq_left, Nat.reduceEqDiff, BEq.rfl, Int.tdiv_one, LN_succ, e1, e2, e3, e4, e5, e6, e7, e8, e9]) (by simp only [aqT, aqU, aqN, ↓seqK, ↓blkK, ↓loopK, step, stepBin, Nat.reduceBEq, Nat.reduceBeqDiff, Nat.add_assoc nid, Nat.reduceAdd, reduceCtorEq, ↓reduceIte, Nat.reduceLeDiff, Nat.reduceBneDiff, Option.toList, ← Int.ofNat_tmod, ← Int.ofNat_tdiv, Nat.reduceLT, Int.cast_ofNat_Int, Int.reduceBEq, Int.reduceBNe, Int.reduceLT, Int.reduceLE, Int.reduceAdd, Int.reduceSub, Int.reduceMul, Int.reduceToNat, Int.reduceNeg, Int.reduceTMod, Int.reduceEq, not_false_eq_true, Int.reducePow, Int.reduceFDiv, Nat.reducePow, Nat.reduceSub, Nat.reduceMul, Nat.min_eq_left, Nat.reduceEqDiff, BEq.rfl, Int.tdiv_one, LN_succ, e1, e2, e3, e4, e5, e6, e7, e8, e9]) (by omega) (by omega) hA (by omega) (by omega) ?_
    have hb := getD_all (P := fun x : List UInt8 => x.length ≤ 101) (l := [[], [97, 32, 98], [49]]) (d := []) (by intro x hx; simp only [List.mem_cons, List.not_mem_nil, or_false] at hx; rcases hx with rfl | rfl | rfl <;> simp) (pickI_lt A (q1 + 1 + 1 + 1) (n := 3) (by omega))
    generalize ([[], [97, 32, 98], [49]].getD (pickI A (q1 + 1 + 1 + 1) 3) [] : List UInt8) = v at hb ⊢
    unfold arrS at k7
    simp -dsimp only [aqT, aqU, aqN, ↓seqK, ↓blkK, ↓loopK, step, stepBin, Nat.reduceBEq, Nat.reduceBeqDiff, Nat.add_assoc nid, Nat.reduceAdd, reduceCtorEq, ↓reduceIte, Nat.reduceLeDiff, Nat.reduceBneDiff, Option.toList, ← Int.ofNat_tmod, ← Int.ofNat_tdiv, Nat.reduceLT, Int.cast_ofNat_Int, Int.reduceBEq, Int.reduceBNe, Int.reduceLT, Int.reduceLE, Int.reduceAdd, Int.reduceSub, Int.reduceMul, Int.reduceToNat, Int.reduceNeg, Int.reduceTMod, Int.reduceEq, not_false_eq_true, Int.reducePow, Int.reduceFDiv, Nat.reducePow, Nat.reduceSub, Nat.reduceMul, Nat.min_eq_left, Nat.reduceEqDiff, BEq.rfl, Int.tdiv_one, LN_succ, e1, e2, e3, e4, e5, e6, e7, e8, e9, strmC_low, k1, k2, k3, k4, k5, k6, k7, arrS, Nat.reduceLT, Nat.reduceLeDiff]
    rw [getD_setS (rowR R I) v hJR]
    have hlen : ((rowR R I).set J v).length = (rowR R I).length := List.length_set
    have fF : ∀ j, rowF (R.set I (rowF R I, (rowR R I).set J v)) j = rowF R j := fun j => by
      rw [rowF_set _ hIR]
      split
      · rename_i e; rw [e]
      · rfl
    have fI : rowR (R.set I (rowF R I, (rowR R I).set J v)) I = (rowR R I).set J v := by rw [rowR_set _ hIR, if_pos rfl]
    have fO : ∀ j, j ≠ I → rowR (R.set I (rowF R I, (rowR R I).set J v)) j = rowR R j := fun j hj => by rw [rowR_set _ hIR, if_neg hj]
    have fL : ∀ j, (rowR (R.set I (rowF R I, (rowR R I).set J v)) j).length = (rowR R j).length := fun j => by
      rw [rowR_set _ hIR]
      split
      · rename_i e; rw [e]; exact hlen
      · rfl
    have hll := hsl (rowF R I, (rowR R I).set J v)
    refine ⟨⟨by omega, by omega⟩, ⟨G, R.set I (rowF R I, (rowR R I).set J v), q1 + 1 + 1 + 1 + 1, none⟩, ⟨hnewB _ hrow.1 (show ((rowR R I).set J v).length ≤ tests + 1 by omega) (hrow.2.2.set J hb), by simp only; omega, fun I' h => by cases h⟩, ?_⟩
    generalize R.set I (rowF R I, (rowR R I).set J v) = R2 at *
    generalize (rowR R I).set J v = L2 at *
    have hf2 : ∀ c, R2.length = c → famR nid R2 = famC nid R2 c := fun c hc => by rw [← hc]; rfl
    simp only [spU, dictH]
    clear k1 k2 k3 k4 k5 k6 k7 hmem hlI
    have hI6 : I = 0 ∨ I = 1 ∨ I = 2 ∨ I = 3 ∨ I = 4 ∨ I = 5 ∨ I = 6 := by omega
    rcases hi with hi | hi | hi | hi | hi | hi | hi <;> rcases hI6 with rfl | rfl | rfl | rfl | rfl | rfl | rfl
    all_goals try (exfalso; omega)
    all_goals
      rw [hf0 _ hi, hf2 _ (hll.trans hi)]
      refine RetOK.go [] [] (.inr rfl) ?_
      simp [a85, retPV, over, keys, List.map_nil, List.map_cons, List.contains_cons, List.contains_nil, Bool.or_false, Bool.or_true, Bool.true_or, Bool.false_or, beq_self_eq_true, cond_true, cond_false, HeapCov, orNil, nilSz, onBlk, srcOf, getH_hit, getH_miss, getH.eq_1, getS_hit, getS_miss, getS.eq_1, BlkCov, PVCovs, PVCov, ColsEq, AColsEq, ACEq, ColEq.refl, liveIds, SlotsCov, List.all_nil, List.all_cons, List.any_nil, List.any_cons, List.nil_append, List.cons_append, inRange, apart, nilBlk, idS1, idS2, readAll, readRes, onAll, step, res, AX.val, List.drop_zero, List.drop_succ_cons, List.take_succ_cons, List.take_zero, e1, e2, e3, e4, e5, e6, e7, e8, e9, strmC, famC, inR, boxP, boxD, arrS, arrR, hll, hlen, fF, fI, fO, fL, -List.getD_eq_getElem?_getD]
      exact ⟨⟨by omega, by omega⟩, by omega, fun j hj => by omega⟩
end Go.Proofs.YtpifoghhaohhaaaGreatDoor
namespace Go.Proofs.YtpifoghhaohhaaaGreatDoor
open Go.RowKit Go.Shelf Go.Lib
theorem spoil_seq : a85.body = .seq (headV a85.body) (dropV 1 a85.body) := by kernel_rfl
set_option maxHeartbeats 8000000 in
theorem spoil_I (s nid q q0 tests : Nat) (nl : Bool) (A : List Int) (G : List (List UInt8)) (R : RowL) (h : s < nid) (hB : DictB tests G R) (hG0 : 0 < G.length) (hpos : ∀ y ∈ R, 1 ≤ y.2.length ∧ y.2.length ≤ tests) (ht : tests ≤ 6) (hq : q + 12 ≤ q0) (hq1 : q ≤ 1099500002000) (hA : A.length ≤ 17592186044416) :
    ACallI Tryz.prog 85 [.ptr s 0, .ptr (nid + 8) 0] (dictH s nid nl A q G R) (nid + 4104) (SpPost tests q0 G R) (fun _ => .tup []) (fun x => spU s nid nl A x) := by
  obtain ⟨e1, e2, e3, e4, e5, e6, e7, e8, e9⟩ := id_all h
  have hrl := hB.rl
  have hf0 : ∀ c, R.length = c → famR nid R = famC nid R c := fun c hc => by rw [← hc]; rfl
  refine acallI_sr c85 (by simp [a85]) ?_
  rw [spoil_seq]
  refine SR.seqW (ι := {q1 : Nat // q1 ≤ q + 1 ∧ 0 < R.length}) (fun q1 => ⟨[(0, .ptr s 0), (1, .ptr (nid + 8) 0)], dictH s nid nl A q1.1 G R, nid + 4200, nid + 4104⟩) ?_ (fun ⟨q1, hq2, hR0⟩ => spoil_R s nid q q0 tests nl A G R q1 h hB hR0 hpos ht (by omega) (by omega) hA)
  have hi : R.length = 0 ∨ R.length = 1 ∨ R.length = 2 ∨ R.length = 3 ∨ R.length = 4 ∨ R.length = 5 ∨ R.length = 6 ∨ R.length = 7 := by omega
  refine SR.seqW (ι := {x : Bool × Nat // x.2 ≤ q + 1 ∧ (x.1 = false → 0 < R.length)}) (fun x => ⟨[(14, .bool x.1.1), (0, .ptr s 0), (1, .ptr (nid + 8) 0)], dictH s nid nl A x.1.2 G R, nid + 4200, nid + 4104⟩) ?_ (fun ⟨⟨f, q1⟩, hq2, hR0⟩ => ?_)
  · simp only [a85, headV]
    refine SR.run (t := .mk) ?_
    simp only [argSlots]
    unfold dictH boxD arrR
    simp -dsimp only [aqT, aqU, aqN, ↓seqK, ↓blkK, ↓loopK, step, stepBin, Nat.reduceBEq, Nat.reduceBeqDiff, Nat.add_assoc nid, Nat.reduceAdd, reduceCtorEq, ↓reduceIte, Nat.reduceLeDiff, Nat.reduceBneDiff, Option.toList, ← Int.ofNat_tmod, ← Int.ofNat_tdiv, Nat.reduceLT, Int.cast_ofNat_Int, Int.reduceBEq, Int.reduceBNe, Int.reduceLT, Int.reduceLE, Int.reduceAdd, Int.reduceSub, Int.reduceMul, Int.reduceToNat, Int.reduceNeg, Int.reduceTMod, Int.reduceEq, not_false_eq_true, Int.reducePow, Int.reduceFDiv, Nat.reducePow, Nat.reduceSub, Nat.reduceMul, Nat.min_eq_left, Nat.reduceEqDiff, BEq.rfl, Int.tdiv_one, LN_succ, e1, e2, e3, e4, e5, e6, e7, e8, e9, strmC_low]
    refine S2.intro (fun h9 => ?_) (fun h9 => ?_) <;> simp -dsimp only [aqT, aqU, aqN, ↓seqK, ↓blkK, ↓loopK, step, stepBin, Nat.reduceBEq, Nat.reduceBeqDiff, Nat.add_assoc nid, Nat.reduceAdd, reduceCtorEq, ↓reduceIte, Nat.reduceLeDiff, Nat.reduceBneDiff, Option.toList, ← Int.ofNat_tmod, ← Int.ofNat_tdiv, Nat.reduceLT, Int.cast_ofNat_Int, Int.reduceBEq, Int.reduceBNe, Int.reduceLT, Int.reduceLE, Int.reduceAdd, Int.reduceSub, Int.reduceMul, Int.reduceToNat, Int.reduceNeg, Int.reduceTMod, Int.reduceEq, not_false_eq_true, Int.reducePow, Int.reduceFDiv, Nat.reducePow, Nat.reduceSub, Nat.reduceMul, Nat.min_eq_left, Nat.reduceEqDiff, BEq.rfl, Int.tdiv_one, LN_succ, e1, e2, e3, e4, e5, e6, e7, e8, e9, strmC_low]
    · refine ⟨⟨(true, q), by simp only; omega, fun hh => by cases hh⟩, Cov.drop (by omega) ?_⟩
      simp only [SlotsIn, aqT, aqU, aqN, ↓seqK, ↓blkK, ↓loopK, step, stepBin, Nat.reduceBEq, Nat.reduceBeqDiff, Nat.add_assoc nid, Nat.reduceAdd, reduceCtorEq, ↓reduceIte, Nat.reduceLeDiff, Nat.reduceBneDiff, Option.toList, ← Int.ofNat_tmod, ← Int.ofNat_tdiv, Nat.reduceLT]
      try simp
    · have hR0 : 0 < R.length := by
        have : ¬ R.length = 0 := by simpa using h9
        omega
      refine CallO.on (flip_c s _ nl A q 4 (by omega) (by omega) hA (by omega)) (subH_get (by simp only [aqT, aqU, aqN, ↓seqK, ↓blkK, ↓loopK, step, stepBin, Nat.reduceBEq, Nat.reduceBeqDiff, Nat.add_assoc nid, Nat.reduceAdd, reduceCtorEq, ↓reduceIte, Nat.reduceLeDiff, Nat.reduceBneDiff, Option.toList, ← Int.ofNat_tmod, ← Int.ofNat_tdiv, Nat.reduceLT, e1, e2, e3, e4, e5, e6, e7, e8, e9, Int.cast_ofNat_Int, Int.reduceBEq, Int.reduceBNe, Int.reduceLT, Int.reduceLE, Int.reduceAdd, Int.reduceSub, Int.reduceMul, Int.reduceToNat, Int.reduceNeg, Int.reduceTMod, Int.reduceEq, not_false_eq_true, Int.reducePow, Int.reduceFDiv, Nat.reducePow, Nat.reduceSub, Nat.reduceMul, Nat.min_eq_left, Nat.reduceEqDiff, BEq.rfl, Int.tdiv_one, LN_succ])) ?_
      simp -dsimp only [aqT, aqU, aqN, ↓seqK, ↓blkK, ↓loopK, step, stepBin, Nat.reduceBEq, Nat.reduceBeqDiff, Nat.add_assoc nid, Nat.reduceAdd, reduceCtorEq, ↓reduceIte, Nat.reduceLeDiff, Nat.reduceBneDiff, Option.toList, ← Int.ofNat_tmod, ← Int.ofNat_tdiv, Nat.reduceLT, Int.cast_ofNat_Int, Int.reduceBEq, Int.reduceBNe, Int.reduceLT, Int.reduceLE, Int.reduceAdd, Int.reduceSub, Int.reduceMul, Int.reduceToNat, Int.reduceNeg, Int.reduceTMod, Int.reduceEq, not_false_eq_true, Int.reducePow, Int.reduceFDiv, Nat.reducePow, Nat.reduceSub, Nat.reduceMul, Nat.min_eq_left, Nat.reduceEqDiff, BEq.rfl, Int.tdiv_one, LN_succ, e1, e2, e3, e4, e5, e6, e7, e8, e9, strmC_low]
      refine ⟨⟨(flipV A q 4, q + 1), by simp only; omega, fun _ => hR0⟩, Cov.go [] [] ?_⟩
      simp only [dictH]
      rcases hi with hi | hi | hi | hi | hi | hi | hi | hi
      all_goals
        rw [hf0 _ hi]
        simp [retPV, over, keys, List.map_nil, List.map_cons, List.contains_cons, List.contains_nil, Bool.or_false, Bool.or_true, Bool.true_or, Bool.false_or, beq_self_eq_true, cond_true, cond_false, HeapCov, orNil, nilSz, onBlk, srcOf, getH_hit, getH_miss, getH.eq_1, getS_hit, getS_miss, getS.eq_1, BlkCov, PVCovs, PVCov, ColsEq, AColsEq, ACEq, ColEq.refl, liveIds, SlotsCov, List.all_nil, List.all_cons, List.any_nil, List.any_cons, List.nil_append, List.cons_append, inRange, apart, nilBlk, idS1, idS2, readAll, readRes, onAll, step, res, AX.val, List.drop_zero, List.drop_succ_cons, List.take_succ_cons, List.take_zero, e1, e2, e3, e4, e5, e6, e7, e8, e9, strmC, famC, inR, boxP, boxD, arrS, arrR, -List.getD_eq_getElem?_getD]
        exact fun j hj => by omega
  · refine SR.cond (b := f) (by simp [AX.val, getS]) (fun hf => ?_) (fun hf => ?_)
    · refine SR.cov (t' := .mk) (st' := ⟨[(0, .ptr s 0), (1, .ptr (nid + 8) 0)], dictH s nid nl A q1 G R, nid + 4200, nid + 4104⟩) (Cov.drop (by omega) (by simp [SlotsIn, getS])) ?_
      exact spoil_G s nid q q0 tests nl A G R q1 h hB hG0 ht (by omega) (by omega) hA _
    · refine SR.run (t := .mk) ?_
      simp -dsimp only [aqT, aqU, aqN, ↓seqK, ↓blkK, ↓loopK, step, stepBin, Nat.reduceBEq, Nat.reduceBeqDiff, Nat.add_assoc nid, Nat.reduceAdd, reduceCtorEq, ↓reduceIte, Nat.reduceLeDiff, Nat.reduceBneDiff, Option.toList, ← Int.ofNat_tmod, ← Int.ofNat_tdiv, Nat.reduceLT, Int.cast_ofNat_Int, Int.reduceBEq, Int.reduceBNe, Int.reduceLT, Int.reduceLE, Int.reduceAdd, Int.reduceSub, Int.reduceMul, Int.reduceToNat, Int.reduceNeg, Int.reduceTMod, Int.reduceEq, not_false_eq_true, Int.reducePow, Int.reduceFDiv, Nat.reducePow, Nat.reduceSub, Nat.reduceMul, Nat.min_eq_left, Nat.reduceEqDiff, BEq.rfl, Int.tdiv_one, LN_succ, e1, e2, e3, e4, e5, e6, e7, e8, e9, strmC_low]
      refine ⟨⟨q1, hq2, hR0 hf⟩, Cov.drop (by omega) ?_⟩
      simp only [SlotsIn, aqT, aqU, aqN, ↓seqK, ↓blkK, ↓loopK, step, stepBin, Nat.reduceBEq, Nat.reduceBeqDiff, Nat.add_assoc nid, Nat.reduceAdd, reduceCtorEq, ↓reduceIte, Nat.reduceLeDiff, Nat.reduceBneDiff, Option.toList, ← Int.ofNat_tmod, ← Int.ofNat_tdiv, Nat.reduceLT]
      try simp
end Go.Proofs.YtpifoghhaohhaaaGreatDoor
namespace Go.Proofs.YtpifoghhaohhaaaGreatDoor
open Go.RowKit Go.Shelf Go.Lib
set_option maxHeartbeats 8000000 in
theorem dict_I (s nid : Nat) (nl : Bool) (A : List Int) (p faults tests : Nat) (h : s < nid) (hp : p ≤ 1099500000000) (hA : A.length ≤ 17592186044416) (hf : faults ≤ 7) (ht1 : 1 ≤ tests) (ht : tests ≤ 6) :
    ACallI Tryz.prog 14 [.ptr s 0, .int .i64 (faults : Nat), .int .i64 (tests : Nat)] [(s, strmC nl A p)] nid (fun x : DictX => DictB tests x.G x.R ∧ x.q ≤ p + 1000) (fun x => dictP x.g0 x.r0 x.b x.G x.R) (fun x => [(s, strmC nl A x.q)]) := by
  obtain ⟨e1, e2, e3, e4, e5, e6, e7, e8, e9⟩ := id_all h
  refine acallI_sr c14 (by simp [a14]) ?_
  unfold a14
  refine SR.seq ?_
  simp -dsimp only [aqT, aqU, aqN, ↓seqK, ↓blkK, ↓loopK, step, stepBin, Nat.reduceBEq, Nat.reduceBeqDiff, Nat.add_assoc nid, Nat.reduceAdd, reduceCtorEq, ↓reduceIte, Nat.reduceLeDiff, Nat.reduceBneDiff, Option.toList, ← Int.ofNat_tmod, ← Int.ofNat_tdiv, Nat.reduceLT, Int.cast_ofNat_Int, Int.reduceBEq, Int.reduceBNe, Int.reduceLT, Int.reduceLE, Int.reduceAdd, Int.reduceSub, Int.reduceMul, Int.reduceToNat, Int.reduceNeg, Int.reduceTMod, Int.reduceEq, not_false_eq_true, Int.reducePow, Int.reduceFDiv, Nat.reducePow, Nat.reduceSub, Nat.reduceMul, Nat.min_eq_left, Nat.reduceEqDiff, BEq.rfl, Int.tdiv_one, LN_succ, e1, e2, e3, e4, e5, e6, e7, e8, e9]
  refine SR.seq ?_
  simp -dsimp only [aqT, aqU, aqN, ↓seqK, ↓blkK, ↓loopK, step, stepBin, Nat.reduceBEq, Nat.reduceBeqDiff, Nat.add_assoc nid, Nat.reduceAdd, reduceCtorEq, ↓reduceIte, Nat.reduceLeDiff, Nat.reduceBneDiff, Option.toList, ← Int.ofNat_tmod, ← Int.ofNat_tdiv, Nat.reduceLT, Int.cast_ofNat_Int, Int.reduceBEq, Int.reduceBNe, Int.reduceLT, Int.reduceLE, Int.reduceAdd, Int.reduceSub, Int.reduceMul, Int.reduceToNat, Int.reduceNeg, Int.reduceTMod, Int.reduceEq, not_false_eq_true, Int.reducePow, Int.reduceFDiv, Nat.reducePow, Nat.reduceSub, Nat.reduceMul, Nat.min_eq_left, Nat.reduceEqDiff, BEq.rfl, Int.tdiv_one, LN_succ, e1, e2, e3, e4, e5, e6, e7, e8, e9]
  refine SR.seq ?_
  simp -dsimp only [aqT, aqU, aqN, ↓seqK, ↓blkK, ↓loopK, step, stepBin, Nat.reduceBEq, Nat.reduceBeqDiff, Nat.add_assoc nid, Nat.reduceAdd, reduceCtorEq, ↓reduceIte, Nat.reduceLeDiff, Nat.reduceBneDiff, Option.toList, ← Int.ofNat_tmod, ← Int.ofNat_tdiv, Nat.reduceLT, Int.cast_ofNat_Int, Int.reduceBEq, Int.reduceBNe, Int.reduceLT, Int.reduceLE, Int.reduceAdd, Int.reduceSub, Int.reduceMul, Int.reduceToNat, Int.reduceNeg, Int.reduceTMod, Int.reduceEq, not_false_eq_true, Int.reducePow, Int.reduceFDiv, Nat.reducePow, Nat.reduceSub, Nat.reduceMul, Nat.min_eq_left, Nat.reduceEqDiff, BEq.rfl, Int.tdiv_one, LN_succ, e1, e2, e3, e4, e5, e6, e7, e8, e9]
  have hmd := rangeV_bd A p (lo := 1) (hi := (tests : Int)) (by omega)
  obtain ⟨m, hm⟩ : ∃ m : Nat, rangeV A p 1 tests = m := ⟨_, (Int.toNat_of_nonneg (by omega)).symm⟩
  refine SR.seqW (ι := {G : List (List UInt8) // G.length = m ∧ ShortRows 2 G}) (fun G => ⟨[(8, .fn 82 [.ptr nid 0]), (7, .ptr (nid + 8) 0), (6, .ptr (nid + 4) 0), (3, .ptr nid 0), (1, .int .i64 (faults : Nat))], [(nid, boxP s), (nid + 4, some (.box 29 [.lit true 0 [], .lit true 0 []])), (nid + 8, some (.box 29 [.sl (nid + 20) 0 G.1.length, .lit true 0 []])), (nid + 20, arrS G.1), (s, strmC nl A (p + 1 + m))], nid + 1000, nid⟩) ?_ (fun ⟨G, hG1, hG2⟩ => ?_)
  · refine SR.seqTo ⟨[(17, .int .i64 0), (16, .int .i64 (m : Nat)), (8, .fn 82 [.ptr nid 0]), (7, .ptr (nid + 8) 0), (6, .ptr (nid + 4) 0), (3, .ptr nid 0), (1, .int .i64 (faults : Nat))], [(nid, boxP s), (nid + 4, some (.box 29 [.lit true 0 [], .lit true 0 []])), (nid + 8, some (.box 29 [.lit true 0 [], .lit true 0 []])), (s, strmC nl A (p + 1))], nid + 100, nid⟩ ?_ ?_
    · simp -dsimp only [aqT, aqU, aqN, ↓seqK, ↓blkK, ↓loopK, step, stepBin, Nat.reduceBEq, Nat.reduceBeqDiff, Nat.add_assoc nid, Nat.reduceAdd, reduceCtorEq, ↓reduceIte, Nat.reduceLeDiff, Nat.reduceBneDiff, Option.toList, ← Int.ofNat_tmod, ← Int.ofNat_tdiv, Nat.reduceLT, e1, e2, e3, e4, e5, e6, e7, e8, e9]
      refine CallO.on (range_c s _ nl A p 1 tests (by omega) (by omega) hA (by omega) (by omega) (by omega)) (subH_get (by simp only [aqT, aqU, aqN, ↓seqK, ↓blkK, ↓loopK, step, stepBin, Nat.reduceBEq, Nat.reduceBeqDiff, Nat.add_assoc nid, Nat.reduceAdd, reduceCtorEq, ↓reduceIte, Nat.reduceLeDiff, Nat.reduceBneDiff, Option.toList, ← Int.ofNat_tmod, ← Int.ofNat_tdiv, Nat.reduceLT, e1, e2, e3, e4, e5, e6, e7, e8, e9])) ?_
      rw [hm]
      simp -dsimp only [aqT, aqU, aqN, ↓seqK, ↓blkK, ↓loopK, step, stepBin, Nat.reduceBEq, Nat.reduceBeqDiff, Nat.add_assoc nid, Nat.reduceAdd, reduceCtorEq, ↓reduceIte, Nat.reduceLeDiff, Nat.reduceBneDiff, Option.toList, ← Int.ofNat_tmod, ← Int.ofNat_tdiv, Nat.reduceLT, e1, e2, e3, e4, e5, e6, e7, e8, e9, strmC_low]
      refine Cov.go [] [] ?_
      simp [retPV, over, keys, List.map_nil, List.map_cons, List.contains_cons, List.contains_nil, Bool.or_false, Bool.or_true, Bool.true_or, Bool.false_or, beq_self_eq_true, cond_true, cond_false, HeapCov, orNil, nilSz, onBlk, srcOf, getH_hit, getH_miss, getH.eq_1, getS_hit, getS_miss, getS.eq_1, BlkCov, PVCovs, PVCov, ColsEq, AColsEq, ACEq, ColEq.refl, liveIds, SlotsCov, List.all_nil, List.all_cons, List.any_nil, List.any_cons, List.nil_append, List.cons_append, inRange, apart, nilBlk, idS1, idS2, readAll, readRes, onAll, step, res, AX.val, List.drop_zero, List.drop_succ_cons, List.take_succ_cons, List.take_zero, e1, e2, e3, e4, e5, e6, e7, e8, e9, boxP, strmC]
    refine SR.run (t := .mk) ?_
    unfold boxP
    simp -dsimp only [aqT, aqU, aqN, ↓seqK, ↓blkK, ↓loopK, step, stepBin, Nat.reduceBEq, Nat.reduceBeqDiff, Nat.add_assoc nid, Nat.reduceAdd, reduceCtorEq, ↓reduceIte, Nat.reduceLeDiff, Nat.reduceBneDiff, Option.toList, ← Int.ofNat_tmod, ← Int.ofNat_tdiv, Nat.reduceLT, e1, e2, e3, e4, e5, e6, e7, e8, e9, strmC_low]
    refine LP.mkP (fun G : List (List UInt8) => G.length ≤ m ∧ ShortRows 2 G) (fun G => ⟨[(17, .int .i64 G.length), (16, .int .i64 (m : Nat)), (8, .fn 82 [.ptr nid 0]), (7, .ptr (nid + 8) 0), (6, .ptr (nid + 4) 0), (3, .ptr nid 0), (1, .int .i64 (faults : Nat))], [(nid, boxP s), (nid + 4, some (.box 29 [.lit true 0 [], .lit true 0 []])), (nid + 8, some (.box 29 [.sl (nid + 20) 0 G.length, .lit true 0 []])), (nid + 20, arrS G), (s, strmC nl A (p + 1 + G.length))], nid + 200, nid⟩) (fun G => m + 1 - G.length) [] ⟨by simp, fun r hr => by simp at hr⟩ (Cov.go [] [(nid + 20, 1)] ?_) (fun G hG => ?_)
    · simp [retPV, over, keys, List.map_nil, List.map_cons, List.contains_cons, List.contains_nil, Bool.or_false, Bool.or_true, Bool.true_or, Bool.false_or, beq_self_eq_true, cond_true, cond_false, HeapCov, orNil, nilSz, onBlk, srcOf, getH_hit, getH_miss, getH.eq_1, getS_hit, getS_miss, getS.eq_1, BlkCov, PVCovs, PVCov, ColsEq, AColsEq, ACEq, ColEq.refl, liveIds, SlotsCov, List.all_nil, List.all_cons, List.any_nil, List.any_cons, List.nil_append, List.cons_append, inRange, apart, nilBlk, idS1, idS2, readAll, readRes, onAll, step, res, AX.val, List.drop_zero, List.drop_succ_cons, List.take_succ_cons, List.take_zero, e1, e2, e3, e4, e5, e6, e7, e8, e9, boxP, arrS, strmC]
    obtain ⟨hG1, hG2⟩ := hG
    have hal := ansV_len A (p + 1 + G.length)
    unfold boxP arrS
    simp -dsimp only [aqT, aqU, aqN, ↓seqK, ↓blkK, ↓loopK, step, stepBin, Nat.reduceBEq, Nat.reduceBeqDiff, Nat.add_assoc nid, Nat.reduceAdd, reduceCtorEq, ↓reduceIte, Nat.reduceLeDiff, Nat.reduceBneDiff, Option.toList, ← Int.ofNat_tmod, ← Int.ofNat_tdiv, Nat.reduceLT, e1, e2, e3, e4, e5, e6, e7, e8, e9, strmC_low]
    refine S2.dec (fun h3 => ?_) (fun h3 => ?_) <;> simp -dsimp only [aqT, aqU, aqN, ↓seqK, ↓blkK, ↓loopK, step, stepBin, Nat.reduceBEq, Nat.reduceBeqDiff, Nat.add_assoc nid, Nat.reduceAdd, reduceCtorEq, ↓reduceIte, Nat.reduceLeDiff, Nat.reduceBneDiff, Option.toList, ← Int.ofNat_tmod, ← Int.ofNat_tdiv, Nat.reduceLT, Int.cast_ofNat_Int, Int.reduceBEq, Int.reduceBNe, Int.reduceLT, Int.reduceLE, Int.reduceAdd, Int.reduceSub, Int.reduceMul, Int.reduceToNat, Int.reduceNeg, Int.reduceTMod, Int.reduceEq, not_false_eq_true, Int.reducePow, Int.reduceFDiv, Nat.reducePow, Nat.reduceSub, Nat.reduceMul, Nat.min_eq_left, Nat.reduceEqDiff, BEq.rfl, Int.tdiv_one, LN_succ, e1, e2, e3, e4, e5, e6, e7, e8, e9, strmC_low]
    · refine CallX.on (ans_c s nid _ nl A (p + 1 + G.length) h (by omega) (by omega) hA) (subH_cons (by simp only [aqT, aqU, aqN, ↓seqK, ↓blkK, ↓loopK, step, stepBin, Nat.reduceBEq, Nat.reduceBeqDiff, Nat.add_assoc nid, Nat.reduceAdd, reduceCtorEq, ↓reduceIte, Nat.reduceLeDiff, Nat.reduceBneDiff, Option.toList, ← Int.ofNat_tmod, ← Int.ofNat_tdiv, Nat.reduceLT, e1, e2, e3, e4, e5, e6, e7, e8, e9, Int.cast_ofNat_Int, Int.reduceBEq, Int.reduceBNe, Int.reduceLT, Int.reduceLE, Int.reduceAdd, Int.reduceSub, Int.reduceMul, Int.reduceToNat, Int.reduceNeg, Int.reduceTMod, Int.reduceEq, not_false_eq_true, Int.reducePow, Int.reduceFDiv, Nat.reducePow, Nat.reduceSub, Nat.reduceMul, Nat.min_eq_left, Nat.reduceEqDiff, BEq.rfl, Int.tdiv_one, LN_succ, boxP]) (subH_get (by simp only [aqT, aqU, aqN, ↓seqK, ↓blkK, ↓loopK, step, stepBin, Nat.reduceBEq, Nat.reduceBeqDiff, Nat.add_assoc nid, Nat.reduceAdd, reduceCtorEq, ↓reduceIte, Nat.reduceLeDiff, Nat.reduceBneDiff, Option.toList, ← Int.ofNat_tmod, ← Int.ofNat_tdiv, Nat.reduceLT, Int.cast_ofNat_Int, Int.reduceBEq, Int.reduceBNe, Int.reduceLT, Int.reduceLE, Int.reduceAdd, Int.reduceSub, Int.reduceMul, Int.reduceToNat, Int.reduceNeg, Int.reduceTMod, Int.reduceEq, not_false_eq_true, Int.reducePow, Int.reduceFDiv, Nat.reducePow, Nat.reduceSub, Nat.reduceMul, Nat.min_eq_left, Nat.reduceEqDiff, BEq.rfl, Int.tdiv_one, LN_succ, e1, e2, e3, e4, e5, e6, e7, e8, e9]))) ?_
      simp -dsimp only [aqT, aqU, aqN, ↓seqK, ↓blkK, ↓loopK, step, stepBin, Nat.reduceBEq, Nat.reduceBeqDiff, Nat.add_assoc nid, Nat.reduceAdd, reduceCtorEq, ↓reduceIte, Nat.reduceLeDiff, Nat.reduceBneDiff, Option.toList, ← Int.ofNat_tmod, ← Int.ofNat_tdiv, Nat.reduceLT, e1, e2, e3, e4, e5, e6, e7, e8, e9, strmC_low]
      rw [getD_app1 G (ansV A (p + 1 + G.length)) rfl]
      have hl : (G ++ [ansV A (p + 1 + G.length)]).length = G.length + 1 := by simp
      refine ⟨?_, by omega, by unfold inI64; omega, G ++ [ansV A (p + 1 + G.length)], ⟨⟨by omega, hG2.snoc (by omega)⟩, by omega⟩, Cov.go [(nid + 20, nid + 224)] [] ?_⟩
      · simp
      simp [retPV, over, keys, List.map_nil, List.map_cons, List.contains_cons, List.contains_nil, Bool.or_false, Bool.or_true, Bool.true_or, Bool.false_or, beq_self_eq_true, cond_true, cond_false, HeapCov, orNil, nilSz, onBlk, srcOf, getH_hit, getH_miss, getH.eq_1, getS_hit, getS_miss, getS.eq_1, BlkCov, PVCovs, PVCov, ColsEq, AColsEq, ACEq, ColEq.refl, liveIds, SlotsCov, List.all_nil, List.all_cons, List.any_nil, List.any_cons, List.nil_append, List.cons_append, inRange, apart, nilBlk, idS1, idS2, readAll, readRes, onAll, step, res, AX.val, List.drop_zero, List.drop_succ_cons, List.take_succ_cons, List.take_zero, e1, e2, e3, e4, e5, e6, e7, e8, e9, boxP, arrS, strmC, hl, -List.length_append, -List.getD_eq_getElem?_getD]
      omega
    · have hGm : G.length = m := by omega
      refine ⟨⟨G, hGm, hG2⟩, Cov.go [] [] ?_⟩
      simp [retPV, over, keys, List.map_nil, List.map_cons, List.contains_cons, List.contains_nil, Bool.or_false, Bool.or_true, Bool.true_or, Bool.false_or, beq_self_eq_true, cond_true, cond_false, HeapCov, orNil, nilSz, onBlk, srcOf, getH_hit, getH_miss, getH.eq_1, getS_hit, getS_miss, getS.eq_1, BlkCov, PVCovs, PVCov, ColsEq, AColsEq, ACEq, ColEq.refl, liveIds, SlotsCov, List.all_nil, List.all_cons, List.any_nil, List.any_cons, List.nil_append, List.cons_append, inRange, apart, nilBlk, idS1, idS2, readAll, readRes, onAll, step, res, AX.val, List.drop_zero, List.drop_succ_cons, List.take_succ_cons, List.take_zero, e1, e2, e3, e4, e5, e6, e7, e8, e9, boxP, arrS, strmC, hGm, -List.getD_eq_getElem?_getD]
  have hnd := rangeV_bd A (p + 1 + m) (lo := 0) (hi := (faults : Int)) (by omega)
  obtain ⟨n, hn⟩ : ∃ n : Nat, rangeV A (p + 1 + m) 0 faults = n := ⟨_, (Int.toNat_of_nonneg (by omega)).symm⟩
  simp only
  refine SR.seqW (ι := {x : RowL × Nat // x.1.length = n ∧ x.2 ≤ p + 100 ∧ ∀ y ∈ x.1, y.1 ∈ namesL ∧ y.2.length = m ∧ ShortRows 101 y.2}) (fun x => ⟨[(7, .ptr (nid + 8) 0), (6, .ptr (nid + 4) 0), (3, .ptr nid 0)], [(nid, boxP s), (nid + 4, some (.box 29 [.lit true 0 [], .lit true 0 []])), (nid + 8, boxD (nid + 20) G.length (nid + 24) x.1.1.length), (nid + 20, arrS G), (s, strmC nl A x.1.2), (nid + 24, arrR nid x.1.1)] ++ famR nid x.1.1, nid + 4000, nid⟩) ?_ (fun ⟨⟨R, q⟩, hR1, hq, hR2⟩ => ?_)
  · unfold boxP arrS
    refine SR.seqTo ⟨[(30, .int .i64 0), (29, .int .i64 (n : Nat)), (8, .fn 82 [.ptr nid 0]), (7, .ptr (nid + 8) 0), (6, .ptr (nid + 4) 0), (3, .ptr nid 0)], [(nid, boxP s), (nid + 4, some (.box 29 [.lit true 0 [], .lit true 0 []])), (nid + 8, some (.box 29 [.sl (nid + 20) 0 G.length, .lit true 0 []])), (nid + 20, arrS G), (s, strmC nl A (p + 1 + m + 1))], nid + 1100, nid⟩ ?_ ?_
    · simp -dsimp only [aqT, aqU, aqN, ↓seqK, ↓blkK, ↓loopK, step, stepBin, Nat.reduceBEq, Nat.reduceBeqDiff, Nat.add_assoc nid, Nat.reduceAdd, reduceCtorEq, ↓reduceIte, Nat.reduceLeDiff, Nat.reduceBneDiff, Option.toList, ← Int.ofNat_tmod, ← Int.ofNat_tdiv, Nat.reduceLT, e1, e2, e3, e4, e5, e6, e7, e8, e9, strmC_low]
      refine CallO.on (range_c s _ nl A (p + 1 + m) 0 faults (by omega) (by omega) hA (by omega) (by omega) (by omega)) (subH_get (by simp only [aqT, aqU, aqN, ↓seqK, ↓blkK, ↓loopK, step, stepBin, Nat.reduceBEq, Nat.reduceBeqDiff, Nat.add_assoc nid, Nat.reduceAdd, reduceCtorEq, ↓reduceIte, Nat.reduceLeDiff, Nat.reduceBneDiff, Option.toList, ← Int.ofNat_tmod, ← Int.ofNat_tdiv, Nat.reduceLT, e1, e2, e3, e4, e5, e6, e7, e8, e9])) ?_
      rw [hn]
      simp -dsimp only [aqT, aqU, aqN, ↓seqK, ↓blkK, ↓loopK, step, stepBin, Nat.reduceBEq, Nat.reduceBeqDiff, Nat.add_assoc nid, Nat.reduceAdd, reduceCtorEq, ↓reduceIte, Nat.reduceLeDiff, Nat.reduceBneDiff, Option.toList, ← Int.ofNat_tmod, ← Int.ofNat_tdiv, Nat.reduceLT, e1, e2, e3, e4, e5, e6, e7, e8, e9, strmC_low]
      refine Cov.go [] [] ?_
      simp [retPV, over, keys, List.map_nil, List.map_cons, List.contains_cons, List.contains_nil, Bool.or_false, Bool.or_true, Bool.true_or, Bool.false_or, beq_self_eq_true, cond_true, cond_false, HeapCov, orNil, nilSz, onBlk, srcOf, getH_hit, getH_miss, getH.eq_1, getS_hit, getS_miss, getS.eq_1, BlkCov, PVCovs, PVCov, ColsEq, AColsEq, ACEq, ColEq.refl, liveIds, SlotsCov, List.all_nil, List.all_cons, List.any_nil, List.any_cons, List.nil_append, List.cons_append, inRange, apart, nilBlk, idS1, idS2, readAll, readRes, onAll, step, res, AX.val, List.drop_zero, List.drop_succ_cons, List.take_succ_cons, List.take_zero, e1, e2, e3, e4, e5, e6, e7, e8, e9, boxP, arrS, strmC, -List.getD_eq_getElem?_getD]
    refine SR.block ?_
    refine SR.loopP (fun R : RowL => R.length ≤ n ∧ ∀ y ∈ R, y.1 ∈ namesL ∧ y.2.length = m ∧ ShortRows 101 y.2) (fun R => ⟨[(30, .int .i64 R.length), (29, .int .i64 (n : Nat)), (8, .fn 82 [.ptr nid 0]), (7, .ptr (nid + 8) 0), (6, .ptr (nid + 4) 0), (3, .ptr nid 0)], [(nid, boxP s), (nid + 4, some (.box 29 [.lit true 0 [], .lit true 0 []])), (nid + 8, boxD (nid + 20) G.length (nid + 24) R.length), (nid + 20, arrS G), (s, strmC nl A (p + 1 + m + 1 + 2 * m * R.length)), (nid + 24, arrR nid R)] ++ famR nid R, nid + 1196, nid⟩) (fun R => n + 1 - R.length) [] ⟨by simp, by simp⟩ (Cov.go [] [(nid + 24, 2)] ?_) (fun R hR => ?_)
    · simp [retPV, over, keys, List.map_nil, List.map_cons, List.contains_cons, List.contains_nil, Bool.or_false, Bool.or_true, Bool.true_or, Bool.false_or, beq_self_eq_true, cond_true, cond_false, HeapCov, orNil, nilSz, onBlk, srcOf, getH_hit, getH_miss, getH.eq_1, getS_hit, getS_miss, getS.eq_1, BlkCov, PVCovs, PVCov, ColsEq, AColsEq, ACEq, ColEq.refl, liveIds, SlotsCov, List.all_nil, List.all_cons, List.any_nil, List.any_cons, List.nil_append, List.cons_append, inRange, apart, nilBlk, idS1, idS2, readAll, readRes, onAll, step, res, AX.val, List.drop_zero, List.drop_succ_cons, List.take_succ_cons, List.take_zero, e1, e2, e3, e4, e5, e6, e7, e8, e9, strmC, famR, famC, inR, boxP, boxD, arrS, arrR, -List.getD_eq_getElem?_getD]
    obtain ⟨hRl, hRs⟩ := hR
    refine SR.seq ?_
    unfold boxP boxD arrS
    simp -dsimp only [aqT, aqU, aqN, ↓seqK, ↓blkK, ↓loopK, step, stepBin, Nat.reduceBEq, Nat.reduceBeqDiff, Nat.add_assoc nid, Nat.reduceAdd, reduceCtorEq, ↓reduceIte, Nat.reduceLeDiff, Nat.reduceBneDiff, Option.toList, ← Int.ofNat_tmod, ← Int.ofNat_tdiv, Nat.reduceLT, Int.cast_ofNat_Int, Int.reduceBEq, Int.reduceBNe, Int.reduceLT, Int.reduceLE, Int.reduceAdd, Int.reduceSub, Int.reduceMul, Int.reduceToNat, Int.reduceNeg, Int.reduceTMod, Int.reduceEq, not_false_eq_true, Int.reducePow, Int.reduceFDiv, Nat.reducePow, Nat.reduceSub, Nat.reduceMul, Nat.min_eq_left, Nat.reduceEqDiff, BEq.rfl, Int.tdiv_one, LN_succ, e1, e2, e3, e4, e5, e6, e7, e8, e9, strmC_low]
    refine SR.seq ?_
    simp -dsimp only [aqT, aqU, aqN, ↓seqK, ↓blkK, ↓loopK, step, stepBin, Nat.reduceBEq, Nat.reduceBeqDiff, Nat.add_assoc nid, Nat.reduceAdd, reduceCtorEq, ↓reduceIte, Nat.reduceLeDiff, Nat.reduceBneDiff, Option.toList, ← Int.ofNat_tmod, ← Int.ofNat_tdiv, Nat.reduceLT, Int.cast_ofNat_Int, Int.reduceBEq, Int.reduceBNe, Int.reduceLT, Int.reduceLE, Int.reduceAdd, Int.reduceSub, Int.reduceMul, Int.reduceToNat, Int.reduceNeg, Int.reduceTMod, Int.reduceEq, not_false_eq_true, Int.reducePow, Int.reduceFDiv, Nat.reducePow, Nat.reduceSub, Nat.reduceMul, Nat.min_eq_left, Nat.reduceEqDiff, BEq.rfl, Int.tdiv_one, LN_succ, e1, e2, e3, e4, e5, e6, e7, e8, e9, strmC_low]
    refine S2.dec (fun h3 => ?_) (fun h3 => ?_) <;> simp -dsimp only [aqT, aqU, aqN, ↓seqK, ↓blkK, ↓loopK, step, stepBin, Nat.reduceBEq, Nat.reduceBeqDiff, Nat.add_assoc nid, Nat.reduceAdd, reduceCtorEq, ↓reduceIte, Nat.reduceLeDiff, Nat.reduceBneDiff, Option.toList, ← Int.ofNat_tmod, ← Int.ofNat_tdiv, Nat.reduceLT, Int.cast_ofNat_Int, Int.reduceBEq, Int.reduceBNe, Int.reduceLT, Int.reduceLE, Int.reduceAdd, Int.reduceSub, Int.reduceMul, Int.reduceToNat, Int.reduceNeg, Int.reduceTMod, Int.reduceEq, not_false_eq_true, Int.reducePow, Int.reduceFDiv, Nat.reducePow, Nat.reduceSub, Nat.reduceMul, Nat.min_eq_left, Nat.reduceEqDiff, BEq.rfl, Int.tdiv_one, LN_succ, e1, e2, e3, e4, e5, e6, e7, e8, e9, strmC_low]
    · have hi : R.length = 0 ∨ R.length = 1 ∨ R.length = 2 ∨ R.length = 3 ∨ R.length = 4 ∨ R.length = 5 ∨ R.length = 6 := by omega
      rw [decide_eq_true h3]
      refine SR.seqW _ (dict_round s nid nl A (p + 1 + m + 1 + 2 * m * R.length) m n G R h (by have : 2 * m * R.length ≤ 2 * 6 * 7 := Nat.mul_le_mul (by omega) (by omega); omega) hA hG1 (by omega) (by omega) hG2 hi _) (fun ⟨L, hL1, hL2⟩ => ?_)
      simp only
      have hll : (R ++ [(faultN R.length, L)]).length = R.length + 1 := by simp
      have hq2 : p + 1 + m + 1 + 2 * m * R.length + 2 * m = p + 1 + m + 1 + 2 * m * (R ++ [(faultN R.length, L)]).length := by
        have e := congrArg (fun x => p + 1 + m + 1 + 2 * m * x) hll
        rw [e, Nat.mul_succ]
        omega
      rw [hq2, ← hll]
      refine SR.run (t := .mk) ?_
      simp -dsimp only [aqT, aqU, aqN, ↓seqK, ↓blkK, ↓loopK, step, stepBin, Nat.reduceBEq, Nat.reduceBeqDiff, Nat.add_assoc nid, Nat.reduceAdd, reduceCtorEq, ↓reduceIte, Nat.reduceLeDiff, Nat.reduceBneDiff, Option.toList, ← Int.ofNat_tmod, ← Int.ofNat_tdiv, Nat.reduceLT, Int.cast_ofNat_Int, Int.reduceBEq, Int.reduceBNe, Int.reduceLT, Int.reduceLE, Int.reduceAdd, Int.reduceSub, Int.reduceMul, Int.reduceToNat, Int.reduceNeg, Int.reduceTMod, Int.reduceEq, not_false_eq_true, Int.reducePow, Int.reduceFDiv, Nat.reducePow, Nat.reduceSub, Nat.reduceMul, Nat.min_eq_left, Nat.reduceEqDiff, BEq.rfl, Int.tdiv_one, LN_succ, e1, e2, e3, e4, e5, e6, e7, e8, e9, strmC_low]
      refine ⟨by unfold inI64; omega, R ++ [(faultN R.length, L)], ⟨⟨by rw [hll]; omega, fun y hy => ?_⟩, by rw [hll]; omega⟩, Cov.drop (by omega) ?_⟩
      · rcases List.mem_append.1 hy with hy | hy
        · exact hRs y hy
        · simp only [List.mem_singleton] at hy
          subst hy
          refine ⟨?_, hL1, hL2.mono (by omega)⟩
          exact faultN_mem (by omega)
      · simp only [SlotsIn, aqT, aqU, aqN, ↓seqK, ↓blkK, ↓loopK, step, stepBin, Nat.reduceBEq, Nat.reduceBeqDiff, Nat.add_assoc nid, Nat.reduceAdd, reduceCtorEq, ↓reduceIte, Nat.reduceLeDiff, Nat.reduceBneDiff, Option.toList, ← Int.ofNat_tmod, ← Int.ofNat_tdiv, Nat.reduceLT, hll]
        try simp
    · have hRn : R.length = n := by omega
      refine ⟨⟨(R, p + 1 + m + 1 + 2 * m * R.length), hRn, ?_, hRs⟩, Cov.drop (by omega) ?_⟩
      · have : 2 * m * R.length ≤ 2 * 6 * 7 := Nat.mul_le_mul (by omega) (by omega)
        simp only
        omega
      · simp only [SlotsIn, aqT, aqU, aqN, ↓seqK, ↓blkK, ↓loopK, step, stepBin, Nat.reduceBEq, Nat.reduceBeqDiff, Nat.add_assoc nid, Nat.reduceAdd, reduceCtorEq, ↓reduceIte, Nat.reduceLeDiff, Nat.reduceBneDiff, Option.toList, ← Int.ofNat_tmod, ← Int.ofNat_tdiv, Nat.reduceLT]
        try simp
  simp only at hR1 hq hR2 ⊢
  have hmemB : ∀ y ∈ R, 1 ≤ y.2.length ∧ y.2.length ≤ tests := fun y hy => by have := (hR2 y hy).2.1; omega
  have hB : DictB tests G R := ⟨by omega, hG2.mono (by omega), by omega, fun y hy => by
    obtain ⟨g1, g2, g3⟩ := hR2 y hy
    exact ⟨g1, by omega, g3⟩⟩
  have hq9 : q ≤ p + 100 := hq
  clear hR2 hq hG2
  refine SR.seqW (ι := {x : SpX // DictB tests x.G x.R ∧ x.q ≤ p + 1000}) (fun x => ⟨[(7, .ptr (nid + 8) 0), (6, .ptr (nid + 4) 0)], dictH s nid nl A x.1.q x.1.G x.1.R, nid + 5000, nid⟩) ?_ (fun ⟨x, hx1, hx2⟩ => dict_end s nid p x.q (p + 1000) tests nl A x.G x.R h hx1 hx2)
  have hf0 : ∀ c, R.length = c → famR nid R = famC nid R c := fun c hc => by rw [← hc]; rfl
  have hrl := hB.rl
  have hi : R.length = 0 ∨ R.length = 1 ∨ R.length = 2 ∨ R.length = 3 ∨ R.length = 4 ∨ R.length = 5 ∨ R.length = 6 ∨ R.length = 7 := by omega
  refine SR.seqTo ⟨[(65, .bool (flipV A q 12)), (7, .ptr (nid + 8) 0), (6, .ptr (nid + 4) 0), (3, .ptr nid 0)], dictH s nid nl A (q + 1) G R, nid + 4100, nid⟩ ?_ ?_
  · unfold boxP
    simp -dsimp only [aqT, aqU, aqN, ↓seqK, ↓blkK, ↓loopK, step, stepBin, Nat.reduceBEq, Nat.reduceBeqDiff, Nat.add_assoc nid, Nat.reduceAdd, reduceCtorEq, ↓reduceIte, Nat.reduceLeDiff, Nat.reduceBneDiff, Option.toList, ← Int.ofNat_tmod, ← Int.ofNat_tdiv, Nat.reduceLT, Int.cast_ofNat_Int, Int.reduceBEq, Int.reduceBNe, Int.reduceLT, Int.reduceLE, Int.reduceAdd, Int.reduceSub, Int.reduceMul, Int.reduceToNat, Int.reduceNeg, Int.reduceTMod, Int.reduceEq, not_false_eq_true, Int.reducePow, Int.reduceFDiv, Nat.reducePow, Nat.reduceSub, Nat.reduceMul, Nat.min_eq_left, Nat.reduceEqDiff, BEq.rfl, Int.tdiv_one, LN_succ, e1, e2, e3, e4, e5, e6, e7, e8, e9, strmC_low]
    refine CallO.on (flip_c s _ nl A q 12 (by omega) (by omega) hA (by omega)) (subH_get (by simp only [aqT, aqU, aqN, ↓seqK, ↓blkK, ↓loopK, step, stepBin, Nat.reduceBEq, Nat.reduceBeqDiff, Nat.add_assoc nid, Nat.reduceAdd, reduceCtorEq, ↓reduceIte, Nat.reduceLeDiff, Nat.reduceBneDiff, Option.toList, ← Int.ofNat_tmod, ← Int.ofNat_tdiv, Nat.reduceLT, e1, e2, e3, e4, e5, e6, e7, e8, e9, Int.cast_ofNat_Int, Int.reduceBEq, Int.reduceBNe, Int.reduceLT, Int.reduceLE, Int.reduceAdd, Int.reduceSub, Int.reduceMul, Int.reduceToNat, Int.reduceNeg, Int.reduceTMod, Int.reduceEq, not_false_eq_true, Int.reducePow, Int.reduceFDiv, Nat.reducePow, Nat.reduceSub, Nat.reduceMul, Nat.min_eq_left, Nat.reduceEqDiff, BEq.rfl, Int.tdiv_one, LN_succ])) ?_
    simp -dsimp only [aqT, aqU, aqN, ↓seqK, ↓blkK, ↓loopK, step, stepBin, Nat.reduceBEq, Nat.reduceBeqDiff, Nat.add_assoc nid, Nat.reduceAdd, reduceCtorEq, ↓reduceIte, Nat.reduceLeDiff, Nat.reduceBneDiff, Option.toList, ← Int.ofNat_tmod, ← Int.ofNat_tdiv, Nat.reduceLT, Int.cast_ofNat_Int, Int.reduceBEq, Int.reduceBNe, Int.reduceLT, Int.reduceLE, Int.reduceAdd, Int.reduceSub, Int.reduceMul, Int.reduceToNat, Int.reduceNeg, Int.reduceTMod, Int.reduceEq, not_false_eq_true, Int.reducePow, Int.reduceFDiv, Nat.reducePow, Nat.reduceSub, Nat.reduceMul, Nat.min_eq_left, Nat.reduceEqDiff, BEq.rfl, Int.tdiv_one, LN_succ, e1, e2, e3, e4, e5, e6, e7, e8, e9, strmC_low]
    refine Cov.go [] [] ?_
    simp only [dictH]
    rcases hi with hi | hi | hi | hi | hi | hi | hi | hi
    all_goals
      rw [hf0 _ hi]
      simp [retPV, over, keys, List.map_nil, List.map_cons, List.contains_cons, List.contains_nil, Bool.or_false, Bool.or_true, Bool.true_or, Bool.false_or, beq_self_eq_true, cond_true, cond_false, HeapCov, orNil, nilSz, onBlk, srcOf, getH_hit, getH_miss, getH.eq_1, getS_hit, getS_miss, getS.eq_1, BlkCov, PVCovs, PVCov, ColsEq, AColsEq, ACEq, ColEq.refl, liveIds, SlotsCov, List.all_nil, List.all_cons, List.any_nil, List.any_cons, List.nil_append, List.cons_append, inRange, apart, nilBlk, idS1, idS2, readAll, readRes, onAll, step, res, AX.val, List.drop_zero, List.drop_succ_cons, List.take_succ_cons, List.take_zero, e1, e2, e3, e4, e5, e6, e7, e8, e9, strmC, famC, inR, boxP, boxD, arrS, arrR, -List.getD_eq_getElem?_getD]
      exact fun j hj => by omega
  refine SR.cond (b := flipV A q 12) (by simp [AX.val, getS]) (fun hf => ?_) (fun hf => ?_)
  · have hsp := spoil_I s nid (q + 1) (p + 1000) tests nl A G R h hB (by omega) hmemB (by omega) (by omega) (by omega) hA
    refine SR.run (t := .mk) ?_
    unfold dictH boxP
    simp -dsimp only [aqT, aqU, aqN, ↓seqK, ↓blkK, ↓loopK, step, stepBin, Nat.reduceBEq, Nat.reduceBeqDiff, Nat.add_assoc nid, Nat.reduceAdd, reduceCtorEq, ↓reduceIte, Nat.reduceLeDiff, Nat.reduceBneDiff, Option.toList, ← Int.ofNat_tmod, ← Int.ofNat_tdiv, Nat.reduceLT, Int.cast_ofNat_Int, Int.reduceBEq, Int.reduceBNe, Int.reduceLT, Int.reduceLE, Int.reduceAdd, Int.reduceSub, Int.reduceMul, Int.reduceToNat, Int.reduceNeg, Int.reduceTMod, Int.reduceEq, not_false_eq_true, Int.reducePow, Int.reduceFDiv, Nat.reducePow, Nat.reduceSub, Nat.reduceMul, Nat.min_eq_left, Nat.reduceEqDiff, BEq.rfl, Int.tdiv_one, LN_succ, e1, e2, e3, e4, e5, e6, e7, e8, e9, strmC_low]
    refine CallO.any hsp (fun id b hb => hb) (fun x hx => ?_)
    obtain ⟨hx1, hx2, hx3⟩ := hx
    obtain ⟨xG, xR, xq, xo⟩ := x
    simp only at hx1 hx2 hx3 ⊢
    have hxl := hx1.rl
    have hf2 : ∀ c, xR.length = c → famR nid xR = famC nid xR c := fun c hc => by rw [← hc]; rfl
    cases xo with
    | none =>
      simp only [spU]
      refine ⟨⟨⟨xG, xR, xq, none⟩, hx1, hx2⟩, Cov.go [] [] ?_⟩
      simp only [dictH]
      have hi2 : xR.length = 0 ∨ xR.length = 1 ∨ xR.length = 2 ∨ xR.length = 3 ∨ xR.length = 4 ∨ xR.length = 5 ∨ xR.length = 6 ∨ xR.length = 7 := by omega
      clear hi hx3 hsp
      rcases hi2 with hi | hi | hi | hi | hi | hi | hi | hi
      all_goals
        rw [hf2 _ hi]
        simp [retPV, over, keys, List.map_nil, List.map_cons, List.contains_cons, List.contains_nil, Bool.or_false, Bool.or_true, Bool.true_or, Bool.false_or, beq_self_eq_true, cond_true, cond_false, HeapCov, orNil, nilSz, onBlk, srcOf, getH_hit, getH_miss, getH.eq_1, getS_hit, getS_miss, getS.eq_1, BlkCov, PVCovs, PVCov, ColsEq, AColsEq, ACEq, ColEq.refl, liveIds, SlotsCov, List.all_nil, List.all_cons, List.any_nil, List.any_cons, List.nil_append, List.cons_append, inRange, apart, nilBlk, idS1, idS2, readAll, readRes, onAll, step, res, AX.val, List.drop_zero, List.drop_succ_cons, List.take_succ_cons, List.take_zero, e1, e2, e3, e4, e5, e6, e7, e8, e9, putS, strmC, famC, inR, boxP, boxD, arrS, arrR, -List.getD_eq_getElem?_getD]
        exact fun j hj => by omega
    | some I =>
      obtain ⟨hIR, rfl, hR'⟩ := hx3 I rfl
      simp only [spU]
      have hll : xR.length = R.length := by rw [hR', List.length_set]
      have fO : ∀ j, j ≠ I → rowR xR j = rowR R j := fun j hj => by rw [hR', rowR_set _ hIR, if_neg hj]
      clear hR' hx3 hsp
      refine ⟨⟨⟨xG, xR, xq, none⟩, hx1, hx2⟩, Cov.go [(nid + (100 + I), nid + 4104)] [] ?_⟩
      simp only [dictH]
      have hI6 : I = 0 ∨ I = 1 ∨ I = 2 ∨ I = 3 ∨ I = 4 ∨ I = 5 ∨ I = 6 := by omega
      rcases hi with hi | hi | hi | hi | hi | hi | hi | hi <;> rcases hI6 with rfl | rfl | rfl | rfl | rfl | rfl | rfl
      all_goals try (exfalso; omega)
      all_goals
        rw [hf0 _ hi, hf2 _ (hll.trans hi)]
        simp [retPV, over, keys, List.map_nil, List.map_cons, List.contains_cons, List.contains_nil, Bool.or_false, Bool.or_true, Bool.true_or, Bool.false_or, beq_self_eq_true, cond_true, cond_false, HeapCov, orNil, nilSz, onBlk, srcOf, getH_hit, getH_miss, getH.eq_1, getS_hit, getS_miss, getS.eq_1, BlkCov, PVCovs, PVCov, ColsEq, AColsEq, ACEq, ColEq.refl, liveIds, SlotsCov, List.all_nil, List.all_cons, List.any_nil, List.any_cons, List.nil_append, List.cons_append, inRange, apart, nilBlk, idS1, idS2, readAll, readRes, onAll, step, res, AX.val, List.drop_zero, List.drop_succ_cons, List.take_succ_cons, List.take_zero, e1, e2, e3, e4, e5, e6, e7, e8, e9, putS, strmC, famC, inR, boxP, boxD, arrS, arrR, fO, hll, -List.getD_eq_getElem?_getD]
        first
          | exact fun j hj => by omega
          | exact fun j hj => ⟨by split <;> split <;> first | rfl | omega, by omega⟩
  · refine SR.run (t := .mk) ?_
    simp -dsimp only [aqT, aqU, aqN, ↓seqK, ↓blkK, ↓loopK, step, stepBin, Nat.reduceBEq, Nat.reduceBeqDiff, Nat.add_assoc nid, Nat.reduceAdd, reduceCtorEq, ↓reduceIte, Nat.reduceLeDiff, Nat.reduceBneDiff, Option.toList, ← Int.ofNat_tmod, ← Int.ofNat_tdiv, Nat.reduceLT, Int.cast_ofNat_Int, Int.reduceBEq, Int.reduceBNe, Int.reduceLT, Int.reduceLE, Int.reduceAdd, Int.reduceSub, Int.reduceMul, Int.reduceToNat, Int.reduceNeg, Int.reduceTMod, Int.reduceEq, not_false_eq_true, Int.reducePow, Int.reduceFDiv, Nat.reducePow, Nat.reduceSub, Nat.reduceMul, Nat.min_eq_left, Nat.reduceEqDiff, BEq.rfl, Int.tdiv_one, LN_succ, e1, e2, e3, e4, e5, e6, e7, e8, e9, strmC_low]
    refine ⟨⟨⟨G, R, q + 1, none⟩, hB, by simp only; omega⟩, Cov.drop (by omega) ?_⟩
    simp only [SlotsIn, aqT, aqU, aqN, ↓seqK, ↓blkK, ↓loopK, step, stepBin, Nat.reduceBEq, Nat.reduceBeqDiff, Nat.add_assoc nid, Nat.reduceAdd, reduceCtorEq, ↓reduceIte, Nat.reduceLeDiff, Nat.reduceBneDiff, Option.toList, ← Int.ofNat_tmod, ← Int.ofNat_tdiv, Nat.reduceLT]
    try simp
end Go.Proofs.YtpifoghhaohhaaaGreatDoor
namespace Go.Proofs.YtpifoghhaohhaaaGreatDoor
open Go.RowKit
def litI (nl : Bool) (l : List Int) : PV := .lit nl l.length [.i .i64 fun i => l.getD i 0]
theorem out_c (x lo hi : Int) (nid : Nat) : ACall Tryz.prog 155 [.int .i64 x, .int .i64 lo, .int .i64 hi] [] nid (.bool (outB x lo hi)) [] := by
  refine acall_run c155 (by simp [a155]) ?_
  simp -dsimp only [a155, aqT, aqU, aqN, ↓seqK, ↓blkK, ↓loopK, step, stepBin, Nat.reduceBEq, Nat.reduceBeqDiff, Nat.add_assoc nid, Nat.reduceAdd, reduceCtorEq, ↓reduceIte, Nat.reduceLeDiff, Nat.reduceBneDiff, Option.toList, ← Int.ofNat_tmod, ← Int.ofNat_tdiv, Nat.reduceLT]
  refine S2.dec (fun h => ?_) (fun h => ?_) <;> simp -dsimp only [aqT, aqU, aqN, ↓seqK, ↓blkK, ↓loopK, step, stepBin, Nat.reduceBEq, Nat.reduceBeqDiff, Nat.add_assoc nid, Nat.reduceAdd, reduceCtorEq, ↓reduceIte, Nat.reduceLeDiff, Nat.reduceBneDiff, Option.toList, ← Int.ofNat_tmod, ← Int.ofNat_tdiv, Nat.reduceLT] <;> refine RetOK.pure (.inl rfl) rfl ?_ <;> simp [cvT, step, res, outB] <;> omega
theorem in_c (x lo hi : Int) (nid : Nat) : ACall Tryz.prog 98 [.int .i64 x, .int .i64 lo, .int .i64 hi] [] nid (.bool (!outB x lo hi)) [] := by
  refine acall_run c98 (by simp [a98]) ?_
  simp -dsimp only [a98, aqT, aqU, aqN, ↓seqK, ↓blkK, ↓loopK, step, stepBin, Nat.reduceBEq, Nat.reduceBeqDiff, Nat.add_assoc nid, Nat.reduceAdd, reduceCtorEq, ↓reduceIte, Nat.reduceLeDiff, Nat.reduceBneDiff, Option.toList, ← Int.ofNat_tmod, ← Int.ofNat_tdiv, Nat.reduceLT]
  refine S2.dec (fun h => ?_) (fun h => ?_) <;> simp -dsimp only [aqT, aqU, aqN, ↓seqK, ↓blkK, ↓loopK, step, stepBin, Nat.reduceBEq, Nat.reduceBeqDiff, Nat.add_assoc nid, Nat.reduceAdd, reduceCtorEq, ↓reduceIte, Nat.reduceLeDiff, Nat.reduceBneDiff, Option.toList, ← Int.ofNat_tmod, ← Int.ofNat_tdiv, Nat.reduceLT] <;> refine RetOK.pure (.inl rfl) rfl ?_ <;> simp [cvT, step, res, outB] <;> first | omega | (rw [Bool.eq_iff_iff]; simp; omega)
end Go.Proofs.YtpifoghhaohhaaaGreatDoor
namespace Go.Proofs.YtpifoghhaohhaaaGreatDoor
open Go.RowKit Go.Shelf Go.Lib
theorem indexKS_c (s : List UInt8) (c : Int) (nid : Nat) : ACall Tryz.prog 279 [.str s, .int .u8 c] [] nid (.int .i64 (Lib.indexByte s c.toNat.toUInt8)) [] := by
  intro C vs hb hl hr hs
  obtain ⟨v0, v1, rfl⟩ : ∃ a b, vs = [a, b] := by
    rcases vs with _ | ⟨a, _ | ⟨b, _ | ⟨c, r⟩⟩⟩
    · simp at hl
    · simp at hl
    · exact ⟨a, b, rfl⟩
    · simp at hl
  have r0 := (hr 0 _ v0 rfl rfl).str_inv
  have r1 := (hr 1 _ v1 rfl rfl).int_inv
  subst r0; subst r1
  refine .inr ⟨.int .i64 (Lib.indexByte s c.toNat.toUInt8), C.w0, ?_, C.Y0, C.m0, .int, by simpa using hs.next (show nid ≤ nid + 4 by omega), Ev.refl _ _ _⟩
  rw [run_callFunc_extern (P := Tryz.prog) (f := 279) (fn := Tryz.f279) (e := Extern.BytealgIndexByte.indexByte) Tryz.func279 (by kernel_rfl) (by kernel_rfl) (by kernel_rfl) (by kernel_rfl)]
  have h := Lib.run_indexByteString (P := Tryz.prog) ⟨s.toArray⟩ c C.w0
  show ((Extern.BytealgIndexByte.indexByte #[.string ⟨s.toArray⟩, .int .u8 c]).run Tryz.prog C.w0).andThen _ = _
  rw [h]
  rfl
theorem indexK_c (s : List UInt8) (c : Int) (nid : Nat) : ACall Tryz.prog 181 [.str s, .int .u8 c] [] nid (.int .i64 (Lib.indexByte s c.toNat.toUInt8)) [] := by
  have h1 : ∀ nid, ACall Tryz.prog 237 [.str s, .int .u8 c] [] nid (.int .i64 (Lib.indexByte s c.toNat.toUInt8)) [] := fun nid => by
    refine acall_run c237 (by simp [a237]) ?_
    simp -dsimp only [a237, aqT, aqU, aqN, ↓seqK, ↓blkK, ↓loopK, step, stepBin, Nat.reduceBEq, Nat.reduceBeqDiff, Nat.add_assoc nid, Nat.reduceAdd, reduceCtorEq, ↓reduceIte, Nat.reduceLeDiff, Nat.reduceBneDiff, Option.toList, ← Int.ofNat_tmod, ← Int.ofNat_tdiv, Nat.reduceLT]
    refine CallO.pure (indexKS_c s c _) ?_
    simp -dsimp only [aqT, aqU, aqN, ↓seqK, ↓blkK, ↓loopK, step, stepBin, Nat.reduceBEq, Nat.reduceBeqDiff, Nat.add_assoc nid, Nat.reduceAdd, reduceCtorEq, ↓reduceIte, Nat.reduceLeDiff, Nat.reduceBneDiff, Option.toList, ← Int.ofNat_tmod, ← Int.ofNat_tdiv, Nat.reduceLT]
    refine RetOK.pure (.inl rfl) rfl ?_
    simp [cvT, step, res]
  refine acall_run c181 (by simp [a181]) ?_
  simp -dsimp only [a181, aqT, aqU, aqN, ↓seqK, ↓blkK, ↓loopK, step, stepBin, Nat.reduceBEq, Nat.reduceBeqDiff, Nat.add_assoc nid, Nat.reduceAdd, reduceCtorEq, ↓reduceIte, Nat.reduceLeDiff, Nat.reduceBneDiff, Option.toList, ← Int.ofNat_tmod, ← Int.ofNat_tdiv, Nat.reduceLT]
  refine CallO.pure (h1 _) ?_
  simp -dsimp only [aqT, aqU, aqN, ↓seqK, ↓blkK, ↓loopK, step, stepBin, Nat.reduceBEq, Nat.reduceBeqDiff, Nat.add_assoc nid, Nat.reduceAdd, reduceCtorEq, ↓reduceIte, Nat.reduceLeDiff, Nat.reduceBneDiff, Option.toList, ← Int.ofNat_tmod, ← Int.ofNat_tdiv, Nat.reduceLT]
  refine RetOK.pure (.inl rfl) rfl ?_
  simp [cvT, step, res]
theorem any_range {s : List UInt8} {F : UInt8 → Bool} : (List.range s.length).any (fun i => F (s.getD i 0)) = s.any F := by
  rw [Bool.eq_iff_iff, List.any_eq_true, List.any_eq_true]
  constructor
  · rintro ⟨i, hi, h⟩
    have hi' := List.mem_range.1 hi
    refine ⟨s[i], List.getElem_mem _, ?_⟩
    rwa [List.getD_eq_getElem?_getD, List.getElem?_eq_getElem hi'] at h
  · rintro ⟨x, hx, h⟩
    obtain ⟨i, hi, rfl⟩ := List.getElem_of_mem hx
    refine ⟨i, List.mem_range.2 hi, ?_⟩
    rw [List.getD_eq_getElem?_getD, List.getElem?_eq_getElem hi]
    exact h
theorem indexFB (f : Nat) (F : UInt8 → Bool) (hf : ∀ (b : UInt8) nid, ACall Tryz.prog f [.int .u8 ((b.toNat : Nat))] [] nid (.bool (F b)) []) (nl : Bool) (n : Nat) (g : Nat → UInt8) (nid : Nat) (hn : n ≤ 1000000000) :
    ∃ r : Int, (-1 ≤ r ∧ (0 ≤ r ↔ (List.range n).any (fun i => F (g i)) = true)) ∧ ACall Tryz.prog 229 [.lit nl n [.i .u8 fun i => ((g i).toNat : Nat)], .fn f []] [] nid (.int .i64 r) [] := by
  refine acall_ex c229 (by simp [a229]) ?_
  simp -dsimp only [aqT0, ROp0, aqT, aqU, aqN, ↓seqK, ↓blkK, ↓loopK, step, stepBin, Nat.reduceBEq, Nat.reduceBeqDiff, Nat.add_assoc nid, Nat.reduceAdd, reduceCtorEq, ↓reduceIte, Nat.reduceLeDiff, Nat.reduceBneDiff, Option.toList, ← Int.ofNat_tmod, ← Int.ofNat_tdiv, Nat.reduceLT, Int.cast_ofNat_Int, Int.reduceBEq, Int.reduceBNe, Int.reduceLT, Int.reduceLE, Int.reduceAdd, Int.reduceSub, Int.reduceMul, Int.reduceToNat, Int.reduceNeg, Int.reduceTMod, Int.reduceEq, not_false_eq_true, Int.reducePow, Int.reduceFDiv, Nat.reducePow, Nat.reduceSub, Nat.reduceMul, Nat.min_eq_left, Nat.reduceEqDiff, BEq.rfl, Int.tdiv_one, LN_succ, a229]
  refine LP0.mkP (fun k : Nat => k ≤ n ∧ ∀ j, j < k → F (g j) = false) (fun k : Nat => ⟨[(8, .int .i64 k), (7, .int .i64 n), (0, .lit nl n [.i .u8 fun i => ((g i).toNat : Nat)]), (1, .fn f [])], [], nid + 100, nid⟩) (fun k => n + 1 - k) 0 ⟨by omega, fun j hj => by omega⟩ (Cov.go [] [] ?_) (fun k hk => ?_)
  · simp [cvT, step, res]
  obtain ⟨hk, hall⟩ := hk
  simp -dsimp only [aqT0, ROp0, aqT, aqU, aqN, ↓seqK, ↓blkK, ↓loopK, step, stepBin, Nat.reduceBEq, Nat.reduceBeqDiff, Nat.add_assoc nid, Nat.reduceAdd, reduceCtorEq, ↓reduceIte, Nat.reduceLeDiff, Nat.reduceBneDiff, Option.toList, ← Int.ofNat_tmod, ← Int.ofNat_tdiv, Nat.reduceLT, Int.cast_ofNat_Int, Int.reduceBEq, Int.reduceBNe, Int.reduceLT, Int.reduceLE, Int.reduceAdd, Int.reduceSub, Int.reduceMul, Int.reduceToNat, Int.reduceNeg, Int.reduceTMod, Int.reduceEq, not_false_eq_true, Int.reducePow, Int.reduceFDiv, Nat.reducePow, Nat.reduceSub, Nat.reduceMul, Nat.min_eq_left, Nat.reduceEqDiff, BEq.rfl, Int.tdiv_one, LN_succ]
  refine S2.dec (fun h3 => ?_) (fun h3 => ?_) <;> simp -dsimp only [aqT0, ROp0, aqT, aqU, aqN, ↓seqK, ↓blkK, ↓loopK, step, stepBin, Nat.reduceBEq, Nat.reduceBeqDiff, Nat.add_assoc nid, Nat.reduceAdd, reduceCtorEq, ↓reduceIte, Nat.reduceLeDiff, Nat.reduceBneDiff, Option.toList, ← Int.ofNat_tmod, ← Int.ofNat_tdiv, Nat.reduceLT, Int.cast_ofNat_Int, Int.reduceBEq, Int.reduceBNe, Int.reduceLT, Int.reduceLE, Int.reduceAdd, Int.reduceSub, Int.reduceMul, Int.reduceToNat, Int.reduceNeg, Int.reduceTMod, Int.reduceEq, not_false_eq_true, Int.reducePow, Int.reduceFDiv, Nat.reducePow, Nat.reduceSub, Nat.reduceMul, Nat.min_eq_left, Nat.reduceEqDiff, BEq.rfl, Int.tdiv_one, LN_succ]
  · have hkl : k < n := by omega
    refine ⟨by omega, CallX.pure (hf _ _) ?_⟩
    simp -dsimp only [aqT0, ROp0, aqT, aqU, aqN, ↓seqK, ↓blkK, ↓loopK, step, stepBin, Nat.reduceBEq, Nat.reduceBeqDiff, Nat.add_assoc nid, Nat.reduceAdd, reduceCtorEq, ↓reduceIte, Nat.reduceLeDiff, Nat.reduceBneDiff, Option.toList, ← Int.ofNat_tmod, ← Int.ofNat_tdiv, Nat.reduceLT, Int.cast_ofNat_Int, Int.reduceBEq, Int.reduceBNe, Int.reduceLT, Int.reduceLE, Int.reduceAdd, Int.reduceSub, Int.reduceMul, Int.reduceToNat, Int.reduceNeg, Int.reduceTMod, Int.reduceEq, not_false_eq_true, Int.reducePow, Int.reduceFDiv, Nat.reducePow, Nat.reduceSub, Nat.reduceMul, Nat.min_eq_left, Nat.reduceEqDiff, BEq.rfl, Int.tdiv_one, LN_succ]
    refine S2.intro (fun h4 => ?_) (fun h4 => ?_) <;> simp -dsimp only [aqT0, ROp0, aqT, aqU, aqN, ↓seqK, ↓blkK, ↓loopK, step, stepBin, Nat.reduceBEq, Nat.reduceBeqDiff, Nat.add_assoc nid, Nat.reduceAdd, reduceCtorEq, ↓reduceIte, Nat.reduceLeDiff, Nat.reduceBneDiff, Option.toList, ← Int.ofNat_tmod, ← Int.ofNat_tdiv, Nat.reduceLT, Int.cast_ofNat_Int, Int.reduceBEq, Int.reduceBNe, Int.reduceLT, Int.reduceLE, Int.reduceAdd, Int.reduceSub, Int.reduceMul, Int.reduceToNat, Int.reduceNeg, Int.reduceTMod, Int.reduceEq, not_false_eq_true, Int.reducePow, Int.reduceFDiv, Nat.reducePow, Nat.reduceSub, Nat.reduceMul, Nat.min_eq_left, Nat.reduceEqDiff, BEq.rfl, Int.tdiv_one, LN_succ]
    · refine EndOK.mk (k : Int) ⟨by omega, ⟨fun _ => List.any_eq_true.2 ⟨k, List.mem_range.2 hkl, h4⟩, fun _ => by omega⟩⟩ ?_
      refine RetOK.pure (.inl rfl) rfl ?_
      simp [cvT, step, res]
    · refine ⟨by unfold inI64; omega, k + 1, ⟨⟨by omega, fun j hj => ?_⟩, by omega⟩, Cov.go [] [] ?_⟩
      · rcases (by omega : j < k ∨ j = k) with hj | hj
        · exact hall j hj
        · rw [hj]; exact h4
      · simp [cvT, step, res]
  · have hkn : k = n := by omega
    subst hkn
    refine EndOK.mk (-1 : Int) ⟨by omega, ⟨fun h => by omega, fun h => ?_⟩⟩ ?_
    · obtain ⟨i, hi, h⟩ := List.any_eq_true.1 h
      rw [hall i (List.mem_range.1 hi)] at h
      cases h
    · refine RetOK.pure (.inl rfl) rfl ?_
      simp [cvT, step, res]
theorem containsFB (f : Nat) (F : UInt8 → Bool) (hf : ∀ (b : UInt8) nid, ACall Tryz.prog f [.int .u8 ((b.toNat : Nat))] [] nid (.bool (F b)) []) (nl : Bool) (n : Nat) (g : Nat → UInt8) (nid : Nat) (hn : n ≤ 1000000000) :
    ACall Tryz.prog 178 [.lit nl n [.i .u8 fun i => ((g i).toNat : Nat)], .fn f []] [] nid (.bool ((List.range n).any (fun i => F (g i)))) [] := by
  refine acall_run c178 (by simp [a178]) ?_
  simp -dsimp only [aqT, aqU, aqN, ↓seqK, ↓blkK, ↓loopK, step, stepBin, Nat.reduceBEq, Nat.reduceBeqDiff, Nat.add_assoc nid, Nat.reduceAdd, reduceCtorEq, ↓reduceIte, Nat.reduceLeDiff, Nat.reduceBneDiff, Option.toList, ← Int.ofNat_tmod, ← Int.ofNat_tdiv, Nat.reduceLT, a178]
  refine CallO.onE (Hs := []) (indexFB f F hf nl n g _ hn) (subH_nil _) (fun r hr => ?_)
  simp -dsimp only [aqT, aqU, aqN, ↓seqK, ↓blkK, ↓loopK, step, stepBin, Nat.reduceBEq, Nat.reduceBeqDiff, Nat.add_assoc nid, Nat.reduceAdd, reduceCtorEq, ↓reduceIte, Nat.reduceLeDiff, Nat.reduceBneDiff, Option.toList, ← Int.ofNat_tmod, ← Int.ofNat_tdiv, Nat.reduceLT, Int.cast_ofNat_Int, Int.reduceBEq, Int.reduceBNe, Int.reduceLT, Int.reduceLE, Int.reduceAdd, Int.reduceSub, Int.reduceMul, Int.reduceToNat, Int.reduceNeg, Int.reduceTMod, Int.reduceEq, not_false_eq_true, Int.reducePow, Int.reduceFDiv, Nat.reducePow, Nat.reduceSub, Nat.reduceMul, Nat.min_eq_left, Nat.reduceEqDiff, BEq.rfl, Int.tdiv_one, LN_succ]
  have e : decide (0 ≤ r) = (List.range n).any (fun i => F (g i)) := by
    rw [Bool.eq_iff_iff, decide_eq_true_eq]; exact hr.2
  rw [e]
  refine RetOK.pure (.inl rfl) rfl ?_
  simp [cvT, step, res]
def oddC (b : UInt8) : Bool := outB ((b.toNat : Nat) : Int) 33 126
def respB (s : List UInt8) : Bool := !outB s.length 1 100 && !s.any oddC
theorem oddC_c (b : UInt8) (nid : Nat) : ACall Tryz.prog 179 [.int .u8 ((b.toNat : Nat))] [] nid (.bool (oddC b)) [] := by
  refine acall_run c179 (by simp [a179]) ?_
  simp -dsimp only [aqT, aqU, aqN, ↓seqK, ↓blkK, ↓loopK, step, stepBin, Nat.reduceBEq, Nat.reduceBeqDiff, Nat.add_assoc nid, Nat.reduceAdd, reduceCtorEq, ↓reduceIte, Nat.reduceLeDiff, Nat.reduceBneDiff, Option.toList, ← Int.ofNat_tmod, ← Int.ofNat_tdiv, Nat.reduceLT, Int.cast_ofNat_Int, Int.reduceBEq, Int.reduceBNe, Int.reduceLT, Int.reduceLE, Int.reduceAdd, Int.reduceSub, Int.reduceMul, Int.reduceToNat, Int.reduceNeg, Int.reduceTMod, Int.reduceEq, not_false_eq_true, Int.reducePow, Int.reduceFDiv, Nat.reducePow, Nat.reduceSub, Nat.reduceMul, Nat.min_eq_left, Nat.reduceEqDiff, BEq.rfl, Int.tdiv_one, LN_succ, a179]
  refine S2.dec (fun h => ?_) (fun h => ?_) <;> simp -dsimp only [aqT, aqU, aqN, ↓seqK, ↓blkK, ↓loopK, step, stepBin, Nat.reduceBEq, Nat.reduceBeqDiff, Nat.add_assoc nid, Nat.reduceAdd, reduceCtorEq, ↓reduceIte, Nat.reduceLeDiff, Nat.reduceBneDiff, Option.toList, ← Int.ofNat_tmod, ← Int.ofNat_tdiv, Nat.reduceLT, Int.cast_ofNat_Int, Int.reduceBEq, Int.reduceBNe, Int.reduceLT, Int.reduceLE, Int.reduceAdd, Int.reduceSub, Int.reduceMul, Int.reduceToNat, Int.reduceNeg, Int.reduceTMod, Int.reduceEq, not_false_eq_true, Int.reducePow, Int.reduceFDiv, Nat.reducePow, Nat.reduceSub, Nat.reduceMul, Nat.min_eq_left, Nat.reduceEqDiff, BEq.rfl, Int.tdiv_one, LN_succ] <;> refine RetOK.pure (.inl rfl) rfl ?_ <;> simp [cvT, step, res, oddC, outB] <;> omega
theorem respR_c (s : List UInt8) (nid : Nat) : ACall Tryz.prog 87 [.str s] [] nid (.bool (respB s)) [] := by
  refine acall_run c87 (by simp [a87]) ?_
  simp -dsimp only [aqT, aqU, aqN, ↓seqK, ↓blkK, ↓loopK, step, stepBin, Nat.reduceBEq, Nat.reduceBeqDiff, Nat.add_assoc nid, Nat.reduceAdd, reduceCtorEq, ↓reduceIte, Nat.reduceLeDiff, Nat.reduceBneDiff, Option.toList, ← Int.ofNat_tmod, ← Int.ofNat_tdiv, Nat.reduceLT, a87]
  refine CallO.pure (in_c _ _ _ _) ?_
  simp -dsimp only [aqT, aqU, aqN, ↓seqK, ↓blkK, ↓loopK, step, stepBin, Nat.reduceBEq, Nat.reduceBeqDiff, Nat.add_assoc nid, Nat.reduceAdd, reduceCtorEq, ↓reduceIte, Nat.reduceLeDiff, Nat.reduceBneDiff, Option.toList, ← Int.ofNat_tmod, ← Int.ofNat_tdiv, Nat.reduceLT]
  unfold respB
  cases h : outB s.length 1 100 <;> simp -dsimp only [aqT, aqU, aqN, ↓seqK, ↓blkK, ↓loopK, step, stepBin, Nat.reduceBEq, Nat.reduceBeqDiff, Nat.add_assoc nid, Nat.reduceAdd, reduceCtorEq, ↓reduceIte, Nat.reduceLeDiff, Nat.reduceBneDiff, Option.toList, ← Int.ofNat_tmod, ← Int.ofNat_tdiv, Nat.reduceLT, Int.cast_ofNat_Int, Int.reduceBEq, Int.reduceBNe, Int.reduceLT, Int.reduceLE, Int.reduceAdd, Int.reduceSub, Int.reduceMul, Int.reduceToNat, Int.reduceNeg, Int.reduceTMod, Int.reduceEq, not_false_eq_true, Int.reducePow, Int.reduceFDiv, Nat.reducePow, Nat.reduceSub, Nat.reduceMul, Nat.min_eq_left, Nat.reduceEqDiff, BEq.rfl, Int.tdiv_one, LN_succ, Bool.not_false, Bool.not_true]
  · have hl : s.length ≤ 100 := by unfold outB at h; have := of_decide_eq_false h; omega
    refine CallO.pure (containsFB _ oddC oddC_c _ s.length (fun i => s.getD i 0) _ (by omega)) ?_
    rw [any_range]
    simp -dsimp only [aqT, aqU, aqN, ↓seqK, ↓blkK, ↓loopK, step, stepBin, Nat.reduceBEq, Nat.reduceBeqDiff, Nat.add_assoc nid, Nat.reduceAdd, reduceCtorEq, ↓reduceIte, Nat.reduceLeDiff, Nat.reduceBneDiff, Option.toList, ← Int.ofNat_tmod, ← Int.ofNat_tdiv, Nat.reduceLT, Int.cast_ofNat_Int, Int.reduceBEq, Int.reduceBNe, Int.reduceLT, Int.reduceLE, Int.reduceAdd, Int.reduceSub, Int.reduceMul, Int.reduceToNat, Int.reduceNeg, Int.reduceTMod, Int.reduceEq, not_false_eq_true, Int.reducePow, Int.reduceFDiv, Nat.reducePow, Nat.reduceSub, Nat.reduceMul, Nat.min_eq_left, Nat.reduceEqDiff, BEq.rfl, Int.tdiv_one, LN_succ]
    refine RetOK.pure (.inl rfl) rfl ?_
    simp [cvT, step, res]
  · refine RetOK.pure (.inl rfl) rfl ?_
    simp [cvT, step, res]
theorem respD_c (s : List UInt8) (nid : Nat) (hs : s.length ≤ 1000000) : ACall Tryz.prog 153 [.str s] [] nid (.bool (respB s)) [] := by
  refine acall_run c153 (by simp [a153]) ?_
  simp -dsimp only [aqT, aqU, aqN, ↓seqK, ↓blkK, ↓loopK, step, stepBin, Nat.reduceBEq, Nat.reduceBeqDiff, Nat.add_assoc nid, Nat.reduceAdd, reduceCtorEq, ↓reduceIte, Nat.reduceLeDiff, Nat.reduceBneDiff, Option.toList, ← Int.ofNat_tmod, ← Int.ofNat_tdiv, Nat.reduceLT, a153]
  refine LP.mkP (fun k : Nat => k ≤ s.length ∧ ∀ j, j < k → oddC (s.getD j 0) = false) (fun k : Nat => ⟨[(6, .int .i64 k), (5, .int .i64 s.length), (0, .str s)], [], nid + 100, nid⟩) (fun k => s.length + 1 - k) 0 ⟨by omega, fun j hj => by omega⟩ (Cov.go [] [] ?_) (fun k hk => ?_)
  · simp [cvT, step, res]
  obtain ⟨hk, hall⟩ := hk
  simp -dsimp only [aqT, aqU, aqN, ↓seqK, ↓blkK, ↓loopK, step, stepBin, Nat.reduceBEq, Nat.reduceBeqDiff, Nat.add_assoc nid, Nat.reduceAdd, reduceCtorEq, ↓reduceIte, Nat.reduceLeDiff, Nat.reduceBneDiff, Option.toList, ← Int.ofNat_tmod, ← Int.ofNat_tdiv, Nat.reduceLT, Int.cast_ofNat_Int, Int.reduceBEq, Int.reduceBNe, Int.reduceLT, Int.reduceLE, Int.reduceAdd, Int.reduceSub, Int.reduceMul, Int.reduceToNat, Int.reduceNeg, Int.reduceTMod, Int.reduceEq, not_false_eq_true, Int.reducePow, Int.reduceFDiv, Nat.reducePow, Nat.reduceSub, Nat.reduceMul, Nat.min_eq_left, Nat.reduceEqDiff, BEq.rfl, Int.tdiv_one, LN_succ]
  refine S2.dec (fun h3 => ?_) (fun h3 => ?_) <;> simp -dsimp only [aqT, aqU, aqN, ↓seqK, ↓blkK, ↓loopK, step, stepBin, Nat.reduceBEq, Nat.reduceBeqDiff, Nat.add_assoc nid, Nat.reduceAdd, reduceCtorEq, ↓reduceIte, Nat.reduceLeDiff, Nat.reduceBneDiff, Option.toList, ← Int.ofNat_tmod, ← Int.ofNat_tdiv, Nat.reduceLT, Int.cast_ofNat_Int, Int.reduceBEq, Int.reduceBNe, Int.reduceLT, Int.reduceLE, Int.reduceAdd, Int.reduceSub, Int.reduceMul, Int.reduceToNat, Int.reduceNeg, Int.reduceTMod, Int.reduceEq, not_false_eq_true, Int.reducePow, Int.reduceFDiv, Nat.reducePow, Nat.reduceSub, Nat.reduceMul, Nat.min_eq_left, Nat.reduceEqDiff, BEq.rfl, Int.tdiv_one, LN_succ]
  · have hkl : k < s.length := by omega
    have hw : IntKind.i64.wrap (((s.getD k 0).toNat : Nat) : Int) = (((s.getD k 0).toNat : Nat) : Int) := IntWalk.i64_in _ (by have := (s.getD k 0).toNat_lt; omega)
    refine ⟨by omega, CallO.pure (out_c _ _ _ _) ?_⟩
    rw [hw]
    simp -dsimp only [aqT, aqU, aqN, ↓seqK, ↓blkK, ↓loopK, step, stepBin, Nat.reduceBEq, Nat.reduceBeqDiff, Nat.add_assoc nid, Nat.reduceAdd, reduceCtorEq, ↓reduceIte, Nat.reduceLeDiff, Nat.reduceBneDiff, Option.toList, ← Int.ofNat_tmod, ← Int.ofNat_tdiv, Nat.reduceLT, Int.cast_ofNat_Int, Int.reduceBEq, Int.reduceBNe, Int.reduceLT, Int.reduceLE, Int.reduceAdd, Int.reduceSub, Int.reduceMul, Int.reduceToNat, Int.reduceNeg, Int.reduceTMod, Int.reduceEq, not_false_eq_true, Int.reducePow, Int.reduceFDiv, Nat.reducePow, Nat.reduceSub, Nat.reduceMul, Nat.min_eq_left, Nat.reduceEqDiff, BEq.rfl, Int.tdiv_one, LN_succ]
    refine S2.intro (fun h4 => ?_) (fun h4 => ?_) <;> simp -dsimp only [aqT, aqU, aqN, ↓seqK, ↓blkK, ↓loopK, step, stepBin, Nat.reduceBEq, Nat.reduceBeqDiff, Nat.add_assoc nid, Nat.reduceAdd, reduceCtorEq, ↓reduceIte, Nat.reduceLeDiff, Nat.reduceBneDiff, Option.toList, ← Int.ofNat_tmod, ← Int.ofNat_tdiv, Nat.reduceLT, Int.cast_ofNat_Int, Int.reduceBEq, Int.reduceBNe, Int.reduceLT, Int.reduceLE, Int.reduceAdd, Int.reduceSub, Int.reduceMul, Int.reduceToNat, Int.reduceNeg, Int.reduceTMod, Int.reduceEq, not_false_eq_true, Int.reducePow, Int.reduceFDiv, Nat.reducePow, Nat.reduceSub, Nat.reduceMul, Nat.min_eq_left, Nat.reduceEqDiff, BEq.rfl, Int.tdiv_one, LN_succ]
    · have e : respB s = false := by
        unfold respB
        rw [← any_range, show (List.range s.length).any (fun i => oddC (s.getD i 0)) = true from List.any_eq_true.2 ⟨k, List.mem_range.2 hkl, h4⟩]
        simp
      rw [e]
      refine RetOK.pure (.inl rfl) rfl ?_
      simp [cvT, step, res]
    · refine ⟨by unfold inI64; omega, k + 1, ⟨⟨by omega, fun j hj => ?_⟩, by omega⟩, Cov.go [] [] ?_⟩
      · rcases (by omega : j < k ∨ j = k) with hj | hj
        · exact hall j hj
        · rw [hj]; exact h4
      · simp [cvT, step, res]
  · have e : respB s = !outB s.length 1 100 := by
      unfold respB
      have : (List.range s.length).any (fun i => oddC (s.getD i 0)) = false := by
        rw [List.any_eq_false]
        intro i hi
        rw [hall i (by have := List.mem_range.1 hi; omega)]
        simp
      rw [← any_range, this]
      simp
    refine CallO.pure (out_c _ _ _ _) ?_
    simp -dsimp only [aqT, aqU, aqN, ↓seqK, ↓blkK, ↓loopK, step, stepBin, Nat.reduceBEq, Nat.reduceBeqDiff, Nat.add_assoc nid, Nat.reduceAdd, reduceCtorEq, ↓reduceIte, Nat.reduceLeDiff, Nat.reduceBneDiff, Option.toList, ← Int.ofNat_tmod, ← Int.ofNat_tdiv, Nat.reduceLT]
    rw [e]
    refine RetOK.pure (.inl rfl) rfl ?_
    simp [cvT, step, res]
end Go.Proofs.YtpifoghhaohhaaaGreatDoor
namespace Go.Proofs.YtpifoghhaohhaaaGreatDoor
open Go.RowKit Go.Shelf Go.Lib
theorem trim_none (s cs : List UInt8) : (Lib.trimS s cs == []) = s.all cs.contains := by
  have key : Lib.trimS s cs = [] ↔ s.all cs.contains = true := by
    unfold Lib.trimS Lib.trimLeftS
    rw [dropW_nil]
    unfold Lib.trimRightS
    constructor
    · intro h
      cases hd : s.reverse.dropWhile cs.contains with
      | nil =>
        rw [dropW_nil, List.all_reverse] at hd
        exact hd
      | cons a r =>
        have hne : s.reverse.dropWhile cs.contains ≠ [] := by rw [hd]; simp
        have hh := List.head_dropWhile_not cs.contains hne
        have hm : ((s.reverse.dropWhile cs.contains).head hne) ∈ (s.reverse.dropWhile cs.contains).reverse := List.mem_reverse.2 (List.head_mem _)
        have := List.all_eq_true.1 h _ hm
        rw [this] at hh
        cases hh
    · intro h
      have : s.reverse.dropWhile cs.contains = [] := by rw [dropW_nil, List.all_reverse]; exact h
      rw [this]
      rfl
  rw [Bool.eq_iff_iff, beq_iff_eq]
  exact key
def keyL : List UInt8 := [97, 98, 99, 100, 101, 102, 103, 104, 105, 106, 107, 108, 109, 110, 111, 112, 113, 114, 115, 116, 117, 118, 119, 120, 121, 122, 48, 49, 50, 51, 52, 53, 54, 55, 56, 57, 45, 95]
def lowL : List UInt8 := [97, 98, 99, 100, 101, 102, 103, 104, 105, 106, 107, 108, 109, 110, 111, 112, 113, 114, 115, 116, 117, 118, 119, 120, 121, 122]
def lowI (c : Int) : Bool := decide (97 ≤ c) && decide (c ≤ 122)
def keyI (c : Int) : Bool := lowI c || (decide (48 ≤ c) && decide (c ≤ 57)) || c == 45 || c == 95
def keyC (b : UInt8) : Bool := keyI ((b.toNat : Nat) : Int)
theorem keyC_in (b : UInt8) : keyL.contains b = keyC b := by
  have h : ∀ n : Nat, n < 256 → keyL.contains n.toUInt8 = keyI (n : Int) := by decide +kernel
  have := h b.toNat (UInt8.toNat_lt b)
  rwa [show b.toNat.toUInt8 = b by simp] at this
theorem lowC_in (b : UInt8) : decide (0 ≤ Lib.indexByte lowL b) = lowI ((b.toNat : Nat) : Int) := by
  have h : ∀ n : Nat, n < 256 → decide (0 ≤ Lib.indexByte lowL n.toUInt8) = lowI (n : Int) := by decide +kernel
  have := h b.toNat (UInt8.toNat_lt b)
  rwa [show b.toNat.toUInt8 = b by simp] at this
def keyB (s : List UInt8) : Bool := !outB s.length 1 40 && s.all keyC && lowI (((s.getD 0 0).toNat : Nat) : Int)
theorem keyR_c (s : List UInt8) (nid : Nat) : ACall Tryz.prog 88 [.str s] [] nid (.bool (keyB s)) [] := by
  refine acall_run c88 (by simp [a88]) ?_
  simp -dsimp only [aqT, aqU, aqN, ↓seqK, ↓blkK, ↓loopK, step, stepBin, Nat.reduceBEq, Nat.reduceBeqDiff, Nat.add_assoc nid, Nat.reduceAdd, reduceCtorEq, ↓reduceIte, Nat.reduceLeDiff, Nat.reduceBneDiff, Option.toList, ← Int.ofNat_tmod, ← Int.ofNat_tdiv, Nat.reduceLT, a88]
  refine CallO.pure (in_c _ _ _ _) ?_
  simp -dsimp only [aqT, aqU, aqN, ↓seqK, ↓blkK, ↓loopK, step, stepBin, Nat.reduceBEq, Nat.reduceBeqDiff, Nat.add_assoc nid, Nat.reduceAdd, reduceCtorEq, ↓reduceIte, Nat.reduceLeDiff, Nat.reduceBneDiff, Option.toList, ← Int.ofNat_tmod, ← Int.ofNat_tdiv, Nat.reduceLT]
  have ht : (Lib.trimS s keyL == []) = s.all keyC := by rw [trim_none]; congr 1; funext b; exact keyC_in b
  unfold keyL at ht
  have hi := lowC_in (s.getD 0 0)
  unfold lowL at hi
  unfold keyB
  cases h : outB s.length 1 40 <;> simp -dsimp only [aqT, aqU, aqN, ↓seqK, ↓blkK, ↓loopK, step, stepBin, Nat.reduceBEq, Nat.reduceBeqDiff, Nat.add_assoc nid, Nat.reduceAdd, reduceCtorEq, ↓reduceIte, Nat.reduceLeDiff, Nat.reduceBneDiff, Option.toList, ← Int.ofNat_tmod, ← Int.ofNat_tdiv, Nat.reduceLT, Int.cast_ofNat_Int, Int.reduceBEq, Int.reduceBNe, Int.reduceLT, Int.reduceLE, Int.reduceAdd, Int.reduceSub, Int.reduceMul, Int.reduceToNat, Int.reduceNeg, Int.reduceTMod, Int.reduceEq, not_false_eq_true, Int.reducePow, Int.reduceFDiv, Nat.reducePow, Nat.reduceSub, Nat.reduceMul, Nat.min_eq_left, Nat.reduceEqDiff, BEq.rfl, Int.tdiv_one, LN_succ, Bool.not_false, Bool.not_true]
  · have hl : 1 ≤ s.length ∧ s.length ≤ 40 := by unfold outB at h; have := of_decide_eq_false h; omega
    refine CallO.pure (trim_cc s _ _ (by omega) (by decide) (by decide)) ?_
    simp -dsimp only [aqT, aqU, aqN, ↓seqK, ↓blkK, ↓loopK, step, stepBin, Nat.reduceBEq, Nat.reduceBeqDiff, Nat.add_assoc nid, Nat.reduceAdd, reduceCtorEq, ↓reduceIte, Nat.reduceLeDiff, Nat.reduceBneDiff, Option.toList, ← Int.ofNat_tmod, ← Int.ofNat_tdiv, Nat.reduceLT, Int.cast_ofNat_Int, Int.reduceBEq, Int.reduceBNe, Int.reduceLT, Int.reduceLE, Int.reduceAdd, Int.reduceSub, Int.reduceMul, Int.reduceToNat, Int.reduceNeg, Int.reduceTMod, Int.reduceEq, not_false_eq_true, Int.reducePow, Int.reduceFDiv, Nat.reducePow, Nat.reduceSub, Nat.reduceMul, Nat.min_eq_left, Nat.reduceEqDiff, BEq.rfl, Int.tdiv_one, LN_succ]
    rw [ht]
    cases h2 : s.all keyC <;> simp -dsimp only [aqT, aqU, aqN, ↓seqK, ↓blkK, ↓loopK, step, stepBin, Nat.reduceBEq, Nat.reduceBeqDiff, Nat.add_assoc nid, Nat.reduceAdd, reduceCtorEq, ↓reduceIte, Nat.reduceLeDiff, Nat.reduceBneDiff, Option.toList, ← Int.ofNat_tmod, ← Int.ofNat_tdiv, Nat.reduceLT, Int.cast_ofNat_Int, Int.reduceBEq, Int.reduceBNe, Int.reduceLT, Int.reduceLE, Int.reduceAdd, Int.reduceSub, Int.reduceMul, Int.reduceToNat, Int.reduceNeg, Int.reduceTMod, Int.reduceEq, not_false_eq_true, Int.reducePow, Int.reduceFDiv, Nat.reducePow, Nat.reduceSub, Nat.reduceMul, Nat.min_eq_left, Nat.reduceEqDiff, BEq.rfl, Int.tdiv_one, LN_succ, Bool.not_false, Bool.not_true]
    · refine RetOK.pure (.inl rfl) rfl ?_
      simp [cvT, step, res]
    · refine ⟨by omega, ?_⟩
      refine CallO.pure (indexK_c _ _ _) ?_
      simp -dsimp only [aqT, aqU, aqN, ↓seqK, ↓blkK, ↓loopK, step, stepBin, Nat.reduceBEq, Nat.reduceBeqDiff, Nat.add_assoc nid, Nat.reduceAdd, reduceCtorEq, ↓reduceIte, Nat.reduceLeDiff, Nat.reduceBneDiff, Option.toList, ← Int.ofNat_tmod, ← Int.ofNat_tdiv, Nat.reduceLT, Int.cast_ofNat_Int, Int.reduceBEq, Int.reduceBNe, Int.reduceLT, Int.reduceLE, Int.reduceAdd, Int.reduceSub, Int.reduceMul, Int.reduceToNat, Int.reduceNeg, Int.reduceTMod, Int.reduceEq, not_false_eq_true, Int.reducePow, Int.reduceFDiv, Nat.reducePow, Nat.reduceSub, Nat.reduceMul, Nat.min_eq_left, Nat.reduceEqDiff, BEq.rfl, Int.tdiv_one, LN_succ]
      rw [show (s.getD 0 0).toNat.toUInt8 = s.getD 0 0 by simp, hi]
      refine RetOK.pure (.inl rfl) rfl ?_
      simp [cvT, step, res]
  · refine RetOK.pure (.inl rfl) rfl ?_
    simp [cvT, step, res]
theorem keyI_iff {c : Int} : keyI c = true ↔ (97 ≤ c ∧ c ≤ 122) ∨ (48 ≤ c ∧ c ≤ 57) ∨ c = 45 ∨ c = 95 := by
  unfold keyI lowI
  simp only [Bool.or_eq_true, Bool.and_eq_true, decide_eq_true_eq, beq_iff_eq]
  omega
theorem keyI_no {c : Int} (h : ¬ ((97 ≤ c ∧ c ≤ 122) ∨ (48 ≤ c ∧ c ≤ 57) ∨ c = 45 ∨ c = 95)) : keyI c = false := by
  have := mt keyI_iff.1 h
  simpa using this
theorem keyB_bad {s : List UInt8} (h : s.length < 1 ∨ 40 < s.length ∨ (((s.getD 0 0).toNat : Nat) : Int) < 97 ∨ (122 : Int) < ((s.getD 0 0).toNat : Nat)) : keyB s = false := by
  have : ¬ keyB s = true := fun e => by
    unfold keyB outB lowI at e
    simp only [Bool.and_eq_true, Bool.not_eq_true', decide_eq_true_eq, decide_eq_false_iff_not] at e
    omega
  simpa using this
theorem keyB_good {s : List UInt8} (h1 : 1 ≤ s.length) (h2 : s.length ≤ 40) (h3 : (97 : Int) ≤ ((s.getD 0 0).toNat : Nat)) (h4 : (((s.getD 0 0).toNat : Nat) : Int) ≤ 122) : keyB s = s.all keyC := by
  have a : outB s.length 1 40 = false := by unfold outB; exact decide_eq_false (by omega)
  have b : lowI (((s.getD 0 0).toNat : Nat) : Int) = true := by unfold lowI; rw [decide_eq_true h3, decide_eq_true h4]; rfl
  unfold keyB
  rw [a, b, Bool.and_true, Bool.not_false, Bool.true_and]
theorem keyC_all {s : List UInt8} (h : ∀ j, j < s.length → keyC (s.getD j 0) = true) : s.all keyC = true := by
  rw [List.all_eq_true]
  intro x hx
  obtain ⟨j, hj, rfl⟩ := List.getElem_of_mem hx
  have := h j hj
  rwa [List.getD_eq_getElem?_getD, List.getElem?_eq_getElem hj] at this
theorem keyC_not {s : List UInt8} {k : Nat} (hk : k < s.length) (h : keyC (s.getD k 0) = false) : s.all keyC = false := by
  rw [List.all_eq_false]
  refine ⟨s[k], List.getElem_mem _, ?_⟩
  rw [List.getD_eq_getElem?_getD, List.getElem?_eq_getElem hk] at h
  rw [show s[k] = (some s[k]).getD 0 from rfl, h]
  simp
set_option maxHeartbeats 1000000 in
theorem keyD_c (s : List UInt8) (nid : Nat) (hs : s.length ≤ 1000000) : ACall Tryz.prog 154 [.str s] [] nid (.bool (keyB s)) [] := by
  refine acall_sr c154 (by simp [a154]) ?_
  unfold a154
  refine SR.seq ?_
  simp -dsimp only [aqT, aqU, aqN, ↓seqK, ↓blkK, ↓loopK, step, stepBin, Nat.reduceBEq, Nat.reduceBeqDiff, Nat.add_assoc nid, Nat.reduceAdd, reduceCtorEq, ↓reduceIte, Nat.reduceLeDiff, Nat.reduceBneDiff, Option.toList, ← Int.ofNat_tmod, ← Int.ofNat_tdiv, Nat.reduceLT, Int.cast_ofNat_Int, Int.reduceBEq, Int.reduceBNe, Int.reduceLT, Int.reduceLE, Int.reduceAdd, Int.reduceSub, Int.reduceMul, Int.reduceToNat, Int.reduceNeg, Int.reduceTMod, Int.reduceEq, not_false_eq_true, Int.reducePow, Int.reduceFDiv, Nat.reducePow, Nat.reduceSub, Nat.reduceMul, Nat.min_eq_left, Nat.reduceEqDiff, BEq.rfl, Int.tdiv_one, LN_succ]
  refine SR.seqW (ι := {_u : Unit // (1 ≤ s.length ∧ s.length ≤ 40) ∧ (97 : Int) ≤ ((s.getD 0 0).toNat : Nat) ∧ (((s.getD 0 0).toNat : Nat) : Int) ≤ 122}) (fun _ => ⟨[(0, .str s)], [], nid + 80, nid⟩) ?_ (fun ⟨_, ⟨h1, h2⟩, h3, h4⟩ => ?_)
  · refine SR.run (t := .mk) ?_
    simp -dsimp only [aqT, aqU, aqN, ↓seqK, ↓blkK, ↓loopK, step, stepBin, Nat.reduceBEq, Nat.reduceBeqDiff, Nat.add_assoc nid, Nat.reduceAdd, reduceCtorEq, ↓reduceIte, Nat.reduceLeDiff, Nat.reduceBneDiff, Option.toList, ← Int.ofNat_tmod, ← Int.ofNat_tdiv, Nat.reduceLT, Int.cast_ofNat_Int, Int.reduceBEq, Int.reduceBNe, Int.reduceLT, Int.reduceLE, Int.reduceAdd, Int.reduceSub, Int.reduceMul, Int.reduceToNat, Int.reduceNeg, Int.reduceTMod, Int.reduceEq, not_false_eq_true, Int.reducePow, Int.reduceFDiv, Nat.reducePow, Nat.reduceSub, Nat.reduceMul, Nat.min_eq_left, Nat.reduceEqDiff, BEq.rfl, Int.tdiv_one, LN_succ]
    refine S2.intro (fun h1 => ?_) (fun h1 => ?_) <;> simp -dsimp only [aqT, aqU, aqN, ↓seqK, ↓blkK, ↓loopK, step, stepBin, Nat.reduceBEq, Nat.reduceBeqDiff, Nat.add_assoc nid, Nat.reduceAdd, reduceCtorEq, ↓reduceIte, Nat.reduceLeDiff, Nat.reduceBneDiff, Option.toList, ← Int.ofNat_tmod, ← Int.ofNat_tdiv, Nat.reduceLT, Int.cast_ofNat_Int, Int.reduceBEq, Int.reduceBNe, Int.reduceLT, Int.reduceLE, Int.reduceAdd, Int.reduceSub, Int.reduceMul, Int.reduceToNat, Int.reduceNeg, Int.reduceTMod, Int.reduceEq, not_false_eq_true, Int.reducePow, Int.reduceFDiv, Nat.reducePow, Nat.reduceSub, Nat.reduceMul, Nat.min_eq_left, Nat.reduceEqDiff, BEq.rfl, Int.tdiv_one, LN_succ]
    · rw [keyB_bad (.inl (by simp at h1; subst h1; simp))]
      refine RetOK.pure (.inl rfl) rfl ?_
      simp [cvT, step, res]
    have h1 : 1 ≤ s.length := by have : s ≠ [] := by simpa using h1
                                 have := List.length_pos_iff.2 this
                                 omega
    refine S2.dec (fun h2 => ?_) (fun h2 => ?_) <;> simp -dsimp only [aqT, aqU, aqN, ↓seqK, ↓blkK, ↓loopK, step, stepBin, Nat.reduceBEq, Nat.reduceBeqDiff, Nat.add_assoc nid, Nat.reduceAdd, reduceCtorEq, ↓reduceIte, Nat.reduceLeDiff, Nat.reduceBneDiff, Option.toList, ← Int.ofNat_tmod, ← Int.ofNat_tdiv, Nat.reduceLT, Int.cast_ofNat_Int, Int.reduceBEq, Int.reduceBNe, Int.reduceLT, Int.reduceLE, Int.reduceAdd, Int.reduceSub, Int.reduceMul, Int.reduceToNat, Int.reduceNeg, Int.reduceTMod, Int.reduceEq, not_false_eq_true, Int.reducePow, Int.reduceFDiv, Nat.reducePow, Nat.reduceSub, Nat.reduceMul, Nat.min_eq_left, Nat.reduceEqDiff, BEq.rfl, Int.tdiv_one, LN_succ]
    · rw [keyB_bad (.inr (.inl (by omega)))]
      refine RetOK.pure (.inl rfl) rfl ?_
      simp [cvT, step, res]
    refine ⟨by omega, ?_⟩
    refine S2.dec (fun h3 => ?_) (fun h3 => ?_) <;> simp -dsimp only [aqT, aqU, aqN, ↓seqK, ↓blkK, ↓loopK, step, stepBin, Nat.reduceBEq, Nat.reduceBeqDiff, Nat.add_assoc nid, Nat.reduceAdd, reduceCtorEq, ↓reduceIte, Nat.reduceLeDiff, Nat.reduceBneDiff, Option.toList, ← Int.ofNat_tmod, ← Int.ofNat_tdiv, Nat.reduceLT, Int.cast_ofNat_Int, Int.reduceBEq, Int.reduceBNe, Int.reduceLT, Int.reduceLE, Int.reduceAdd, Int.reduceSub, Int.reduceMul, Int.reduceToNat, Int.reduceNeg, Int.reduceTMod, Int.reduceEq, not_false_eq_true, Int.reducePow, Int.reduceFDiv, Nat.reducePow, Nat.reduceSub, Nat.reduceMul, Nat.min_eq_left, Nat.reduceEqDiff, BEq.rfl, Int.tdiv_one, LN_succ]
    · rw [keyB_bad (.inr (.inr (.inl (by omega))))]
      refine RetOK.pure (.inl rfl) rfl ?_
      simp [cvT, step, res]
    refine ⟨by omega, ?_⟩
    refine S2.dec (fun h4 => ?_) (fun h4 => ?_) <;> simp -dsimp only [aqT, aqU, aqN, ↓seqK, ↓blkK, ↓loopK, step, stepBin, Nat.reduceBEq, Nat.reduceBeqDiff, Nat.add_assoc nid, Nat.reduceAdd, reduceCtorEq, ↓reduceIte, Nat.reduceLeDiff, Nat.reduceBneDiff, Option.toList, ← Int.ofNat_tmod, ← Int.ofNat_tdiv, Nat.reduceLT, Int.cast_ofNat_Int, Int.reduceBEq, Int.reduceBNe, Int.reduceLT, Int.reduceLE, Int.reduceAdd, Int.reduceSub, Int.reduceMul, Int.reduceToNat, Int.reduceNeg, Int.reduceTMod, Int.reduceEq, not_false_eq_true, Int.reducePow, Int.reduceFDiv, Nat.reducePow, Nat.reduceSub, Nat.reduceMul, Nat.min_eq_left, Nat.reduceEqDiff, BEq.rfl, Int.tdiv_one, LN_succ]
    · rw [keyB_bad (.inr (.inr (.inr (by omega))))]
      refine RetOK.pure (.inl rfl) rfl ?_
      simp [cvT, step, res]
    refine ⟨⟨(), ⟨h1, by omega⟩, by omega, by omega⟩, Cov.drop (by omega) ?_⟩
    simp only [SlotsIn, aqT, aqU, aqN, ↓seqK, ↓blkK, ↓loopK, step, stepBin, Nat.reduceBEq, Nat.reduceBeqDiff, Nat.add_assoc nid, Nat.reduceAdd, reduceCtorEq, ↓reduceIte, Nat.reduceLeDiff, Nat.reduceBneDiff, Option.toList, ← Int.ofNat_tmod, ← Int.ofNat_tdiv, Nat.reduceLT]
    try simp
  rw [keyB_good h1 h2 h3 h4]
  clear h3 h4
  refine SR.seqW (ι := {_u : Unit // s.all keyC = true}) (fun _ => ⟨[(0, .str s)], [], nid + 400, nid⟩) ?_ (fun ⟨_, h5⟩ => ?_)
  · refine SR.seqTo ⟨[(24, .int .i64 0), (23, .int .i64 s.length), (0, .str s)], [], nid + 100, nid⟩ ?_ ?_
    · simp -dsimp only [aqT, aqU, aqN, ↓seqK, ↓blkK, ↓loopK, step, stepBin, Nat.reduceBEq, Nat.reduceBeqDiff, Nat.add_assoc nid, Nat.reduceAdd, reduceCtorEq, ↓reduceIte, Nat.reduceLeDiff, Nat.reduceBneDiff, Option.toList, ← Int.ofNat_tmod, ← Int.ofNat_tdiv, Nat.reduceLT, Int.cast_ofNat_Int, Int.reduceBEq, Int.reduceBNe, Int.reduceLT, Int.reduceLE, Int.reduceAdd, Int.reduceSub, Int.reduceMul, Int.reduceToNat, Int.reduceNeg, Int.reduceTMod, Int.reduceEq, not_false_eq_true, Int.reducePow, Int.reduceFDiv, Nat.reducePow, Nat.reduceSub, Nat.reduceMul, Nat.min_eq_left, Nat.reduceEqDiff, BEq.rfl, Int.tdiv_one, LN_succ]
      refine Cov.drop (by omega) ?_
      simp only [SlotsIn, aqT, aqU, aqN, ↓seqK, ↓blkK, ↓loopK, step, stepBin, Nat.reduceBEq, Nat.reduceBeqDiff, Nat.add_assoc nid, Nat.reduceAdd, reduceCtorEq, ↓reduceIte, Nat.reduceLeDiff, Nat.reduceBneDiff, Option.toList, ← Int.ofNat_tmod, ← Int.ofNat_tdiv, Nat.reduceLT]
      try simp
    refine SR.block ?_
    refine SR.loopP (fun k : Nat => k ≤ s.length ∧ ∀ j, j < k → keyC (s.getD j 0) = true) (fun k : Nat => ⟨[(24, .int .i64 k), (23, .int .i64 s.length), (0, .str s)], [], nid + 100, nid⟩) (fun k => s.length + 1 - k) 0 ⟨by omega, fun j hj => by omega⟩ (Cov.drop (by omega) ?_) (fun k hk => ?_)
    · simp only [SlotsIn, aqT, aqU, aqN, ↓seqK, ↓blkK, ↓loopK, step, stepBin, Nat.reduceBEq, Nat.reduceBeqDiff, Nat.add_assoc nid, Nat.reduceAdd, reduceCtorEq, ↓reduceIte, Nat.reduceLeDiff, Nat.reduceBneDiff, Option.toList, ← Int.ofNat_tmod, ← Int.ofNat_tdiv, Nat.reduceLT]
      try simp
    obtain ⟨hk, hall⟩ := hk
    refine SR.seq ?_
    simp -dsimp only [aqT, aqU, aqN, ↓seqK, ↓blkK, ↓loopK, step, stepBin, Nat.reduceBEq, Nat.reduceBeqDiff, Nat.add_assoc nid, Nat.reduceAdd, reduceCtorEq, ↓reduceIte, Nat.reduceLeDiff, Nat.reduceBneDiff, Option.toList, ← Int.ofNat_tmod, ← Int.ofNat_tdiv, Nat.reduceLT, Int.cast_ofNat_Int, Int.reduceBEq, Int.reduceBNe, Int.reduceLT, Int.reduceLE, Int.reduceAdd, Int.reduceSub, Int.reduceMul, Int.reduceToNat, Int.reduceNeg, Int.reduceTMod, Int.reduceEq, not_false_eq_true, Int.reducePow, Int.reduceFDiv, Nat.reducePow, Nat.reduceSub, Nat.reduceMul, Nat.min_eq_left, Nat.reduceEqDiff, BEq.rfl, Int.tdiv_one, LN_succ]
    refine SR.seq ?_
    simp -dsimp only [aqT, aqU, aqN, ↓seqK, ↓blkK, ↓loopK, step, stepBin, Nat.reduceBEq, Nat.reduceBeqDiff, Nat.add_assoc nid, Nat.reduceAdd, reduceCtorEq, ↓reduceIte, Nat.reduceLeDiff, Nat.reduceBneDiff, Option.toList, ← Int.ofNat_tmod, ← Int.ofNat_tdiv, Nat.reduceLT, Int.cast_ofNat_Int, Int.reduceBEq, Int.reduceBNe, Int.reduceLT, Int.reduceLE, Int.reduceAdd, Int.reduceSub, Int.reduceMul, Int.reduceToNat, Int.reduceNeg, Int.reduceTMod, Int.reduceEq, not_false_eq_true, Int.reducePow, Int.reduceFDiv, Nat.reducePow, Nat.reduceSub, Nat.reduceMul, Nat.min_eq_left, Nat.reduceEqDiff, BEq.rfl, Int.tdiv_one, LN_succ]
    refine S2.dec (fun h3 => ?_) (fun h3 => ?_) <;> simp -dsimp only [aqT, aqU, aqN, ↓seqK, ↓blkK, ↓loopK, step, stepBin, Nat.reduceBEq, Nat.reduceBeqDiff, Nat.add_assoc nid, Nat.reduceAdd, reduceCtorEq, ↓reduceIte, Nat.reduceLeDiff, Nat.reduceBneDiff, Option.toList, ← Int.ofNat_tmod, ← Int.ofNat_tdiv, Nat.reduceLT, Int.cast_ofNat_Int, Int.reduceBEq, Int.reduceBNe, Int.reduceLT, Int.reduceLE, Int.reduceAdd, Int.reduceSub, Int.reduceMul, Int.reduceToNat, Int.reduceNeg, Int.reduceTMod, Int.reduceEq, not_false_eq_true, Int.reducePow, Int.reduceFDiv, Nat.reducePow, Nat.reduceSub, Nat.reduceMul, Nat.min_eq_left, Nat.reduceEqDiff, BEq.rfl, Int.tdiv_one, LN_succ]
    · have hkl : k < s.length := by omega
      have hno := keyC_not hkl
      have hyes : keyC (s.getD k 0) = true → ∀ j, j < k + 1 → keyC (s.getD j 0) = true := fun h j hj => by
        rcases (by omega : j < k ∨ j = k) with hj | hj
        · exact hall j hj
        · rw [hj]; exact h
      have ek : keyC (s.getD k 0) = keyI (((s.getD k 0).toNat : Nat) : Int) := rfl
      rw [ek] at hno hyes
      clear ek hall h3
      refine SR.seqW (ι := {_u : Unit // keyI (((s.getD k 0).toNat : Nat) : Int) = true}) (fun _ => ⟨[(24, .int .i64 k), (23, .int .i64 s.length), (0, .str s)], [], nid + 400, nid⟩) ?_ (fun ⟨_, h6⟩ => ?_)
      · refine SR.block ?_
        refine SR.seq ?_
        simp -dsimp only [aqT, aqU, aqN, ↓seqK, ↓blkK, ↓loopK, step, stepBin, Nat.reduceBEq, Nat.reduceBeqDiff, Nat.add_assoc nid, Nat.reduceAdd, reduceCtorEq, ↓reduceIte, Nat.reduceLeDiff, Nat.reduceBneDiff, Option.toList, ← Int.ofNat_tmod, ← Int.ofNat_tdiv, Nat.reduceLT, Int.cast_ofNat_Int, Int.reduceBEq, Int.reduceBNe, Int.reduceLT, Int.reduceLE, Int.reduceAdd, Int.reduceSub, Int.reduceMul, Int.reduceToNat, Int.reduceNeg, Int.reduceTMod, Int.reduceEq, not_false_eq_true, Int.reducePow, Int.reduceFDiv, Nat.reducePow, Nat.reduceSub, Nat.reduceMul, Nat.min_eq_left, Nat.reduceEqDiff, BEq.rfl, Int.tdiv_one, LN_succ]
        refine SR.seqTo ⟨[(4, .int .u8 (((s.getD k 0).toNat : Nat) : Int)), (24, .int .i64 k), (23, .int .i64 s.length), (0, .str s)], [], nid + 200, nid⟩ ?_ ?_
        · simp -dsimp only [aqT, aqU, aqN, ↓seqK, ↓blkK, ↓loopK, step, stepBin, Nat.reduceBEq, Nat.reduceBeqDiff, Nat.add_assoc nid, Nat.reduceAdd, reduceCtorEq, ↓reduceIte, Nat.reduceLeDiff, Nat.reduceBneDiff, Option.toList, ← Int.ofNat_tmod, ← Int.ofNat_tdiv, Nat.reduceLT, Int.cast_ofNat_Int, Int.reduceBEq, Int.reduceBNe, Int.reduceLT, Int.reduceLE, Int.reduceAdd, Int.reduceSub, Int.reduceMul, Int.reduceToNat, Int.reduceNeg, Int.reduceTMod, Int.reduceEq, not_false_eq_true, Int.reducePow, Int.reduceFDiv, Nat.reducePow, Nat.reduceSub, Nat.reduceMul, Nat.min_eq_left, Nat.reduceEqDiff, BEq.rfl, Int.tdiv_one, LN_succ]
          refine ⟨by omega, Cov.drop (by omega) ?_⟩
          simp only [SlotsIn, aqT, aqU, aqN, ↓seqK, ↓blkK, ↓loopK, step, stepBin, Nat.reduceBEq, Nat.reduceBeqDiff, Nat.add_assoc nid, Nat.reduceAdd, reduceCtorEq, ↓reduceIte, Nat.reduceLeDiff, Nat.reduceBneDiff, Option.toList, ← Int.ofNat_tmod, ← Int.ofNat_tdiv, Nat.reduceLT]
          try simp
        clear hyes
        generalize (((s.getD k 0).toNat : Nat) : Int) = c at *
        refine SR.seqTo ⟨[(52, .bool (!keyI c)), (24, .int .i64 k), (23, .int .i64 s.length), (0, .str s)], [], nid + 300, nid⟩ ?_ ?_
        · have cls : (97 ≤ c ∧ c ≤ 122) ∨ (48 ≤ c ∧ c ≤ 57) ∨ c = 45 ∨ c = 95 ∨ 122 < c ∨ (57 < c ∧ c < 97 ∧ c ≠ 95) ∨ (c < 48 ∧ c ≠ 45) := by omega
          clear hno
          rcases cls with hc | hc | hc | hc | hc | hc | hc
          · rw [keyI_iff.2 (by omega)]
            simp -dsimp only [aqT, aqU, aqN, ↓seqK, ↓blkK, ↓loopK, step, stepBin, Nat.reduceBEq, Nat.reduceBeqDiff, Nat.add_assoc nid, Nat.reduceAdd, reduceCtorEq, ↓reduceIte, Nat.reduceLeDiff, Nat.reduceBneDiff, Option.toList, ← Int.ofNat_tmod, ← Int.ofNat_tdiv, Nat.reduceLT, Int.cast_ofNat_Int, Int.reduceBEq, Int.reduceBNe, Int.reduceLT, Int.reduceLE, Int.reduceAdd, Int.reduceSub, Int.reduceMul, Int.reduceToNat, Int.reduceNeg, Int.reduceTMod, Int.reduceEq, not_false_eq_true, Int.reducePow, Int.reduceFDiv, Nat.reducePow, Nat.reduceSub, Nat.reduceMul, Nat.min_eq_left, Nat.reduceEqDiff, BEq.rfl, Int.tdiv_one, LN_succ, decide_eq_true hc.1, decide_eq_true hc.2]
            exact Cov.drop (by omega) (by simp only [SlotsIn, aqT, aqU, aqN, ↓seqK, ↓blkK, ↓loopK, step, stepBin, Nat.reduceBEq, Nat.reduceBeqDiff, Nat.add_assoc nid, Nat.reduceAdd, reduceCtorEq, ↓reduceIte, Nat.reduceLeDiff, Nat.reduceBneDiff, Option.toList, ← Int.ofNat_tmod, ← Int.ofNat_tdiv, Nat.reduceLT])
          · rw [keyI_iff.2 (by omega)]
            simp -dsimp only [aqT, aqU, aqN, ↓seqK, ↓blkK, ↓loopK, step, stepBin, Nat.reduceBEq, Nat.reduceBeqDiff, Nat.add_assoc nid, Nat.reduceAdd, reduceCtorEq, ↓reduceIte, Nat.reduceLeDiff, Nat.reduceBneDiff, Option.toList, ← Int.ofNat_tmod, ← Int.ofNat_tdiv, Nat.reduceLT, Int.cast_ofNat_Int, Int.reduceBEq, Int.reduceBNe, Int.reduceLT, Int.reduceLE, Int.reduceAdd, Int.reduceSub, Int.reduceMul, Int.reduceToNat, Int.reduceNeg, Int.reduceTMod, Int.reduceEq, not_false_eq_true, Int.reducePow, Int.reduceFDiv, Nat.reducePow, Nat.reduceSub, Nat.reduceMul, Nat.min_eq_left, Nat.reduceEqDiff, BEq.rfl, Int.tdiv_one, LN_succ, decide_eq_false (show ¬ (97 : Int) ≤ c by omega), decide_eq_true hc.1, decide_eq_true hc.2]
            exact Cov.drop (by omega) (by simp only [SlotsIn, aqT, aqU, aqN, ↓seqK, ↓blkK, ↓loopK, step, stepBin, Nat.reduceBEq, Nat.reduceBeqDiff, Nat.add_assoc nid, Nat.reduceAdd, reduceCtorEq, ↓reduceIte, Nat.reduceLeDiff, Nat.reduceBneDiff, Option.toList, ← Int.ofNat_tmod, ← Int.ofNat_tdiv, Nat.reduceLT])
          · rw [keyI_iff.2 (by omega)]
            simp -dsimp only [aqT, aqU, aqN, ↓seqK, ↓blkK, ↓loopK, step, stepBin, Nat.reduceBEq, Nat.reduceBeqDiff, Nat.add_assoc nid, Nat.reduceAdd, reduceCtorEq, ↓reduceIte, Nat.reduceLeDiff, Nat.reduceBneDiff, Option.toList, ← Int.ofNat_tmod, ← Int.ofNat_tdiv, Nat.reduceLT, Int.cast_ofNat_Int, Int.reduceBEq, Int.reduceBNe, Int.reduceLT, Int.reduceLE, Int.reduceAdd, Int.reduceSub, Int.reduceMul, Int.reduceToNat, Int.reduceNeg, Int.reduceTMod, Int.reduceEq, not_false_eq_true, Int.reducePow, Int.reduceFDiv, Nat.reducePow, Nat.reduceSub, Nat.reduceMul, Nat.min_eq_left, Nat.reduceEqDiff, BEq.rfl, Int.tdiv_one, LN_succ, decide_eq_false (show ¬ (97 : Int) ≤ c by omega), decide_eq_false (show ¬ (48 : Int) ≤ c by omega), show (c == 45) = true by simp [hc]]
            exact Cov.drop (by omega) (by simp only [SlotsIn, aqT, aqU, aqN, ↓seqK, ↓blkK, ↓loopK, step, stepBin, Nat.reduceBEq, Nat.reduceBeqDiff, Nat.add_assoc nid, Nat.reduceAdd, reduceCtorEq, ↓reduceIte, Nat.reduceLeDiff, Nat.reduceBneDiff, Option.toList, ← Int.ofNat_tmod, ← Int.ofNat_tdiv, Nat.reduceLT])
          · rw [keyI_iff.2 (by omega)]
            simp -dsimp only [aqT, aqU, aqN, ↓seqK, ↓blkK, ↓loopK, step, stepBin, Nat.reduceBEq, Nat.reduceBeqDiff, Nat.add_assoc nid, Nat.reduceAdd, reduceCtorEq, ↓reduceIte, Nat.reduceLeDiff, Nat.reduceBneDiff, Option.toList, ← Int.ofNat_tmod, ← Int.ofNat_tdiv, Nat.reduceLT, Int.cast_ofNat_Int, Int.reduceBEq, Int.reduceBNe, Int.reduceLT, Int.reduceLE, Int.reduceAdd, Int.reduceSub, Int.reduceMul, Int.reduceToNat, Int.reduceNeg, Int.reduceTMod, Int.reduceEq, not_false_eq_true, Int.reducePow, Int.reduceFDiv, Nat.reducePow, Nat.reduceSub, Nat.reduceMul, Nat.min_eq_left, Nat.reduceEqDiff, BEq.rfl, Int.tdiv_one, LN_succ, decide_eq_false (show ¬ (97 : Int) ≤ c by omega), decide_eq_true (show (48 : Int) ≤ c by omega), decide_eq_false (show ¬ c ≤ (57 : Int) by omega), show (c == 45) = false by simp [hc], show (c == 95) = true by simp [hc]]
            exact Cov.drop (by omega) (by simp only [SlotsIn, aqT, aqU, aqN, ↓seqK, ↓blkK, ↓loopK, step, stepBin, Nat.reduceBEq, Nat.reduceBeqDiff, Nat.add_assoc nid, Nat.reduceAdd, reduceCtorEq, ↓reduceIte, Nat.reduceLeDiff, Nat.reduceBneDiff, Option.toList, ← Int.ofNat_tmod, ← Int.ofNat_tdiv, Nat.reduceLT])
          · rw [keyI_no (by omega)]
            simp -dsimp only [aqT, aqU, aqN, ↓seqK, ↓blkK, ↓loopK, step, stepBin, Nat.reduceBEq, Nat.reduceBeqDiff, Nat.add_assoc nid, Nat.reduceAdd, reduceCtorEq, ↓reduceIte, Nat.reduceLeDiff, Nat.reduceBneDiff, Option.toList, ← Int.ofNat_tmod, ← Int.ofNat_tdiv, Nat.reduceLT, Int.cast_ofNat_Int, Int.reduceBEq, Int.reduceBNe, Int.reduceLT, Int.reduceLE, Int.reduceAdd, Int.reduceSub, Int.reduceMul, Int.reduceToNat, Int.reduceNeg, Int.reduceTMod, Int.reduceEq, not_false_eq_true, Int.reducePow, Int.reduceFDiv, Nat.reducePow, Nat.reduceSub, Nat.reduceMul, Nat.min_eq_left, Nat.reduceEqDiff, BEq.rfl, Int.tdiv_one, LN_succ, decide_eq_true (show (97 : Int) ≤ c by omega), decide_eq_false (show ¬ c ≤ (122 : Int) by omega), decide_eq_true (show (48 : Int) ≤ c by omega), decide_eq_false (show ¬ c ≤ (57 : Int) by omega), show (c == 45) = false by simp; omega, show (c == 95) = false by simp; omega]
            exact Cov.drop (by omega) (by simp only [SlotsIn, aqT, aqU, aqN, ↓seqK, ↓blkK, ↓loopK, step, stepBin, Nat.reduceBEq, Nat.reduceBeqDiff, Nat.add_assoc nid, Nat.reduceAdd, reduceCtorEq, ↓reduceIte, Nat.reduceLeDiff, Nat.reduceBneDiff, Option.toList, ← Int.ofNat_tmod, ← Int.ofNat_tdiv, Nat.reduceLT])
          · rw [keyI_no (by omega)]
            simp -dsimp only [aqT, aqU, aqN, ↓seqK, ↓blkK, ↓loopK, step, stepBin, Nat.reduceBEq, Nat.reduceBeqDiff, Nat.add_assoc nid, Nat.reduceAdd, reduceCtorEq, ↓reduceIte, Nat.reduceLeDiff, Nat.reduceBneDiff, Option.toList, ← Int.ofNat_tmod, ← Int.ofNat_tdiv, Nat.reduceLT, Int.cast_ofNat_Int, Int.reduceBEq, Int.reduceBNe, Int.reduceLT, Int.reduceLE, Int.reduceAdd, Int.reduceSub, Int.reduceMul, Int.reduceToNat, Int.reduceNeg, Int.reduceTMod, Int.reduceEq, not_false_eq_true, Int.reducePow, Int.reduceFDiv, Nat.reducePow, Nat.reduceSub, Nat.reduceMul, Nat.min_eq_left, Nat.reduceEqDiff, BEq.rfl, Int.tdiv_one, LN_succ, decide_eq_false (show ¬ (97 : Int) ≤ c by omega), decide_eq_true (show (48 : Int) ≤ c by omega), decide_eq_false (show ¬ c ≤ (57 : Int) by omega), show (c == 45) = false by simp; omega, show (c == 95) = false by simp; omega]
            exact Cov.drop (by omega) (by simp only [SlotsIn, aqT, aqU, aqN, ↓seqK, ↓blkK, ↓loopK, step, stepBin, Nat.reduceBEq, Nat.reduceBeqDiff, Nat.add_assoc nid, Nat.reduceAdd, reduceCtorEq, ↓reduceIte, Nat.reduceLeDiff, Nat.reduceBneDiff, Option.toList, ← Int.ofNat_tmod, ← Int.ofNat_tdiv, Nat.reduceLT])
          · rw [keyI_no (by omega)]
            simp -dsimp only [aqT, aqU, aqN, ↓seqK, ↓blkK, ↓loopK, step, stepBin, Nat.reduceBEq, Nat.reduceBeqDiff, Nat.add_assoc nid, Nat.reduceAdd, reduceCtorEq, ↓reduceIte, Nat.reduceLeDiff, Nat.reduceBneDiff, Option.toList, ← Int.ofNat_tmod, ← Int.ofNat_tdiv, Nat.reduceLT, Int.cast_ofNat_Int, Int.reduceBEq, Int.reduceBNe, Int.reduceLT, Int.reduceLE, Int.reduceAdd, Int.reduceSub, Int.reduceMul, Int.reduceToNat, Int.reduceNeg, Int.reduceTMod, Int.reduceEq, not_false_eq_true, Int.reducePow, Int.reduceFDiv, Nat.reducePow, Nat.reduceSub, Nat.reduceMul, Nat.min_eq_left, Nat.reduceEqDiff, BEq.rfl, Int.tdiv_one, LN_succ, decide_eq_false (show ¬ (97 : Int) ≤ c by omega), decide_eq_false (show ¬ (48 : Int) ≤ c by omega), show (c == 45) = false by simp; omega, show (c == 95) = false by simp; omega]
            exact Cov.drop (by omega) (by simp only [SlotsIn, aqT, aqU, aqN, ↓seqK, ↓blkK, ↓loopK, step, stepBin, Nat.reduceBEq, Nat.reduceBeqDiff, Nat.add_assoc nid, Nat.reduceAdd, reduceCtorEq, ↓reduceIte, Nat.reduceLeDiff, Nat.reduceBneDiff, Option.toList, ← Int.ofNat_tmod, ← Int.ofNat_tdiv, Nat.reduceLT])
        refine SR.run (t := .mk) ?_
        cases hb : keyI c
        · rw [hno hb]
          simp -dsimp only [aqT, aqU, aqN, ↓seqK, ↓blkK, ↓loopK, step, stepBin, Nat.reduceBEq, Nat.reduceBeqDiff, Nat.add_assoc nid, Nat.reduceAdd, reduceCtorEq, ↓reduceIte, Nat.reduceLeDiff, Nat.reduceBneDiff, Option.toList, ← Int.ofNat_tmod, ← Int.ofNat_tdiv, Nat.reduceLT, Int.cast_ofNat_Int, Int.reduceBEq, Int.reduceBNe, Int.reduceLT, Int.reduceLE, Int.reduceAdd, Int.reduceSub, Int.reduceMul, Int.reduceToNat, Int.reduceNeg, Int.reduceTMod, Int.reduceEq, not_false_eq_true, Int.reducePow, Int.reduceFDiv, Nat.reducePow, Nat.reduceSub, Nat.reduceMul, Nat.min_eq_left, Nat.reduceEqDiff, BEq.rfl, Int.tdiv_one, LN_succ]
          refine RetOK.pure (.inl rfl) rfl ?_
          simp [cvT, step, res]
        · simp -dsimp only [aqT, aqU, aqN, ↓seqK, ↓blkK, ↓loopK, step, stepBin, Nat.reduceBEq, Nat.reduceBeqDiff, Nat.add_assoc nid, Nat.reduceAdd, reduceCtorEq, ↓reduceIte, Nat.reduceLeDiff, Nat.reduceBneDiff, Option.toList, ← Int.ofNat_tmod, ← Int.ofNat_tdiv, Nat.reduceLT, Int.cast_ofNat_Int, Int.reduceBEq, Int.reduceBNe, Int.reduceLT, Int.reduceLE, Int.reduceAdd, Int.reduceSub, Int.reduceMul, Int.reduceToNat, Int.reduceNeg, Int.reduceTMod, Int.reduceEq, not_false_eq_true, Int.reducePow, Int.reduceFDiv, Nat.reducePow, Nat.reduceSub, Nat.reduceMul, Nat.min_eq_left, Nat.reduceEqDiff, BEq.rfl, Int.tdiv_one, LN_succ]
          refine ⟨⟨(), rfl⟩, Cov.drop (by omega) ?_⟩
          simp only [SlotsIn, aqT, aqU, aqN, ↓seqK, ↓blkK, ↓loopK, step, stepBin, Nat.reduceBEq, Nat.reduceBeqDiff, Nat.add_assoc nid, Nat.reduceAdd, reduceCtorEq, ↓reduceIte, Nat.reduceLeDiff, Nat.reduceBneDiff, Option.toList, ← Int.ofNat_tmod, ← Int.ofNat_tdiv, Nat.reduceLT]
          try simp
      refine SR.run (t := .mk) ?_
      simp -dsimp only [aqT, aqU, aqN, ↓seqK, ↓blkK, ↓loopK, step, stepBin, Nat.reduceBEq, Nat.reduceBeqDiff, Nat.add_assoc nid, Nat.reduceAdd, reduceCtorEq, ↓reduceIte, Nat.reduceLeDiff, Nat.reduceBneDiff, Option.toList, ← Int.ofNat_tmod, ← Int.ofNat_tdiv, Nat.reduceLT, Int.cast_ofNat_Int, Int.reduceBEq, Int.reduceBNe, Int.reduceLT, Int.reduceLE, Int.reduceAdd, Int.reduceSub, Int.reduceMul, Int.reduceToNat, Int.reduceNeg, Int.reduceTMod, Int.reduceEq, not_false_eq_true, Int.reducePow, Int.reduceFDiv, Nat.reducePow, Nat.reduceSub, Nat.reduceMul, Nat.min_eq_left, Nat.reduceEqDiff, BEq.rfl, Int.tdiv_one, LN_succ]
      refine ⟨by unfold inI64; omega, k + 1, ⟨⟨by omega, hyes h6⟩, by omega⟩, Cov.go [] [] ?_⟩
      simp [cvT, step, res]
    · refine ⟨⟨(), keyC_all (fun j hj => hall j (by omega))⟩, Cov.drop (by omega) ?_⟩
      simp only [SlotsIn, aqT, aqU, aqN, ↓seqK, ↓blkK, ↓loopK, step, stepBin, Nat.reduceBEq, Nat.reduceBeqDiff, Nat.add_assoc nid, Nat.reduceAdd, reduceCtorEq, ↓reduceIte, Nat.reduceLeDiff, Nat.reduceBneDiff, Option.toList, ← Int.ofNat_tmod, ← Int.ofNat_tdiv, Nat.reduceLT]
      try simp
  · rw [h5]
    refine SR.run (t := .mk) ?_
    simp -dsimp only [aqT, aqU, aqN, ↓seqK, ↓blkK, ↓loopK, step, stepBin, Nat.reduceBEq, Nat.reduceBeqDiff, Nat.add_assoc nid, Nat.reduceAdd, reduceCtorEq, ↓reduceIte, Nat.reduceLeDiff, Nat.reduceBneDiff, Option.toList, ← Int.ofNat_tmod, ← Int.ofNat_tdiv, Nat.reduceLT, Int.cast_ofNat_Int, Int.reduceBEq, Int.reduceBNe, Int.reduceLT, Int.reduceLE, Int.reduceAdd, Int.reduceSub, Int.reduceMul, Int.reduceToNat, Int.reduceNeg, Int.reduceTMod, Int.reduceEq, not_false_eq_true, Int.reducePow, Int.reduceFDiv, Nat.reducePow, Nat.reduceSub, Nat.reduceMul, Nat.min_eq_left, Nat.reduceEqDiff, BEq.rfl, Int.tdiv_one, LN_succ]
    refine RetOK.pure (.inl rfl) rfl ?_
    simp [cvT, step, res]
end Go.Proofs.YtpifoghhaohhaaaGreatDoor
namespace Go.Proofs.YtpifoghhaohhaaaGreatDoor
open Go.RowKit Go.Shelf Go.Lib
theorem getD_lt {l : List (List UInt8)} {k : Nat} (hk : k < l.length) : l.getD k [] = l[k] := by rw [List.getD_eq_getElem?_getD, List.getElem?_eq_getElem hk]; rfl
def idxF (F : List UInt8 → Bool) (l : List (List UInt8)) : Int := if l.any F = true then ((l.findIdx F : Nat) : Int) else -1
theorem idxF_at {F : List UInt8 → Bool} {l : List (List UInt8)} {k : Nat} (hk : k < l.length) (h : F (l.getD k []) = true) (h0 : ∀ j, j < k → F (l.getD j []) = false) : idxF F l = (k : Nat) := by
  have e : l.findIdx F = k := (List.findIdx_eq hk).2 ⟨by rw [getD_lt hk] at h; exact h, fun j hj => by have := h0 j hj; rw [getD_lt (by omega)] at this; exact this⟩
  unfold idxF
  rw [if_pos, e]
  refine List.any_eq_true.2 ⟨l[k], List.getElem_mem hk, ?_⟩
  rw [getD_lt hk] at h; exact h
theorem idxF_no {F : List UInt8 → Bool} {l : List (List UInt8)} (h0 : ∀ j, j < l.length → F (l.getD j []) = false) : idxF F l = -1 := by
  unfold idxF
  rw [if_neg]
  intro h
  obtain ⟨x, hx, hf⟩ := List.any_eq_true.1 h
  obtain ⟨j, hj, rfl⟩ := List.getElem_of_mem hx
  have := h0 j hj
  rw [getD_lt hj, hf] at this; cases this
theorem indexM_c (f : Nat) (F : List UInt8 → Bool) (nl : Bool) (l : List (List UInt8)) (nid : Nat) (hl : l.length ≤ 1000000) (hs : ShortRows 1000000 l) (hf : ∀ x m, x.length ≤ 1000000 → ACall Tryz.prog f [.str x] [] m (.bool (F x)) []) :
    ACall Tryz.prog 151 [litS nl l, .fn f []] [] nid (.int .i64 (idxF F l)) [] := by
  refine acall_run c151 (by simp [a151]) ?_
  unfold litS
  simp -dsimp only [aqT, aqU, aqN, ↓seqK, ↓blkK, ↓loopK, step, stepBin, Nat.reduceBEq, Nat.reduceBeqDiff, Nat.add_assoc nid, Nat.reduceAdd, reduceCtorEq, ↓reduceIte, Nat.reduceLeDiff, Nat.reduceBneDiff, Option.toList, ← Int.ofNat_tmod, ← Int.ofNat_tdiv, Nat.reduceLT, Int.cast_ofNat_Int, Int.reduceBEq, Int.reduceBNe, Int.reduceLT, Int.reduceLE, Int.reduceAdd, Int.reduceSub, Int.reduceMul, Int.reduceToNat, Int.reduceNeg, Int.reduceTMod, Int.reduceEq, not_false_eq_true, Int.reducePow, Int.reduceFDiv, Nat.reducePow, Nat.reduceSub, Nat.reduceMul, Nat.min_eq_left, Nat.reduceEqDiff, BEq.rfl, Int.tdiv_one, LN_succ, a151]
  refine LP.mkP (fun k : Nat => k ≤ l.length ∧ ∀ j, j < k → F (l.getD j []) = false) (fun k : Nat => ⟨[(8, .int .i64 k), (7, .int .i64 l.length), (0, litS nl l), (1, .fn f [])], [], nid + 100, nid⟩) (fun k => l.length + 1 - k) 0 ⟨by omega, fun j hj => by omega⟩ (Cov.go [] [] ?_) (fun k hk => ?_)
  · simp [cvT, step, res, litS]
  obtain ⟨hk, hb⟩ := hk
  unfold litS
  simp -dsimp only [aqT, aqU, aqN, ↓seqK, ↓blkK, ↓loopK, step, stepBin, Nat.reduceBEq, Nat.reduceBeqDiff, Nat.add_assoc nid, Nat.reduceAdd, reduceCtorEq, ↓reduceIte, Nat.reduceLeDiff, Nat.reduceBneDiff, Option.toList, ← Int.ofNat_tmod, ← Int.ofNat_tdiv, Nat.reduceLT, Int.cast_ofNat_Int, Int.reduceBEq, Int.reduceBNe, Int.reduceLT, Int.reduceLE, Int.reduceAdd, Int.reduceSub, Int.reduceMul, Int.reduceToNat, Int.reduceNeg, Int.reduceTMod, Int.reduceEq, not_false_eq_true, Int.reducePow, Int.reduceFDiv, Nat.reducePow, Nat.reduceSub, Nat.reduceMul, Nat.min_eq_left, Nat.reduceEqDiff, BEq.rfl, Int.tdiv_one, LN_succ]
  refine S2.dec (fun h3 => ?_) (fun h3 => ?_) <;> simp -dsimp only [aqT, aqU, aqN, ↓seqK, ↓blkK, ↓loopK, step, stepBin, Nat.reduceBEq, Nat.reduceBeqDiff, Nat.add_assoc nid, Nat.reduceAdd, reduceCtorEq, ↓reduceIte, Nat.reduceLeDiff, Nat.reduceBneDiff, Option.toList, ← Int.ofNat_tmod, ← Int.ofNat_tdiv, Nat.reduceLT, Int.cast_ofNat_Int, Int.reduceBEq, Int.reduceBNe, Int.reduceLT, Int.reduceLE, Int.reduceAdd, Int.reduceSub, Int.reduceMul, Int.reduceToNat, Int.reduceNeg, Int.reduceTMod, Int.reduceEq, not_false_eq_true, Int.reducePow, Int.reduceFDiv, Nat.reducePow, Nat.reduceSub, Nat.reduceMul, Nat.min_eq_left, Nat.reduceEqDiff, BEq.rfl, Int.tdiv_one, LN_succ]
  · have hkl : k < l.length := by omega
    have hat := fun h => idxF_at (F := F) hkl h hb
    have hnx : F (l.getD k []) = false → ∀ j, j < k + 1 → F (l.getD j []) = false := fun h j hj => by
      by_cases e : j = k
      · rw [e]; exact h
      · exact hb j (by omega)
    have hx := hs.at k
    generalize l.getD k [] = x at *
    refine ⟨by omega, CallO.pure (hf x _ hx) ?_⟩
    simp -dsimp only [aqT, aqU, aqN, ↓seqK, ↓blkK, ↓loopK, step, stepBin, Nat.reduceBEq, Nat.reduceBeqDiff, Nat.add_assoc nid, Nat.reduceAdd, reduceCtorEq, ↓reduceIte, Nat.reduceLeDiff, Nat.reduceBneDiff, Option.toList, ← Int.ofNat_tmod, ← Int.ofNat_tdiv, Nat.reduceLT, Int.cast_ofNat_Int, Int.reduceBEq, Int.reduceBNe, Int.reduceLT, Int.reduceLE, Int.reduceAdd, Int.reduceSub, Int.reduceMul, Int.reduceToNat, Int.reduceNeg, Int.reduceTMod, Int.reduceEq, not_false_eq_true, Int.reducePow, Int.reduceFDiv, Nat.reducePow, Nat.reduceSub, Nat.reduceMul, Nat.min_eq_left, Nat.reduceEqDiff, BEq.rfl, Int.tdiv_one, LN_succ]
    cases hx : F x <;> simp -dsimp only [aqT, aqU, aqN, ↓seqK, ↓blkK, ↓loopK, step, stepBin, Nat.reduceBEq, Nat.reduceBeqDiff, Nat.add_assoc nid, Nat.reduceAdd, reduceCtorEq, ↓reduceIte, Nat.reduceLeDiff, Nat.reduceBneDiff, Option.toList, ← Int.ofNat_tmod, ← Int.ofNat_tdiv, Nat.reduceLT, Int.cast_ofNat_Int, Int.reduceBEq, Int.reduceBNe, Int.reduceLT, Int.reduceLE, Int.reduceAdd, Int.reduceSub, Int.reduceMul, Int.reduceToNat, Int.reduceNeg, Int.reduceTMod, Int.reduceEq, not_false_eq_true, Int.reducePow, Int.reduceFDiv, Nat.reducePow, Nat.reduceSub, Nat.reduceMul, Nat.min_eq_left, Nat.reduceEqDiff, BEq.rfl, Int.tdiv_one, LN_succ]
    · refine ⟨by unfold inI64; omega, k + 1, ⟨⟨by omega, hnx hx⟩, by omega⟩, Cov.go [] [] ?_⟩
      simp [cvT, step, res, litS]
    · rw [hat hx]
      refine RetOK.pure (.inl rfl) rfl ?_
      simp [cvT, step, res]
  · have hkn : k = l.length := by omega
    subst hkn
    rw [idxF_no hb]
    refine RetOK.pure (.inl rfl) rfl ?_
    simp [cvT, step, res]
theorem containsM_c (f : Nat) (F : List UInt8 → Bool) (nl : Bool) (l : List (List UInt8)) (nid : Nat) (hl : l.length ≤ 1000000) (hs : ShortRows 1000000 l) (hf : ∀ x m, x.length ≤ 1000000 → ACall Tryz.prog f [.str x] [] m (.bool (F x)) []) :
    ACall Tryz.prog 61 [litS nl l, .fn f []] [] nid (.bool (l.any F)) [] := by
  have e : decide (0 ≤ idxF F l) = l.any F := by
    unfold idxF
    cases h : l.any F <;> simp
  refine acall_run c61 (by simp [a61]) ?_
  simp -dsimp only [aqT, aqU, aqN, ↓seqK, ↓blkK, ↓loopK, step, stepBin, Nat.reduceBEq, Nat.reduceBeqDiff, Nat.add_assoc nid, Nat.reduceAdd, reduceCtorEq, ↓reduceIte, Nat.reduceLeDiff, Nat.reduceBneDiff, Option.toList, ← Int.ofNat_tmod, ← Int.ofNat_tdiv, Nat.reduceLT, Int.cast_ofNat_Int, Int.reduceBEq, Int.reduceBNe, Int.reduceLT, Int.reduceLE, Int.reduceAdd, Int.reduceSub, Int.reduceMul, Int.reduceToNat, Int.reduceNeg, Int.reduceTMod, Int.reduceEq, not_false_eq_true, Int.reducePow, Int.reduceFDiv, Nat.reducePow, Nat.reduceSub, Nat.reduceMul, Nat.min_eq_left, Nat.reduceEqDiff, BEq.rfl, Int.tdiv_one, LN_succ, a61]
  refine CallO.pure (indexM_c f F nl l _ hl hs hf) ?_
  simp -dsimp only [aqT, aqU, aqN, ↓seqK, ↓blkK, ↓loopK, step, stepBin, Nat.reduceBEq, Nat.reduceBeqDiff, Nat.add_assoc nid, Nat.reduceAdd, reduceCtorEq, ↓reduceIte, Nat.reduceLeDiff, Nat.reduceBneDiff, Option.toList, ← Int.ofNat_tmod, ← Int.ofNat_tdiv, Nat.reduceLT, Int.cast_ofNat_Int, Int.reduceBEq, Int.reduceBNe, Int.reduceLT, Int.reduceLE, Int.reduceAdd, Int.reduceSub, Int.reduceMul, Int.reduceToNat, Int.reduceNeg, Int.reduceTMod, Int.reduceEq, not_false_eq_true, Int.reducePow, Int.reduceFDiv, Nat.reducePow, Nat.reduceSub, Nat.reduceMul, Nat.min_eq_left, Nat.reduceEqDiff, BEq.rfl, Int.tdiv_one, LN_succ]
  rw [e]
  refine RetOK.pure (.inl rfl) rfl ?_
  simp [cvT, step, res]
def oddS (s : List UInt8) : Bool := !respB s
theorem oddR_c (s : List UInt8) (nid : Nat) (hs : s.length ≤ 1000000) : ACall Tryz.prog 86 [.str s] [] nid (.bool (oddS s)) [] := by
  refine acall_run c86 (by simp [a86]) ?_
  simp -dsimp only [aqT, aqU, aqN, ↓seqK, ↓blkK, ↓loopK, step, stepBin, Nat.reduceBEq, Nat.reduceBeqDiff, Nat.add_assoc nid, Nat.reduceAdd, reduceCtorEq, ↓reduceIte, Nat.reduceLeDiff, Nat.reduceBneDiff, Option.toList, ← Int.ofNat_tmod, ← Int.ofNat_tdiv, Nat.reduceLT, Int.cast_ofNat_Int, Int.reduceBEq, Int.reduceBNe, Int.reduceLT, Int.reduceLE, Int.reduceAdd, Int.reduceSub, Int.reduceMul, Int.reduceToNat, Int.reduceNeg, Int.reduceTMod, Int.reduceEq, not_false_eq_true, Int.reducePow, Int.reduceFDiv, Nat.reducePow, Nat.reduceSub, Nat.reduceMul, Nat.min_eq_left, Nat.reduceEqDiff, BEq.rfl, Int.tdiv_one, LN_succ, a86]
  refine CallO.pure (respR_c _ _) ?_
  simp -dsimp only [aqT, aqU, aqN, ↓seqK, ↓blkK, ↓loopK, step, stepBin, Nat.reduceBEq, Nat.reduceBeqDiff, Nat.add_assoc nid, Nat.reduceAdd, reduceCtorEq, ↓reduceIte, Nat.reduceLeDiff, Nat.reduceBneDiff, Option.toList, ← Int.ofNat_tmod, ← Int.ofNat_tdiv, Nat.reduceLT]
  refine RetOK.pure (.inl rfl) rfl ?_
  simp [cvT, step, res, oddS]
theorem oddD_c (s : List UInt8) (nid : Nat) (hs : s.length ≤ 1000000) : ACall Tryz.prog 152 [.str s] [] nid (.bool (oddS s)) [] := by
  refine acall_run c152 (by simp [a152]) ?_
  simp -dsimp only [aqT, aqU, aqN, ↓seqK, ↓blkK, ↓loopK, step, stepBin, Nat.reduceBEq, Nat.reduceBeqDiff, Nat.add_assoc nid, Nat.reduceAdd, reduceCtorEq, ↓reduceIte, Nat.reduceLeDiff, Nat.reduceBneDiff, Option.toList, ← Int.ofNat_tmod, ← Int.ofNat_tdiv, Nat.reduceLT, Int.cast_ofNat_Int, Int.reduceBEq, Int.reduceBNe, Int.reduceLT, Int.reduceLE, Int.reduceAdd, Int.reduceSub, Int.reduceMul, Int.reduceToNat, Int.reduceNeg, Int.reduceTMod, Int.reduceEq, not_false_eq_true, Int.reducePow, Int.reduceFDiv, Nat.reducePow, Nat.reduceSub, Nat.reduceMul, Nat.min_eq_left, Nat.reduceEqDiff, BEq.rfl, Int.tdiv_one, LN_succ, a152]
  refine CallO.pure (respD_c _ _ hs) ?_
  simp -dsimp only [aqT, aqU, aqN, ↓seqK, ↓blkK, ↓loopK, step, stepBin, Nat.reduceBEq, Nat.reduceBeqDiff, Nat.add_assoc nid, Nat.reduceAdd, reduceCtorEq, ↓reduceIte, Nat.reduceLeDiff, Nat.reduceBneDiff, Option.toList, ← Int.ofNat_tmod, ← Int.ofNat_tdiv, Nat.reduceLT]
  refine RetOK.pure (.inl rfl) rfl ?_
  simp [cvT, step, res, oddS]
def rowBad (n : Nat) (R : RowL) (k : Nat) : Int :=
  if keyB (rowF R k) = false then 5 else if (rowR R k).length ≠ n then 3 else if (rowR R k).any oddS = true then 9 else if 0 < k ∧ (Op.bytesLess (rowF R k) (rowF R (k - 1)) || rowF R k == rowF R (k - 1)) = true then 7 else 0
def dictV (G : List (List UInt8)) (R : RowL) : Int :=
  if G.length = 0 then 8 else if 100 < G.length ∨ 300 < R.length then 2 else if G.any oddS = true then 9 else firstBad (rowBad G.length R) (List.range R.length)
structure DictW (G : List (List UInt8)) (R : RowL) : Prop where
  gl : G.length ≤ 1000000
  gs : ShortRows 1000000 G
  rl : R.length ≤ 1000000
  rs : ∀ k, (rowF R k).length ≤ 1000000 ∧ (rowR R k).length ≤ 1000000 ∧ ShortRows 1000000 (rowR R k)
theorem firstR_hit {f : Nat → Int} {n k : Nat} (hk : k < n) (h0 : ∀ j, j < k → f j = 0) (h : f k ≠ 0) : firstBad f (List.range n) = f k := by
  have e : List.range n = List.range k ++ (List.range' k (n - k)) := by
    rw [List.range_eq_range', List.range_eq_range', show List.range' 0 n = List.range' 0 (k + (n - k)) by congr 1; omega, ← List.range'_append_1]
    simp
  rw [e, firstBad_append]
  · rw [show n - k = (n - k - 1) + 1 by omega, List.range'_succ]
    simp [firstBad, h]
  · have : ∀ l : List Nat, (∀ j ∈ l, f j = 0) → firstBad f l = 0 := fun l => by
      induction l with
      | nil => intro _; rfl
      | cons a l ih => intro hl; simp only [firstBad]; rw [if_pos (hl a (by simp))]; exact ih (fun j hj => hl j (by simp [hj]))
    exact this _ (fun j hj => h0 j (List.mem_range.1 hj))
theorem firstR_none {f : Nat → Int} {n : Nat} (h0 : ∀ j, j < n → f j = 0) : firstBad f (List.range n) = 0 := by
  have : ∀ l : List Nat, (∀ j ∈ l, f j = 0) → firstBad f l = 0 := fun l => by
    induction l with
    | nil => intro _; rfl
    | cons a l ih => intro hl; simp only [firstBad]; rw [if_pos (hl a (by simp))]; exact ih (fun j hj => hl j (by simp [hj]))
  exact this _ (fun j hj => h0 j (List.mem_range.1 hj))
theorem dictV_row {G : List (List UInt8)} {R : RowL} {k : Nat} {e : Int} (h1 : G.length ≠ 0) (h2 : ¬ (100 < G.length ∨ 300 < R.length)) (h3 : G.any oddS = false) (hk : k < R.length) (h0 : ∀ j, j < k → rowBad G.length R j = 0) (h : rowBad G.length R k = e) (he : e ≠ 0) : dictV G R = e := by
  unfold dictV
  rw [if_neg h1, if_neg h2, if_neg (by simp [h3]), firstR_hit hk h0 (by rw [h]; exact he), h]
theorem dictV_good {G : List (List UInt8)} {R : RowL} (h1 : G.length ≠ 0) (h2 : ¬ (100 < G.length ∨ 300 < R.length)) (h3 : G.any oddS = false) (h0 : ∀ j, j < R.length → rowBad G.length R j = 0) : dictV G R = 0 := by
  unfold dictV
  rw [if_neg h1, if_neg h2, if_neg (by simp [h3]), firstR_none h0]
end Go.Proofs.YtpifoghhaohhaaaGreatDoor
namespace Go.Proofs.YtpifoghhaohhaaaGreatDoor
open Go.RowKit Go.Shelf Go.Lib
def boxP2 (g0 r0 : Bool) (b : Nat → Bool) (G : List (List UInt8)) (R : RowL) : Option ABlk := some (.box 29 [.lit g0 G.length [.s fun k => G.getD k []], .lit r0 R.length [.s fun k => rowF R k, .l b (fun k => (rowR R k).length) (fun k => [.s fun j => (rowR R k).getD j []])]])
set_option maxHeartbeats 1000000 in
theorem dictR_c (g0 r0 : Bool) (b : Nat → Bool) (G : List (List UInt8)) (R : RowL) (nid : Nat) (hB : DictW G R) : ACall Tryz.prog 17 [dictP g0 r0 b G R] [] nid (.int .i64 (dictV G R)) [] := by
  have hgl := hB.gl
  have hrl := hB.rl
  refine acall_sr c17 (by simp [a17]) ?_
  unfold a17
  refine SR.seq ?_
  unfold dictP
  simp -dsimp only [aqT, aqU, aqN, ↓seqK, ↓blkK, ↓loopK, step, stepBin, Nat.reduceBEq, Nat.reduceBeqDiff, Nat.add_assoc nid, Nat.reduceAdd, reduceCtorEq, ↓reduceIte, Nat.reduceLeDiff, Nat.reduceBneDiff, Option.toList, ← Int.ofNat_tmod, ← Int.ofNat_tdiv, Nat.reduceLT, Int.cast_ofNat_Int, Int.reduceBEq, Int.reduceBNe, Int.reduceLT, Int.reduceLE, Int.reduceAdd, Int.reduceSub, Int.reduceMul, Int.reduceToNat, Int.reduceNeg, Int.reduceTMod, Int.reduceEq, not_false_eq_true, Int.reducePow, Int.reduceFDiv, Nat.reducePow, Nat.reduceSub, Nat.reduceMul, Nat.min_eq_left, Nat.reduceEqDiff, BEq.rfl, Int.tdiv_one, LN_succ]
  refine SR.seq ?_
  simp -dsimp only [aqT, aqU, aqN, ↓seqK, ↓blkK, ↓loopK, step, stepBin, Nat.reduceBEq, Nat.reduceBeqDiff, Nat.add_assoc nid, Nat.reduceAdd, reduceCtorEq, ↓reduceIte, Nat.reduceLeDiff, Nat.reduceBneDiff, Option.toList, ← Int.ofNat_tmod, ← Int.ofNat_tdiv, Nat.reduceLT, Int.cast_ofNat_Int, Int.reduceBEq, Int.reduceBNe, Int.reduceLT, Int.reduceLE, Int.reduceAdd, Int.reduceSub, Int.reduceMul, Int.reduceToNat, Int.reduceNeg, Int.reduceTMod, Int.reduceEq, not_false_eq_true, Int.reducePow, Int.reduceFDiv, Nat.reducePow, Nat.reduceSub, Nat.reduceMul, Nat.min_eq_left, Nat.reduceEqDiff, BEq.rfl, Int.tdiv_one, LN_succ]
  refine SR.seqW (ι := {_u : Unit // (G.length ≠ 0 ∧ ¬ (100 < G.length ∨ 300 < R.length)) ∧ G.any oddS = false}) (fun _ => ⟨[(3, .fn 86 []), (1, .ptr nid 0)], [(nid, boxP2 g0 r0 b G R)], nid + 100, nid⟩) ?_ (fun ⟨_, ⟨h1, h2⟩, h3⟩ => ?_)
  · refine SR.run (t := .mk) ?_
    simp -dsimp only [aqT, aqU, aqN, ↓seqK, ↓blkK, ↓loopK, step, stepBin, Nat.reduceBEq, Nat.reduceBeqDiff, Nat.add_assoc nid, Nat.reduceAdd, reduceCtorEq, ↓reduceIte, Nat.reduceLeDiff, Nat.reduceBneDiff, Option.toList, ← Int.ofNat_tmod, ← Int.ofNat_tdiv, Nat.reduceLT, Int.cast_ofNat_Int, Int.reduceBEq, Int.reduceBNe, Int.reduceLT, Int.reduceLE, Int.reduceAdd, Int.reduceSub, Int.reduceMul, Int.reduceToNat, Int.reduceNeg, Int.reduceTMod, Int.reduceEq, not_false_eq_true, Int.reducePow, Int.reduceFDiv, Nat.reducePow, Nat.reduceSub, Nat.reduceMul, Nat.min_eq_left, Nat.reduceEqDiff, BEq.rfl, Int.tdiv_one, LN_succ]
    refine S2.intro (fun h1 => ?_) (fun h1 => ?_) <;> simp -dsimp only [aqT, aqU, aqN, ↓seqK, ↓blkK, ↓loopK, step, stepBin, Nat.reduceBEq, Nat.reduceBeqDiff, Nat.add_assoc nid, Nat.reduceAdd, reduceCtorEq, ↓reduceIte, Nat.reduceLeDiff, Nat.reduceBneDiff, Option.toList, ← Int.ofNat_tmod, ← Int.ofNat_tdiv, Nat.reduceLT, Int.cast_ofNat_Int, Int.reduceBEq, Int.reduceBNe, Int.reduceLT, Int.reduceLE, Int.reduceAdd, Int.reduceSub, Int.reduceMul, Int.reduceToNat, Int.reduceNeg, Int.reduceTMod, Int.reduceEq, not_false_eq_true, Int.reducePow, Int.reduceFDiv, Nat.reducePow, Nat.reduceSub, Nat.reduceMul, Nat.min_eq_left, Nat.reduceEqDiff, BEq.rfl, Int.tdiv_one, LN_succ]
    · have e : dictV G R = 8 := by unfold dictV; rw [if_pos (by simp at h1; exact congrArg List.length h1)]
      rw [e]
      refine RetOK.pure (.inl rfl) rfl ?_
      simp [cvT, step, res]
    have h1' : G.length ≠ 0 := by simp at h1; exact fun e => h1 (List.eq_nil_of_length_eq_zero e)
    refine S2.dec (fun h2 => ?_) (fun h2 => ?_) <;> simp -dsimp only [aqT, aqU, aqN, ↓seqK, ↓blkK, ↓loopK, step, stepBin, Nat.reduceBEq, Nat.reduceBeqDiff, Nat.add_assoc nid, Nat.reduceAdd, reduceCtorEq, ↓reduceIte, Nat.reduceLeDiff, Nat.reduceBneDiff, Option.toList, ← Int.ofNat_tmod, ← Int.ofNat_tdiv, Nat.reduceLT, Int.cast_ofNat_Int, Int.reduceBEq, Int.reduceBNe, Int.reduceLT, Int.reduceLE, Int.reduceAdd, Int.reduceSub, Int.reduceMul, Int.reduceToNat, Int.reduceNeg, Int.reduceTMod, Int.reduceEq, not_false_eq_true, Int.reducePow, Int.reduceFDiv, Nat.reducePow, Nat.reduceSub, Nat.reduceMul, Nat.min_eq_left, Nat.reduceEqDiff, BEq.rfl, Int.tdiv_one, LN_succ]
    · have e : dictV G R = 2 := by unfold dictV; rw [if_neg h1', if_pos (.inl (by omega))]
      rw [e]
      refine RetOK.pure (.inl rfl) rfl ?_
      simp [cvT, step, res]
    refine S2.dec (fun h4 => ?_) (fun h4 => ?_) <;> simp -dsimp only [aqT, aqU, aqN, ↓seqK, ↓blkK, ↓loopK, step, stepBin, Nat.reduceBEq, Nat.reduceBeqDiff, Nat.add_assoc nid, Nat.reduceAdd, reduceCtorEq, ↓reduceIte, Nat.reduceLeDiff, Nat.reduceBneDiff, Option.toList, ← Int.ofNat_tmod, ← Int.ofNat_tdiv, Nat.reduceLT, Int.cast_ofNat_Int, Int.reduceBEq, Int.reduceBNe, Int.reduceLT, Int.reduceLE, Int.reduceAdd, Int.reduceSub, Int.reduceMul, Int.reduceToNat, Int.reduceNeg, Int.reduceTMod, Int.reduceEq, not_false_eq_true, Int.reducePow, Int.reduceFDiv, Nat.reducePow, Nat.reduceSub, Nat.reduceMul, Nat.min_eq_left, Nat.reduceEqDiff, BEq.rfl, Int.tdiv_one, LN_succ]
    · have e : dictV G R = 2 := by unfold dictV; rw [if_neg h1', if_pos (.inr (by omega))]
      rw [e]
      refine RetOK.pure (.inl rfl) rfl ?_
      simp [cvT, step, res]
    have h2' : ¬ (100 < G.length ∨ 300 < R.length) := by omega
    refine CallO.pure (containsM_c 86 oddS g0 G _ hB.gl hB.gs (fun x m hx => oddR_c x m hx)) ?_
    simp -dsimp only [aqT, aqU, aqN, ↓seqK, ↓blkK, ↓loopK, step, stepBin, Nat.reduceBEq, Nat.reduceBeqDiff, Nat.add_assoc nid, Nat.reduceAdd, reduceCtorEq, ↓reduceIte, Nat.reduceLeDiff, Nat.reduceBneDiff, Option.toList, ← Int.ofNat_tmod, ← Int.ofNat_tdiv, Nat.reduceLT, Int.cast_ofNat_Int, Int.reduceBEq, Int.reduceBNe, Int.reduceLT, Int.reduceLE, Int.reduceAdd, Int.reduceSub, Int.reduceMul, Int.reduceToNat, Int.reduceNeg, Int.reduceTMod, Int.reduceEq, not_false_eq_true, Int.reducePow, Int.reduceFDiv, Nat.reducePow, Nat.reduceSub, Nat.reduceMul, Nat.min_eq_left, Nat.reduceEqDiff, BEq.rfl, Int.tdiv_one, LN_succ]
    refine S2.intro (fun h5 => ?_) (fun h5 => ?_) <;> simp -dsimp only [aqT, aqU, aqN, ↓seqK, ↓blkK, ↓loopK, step, stepBin, Nat.reduceBEq, Nat.reduceBeqDiff, Nat.add_assoc nid, Nat.reduceAdd, reduceCtorEq, ↓reduceIte, Nat.reduceLeDiff, Nat.reduceBneDiff, Option.toList, ← Int.ofNat_tmod, ← Int.ofNat_tdiv, Nat.reduceLT, Int.cast_ofNat_Int, Int.reduceBEq, Int.reduceBNe, Int.reduceLT, Int.reduceLE, Int.reduceAdd, Int.reduceSub, Int.reduceMul, Int.reduceToNat, Int.reduceNeg, Int.reduceTMod, Int.reduceEq, not_false_eq_true, Int.reducePow, Int.reduceFDiv, Nat.reducePow, Nat.reduceSub, Nat.reduceMul, Nat.min_eq_left, Nat.reduceEqDiff, BEq.rfl, Int.tdiv_one, LN_succ]
    · have e : dictV G R = 9 := by unfold dictV; rw [if_neg h1', if_neg h2', if_pos h5]
      rw [e]
      refine RetOK.pure (.inl rfl) rfl ?_
      simp [cvT, step, res]
    refine ⟨⟨(), ⟨h1', h2'⟩, h5⟩, Cov.go [] [] ?_⟩
    simp [cvT, step, res, boxP2]
  refine SR.seqW (ι := {_u : Unit // ∀ j, j < R.length → rowBad G.length R j = 0}) (fun _ => ⟨[], [], nid + 2000, nid⟩) ?_ (fun ⟨_, h5⟩ => ?_)
  · unfold boxP2
    refine SR.seqTo ⟨[(30, .int .i64 0), (29, .int .i64 R.length), (28, .lit r0 R.length [.s fun k => rowF R k, .l b (fun k => (rowR R k).length) (fun k => [.s fun j => (rowR R k).getD j []])]), (3, .fn 86 []), (1, .ptr nid 0)], [(nid, boxP2 g0 r0 b G R)], nid + 200, nid⟩ ?_ ?_
    · simp -dsimp only [aqT, aqU, aqN, ↓seqK, ↓blkK, ↓loopK, step, stepBin, Nat.reduceBEq, Nat.reduceBeqDiff, Nat.add_assoc nid, Nat.reduceAdd, reduceCtorEq, ↓reduceIte, Nat.reduceLeDiff, Nat.reduceBneDiff, Option.toList, ← Int.ofNat_tmod, ← Int.ofNat_tdiv, Nat.reduceLT, Int.cast_ofNat_Int, Int.reduceBEq, Int.reduceBNe, Int.reduceLT, Int.reduceLE, Int.reduceAdd, Int.reduceSub, Int.reduceMul, Int.reduceToNat, Int.reduceNeg, Int.reduceTMod, Int.reduceEq, not_false_eq_true, Int.reducePow, Int.reduceFDiv, Nat.reducePow, Nat.reduceSub, Nat.reduceMul, Nat.min_eq_left, Nat.reduceEqDiff, BEq.rfl, Int.tdiv_one, LN_succ]
      refine Cov.go [] [] ?_
      simp [cvT, step, res, boxP2, -List.getD_eq_getElem?_getD]
    refine SR.block ?_
    refine SR.loopP (fun k : Nat => k ≤ R.length ∧ ∀ j, j < k → rowBad G.length R j = 0) (fun k : Nat => ⟨[(30, .int .i64 k), (29, .int .i64 R.length), (28, .lit r0 R.length [.s fun k => rowF R k, .l b (fun k => (rowR R k).length) (fun k => [.s fun j => (rowR R k).getD j []])]), (3, .fn 86 []), (1, .ptr nid 0)], [(nid, boxP2 g0 r0 b G R)], nid + 200, nid⟩) (fun k => R.length + 1 - k) 0 ⟨by omega, fun j hj => by omega⟩ (Cov.drop (by omega) ?_) (fun k hk => ?_)
    · simp only [SlotsIn, aqT, aqU, aqN, ↓seqK, ↓blkK, ↓loopK, step, stepBin, Nat.reduceBEq, Nat.reduceBeqDiff, Nat.add_assoc nid, Nat.reduceAdd, reduceCtorEq, ↓reduceIte, Nat.reduceLeDiff, Nat.reduceBneDiff, Option.toList, ← Int.ofNat_tmod, ← Int.ofNat_tdiv, Nat.reduceLT]
      try simp
    obtain ⟨hk, hall⟩ := hk
    refine SR.seq ?_
    simp -dsimp only [aqT, aqU, aqN, ↓seqK, ↓blkK, ↓loopK, step, stepBin, Nat.reduceBEq, Nat.reduceBeqDiff, Nat.add_assoc nid, Nat.reduceAdd, reduceCtorEq, ↓reduceIte, Nat.reduceLeDiff, Nat.reduceBneDiff, Option.toList, ← Int.ofNat_tmod, ← Int.ofNat_tdiv, Nat.reduceLT, Int.cast_ofNat_Int, Int.reduceBEq, Int.reduceBNe, Int.reduceLT, Int.reduceLE, Int.reduceAdd, Int.reduceSub, Int.reduceMul, Int.reduceToNat, Int.reduceNeg, Int.reduceTMod, Int.reduceEq, not_false_eq_true, Int.reducePow, Int.reduceFDiv, Nat.reducePow, Nat.reduceSub, Nat.reduceMul, Nat.min_eq_left, Nat.reduceEqDiff, BEq.rfl, Int.tdiv_one, LN_succ]
    refine SR.seq ?_
    simp -dsimp only [aqT, aqU, aqN, ↓seqK, ↓blkK, ↓loopK, step, stepBin, Nat.reduceBEq, Nat.reduceBeqDiff, Nat.add_assoc nid, Nat.reduceAdd, reduceCtorEq, ↓reduceIte, Nat.reduceLeDiff, Nat.reduceBneDiff, Option.toList, ← Int.ofNat_tmod, ← Int.ofNat_tdiv, Nat.reduceLT, Int.cast_ofNat_Int, Int.reduceBEq, Int.reduceBNe, Int.reduceLT, Int.reduceLE, Int.reduceAdd, Int.reduceSub, Int.reduceMul, Int.reduceToNat, Int.reduceNeg, Int.reduceTMod, Int.reduceEq, not_false_eq_true, Int.reducePow, Int.reduceFDiv, Nat.reducePow, Nat.reduceSub, Nat.reduceMul, Nat.min_eq_left, Nat.reduceEqDiff, BEq.rfl, Int.tdiv_one, LN_succ]
    refine S2.dec (fun h4 => ?_) (fun h4 => ?_) <;> simp -dsimp only [aqT, aqU, aqN, ↓seqK, ↓blkK, ↓loopK, step, stepBin, Nat.reduceBEq, Nat.reduceBeqDiff, Nat.add_assoc nid, Nat.reduceAdd, reduceCtorEq, ↓reduceIte, Nat.reduceLeDiff, Nat.reduceBneDiff, Option.toList, ← Int.ofNat_tmod, ← Int.ofNat_tdiv, Nat.reduceLT, Int.cast_ofNat_Int, Int.reduceBEq, Int.reduceBNe, Int.reduceLT, Int.reduceLE, Int.reduceAdd, Int.reduceSub, Int.reduceMul, Int.reduceToNat, Int.reduceNeg, Int.reduceTMod, Int.reduceEq, not_false_eq_true, Int.reducePow, Int.reduceFDiv, Nat.reducePow, Nat.reduceSub, Nat.reduceMul, Nat.min_eq_left, Nat.reduceEqDiff, BEq.rfl, Int.tdiv_one, LN_succ]
    · have hkl : k < R.length := by omega
      have hbad := fun e => dictV_row (e := e) h1 h2 h3 hkl hall
      obtain ⟨hf1, hr1, hs1⟩ := hB.rs k
      refine SR.seqW (ι := {_u : Unit // rowBad G.length R k = 0}) (fun _ => ⟨[(30, .int .i64 k), (29, .int .i64 R.length), (28, .lit r0 R.length [.s fun k => rowF R k, .l b (fun k => (rowR R k).length) (fun k => [.s fun j => (rowR R k).getD j []])]), (3, .fn 86 []), (1, .ptr nid 0)], [(nid, boxP2 g0 r0 b G R)], nid + 900, nid⟩) ?_ (fun ⟨_, h6⟩ => ?_)
      · refine SR.block ?_
        refine SR.seqTo ⟨[(5, .ptr (nid + 300) 0), (4, .int .i64 k), (30, .int .i64 k), (29, .int .i64 R.length), (28, .lit r0 R.length [.s fun k => rowF R k, .l b (fun k => (rowR R k).length) (fun k => [.s fun j => (rowR R k).getD j []])]), (3, .fn 86 []), (1, .ptr nid 0)], [(nid + 300, some (.box 67 [.str (rowF R k), .lit (b k) (rowR R k).length [.s fun j => (rowR R k).getD j []]])), (nid, boxP2 g0 r0 b G R)], nid + 400, nid⟩ ?_ ?_
        · simp -dsimp only [aqT, aqU, aqN, ↓seqK, ↓blkK, ↓loopK, step, stepBin, Nat.reduceBEq, Nat.reduceBeqDiff, Nat.add_assoc nid, Nat.reduceAdd, reduceCtorEq, ↓reduceIte, Nat.reduceLeDiff, Nat.reduceBneDiff, Option.toList, ← Int.ofNat_tmod, ← Int.ofNat_tdiv, Nat.reduceLT, Int.cast_ofNat_Int, Int.reduceBEq, Int.reduceBNe, Int.reduceLT, Int.reduceLE, Int.reduceAdd, Int.reduceSub, Int.reduceMul, Int.reduceToNat, Int.reduceNeg, Int.reduceTMod, Int.reduceEq, not_false_eq_true, Int.reducePow, Int.reduceFDiv, Nat.reducePow, Nat.reduceSub, Nat.reduceMul, Nat.min_eq_left, Nat.reduceEqDiff, BEq.rfl, Int.tdiv_one, LN_succ]
          refine ⟨by omega, Cov.go [(nid + 300, nid + 216)] [] ?_⟩
          simp [cvT, step, res, boxP2, -List.getD_eq_getElem?_getD]
        refine SR.block ?_
        refine SR.seq ?_
        simp -dsimp only [aqT, aqU, aqN, ↓seqK, ↓blkK, ↓loopK, step, stepBin, Nat.reduceBEq, Nat.reduceBeqDiff, Nat.add_assoc nid, Nat.reduceAdd, reduceCtorEq, ↓reduceIte, Nat.reduceLeDiff, Nat.reduceBneDiff, Option.toList, ← Int.ofNat_tmod, ← Int.ofNat_tdiv, Nat.reduceLT, Int.cast_ofNat_Int, Int.reduceBEq, Int.reduceBNe, Int.reduceLT, Int.reduceLE, Int.reduceAdd, Int.reduceSub, Int.reduceMul, Int.reduceToNat, Int.reduceNeg, Int.reduceTMod, Int.reduceEq, not_false_eq_true, Int.reducePow, Int.reduceFDiv, Nat.reducePow, Nat.reduceSub, Nat.reduceMul, Nat.min_eq_left, Nat.reduceEqDiff, BEq.rfl, Int.tdiv_one, LN_succ]
        refine CallO.pure (keyR_c _ _) ?_
        simp -dsimp only [aqT, aqU, aqN, ↓seqK, ↓blkK, ↓loopK, step, stepBin, Nat.reduceBEq, Nat.reduceBeqDiff, Nat.add_assoc nid, Nat.reduceAdd, reduceCtorEq, ↓reduceIte, Nat.reduceLeDiff, Nat.reduceBneDiff, Option.toList, ← Int.ofNat_tmod, ← Int.ofNat_tdiv, Nat.reduceLT, Int.cast_ofNat_Int, Int.reduceBEq, Int.reduceBNe, Int.reduceLT, Int.reduceLE, Int.reduceAdd, Int.reduceSub, Int.reduceMul, Int.reduceToNat, Int.reduceNeg, Int.reduceTMod, Int.reduceEq, not_false_eq_true, Int.reducePow, Int.reduceFDiv, Nat.reducePow, Nat.reduceSub, Nat.reduceMul, Nat.min_eq_left, Nat.reduceEqDiff, BEq.rfl, Int.tdiv_one, LN_succ]
        refine SR.cond (b := !keyB (rowF R k)) (by simp [AX.val, getS]) (fun h => ?_) (fun h => ?_)
        · have hk : keyB (rowF R k) = false := by simpa using h
          rw [hbad 5 (by unfold rowBad; rw [if_pos hk]) (by decide)]
          refine SR.run (t := .mk) ?_
          simp -dsimp only [aqT, aqU, aqN, ↓seqK, ↓blkK, ↓loopK, step, stepBin, Nat.reduceBEq, Nat.reduceBeqDiff, Nat.add_assoc nid, Nat.reduceAdd, reduceCtorEq, ↓reduceIte, Nat.reduceLeDiff, Nat.reduceBneDiff, Option.toList, ← Int.ofNat_tmod, ← Int.ofNat_tdiv, Nat.reduceLT, Int.cast_ofNat_Int, Int.reduceBEq, Int.reduceBNe, Int.reduceLT, Int.reduceLE, Int.reduceAdd, Int.reduceSub, Int.reduceMul, Int.reduceToNat, Int.reduceNeg, Int.reduceTMod, Int.reduceEq, not_false_eq_true, Int.reducePow, Int.reduceFDiv, Nat.reducePow, Nat.reduceSub, Nat.reduceMul, Nat.min_eq_left, Nat.reduceEqDiff, BEq.rfl, Int.tdiv_one, LN_succ]
          refine RetOK.pure (.inl rfl) rfl ?_
          simp [cvT, step, res]
        have hk1 : ¬ keyB (rowF R k) = false := by simpa using h
        unfold boxP2
        refine SR.seq ?_
        simp -dsimp only [aqT, aqU, aqN, ↓seqK, ↓blkK, ↓loopK, step, stepBin, Nat.reduceBEq, Nat.reduceBeqDiff, Nat.add_assoc nid, Nat.reduceAdd, reduceCtorEq, ↓reduceIte, Nat.reduceLeDiff, Nat.reduceBneDiff, Option.toList, ← Int.ofNat_tmod, ← Int.ofNat_tdiv, Nat.reduceLT, Int.cast_ofNat_Int, Int.reduceBEq, Int.reduceBNe, Int.reduceLT, Int.reduceLE, Int.reduceAdd, Int.reduceSub, Int.reduceMul, Int.reduceToNat, Int.reduceNeg, Int.reduceTMod, Int.reduceEq, not_false_eq_true, Int.reducePow, Int.reduceFDiv, Nat.reducePow, Nat.reduceSub, Nat.reduceMul, Nat.min_eq_left, Nat.reduceEqDiff, BEq.rfl, Int.tdiv_one, LN_succ]
        refine SR.cond (b := (((rowR R k).length : Nat) : Int) != (G.length : Nat)) (by simp [AX.val, getS]) (fun h => ?_) (fun h => ?_)
        · have hk : (rowR R k).length ≠ G.length := fun e => by rw [e] at h; simp at h
          rw [hbad 3 (by unfold rowBad; rw [if_neg hk1, if_pos hk]) (by decide)]
          refine SR.run (t := .mk) ?_
          simp -dsimp only [aqT, aqU, aqN, ↓seqK, ↓blkK, ↓loopK, step, stepBin, Nat.reduceBEq, Nat.reduceBeqDiff, Nat.add_assoc nid, Nat.reduceAdd, reduceCtorEq, ↓reduceIte, Nat.reduceLeDiff, Nat.reduceBneDiff, Option.toList, ← Int.ofNat_tmod, ← Int.ofNat_tdiv, Nat.reduceLT, Int.cast_ofNat_Int, Int.reduceBEq, Int.reduceBNe, Int.reduceLT, Int.reduceLE, Int.reduceAdd, Int.reduceSub, Int.reduceMul, Int.reduceToNat, Int.reduceNeg, Int.reduceTMod, Int.reduceEq, not_false_eq_true, Int.reducePow, Int.reduceFDiv, Nat.reducePow, Nat.reduceSub, Nat.reduceMul, Nat.min_eq_left, Nat.reduceEqDiff, BEq.rfl, Int.tdiv_one, LN_succ]
          refine RetOK.pure (.inl rfl) rfl ?_
          simp [cvT, step, res]
        have hk2 : ¬ (rowR R k).length ≠ G.length := by
          have : (((rowR R k).length : Nat) : Int) = (G.length : Nat) := by simpa only [bne_eq_false_iff_eq] using h
          omega
        refine SR.seq ?_
        simp -dsimp only [aqT, aqU, aqN, ↓seqK, ↓blkK, ↓loopK, step, stepBin, Nat.reduceBEq, Nat.reduceBeqDiff, Nat.add_assoc nid, Nat.reduceAdd, reduceCtorEq, ↓reduceIte, Nat.reduceLeDiff, Nat.reduceBneDiff, Option.toList, ← Int.ofNat_tmod, ← Int.ofNat_tdiv, Nat.reduceLT, Int.cast_ofNat_Int, Int.reduceBEq, Int.reduceBNe, Int.reduceLT, Int.reduceLE, Int.reduceAdd, Int.reduceSub, Int.reduceMul, Int.reduceToNat, Int.reduceNeg, Int.reduceTMod, Int.reduceEq, not_false_eq_true, Int.reducePow, Int.reduceFDiv, Nat.reducePow, Nat.reduceSub, Nat.reduceMul, Nat.min_eq_left, Nat.reduceEqDiff, BEq.rfl, Int.tdiv_one, LN_succ]
        refine CallO.pure (containsM_c 86 oddS (b k) (rowR R k) _ hr1 hs1 (fun x m hx => oddR_c x m hx)) ?_
        simp -dsimp only [aqT, aqU, aqN, ↓seqK, ↓blkK, ↓loopK, step, stepBin, Nat.reduceBEq, Nat.reduceBeqDiff, Nat.add_assoc nid, Nat.reduceAdd, reduceCtorEq, ↓reduceIte, Nat.reduceLeDiff, Nat.reduceBneDiff, Option.toList, ← Int.ofNat_tmod, ← Int.ofNat_tdiv, Nat.reduceLT, Int.cast_ofNat_Int, Int.reduceBEq, Int.reduceBNe, Int.reduceLT, Int.reduceLE, Int.reduceAdd, Int.reduceSub, Int.reduceMul, Int.reduceToNat, Int.reduceNeg, Int.reduceTMod, Int.reduceEq, not_false_eq_true, Int.reducePow, Int.reduceFDiv, Nat.reducePow, Nat.reduceSub, Nat.reduceMul, Nat.min_eq_left, Nat.reduceEqDiff, BEq.rfl, Int.tdiv_one, LN_succ]
        refine SR.cond (b := (rowR R k).any oddS) (by simp [AX.val, getS]) (fun h => ?_) (fun h => ?_)
        · rw [hbad 9 (by unfold rowBad; rw [if_neg hk1, if_neg hk2, if_pos h]) (by decide)]
          refine SR.run (t := .mk) ?_
          simp -dsimp only [aqT, aqU, aqN, ↓seqK, ↓blkK, ↓loopK, step, stepBin, Nat.reduceBEq, Nat.reduceBeqDiff, Nat.add_assoc nid, Nat.reduceAdd, reduceCtorEq, ↓reduceIte, Nat.reduceLeDiff, Nat.reduceBneDiff, Option.toList, ← Int.ofNat_tmod, ← Int.ofNat_tdiv, Nat.reduceLT, Int.cast_ofNat_Int, Int.reduceBEq, Int.reduceBNe, Int.reduceLT, Int.reduceLE, Int.reduceAdd, Int.reduceSub, Int.reduceMul, Int.reduceToNat, Int.reduceNeg, Int.reduceTMod, Int.reduceEq, not_false_eq_true, Int.reducePow, Int.reduceFDiv, Nat.reducePow, Nat.reduceSub, Nat.reduceMul, Nat.min_eq_left, Nat.reduceEqDiff, BEq.rfl, Int.tdiv_one, LN_succ]
          refine RetOK.pure (.inl rfl) rfl ?_
          simp [cvT, step, res]
        have hk3 : ¬ (rowR R k).any oddS = true := by simp [h]
        refine SR.seqTo ⟨[(53, .bool (decide ((0 : Int) < k) && (Op.bytesLess (rowF R k) (rowF R (k - 1)) || rowF R k == rowF R (k - 1)))), (30, .int .i64 k), (29, .int .i64 R.length), (28, .lit r0 R.length [.s fun k => rowF R k, .l b (fun k => (rowR R k).length) (fun k => [.s fun j => (rowR R k).getD j []])]), (3, .fn 86 []), (1, .ptr nid 0)], [(nid, boxP2 g0 r0 b G R)], nid + 700, nid⟩ ?_ ?_
        · simp -dsimp only [aqT, aqU, aqN, ↓seqK, ↓blkK, ↓loopK, step, stepBin, Nat.reduceBEq, Nat.reduceBeqDiff, Nat.add_assoc nid, Nat.reduceAdd, reduceCtorEq, ↓reduceIte, Nat.reduceLeDiff, Nat.reduceBneDiff, Option.toList, ← Int.ofNat_tmod, ← Int.ofNat_tdiv, Nat.reduceLT, Int.cast_ofNat_Int, Int.reduceBEq, Int.reduceBNe, Int.reduceLT, Int.reduceLE, Int.reduceAdd, Int.reduceSub, Int.reduceMul, Int.reduceToNat, Int.reduceNeg, Int.reduceTMod, Int.reduceEq, not_false_eq_true, Int.reducePow, Int.reduceFDiv, Nat.reducePow, Nat.reduceSub, Nat.reduceMul, Nat.min_eq_left, Nat.reduceEqDiff, BEq.rfl, Int.tdiv_one, LN_succ]
          refine S2.dec (fun h0 => ?_) (fun h0 => ?_) <;> simp -dsimp only [aqT, aqU, aqN, ↓seqK, ↓blkK, ↓loopK, step, stepBin, Nat.reduceBEq, Nat.reduceBeqDiff, Nat.add_assoc nid, Nat.reduceAdd, reduceCtorEq, ↓reduceIte, Nat.reduceLeDiff, Nat.reduceBneDiff, Option.toList, ← Int.ofNat_tmod, ← Int.ofNat_tdiv, Nat.reduceLT, Int.cast_ofNat_Int, Int.reduceBEq, Int.reduceBNe, Int.reduceLT, Int.reduceLE, Int.reduceAdd, Int.reduceSub, Int.reduceMul, Int.reduceToNat, Int.reduceNeg, Int.reduceTMod, Int.reduceEq, not_false_eq_true, Int.reducePow, Int.reduceFDiv, Nat.reducePow, Nat.reduceSub, Nat.reduceMul, Nat.min_eq_left, Nat.reduceEqDiff, BEq.rfl, Int.tdiv_one, LN_succ]
          · have e : ((k : Int) - 1).toNat = k - 1 := by omega
            rw [e]
            refine ⟨by unfold inI64; omega, by omega, Cov.go [] [] ?_⟩
            simp [cvT, step, res, boxP2, decide_eq_true h0, -List.getD_eq_getElem?_getD]
            try omega
          · refine Cov.go [] [] ?_
            simp [cvT, step, res, boxP2, decide_eq_false h0, -List.getD_eq_getElem?_getD]
            try omega
        refine SR.cond (b := decide ((0 : Int) < k) && (Op.bytesLess (rowF R k) (rowF R (k - 1)) || rowF R k == rowF R (k - 1))) (by simp [AX.val, getS]) (fun h => ?_) (fun h => ?_)
        · simp only [Bool.and_eq_true, decide_eq_true_eq] at h
          rw [hbad 7 (by unfold rowBad; rw [if_neg hk1, if_neg hk2, if_neg hk3, if_pos ⟨by omega, h.2⟩]) (by decide)]
          refine SR.run (t := .mk) ?_
          simp -dsimp only [aqT, aqU, aqN, ↓seqK, ↓blkK, ↓loopK, step, stepBin, Nat.reduceBEq, Nat.reduceBeqDiff, Nat.add_assoc nid, Nat.reduceAdd, reduceCtorEq, ↓reduceIte, Nat.reduceLeDiff, Nat.reduceBneDiff, Option.toList, ← Int.ofNat_tmod, ← Int.ofNat_tdiv, Nat.reduceLT, Int.cast_ofNat_Int, Int.reduceBEq, Int.reduceBNe, Int.reduceLT, Int.reduceLE, Int.reduceAdd, Int.reduceSub, Int.reduceMul, Int.reduceToNat, Int.reduceNeg, Int.reduceTMod, Int.reduceEq, not_false_eq_true, Int.reducePow, Int.reduceFDiv, Nat.reducePow, Nat.reduceSub, Nat.reduceMul, Nat.min_eq_left, Nat.reduceEqDiff, BEq.rfl, Int.tdiv_one, LN_succ]
          refine RetOK.pure (.inl rfl) rfl ?_
          simp [cvT, step, res]
        have hk4 : ¬ (0 < k ∧ (Op.bytesLess (rowF R k) (rowF R (k - 1)) || rowF R k == rowF R (k - 1)) = true) := fun ⟨e1, e2⟩ => by
          rw [e2, decide_eq_true (by omega)] at h
          simp at h
        refine SR.run (t := .mk) ?_
        simp -dsimp only [aqT, aqU, aqN, ↓seqK, ↓blkK, ↓loopK, step, stepBin, Nat.reduceBEq, Nat.reduceBeqDiff, Nat.add_assoc nid, Nat.reduceAdd, reduceCtorEq, ↓reduceIte, Nat.reduceLeDiff, Nat.reduceBneDiff, Option.toList, ← Int.ofNat_tmod, ← Int.ofNat_tdiv, Nat.reduceLT, Int.cast_ofNat_Int, Int.reduceBEq, Int.reduceBNe, Int.reduceLT, Int.reduceLE, Int.reduceAdd, Int.reduceSub, Int.reduceMul, Int.reduceToNat, Int.reduceNeg, Int.reduceTMod, Int.reduceEq, not_false_eq_true, Int.reducePow, Int.reduceFDiv, Nat.reducePow, Nat.reduceSub, Nat.reduceMul, Nat.min_eq_left, Nat.reduceEqDiff, BEq.rfl, Int.tdiv_one, LN_succ]
        refine ⟨⟨(), by unfold rowBad; rw [if_neg hk1, if_neg hk2, if_neg hk3, if_neg hk4]⟩, Cov.go [] [] ?_⟩
        simp [cvT, step, res, boxP2, -List.getD_eq_getElem?_getD]
      refine SR.run (t := .mk) ?_
      simp -dsimp only [aqT, aqU, aqN, ↓seqK, ↓blkK, ↓loopK, step, stepBin, Nat.reduceBEq, Nat.reduceBeqDiff, Nat.add_assoc nid, Nat.reduceAdd, reduceCtorEq, ↓reduceIte, Nat.reduceLeDiff, Nat.reduceBneDiff, Option.toList, ← Int.ofNat_tmod, ← Int.ofNat_tdiv, Nat.reduceLT, Int.cast_ofNat_Int, Int.reduceBEq, Int.reduceBNe, Int.reduceLT, Int.reduceLE, Int.reduceAdd, Int.reduceSub, Int.reduceMul, Int.reduceToNat, Int.reduceNeg, Int.reduceTMod, Int.reduceEq, not_false_eq_true, Int.reducePow, Int.reduceFDiv, Nat.reducePow, Nat.reduceSub, Nat.reduceMul, Nat.min_eq_left, Nat.reduceEqDiff, BEq.rfl, Int.tdiv_one, LN_succ]
      refine ⟨by unfold inI64; omega, k + 1, ⟨⟨by omega, fun j hj => ?_⟩, by omega⟩, Cov.go [] [] ?_⟩
      · rcases (by omega : j < k ∨ j = k) with hj | hj
        · exact hall j hj
        · rw [hj]; exact h6
      simp [cvT, step, res, boxP2, -List.getD_eq_getElem?_getD]
    · refine ⟨⟨(), fun j hj => hall j (by omega)⟩, Cov.go [] [] ?_⟩
      simp [cvT, step, res, boxP2, -List.getD_eq_getElem?_getD]
  · rw [dictV_good h1 h2 h3 h5]
    refine SR.run (t := .mk) ?_
    simp -dsimp only [aqT, aqU, aqN, ↓seqK, ↓blkK, ↓loopK, step, stepBin, Nat.reduceBEq, Nat.reduceBeqDiff, Nat.add_assoc nid, Nat.reduceAdd, reduceCtorEq, ↓reduceIte, Nat.reduceLeDiff, Nat.reduceBneDiff, Option.toList, ← Int.ofNat_tmod, ← Int.ofNat_tdiv, Nat.reduceLT, Int.cast_ofNat_Int, Int.reduceBEq, Int.reduceBNe, Int.reduceLT, Int.reduceLE, Int.reduceAdd, Int.reduceSub, Int.reduceMul, Int.reduceToNat, Int.reduceNeg, Int.reduceTMod, Int.reduceEq, not_false_eq_true, Int.reducePow, Int.reduceFDiv, Nat.reducePow, Nat.reduceSub, Nat.reduceMul, Nat.min_eq_left, Nat.reduceEqDiff, BEq.rfl, Int.tdiv_one, LN_succ]
    refine RetOK.pure (.inl rfl) rfl ?_
    simp [cvT, step, res]
set_option maxHeartbeats 1000000 in
theorem dictD_c (g0 r0 : Bool) (b : Nat → Bool) (G : List (List UInt8)) (R : RowL) (nid : Nat) (hB : DictW G R) : ACall Tryz.prog 63 [dictP g0 r0 b G R] [] nid (.int .i64 (dictV G R)) [] := by
  have hgl := hB.gl
  have hrl := hB.rl
  refine acall_sr c63 (by simp [a63]) ?_
  unfold a63
  refine SR.seq ?_
  unfold dictP
  simp -dsimp only [aqT, aqU, aqN, ↓seqK, ↓blkK, ↓loopK, step, stepBin, Nat.reduceBEq, Nat.reduceBeqDiff, Nat.add_assoc nid, Nat.reduceAdd, reduceCtorEq, ↓reduceIte, Nat.reduceLeDiff, Nat.reduceBneDiff, Option.toList, ← Int.ofNat_tmod, ← Int.ofNat_tdiv, Nat.reduceLT, Int.cast_ofNat_Int, Int.reduceBEq, Int.reduceBNe, Int.reduceLT, Int.reduceLE, Int.reduceAdd, Int.reduceSub, Int.reduceMul, Int.reduceToNat, Int.reduceNeg, Int.reduceTMod, Int.reduceEq, not_false_eq_true, Int.reducePow, Int.reduceFDiv, Nat.reducePow, Nat.reduceSub, Nat.reduceMul, Nat.min_eq_left, Nat.reduceEqDiff, BEq.rfl, Int.tdiv_one, LN_succ]
  refine SR.seqW (ι := {_u : Unit // G.length ≠ 0 ∧ ¬ (100 < G.length ∨ 300 < R.length)}) (fun _ => ⟨[(1, .ptr nid 0)], [(nid, boxP2 g0 r0 b G R)], nid + 100, nid⟩) ?_ (fun ⟨_, h1, h2⟩ => ?_)
  · refine SR.run (t := .mk) ?_
    simp -dsimp only [aqT, aqU, aqN, ↓seqK, ↓blkK, ↓loopK, step, stepBin, Nat.reduceBEq, Nat.reduceBeqDiff, Nat.add_assoc nid, Nat.reduceAdd, reduceCtorEq, ↓reduceIte, Nat.reduceLeDiff, Nat.reduceBneDiff, Option.toList, ← Int.ofNat_tmod, ← Int.ofNat_tdiv, Nat.reduceLT, Int.cast_ofNat_Int, Int.reduceBEq, Int.reduceBNe, Int.reduceLT, Int.reduceLE, Int.reduceAdd, Int.reduceSub, Int.reduceMul, Int.reduceToNat, Int.reduceNeg, Int.reduceTMod, Int.reduceEq, not_false_eq_true, Int.reducePow, Int.reduceFDiv, Nat.reducePow, Nat.reduceSub, Nat.reduceMul, Nat.min_eq_left, Nat.reduceEqDiff, BEq.rfl, Int.tdiv_one, LN_succ]
    refine S2.intro (fun h1 => ?_) (fun h1 => ?_) <;> simp -dsimp only [aqT, aqU, aqN, ↓seqK, ↓blkK, ↓loopK, step, stepBin, Nat.reduceBEq, Nat.reduceBeqDiff, Nat.add_assoc nid, Nat.reduceAdd, reduceCtorEq, ↓reduceIte, Nat.reduceLeDiff, Nat.reduceBneDiff, Option.toList, ← Int.ofNat_tmod, ← Int.ofNat_tdiv, Nat.reduceLT, Int.cast_ofNat_Int, Int.reduceBEq, Int.reduceBNe, Int.reduceLT, Int.reduceLE, Int.reduceAdd, Int.reduceSub, Int.reduceMul, Int.reduceToNat, Int.reduceNeg, Int.reduceTMod, Int.reduceEq, not_false_eq_true, Int.reducePow, Int.reduceFDiv, Nat.reducePow, Nat.reduceSub, Nat.reduceMul, Nat.min_eq_left, Nat.reduceEqDiff, BEq.rfl, Int.tdiv_one, LN_succ]
    · have e : dictV G R = 8 := by unfold dictV; rw [if_pos (by simp at h1; exact congrArg List.length h1)]
      rw [e]
      refine RetOK.pure (.inl rfl) rfl ?_
      simp [cvT, step, res]
    have h1' : G.length ≠ 0 := by simp at h1; exact fun e => h1 (List.eq_nil_of_length_eq_zero e)
    refine S2.dec (fun h2 => ?_) (fun h2 => ?_) <;> simp -dsimp only [aqT, aqU, aqN, ↓seqK, ↓blkK, ↓loopK, step, stepBin, Nat.reduceBEq, Nat.reduceBeqDiff, Nat.add_assoc nid, Nat.reduceAdd, reduceCtorEq, ↓reduceIte, Nat.reduceLeDiff, Nat.reduceBneDiff, Option.toList, ← Int.ofNat_tmod, ← Int.ofNat_tdiv, Nat.reduceLT, Int.cast_ofNat_Int, Int.reduceBEq, Int.reduceBNe, Int.reduceLT, Int.reduceLE, Int.reduceAdd, Int.reduceSub, Int.reduceMul, Int.reduceToNat, Int.reduceNeg, Int.reduceTMod, Int.reduceEq, not_false_eq_true, Int.reducePow, Int.reduceFDiv, Nat.reducePow, Nat.reduceSub, Nat.reduceMul, Nat.min_eq_left, Nat.reduceEqDiff, BEq.rfl, Int.tdiv_one, LN_succ]
    · have e : dictV G R = 2 := by unfold dictV; rw [if_neg h1', if_pos (.inl (by omega))]
      rw [e]
      refine RetOK.pure (.inl rfl) rfl ?_
      simp [cvT, step, res]
    refine S2.dec (fun h4 => ?_) (fun h4 => ?_) <;> simp -dsimp only [aqT, aqU, aqN, ↓seqK, ↓blkK, ↓loopK, step, stepBin, Nat.reduceBEq, Nat.reduceBeqDiff, Nat.add_assoc nid, Nat.reduceAdd, reduceCtorEq, ↓reduceIte, Nat.reduceLeDiff, Nat.reduceBneDiff, Option.toList, ← Int.ofNat_tmod, ← Int.ofNat_tdiv, Nat.reduceLT, Int.cast_ofNat_Int, Int.reduceBEq, Int.reduceBNe, Int.reduceLT, Int.reduceLE, Int.reduceAdd, Int.reduceSub, Int.reduceMul, Int.reduceToNat, Int.reduceNeg, Int.reduceTMod, Int.reduceEq, not_false_eq_true, Int.reducePow, Int.reduceFDiv, Nat.reducePow, Nat.reduceSub, Nat.reduceMul, Nat.min_eq_left, Nat.reduceEqDiff, BEq.rfl, Int.tdiv_one, LN_succ]
    · have e : dictV G R = 2 := by unfold dictV; rw [if_neg h1', if_pos (.inr (by omega))]
      rw [e]
      refine RetOK.pure (.inl rfl) rfl ?_
      simp [cvT, step, res]
    have h2' : ¬ (100 < G.length ∨ 300 < R.length) := by omega
    refine ⟨⟨(), h1', h2'⟩, Cov.go [] [] ?_⟩
    simp [cvT, step, res, boxP2]
  refine SR.seq ?_
  simp -dsimp only [aqT, aqU, aqN, ↓seqK, ↓blkK, ↓loopK, step, stepBin, Nat.reduceBEq, Nat.reduceBeqDiff, Nat.add_assoc nid, Nat.reduceAdd, reduceCtorEq, ↓reduceIte, Nat.reduceLeDiff, Nat.reduceBneDiff, Option.toList, ← Int.ofNat_tmod, ← Int.ofNat_tdiv, Nat.reduceLT, Int.cast_ofNat_Int, Int.reduceBEq, Int.reduceBNe, Int.reduceLT, Int.reduceLE, Int.reduceAdd, Int.reduceSub, Int.reduceMul, Int.reduceToNat, Int.reduceNeg, Int.reduceTMod, Int.reduceEq, not_false_eq_true, Int.reducePow, Int.reduceFDiv, Nat.reducePow, Nat.reduceSub, Nat.reduceMul, Nat.min_eq_left, Nat.reduceEqDiff, BEq.rfl, Int.tdiv_one, LN_succ]
  refine SR.seqW (ι := {_u : Unit // G.any oddS = false}) (fun _ => ⟨[(3, .fn 152 []), (1, .ptr nid 0)], [(nid, boxP2 g0 r0 b G R)], nid + 150, nid⟩) ?_ (fun ⟨_, h3⟩ => ?_)
  · unfold boxP2
    refine SR.run (t := .mk) ?_
    simp -dsimp only [aqT, aqU, aqN, ↓seqK, ↓blkK, ↓loopK, step, stepBin, Nat.reduceBEq, Nat.reduceBeqDiff, Nat.add_assoc nid, Nat.reduceAdd, reduceCtorEq, ↓reduceIte, Nat.reduceLeDiff, Nat.reduceBneDiff, Option.toList, ← Int.ofNat_tmod, ← Int.ofNat_tdiv, Nat.reduceLT, Int.cast_ofNat_Int, Int.reduceBEq, Int.reduceBNe, Int.reduceLT, Int.reduceLE, Int.reduceAdd, Int.reduceSub, Int.reduceMul, Int.reduceToNat, Int.reduceNeg, Int.reduceTMod, Int.reduceEq, not_false_eq_true, Int.reducePow, Int.reduceFDiv, Nat.reducePow, Nat.reduceSub, Nat.reduceMul, Nat.min_eq_left, Nat.reduceEqDiff, BEq.rfl, Int.tdiv_one, LN_succ]
    refine CallO.pure (containsM_c 152 oddS g0 G _ hB.gl hB.gs (fun x m hx => oddD_c x m hx)) ?_
    simp -dsimp only [aqT, aqU, aqN, ↓seqK, ↓blkK, ↓loopK, step, stepBin, Nat.reduceBEq, Nat.reduceBeqDiff, Nat.add_assoc nid, Nat.reduceAdd, reduceCtorEq, ↓reduceIte, Nat.reduceLeDiff, Nat.reduceBneDiff, Option.toList, ← Int.ofNat_tmod, ← Int.ofNat_tdiv, Nat.reduceLT, Int.cast_ofNat_Int, Int.reduceBEq, Int.reduceBNe, Int.reduceLT, Int.reduceLE, Int.reduceAdd, Int.reduceSub, Int.reduceMul, Int.reduceToNat, Int.reduceNeg, Int.reduceTMod, Int.reduceEq, not_false_eq_true, Int.reducePow, Int.reduceFDiv, Nat.reducePow, Nat.reduceSub, Nat.reduceMul, Nat.min_eq_left, Nat.reduceEqDiff, BEq.rfl, Int.tdiv_one, LN_succ]
    refine S2.intro (fun h5 => ?_) (fun h5 => ?_) <;> simp -dsimp only [aqT, aqU, aqN, ↓seqK, ↓blkK, ↓loopK, step, stepBin, Nat.reduceBEq, Nat.reduceBeqDiff, Nat.add_assoc nid, Nat.reduceAdd, reduceCtorEq, ↓reduceIte, Nat.reduceLeDiff, Nat.reduceBneDiff, Option.toList, ← Int.ofNat_tmod, ← Int.ofNat_tdiv, Nat.reduceLT, Int.cast_ofNat_Int, Int.reduceBEq, Int.reduceBNe, Int.reduceLT, Int.reduceLE, Int.reduceAdd, Int.reduceSub, Int.reduceMul, Int.reduceToNat, Int.reduceNeg, Int.reduceTMod, Int.reduceEq, not_false_eq_true, Int.reducePow, Int.reduceFDiv, Nat.reducePow, Nat.reduceSub, Nat.reduceMul, Nat.min_eq_left, Nat.reduceEqDiff, BEq.rfl, Int.tdiv_one, LN_succ]
    · have e : dictV G R = 9 := by unfold dictV; rw [if_neg h1, if_neg h2, if_pos h5]
      rw [e]
      refine RetOK.pure (.inl rfl) rfl ?_
      simp [cvT, step, res]
    refine ⟨⟨(), h5⟩, Cov.go [] [] ?_⟩
    simp [cvT, step, res, boxP2]
  refine SR.seqW (ι := {_u : Unit // ∀ j, j < R.length → rowBad G.length R j = 0}) (fun _ => ⟨[], [], nid + 2000, nid⟩) ?_ (fun ⟨_, h5⟩ => ?_)
  · unfold boxP2
    refine SR.seqTo ⟨[(29, .int .i64 0), (28, .int .i64 R.length), (27, .lit r0 R.length [.s fun k => rowF R k, .l b (fun k => (rowR R k).length) (fun k => [.s fun j => (rowR R k).getD j []])]), (3, .fn 152 []), (1, .ptr nid 0)], [(nid, boxP2 g0 r0 b G R)], nid + 200, nid⟩ ?_ ?_
    · simp -dsimp only [aqT, aqU, aqN, ↓seqK, ↓blkK, ↓loopK, step, stepBin, Nat.reduceBEq, Nat.reduceBeqDiff, Nat.add_assoc nid, Nat.reduceAdd, reduceCtorEq, ↓reduceIte, Nat.reduceLeDiff, Nat.reduceBneDiff, Option.toList, ← Int.ofNat_tmod, ← Int.ofNat_tdiv, Nat.reduceLT, Int.cast_ofNat_Int, Int.reduceBEq, Int.reduceBNe, Int.reduceLT, Int.reduceLE, Int.reduceAdd, Int.reduceSub, Int.reduceMul, Int.reduceToNat, Int.reduceNeg, Int.reduceTMod, Int.reduceEq, not_false_eq_true, Int.reducePow, Int.reduceFDiv, Nat.reducePow, Nat.reduceSub, Nat.reduceMul, Nat.min_eq_left, Nat.reduceEqDiff, BEq.rfl, Int.tdiv_one, LN_succ]
      refine Cov.go [] [] ?_
      simp [cvT, step, res, boxP2, -List.getD_eq_getElem?_getD]
    refine SR.block ?_
    refine SR.loopP (fun k : Nat => k ≤ R.length ∧ ∀ j, j < k → rowBad G.length R j = 0) (fun k : Nat => ⟨[(29, .int .i64 k), (28, .int .i64 R.length), (27, .lit r0 R.length [.s fun k => rowF R k, .l b (fun k => (rowR R k).length) (fun k => [.s fun j => (rowR R k).getD j []])]), (3, .fn 152 []), (1, .ptr nid 0)], [(nid, boxP2 g0 r0 b G R)], nid + 200, nid⟩) (fun k => R.length + 1 - k) 0 ⟨by omega, fun j hj => by omega⟩ (Cov.drop (by omega) ?_) (fun k hk => ?_)
    · simp only [SlotsIn, aqT, aqU, aqN, ↓seqK, ↓blkK, ↓loopK, step, stepBin, Nat.reduceBEq, Nat.reduceBeqDiff, Nat.add_assoc nid, Nat.reduceAdd, reduceCtorEq, ↓reduceIte, Nat.reduceLeDiff, Nat.reduceBneDiff, Option.toList, ← Int.ofNat_tmod, ← Int.ofNat_tdiv, Nat.reduceLT]
      try simp
    obtain ⟨hk, hall⟩ := hk
    refine SR.seq ?_
    simp -dsimp only [aqT, aqU, aqN, ↓seqK, ↓blkK, ↓loopK, step, stepBin, Nat.reduceBEq, Nat.reduceBeqDiff, Nat.add_assoc nid, Nat.reduceAdd, reduceCtorEq, ↓reduceIte, Nat.reduceLeDiff, Nat.reduceBneDiff, Option.toList, ← Int.ofNat_tmod, ← Int.ofNat_tdiv, Nat.reduceLT, Int.cast_ofNat_Int, Int.reduceBEq, Int.reduceBNe, Int.reduceLT, Int.reduceLE, Int.reduceAdd, Int.reduceSub, Int.reduceMul, Int.reduceToNat, Int.reduceNeg, Int.reduceTMod, Int.reduceEq, not_false_eq_true, Int.reducePow, Int.reduceFDiv, Nat.reducePow, Nat.reduceSub, Nat.reduceMul, Nat.min_eq_left, Nat.reduceEqDiff, BEq.rfl, Int.tdiv_one, LN_succ]
    refine SR.seq ?_
    simp -dsimp only [aqT, aqU, aqN, ↓seqK, ↓blkK, ↓loopK, step, stepBin, Nat.reduceBEq, Nat.reduceBeqDiff, Nat.add_assoc nid, Nat.reduceAdd, reduceCtorEq, ↓reduceIte, Nat.reduceLeDiff, Nat.reduceBneDiff, Option.toList, ← Int.ofNat_tmod, ← Int.ofNat_tdiv, Nat.reduceLT, Int.cast_ofNat_Int, Int.reduceBEq, Int.reduceBNe, Int.reduceLT, Int.reduceLE, Int.reduceAdd, Int.reduceSub, Int.reduceMul, Int.reduceToNat, Int.reduceNeg, Int.reduceTMod, Int.reduceEq, not_false_eq_true, Int.reducePow, Int.reduceFDiv, Nat.reducePow, Nat.reduceSub, Nat.reduceMul, Nat.min_eq_left, Nat.reduceEqDiff, BEq.rfl, Int.tdiv_one, LN_succ]
    refine S2.dec (fun h4 => ?_) (fun h4 => ?_) <;> simp -dsimp only [aqT, aqU, aqN, ↓seqK, ↓blkK, ↓loopK, step, stepBin, Nat.reduceBEq, Nat.reduceBeqDiff, Nat.add_assoc nid, Nat.reduceAdd, reduceCtorEq, ↓reduceIte, Nat.reduceLeDiff, Nat.reduceBneDiff, Option.toList, ← Int.ofNat_tmod, ← Int.ofNat_tdiv, Nat.reduceLT, Int.cast_ofNat_Int, Int.reduceBEq, Int.reduceBNe, Int.reduceLT, Int.reduceLE, Int.reduceAdd, Int.reduceSub, Int.reduceMul, Int.reduceToNat, Int.reduceNeg, Int.reduceTMod, Int.reduceEq, not_false_eq_true, Int.reducePow, Int.reduceFDiv, Nat.reducePow, Nat.reduceSub, Nat.reduceMul, Nat.min_eq_left, Nat.reduceEqDiff, BEq.rfl, Int.tdiv_one, LN_succ]
    · have hkl : k < R.length := by omega
      have hbad := fun e => dictV_row (e := e) h1 h2 h3 hkl hall
      obtain ⟨hf1, hr1, hs1⟩ := hB.rs k
      refine SR.seqW (ι := {_u : Unit // rowBad G.length R k = 0}) (fun _ => ⟨[(29, .int .i64 k), (28, .int .i64 R.length), (27, .lit r0 R.length [.s fun k => rowF R k, .l b (fun k => (rowR R k).length) (fun k => [.s fun j => (rowR R k).getD j []])]), (3, .fn 152 []), (1, .ptr nid 0)], [(nid, boxP2 g0 r0 b G R)], nid + 900, nid⟩) ?_ (fun ⟨_, h6⟩ => ?_)
      · refine SR.block ?_
        refine SR.seqTo ⟨[(5, .ptr (nid + 300) 0), (4, .int .i64 k), (29, .int .i64 k), (28, .int .i64 R.length), (27, .lit r0 R.length [.s fun k => rowF R k, .l b (fun k => (rowR R k).length) (fun k => [.s fun j => (rowR R k).getD j []])]), (3, .fn 152 []), (1, .ptr nid 0)], [(nid + 300, some (.box 67 [.str (rowF R k), .lit (b k) (rowR R k).length [.s fun j => (rowR R k).getD j []]])), (nid, boxP2 g0 r0 b G R)], nid + 400, nid⟩ ?_ ?_
        · simp -dsimp only [aqT, aqU, aqN, ↓seqK, ↓blkK, ↓loopK, step, stepBin, Nat.reduceBEq, Nat.reduceBeqDiff, Nat.add_assoc nid, Nat.reduceAdd, reduceCtorEq, ↓reduceIte, Nat.reduceLeDiff, Nat.reduceBneDiff, Option.toList, ← Int.ofNat_tmod, ← Int.ofNat_tdiv, Nat.reduceLT, Int.cast_ofNat_Int, Int.reduceBEq, Int.reduceBNe, Int.reduceLT, Int.reduceLE, Int.reduceAdd, Int.reduceSub, Int.reduceMul, Int.reduceToNat, Int.reduceNeg, Int.reduceTMod, Int.reduceEq, not_false_eq_true, Int.reducePow, Int.reduceFDiv, Nat.reducePow, Nat.reduceSub, Nat.reduceMul, Nat.min_eq_left, Nat.reduceEqDiff, BEq.rfl, Int.tdiv_one, LN_succ]
          refine ⟨by omega, Cov.go [(nid + 300, nid + 216)] [] ?_⟩
          simp [cvT, step, res, boxP2, -List.getD_eq_getElem?_getD]
        refine SR.block ?_
        refine SR.seq ?_
        simp -dsimp only [aqT, aqU, aqN, ↓seqK, ↓blkK, ↓loopK, step, stepBin, Nat.reduceBEq, Nat.reduceBeqDiff, Nat.add_assoc nid, Nat.reduceAdd, reduceCtorEq, ↓reduceIte, Nat.reduceLeDiff, Nat.reduceBneDiff, Option.toList, ← Int.ofNat_tmod, ← Int.ofNat_tdiv, Nat.reduceLT, Int.cast_ofNat_Int, Int.reduceBEq, Int.reduceBNe, Int.reduceLT, Int.reduceLE, Int.reduceAdd, Int.reduceSub, Int.reduceMul, Int.reduceToNat, Int.reduceNeg, Int.reduceTMod, Int.reduceEq, not_false_eq_true, Int.reducePow, Int.reduceFDiv, Nat.reducePow, Nat.reduceSub, Nat.reduceMul, Nat.min_eq_left, Nat.reduceEqDiff, BEq.rfl, Int.tdiv_one, LN_succ]
        refine CallO.pure (keyD_c _ _ hf1) ?_
        simp -dsimp only [aqT, aqU, aqN, ↓seqK, ↓blkK, ↓loopK, step, stepBin, Nat.reduceBEq, Nat.reduceBeqDiff, Nat.add_assoc nid, Nat.reduceAdd, reduceCtorEq, ↓reduceIte, Nat.reduceLeDiff, Nat.reduceBneDiff, Option.toList, ← Int.ofNat_tmod, ← Int.ofNat_tdiv, Nat.reduceLT, Int.cast_ofNat_Int, Int.reduceBEq, Int.reduceBNe, Int.reduceLT, Int.reduceLE, Int.reduceAdd, Int.reduceSub, Int.reduceMul, Int.reduceToNat, Int.reduceNeg, Int.reduceTMod, Int.reduceEq, not_false_eq_true, Int.reducePow, Int.reduceFDiv, Nat.reducePow, Nat.reduceSub, Nat.reduceMul, Nat.min_eq_left, Nat.reduceEqDiff, BEq.rfl, Int.tdiv_one, LN_succ]
        refine SR.cond (b := !keyB (rowF R k)) (by simp [AX.val, getS]) (fun h => ?_) (fun h => ?_)
        · have hk : keyB (rowF R k) = false := by simpa using h
          rw [hbad 5 (by unfold rowBad; rw [if_pos hk]) (by decide)]
          refine SR.run (t := .mk) ?_
          simp -dsimp only [aqT, aqU, aqN, ↓seqK, ↓blkK, ↓loopK, step, stepBin, Nat.reduceBEq, Nat.reduceBeqDiff, Nat.add_assoc nid, Nat.reduceAdd, reduceCtorEq, ↓reduceIte, Nat.reduceLeDiff, Nat.reduceBneDiff, Option.toList, ← Int.ofNat_tmod, ← Int.ofNat_tdiv, Nat.reduceLT, Int.cast_ofNat_Int, Int.reduceBEq, Int.reduceBNe, Int.reduceLT, Int.reduceLE, Int.reduceAdd, Int.reduceSub, Int.reduceMul, Int.reduceToNat, Int.reduceNeg, Int.reduceTMod, Int.reduceEq, not_false_eq_true, Int.reducePow, Int.reduceFDiv, Nat.reducePow, Nat.reduceSub, Nat.reduceMul, Nat.min_eq_left, Nat.reduceEqDiff, BEq.rfl, Int.tdiv_one, LN_succ]
          refine RetOK.pure (.inl rfl) rfl ?_
          simp [cvT, step, res]
        have hk1 : ¬ keyB (rowF R k) = false := by simpa using h
        unfold boxP2
        refine SR.seq ?_
        simp -dsimp only [aqT, aqU, aqN, ↓seqK, ↓blkK, ↓loopK, step, stepBin, Nat.reduceBEq, Nat.reduceBeqDiff, Nat.add_assoc nid, Nat.reduceAdd, reduceCtorEq, ↓reduceIte, Nat.reduceLeDiff, Nat.reduceBneDiff, Option.toList, ← Int.ofNat_tmod, ← Int.ofNat_tdiv, Nat.reduceLT, Int.cast_ofNat_Int, Int.reduceBEq, Int.reduceBNe, Int.reduceLT, Int.reduceLE, Int.reduceAdd, Int.reduceSub, Int.reduceMul, Int.reduceToNat, Int.reduceNeg, Int.reduceTMod, Int.reduceEq, not_false_eq_true, Int.reducePow, Int.reduceFDiv, Nat.reducePow, Nat.reduceSub, Nat.reduceMul, Nat.min_eq_left, Nat.reduceEqDiff, BEq.rfl, Int.tdiv_one, LN_succ]
        refine SR.cond (b := (((rowR R k).length : Nat) : Int) != (G.length : Nat)) (by simp [AX.val, getS]) (fun h => ?_) (fun h => ?_)
        · have hk : (rowR R k).length ≠ G.length := fun e => by rw [e] at h; simp at h
          rw [hbad 3 (by unfold rowBad; rw [if_neg hk1, if_pos hk]) (by decide)]
          refine SR.run (t := .mk) ?_
          simp -dsimp only [aqT, aqU, aqN, ↓seqK, ↓blkK, ↓loopK, step, stepBin, Nat.reduceBEq, Nat.reduceBeqDiff, Nat.add_assoc nid, Nat.reduceAdd, reduceCtorEq, ↓reduceIte, Nat.reduceLeDiff, Nat.reduceBneDiff, Option.toList, ← Int.ofNat_tmod, ← Int.ofNat_tdiv, Nat.reduceLT, Int.cast_ofNat_Int, Int.reduceBEq, Int.reduceBNe, Int.reduceLT, Int.reduceLE, Int.reduceAdd, Int.reduceSub, Int.reduceMul, Int.reduceToNat, Int.reduceNeg, Int.reduceTMod, Int.reduceEq, not_false_eq_true, Int.reducePow, Int.reduceFDiv, Nat.reducePow, Nat.reduceSub, Nat.reduceMul, Nat.min_eq_left, Nat.reduceEqDiff, BEq.rfl, Int.tdiv_one, LN_succ]
          refine RetOK.pure (.inl rfl) rfl ?_
          simp [cvT, step, res]
        have hk2 : ¬ (rowR R k).length ≠ G.length := by
          have : (((rowR R k).length : Nat) : Int) = (G.length : Nat) := by simpa only [bne_eq_false_iff_eq] using h
          omega
        refine SR.seq ?_
        simp -dsimp only [aqT, aqU, aqN, ↓seqK, ↓blkK, ↓loopK, step, stepBin, Nat.reduceBEq, Nat.reduceBeqDiff, Nat.add_assoc nid, Nat.reduceAdd, reduceCtorEq, ↓reduceIte, Nat.reduceLeDiff, Nat.reduceBneDiff, Option.toList, ← Int.ofNat_tmod, ← Int.ofNat_tdiv, Nat.reduceLT, Int.cast_ofNat_Int, Int.reduceBEq, Int.reduceBNe, Int.reduceLT, Int.reduceLE, Int.reduceAdd, Int.reduceSub, Int.reduceMul, Int.reduceToNat, Int.reduceNeg, Int.reduceTMod, Int.reduceEq, not_false_eq_true, Int.reducePow, Int.reduceFDiv, Nat.reducePow, Nat.reduceSub, Nat.reduceMul, Nat.min_eq_left, Nat.reduceEqDiff, BEq.rfl, Int.tdiv_one, LN_succ]
        refine CallO.pure (containsM_c 152 oddS (b k) (rowR R k) _ hr1 hs1 (fun x m hx => oddD_c x m hx)) ?_
        simp -dsimp only [aqT, aqU, aqN, ↓seqK, ↓blkK, ↓loopK, step, stepBin, Nat.reduceBEq, Nat.reduceBeqDiff, Nat.add_assoc nid, Nat.reduceAdd, reduceCtorEq, ↓reduceIte, Nat.reduceLeDiff, Nat.reduceBneDiff, Option.toList, ← Int.ofNat_tmod, ← Int.ofNat_tdiv, Nat.reduceLT, Int.cast_ofNat_Int, Int.reduceBEq, Int.reduceBNe, Int.reduceLT, Int.reduceLE, Int.reduceAdd, Int.reduceSub, Int.reduceMul, Int.reduceToNat, Int.reduceNeg, Int.reduceTMod, Int.reduceEq, not_false_eq_true, Int.reducePow, Int.reduceFDiv, Nat.reducePow, Nat.reduceSub, Nat.reduceMul, Nat.min_eq_left, Nat.reduceEqDiff, BEq.rfl, Int.tdiv_one, LN_succ]
        refine SR.cond (b := (rowR R k).any oddS) (by simp [AX.val, getS]) (fun h => ?_) (fun h => ?_)
        · rw [hbad 9 (by unfold rowBad; rw [if_neg hk1, if_neg hk2, if_pos h]) (by decide)]
          refine SR.run (t := .mk) ?_
          simp -dsimp only [aqT, aqU, aqN, ↓seqK, ↓blkK, ↓loopK, step, stepBin, Nat.reduceBEq, Nat.reduceBeqDiff, Nat.add_assoc nid, Nat.reduceAdd, reduceCtorEq, ↓reduceIte, Nat.reduceLeDiff, Nat.reduceBneDiff, Option.toList, ← Int.ofNat_tmod, ← Int.ofNat_tdiv, Nat.reduceLT, Int.cast_ofNat_Int, Int.reduceBEq, Int.reduceBNe, Int.reduceLT, Int.reduceLE, Int.reduceAdd, Int.reduceSub, Int.reduceMul, Int.reduceToNat, Int.reduceNeg, Int.reduceTMod, Int.reduceEq, not_false_eq_true, Int.reducePow, Int.reduceFDiv, Nat.reducePow, Nat.reduceSub, Nat.reduceMul, Nat.min_eq_left, Nat.reduceEqDiff, BEq.rfl, Int.tdiv_one, LN_succ]
          refine RetOK.pure (.inl rfl) rfl ?_
          simp [cvT, step, res]
        have hk3 : ¬ (rowR R k).any oddS = true := by simp [h]
        refine SR.seqTo ⟨[(52, .bool (decide ((0 : Int) < k) && (Op.bytesLess (rowF R k) (rowF R (k - 1)) || rowF R k == rowF R (k - 1)))), (29, .int .i64 k), (28, .int .i64 R.length), (27, .lit r0 R.length [.s fun k => rowF R k, .l b (fun k => (rowR R k).length) (fun k => [.s fun j => (rowR R k).getD j []])]), (3, .fn 152 []), (1, .ptr nid 0)], [(nid, boxP2 g0 r0 b G R)], nid + 700, nid⟩ ?_ ?_
        · simp -dsimp only [aqT, aqU, aqN, ↓seqK, ↓blkK, ↓loopK, step, stepBin, Nat.reduceBEq, Nat.reduceBeqDiff, Nat.add_assoc nid, Nat.reduceAdd, reduceCtorEq, ↓reduceIte, Nat.reduceLeDiff, Nat.reduceBneDiff, Option.toList, ← Int.ofNat_tmod, ← Int.ofNat_tdiv, Nat.reduceLT, Int.cast_ofNat_Int, Int.reduceBEq, Int.reduceBNe, Int.reduceLT, Int.reduceLE, Int.reduceAdd, Int.reduceSub, Int.reduceMul, Int.reduceToNat, Int.reduceNeg, Int.reduceTMod, Int.reduceEq, not_false_eq_true, Int.reducePow, Int.reduceFDiv, Nat.reducePow, Nat.reduceSub, Nat.reduceMul, Nat.min_eq_left, Nat.reduceEqDiff, BEq.rfl, Int.tdiv_one, LN_succ]
          refine S2.dec (fun h0 => ?_) (fun h0 => ?_) <;> simp -dsimp only [aqT, aqU, aqN, ↓seqK, ↓blkK, ↓loopK, step, stepBin, Nat.reduceBEq, Nat.reduceBeqDiff, Nat.add_assoc nid, Nat.reduceAdd, reduceCtorEq, ↓reduceIte, Nat.reduceLeDiff, Nat.reduceBneDiff, Option.toList, ← Int.ofNat_tmod, ← Int.ofNat_tdiv, Nat.reduceLT, Int.cast_ofNat_Int, Int.reduceBEq, Int.reduceBNe, Int.reduceLT, Int.reduceLE, Int.reduceAdd, Int.reduceSub, Int.reduceMul, Int.reduceToNat, Int.reduceNeg, Int.reduceTMod, Int.reduceEq, not_false_eq_true, Int.reducePow, Int.reduceFDiv, Nat.reducePow, Nat.reduceSub, Nat.reduceMul, Nat.min_eq_left, Nat.reduceEqDiff, BEq.rfl, Int.tdiv_one, LN_succ]
          · have e : ((k : Int) - 1).toNat = k - 1 := by omega
            rw [e]
            refine ⟨by unfold inI64; omega, by omega, Cov.go [] [] ?_⟩
            simp [cvT, step, res, boxP2, decide_eq_true h0, -List.getD_eq_getElem?_getD]
            try omega
          · refine Cov.go [] [] ?_
            simp [cvT, step, res, boxP2, decide_eq_false h0, -List.getD_eq_getElem?_getD]
            try omega
        refine SR.cond (b := decide ((0 : Int) < k) && (Op.bytesLess (rowF R k) (rowF R (k - 1)) || rowF R k == rowF R (k - 1))) (by simp [AX.val, getS]) (fun h => ?_) (fun h => ?_)
        · simp only [Bool.and_eq_true, decide_eq_true_eq] at h
          rw [hbad 7 (by unfold rowBad; rw [if_neg hk1, if_neg hk2, if_neg hk3, if_pos ⟨by omega, h.2⟩]) (by decide)]
          refine SR.run (t := .mk) ?_
          simp -dsimp only [aqT, aqU, aqN, ↓seqK, ↓blkK, ↓loopK, step, stepBin, Nat.reduceBEq, Nat.reduceBeqDiff, Nat.add_assoc nid, Nat.reduceAdd, reduceCtorEq, ↓reduceIte, Nat.reduceLeDiff, Nat.reduceBneDiff, Option.toList, ← Int.ofNat_tmod, ← Int.ofNat_tdiv, Nat.reduceLT, Int.cast_ofNat_Int, Int.reduceBEq, Int.reduceBNe, Int.reduceLT, Int.reduceLE, Int.reduceAdd, Int.reduceSub, Int.reduceMul, Int.reduceToNat, Int.reduceNeg, Int.reduceTMod, Int.reduceEq, not_false_eq_true, Int.reducePow, Int.reduceFDiv, Nat.reducePow, Nat.reduceSub, Nat.reduceMul, Nat.min_eq_left, Nat.reduceEqDiff, BEq.rfl, Int.tdiv_one, LN_succ]
          refine RetOK.pure (.inl rfl) rfl ?_
          simp [cvT, step, res]
        have hk4 : ¬ (0 < k ∧ (Op.bytesLess (rowF R k) (rowF R (k - 1)) || rowF R k == rowF R (k - 1)) = true) := fun ⟨e1, e2⟩ => by
          rw [e2, decide_eq_true (by omega)] at h
          simp at h
        refine SR.run (t := .mk) ?_
        simp -dsimp only [aqT, aqU, aqN, ↓seqK, ↓blkK, ↓loopK, step, stepBin, Nat.reduceBEq, Nat.reduceBeqDiff, Nat.add_assoc nid, Nat.reduceAdd, reduceCtorEq, ↓reduceIte, Nat.reduceLeDiff, Nat.reduceBneDiff, Option.toList, ← Int.ofNat_tmod, ← Int.ofNat_tdiv, Nat.reduceLT, Int.cast_ofNat_Int, Int.reduceBEq, Int.reduceBNe, Int.reduceLT, Int.reduceLE, Int.reduceAdd, Int.reduceSub, Int.reduceMul, Int.reduceToNat, Int.reduceNeg, Int.reduceTMod, Int.reduceEq, not_false_eq_true, Int.reducePow, Int.reduceFDiv, Nat.reducePow, Nat.reduceSub, Nat.reduceMul, Nat.min_eq_left, Nat.reduceEqDiff, BEq.rfl, Int.tdiv_one, LN_succ]
        refine ⟨⟨(), by unfold rowBad; rw [if_neg hk1, if_neg hk2, if_neg hk3, if_neg hk4]⟩, Cov.go [] [] ?_⟩
        simp [cvT, step, res, boxP2, -List.getD_eq_getElem?_getD]
      refine SR.run (t := .mk) ?_
      simp -dsimp only [aqT, aqU, aqN, ↓seqK, ↓blkK, ↓loopK, step, stepBin, Nat.reduceBEq, Nat.reduceBeqDiff, Nat.add_assoc nid, Nat.reduceAdd, reduceCtorEq, ↓reduceIte, Nat.reduceLeDiff, Nat.reduceBneDiff, Option.toList, ← Int.ofNat_tmod, ← Int.ofNat_tdiv, Nat.reduceLT, Int.cast_ofNat_Int, Int.reduceBEq, Int.reduceBNe, Int.reduceLT, Int.reduceLE, Int.reduceAdd, Int.reduceSub, Int.reduceMul, Int.reduceToNat, Int.reduceNeg, Int.reduceTMod, Int.reduceEq, not_false_eq_true, Int.reducePow, Int.reduceFDiv, Nat.reducePow, Nat.reduceSub, Nat.reduceMul, Nat.min_eq_left, Nat.reduceEqDiff, BEq.rfl, Int.tdiv_one, LN_succ]
      refine ⟨by unfold inI64; omega, k + 1, ⟨⟨by omega, fun j hj => ?_⟩, by omega⟩, Cov.go [] [] ?_⟩
      · rcases (by omega : j < k ∨ j = k) with hj | hj
        · exact hall j hj
        · rw [hj]; exact h6
      simp [cvT, step, res, boxP2, -List.getD_eq_getElem?_getD]
    · refine ⟨⟨(), fun j hj => hall j (by omega)⟩, Cov.go [] [] ?_⟩
      simp [cvT, step, res, boxP2, -List.getD_eq_getElem?_getD]
  · rw [dictV_good h1 h2 h3 h5]
    refine SR.run (t := .mk) ?_
    simp -dsimp only [aqT, aqU, aqN, ↓seqK, ↓blkK, ↓loopK, step, stepBin, Nat.reduceBEq, Nat.reduceBeqDiff, Nat.add_assoc nid, Nat.reduceAdd, reduceCtorEq, ↓reduceIte, Nat.reduceLeDiff, Nat.reduceBneDiff, Option.toList, ← Int.ofNat_tmod, ← Int.ofNat_tdiv, Nat.reduceLT, Int.cast_ofNat_Int, Int.reduceBEq, Int.reduceBNe, Int.reduceLT, Int.reduceLE, Int.reduceAdd, Int.reduceSub, Int.reduceMul, Int.reduceToNat, Int.reduceNeg, Int.reduceTMod, Int.reduceEq, not_false_eq_true, Int.reducePow, Int.reduceFDiv, Nat.reducePow, Nat.reduceSub, Nat.reduceMul, Nat.min_eq_left, Nat.reduceEqDiff, BEq.rfl, Int.tdiv_one, LN_succ]
    refine RetOK.pure (.inl rfl) rfl ?_
    simp [cvT, step, res]
end Go.Proofs.YtpifoghhaohhaaaGreatDoor
namespace Go.Proofs.YtpifoghhaohhaaaGreatDoor
open Go.RowKit Go.Shelf Go.Lib
theorem namesL_len {x : List UInt8} (h : x ∈ namesL) : x.length ≤ 2 := by
  unfold namesL at h
  simp only [List.mem_cons, List.not_mem_nil, or_false] at h
  rcases h with rfl | rfl | rfl | rfl | rfl | rfl | rfl | rfl | rfl <;> decide
theorem rowF_out {R : RowL} {k : Nat} (h : ¬ k < R.length) : rowF R k = [] := by unfold rowF; rw [List.getD_eq_getElem?_getD, List.getElem?_eq_none (by omega)]; rfl
theorem rowR_out {R : RowL} {k : Nat} (h : ¬ k < R.length) : rowR R k = [] := by unfold rowR; rw [List.getD_eq_getElem?_getD, List.getElem?_eq_none (by omega)]; rfl
theorem row_mem {R : RowL} {k : Nat} (h : k < R.length) : (rowF R k, rowR R k) ∈ R := by
  unfold rowF rowR
  rw [List.getD_eq_getElem?_getD, List.getElem?_eq_getElem h]
  exact List.getElem_mem h
theorem DictB.w {m : Nat} {G : List (List UInt8)} {R : RowL} (h : DictB m G R) (hm : m ≤ 100) : DictW G R :=
  ⟨by have := h.gl; omega, h.gs.mono (by omega), by have := h.rl; omega, fun k => by
    by_cases hk : k < R.length
    · obtain ⟨a, b, c⟩ := h.rs _ (row_mem hk)
      have := namesL_len a
      exact ⟨by simp only at this; omega, by simp only at b; omega, c.mono (by omega)⟩
    · rw [rowF_out hk, rowR_out hk]
      exact ⟨by simp, by simp, fun r hr => by simp at hr⟩⟩
set_option maxHeartbeats 1000000 in
theorem rightDict_I (s nid : Nat) (nl : Bool) (A : List Int) (p faults tests : Nat) (h : s < nid) (hp : p ≤ 1099400000000) (hA : A.length ≤ 17592186044416) (hf : faults ≤ 7) (ht1 : 1 ≤ tests) (ht : tests ≤ 6) :
    ACallI Tryz.prog 42 [.ptr s 0, .int .i64 (faults : Nat), .int .i64 (tests : Nat)] [(s, strmC nl A p)] nid (fun x : DictX => (DictB tests x.G x.R ∧ dictV x.G x.R = 0) ∧ x.q ≤ p + 6000) (fun x => dictP x.g0 x.r0 x.b x.G x.R) (fun x => [(s, strmC nl A x.q)]) := by
  obtain ⟨e1, e2, e3, e4, e5, e6, e7, e8, e9⟩ := id_all h
  refine acallI_sr c42 (by simp [a42]) ?_
  unfold a42
  refine SR.seq ?_
  simp -dsimp only [aqT, aqU, aqN, ↓seqK, ↓blkK, ↓loopK, step, stepBin, Nat.reduceBEq, Nat.reduceBeqDiff, Nat.add_assoc nid, Nat.reduceAdd, reduceCtorEq, ↓reduceIte, Nat.reduceLeDiff, Nat.reduceBneDiff, Option.toList, ← Int.ofNat_tmod, ← Int.ofNat_tdiv, Nat.reduceLT, Int.cast_ofNat_Int, Int.reduceBEq, Int.reduceBNe, Int.reduceLT, Int.reduceLE, Int.reduceAdd, Int.reduceSub, Int.reduceMul, Int.reduceToNat, Int.reduceNeg, Int.reduceTMod, Int.reduceEq, not_false_eq_true, Int.reducePow, Int.reduceFDiv, Nat.reducePow, Nat.reduceSub, Nat.reduceMul, Nat.min_eq_left, Nat.reduceEqDiff, BEq.rfl, Int.tdiv_one, LN_succ, e1, e2, e3, e4, e5, e6, e7, e8, e9]
  refine SR.seqW (ι := {q : Nat // q ≤ p + 6000}) (fun q => ⟨[(6, .ptr (nid + 4) 0)], [(nid + 4, some (.box 29 [.lit true 0 [], .lit true 0 []])), (s, strmC nl A q)], nid + 2000, nid⟩) ?_ (fun ⟨q, hq⟩ => ?_)
  · refine SR.seq ?_
    simp -dsimp only [aqT, aqU, aqN, ↓seqK, ↓blkK, ↓loopK, step, stepBin, Nat.reduceBEq, Nat.reduceBeqDiff, Nat.add_assoc nid, Nat.reduceAdd, reduceCtorEq, ↓reduceIte, Nat.reduceLeDiff, Nat.reduceBneDiff, Option.toList, ← Int.ofNat_tmod, ← Int.ofNat_tdiv, Nat.reduceLT, Int.cast_ofNat_Int, Int.reduceBEq, Int.reduceBNe, Int.reduceLT, Int.reduceLE, Int.reduceAdd, Int.reduceSub, Int.reduceMul, Int.reduceToNat, Int.reduceNeg, Int.reduceTMod, Int.reduceEq, not_false_eq_true, Int.reducePow, Int.reduceFDiv, Nat.reducePow, Nat.reduceSub, Nat.reduceMul, Nat.min_eq_left, Nat.reduceEqDiff, BEq.rfl, Int.tdiv_one, LN_succ, e1, e2, e3, e4, e5, e6, e7, e8, e9]
    refine SR.block ?_
    refine SR.loopP (fun x : Nat × Nat => x.1 ≤ 6 ∧ x.2 ≤ p + 1000 * x.1) (fun x => ⟨[(8, .int .i64 x.1), (6, .ptr (nid + 4) 0), (0, .ptr s 0), (1, .int .i64 (faults : Nat)), (2, .int .i64 (tests : Nat))], [(nid + 4, some (.box 29 [.lit true 0 [], .lit true 0 []])), (s, strmC nl A x.2)], nid + 100, nid⟩) (fun x => 7 - x.1) (0, p) ⟨by simp, by simp⟩ (Cov.go [(nid + 4, nid)] [] ?_) (fun x hx => ?_)
    · simp [cvT, step, res, e1, e2, e3, e4, e5, e6, e7, e8, e9, strmC]
    obtain ⟨i, q⟩ := x
    obtain ⟨hi, hq⟩ := hx
    simp only at hi hq ⊢
    refine SR.seq ?_
    simp -dsimp only [aqT, aqU, aqN, ↓seqK, ↓blkK, ↓loopK, step, stepBin, Nat.reduceBEq, Nat.reduceBeqDiff, Nat.add_assoc nid, Nat.reduceAdd, reduceCtorEq, ↓reduceIte, Nat.reduceLeDiff, Nat.reduceBneDiff, Option.toList, ← Int.ofNat_tmod, ← Int.ofNat_tdiv, Nat.reduceLT, Int.cast_ofNat_Int, Int.reduceBEq, Int.reduceBNe, Int.reduceLT, Int.reduceLE, Int.reduceAdd, Int.reduceSub, Int.reduceMul, Int.reduceToNat, Int.reduceNeg, Int.reduceTMod, Int.reduceEq, not_false_eq_true, Int.reducePow, Int.reduceFDiv, Nat.reducePow, Nat.reduceSub, Nat.reduceMul, Nat.min_eq_left, Nat.reduceEqDiff, BEq.rfl, Int.tdiv_one, LN_succ, e1, e2, e3, e4, e5, e6, e7, e8, e9]
    refine SR.seq ?_
    simp -dsimp only [aqT, aqU, aqN, ↓seqK, ↓blkK, ↓loopK, step, stepBin, Nat.reduceBEq, Nat.reduceBeqDiff, Nat.add_assoc nid, Nat.reduceAdd, reduceCtorEq, ↓reduceIte, Nat.reduceLeDiff, Nat.reduceBneDiff, Option.toList, ← Int.ofNat_tmod, ← Int.ofNat_tdiv, Nat.reduceLT, Int.cast_ofNat_Int, Int.reduceBEq, Int.reduceBNe, Int.reduceLT, Int.reduceLE, Int.reduceAdd, Int.reduceSub, Int.reduceMul, Int.reduceToNat, Int.reduceNeg, Int.reduceTMod, Int.reduceEq, not_false_eq_true, Int.reducePow, Int.reduceFDiv, Nat.reducePow, Nat.reduceSub, Nat.reduceMul, Nat.min_eq_left, Nat.reduceEqDiff, BEq.rfl, Int.tdiv_one, LN_succ, e1, e2, e3, e4, e5, e6, e7, e8, e9]
    refine S2.dec (fun h4 => ?_) (fun h4 => ?_) <;> simp -dsimp only [aqT, aqU, aqN, ↓seqK, ↓blkK, ↓loopK, step, stepBin, Nat.reduceBEq, Nat.reduceBeqDiff, Nat.add_assoc nid, Nat.reduceAdd, reduceCtorEq, ↓reduceIte, Nat.reduceLeDiff, Nat.reduceBneDiff, Option.toList, ← Int.ofNat_tmod, ← Int.ofNat_tdiv, Nat.reduceLT, Int.cast_ofNat_Int, Int.reduceBEq, Int.reduceBNe, Int.reduceLT, Int.reduceLE, Int.reduceAdd, Int.reduceSub, Int.reduceMul, Int.reduceToNat, Int.reduceNeg, Int.reduceTMod, Int.reduceEq, not_false_eq_true, Int.reducePow, Int.reduceFDiv, Nat.reducePow, Nat.reduceSub, Nat.reduceMul, Nat.min_eq_left, Nat.reduceEqDiff, BEq.rfl, Int.tdiv_one, LN_succ]
    · refine SR.seqW (ι := {q2 : Nat // q2 ≤ q + 1000}) (fun q2 => ⟨[(8, .int .i64 i), (6, .ptr (nid + 4) 0), (0, .ptr s 0), (1, .int .i64 (faults : Nat)), (2, .int .i64 (tests : Nat))], [(nid + 4, some (.box 29 [.lit true 0 [], .lit true 0 []])), (s, strmC nl A q2)], nid + 900, nid⟩) ?_ (fun ⟨q2, hq2⟩ => ?_)
      · refine SR.block ?_
        refine SR.seqW (ι := {x : DictX // DictB tests x.G x.R ∧ x.q ≤ q + 1000}) (fun x => ⟨[(7, .ptr (nid + 300) 0), (8, .int .i64 i), (6, .ptr (nid + 4) 0), (0, .ptr s 0), (1, .int .i64 (faults : Nat)), (2, .int .i64 (tests : Nat))], [(nid + 300, boxP2 x.1.g0 x.1.r0 x.1.b x.1.G x.1.R), (nid + 4, some (.box 29 [.lit true 0 [], .lit true 0 []])), (s, strmC nl A x.1.q)], nid + 400, nid⟩) ?_ (fun ⟨x, hx1, hx2⟩ => ?_)
        · refine SR.run (t := .mk) ?_
          simp -dsimp only [aqT, aqU, aqN, ↓seqK, ↓blkK, ↓loopK, step, stepBin, Nat.reduceBEq, Nat.reduceBeqDiff, Nat.add_assoc nid, Nat.reduceAdd, reduceCtorEq, ↓reduceIte, Nat.reduceLeDiff, Nat.reduceBneDiff, Option.toList, ← Int.ofNat_tmod, ← Int.ofNat_tdiv, Nat.reduceLT, Int.cast_ofNat_Int, Int.reduceBEq, Int.reduceBNe, Int.reduceLT, Int.reduceLE, Int.reduceAdd, Int.reduceSub, Int.reduceMul, Int.reduceToNat, Int.reduceNeg, Int.reduceTMod, Int.reduceEq, not_false_eq_true, Int.reducePow, Int.reduceFDiv, Nat.reducePow, Nat.reduceSub, Nat.reduceMul, Nat.min_eq_left, Nat.reduceEqDiff, BEq.rfl, Int.tdiv_one, LN_succ, e1, e2, e3, e4, e5, e6, e7, e8, e9]
          refine CallO.any (dict_I s _ nl A q faults tests (by omega) (by omega) hA hf ht1 ht) (subH_get (by simp only [aqT, aqU, aqN, ↓seqK, ↓blkK, ↓loopK, step, stepBin, Nat.reduceBEq, Nat.reduceBeqDiff, Nat.add_assoc nid, Nat.reduceAdd, reduceCtorEq, ↓reduceIte, Nat.reduceLeDiff, Nat.reduceBneDiff, Option.toList, ← Int.ofNat_tmod, ← Int.ofNat_tdiv, Nat.reduceLT, e1, e2, e3, e4, e5, e6, e7, e8, e9, Int.cast_ofNat_Int, Int.reduceBEq, Int.reduceBNe, Int.reduceLT, Int.reduceLE, Int.reduceAdd, Int.reduceSub, Int.reduceMul, Int.reduceToNat, Int.reduceNeg, Int.reduceTMod, Int.reduceEq, not_false_eq_true, Int.reducePow, Int.reduceFDiv, Nat.reducePow, Nat.reduceSub, Nat.reduceMul, Nat.min_eq_left, Nat.reduceEqDiff, BEq.rfl, Int.tdiv_one, LN_succ])) (fun x hx => ?_)
          unfold dictP
          simp -dsimp only [aqT, aqU, aqN, ↓seqK, ↓blkK, ↓loopK, step, stepBin, Nat.reduceBEq, Nat.reduceBeqDiff, Nat.add_assoc nid, Nat.reduceAdd, reduceCtorEq, ↓reduceIte, Nat.reduceLeDiff, Nat.reduceBneDiff, Option.toList, ← Int.ofNat_tmod, ← Int.ofNat_tdiv, Nat.reduceLT, Int.cast_ofNat_Int, Int.reduceBEq, Int.reduceBNe, Int.reduceLT, Int.reduceLE, Int.reduceAdd, Int.reduceSub, Int.reduceMul, Int.reduceToNat, Int.reduceNeg, Int.reduceTMod, Int.reduceEq, not_false_eq_true, Int.reducePow, Int.reduceFDiv, Nat.reducePow, Nat.reduceSub, Nat.reduceMul, Nat.min_eq_left, Nat.reduceEqDiff, BEq.rfl, Int.tdiv_one, LN_succ, e1, e2, e3, e4, e5, e6, e7, e8, e9]
          refine ⟨⟨x, hx⟩, Cov.go [(nid + 300, nid + 120)] [] ?_⟩
          simp [cvT, step, res, e1, e2, e3, e4, e5, e6, e7, e8, e9, strmC, boxP2, ColsEq.refl, -List.getD_eq_getElem?_getD]
        · unfold boxP2
          have hr := fun m => dictR_c x.g0 x.r0 x.b x.G x.R m (hx1.w (by omega))
          unfold dictP at hr
          refine SR.run (t := .mk) ?_
          simp -dsimp only [aqT, aqU, aqN, ↓seqK, ↓blkK, ↓loopK, step, stepBin, Nat.reduceBEq, Nat.reduceBeqDiff, Nat.add_assoc nid, Nat.reduceAdd, reduceCtorEq, ↓reduceIte, Nat.reduceLeDiff, Nat.reduceBneDiff, Option.toList, ← Int.ofNat_tmod, ← Int.ofNat_tdiv, Nat.reduceLT, Int.cast_ofNat_Int, Int.reduceBEq, Int.reduceBNe, Int.reduceLT, Int.reduceLE, Int.reduceAdd, Int.reduceSub, Int.reduceMul, Int.reduceToNat, Int.reduceNeg, Int.reduceTMod, Int.reduceEq, not_false_eq_true, Int.reducePow, Int.reduceFDiv, Nat.reducePow, Nat.reduceSub, Nat.reduceMul, Nat.min_eq_left, Nat.reduceEqDiff, BEq.rfl, Int.tdiv_one, LN_succ, e1, e2, e3, e4, e5, e6, e7, e8, e9]
          refine CallO.pure (hr _) ?_
          simp -dsimp only [aqT, aqU, aqN, ↓seqK, ↓blkK, ↓loopK, step, stepBin, Nat.reduceBEq, Nat.reduceBeqDiff, Nat.add_assoc nid, Nat.reduceAdd, reduceCtorEq, ↓reduceIte, Nat.reduceLeDiff, Nat.reduceBneDiff, Option.toList, ← Int.ofNat_tmod, ← Int.ofNat_tdiv, Nat.reduceLT, Int.cast_ofNat_Int, Int.reduceBEq, Int.reduceBNe, Int.reduceLT, Int.reduceLE, Int.reduceAdd, Int.reduceSub, Int.reduceMul, Int.reduceToNat, Int.reduceNeg, Int.reduceTMod, Int.reduceEq, not_false_eq_true, Int.reducePow, Int.reduceFDiv, Nat.reducePow, Nat.reduceSub, Nat.reduceMul, Nat.min_eq_left, Nat.reduceEqDiff, BEq.rfl, Int.tdiv_one, LN_succ, e1, e2, e3, e4, e5, e6, e7, e8, e9]
          refine S2.intro (fun h5 => ?_) (fun h5 => ?_) <;> simp -dsimp only [aqT, aqU, aqN, ↓seqK, ↓blkK, ↓loopK, step, stepBin, Nat.reduceBEq, Nat.reduceBeqDiff, Nat.add_assoc nid, Nat.reduceAdd, reduceCtorEq, ↓reduceIte, Nat.reduceLeDiff, Nat.reduceBneDiff, Option.toList, ← Int.ofNat_tmod, ← Int.ofNat_tdiv, Nat.reduceLT, Int.cast_ofNat_Int, Int.reduceBEq, Int.reduceBNe, Int.reduceLT, Int.reduceLE, Int.reduceAdd, Int.reduceSub, Int.reduceMul, Int.reduceToNat, Int.reduceNeg, Int.reduceTMod, Int.reduceEq, not_false_eq_true, Int.reducePow, Int.reduceFDiv, Nat.reducePow, Nat.reduceSub, Nat.reduceMul, Nat.min_eq_left, Nat.reduceEqDiff, BEq.rfl, Int.tdiv_one, LN_succ, e1, e2, e3, e4, e5, e6, e7, e8, e9]
          · refine ⟨x, ⟨⟨hx1, by simpa using h5⟩, by omega⟩, RetOK.go [] [] (.inl rfl) ?_⟩
            simp [cvT, step, res, e1, e2, e3, e4, e5, e6, e7, e8, e9, a42, strmC, dictP, ColsEq.refl, -List.getD_eq_getElem?_getD]
          · refine ⟨⟨x.q, by omega⟩, Cov.go [] [] ?_⟩
            simp [cvT, step, res, e1, e2, e3, e4, e5, e6, e7, e8, e9, strmC, -List.getD_eq_getElem?_getD]
      refine SR.run (t := .mk) ?_
      simp -dsimp only [aqT, aqU, aqN, ↓seqK, ↓blkK, ↓loopK, step, stepBin, Nat.reduceBEq, Nat.reduceBeqDiff, Nat.add_assoc nid, Nat.reduceAdd, reduceCtorEq, ↓reduceIte, Nat.reduceLeDiff, Nat.reduceBneDiff, Option.toList, ← Int.ofNat_tmod, ← Int.ofNat_tdiv, Nat.reduceLT, Int.cast_ofNat_Int, Int.reduceBEq, Int.reduceBNe, Int.reduceLT, Int.reduceLE, Int.reduceAdd, Int.reduceSub, Int.reduceMul, Int.reduceToNat, Int.reduceNeg, Int.reduceTMod, Int.reduceEq, not_false_eq_true, Int.reducePow, Int.reduceFDiv, Nat.reducePow, Nat.reduceSub, Nat.reduceMul, Nat.min_eq_left, Nat.reduceEqDiff, BEq.rfl, Int.tdiv_one, LN_succ, e1, e2, e3, e4, e5, e6, e7, e8, e9]
      refine ⟨by unfold inI64; omega, (i + 1, q2), ⟨⟨by simp only; omega, by simp only; omega⟩, by simp only; omega⟩, Cov.go [] [] ?_⟩
      simp [cvT, step, res, e1, e2, e3, e4, e5, e6, e7, e8, e9, strmC, -List.getD_eq_getElem?_getD]
    · refine ⟨⟨q, by omega⟩, Cov.go [] [] ?_⟩
      simp [cvT, step, res, e1, e2, e3, e4, e5, e6, e7, e8, e9, strmC, -List.getD_eq_getElem?_getD]
  · refine SR.seqTo ⟨[(6, .ptr (nid + 4) 0)], [(nid + 4, boxD (nid + 2500) 1 (nid + 2504) 0), (nid + 2500, arrS [[48]]), (nid + 2504, some (.arr 67 0 [.s fun k => rowF [] k, .l (fun _ => false) (fun k => (rowR [] k).length) (fun k => [.s fun j => (rowR [] k).getD j []])])), (s, strmC nl A q)], nid + 3000, nid⟩ ?_ ?_
    · simp -dsimp only [aqT, aqU, aqN, ↓seqK, ↓blkK, ↓loopK, step, stepBin, Nat.reduceBEq, Nat.reduceBeqDiff, Nat.add_assoc nid, Nat.reduceAdd, reduceCtorEq, ↓reduceIte, Nat.reduceLeDiff, Nat.reduceBneDiff, Option.toList, ← Int.ofNat_tmod, ← Int.ofNat_tdiv, Nat.reduceLT, Int.cast_ofNat_Int, Int.reduceBEq, Int.reduceBNe, Int.reduceLT, Int.reduceLE, Int.reduceAdd, Int.reduceSub, Int.reduceMul, Int.reduceToNat, Int.reduceNeg, Int.reduceTMod, Int.reduceEq, not_false_eq_true, Int.reducePow, Int.reduceFDiv, Nat.reducePow, Nat.reduceSub, Nat.reduceMul, Nat.min_eq_left, Nat.reduceEqDiff, BEq.rfl, Int.tdiv_one, LN_succ, e1, e2, e3, e4, e5, e6, e7, e8, e9]
      refine Cov.go [(nid + 2500, nid + 2000)] [(nid + 2504, 2)] ?_
      simp [cvT, step, res, e1, e2, e3, e4, e5, e6, e7, e8, e9, strmC, boxD, arrS, -List.getD_eq_getElem?_getD]
    unfold boxD arrS
    refine SR.freezeB [nid + 2500, nid + 2504] (fun n2 => ?_)
    simp only [frzS, frzH, frzBlk, lends, lend, kill, strmC, noOs, aqT, aqU, aqN, ↓seqK, ↓blkK, ↓loopK, step, stepBin, Nat.reduceBEq, Nat.reduceBeqDiff, Nat.add_assoc nid, Nat.reduceAdd, reduceCtorEq, ↓reduceIte, Nat.reduceLeDiff, Nat.reduceBneDiff, Option.toList, ← Int.ofNat_tmod, ← Int.ofNat_tdiv, Nat.reduceLT, Int.cast_ofNat_Int, Int.reduceBEq, Int.reduceBNe, Int.reduceLT, Int.reduceLE, Int.reduceAdd, Int.reduceSub, Int.reduceMul, Int.reduceToNat, Int.reduceNeg, Int.reduceTMod, Int.reduceEq, not_false_eq_true, Int.reducePow, Int.reduceFDiv, Nat.reducePow, Nat.reduceSub, Nat.reduceMul, Nat.min_eq_left, Nat.reduceEqDiff, BEq.rfl, Int.tdiv_one, LN_succ, e1, e2, e3, e4, e5, e6, e7, e8, e9]
    refine SR.run (t := .mk) ?_
    simp -dsimp only [aqT, aqU, aqN, ↓seqK, ↓blkK, ↓loopK, step, stepBin, Nat.reduceBEq, Nat.reduceBeqDiff, Nat.add_assoc nid, Nat.reduceAdd, reduceCtorEq, ↓reduceIte, Nat.reduceLeDiff, Nat.reduceBneDiff, Option.toList, ← Int.ofNat_tmod, ← Int.ofNat_tdiv, Nat.reduceLT, Int.cast_ofNat_Int, Int.reduceBEq, Int.reduceBNe, Int.reduceLT, Int.reduceLE, Int.reduceAdd, Int.reduceSub, Int.reduceMul, Int.reduceToNat, Int.reduceNeg, Int.reduceTMod, Int.reduceEq, not_false_eq_true, Int.reducePow, Int.reduceFDiv, Nat.reducePow, Nat.reduceSub, Nat.reduceMul, Nat.min_eq_left, Nat.reduceEqDiff, BEq.rfl, Int.tdiv_one, LN_succ, e1, e2, e3, e4, e5, e6, e7, e8, e9]
    refine ⟨⟨n2 (nid + 2500), n2 (nid + 2504), fun _ => false, [[48]], [], q⟩, ⟨⟨⟨by simpa using ht1, ?_, by simp, by simp⟩, by rfl⟩, by simp only; omega⟩, RetOK.go [] [] (.inl rfl) ?_⟩
    · intro r hr
      simp only [List.mem_singleton] at hr
      subst hr
      decide
    simp [cvT, step, res, e1, e2, e3, e4, e5, e6, e7, e8, e9, a42, strmC, dictP, ColsEq.refl, -List.getD_eq_getElem?_getD]
end Go.Proofs.YtpifoghhaohhaaaGreatDoor
