/-
  Candidates and the nearest of the document, by the abstract machine.
-/
import Derived.Test.YtpifoghhaohhaaaGreatDoorKFF5
import Derived.Test.YtpifoghhaohhaaaGreatDoorKFF3
import Derived.Test.YtpifoghhaohhaaaGreatDoorProg
import Derived.Test.YtpifoghhaohhaaaGreatDoorChecked
import Derived.Handed
import Derived.HandedShaped
import Derived.Shelf.Vars
import Derived.KernelRfl
import Derived.Test.YtpifoghhaohhaaaGreatDoorRows
import Derived.Test.YtpifoghhaohhaaaGreatDoorCards
import Derived.Test.YtpifoghhaohhaaaGreatDoorTie
import Derived.ChangeSame
import Derived.ChangeVars
import Derived.JoinedOf
import Derived.LaidLaws
import Derived.LaidHandle
import Derived.PinnedBridge
import Derived.SevenTiedAt
import Derived.WalkKit
import Derived.ProofKit
import Derived.OpenShut
import Derived.SizedLaws
import Derived.ChangeOld
import Derived.Below
set_option linter.unusedVariables false
set_option linter.unusedSimpArgs false
set_option maxRecDepth 100000
namespace Go.Proofs.YtpifoghhaohhaaaGreatDoor
open Go.RowKit Go.Shelf Go.Lib
theorem cloneL_c (nl : Bool) (G : List (List UInt8)) (nid : Nat) (hG : 0 < G.length) (hl : G.length ≤ 1000000000) : ACall Tryz.prog 100 [litS nl G] [] nid (litS false G) [] :=
  ACall.nonnil 0 rfl fun hn => ACall.lit (cloneD_c nl G nid hl fun e => List.eq_nil_of_length_eq_zero (hn e)) hG rfl rfl
theorem truth_c (b : Bool) (nid : Nat) : ACall Tryz.prog 133 [.bool b] [] nid (.int .i64 (if b = true then 1 else 0)) [] := by
  refine acall_run c133 (by simp [a133]) ?_
  simp -dsimp only [aqT, aqU, aqN, aqS, ↓seqK, ↓blkK, ↓loopK, step, stepBin, Nat.add_assoc nid, ↓reduceIte, Option.toList, ← Int.ofNat_tmod, ← Int.ofNat_tdiv, simprocAttr, BEq.rfl, LN_succ, a133]
  cases b <;> simp -dsimp only [aqT, aqU, aqN, aqS, ↓seqK, ↓blkK, ↓loopK, step, stepBin, Nat.add_assoc nid, ↓reduceIte, Option.toList, ← Int.ofNat_tmod, ← Int.ofNat_tdiv, simprocAttr, BEq.rfl, LN_succ]
  · refine RetOK.pure (.inl rfl) rfl ?_
    simp [cvT, step, res]
  · refine RetOK.pure (.inl rfl) rfl ?_
    simp [cvT, step, res]
theorem fitsF_c (f : List UInt8) (b : Bool) (L : List (List UInt8)) (t : Int) (r : List UInt8) (ia nid : Nat) (hia : ia < nid) (h0 : 0 ≤ t) (h1 : t < L.length) (hL : L.length ≤ 1000000) :
    ACall Tryz.prog 208 [.agg [.int .i64 t, .str r], .ptr ia 0] [(ia, boxRw f b L)] nid (.bool (offB L t r)) [] := by
  obtain ⟨a1, a2, a3, a4, a5, a6, a7, a8, a9⟩ := id_all hia
  refine acall_run c208 (by simp [a208]) ?_
  unfold boxRw
  simp -dsimp only [a208, aqT, aqU, aqN, aqS, ↓seqK, ↓blkK, ↓loopK, step, stepBin, Nat.add_assoc nid, ↓reduceIte, Option.toList, ← Int.ofNat_tmod, ← Int.ofNat_tdiv, simprocAttr, BEq.rfl, LN_succ, a1, a2, a3, a4, a5, a6, a7, a8, a9]
  refine ⟨⟨by omega, by omega⟩, ?_⟩
  refine RetOK.go [] [] (.inl rfl) ?_
  simp [a208, cvT, step, res, a1, a2, a3, a4, a5, a6, a7, a8, a9, offB, boxRw, -List.getD_eq_getElem?_getD]
theorem fits_c (f : List UInt8) (b : Bool) (L : List (List UInt8)) (nl : Bool) (S : SeenL) (nid : Nat) (hl : S.length ≤ 1000000) (hL : L.length ≤ 1000000) (hS : SnIn L.length S) :
    ACall Tryz.prog 132 [.agg [.str f, litS b L], litSn nl S] [] nid (.bool (consB L S)) [] := by
  refine acall_run c132 (by simp [a132]) ?_
  unfold litS
  simp -dsimp only [aqT, aqU, aqN, aqS, ↓seqK, ↓blkK, ↓loopK, step, stepBin, Nat.add_assoc nid, ↓reduceIte, Option.toList, ← Int.ofNat_tmod, ← Int.ofNat_tdiv, simprocAttr, BEq.rfl, LN_succ, a132]
  refine CallO.on (containsSn_c 208 (fun k => offB L (sT S k) (sR S k)) nl S f b L nid _ (by omega) hl (fun k hk nid' h' => fitsF_c f b L _ _ nid nid' h' (hS k hk).1 (hS k hk).2 hL)) (subH_get (by simp only [aqT, aqU, aqN, aqS, ↓seqK, ↓blkK, ↓loopK, step, stepBin, Nat.add_assoc nid, ↓reduceIte, Option.toList, ← Int.ofNat_tmod, ← Int.ofNat_tdiv, simprocAttr, BEq.rfl, LN_succ, boxRw])) ?_
  simp -dsimp only [aqT, aqU, aqN, aqS, ↓seqK, ↓blkK, ↓loopK, step, stepBin, Nat.add_assoc nid, ↓reduceIte, Option.toList, ← Int.ofNat_tmod, ← Int.ofNat_tdiv, simprocAttr, BEq.rfl, LN_succ]
  unfold consB
  refine RetOK.go [] [] (.inl rfl) ?_
  simp [a132, cvT, step, res, -List.getD_eq_getElem?_getD]
theorem candidatesR_c (g0 r0 : Bool) (b : Nat → Bool) (G : List (List UInt8)) (R : RowL) (nl : Bool) (S : SeenL) (nid : Nat) (hB : DictW G R) (hS : SnW S) (hD : dictV G R = 0) (hG0 : 0 < G.length) (hI : SnIn G.length S) :
    ACall Tryz.prog 50 [dictP g0 r0 b G R, litSn nl S] [] nid (.tup [.sl nid 0 (candL R S).length, .bool (consB G S)]) [(nid, arrS (candL R S))] := by
  have hgl := hB.gl
  have hrl := hB.rl
  have hsl := hS.l
  have hlen := dictV_rows hD
  have hG := fun m => fits_c [] false G nl S m hsl hgl hI
  refine acall_sr c50 (by simp [a50]) ?_
  unfold a50
  refine SR.seq ?_
  unfold dictP litSn at *
  simp -dsimp only [aqT, aqU, aqN, aqS, ↓seqK, ↓blkK, ↓loopK, step, stepBin, Nat.add_assoc nid, ↓reduceIte, Option.toList, ← Int.ofNat_tmod, ← Int.ofNat_tdiv, simprocAttr, BEq.rfl, LN_succ]
  refine SR.seq ?_
  simp -dsimp only [aqT, aqU, aqN, aqS, ↓seqK, ↓blkK, ↓loopK, step, stepBin, Nat.add_assoc nid, ↓reduceIte, Option.toList, ← Int.ofNat_tmod, ← Int.ofNat_tdiv, simprocAttr, BEq.rfl, LN_succ]
  refine SR.seqTo ⟨[(6, .sl (nid + 180) 0 (candL R S).length), (2, .ptr nid 0), (1, litSn nl S)], [(nid + 180, arrS (candL R S)), (nid, boxP2 g0 r0 b G R)], nid + 2000, nid⟩ ?_ ?_
  · unfold boxP2 litSn
    simp -dsimp only [aqT, aqU, aqN, aqS, ↓seqK, ↓blkK, ↓loopK, step, stepBin, Nat.add_assoc nid, ↓reduceIte, Option.toList, ← Int.ofNat_tmod, ← Int.ofNat_tdiv, simprocAttr, BEq.rfl, LN_succ]
    refine LP.mkP (fun k : Nat => k ≤ R.length) (fun k : Nat => ⟨[(12, .int .i64 k), (11, .int .i64 R.length), (10, .lit r0 R.length [.s fun k => rowF R k, .l b (fun k => (rowR R k).length) (fun k => [.s fun j => (rowR R k).getD j []])]), (6, .sl (nid + 180) 0 (candL (R.take k) S).length), (2, .ptr nid 0), (1, litSn nl S)], [(nid + 180, arrS (candL (R.take k) S)), (nid, boxP2 g0 r0 b G R)], nid + 200, nid⟩) (fun k => R.length + 1 - k) 0 (by omega) (Cov.go [] [(nid + 180, 1)] ?_) (fun k hk => ?_)
    · simp [cvT, step, res, boxP2, litSn, arrS, candL, ColsEq.refl, -List.getD_eq_getElem?_getD]
    unfold boxP2 litSn arrS
    simp -dsimp only [aqT, aqU, aqN, aqS, ↓seqK, ↓blkK, ↓loopK, step, stepBin, Nat.add_assoc nid, ↓reduceIte, Option.toList, ← Int.ofNat_tmod, ← Int.ofNat_tdiv, simprocAttr, BEq.rfl, LN_succ]
    refine S2.dec (fun h4 => ?_) (fun h4 => ?_) <;> simp -dsimp only [aqT, aqU, aqN, aqS, ↓seqK, ↓blkK, ↓loopK, step, stepBin, Nat.add_assoc nid, ↓reduceIte, Option.toList, ← Int.ofNat_tmod, ← Int.ofNat_tdiv, simprocAttr, BEq.rfl, LN_succ]
    · have hkl : k < R.length := by omega
      obtain ⟨hf1, hr1, hs1⟩ := hB.rs k
      have hc := fun m => fits_c (rowF R k) (b k) (rowR R k) nl S m hsl hr1 (by rw [hlen k hkl]; exact hI)
      unfold litS litSn at hc
      refine ⟨by omega, CallO.pure (hc _) ?_⟩
      simp -dsimp only [aqT, aqU, aqN, aqS, ↓seqK, ↓blkK, ↓loopK, step, stepBin, Nat.add_assoc nid, ↓reduceIte, Option.toList, ← Int.ofNat_tmod, ← Int.ofNat_tdiv, simprocAttr, BEq.rfl, LN_succ]
      have hsn := candL_snoc R S hkl
      have hcl : (candL (R.take k) S).length ≤ k := by have := candL_len (R.take k) S; rw [List.length_take] at this; omega
      cases h5 : consB (rowR R k) S <;> rw [h5] at hsn <;> simp -dsimp only [aqT, aqU, aqN, aqS, ↓seqK, ↓blkK, ↓loopK, step, stepBin, Nat.add_assoc nid, ↓reduceIte, Option.toList, ← Int.ofNat_tmod, ← Int.ofNat_tdiv, simprocAttr, BEq.rfl, LN_succ]
      · rw [if_neg (by simp)] at hsn
        refine ⟨by unfold inI64; omega, k + 1, ⟨by omega, by omega⟩, Cov.go [] [] ?_⟩
        rw [hsn]
        simp [cvT, step, res, boxP2, litSn, arrS, ColsEq.refl, -List.getD_eq_getElem?_getD]
      · rw [if_pos rfl] at hsn
        rw [getD_app1 _ (rowF R k) rfl]
        have hl : (candL (R.take (k + 1)) S).length = (candL (R.take k) S).length + 1 := by rw [hsn]; simp
        refine ⟨⟨by omega, by omega⟩, by unfold inI64; omega, k + 1, ⟨by omega, by omega⟩, Cov.go [(nid + 180, nid + 248)] [] ?_⟩
        simp only [hsn]
        simp [cvT, step, res, boxP2, litSn, arrS, ColsEq.refl, -List.getD_eq_getElem?_getD, -List.length_append]
        try simp
    · have hkn : k = R.length := by omega
      subst hkn
      rw [List.take_length]
      refine Cov.go [] [] ?_
      simp [cvT, step, res, boxP2, litSn, arrS, ColsEq.refl, -List.getD_eq_getElem?_getD]
  · unfold litS at hG
    unfold boxP2 litSn arrS
    refine SR.run (t := .mk) ?_
    simp -dsimp only [aqT, aqU, aqN, aqS, ↓seqK, ↓blkK, ↓loopK, step, stepBin, Nat.add_assoc nid, ↓reduceIte, Option.toList, ← Int.ofNat_tmod, ← Int.ofNat_tdiv, simprocAttr, BEq.rfl, LN_succ]
    refine CallO.pure (cloneL_c g0 G _ hG0 (by omega)) ?_
    unfold litS
    simp -dsimp only [aqT, aqU, aqN, aqS, ↓seqK, ↓blkK, ↓loopK, step, stepBin, Nat.add_assoc nid, ↓reduceIte, Option.toList, ← Int.ofNat_tmod, ← Int.ofNat_tdiv, simprocAttr, BEq.rfl, LN_succ]
    refine CallO.pure (hG _) ?_
    simp -dsimp only [aqT, aqU, aqN, aqS, ↓seqK, ↓blkK, ↓loopK, step, stepBin, Nat.add_assoc nid, ↓reduceIte, Option.toList, ← Int.ofNat_tmod, ← Int.ofNat_tdiv, simprocAttr, BEq.rfl, LN_succ]
    refine RetOK.go [(nid, nid + 180)] [] (.inl rfl) ?_
    simp [cvT, step, res, ColsEq.refl, -List.getD_eq_getElem?_getD]
theorem diffT_int (L : List (List UInt8)) (S : SeenL) (n : Nat) : (diffT L S n : Int) + (if offB L (sT S n) (sR S n) = true then 1 else 0) = ((diffT L S (n + 1) : Nat) : Int) := by
  rw [diffT_succ]
  split <;> omega
set_option maxHeartbeats 1000000 in
theorem nearestR_c (g0 r0 : Bool) (b : Nat → Bool) (G : List (List UInt8)) (R : RowL) (nl : Bool) (S : SeenL) (nid : Nat) (hB : DictW G R) (hS : SnW S) (hD : dictV G R = 0) (hI : SnIn G.length S) :
    ACall Tryz.prog 51 [dictP g0 r0 b G R, litSn nl S] [] nid (.tup [.sl nid 0 (nearV R S).2.length, .int .i64 (nearV R S).1]) [(nid, arrS (nearV R S).2)] := by
  have hgl := hB.gl
  have hrl := hB.rl
  have hsl := hS.l
  have hlen := dictV_rows hD
  refine acall_sr c51 (by simp [a51]) ?_
  unfold a51
  refine SR.seq ?_
  unfold dictP litSn at *
  simp -dsimp only [aqT, aqU, aqN, aqS, ↓seqK, ↓blkK, ↓loopK, step, stepBin, Nat.add_assoc nid, ↓reduceIte, Option.toList, ← Int.ofNat_tmod, ← Int.ofNat_tdiv, simprocAttr, BEq.rfl, LN_succ]
  refine SR.seq ?_
  simp -dsimp only [aqT, aqU, aqN, aqS, ↓seqK, ↓blkK, ↓loopK, step, stepBin, Nat.add_assoc nid, ↓reduceIte, Option.toList, ← Int.ofNat_tmod, ← Int.ofNat_tdiv, simprocAttr, BEq.rfl, LN_succ]
  refine SR.seq ?_
  simp -dsimp only [aqT, aqU, aqN, aqS, ↓seqK, ↓blkK, ↓loopK, step, stepBin, Nat.add_assoc nid, ↓reduceIte, Option.toList, ← Int.ofNat_tmod, ← Int.ofNat_tdiv, simprocAttr, BEq.rfl, LN_succ]
  refine SR.seqW (ι := Unit) (fun _ => ⟨[(6, .sl (nid + 180) 0 (nearV R S).2.length), (7, .int .i64 (nearV R S).1), (2, .ptr nid 0), (1, litSn nl S)], [(nid + 180, arrS (nearV R S).2), (nid, boxP2 g0 r0 b G R)], nid + 2000, nid⟩) ?_ (fun _ => ?_)
  · unfold boxP2 litSn
    refine SR.seqTo ⟨[(16, .int .i64 0), (15, .int .i64 R.length), (14, rowsP r0 b R), (6, .lit true 0 []), (7, .int .i64 0), (2, .ptr nid 0), (1, litSn nl S)], [(nid, boxP2 g0 r0 b G R)], nid + 150, nid⟩ ?_ ?_
    · simp -dsimp only [aqT, aqU, aqN, aqS, ↓seqK, ↓blkK, ↓loopK, step, stepBin, Nat.add_assoc nid, ↓reduceIte, Option.toList, ← Int.ofNat_tmod, ← Int.ofNat_tdiv, simprocAttr, BEq.rfl, LN_succ]
      refine Cov.go [] [] ?_
      simp [cvT, step, res, boxP2, litSn, rowsP, ColsEq.refl, -List.getD_eq_getElem?_getD]
    refine SR.block ?_
    refine SR.loopP (fun k : Nat => k ≤ R.length) (fun k : Nat => ⟨[(16, .int .i64 k), (15, .int .i64 R.length), (14, rowsP r0 b R), (6, .sl (nid + 180) 0 (nearV (R.take k) S).2.length), (7, .int .i64 (nearV (R.take k) S).1), (2, .ptr nid 0), (1, litSn nl S)], [(nid + 180, arrS (nearV (R.take k) S).2), (nid, boxP2 g0 r0 b G R)], nid + 200, nid⟩) (fun k => R.length + 1 - k) 0 (by omega) (Cov.go [] [(nid + 180, 1)] ?_) (fun k hk => ?_)
    · simp [cvT, step, res, boxP2, litSn, arrS, nearV, rowsP, ColsEq.refl, -List.getD_eq_getElem?_getD]
    refine SR.seq ?_
    simp -dsimp only [aqT, aqU, aqN, aqS, ↓seqK, ↓blkK, ↓loopK, step, stepBin, Nat.add_assoc nid, ↓reduceIte, Option.toList, ← Int.ofNat_tmod, ← Int.ofNat_tdiv, simprocAttr, BEq.rfl, LN_succ]
    refine SR.seq ?_
    simp -dsimp only [aqT, aqU, aqN, aqS, ↓seqK, ↓blkK, ↓loopK, step, stepBin, Nat.add_assoc nid, ↓reduceIte, Option.toList, ← Int.ofNat_tmod, ← Int.ofNat_tdiv, simprocAttr, BEq.rfl, LN_succ]
    refine S2.dec (fun h4 => ?_) (fun h4 => ?_) <;> simp -dsimp only [aqT, aqU, aqN, aqS, ↓seqK, ↓blkK, ↓loopK, step, stepBin, Nat.add_assoc nid, ↓reduceIte, Option.toList, ← Int.ofNat_tmod, ← Int.ofNat_tdiv, simprocAttr, BEq.rfl, LN_succ]
    · have hkl : k < R.length := by omega
      obtain ⟨hf1, hr1, hs1⟩ := hB.rs k
      have hlk := hlen k hkl
      have hsn := nearV_snoc R S hkl
      have hnl := nearV_len R S k hk
      have hnb := nearV_bd R S k hk
      rw [show ∀ n : Nat, nid + n = nid + n from fun _ => rfl]
      generalize hx : nearV (R.take k) S = x at *
      obtain ⟨best, out⟩ := x
      simp only at hnl hnb
      refine SR.seqW (ι := Unit) (fun _ => ⟨[(16, .int .i64 k), (15, .int .i64 R.length), (14, rowsP r0 b R), (6, .sl (nid + 180) 0 (nearV (R.take (k + 1)) S).2.length), (7, .int .i64 (nearV (R.take (k + 1)) S).1), (2, .ptr nid 0), (1, litSn nl S)], [(nid + 180, arrS (nearV (R.take (k + 1)) S).2), (nid, boxP2 g0 r0 b G R)], nid + 900, nid⟩) ?_ (fun _ => ?_)
      · refine SR.block ?_
        unfold rowsP
        refine SR.seqTo ⟨[(9, .ptr (nid + 300) 0), (16, .int .i64 k), (15, .int .i64 R.length), (14, rowsP r0 b R), (6, .sl (nid + 180) 0 out.length), (7, .int .i64 best), (2, .ptr nid 0), (1, litSn nl S)], [(nid + 300, boxRw (rowF R k) (b k) (rowR R k)), (nid + 180, arrS out), (nid, boxP2 g0 r0 b G R)], nid + 400, nid⟩ ?_ ?_
        · simp -dsimp only [aqT, aqU, aqN, aqS, ↓seqK, ↓blkK, ↓loopK, step, stepBin, Nat.add_assoc nid, ↓reduceIte, Option.toList, ← Int.ofNat_tmod, ← Int.ofNat_tdiv, simprocAttr, BEq.rfl, LN_succ]
          refine ⟨by omega, Cov.go [(nid + 300, nid + 212)] [] ?_⟩
          simp [cvT, step, res, boxP2, litSn, arrS, rowsP, boxRw, ColsEq.refl, -List.getD_eq_getElem?_getD]
        refine SR.seq ?_
        simp -dsimp only [aqT, aqU, aqN, aqS, ↓seqK, ↓blkK, ↓loopK, step, stepBin, Nat.add_assoc nid, ↓reduceIte, Option.toList, ← Int.ofNat_tmod, ← Int.ofNat_tdiv, simprocAttr, BEq.rfl, LN_succ]
        refine SR.seqTo ⟨[(10, .int .i64 (diffN (rowR R k) S : Nat)), (9, .ptr (nid + 300) 0), (16, .int .i64 k), (15, .int .i64 R.length), (14, rowsP r0 b R), (6, .sl (nid + 180) 0 out.length), (7, .int .i64 best), (2, .ptr nid 0), (1, litSn nl S)], [(nid + 300, boxRw (rowF R k) (b k) (rowR R k)), (nid + 180, arrS out), (nid, boxP2 g0 r0 b G R)], nid + 500, nid⟩ ?_ ?_
        · unfold litSn boxRw
          simp -dsimp only [aqT, aqU, aqN, aqS, ↓seqK, ↓blkK, ↓loopK, step, stepBin, Nat.add_assoc nid, ↓reduceIte, Option.toList, ← Int.ofNat_tmod, ← Int.ofNat_tdiv, simprocAttr, BEq.rfl, LN_succ]
          refine LP.mkP (fun j : Nat => j ≤ S.length) (fun j : Nat => ⟨[(22, .int .i64 j), (21, .int .i64 S.length), (20, litSn nl S), (10, .int .i64 (diffT (rowR R k) S j : Nat)), (9, .ptr (nid + 300) 0), (16, .int .i64 k), (15, .int .i64 R.length), (14, rowsP r0 b R), (6, .sl (nid + 180) 0 out.length), (7, .int .i64 best), (2, .ptr nid 0), (1, litSn nl S)], [(nid + 300, boxRw (rowF R k) (b k) (rowR R k)), (nid + 180, arrS out), (nid, boxP2 g0 r0 b G R)], nid + 450, nid⟩) (fun j => S.length + 1 - j) 0 (by omega) (Cov.go [] [] ?_) (fun j hj => ?_)
          · simp [cvT, step, res, boxP2, litSn, arrS, rowsP, boxRw, diffT, ColsEq.refl, -List.getD_eq_getElem?_getD]
          unfold litSn boxRw
          simp -dsimp only [aqT, aqU, aqN, aqS, ↓seqK, ↓blkK, ↓loopK, step, stepBin, Nat.add_assoc nid, ↓reduceIte, Option.toList, ← Int.ofNat_tmod, ← Int.ofNat_tdiv, simprocAttr, BEq.rfl, LN_succ]
          refine S2.dec (fun h5 => ?_) (fun h5 => ?_) <;> simp -dsimp only [aqT, aqU, aqN, aqS, ↓seqK, ↓blkK, ↓loopK, step, stepBin, Nat.add_assoc nid, ↓reduceIte, Option.toList, ← Int.ofNat_tmod, ← Int.ofNat_tdiv, simprocAttr, BEq.rfl, LN_succ]
          · have hjl : j < S.length := by omega
            have hin := hI j hjl
            have hdl := diffT_le (rowR R k) S j
            have hds := diffT_int (rowR R k) S j
            have eo : offB (rowR R k) (sT S j) (sR S j) = !((rowR R k).getD (sT S j).toNat [] == sR S j) := rfl
            rw [← eo]
            refine ⟨by omega, ⟨by omega, by omega⟩, CallX.pure (truth_c _ _) ?_⟩
            simp -dsimp only [aqT, aqU, aqN, aqS, ↓seqK, ↓blkK, ↓loopK, step, stepBin, Nat.add_assoc nid, ↓reduceIte, Option.toList, ← Int.ofNat_tmod, ← Int.ofNat_tdiv, simprocAttr, BEq.rfl, LN_succ]
            rw [hds]
            have hd2 := diffT_le (rowR R k) S (j + 1)
            refine ⟨by unfold inI64; omega, by unfold inI64; omega, j + 1, ⟨by omega, by omega⟩, Cov.go [] [] ?_⟩
            simp [cvT, step, res, boxP2, litSn, arrS, rowsP, boxRw, ColsEq.refl, -List.getD_eq_getElem?_getD]
          · have hjn : j = S.length := by omega
            subst hjn
            refine Cov.go [] [] ?_
            simp [cvT, step, res, boxP2, litSn, arrS, rowsP, boxRw, diffT, diffN, ColsEq.refl, -List.getD_eq_getElem?_getD]
        have hdl : diffN (rowR R k) S ≤ S.length := diffT_le (rowR R k) S S.length
        obtain ⟨n, hn⟩ : ∃ n, diffN (rowR R k) S = n := ⟨_, rfl⟩
        have hstep : nearV (R.take (k + 1)) S = (if (n : Int) = (if out.length = 0 ∨ (n : Int) < best then ((n : Int), []) else (best, out)).1 then ((if out.length = 0 ∨ (n : Int) < best then ((n : Int), []) else (best, out)).1, (if out.length = 0 ∨ (n : Int) < best then ((n : Int), ([] : List (List UInt8))) else (best, out)).2 ++ [rowF R k]) else (if out.length = 0 ∨ (n : Int) < best then ((n : Int), []) else (best, out))) := by
          rw [hsn, ← hn]
          rfl
        rw [hn]
        rw [hn] at hdl
        refine SR.seqW (ι := {y : Int × List (List UInt8) // y = (if out.length = 0 ∨ (n : Int) < best then ((n : Int), []) else (best, out)) ∧ y.2.length ≤ k}) (fun y => ⟨[(10, .int .i64 (n : Nat)), (9, .ptr (nid + 300) 0), (16, .int .i64 k), (15, .int .i64 R.length), (14, rowsP r0 b R), (6, .sl (nid + 180) 0 y.1.2.length), (7, .int .i64 y.1.1), (2, .ptr nid 0), (1, litSn nl S)], [(nid + 300, boxRw (rowF R k) (b k) (rowR R k)), (nid + 180, arrS y.1.2), (nid, boxP2 g0 r0 b G R)], nid + 600, nid⟩) ?_ (fun ⟨⟨yb, yo⟩, hy, hyl⟩ => ?_)
        · refine SR.run (t := .mk) ?_
          unfold litSn boxRw
          simp -dsimp only [aqT, aqU, aqN, aqS, ↓seqK, ↓blkK, ↓loopK, step, stepBin, Nat.add_assoc nid, ↓reduceIte, Option.toList, ← Int.ofNat_tmod, ← Int.ofNat_tdiv, simprocAttr, BEq.rfl, LN_succ]
          refine S2.intro (fun h7 => ?_) (fun h7 => ?_) <;> simp -dsimp only [aqT, aqU, aqN, aqS, ↓seqK, ↓blkK, ↓loopK, step, stepBin, Nat.add_assoc nid, ↓reduceIte, Option.toList, ← Int.ofNat_tmod, ← Int.ofNat_tdiv, simprocAttr, BEq.rfl, LN_succ]
          · have h7' : out.length = 0 := by simp at h7; rw [h7]; rfl
            refine ⟨⟨(n, []), by rw [if_pos (.inl h7')], by simp⟩, Cov.go [] [(nid + 180, 1)] ?_⟩
            simp [cvT, step, res, boxP2, litSn, arrS, rowsP, boxRw, ColsEq.refl, -List.getD_eq_getElem?_getD]
          have h7' : ¬ out.length = 0 := by simp at h7; exact fun e => h7 (List.eq_nil_of_length_eq_zero e)
          refine S2.dec (fun h8 => ?_) (fun h8 => ?_) <;> simp -dsimp only [aqT, aqU, aqN, aqS, ↓seqK, ↓blkK, ↓loopK, step, stepBin, Nat.add_assoc nid, ↓reduceIte, Option.toList, ← Int.ofNat_tmod, ← Int.ofNat_tdiv, simprocAttr, BEq.rfl, LN_succ]
          · refine ⟨⟨(n, []), by rw [if_pos (.inr h8)], by simp⟩, Cov.go [] [(nid + 180, 1)] ?_⟩
            simp [cvT, step, res, boxP2, litSn, arrS, rowsP, boxRw, ColsEq.refl, -List.getD_eq_getElem?_getD]
          · refine ⟨⟨(best, out), by rw [if_neg (fun e => by rcases e with e | e; exact h7' e; exact h8 e)], by simpa using hnl⟩, Cov.go [] [] ?_⟩
            simp [cvT, step, res, boxP2, litSn, arrS, rowsP, boxRw, ColsEq.refl, -List.getD_eq_getElem?_getD]
        rw [← hy] at hstep
        simp only at hstep hyl ⊢
        refine SR.run (t := .mk) ?_
        unfold litSn boxRw arrS
        simp -dsimp only [aqT, aqU, aqN, aqS, ↓seqK, ↓blkK, ↓loopK, step, stepBin, Nat.add_assoc nid, ↓reduceIte, Option.toList, ← Int.ofNat_tmod, ← Int.ofNat_tdiv, simprocAttr, BEq.rfl, LN_succ]
        refine S2.intro (fun h9 => ?_) (fun h9 => ?_) <;> simp -dsimp only [aqT, aqU, aqN, aqS, ↓seqK, ↓blkK, ↓loopK, step, stepBin, Nat.add_assoc nid, ↓reduceIte, Option.toList, ← Int.ofNat_tmod, ← Int.ofNat_tdiv, simprocAttr, BEq.rfl, LN_succ]
        · have h9' : (n : Int) = yb := by simpa using h9
          rw [if_pos h9'] at hstep
          rw [hstep]
          rw [getD_app1 _ (rowF R k) rfl]
          refine ⟨⟨by omega, by omega⟩, (), Cov.go [(nid + 180, nid + 628)] [] ?_⟩
          simp [cvT, step, res, boxP2, litSn, arrS, rowsP, boxRw, ColsEq.refl, -List.getD_eq_getElem?_getD, -List.length_append]
          try simp
        · have h9' : ¬ (n : Int) = yb := by simpa using h9
          rw [if_neg h9'] at hstep
          rw [hstep]
          refine ⟨(), Cov.go [] [] ?_⟩
          simp [cvT, step, res, boxP2, litSn, arrS, rowsP, boxRw, ColsEq.refl, -List.getD_eq_getElem?_getD]
      · refine SR.run (t := .mk) ?_
        simp -dsimp only [aqT, aqU, aqN, aqS, ↓seqK, ↓blkK, ↓loopK, step, stepBin, Nat.add_assoc nid, ↓reduceIte, Option.toList, ← Int.ofNat_tmod, ← Int.ofNat_tdiv, simprocAttr, BEq.rfl, LN_succ]
        refine ⟨by unfold inI64; omega, k + 1, ⟨by omega, by omega⟩, Cov.go [] [] ?_⟩
        simp [cvT, step, res, boxP2, litSn, arrS, rowsP, boxRw, ColsEq.refl, -List.getD_eq_getElem?_getD]
    · have hkn : k = R.length := by omega
      subst hkn
      rw [List.take_length]
      refine ⟨(), Cov.go [] [] ?_⟩
      simp [cvT, step, res, boxP2, litSn, arrS, rowsP, ColsEq.refl, -List.getD_eq_getElem?_getD]
  · unfold arrS
    refine SR.run (t := .mk) ?_
    simp -dsimp only [aqT, aqU, aqN, aqS, ↓seqK, ↓blkK, ↓loopK, step, stepBin, Nat.add_assoc nid, ↓reduceIte, Option.toList, ← Int.ofNat_tmod, ← Int.ofNat_tdiv, simprocAttr, BEq.rfl, LN_succ]
    refine RetOK.go [(nid, nid + 180)] [] (.inl rfl) ?_
    simp [cvT, step, res, boxP2, litSn, ColsEq.refl, -List.getD_eq_getElem?_getD]
end Go.Proofs.YtpifoghhaohhaaaGreatDoor
namespace Go.Proofs.YtpifoghhaohhaaaGreatDoor
open Go.RowKit Go.Shelf Go.Lib
def rowsB (b : Nat → Bool) (R : RowL) : List Rw := (List.range R.length).map fun k => (rowF R k, b k, rowR R k)
theorem rowsB_len (b : Nat → Bool) (R : RowL) : (rowsB b R).length = R.length := by simp [rowsB]
theorem rowsB_at (b : Nat → Bool) (R : RowL) {k : Nat} (hk : k < R.length) : (rowsB b R).getD k z0 = (rowF R k, b k, rowR R k) := by
  unfold rowsB
  rw [List.getD_eq_getElem?_getD, List.getElem?_map, List.getElem?_range hk]
  rfl
theorem rowsB_mem {b : Nat → Bool} {R : RowL} {p : Rw} (h : p ∈ rowsB b R) : ∃ k, k < R.length ∧ p = (rowF R k, b k, rowR R k) := by
  obtain ⟨k, hk, rfl⟩ := List.mem_map.1 h
  exact ⟨k, List.mem_range.1 hk, rfl⟩
def colsRz (l : List Rw) : List Col := [.s fun k => if k < l.length then (l.getD k z0).1 else [], .l (fun k => if k < l.length then (l.getD k z0).2.1 else true) (fun k => if k < l.length then (l.getD k z0).2.2.length else 0) (fun k => if k < l.length then [.s fun j => (l.getD k z0).2.2.getD j []] else [])]
theorem colsRz_eq (l : List Rw) : ColsEq l.length (colsRz l) (colsRw l) := by
  unfold colsRz colsRw
  refine ⟨ColEq.s fun j hj => if_pos hj, ColEq.l fun j hj => ⟨if_pos hj, ?_, ?_⟩, trivial⟩
  · exact if_pos hj
  · exact colsEq_of (if_pos hj)
theorem allCols_eq (n : Nat) (b0 : Bool) (b : Nat → Bool) (G : List (List UInt8)) (R : RowL) (hn : n = R.length + 1) :
    ColEq n (.s fun i => if i = 0 then ([([] : List UInt8)] : List (List UInt8)).getD i [] else rowF R (i - 1)) (.s fun k => ((([], b0, G) :: rowsB b R : List Rw).getD k z0).1) := ColEq.s fun j hj => by
  rcases j with _ | j
  · rfl
  · rw [if_neg (by omega), List.getD_cons_succ, Nat.add_sub_cancel, rowsB_at b R (by omega)]
theorem allColl_eq (n : Nat) (b0 : Bool) (b : Nat → Bool) (G : List (List UInt8)) (R : RowL) (hn : n = R.length + 1) (a : Nat → Bool) (g : Nat → Nat) (c : Nat → List Col) (h0 : a 0 = b0 ∧ g 0 = G.length ∧ c 0 = [.s fun j => G.getD j []]) :
    ColEq n (.l (fun i => if i = 0 then a i else b (i - 1)) (fun i => if i = 0 then g i else (rowR R (i - 1)).length) (fun i => if i = 0 then c i else [.s fun j => (rowR R (i - 1)).getD j []]))
      (.l (fun k => ((([], b0, G) :: rowsB b R : List Rw).getD k z0).2.1) (fun k => ((([], b0, G) :: rowsB b R : List Rw).getD k z0).2.2.length) (fun k => [.s fun j => ((([], b0, G) :: rowsB b R : List Rw).getD k z0).2.2.getD j []])) := ColEq.l fun j hj => by
  rcases j with _ | j
  · obtain ⟨h1, h2, h3⟩ := h0
    rw [if_pos rfl, if_pos rfl, if_pos rfl, List.getD_cons_zero]
    exact ⟨h1, h2, colsEq_of h3⟩
  · rw [if_neg (by omega), if_neg (by omega), if_neg (by omega), List.getD_cons_succ, Nat.add_sub_cancel, rowsB_at b R (by omega)]
    exact ⟨rfl, rfl, ColsEq.refl _ _⟩
theorem allD_c (g0 r0 : Bool) (b : Nat → Bool) (G : List (List UInt8)) (R : RowL) (nid : Nat) (hR : R.length ≤ 1000000) :
    ACall Tryz.prog 129 [dictP g0 r0 b G R] [] nid (.sl nid 0 (R.length + 1)) [(nid, arrRw (([], g0, G) :: rowsB b R))] := by
  have hl := rowsB_len b R
  refine acall_run c129 (by simp [a129]) ?_
  unfold dictP
  simp -dsimp only [aqT, aqU, aqN, aqS, ↓seqK, ↓blkK, ↓loopK, step, stepBin, Nat.add_assoc nid, ↓reduceIte, Option.toList, ← Int.ofNat_tmod, ← Int.ofNat_tdiv, simprocAttr, BEq.rfl, LN_succ, a129]
  refine ⟨⟨by omega, by omega⟩, RetOK.go [(nid, nid + 32)] [] (.inl rfl) ?_⟩
  simp only [a129, cvT, step, res, arrRw, colsRw, List.length_cons, hl]
  simp [cvT, step, res, Nat.add_comm, -List.getD_eq_getElem?_getD]
  exact ⟨allCols_eq _ g0 b G R (by omega), allColl_eq _ g0 b G R (by omega) _ _ _ ⟨rfl, rfl, rfl⟩⟩
theorem allR_c (g0 r0 : Bool) (b : Nat → Bool) (G : List (List UInt8)) (R : RowL) (nid : Nat) (hR : R.length ≤ 1000000) (hG0 : 0 < G.length) (hG : G.length ≤ 1000000) :
    ACall Tryz.prog 102 [dictP g0 r0 b G R] [] nid (.sl nid 0 (R.length + 1)) [(nid, arrRw (([], false, G) :: rowsB b R))] := by
  have hl := rowsB_len b R
  refine acall_run c102 (by simp [a102]) ?_
  unfold dictP
  simp -dsimp only [aqT, aqU, aqN, aqS, ↓seqK, ↓blkK, ↓loopK, step, stepBin, Nat.add_assoc nid, ↓reduceIte, Option.toList, ← Int.ofNat_tmod, ← Int.ofNat_tdiv, simprocAttr, BEq.rfl, LN_succ, a102]
  refine CallX.pure (cloneL_c g0 G _ hG0 (by omega)) ?_
  unfold litS
  simp -dsimp only [aqT, aqU, aqN, aqS, ↓seqK, ↓blkK, ↓loopK, step, stepBin, Nat.add_assoc nid, ↓reduceIte, Option.toList, ← Int.ofNat_tmod, ← Int.ofNat_tdiv, simprocAttr, BEq.rfl, LN_succ]
  refine ⟨⟨by omega, by omega⟩, RetOK.go [(nid, nid + 36)] [] (.inl rfl) ?_⟩
  simp only [a102, cvT, step, res, arrRw, colsRw, List.length_cons, hl]
  simp [cvT, step, res, Nat.add_comm, -List.getD_eq_getElem?_getD]
  exact ⟨allCols_eq _ false b G R (by omega), allColl_eq _ false b G R (by omega) _ _ _ ⟨rfl, rfl, rfl⟩⟩
theorem cloneRw_c (r0 : Bool) (b : Nat → Bool) (R : RowL) (nid : Nat) (hR : R.length ≤ 1000000) (hn : r0 = true → R.length = 0) :
    ACall Tryz.prog 123 [rowsP r0 b R] [] nid (.sl nid 0 R.length) [(nid, arrRw (rowsB b R))] := by
  have hl := rowsB_len b R
  have hc : ∀ n, n = R.length → ColEq n (.s fun k => rowF R k) (.s fun k => ((rowsB b R).getD k z0).1) ∧ ColEq n (.l b (fun k => (rowR R k).length) (fun k => [.s fun j => (rowR R k).getD j []])) (.l (fun k => ((rowsB b R).getD k z0).2.1) (fun k => ((rowsB b R).getD k z0).2.2.length) (fun k => [.s fun j => ((rowsB b R).getD k z0).2.2.getD j []])) := fun n hn =>
    ⟨ColEq.s fun j hj => by rw [rowsB_at b R (by omega)], ColEq.l fun j hj => by rw [rowsB_at b R (by omega)]; exact ⟨rfl, rfl, ColsEq.refl _ _⟩⟩
  refine acall_run c123 (by simp [a123]) ?_
  unfold rowsP
  simp -dsimp only [aqT, aqU, aqN, aqS, ↓seqK, ↓blkK, ↓loopK, step, stepBin, Nat.add_assoc nid, ↓reduceIte, Option.toList, ← Int.ofNat_tmod, ← Int.ofNat_tdiv, simprocAttr, BEq.rfl, LN_succ, a123]
  refine S2.intro (fun h => ?_) (fun h => ?_) <;> simp -dsimp only [aqT, aqU, aqN, aqS, ↓seqK, ↓blkK, ↓loopK, step, stepBin, Nat.add_assoc nid, ↓reduceIte, Option.toList, ← Int.ofNat_tmod, ← Int.ofNat_tdiv, simprocAttr, BEq.rfl, LN_succ]
  · refine RetOK.go [] [(nid, 2)] (.inl rfl) ?_
    have h0 := hn h
    simp [a123, cvT, step, res, arrRw, colsRw, hl, h0, -List.getD_eq_getElem?_getD]
  · refine ⟨⟨by omega, by omega⟩, RetOK.go [(nid, nid + 20)] [] (.inl rfl) ?_⟩
    simp [a123, cvT, step, res, arrRw, colsRw, hl, -List.getD_eq_getElem?_getD]
    exact hc _ (by omega)
theorem keyFact {b : Nat} {Hs : Heap} (hs : Scoped b Hs) {i : Nat} {x : ABlk} (h : getH Hs i = some x) : (b == i) = false ∧ (∀ k, (b + k == i) = false) ∧ i < b := by
  have hlt := hs.lt i (by simpa using getH_key h)
  refine ⟨?_, fun k => ?_, hlt⟩
  · simp; omega
  · simp; omega
def boxS (nl : Bool) (S : SeenL) : Option ABlk := some (.box 65 [litSn nl S])
theorem bestF1_c (Hs : Heap) (is : Nat) (nl : Bool) (S : SeenL) (p : Rw) (nid : Nat) (hs : Scoped nid Hs) (h1 : getH Hs is = boxS nl S) (hl : S.length ≤ 1000000) (hL : p.2.2.length ≤ 1000000) (hS : SnIn p.2.2.length S) :
    ACall Tryz.prog 130 [rwV p, .ptr is 0] Hs nid (.bool (!consB p.2.2 S)) [] := by
  unfold boxS at h1
  obtain ⟨k1, k2, k3⟩ := keyFact hs h1
  have hc := fun m => cons_c p.1 p.2.1 p.2.2 nl S m hl hL hS
  unfold litS litSn at hc
  refine acall_run c130 (by simp [a130]) ?_
  unfold rwV
  unfold litSn at h1
  simp -dsimp only [a130, aqT, aqU, aqN, aqS, ↓seqK, ↓blkK, ↓loopK, step, stepBin, Nat.add_assoc nid, ↓reduceIte, Option.toList, ← Int.ofNat_tmod, ← Int.ofNat_tdiv, simprocAttr, BEq.rfl, LN_succ, k1, k2, h1]
  refine CallO.pure (hc _) ?_
  simp -dsimp only [aqT, aqU, aqN, aqS, ↓seqK, ↓blkK, ↓loopK, step, stepBin, Nat.add_assoc nid, ↓reduceIte, Option.toList, ← Int.ofNat_tmod, ← Int.ofNat_tdiv, simprocAttr, BEq.rfl, LN_succ, k1, k2, h1]
  refine RetOK.goF Hs [] [_] [] [] [] (.inl rfl) hs (by simp [kOK]) rfl ?_
  simp [a130, cvT, step, res]
theorem bestF1R_c (Hs : Heap) (is : Nat) (nl : Bool) (S : SeenL) (p : Rw) (nid : Nat) (hs : Scoped nid Hs) (h1 : getH Hs is = boxS nl S) (hl : S.length ≤ 1000000) (hL : p.2.2.length ≤ 1000000) (hS : SnIn p.2.2.length S) :
    ACall Tryz.prog 140 [rwV p, .ptr is 0] Hs nid (.bool (!consB p.2.2 S)) [] := by
  unfold boxS at h1
  obtain ⟨k1, k2, k3⟩ := keyFact hs h1
  have hc := fun m => fits_c p.1 p.2.1 p.2.2 nl S m hl hL hS
  unfold litS litSn at hc
  refine acall_run c140 (by simp [a140]) ?_
  unfold rwV
  unfold litSn at h1
  simp -dsimp only [a140, aqT, aqU, aqN, aqS, ↓seqK, ↓blkK, ↓loopK, step, stepBin, Nat.add_assoc nid, ↓reduceIte, Option.toList, ← Int.ofNat_tmod, ← Int.ofNat_tdiv, simprocAttr, BEq.rfl, LN_succ, k1, k2, h1]
  refine CallO.pure (hc _) ?_
  simp -dsimp only [aqT, aqU, aqN, aqS, ↓seqK, ↓blkK, ↓loopK, step, stepBin, Nat.add_assoc nid, ↓reduceIte, Option.toList, ← Int.ofNat_tmod, ← Int.ofNat_tdiv, simprocAttr, BEq.rfl, LN_succ, k1, k2, h1]
  refine RetOK.goF Hs [] [_] [] [] [] (.inl rfl) hs (by simp [kOK]) rfl ?_
  simp [a140, cvT, step, res]
theorem bestF2_c (Hs : Heap) (it T : Nat) (t : Int) (y : Int) (r : List UInt8) (nid : Nat) (hs : Scoped nid Hs) (h1 : getH Hs it = some (.box T [.int .i64 t])) :
    ACall Tryz.prog 131 [.agg [.int .i64 y, .str r], .ptr it 0] Hs nid (.bool (y == t)) [] := by
  obtain ⟨k1, k2, k3⟩ := keyFact hs h1
  refine acall_run c131 (by simp [a131]) ?_
  simp -dsimp only [a131, aqT, aqU, aqN, aqS, ↓seqK, ↓blkK, ↓loopK, step, stepBin, Nat.add_assoc nid, ↓reduceIte, Option.toList, ← Int.ofNat_tmod, ← Int.ofNat_tdiv, simprocAttr, BEq.rfl, LN_succ, k1, k2, h1]
  refine RetOK.goF Hs [] [_] [] [] [] (.inl rfl) hs (by simp [kOK]) rfl ?_
  simp [a131, cvT, step, res]
theorem bestF2R_c (Hs : Heap) (it T : Nat) (t : Int) (y : Int) (r : List UInt8) (nid : Nat) (hs : Scoped nid Hs) (h1 : getH Hs it = some (.box T [.int .i64 t])) :
    ACall Tryz.prog 141 [.agg [.int .i64 y, .str r], .ptr it 0] Hs nid (.bool (y == t)) [] := by
  obtain ⟨k1, k2, k3⟩ := keyFact hs h1
  refine acall_run c141 (by simp [a141]) ?_
  simp -dsimp only [a141, aqT, aqU, aqN, aqS, ↓seqK, ↓blkK, ↓loopK, step, stepBin, Nat.add_assoc nid, ↓reduceIte, Option.toList, ← Int.ofNat_tmod, ← Int.ofNat_tdiv, simprocAttr, BEq.rfl, LN_succ, k1, k2, h1]
  refine RetOK.goF Hs [] [_] [] [] [] (.inl rfl) hs (by simp [kOK]) rfl ?_
  simp [a141, cvT, step, res]
end Go.Proofs.YtpifoghhaohhaaaGreatDoor
namespace Go.Proofs.YtpifoghhaohhaaaGreatDoor
open Go.RowKit Go.Shelf Go.Lib
theorem scoped1 {b i : Nat} {x : ABlk} (h : i < b) (hx : lowBlk b (some x) = true) : Scoped b [(i, some x)] := ⟨fun j hj => by simp [keys] at hj; omega, fun j y hy => by
  simp only [getH] at hy
  by_cases e : (i == j) = true
  · simp only [e, cond_true, Option.some.injEq] at hy; subst hy; exact hx
  · simp only [Bool.not_eq_true] at e; simp [e] at hy⟩
theorem arrRz_eq (n : Nat) (l : List Rw) : arrRz n l = some (.arr 67 n (colsRz l)) := rfl
theorem colsRz_self {hi : Nat} {ren nils : List (Nat × Nat)} {n : Nat} (l : List Rw) : AColsEq hi ren nils n (colsRz l) (colsRz l) := AColsEq.self _ rfl
def colT (X : List Rw) (t : Nat) : List (List UInt8) := X.map fun p => p.2.2.getD t []
theorem colT_len (X : List Rw) (t : Nat) : (colT X t).length = X.length := by simp [colT]
theorem colT_at (X : List Rw) (t : Nat) {k : Nat} (hk : k < X.length) : (colT X t).getD k [] = (X.getD k z0).2.2.getD t [] := by
  unfold colT
  simp only [List.getD_eq_getElem?_getD, List.getElem?_map, List.getElem?_eq_getElem hk, Option.map_some, Option.getD_some]
def domS (Y : List (List UInt8)) : MK → Bool
  | .s s => Y.contains s
  | _ => false
def cntS (Y : List (List UInt8)) : MK → Int
  | .s s => (Y.count s : Nat)
  | _ => 0
def mapS (Y : List (List UInt8)) : Option ABlk := some (.map .s (domS Y) (.i .i64 (cntS Y)))
noncomputable def kindsS (Y : List (List UInt8)) : Int := (cardD .s (domS Y) : Nat)
theorem cnt_look (Y : List (List UInt8)) (y : List UInt8) : (bif domS Y (.s y) then cntS Y (.s y) else 0) = (Y.count y : Nat) := by
  unfold domS cntS
  cases h : Y.contains y
  · have : y ∉ Y := by simpa using h
    simp [List.count_eq_zero_of_not_mem this]
  · have : y ∈ Y := by simpa using h
    simp [this]
def mostP (Y : List (List UInt8)) (n : Nat) : Int := (List.range n).foldl (fun m i => max m (((Y.take (i + 1)).count (Y.getD i []) : Nat) : Int)) 0
theorem mostP_succ (Y : List (List UInt8)) (n : Nat) : mostP Y (n + 1) = max (mostP Y n) (((Y.take (n + 1)).count (Y.getD n []) : Nat) : Int) := by
  unfold mostP
  rw [List.range_succ, List.foldl_append]
  rfl
theorem take_snocS (Y : List (List UInt8)) {n : Nat} (hn : n < Y.length) : Y.take (n + 1) = Y.take n ++ [Y.getD n []] := by
  rw [List.getD_eq_getElem?_getD, List.getElem?_eq_getElem hn]
  exact List.take_succ_eq_append_getElem hn
theorem mapS_step (Y : List (List UInt8)) {n : Nat} (hn : n < Y.length) (y : List UInt8) (hy : Y.getD n [] = y) (c : Int) (hc : c = ((Y.take n).count y : Nat) + 1) :
    ∀ q, keyG .s q = true → (if q = .s y then true else domS (Y.take n) q) = domS (Y.take (n + 1)) q ∧ ((if q = .s y then true else domS (Y.take n) q) = true → mVal (.i .i64 (fun p => if p = .s y then c else cntS (Y.take n) p)) q = mVal (.i .i64 (cntS (Y.take (n + 1)))) q) := fun q hq => by
  subst hc
  cases q with
  | i _ => simp [keyG] at hq
  | p _ _ => simp [keyG] at hq
  | s s =>
    rw [take_snocS Y hn, hy]
    simp only [domS, mVal, cntS, MK.s.injEq]
    by_cases e : s = y
    · subst e
      simp
    · have e2 : (s == y) = false := by simpa using e
      have e3 : ¬ y = s := fun h => e h.symm
      simp [e, e2, e3, List.count_append, List.count_cons]
def hasT (S : SeenL) (t : Nat) : Bool := (List.range S.length).any fun k => sT S k == (t : Int)
noncomputable def bestStep (S : SeenL) (X : List Rw) (x : Int × Int × Int) (t : Nat) : Int × Int × Int :=
  if hasT S t = true then x else if x.1 < 0 ∨ mostP (colT X t) X.length < x.2.1 ∨ (mostP (colT X t) X.length = x.2.1 ∧ x.2.2 < kindsS (colT X t)) then ((t : Int), mostP (colT X t) X.length, kindsS (colT X t)) else x
noncomputable def bestTo (S : SeenL) (X : List Rw) (n : Nat) : Int × Int × Int := (List.range n).foldl (bestStep S X) (-1, 0, 0)
theorem bestTo_succ (S : SeenL) (X : List Rw) (n : Nat) : bestTo S X (n + 1) = bestStep S X (bestTo S X n) n := by
  unfold bestTo
  rw [List.range_succ, List.foldl_append]
  rfl
def leftV (g0 : Bool) (b : Nat → Bool) (G : List (List UInt8)) (R : RowL) (S : SeenL) : List Rw := keepW (fun p => !consB p.2.2 S) (([], g0, G) :: rowsB b R)
noncomputable def bestEnd (x : Int × Int × Int) (n : Nat) : Int × Int × Bool := if x.1 < 0 ∨ n < 2 then (0, 0, false) else (x.1, x.2.1, true)
theorem all_len {g0 : Bool} {b : Nat → Bool} {G : List (List UInt8)} {R : RowL} (hlen : ∀ j, j < R.length → (rowR R j).length = G.length) : ∀ p ∈ (([], g0, G) :: rowsB b R : List Rw), p.2.2.length = G.length := fun p hp => by
  rcases List.mem_cons.1 hp with rfl | hp
  · rfl
  · obtain ⟨k, hk, rfl⟩ := rowsB_mem hp
    exact hlen k hk
theorem left_len {g0 : Bool} {b : Nat → Bool} {G : List (List UInt8)} {R : RowL} {S : SeenL} (hlen : ∀ j, j < R.length → (rowR R j).length = G.length) : ∀ p ∈ leftV g0 b G R S, p.2.2.length = G.length := fun p hp => all_len hlen p (List.mem_filter.1 hp).1
set_option maxHeartbeats 4000000 in
theorem best_c (g0 r0 : Bool) (b : Nat → Bool) (G : List (List UInt8)) (R : RowL) (nl : Bool) (S : SeenL) (nid : Nat) (hB : DictW G R) (hS : SnW S) (hD : dictV G R = 0) (hV : seenV G R S = 0) (hI : SnIn G.length S) (hG0 : 0 < G.length) :
    ACall Tryz.prog 49 [dictP g0 r0 b G R, litSn nl S] [] nid (.tup [.int .i64 (bestEnd (bestTo S (leftV g0 b G R S) G.length) (leftV g0 b G R S).length).1, .int .i64 (bestEnd (bestTo S (leftV g0 b G R S) G.length) (leftV g0 b G R S).length).2.1, .bool (bestEnd (bestTo S (leftV g0 b G R S) G.length) (leftV g0 b G R S).length).2.2, .int .i64 0]) [] := by
  have hgl := hB.gl
  have hrl := hB.rl
  have hsl := hS.l
  have hd := fun m => seenD_c g0 r0 b G R nl S m hB hS
  rw [hV] at hd
  have hlen := dictV_rows hD
  have hal := all_len (g0 := g0) (b := b) hlen
  have hll := left_len (g0 := g0) (b := b) (S := S) hlen
  have hlx : (leftV g0 b G R S).length ≤ 1000001 := by
    have := keepW_len (fun p => !consB p.2.2 S) (([], g0, G) :: rowsB b R)
    rw [List.length_cons, rowsB_len] at this
    unfold leftV
    omega
  refine acall_sr c49 (by simp [a49]) ?_
  unfold a49
  refine SR.seq ?_
  unfold dictP litSn at *
  simp -dsimp only [aqT, aqU, aqN, aqS, ↓seqK, ↓blkK, ↓loopK, step, stepBin, Nat.add_assoc nid, ↓reduceIte, Option.toList, ← Int.ofNat_tmod, ← Int.ofNat_tdiv, simprocAttr, BEq.rfl, LN_succ]
  refine SR.seqTo ⟨[(3, .ptr (nid + 4) 0), (2, .ptr nid 0)], [(nid + 4, boxS nl S), (nid, boxP2 g0 r0 b G R)], nid + 100, nid⟩ ?_ ?_
  · simp -dsimp only [aqT, aqU, aqN, aqS, ↓seqK, ↓blkK, ↓loopK, step, stepBin, Nat.add_assoc nid, ↓reduceIte, Option.toList, ← Int.ofNat_tmod, ← Int.ofNat_tdiv, simprocAttr, BEq.rfl, LN_succ]
    refine CallO.pure (hd _) ?_
    simp -dsimp only [aqT, aqU, aqN, aqS, ↓seqK, ↓blkK, ↓loopK, step, stepBin, Nat.add_assoc nid, ↓reduceIte, Option.toList, ← Int.ofNat_tmod, ← Int.ofNat_tdiv, simprocAttr, BEq.rfl, LN_succ]
    refine Cov.go [] [] ?_
    simp [cvT, step, res, boxP2, boxS, litSn, ColsEq.refl, -List.getD_eq_getElem?_getD]
  clear hd
  refine SR.seqTo ⟨[(9, .sl (nid + 200) 0 (leftV g0 b G R S).length), (3, .ptr (nid + 4) 0), (2, .ptr nid 0)], [(nid + 200, arrRz (R.length + 1) (leftV g0 b G R S)), (nid + 4, boxS nl S), (nid, boxP2 g0 r0 b G R)], nid + 300, nid⟩ ?_ ?_
  · try unfold boxP2 boxS litSn
    simp -dsimp only [aqT, aqU, aqN, aqS, ↓seqK, ↓blkK, ↓loopK, step, stepBin, Nat.add_assoc nid, ↓reduceIte, Option.toList, ← Int.ofNat_tmod, ← Int.ofNat_tdiv, simprocAttr, BEq.rfl, LN_succ]
    refine CallO.pure (allD_c g0 r0 b G R _ hrl) ?_
    unfold arrRw
    simp -dsimp only [aqT, aqU, aqN, aqS, ↓seqK, ↓blkK, ↓loopK, step, stepBin, Nat.add_assoc nid, ↓reduceIte, Option.toList, ← Int.ofNat_tmod, ← Int.ofNat_tdiv, simprocAttr, BEq.rfl, LN_succ]
    have e1 : R.length + 1 = (([], g0, G) :: rowsB b R : List Rw).length := by rw [List.length_cons, rowsB_len]
    have hd := fun id m (h1 : id < m) (h2 : nid + 4 < m) (h3 : ¬ id = nid + 4) => deleteW_h 130 id [.ptr (nid + 4) 0] [(nid + 4, boxS nl S)] (fun p => !consB p.2.2 S) (([], g0, G) :: rowsB b R) m h1 (by simpa [keys] using h3) (scoped1 h2 rfl) (by simp [lowAll, idsOfs, idsOf]; omega) (by omega) (fun p hp m' h' => bestF1_c [(nid + 4, boxS nl S)] (nid + 4) nl S p m' (scoped1 (by omega) rfl) (by simp only [getH_hit]) hsl (by rw [hal p hp]; omega) (by rw [hal p hp]; exact hI))
    rw [← e1] at hd
    refine CallO.on (hd (nid + 104) _ (by omega) (by omega) (by omega)) (subH_cons (by simp only [aqT, aqU, aqN, aqS, ↓seqK, ↓blkK, ↓loopK, step, stepBin, Nat.add_assoc nid, ↓reduceIte, Option.toList, ← Int.ofNat_tmod, ← Int.ofNat_tdiv, simprocAttr, BEq.rfl, LN_succ, arrRw, List.length_cons, rowsB_len]) (subH_get (by simp only [aqT, aqU, aqN, aqS, ↓seqK, ↓blkK, ↓loopK, step, stepBin, Nat.add_assoc nid, ↓reduceIte, Option.toList, ← Int.ofNat_tmod, ← Int.ofNat_tdiv, simprocAttr, BEq.rfl, LN_succ, boxS, litSn]))) ?_
    rw [arrRz_eq]
    simp -dsimp only [aqT, aqU, aqN, aqS, ↓seqK, ↓blkK, ↓loopK, step, stepBin, Nat.add_assoc nid, ↓reduceIte, Option.toList, ← Int.ofNat_tmod, ← Int.ofNat_tdiv, simprocAttr, BEq.rfl, LN_succ]
    refine Cov.go [(nid + 200, nid + 104)] [] ?_
    simp [cvT, step, res, boxP2, boxS, litSn, arrRz_eq, leftV, colsRz_self, ColsEq.refl, -List.getD_eq_getElem?_getD]
  rw [arrRz_eq]
  have hno : noOs (colsRz (leftV g0 b G R S)) = true := rfl
  unfold boxS boxP2 litSn
  refine SR.freezeB [nid + 200] (fun n2 => ?_)
  simp only [frzS, frzH, frzBlk, lends, lend, kill, hno, aqT, aqU, aqN, aqS, ↓seqK, ↓blkK, ↓loopK, step, stepBin, Nat.add_assoc nid, ↓reduceIte, Option.toList, ← Int.ofNat_tmod, ← Int.ofNat_tdiv, simprocAttr, BEq.rfl, LN_succ]
  clear hno
  generalize hX : leftV g0 b G R S = X at *
  generalize n2 (nid + 200) = nx
  refine SR.cov (t' := .mk) (st' := ⟨[(9, .lit nx X.length (colsRw X)), (3, .ptr (nid + 4) 0), (2, .ptr nid 0)], [(nid + 4, boxS nl S), (nid, boxP2 g0 r0 b G R)], nid + 300, nid⟩) ?_ ?_
  · refine Cov.go [] [] ?_
    have hz := colsRz_eq X
    simp [cvT, step, res, boxP2, boxS, litSn, hz, ColsEq.refl, -List.getD_eq_getElem?_getD]
  refine SR.seq ?_
  simp -dsimp only [aqT, aqU, aqN, aqS, ↓seqK, ↓blkK, ↓loopK, step, stepBin, Nat.add_assoc nid, ↓reduceIte, Option.toList, ← Int.ofNat_tmod, ← Int.ofNat_tdiv, simprocAttr, BEq.rfl, LN_succ]
  refine SR.seqW (ι := Unit) (fun _ => ⟨[(9, .lit nx X.length (colsRw X)), (10, .int .i64 (bestTo S X G.length).1), (11, .int .i64 (bestTo S X G.length).2.1), (12, .int .i64 (bestTo S X G.length).2.2)], [], nid + 5000, nid⟩) ?_ (fun _ => ?_)
  · unfold boxP2
    refine SR.seqTo ⟨[(31, .int .i64 0), (30, .int .i64 G.length), (10, .int .i64 (-1)), (11, .int .i64 0), (12, .int .i64 0), (9, .lit nx X.length (colsRw X)), (3, .ptr (nid + 4) 0), (2, .ptr nid 0)], [(nid + 4, boxS nl S), (nid, boxP2 g0 r0 b G R)], nid + 350, nid⟩ ?_ ?_
    · simp -dsimp only [aqT, aqU, aqN, aqS, ↓seqK, ↓blkK, ↓loopK, step, stepBin, Nat.add_assoc nid, ↓reduceIte, Option.toList, ← Int.ofNat_tmod, ← Int.ofNat_tdiv, simprocAttr, BEq.rfl, LN_succ]
      refine Cov.go [] [] ?_
      simp [cvT, step, res, boxP2, boxS, litSn, ColsEq.refl, -List.getD_eq_getElem?_getD]
    refine SR.block ?_
    refine SR.loopP (fun t : Nat => t ≤ G.length) (fun t => ⟨[(31, .int .i64 t), (30, .int .i64 G.length), (10, .int .i64 (bestTo S X t).1), (11, .int .i64 (bestTo S X t).2.1), (12, .int .i64 (bestTo S X t).2.2), (9, .lit nx X.length (colsRw X)), (3, .ptr (nid + 4) 0), (2, .ptr nid 0)], [(nid + 4, boxS nl S), (nid, boxP2 g0 r0 b G R)], nid + 400, nid⟩) (fun t => G.length + 1 - t) 0 (by omega) (Cov.go [] [] ?_) (fun t ht => ?_)
    · simp [cvT, step, res, boxP2, boxS, litSn, bestTo, ColsEq.refl, -List.getD_eq_getElem?_getD]
    refine SR.seq ?_
    simp -dsimp only [aqT, aqU, aqN, aqS, ↓seqK, ↓blkK, ↓loopK, step, stepBin, Nat.add_assoc nid, ↓reduceIte, Option.toList, ← Int.ofNat_tmod, ← Int.ofNat_tdiv, simprocAttr, BEq.rfl, LN_succ]
    refine SR.seq ?_
    simp -dsimp only [aqT, aqU, aqN, aqS, ↓seqK, ↓blkK, ↓loopK, step, stepBin, Nat.add_assoc nid, ↓reduceIte, Option.toList, ← Int.ofNat_tmod, ← Int.ofNat_tdiv, simprocAttr, BEq.rfl, LN_succ]
    refine S2.dec (fun h4 => ?_) (fun h4 => ?_) <;> simp -dsimp only [aqT, aqU, aqN, aqS, ↓seqK, ↓blkK, ↓loopK, step, stepBin, Nat.add_assoc nid, ↓reduceIte, Option.toList, ← Int.ofNat_tmod, ← Int.ofNat_tdiv, simprocAttr, BEq.rfl, LN_succ]
    · have htl : t < G.length := by omega
      have hbs := bestTo_succ S X t
      generalize hx0 : bestTo S X t = x0 at *
      obtain ⟨bb, ml, kl⟩ := x0
      simp only at *
      have htm : ∀ k, k < X.length → t < (X.getD k z0).2.2.length := fun k hk => by rw [hll _ (rwMem hk)]; exact htl
      refine SR.seqW (ι := Unit) (fun _ => ⟨[(31, .int .i64 t), (30, .int .i64 G.length), (10, .int .i64 (bestTo S X (t + 1)).1), (11, .int .i64 (bestTo S X (t + 1)).2.1), (12, .int .i64 (bestTo S X (t + 1)).2.2), (9, .lit nx X.length (colsRw X)), (3, .ptr (nid + 4) 0), (2, .ptr nid 0)], [(nid + 4, boxS nl S), (nid, boxP2 g0 r0 b G R)], nid + 3000, nid⟩) ?_ (fun _ => ?_)
      · refine SR.block ?_
        refine SR.seqTo ⟨[(13, .ptr (nid + 500) 0), (10, .int .i64 bb), (11, .int .i64 ml), (12, .int .i64 kl), (31, .int .i64 t), (30, .int .i64 G.length), (9, .lit nx X.length (colsRw X)), (3, .ptr (nid + 4) 0), (2, .ptr nid 0)], [(nid + 500, some (.box 3 [.int .i64 t])), (nid + 4, boxS nl S), (nid, boxP2 g0 r0 b G R)], nid + 600, nid⟩ ?_ ?_
        · simp -dsimp only [aqT, aqU, aqN, aqS, ↓seqK, ↓blkK, ↓loopK, step, stepBin, Nat.add_assoc nid, ↓reduceIte, Option.toList, ← Int.ofNat_tmod, ← Int.ofNat_tdiv, simprocAttr, BEq.rfl, LN_succ]
          refine Cov.go [(nid + 500, nid + 408)] [] ?_
          simp [cvT, step, res, boxP2, boxS, litSn, ColsEq.refl, -List.getD_eq_getElem?_getD]
        refine SR.seqW (ι := {_u : Unit // hasT S t = false}) (fun _ => ⟨[(13, .ptr (nid + 500) 0), (10, .int .i64 bb), (11, .int .i64 ml), (12, .int .i64 kl), (31, .int .i64 t), (30, .int .i64 G.length), (9, .lit nx X.length (colsRw X)), (3, .ptr (nid + 4) 0), (2, .ptr nid 0)], [(nid + 500, some (.box 3 [.int .i64 t])), (nid + 4, boxS nl S), (nid, boxP2 g0 r0 b G R)], nid + 700, nid⟩) ?_ (fun ⟨_, hno⟩ => ?_)
        · refine SR.run (t := .mk) ?_
          unfold boxS
          have hcs := fun m (hm : nid + 500 < m) => containsSn_h 131 [.ptr (nid + 500) 0] [(nid + 500, some (.box 3 [.int .i64 t]))] (fun k => sT S k == (t : Int)) nl S.length (sT S) (sR S) m (scoped1 hm rfl) (by simp [lowAll, idsOfs, idsOf]; omega) hsl (fun k hk m' h' => bestF2_c [(nid + 500, some (.box 3 [.int .i64 t]))] (nid + 500) 3 (t : Int) (sT S k) (sR S k) m' (scoped1 (by omega) rfl) (by simp only [getH_hit]))
          unfold litSn
          simp -dsimp only [aqT, aqU, aqN, aqS, ↓seqK, ↓blkK, ↓loopK, step, stepBin, Nat.add_assoc nid, ↓reduceIte, Option.toList, ← Int.ofNat_tmod, ← Int.ofNat_tdiv, simprocAttr, BEq.rfl, LN_succ]
          refine CallO.on (hcs _ (by omega)) (subH_get (by simp only [aqT, aqU, aqN, aqS, ↓seqK, ↓blkK, ↓loopK, step, stepBin, Nat.add_assoc nid, ↓reduceIte, Option.toList, ← Int.ofNat_tmod, ← Int.ofNat_tdiv, simprocAttr, BEq.rfl, LN_succ])) ?_
          have eh : (List.range S.length).any (fun k => sT S k == (t : Int)) = hasT S t := rfl
          rw [eh]
          simp -dsimp only [aqT, aqU, aqN, aqS, ↓seqK, ↓blkK, ↓loopK, step, stepBin, Nat.add_assoc nid, ↓reduceIte, Option.toList, ← Int.ofNat_tmod, ← Int.ofNat_tdiv, simprocAttr, BEq.rfl, LN_succ]
          cases hh : hasT S t <;> simp -dsimp only [aqT, aqU, aqN, aqS, ↓seqK, ↓blkK, ↓loopK, step, stepBin, Nat.add_assoc nid, ↓reduceIte, Option.toList, ← Int.ofNat_tmod, ← Int.ofNat_tdiv, simprocAttr, BEq.rfl, LN_succ]
          · refine ⟨⟨(), rfl⟩, Cov.go [] [] ?_⟩
            simp [cvT, step, res, boxP2, boxS, litSn, ColsEq.refl, -List.getD_eq_getElem?_getD]
          · refine ⟨(), Cov.go [] [] ?_⟩
            rw [hbs]
            unfold bestStep
            rw [if_pos hh]
            simp [cvT, step, res, boxP2, boxS, litSn, ColsEq.refl, -List.getD_eq_getElem?_getD]
        have hbs2 : bestTo S X (t + 1) = if bb < 0 ∨ mostP (colT X t) X.length < ml ∨ (mostP (colT X t) X.length = ml ∧ kl < kindsS (colT X t)) then ((t : Int), mostP (colT X t) X.length, kindsS (colT X t)) else (bb, ml, kl) := by
          rw [hbs]
          unfold bestStep
          rw [if_neg (by rw [hno]; simp)]
        refine SR.seq ?_
        simp -dsimp only [aqT, aqU, aqN, aqS, ↓seqK, ↓blkK, ↓loopK, step, stepBin, Nat.add_assoc nid, ↓reduceIte, Option.toList, ← Int.ofNat_tmod, ← Int.ofNat_tdiv, simprocAttr, BEq.rfl, LN_succ]
        refine SR.seq ?_
        simp -dsimp only [aqT, aqU, aqN, aqS, ↓seqK, ↓blkK, ↓loopK, step, stepBin, Nat.add_assoc nid, ↓reduceIte, Option.toList, ← Int.ofNat_tmod, ← Int.ofNat_tdiv, simprocAttr, BEq.rfl, LN_succ]
        refine SR.seqW (ι := Unit) (fun _ => ⟨[(15, .int .i64 (mostP (colT X t) X.length)), (14, .mp (nid + 800)), (13, .ptr (nid + 500) 0), (10, .int .i64 bb), (11, .int .i64 ml), (12, .int .i64 kl), (31, .int .i64 t), (30, .int .i64 G.length), (9, .lit nx X.length (colsRw X)), (3, .ptr (nid + 4) 0), (2, .ptr nid 0)], [(nid + 800, mapS (colT X t)), (nid + 500, some (.box 3 [.int .i64 t])), (nid + 4, boxS nl S), (nid, boxP2 g0 r0 b G R)], nid + 1500, nid⟩) ?_ (fun _ => ?_)
        · refine SR.seqTo ⟨[(40, .int .i64 0), (39, .int .i64 X.length), (38, .lit nx X.length (colsRw X)), (15, .int .i64 0), (14, .mp (nid + 800)), (13, .ptr (nid + 500) 0), (10, .int .i64 bb), (11, .int .i64 ml), (12, .int .i64 kl), (31, .int .i64 t), (30, .int .i64 G.length), (9, .lit nx X.length (colsRw X)), (3, .ptr (nid + 4) 0), (2, .ptr nid 0)], [(nid + 800, mapS []), (nid + 500, some (.box 3 [.int .i64 t])), (nid + 4, boxS nl S), (nid, boxP2 g0 r0 b G R)], nid + 900, nid⟩ ?_ ?_
          · simp -dsimp only [aqT, aqU, aqN, aqS, ↓seqK, ↓blkK, ↓loopK, step, stepBin, Nat.add_assoc nid, ↓reduceIte, Option.toList, ← Int.ofNat_tmod, ← Int.ofNat_tdiv, simprocAttr, BEq.rfl, LN_succ]
            refine Cov.go [(nid + 800, nid + 700)] [] ?_
            simp [cvT, step, res, boxP2, boxS, litSn, mapS, ColsEq.refl, -List.getD_eq_getElem?_getD]
            intro q hq
            cases q <;> simp [domS, cntS, mVal]
          refine SR.block ?_
          refine SR.loopP (fun k : Nat => k ≤ X.length) (fun k => ⟨[(40, .int .i64 k), (39, .int .i64 X.length), (38, .lit nx X.length (colsRw X)), (15, .int .i64 (mostP (colT X t) k)), (14, .mp (nid + 800)), (13, .ptr (nid + 500) 0), (10, .int .i64 bb), (11, .int .i64 ml), (12, .int .i64 kl), (31, .int .i64 t), (30, .int .i64 G.length), (9, .lit nx X.length (colsRw X)), (3, .ptr (nid + 4) 0), (2, .ptr nid 0)], [(nid + 800, mapS ((colT X t).take k)), (nid + 500, some (.box 3 [.int .i64 t])), (nid + 4, boxS nl S), (nid, boxP2 g0 r0 b G R)], nid + 1000, nid⟩) (fun k => X.length + 1 - k) 0 (by omega) (Cov.go [] [] ?_) (fun k hk => ?_)
          · simp [cvT, step, res, boxP2, boxS, litSn, mapS, mostP, ColsEq.refl, -List.getD_eq_getElem?_getD]
          refine SR.run (t := .mk) ?_
          have hms := mostP_succ (colT X t) k
          have hmst := fun hk => mapS_step (colT X t) (n := k) hk
          have hat := fun hk => colT_at X t (k := k) hk
          have hlk := colT_len X t
          have hty := htm k
          unfold mapS colsRw
          simp -dsimp only [aqT, aqU, aqN, aqS, ↓seqK, ↓blkK, ↓loopK, step, stepBin, Nat.add_assoc nid, ↓reduceIte, Option.toList, ← Int.ofNat_tmod, ← Int.ofNat_tdiv, simprocAttr, BEq.rfl, LN_succ]
          refine S2.dec (fun h5 => ?_) (fun h5 => ?_) <;> simp -dsimp only [aqT, aqU, aqN, aqS, ↓seqK, ↓blkK, ↓loopK, step, stepBin, Nat.add_assoc nid, ↓reduceIte, Option.toList, ← Int.ofNat_tmod, ← Int.ofNat_tdiv, simprocAttr, BEq.rfl, LN_succ]
          · have hkl : k < X.length := by omega
            have hat := hat hkl
            have hty := hty hkl
            have hmst := hmst (by omega) _ hat
            rw [hat] at hms
            have hcl := cnt_look ((colT X t).take k) ((X.getD k z0).2.2.getD t [])
            have hcc : (((colT X t).take k).count ((X.getD k z0).2.2.getD t []) : Nat) ≤ k := Nat.le_trans List.count_le_length (by rw [List.length_take]; omega)
            have hcn : (((colT X t).take (k + 1)).count ((X.getD k z0).2.2.getD t [])) = (((colT X t).take k).count ((X.getD k z0).2.2.getD t [])) + 1 := by
              rw [take_snocS _ (by omega), hat]
              simp [List.count_append]
            rw [hcn] at hms
            generalize (X.getD k z0).2.2.getD t [] = y at *
            rw [hcl]
            generalize hcz : ((colT X t).take k).count y = cz at *
            refine ⟨by omega, by omega, by unfold inI64; omega, by omega, by unfold inI64; omega, k + 1, ⟨by omega, by omega⟩, Cov.go [] [] ?_⟩
            rw [hms]
            simp [cvT, step, res, boxP2, boxS, litSn, mapS, colsRw, ColsEq.refl, -List.getD_eq_getElem?_getD]
            intro q hq
            have h9 := hmst ((cz : Int) + 1) (by omega) q hq
            simpa using h9
          · have hkn : k = X.length := by omega
            subst hkn
            refine ⟨(), Cov.go [] [] ?_⟩
            have ht2 : (colT X t).take X.length = colT X t := List.take_of_length_le (by omega)
            simp only [ht2]
            simp [cvT, step, res, boxP2, boxS, litSn, mapS, colsRw, ColsEq.refl, -List.getD_eq_getElem?_getD]
        rw [hbs2]
        generalize hmm : mostP (colT X t) X.length = mm at *
        unfold mapS
        have hkk : ((cardD .s (domS (colT X t)) : Nat) : Int) = kindsS (colT X t) := rfl
        generalize hkd : kindsS (colT X t) = kk at *
        refine SR.run (t := .mk) ?_
        unfold boxS
        simp -dsimp only [aqT, aqU, aqN, aqS, ↓seqK, ↓blkK, ↓loopK, step, stepBin, Nat.add_assoc nid, ↓reduceIte, Option.toList, ← Int.ofNat_tmod, ← Int.ofNat_tdiv, simprocAttr, BEq.rfl, LN_succ]
        refine S2.dec (fun h6 => ?_) (fun h6 => ?_) <;> simp -dsimp only [aqT, aqU, aqN, aqS, ↓seqK, ↓blkK, ↓loopK, step, stepBin, Nat.add_assoc nid, ↓reduceIte, Option.toList, ← Int.ofNat_tmod, ← Int.ofNat_tdiv, simprocAttr, BEq.rfl, LN_succ, hkk]
        · rw [if_pos (.inl h6)]
          refine ⟨(), Cov.go [] [] ?_⟩
          simp [cvT, step, res, boxP2, boxS, litSn, colsRw, ColsEq.refl, -List.getD_eq_getElem?_getD]
        refine S2.dec (fun h7 => ?_) (fun h7 => ?_) <;> simp -dsimp only [aqT, aqU, aqN, aqS, ↓seqK, ↓blkK, ↓loopK, step, stepBin, Nat.add_assoc nid, ↓reduceIte, Option.toList, ← Int.ofNat_tmod, ← Int.ofNat_tdiv, simprocAttr, BEq.rfl, LN_succ, hkk]
        · rw [if_pos (.inr (.inl h7))]
          refine ⟨(), Cov.go [] [] ?_⟩
          simp [cvT, step, res, boxP2, boxS, litSn, colsRw, ColsEq.refl, -List.getD_eq_getElem?_getD]
        refine S2.intro (fun h8 => ?_) (fun h8 => ?_) <;> simp -dsimp only [aqT, aqU, aqN, aqS, ↓seqK, ↓blkK, ↓loopK, step, stepBin, Nat.add_assoc nid, ↓reduceIte, Option.toList, ← Int.ofNat_tmod, ← Int.ofNat_tdiv, simprocAttr, BEq.rfl, LN_succ, hkk]
        · have h8' : mm = ml := by simpa using h8
          refine S2.dec (fun h9 => ?_) (fun h9 => ?_) <;> simp -dsimp only [aqT, aqU, aqN, aqS, ↓seqK, ↓blkK, ↓loopK, step, stepBin, Nat.add_assoc nid, ↓reduceIte, Option.toList, ← Int.ofNat_tmod, ← Int.ofNat_tdiv, simprocAttr, BEq.rfl, LN_succ, hkk]
          · rw [if_pos (.inr (.inr ⟨h8', h9⟩))]
            refine ⟨(), Cov.go [] [] ?_⟩
            simp [cvT, step, res, boxP2, boxS, litSn, colsRw, ColsEq.refl, -List.getD_eq_getElem?_getD]
          · rw [if_neg (fun e => by rcases e with e | e | e; exact h6 e; exact h7 e; exact h9 e.2)]
            refine ⟨(), Cov.go [] [] ?_⟩
            simp [cvT, step, res, boxP2, boxS, litSn, colsRw, ColsEq.refl, -List.getD_eq_getElem?_getD]
        · have h8' : ¬ mm = ml := by simpa using h8
          rw [if_neg (fun e => by rcases e with e | e | e; exact h6 e; exact h7 e; exact h8' e.1)]
          refine ⟨(), Cov.go [] [] ?_⟩
          simp [cvT, step, res, boxP2, boxS, litSn, colsRw, ColsEq.refl, -List.getD_eq_getElem?_getD]
      · refine SR.run (t := .mk) ?_
        simp -dsimp only [aqT, aqU, aqN, aqS, ↓seqK, ↓blkK, ↓loopK, step, stepBin, Nat.add_assoc nid, ↓reduceIte, Option.toList, ← Int.ofNat_tmod, ← Int.ofNat_tdiv, simprocAttr, BEq.rfl, LN_succ]
        refine ⟨by unfold inI64; omega, t + 1, ⟨by omega, by omega⟩, Cov.go [] [] ?_⟩
        simp [cvT, step, res, boxP2, boxS, litSn, ColsEq.refl, -List.getD_eq_getElem?_getD]
    · have htn : t = G.length := by omega
      subst htn
      refine ⟨(), Cov.go [] [] ?_⟩
      simp [cvT, step, res, colsRw, ColsEq.refl, -List.getD_eq_getElem?_getD]
  · generalize bestTo S X G.length = x at *
    obtain ⟨bb, ml, kl⟩ := x
    simp only
    refine SR.run (t := .mk) ?_
    unfold bestEnd
    simp -dsimp only [aqT, aqU, aqN, aqS, ↓seqK, ↓blkK, ↓loopK, step, stepBin, Nat.add_assoc nid, ↓reduceIte, Option.toList, ← Int.ofNat_tmod, ← Int.ofNat_tdiv, simprocAttr, BEq.rfl, LN_succ]
    refine S2.dec (fun h5 => ?_) (fun h5 => ?_) <;> simp -dsimp only [aqT, aqU, aqN, aqS, ↓seqK, ↓blkK, ↓loopK, step, stepBin, Nat.add_assoc nid, ↓reduceIte, Option.toList, ← Int.ofNat_tmod, ← Int.ofNat_tdiv, simprocAttr, BEq.rfl, LN_succ]
    · rw [if_pos (.inl h5)]
      refine RetOK.pure (.inl rfl) rfl ?_
      simp [cvT, step, res]
    refine S2.dec (fun h6 => ?_) (fun h6 => ?_) <;> simp -dsimp only [aqT, aqU, aqN, aqS, ↓seqK, ↓blkK, ↓loopK, step, stepBin, Nat.add_assoc nid, ↓reduceIte, Option.toList, ← Int.ofNat_tmod, ← Int.ofNat_tdiv, simprocAttr, BEq.rfl, LN_succ]
    · rw [if_pos (.inr (by omega))]
      refine RetOK.pure (.inl rfl) rfl ?_
      simp [cvT, step, res]
    · rw [if_neg (by omega)]
      refine RetOK.pure (.inl rfl) rfl ?_
      simp [cvT, step, res]
end Go.Proofs.YtpifoghhaohhaaaGreatDoor
namespace Go.Proofs.YtpifoghhaohhaaaGreatDoor
open Go.RowKit Go.Shelf Go.Lib
def cmpV (a b : Int) : Int := if a < b then -1 else if b < a then 1 else 0
theorem nan_c (a : Int) (nid : Nat) : ACall Tryz.prog 211 [.int .i64 a] [] nid (.bool false) [] := by
  refine acall_run c211 (by simp [a211]) ?_
  simp -dsimp only [a211, aqT, aqU, aqN, aqS, ↓seqK, ↓blkK, ↓loopK, step, stepBin, Nat.add_assoc nid, ↓reduceIte, Option.toList, ← Int.ofNat_tmod, ← Int.ofNat_tdiv, simprocAttr, BEq.rfl, LN_succ, bne_self_eq_false]
  refine RetOK.pure (.inl rfl) rfl ?_
  simp [cvT, step, res]
theorem cmpI_c (a b : Int) (nid : Nat) : ACall Tryz.prog 143 [.int .i64 a, .int .i64 b] [] nid (.int .i64 (cmpV a b)) [] := by
  refine acall_run c143 (by simp [a143]) ?_
  simp -dsimp only [aqT, aqU, aqN, aqS, ↓seqK, ↓blkK, ↓loopK, step, stepBin, Nat.add_assoc nid, ↓reduceIte, Option.toList, ← Int.ofNat_tmod, ← Int.ofNat_tdiv, simprocAttr, BEq.rfl, LN_succ, a143]
  refine CallO.pure (nan_c _ _) ?_
  simp -dsimp only [aqT, aqU, aqN, aqS, ↓seqK, ↓blkK, ↓loopK, step, stepBin, Nat.add_assoc nid, ↓reduceIte, Option.toList, ← Int.ofNat_tmod, ← Int.ofNat_tdiv, simprocAttr, BEq.rfl, LN_succ]
  refine CallO.pure (nan_c _ _) ?_
  simp -dsimp only [aqT, aqU, aqN, aqS, ↓seqK, ↓blkK, ↓loopK, step, stepBin, Nat.add_assoc nid, ↓reduceIte, Option.toList, ← Int.ofNat_tmod, ← Int.ofNat_tdiv, simprocAttr, BEq.rfl, LN_succ]
  unfold cmpV
  refine S2.dec (fun h1 => ?_) (fun h1 => ?_) <;> simp -dsimp only [aqT, aqU, aqN, aqS, ↓seqK, ↓blkK, ↓loopK, step, stepBin, Nat.add_assoc nid, ↓reduceIte, Option.toList, ← Int.ofNat_tmod, ← Int.ofNat_tdiv, simprocAttr, BEq.rfl, LN_succ]
  · rw [if_pos h1]
    refine RetOK.pure (.inl rfl) rfl ?_
    simp [cvT, step, res]
  rw [if_neg h1]
  refine S2.dec (fun h2 => ?_) (fun h2 => ?_) <;> simp -dsimp only [aqT, aqU, aqN, aqS, ↓seqK, ↓blkK, ↓loopK, step, stepBin, Nat.add_assoc nid, ↓reduceIte, Option.toList, ← Int.ofNat_tmod, ← Int.ofNat_tdiv, simprocAttr, BEq.rfl, LN_succ]
  · rw [if_pos h2]
    refine RetOK.pure (.inl rfl) rfl ?_
    simp [cvT, step, res]
  · rw [if_neg h2]
    refine RetOK.pure (.inl rfl) rfl ?_
    simp [cvT, step, res]
theorem orInt_c (nl : Bool) (l : List Int) (nid : Nat) (hl : l.length ≤ 1000000000) : ACall Tryz.prog 142 [litI nl l] [] nid (.int .i64 (firstBad (fun x : Int => x) l)) [] := by
  refine acall_run c142 (by simp [a142]) ?_
  unfold litI
  simp -dsimp only [aqT, aqU, aqN, ↓seqK, ↓blkK, ↓loopK, step, stepBin, Nat.reduceBEq, Nat.reduceBeqDiff, Nat.add_assoc nid, Nat.reduceAdd, reduceCtorEq, ↓reduceIte, Nat.reduceLeDiff, Nat.reduceBneDiff, Option.toList, ← Int.ofNat_tmod, ← Int.ofNat_tdiv, Nat.reduceLT, a142]
  refine LP.mkP (fun k : Nat => k ≤ l.length ∧ firstBad (fun x : Int => x) (l.take k) = 0) (fun k : Nat => ⟨[(8, .int .i64 k), (7, .int .i64 l.length), (6, litI nl l), (3, .int .i64 0)], [], nid + 100, nid⟩) (fun k => l.length + 1 - k) 0 ⟨by omega, rfl⟩ (Cov.go [] [] ?_) (fun k hk => ?_)
  · simp [cvT, step, res, litI]
  unfold litI
  obtain ⟨hk, hb⟩ := hk
  simp -dsimp only [aqT, aqU, aqN, aqS, ↓seqK, ↓blkK, ↓loopK, step, stepBin, Nat.add_assoc nid, ↓reduceIte, Option.toList, ← Int.ofNat_tmod, ← Int.ofNat_tdiv, simprocAttr, BEq.rfl, LN_succ]
  refine S2.dec (fun h3 => ?_) (fun h3 => ?_) <;> simp -dsimp only [aqT, aqU, aqN, aqS, ↓seqK, ↓blkK, ↓loopK, step, stepBin, Nat.add_assoc nid, ↓reduceIte, Option.toList, ← Int.ofNat_tmod, ← Int.ofNat_tdiv, simprocAttr, BEq.rfl, LN_succ]
  · have hkl : k < l.length := by omega
    have bad : l.getD k 0 ≠ 0 → firstBad (fun x : Int => x) l = l.getD k 0 := fun h => firstBad_hit (x := l.getD k 0) (by rw [List.getD_eq_getElem?_getD, List.getElem?_eq_getElem hkl]; rfl) hb h
    have good : l.getD k 0 = 0 → firstBad (fun x : Int => x) (l.take (k + 1)) = 0 := fun h => firstBad_step (x := l.getD k 0) (by rw [List.getD_eq_getElem?_getD, List.getElem?_eq_getElem hkl]; rfl) hb h
    refine ⟨by omega, S2.intro (fun h4 => ?_) (fun h4 => ?_)⟩ <;> simp -dsimp only [aqT, aqU, aqN, aqS, ↓seqK, ↓blkK, ↓loopK, step, stepBin, Nat.add_assoc nid, ↓reduceIte, Option.toList, ← Int.ofNat_tmod, ← Int.ofNat_tdiv, simprocAttr, BEq.rfl, LN_succ]
    · rw [bad (by simpa using h4)]
      refine RetOK.pure (.inl rfl) rfl ?_
      simp [cvT, step, res]
    · refine ⟨by unfold inI64; omega, k + 1, ⟨⟨by omega, good (by simpa using h4)⟩, by omega⟩, Cov.go [] [] ?_⟩
      simp [cvT, step, res, litI]
  · have hkn : k = l.length := by omega
    subst hkn
    rw [List.take_length] at hb
    rw [hb]
    refine RetOK.pure (.inl rfl) rfl ?_
    simp [cvT, step, res]
theorem or2_c (nl : Bool) (a b : Int) (nid : Nat) : ACall Tryz.prog 142 [.lit nl 2 [.i .i64 fun i => [a, b].getD i 0]] [] nid (.int .i64 (if a = 0 then b else a)) [] := by
  have h := orInt_c nl [a, b] nid (by simp)
  have e : firstBad (fun x : Int => x) [a, b] = if a = 0 then b else a := by
    unfold firstBad
    by_cases h0 : a = 0
    · subst h0
      by_cases h1 : b = 0 <;> simp [firstBad, h1]
    · simp [h0]
  rw [e] at h
  exact h
theorem orLess (mm ml kl kk : Int) : (if cmpV mm ml = 0 then cmpV kl kk else cmpV mm ml) < 0 ↔ (mm < ml ∨ (mm = ml ∧ kl < kk)) := by
  unfold cmpV
  split <;> split <;> (try split) <;> (try split) <;> omega
set_option maxHeartbeats 4000000 in
theorem bestR_c (g0 r0 : Bool) (b : Nat → Bool) (G : List (List UInt8)) (R : RowL) (nl : Bool) (S : SeenL) (nid : Nat) (hB : DictW G R) (hS : SnW S) (hD : dictV G R = 0) (hV : seenV G R S = 0) (hI : SnIn G.length S) (hG0 : 0 < G.length) :
    ACall Tryz.prog 53 [dictP g0 r0 b G R, litSn nl S] [] nid (.tup [.int .i64 (bestEnd (bestTo S (leftV false b G R S) G.length) (leftV false b G R S).length).1, .int .i64 (bestEnd (bestTo S (leftV false b G R S) G.length) (leftV false b G R S).length).2.1, .bool (bestEnd (bestTo S (leftV false b G R S) G.length) (leftV false b G R S).length).2.2]) [] := by
  have hgl := hB.gl
  have hrl := hB.rl
  have hsl := hS.l
  have hlen := dictV_rows hD
  have hal := all_len (g0 := false) (b := b) hlen
  have hll := left_len (g0 := false) (b := b) (S := S) hlen
  have hlx : (leftV false b G R S).length ≤ 1000001 := by
    have := keepW_len (fun p => !consB p.2.2 S) (([], false, G) :: rowsB b R)
    rw [List.length_cons, rowsB_len] at this
    unfold leftV
    omega
  refine acall_sr c53 (by simp [a53]) ?_
  unfold a53
  refine SR.seq ?_
  unfold dictP litSn at *
  simp -dsimp only [aqT, aqU, aqN, aqS, ↓seqK, ↓blkK, ↓loopK, step, stepBin, Nat.add_assoc nid, ↓reduceIte, Option.toList, ← Int.ofNat_tmod, ← Int.ofNat_tdiv, simprocAttr, BEq.rfl, LN_succ]
  refine SR.seqTo ⟨[(7, .sl (nid + 200) 0 (leftV false b G R S).length), (3, .ptr (nid + 4) 0), (2, .ptr nid 0)], [(nid + 200, arrRz (R.length + 1) (leftV false b G R S)), (nid + 4, boxS nl S), (nid, boxP2 g0 r0 b G R)], nid + 300, nid⟩ ?_ ?_
  · try unfold boxP2 boxS litSn
    simp -dsimp only [aqT, aqU, aqN, aqS, ↓seqK, ↓blkK, ↓loopK, step, stepBin, Nat.add_assoc nid, ↓reduceIte, Option.toList, ← Int.ofNat_tmod, ← Int.ofNat_tdiv, simprocAttr, BEq.rfl, LN_succ]
    refine CallO.pure (allR_c g0 r0 b G R _ hrl hG0 hgl) ?_
    unfold arrRw
    simp -dsimp only [aqT, aqU, aqN, aqS, ↓seqK, ↓blkK, ↓loopK, step, stepBin, Nat.add_assoc nid, ↓reduceIte, Option.toList, ← Int.ofNat_tmod, ← Int.ofNat_tdiv, simprocAttr, BEq.rfl, LN_succ]
    have e1 : R.length + 1 = (([], false, G) :: rowsB b R : List Rw).length := by rw [List.length_cons, rowsB_len]
    have hd := fun id m (h1 : id < m) (h2 : nid + 4 < m) (h3 : ¬ id = nid + 4) => deleteW_h 140 id [.ptr (nid + 4) 0] [(nid + 4, boxS nl S)] (fun p => !consB p.2.2 S) (([], false, G) :: rowsB b R) m h1 (by simpa [keys] using h3) (scoped1 h2 rfl) (by simp [lowAll, idsOfs, idsOf]; omega) (by omega) (fun p hp m' h' => bestF1R_c [(nid + 4, boxS nl S)] (nid + 4) nl S p m' (scoped1 (by omega) rfl) (by simp only [getH_hit]) hsl (by rw [hal p hp]; omega) (by rw [hal p hp]; exact hI))
    rw [← e1] at hd
    refine CallO.on (hd (nid + 24) _ (by omega) (by omega) (by omega)) (subH_cons (by simp only [aqT, aqU, aqN, aqS, ↓seqK, ↓blkK, ↓loopK, step, stepBin, Nat.add_assoc nid, ↓reduceIte, Option.toList, ← Int.ofNat_tmod, ← Int.ofNat_tdiv, simprocAttr, BEq.rfl, LN_succ, arrRw, List.length_cons, rowsB_len]) (subH_get (by simp only [aqT, aqU, aqN, aqS, ↓seqK, ↓blkK, ↓loopK, step, stepBin, Nat.add_assoc nid, ↓reduceIte, Option.toList, ← Int.ofNat_tmod, ← Int.ofNat_tdiv, simprocAttr, BEq.rfl, LN_succ, boxS, litSn]))) ?_
    rw [arrRz_eq]
    simp -dsimp only [aqT, aqU, aqN, aqS, ↓seqK, ↓blkK, ↓loopK, step, stepBin, Nat.add_assoc nid, ↓reduceIte, Option.toList, ← Int.ofNat_tmod, ← Int.ofNat_tdiv, simprocAttr, BEq.rfl, LN_succ]
    refine Cov.go [(nid + 200, nid + 24)] [] ?_
    simp [cvT, step, res, boxP2, boxS, litSn, arrRz_eq, leftV, colsRz_self, ColsEq.refl, -List.getD_eq_getElem?_getD]
  rw [arrRz_eq]
  have hno : noOs (colsRz (leftV false b G R S)) = true := rfl
  unfold boxS boxP2 litSn
  refine SR.freezeB [nid + 200] (fun n2 => ?_)
  simp only [frzS, frzH, frzBlk, lends, lend, kill, hno, aqT, aqU, aqN, aqS, ↓seqK, ↓blkK, ↓loopK, step, stepBin, Nat.add_assoc nid, ↓reduceIte, Option.toList, ← Int.ofNat_tmod, ← Int.ofNat_tdiv, simprocAttr, BEq.rfl, LN_succ]
  clear hno
  generalize hX : leftV false b G R S = X at *
  generalize n2 (nid + 200) = nx
  refine SR.cov (t' := .mk) (st' := ⟨[(7, .lit nx X.length (colsRw X)), (3, .ptr (nid + 4) 0), (2, .ptr nid 0)], [(nid + 4, boxS nl S), (nid, boxP2 g0 r0 b G R)], nid + 300, nid⟩) ?_ ?_
  · refine Cov.go [] [] ?_
    have hz := colsRz_eq X
    simp [cvT, step, res, boxP2, boxS, litSn, hz, ColsEq.refl, -List.getD_eq_getElem?_getD]
  refine SR.seq ?_
  simp -dsimp only [aqT, aqU, aqN, aqS, ↓seqK, ↓blkK, ↓loopK, step, stepBin, Nat.add_assoc nid, ↓reduceIte, Option.toList, ← Int.ofNat_tmod, ← Int.ofNat_tdiv, simprocAttr, BEq.rfl, LN_succ]
  refine SR.seqW (ι := Unit) (fun _ => ⟨[(7, .lit nx X.length (colsRw X)), (8, .int .i64 (bestTo S X G.length).1), (9, .int .i64 (bestTo S X G.length).2.1), (10, .int .i64 (bestTo S X G.length).2.2)], [], nid + 5000, nid⟩) ?_ (fun _ => ?_)
  · unfold boxP2
    refine SR.seqTo ⟨[(23, .int .i64 0), (22, .int .i64 G.length), (8, .int .i64 (-1)), (9, .int .i64 0), (10, .int .i64 0), (7, .lit nx X.length (colsRw X)), (3, .ptr (nid + 4) 0), (2, .ptr nid 0)], [(nid + 4, boxS nl S), (nid, boxP2 g0 r0 b G R)], nid + 350, nid⟩ ?_ ?_
    · simp -dsimp only [aqT, aqU, aqN, aqS, ↓seqK, ↓blkK, ↓loopK, step, stepBin, Nat.add_assoc nid, ↓reduceIte, Option.toList, ← Int.ofNat_tmod, ← Int.ofNat_tdiv, simprocAttr, BEq.rfl, LN_succ]
      refine Cov.go [] [] ?_
      simp [cvT, step, res, boxP2, boxS, litSn, ColsEq.refl, -List.getD_eq_getElem?_getD]
    refine SR.block ?_
    refine SR.loopP (fun t : Nat => t ≤ G.length) (fun t => ⟨[(23, .int .i64 t), (22, .int .i64 G.length), (8, .int .i64 (bestTo S X t).1), (9, .int .i64 (bestTo S X t).2.1), (10, .int .i64 (bestTo S X t).2.2), (7, .lit nx X.length (colsRw X)), (3, .ptr (nid + 4) 0), (2, .ptr nid 0)], [(nid + 4, boxS nl S), (nid, boxP2 g0 r0 b G R)], nid + 400, nid⟩) (fun t => G.length + 1 - t) 0 (by omega) (Cov.go [] [] ?_) (fun t ht => ?_)
    · simp [cvT, step, res, boxP2, boxS, litSn, bestTo, ColsEq.refl, -List.getD_eq_getElem?_getD]
    refine SR.seq ?_
    simp -dsimp only [aqT, aqU, aqN, aqS, ↓seqK, ↓blkK, ↓loopK, step, stepBin, Nat.add_assoc nid, ↓reduceIte, Option.toList, ← Int.ofNat_tmod, ← Int.ofNat_tdiv, simprocAttr, BEq.rfl, LN_succ]
    refine SR.seq ?_
    simp -dsimp only [aqT, aqU, aqN, aqS, ↓seqK, ↓blkK, ↓loopK, step, stepBin, Nat.add_assoc nid, ↓reduceIte, Option.toList, ← Int.ofNat_tmod, ← Int.ofNat_tdiv, simprocAttr, BEq.rfl, LN_succ]
    refine S2.dec (fun h4 => ?_) (fun h4 => ?_) <;> simp -dsimp only [aqT, aqU, aqN, aqS, ↓seqK, ↓blkK, ↓loopK, step, stepBin, Nat.add_assoc nid, ↓reduceIte, Option.toList, ← Int.ofNat_tmod, ← Int.ofNat_tdiv, simprocAttr, BEq.rfl, LN_succ]
    · have htl : t < G.length := by omega
      have hbs := bestTo_succ S X t
      generalize hx0 : bestTo S X t = x0 at *
      obtain ⟨bb, ml, kl⟩ := x0
      simp only at *
      have htm : ∀ k, k < X.length → t < (X.getD k z0).2.2.length := fun k hk => by rw [hll _ (rwMem hk)]; exact htl
      refine SR.seqW (ι := Unit) (fun _ => ⟨[(23, .int .i64 t), (22, .int .i64 G.length), (8, .int .i64 (bestTo S X (t + 1)).1), (9, .int .i64 (bestTo S X (t + 1)).2.1), (10, .int .i64 (bestTo S X (t + 1)).2.2), (7, .lit nx X.length (colsRw X)), (3, .ptr (nid + 4) 0), (2, .ptr nid 0)], [(nid + 4, boxS nl S), (nid, boxP2 g0 r0 b G R)], nid + 3000, nid⟩) ?_ (fun _ => ?_)
      · refine SR.block ?_
        refine SR.seqTo ⟨[(11, .ptr (nid + 500) 0), (8, .int .i64 bb), (9, .int .i64 ml), (10, .int .i64 kl), (23, .int .i64 t), (22, .int .i64 G.length), (7, .lit nx X.length (colsRw X)), (3, .ptr (nid + 4) 0), (2, .ptr nid 0)], [(nid + 500, some (.box 3 [.int .i64 t])), (nid + 4, boxS nl S), (nid, boxP2 g0 r0 b G R)], nid + 600, nid⟩ ?_ ?_
        · simp -dsimp only [aqT, aqU, aqN, aqS, ↓seqK, ↓blkK, ↓loopK, step, stepBin, Nat.add_assoc nid, ↓reduceIte, Option.toList, ← Int.ofNat_tmod, ← Int.ofNat_tdiv, simprocAttr, BEq.rfl, LN_succ]
          refine Cov.go [(nid + 500, nid + 408)] [] ?_
          simp [cvT, step, res, boxP2, boxS, litSn, ColsEq.refl, -List.getD_eq_getElem?_getD]
        refine SR.seqW (ι := {_u : Unit // hasT S t = false}) (fun _ => ⟨[(11, .ptr (nid + 500) 0), (8, .int .i64 bb), (9, .int .i64 ml), (10, .int .i64 kl), (23, .int .i64 t), (22, .int .i64 G.length), (7, .lit nx X.length (colsRw X)), (3, .ptr (nid + 4) 0), (2, .ptr nid 0)], [(nid + 500, some (.box 3 [.int .i64 t])), (nid + 4, boxS nl S), (nid, boxP2 g0 r0 b G R)], nid + 700, nid⟩) ?_ (fun ⟨_, hno⟩ => ?_)
        · refine SR.run (t := .mk) ?_
          unfold boxS
          have hcs := fun m (hm : nid + 500 < m) => containsSn_h 141 [.ptr (nid + 500) 0] [(nid + 500, some (.box 3 [.int .i64 t]))] (fun k => sT S k == (t : Int)) nl S.length (sT S) (sR S) m (scoped1 hm rfl) (by simp [lowAll, idsOfs, idsOf]; omega) hsl (fun k hk m' h' => bestF2R_c [(nid + 500, some (.box 3 [.int .i64 t]))] (nid + 500) 3 (t : Int) (sT S k) (sR S k) m' (scoped1 (by omega) rfl) (by simp only [getH_hit]))
          unfold litSn
          simp -dsimp only [aqT, aqU, aqN, aqS, ↓seqK, ↓blkK, ↓loopK, step, stepBin, Nat.add_assoc nid, ↓reduceIte, Option.toList, ← Int.ofNat_tmod, ← Int.ofNat_tdiv, simprocAttr, BEq.rfl, LN_succ]
          refine CallO.on (hcs _ (by omega)) (subH_get (by simp only [aqT, aqU, aqN, aqS, ↓seqK, ↓blkK, ↓loopK, step, stepBin, Nat.add_assoc nid, ↓reduceIte, Option.toList, ← Int.ofNat_tmod, ← Int.ofNat_tdiv, simprocAttr, BEq.rfl, LN_succ])) ?_
          have eh : (List.range S.length).any (fun k => sT S k == (t : Int)) = hasT S t := rfl
          rw [eh]
          simp -dsimp only [aqT, aqU, aqN, aqS, ↓seqK, ↓blkK, ↓loopK, step, stepBin, Nat.add_assoc nid, ↓reduceIte, Option.toList, ← Int.ofNat_tmod, ← Int.ofNat_tdiv, simprocAttr, BEq.rfl, LN_succ]
          cases hh : hasT S t <;> simp -dsimp only [aqT, aqU, aqN, aqS, ↓seqK, ↓blkK, ↓loopK, step, stepBin, Nat.add_assoc nid, ↓reduceIte, Option.toList, ← Int.ofNat_tmod, ← Int.ofNat_tdiv, simprocAttr, BEq.rfl, LN_succ]
          · refine ⟨⟨(), rfl⟩, Cov.go [] [] ?_⟩
            simp [cvT, step, res, boxP2, boxS, litSn, ColsEq.refl, -List.getD_eq_getElem?_getD]
          · refine ⟨(), Cov.go [] [] ?_⟩
            rw [hbs]
            unfold bestStep
            rw [if_pos hh]
            simp [cvT, step, res, boxP2, boxS, litSn, ColsEq.refl, -List.getD_eq_getElem?_getD]
        have hbs2 : bestTo S X (t + 1) = if bb < 0 ∨ mostP (colT X t) X.length < ml ∨ (mostP (colT X t) X.length = ml ∧ kl < kindsS (colT X t)) then ((t : Int), mostP (colT X t) X.length, kindsS (colT X t)) else (bb, ml, kl) := by
          rw [hbs]
          unfold bestStep
          rw [if_neg (by rw [hno]; simp)]
        refine SR.seq ?_
        simp -dsimp only [aqT, aqU, aqN, aqS, ↓seqK, ↓blkK, ↓loopK, step, stepBin, Nat.add_assoc nid, ↓reduceIte, Option.toList, ← Int.ofNat_tmod, ← Int.ofNat_tdiv, simprocAttr, BEq.rfl, LN_succ]
        refine SR.seq ?_
        simp -dsimp only [aqT, aqU, aqN, aqS, ↓seqK, ↓blkK, ↓loopK, step, stepBin, Nat.add_assoc nid, ↓reduceIte, Option.toList, ← Int.ofNat_tmod, ← Int.ofNat_tdiv, simprocAttr, BEq.rfl, LN_succ]
        refine SR.seqW (ι := Unit) (fun _ => ⟨[(13, .int .i64 (mostP (colT X t) X.length)), (12, .mp (nid + 800)), (11, .ptr (nid + 500) 0), (8, .int .i64 bb), (9, .int .i64 ml), (10, .int .i64 kl), (23, .int .i64 t), (22, .int .i64 G.length), (7, .lit nx X.length (colsRw X)), (3, .ptr (nid + 4) 0), (2, .ptr nid 0)], [(nid + 800, mapS (colT X t)), (nid + 500, some (.box 3 [.int .i64 t])), (nid + 4, boxS nl S), (nid, boxP2 g0 r0 b G R)], nid + 1500, nid⟩) ?_ (fun _ => ?_)
        · refine SR.seqTo ⟨[(32, .int .i64 0), (31, .int .i64 X.length), (30, .lit nx X.length (colsRw X)), (13, .int .i64 0), (12, .mp (nid + 800)), (11, .ptr (nid + 500) 0), (8, .int .i64 bb), (9, .int .i64 ml), (10, .int .i64 kl), (23, .int .i64 t), (22, .int .i64 G.length), (7, .lit nx X.length (colsRw X)), (3, .ptr (nid + 4) 0), (2, .ptr nid 0)], [(nid + 800, mapS []), (nid + 500, some (.box 3 [.int .i64 t])), (nid + 4, boxS nl S), (nid, boxP2 g0 r0 b G R)], nid + 900, nid⟩ ?_ ?_
          · simp -dsimp only [aqT, aqU, aqN, aqS, ↓seqK, ↓blkK, ↓loopK, step, stepBin, Nat.add_assoc nid, ↓reduceIte, Option.toList, ← Int.ofNat_tmod, ← Int.ofNat_tdiv, simprocAttr, BEq.rfl, LN_succ]
            refine Cov.go [(nid + 800, nid + 700)] [] ?_
            simp [cvT, step, res, boxP2, boxS, litSn, mapS, ColsEq.refl, -List.getD_eq_getElem?_getD]
            intro q hq
            cases q <;> simp [domS, cntS, mVal]
          refine SR.block ?_
          refine SR.loopP (fun k : Nat => k ≤ X.length) (fun k => ⟨[(32, .int .i64 k), (31, .int .i64 X.length), (30, .lit nx X.length (colsRw X)), (13, .int .i64 (mostP (colT X t) k)), (12, .mp (nid + 800)), (11, .ptr (nid + 500) 0), (8, .int .i64 bb), (9, .int .i64 ml), (10, .int .i64 kl), (23, .int .i64 t), (22, .int .i64 G.length), (7, .lit nx X.length (colsRw X)), (3, .ptr (nid + 4) 0), (2, .ptr nid 0)], [(nid + 800, mapS ((colT X t).take k)), (nid + 500, some (.box 3 [.int .i64 t])), (nid + 4, boxS nl S), (nid, boxP2 g0 r0 b G R)], nid + 1000, nid⟩) (fun k => X.length + 1 - k) 0 (by omega) (Cov.go [] [] ?_) (fun k hk => ?_)
          · simp [cvT, step, res, boxP2, boxS, litSn, mapS, mostP, ColsEq.refl, -List.getD_eq_getElem?_getD]
          refine SR.run (t := .mk) ?_
          have hms := mostP_succ (colT X t) k
          have hmst := fun hk => mapS_step (colT X t) (n := k) hk
          have hat := fun hk => colT_at X t (k := k) hk
          have hlk := colT_len X t
          have hty := htm k
          unfold mapS colsRw
          simp -dsimp only [aqT, aqU, aqN, aqS, ↓seqK, ↓blkK, ↓loopK, step, stepBin, Nat.add_assoc nid, ↓reduceIte, Option.toList, ← Int.ofNat_tmod, ← Int.ofNat_tdiv, simprocAttr, BEq.rfl, LN_succ]
          refine S2.dec (fun h5 => ?_) (fun h5 => ?_) <;> simp -dsimp only [aqT, aqU, aqN, aqS, ↓seqK, ↓blkK, ↓loopK, step, stepBin, Nat.add_assoc nid, ↓reduceIte, Option.toList, ← Int.ofNat_tmod, ← Int.ofNat_tdiv, simprocAttr, BEq.rfl, LN_succ]
          · have hkl : k < X.length := by omega
            have hat := hat hkl
            have hty := hty hkl
            have hmst := hmst (by omega) _ hat
            rw [hat] at hms
            have hcl := cnt_look ((colT X t).take k) ((X.getD k z0).2.2.getD t [])
            have hcc : (((colT X t).take k).count ((X.getD k z0).2.2.getD t []) : Nat) ≤ k := Nat.le_trans List.count_le_length (by rw [List.length_take]; omega)
            have hcn : (((colT X t).take (k + 1)).count ((X.getD k z0).2.2.getD t [])) = (((colT X t).take k).count ((X.getD k z0).2.2.getD t [])) + 1 := by
              rw [take_snocS _ (by omega), hat]
              simp [List.count_append]
            rw [hcn] at hms
            generalize (X.getD k z0).2.2.getD t [] = y at *
            rw [hcl]
            generalize hcz : ((colT X t).take k).count y = cz at *
            refine ⟨by omega, by omega, by unfold inI64; omega, by omega, by unfold inI64; omega, k + 1, ⟨by omega, by omega⟩, Cov.go [] [] ?_⟩
            rw [hms]
            simp [cvT, step, res, boxP2, boxS, litSn, mapS, colsRw, ColsEq.refl, -List.getD_eq_getElem?_getD]
            intro q hq
            have h9 := hmst ((cz : Int) + 1) (by omega) q hq
            simpa using h9
          · have hkn : k = X.length := by omega
            subst hkn
            refine ⟨(), Cov.go [] [] ?_⟩
            have ht2 : (colT X t).take X.length = colT X t := List.take_of_length_le (by omega)
            simp only [ht2]
            simp [cvT, step, res, boxP2, boxS, litSn, mapS, colsRw, ColsEq.refl, -List.getD_eq_getElem?_getD]
        rw [hbs2]
        generalize hmm : mostP (colT X t) X.length = mm at *
        unfold mapS
        have hkk : ((cardD .s (domS (colT X t)) : Nat) : Int) = kindsS (colT X t) := rfl
        generalize hkd : kindsS (colT X t) = kk at *
        refine SR.run (t := .mk) ?_
        unfold boxS
        simp -dsimp only [aqT, aqU, aqN, aqS, ↓seqK, ↓blkK, ↓loopK, step, stepBin, Nat.add_assoc nid, ↓reduceIte, Option.toList, ← Int.ofNat_tmod, ← Int.ofNat_tdiv, simprocAttr, BEq.rfl, LN_succ]
        refine S2.dec (fun h6 => ?_) (fun h6 => ?_) <;> simp -dsimp only [aqT, aqU, aqN, aqS, ↓seqK, ↓blkK, ↓loopK, step, stepBin, Nat.add_assoc nid, ↓reduceIte, Option.toList, ← Int.ofNat_tmod, ← Int.ofNat_tdiv, simprocAttr, BEq.rfl, LN_succ, hkk]
        · rw [if_pos (.inl h6)]
          refine ⟨(), Cov.go [] [] ?_⟩
          simp [cvT, step, res, boxP2, boxS, litSn, colsRw, ColsEq.refl, -List.getD_eq_getElem?_getD]
        refine CallO.pure (cmpI_c _ _ _) ?_
        simp -dsimp only [aqT, aqU, aqN, aqS, ↓seqK, ↓blkK, ↓loopK, step, stepBin, Nat.add_assoc nid, ↓reduceIte, Option.toList, ← Int.ofNat_tmod, ← Int.ofNat_tdiv, simprocAttr, BEq.rfl, LN_succ, hkk]
        refine CallO.pure (cmpI_c _ _ _) ?_
        simp -dsimp only [aqT, aqU, aqN, aqS, ↓seqK, ↓blkK, ↓loopK, step, stepBin, Nat.add_assoc nid, ↓reduceIte, Option.toList, ← Int.ofNat_tmod, ← Int.ofNat_tdiv, simprocAttr, BEq.rfl, LN_succ, hkk]
        refine CallO.gave1 (by simp only [aqT, aqU, aqN, aqS, ↓seqK, ↓blkK, ↓loopK, step, stepBin, Nat.add_assoc nid, ↓reduceIte, Option.toList, ← Int.ofNat_tmod, ← Int.ofNat_tdiv, simprocAttr, BEq.rfl, LN_succ]; rfl) (fun nl' => or2_c nl' _ _ _) rfl ?_
        simp -dsimp only [aqT, aqU, aqN, aqS, ↓seqK, ↓blkK, ↓loopK, step, stepBin, Nat.add_assoc nid, ↓reduceIte, Option.toList, ← Int.ofNat_tmod, ← Int.ofNat_tdiv, simprocAttr, BEq.rfl, LN_succ, hkk]
        have ho := orLess mm ml kl kk
        generalize (if cmpV mm ml = 0 then cmpV kl kk else cmpV mm ml) = oo at ho ⊢
        refine S2.dec (fun h7 => ?_) (fun h7 => ?_) <;> simp -dsimp only [aqT, aqU, aqN, aqS, ↓seqK, ↓blkK, ↓loopK, step, stepBin, Nat.add_assoc nid, ↓reduceIte, Option.toList, ← Int.ofNat_tmod, ← Int.ofNat_tdiv, simprocAttr, BEq.rfl, LN_succ, hkk]
        · rw [if_pos (.inr (ho.1 h7))]
          refine ⟨(), Cov.go [] [] ?_⟩
          simp [cvT, step, res, boxP2, boxS, litSn, colsRw, ColsEq.refl, -List.getD_eq_getElem?_getD]
        · rw [if_neg (fun e => e.elim h6 (fun e => h7 (ho.2 e)))]
          refine ⟨(), Cov.go [] [] ?_⟩
          simp [cvT, step, res, boxP2, boxS, litSn, colsRw, ColsEq.refl, -List.getD_eq_getElem?_getD]
      · refine SR.run (t := .mk) ?_
        simp -dsimp only [aqT, aqU, aqN, aqS, ↓seqK, ↓blkK, ↓loopK, step, stepBin, Nat.add_assoc nid, ↓reduceIte, Option.toList, ← Int.ofNat_tmod, ← Int.ofNat_tdiv, simprocAttr, BEq.rfl, LN_succ]
        refine ⟨by unfold inI64; omega, t + 1, ⟨by omega, by omega⟩, Cov.go [] [] ?_⟩
        simp [cvT, step, res, boxP2, boxS, litSn, ColsEq.refl, -List.getD_eq_getElem?_getD]
    · have htn : t = G.length := by omega
      subst htn
      refine ⟨(), Cov.go [] [] ?_⟩
      simp [cvT, step, res, colsRw, ColsEq.refl, -List.getD_eq_getElem?_getD]
  · generalize bestTo S X G.length = x at *
    obtain ⟨bb, ml, kl⟩ := x
    simp only
    refine SR.run (t := .mk) ?_
    unfold bestEnd
    simp -dsimp only [aqT, aqU, aqN, aqS, ↓seqK, ↓blkK, ↓loopK, step, stepBin, Nat.add_assoc nid, ↓reduceIte, Option.toList, ← Int.ofNat_tmod, ← Int.ofNat_tdiv, simprocAttr, BEq.rfl, LN_succ]
    refine S2.dec (fun h5 => ?_) (fun h5 => ?_) <;> simp -dsimp only [aqT, aqU, aqN, aqS, ↓seqK, ↓blkK, ↓loopK, step, stepBin, Nat.add_assoc nid, ↓reduceIte, Option.toList, ← Int.ofNat_tmod, ← Int.ofNat_tdiv, simprocAttr, BEq.rfl, LN_succ]
    · rw [if_pos (.inl h5)]
      refine RetOK.pure (.inl rfl) rfl ?_
      simp [cvT, step, res]
    refine S2.dec (fun h6 => ?_) (fun h6 => ?_) <;> simp -dsimp only [aqT, aqU, aqN, aqS, ↓seqK, ↓blkK, ↓loopK, step, stepBin, Nat.add_assoc nid, ↓reduceIte, Option.toList, ← Int.ofNat_tmod, ← Int.ofNat_tdiv, simprocAttr, BEq.rfl, LN_succ]
    · rw [if_pos (.inr (by omega))]
      refine RetOK.pure (.inl rfl) rfl ?_
      simp [cvT, step, res]
    · rw [if_neg (by omega)]
      refine RetOK.pure (.inl rfl) rfl ?_
      simp [cvT, step, res]
end Go.Proofs.YtpifoghhaohhaaaGreatDoor
namespace Go.Proofs.YtpifoghhaohhaaaGreatDoor
open Go.RowKit Go.Shelf Go.Lib
theorem cmpL_drop : ∀ (k : Nat) {l m : List Nat}, k ≤ l.length → k ≤ m.length → l.take k = m.take k → cmpL l m = cmpL (l.drop k) (m.drop k)
  | 0, l, m, _, _, _ => by simp
  | k + 1, [], m, h, _, _ => by simp at h
  | k + 1, a :: l, [], _, h, _ => by simp at h
  | k + 1, a :: l, b :: m, h1, h2, h => by
    simp only [List.take_succ_cons, List.cons.injEq] at h
    obtain ⟨rfl, h⟩ := h
    simp only [List.drop_succ_cons]
    rw [← cmpL_drop k (by simpa using h1) (by simpa using h2) h]
    simp [cmpL]
theorem cmpL_at {k : Nat} {l m : List Nat} (h1 : k < l.length) (h2 : k < m.length) (h : l.take k = m.take k) : cmpL l m = if l.getD k 0 < m.getD k 0 then -1 else if m.getD k 0 < l.getD k 0 then 1 else cmpL (l.drop (k + 1)) (m.drop (k + 1)) := by
  rw [cmpL_drop k (by omega) (by omega) h, List.drop_eq_getElem_cons h1, List.drop_eq_getElem_cons h2]
  simp only [cmpL, List.getD_eq_getElem?_getD, List.getElem?_eq_getElem h1, List.getElem?_eq_getElem h2, Option.getD_some]
theorem compare_c (nl nl' : Bool) (l m : List Nat) (nid : Nat) (hl : l.length ≤ 1000000) (hm : m.length ≤ 1000000) : ACall Tryz.prog 210 [litNat nl l, litNat nl' m] [] nid (.int .i64 (cmpL l m)) [] := by
  refine acall_run c210 (by simp [a210]) ?_
  unfold litNat
  simp -dsimp only [aqT, aqU, aqN, aqS, ↓seqK, ↓blkK, ↓loopK, step, stepBin, Nat.add_assoc nid, ↓reduceIte, Option.toList, ← Int.ofNat_tmod, ← Int.ofNat_tdiv, simprocAttr, BEq.rfl, LN_succ, a210]
  refine LP.mkP (fun k : Nat => k ≤ l.length ∧ k ≤ m.length ∧ l.take k = m.take k) (fun k : Nat => ⟨[(11, .int .i64 k), (10, .int .i64 l.length), (9, litNat nl l), (0, litNat nl l), (1, litNat nl' m)], [], nid + 100, nid⟩) (fun k => l.length + 1 - k) 0 ⟨by omega, by omega, rfl⟩ (Cov.go [] [] ?_) (fun k hk => ?_)
  · simp [cvT, step, res, litNat]
  obtain ⟨hk1, hk2, ht⟩ := hk
  have hd := cmpL_drop k hk1 hk2 ht
  have hat := fun h1 h2 => cmpL_at (k := k) (l := l) (m := m) h1 h2 ht
  unfold litNat
  simp -dsimp only [aqT, aqU, aqN, aqS, ↓seqK, ↓blkK, ↓loopK, step, stepBin, Nat.add_assoc nid, ↓reduceIte, Option.toList, ← Int.ofNat_tmod, ← Int.ofNat_tdiv, simprocAttr, BEq.rfl, LN_succ]
  refine S2.dec (fun h3 => ?_) (fun h3 => ?_) <;> simp -dsimp only [aqT, aqU, aqN, aqS, ↓seqK, ↓blkK, ↓loopK, step, stepBin, Nat.add_assoc nid, ↓reduceIte, Option.toList, ← Int.ofNat_tmod, ← Int.ofNat_tdiv, simprocAttr, BEq.rfl, LN_succ]
  · have hkl : k < l.length := by omega
    refine ⟨by omega, S2.dec (fun h4 => ?_) (fun h4 => ?_)⟩ <;> simp -dsimp only [aqT, aqU, aqN, aqS, ↓seqK, ↓blkK, ↓loopK, step, stepBin, Nat.add_assoc nid, ↓reduceIte, Option.toList, ← Int.ofNat_tmod, ← Int.ofNat_tdiv, simprocAttr, BEq.rfl, LN_succ]
    · have e : cmpL l m = 1 := by
        rw [hd, show m.drop k = [] from List.drop_eq_nil_of_le (by omega), List.drop_eq_getElem_cons hkl]
        rfl
      rw [e]
      refine RetOK.pure (.inl rfl) rfl ?_
      simp [cvT, step, res]
    have hkm : k < m.length := by omega
    have hat := hat hkl hkm
    have htk := fun (e : l.getD k 0 = m.getD k 0) => (show l.take (k + 1) = m.take (k + 1) by
      rw [List.take_succ_eq_append_getElem hkl, List.take_succ_eq_append_getElem hkm, ht]
      simp only [List.getD_eq_getElem?_getD, List.getElem?_eq_getElem hkl, List.getElem?_eq_getElem hkm, Option.getD_some] at e
      rw [e])
    generalize l.getD k 0 = x at *
    generalize m.getD k 0 = y at *
    refine ⟨by omega, CallO.pure (cmpI_c _ _ _) ?_⟩
    simp -dsimp only [aqT, aqU, aqN, aqS, ↓seqK, ↓blkK, ↓loopK, step, stepBin, Nat.add_assoc nid, ↓reduceIte, Option.toList, ← Int.ofNat_tmod, ← Int.ofNat_tdiv, simprocAttr, BEq.rfl, LN_succ]
    have e : cmpV (x : Nat) (y : Nat) = if x < y then -1 else if y < x then 1 else 0 := by unfold cmpV; simp only [Int.ofNat_lt]
    rw [e]
    by_cases h5 : x < y
    · rw [if_pos h5] at hat ⊢
      simp -dsimp only [aqT, aqU, aqN, aqS, ↓seqK, ↓blkK, ↓loopK, step, stepBin, Nat.add_assoc nid, ↓reduceIte, Option.toList, ← Int.ofNat_tmod, ← Int.ofNat_tdiv, simprocAttr, BEq.rfl, LN_succ]
      rw [hat]
      refine RetOK.pure (.inl rfl) rfl ?_
      simp [cvT, step, res]
    rw [if_neg h5] at hat ⊢
    by_cases h6 : y < x
    · rw [if_pos h6] at hat ⊢
      simp -dsimp only [aqT, aqU, aqN, aqS, ↓seqK, ↓blkK, ↓loopK, step, stepBin, Nat.add_assoc nid, ↓reduceIte, Option.toList, ← Int.ofNat_tmod, ← Int.ofNat_tdiv, simprocAttr, BEq.rfl, LN_succ]
      rw [hat]
      refine RetOK.pure (.inl rfl) rfl ?_
      simp [cvT, step, res]
    rw [if_neg h6] at hat ⊢
    simp -dsimp only [aqT, aqU, aqN, aqS, ↓seqK, ↓blkK, ↓loopK, step, stepBin, Nat.add_assoc nid, ↓reduceIte, Option.toList, ← Int.ofNat_tmod, ← Int.ofNat_tdiv, simprocAttr, BEq.rfl, LN_succ]
    refine ⟨by unfold inI64; omega, k + 1, ⟨⟨by omega, by omega, htk (by omega)⟩, by omega⟩, Cov.go [] [] ?_⟩
    simp [cvT, step, res, litNat]
  · have hkl : k = l.length := by omega
    subst hkl
    rw [show l.drop l.length = [] from List.drop_eq_nil_of_le (by omega)] at hd
    refine S2.dec (fun h4 => ?_) (fun h4 => ?_) <;> simp -dsimp only [aqT, aqU, aqN, aqS, ↓seqK, ↓blkK, ↓loopK, step, stepBin, Nat.add_assoc nid, ↓reduceIte, Option.toList, ← Int.ofNat_tmod, ← Int.ofNat_tdiv, simprocAttr, BEq.rfl, LN_succ]
    · have e : cmpL l m = -1 := by
        rw [hd, List.drop_eq_getElem_cons (by omega : l.length < m.length)]
        rfl
      rw [e]
      refine RetOK.pure (.inl rfl) rfl ?_
      simp [cvT, step, res]
    · have e : cmpL l m = 0 := by
        rw [hd, show m.drop l.length = [] from List.drop_eq_nil_of_le (by omega)]
        rfl
      rw [e]
      refine RetOK.pure (.inl rfl) rfl ?_
      simp [cvT, step, res]
theorem ordZ_eq (l m : List Nat) : (if cmpV (l.length : Nat) (m.length : Nat) = 0 then cmpL l m else cmpV (l.length : Nat) (m.length : Nat)) = ordZ l m := by
  unfold ordZ cmpV
  simp only [Int.ofNat_lt]
  by_cases h1 : l.length < m.length
  · simp [h1]
  · by_cases h2 : m.length < l.length
    · simp [h1, h2]
    · simp [h1, h2]
def shortStep (F : Nat → Bool) (n B x : Nat) : Nat := if ordZ (fewZ x n) (fewZ B n) < 0 ∧ F x = true then x else B
def shortTo (F : Nat → Bool) (n x : Nat) : Nat := (List.range x).foldl (shortStep F n) (2 ^ n - 1)
theorem shortTo_succ (F : Nat → Bool) (n x : Nat) : shortTo F n (x + 1) = shortStep F n (shortTo F n x) x := by
  unfold shortTo
  rw [List.range_succ, List.foldl_append]; rfl
theorem shortTo_lt (F : Nat → Bool) (n : Nat) : ∀ x, x ≤ 2 ^ n → shortTo F n x < 2 ^ n
  | 0, _ => by
    have := Nat.two_pow_pos n
    unfold shortTo
    simp only [List.range_zero, List.foldl_nil]
    omega
  | x + 1, h => by
    rw [shortTo_succ]
    unfold shortStep
    split
    · omega
    · exact shortTo_lt F n x (by omega)
set_option maxHeartbeats 2000000 in
theorem short_I (f : Nat) (caps : List PV) (Hs : Heap) (F : Nat → Bool) (n : Nat) (nid : Nat) (hn : n ≤ 7) (hs : Scoped nid Hs) (hcap : lowAll nid (idsOfs caps) = true)
    (hf : ∀ nl B, B < 2 ^ n → ∀ nid', nid ≤ nid' → ACall Tryz.prog f (litNat nl (fewZ B n) :: caps) Hs nid' (.bool (F B)) []) :
    ACallI Tryz.prog 139 [.int .i64 (n : Nat), .fn f caps] Hs nid (fun _ : Bool => True) (fun nb => litNat nb (fewZ (shortTo F n (2 ^ n)) n)) (fun _ => []) := by
  have hcv := capsC hcap
  have hpw := (powZ_eq (j := n) (by omega)).2
  have hp1 : 2 ^ n ≤ 2 ^ 7 := Nat.pow_le_pow_right (by omega) hn
  have hp0 := Nat.two_pow_pos n
  refine acallI_sr c139 (by simp [a139]) ?_
  unfold a139
  refine SR.seq ?_
  simp -dsimp only [aqT, aqU, aqN, aqS, ↓seqK, ↓blkK, ↓loopK, step, stepBin, Nat.add_assoc nid, ↓reduceIte, Option.toList, ← Int.ofNat_tmod, ← Int.ofNat_tdiv, simprocAttr, BEq.rfl, LN_succ]
  refine SR.seqW (ι := Bool) (fun nb => ⟨[(5, litNat nb (fewZ (2 ^ n - 1) n)), (0, .int .i64 (n : Nat)), (1, .fn f caps)], Hs, nid + 100, nid⟩) ?_ (fun nb => ?_)
  · refine SR.run (t := .mk) ?_
    simp -dsimp only [aqT, aqU, aqN, aqS, ↓seqK, ↓blkK, ↓loopK, step, stepBin, Nat.add_assoc nid, ↓reduceIte, Option.toList, ← Int.ofNat_tmod, ← Int.ofNat_tdiv, simprocAttr, BEq.rfl, LN_succ]
    rw [hpw]
    refine ⟨by omega, ?_⟩
    have e : (((2 ^ n : Nat) : Int) - 1) = ((2 ^ n - 1 : Nat) : Int) := by omega
    rw [e]
    refine ⟨by unfold inI64; omega, ?_⟩
    refine CallO.froze [nid + 20] (CallX.pure (mem_c (2 ^ n - 1) n _ (by omega) hn) (fun nb => ?_))
    unfold arrNat
    simp -dsimp only [aqT, aqU, aqN, aqS, ↓seqK, ↓blkK, ↓loopK, step, stepBin, Nat.add_assoc nid, ↓reduceIte, Option.toList, ← Int.ofNat_tmod, ← Int.ofNat_tdiv, simprocAttr, BEq.rfl, LN_succ, lend, kill, noOs, List.map_cons, List.map_nil]
    refine ⟨nb (nid + 20), Cov.goF Hs [_, _] [] [] [] hs (by simp [kOK]) rfl ?_⟩
    simp [cvT, step, res, litNat, hcv, ColsEq.refl, -List.getD_eq_getElem?_getD]
  refine SR.seqW (ι := Bool) (fun nb => ⟨[(5, litNat nb (fewZ (shortTo F n (2 ^ n)) n))], Hs, nid + 5000, nid⟩) ?_ (fun nb => ?_)
  · refine SR.seqTo ⟨[(15, .int .i64 0), (14, .int .i64 ((2 ^ n : Nat) : Int)), (5, litNat nb (fewZ (2 ^ n - 1) n)), (0, .int .i64 (n : Nat)), (1, .fn f caps)], Hs, nid + 200, nid⟩ ?_ ?_
    · simp -dsimp only [aqT, aqU, aqN, aqS, ↓seqK, ↓blkK, ↓loopK, step, stepBin, Nat.add_assoc nid, ↓reduceIte, Option.toList, ← Int.ofNat_tmod, ← Int.ofNat_tdiv, simprocAttr, BEq.rfl, LN_succ]
      rw [hpw]
      refine ⟨by omega, Cov.goF Hs [] [] [] [] hs (by simp [kOK]) rfl ?_⟩
      simp [cvT, step, res, litNat, hcv, ColsEq.refl, -List.getD_eq_getElem?_getD]
    refine SR.block ?_
    refine SR.loopP (fun x : Nat × Bool => x.1 ≤ 2 ^ n) (fun x => ⟨[(15, .int .i64 (x.1 : Nat)), (14, .int .i64 ((2 ^ n : Nat) : Int)), (5, litNat x.2 (fewZ (shortTo F n x.1) n)), (0, .int .i64 (n : Nat)), (1, .fn f caps)], Hs, nid + 300, nid⟩) (fun x => 2 ^ n + 1 - x.1) (0, nb) (by simp) (Cov.goF Hs [] [] [] [] hs (by simp [kOK]) rfl ?_) (fun x hx => ?_)
    · simp [cvT, step, res, litNat, hcv, shortTo, ColsEq.refl, -List.getD_eq_getElem?_getD]
    obtain ⟨x, na⟩ := x
    simp only at hx ⊢
    have hst := shortTo_succ F n x
    have hlt := shortTo_lt F n x hx
    have hend : x = 2 ^ n → shortTo F n (2 ^ n) = shortTo F n x := fun e => by rw [e]
    generalize shortTo F n x = B at *
    refine SR.run (t := .mk) ?_
    unfold litNat
    simp -dsimp only [aqT, aqU, aqN, aqS, ↓seqK, ↓blkK, ↓loopK, step, stepBin, Nat.add_assoc nid, ↓reduceIte, Option.toList, ← Int.ofNat_tmod, ← Int.ofNat_tdiv, simprocAttr, BEq.rfl, LN_succ]
    refine S2.dec (fun h3 => ?_) (fun h3 => ?_) <;> simp -dsimp only [aqT, aqU, aqN, aqS, ↓seqK, ↓blkK, ↓loopK, step, stepBin, Nat.add_assoc nid, ↓reduceIte, Option.toList, ← Int.ofNat_tmod, ← Int.ofNat_tdiv, simprocAttr, BEq.rfl, LN_succ]
    · have hxl : x < 2 ^ n := by omega
      have hw : 2 ^ n ≤ 128 := by omega
      generalize 2 ^ n = P at *
      refine CallO.froze [nid + 320] (CallX.pure (mem_c x n _ (by omega) hn) (fun nb => ?_))
      have hcm := fun a b m => compare_c a b (fewZ x n) (fewZ B n) m (by have := fewZ_len x n; omega) (by have := fewZ_len B n; omega)
      have hfx := fun a m h => hf a x hxl m h
      have hlx := fewZ_len x n
      have hlB := fewZ_len B n
      have hoe := ordZ_eq (fewZ x n) (fewZ B n)
      unfold shortStep at hst
      unfold litNat at hcm hfx
      unfold arrNat
      simp -dsimp only [aqT, aqU, aqN, aqS, ↓seqK, ↓blkK, ↓loopK, step, stepBin, Nat.add_assoc nid, ↓reduceIte, Option.toList, ← Int.ofNat_tmod, ← Int.ofNat_tdiv, simprocAttr, BEq.rfl, LN_succ, lend, kill, noOs, List.map_cons, List.map_nil]
      refine CallO.pure (cmpI_c _ _ _) ?_
      simp -dsimp only [aqT, aqU, aqN, aqS, ↓seqK, ↓blkK, ↓loopK, step, stepBin, Nat.add_assoc nid, ↓reduceIte, Option.toList, ← Int.ofNat_tmod, ← Int.ofNat_tdiv, simprocAttr, BEq.rfl, LN_succ]
      refine CallO.pure (hcm _ _ _) ?_
      simp -dsimp only [aqT, aqU, aqN, aqS, ↓seqK, ↓blkK, ↓loopK, step, stepBin, Nat.add_assoc nid, ↓reduceIte, Option.toList, ← Int.ofNat_tmod, ← Int.ofNat_tdiv, simprocAttr, BEq.rfl, LN_succ]
      refine CallO.gave1 (by simp only [aqT, aqU, aqN, aqS, ↓seqK, ↓blkK, ↓loopK, step, stepBin, Nat.add_assoc nid, ↓reduceIte, Option.toList, ← Int.ofNat_tmod, ← Int.ofNat_tdiv, simprocAttr, BEq.rfl, LN_succ]; rfl) (fun nl' => or2_c nl' _ _ _) rfl ?_
      rw [hoe]
      simp -dsimp only [aqT, aqU, aqN, aqS, ↓seqK, ↓blkK, ↓loopK, step, stepBin, Nat.add_assoc nid, ↓reduceIte, Option.toList, ← Int.ofNat_tmod, ← Int.ofNat_tdiv, simprocAttr, BEq.rfl, LN_succ]
      refine S2.dec (fun h7 => ?_) (fun h7 => ?_) <;> simp -dsimp only [aqT, aqU, aqN, aqS, ↓seqK, ↓blkK, ↓loopK, step, stepBin, Nat.add_assoc nid, ↓reduceIte, Option.toList, ← Int.ofNat_tmod, ← Int.ofNat_tdiv, simprocAttr, BEq.rfl, LN_succ]
      · first
          | refine CallO.on (hfx _ _ (by omega)) (subH_frame (X := [_]) hs (by simp [kOK])) ?_
          | refine CallO.on (hfx _ _ (by omega)) (subH_frame (X := [_, _]) hs (by simp [kOK])) ?_
          | refine CallO.on (hfx _ _ (by omega)) (subH_frame (X := [_, _, _]) hs (by simp [kOK])) ?_
          | refine CallO.on (hfx _ _ (by omega)) (subH_frame (X := [_, _, _, _]) hs (by simp [kOK])) ?_
          | refine CallO.on (hfx _ _ (by omega)) (subH_frame (X := [_, _, _, _, _]) hs (by simp [kOK])) ?_
          | refine CallO.on (hfx _ _ (by omega)) (subH_frame (X := [_, _, _, _, _, _]) hs (by simp [kOK])) ?_
        simp -dsimp only [aqT, aqU, aqN, aqS, ↓seqK, ↓blkK, ↓loopK, step, stepBin, Nat.add_assoc nid, ↓reduceIte, Option.toList, ← Int.ofNat_tmod, ← Int.ofNat_tdiv, simprocAttr, BEq.rfl, LN_succ]
        cases hF : F x <;> rw [hF] at hst <;> simp -dsimp only [aqT, aqU, aqN, aqS, ↓seqK, ↓blkK, ↓loopK, step, stepBin, Nat.add_assoc nid, ↓reduceIte, Option.toList, ← Int.ofNat_tmod, ← Int.ofNat_tdiv, simprocAttr, BEq.rfl, LN_succ]
        · rw [if_neg (by simp)] at hst
          refine ⟨by unfold inI64; omega, (x + 1, na), ⟨by simp only; omega, by simp only; omega⟩, ?_⟩
          first
            | refine Cov.goF Hs [_] [] [] [] hs (by simp [kOK]) rfl ?_
            | refine Cov.goF Hs [_, _] [] [] [] hs (by simp [kOK]) rfl ?_
            | refine Cov.goF Hs [_, _, _] [] [] [] hs (by simp [kOK]) rfl ?_
            | refine Cov.goF Hs [_, _, _, _] [] [] [] hs (by simp [kOK]) rfl ?_
            | refine Cov.goF Hs [_, _, _, _, _] [] [] [] hs (by simp [kOK]) rfl ?_
            | refine Cov.goF Hs [_, _, _, _, _, _] [] [] [] hs (by simp [kOK]) rfl ?_
          rw [hst]
          simp [cvT, step, res, litNat, hcv, ColsEq.refl, -List.getD_eq_getElem?_getD]
        · rw [if_pos ⟨h7, rfl⟩] at hst
          refine ⟨by unfold inI64; omega, (x + 1, nb (nid + 320)), ⟨by simp only; omega, by simp only; omega⟩, ?_⟩
          first
            | refine Cov.goF Hs [_] [] [] [] hs (by simp [kOK]) rfl ?_
            | refine Cov.goF Hs [_, _] [] [] [] hs (by simp [kOK]) rfl ?_
            | refine Cov.goF Hs [_, _, _] [] [] [] hs (by simp [kOK]) rfl ?_
            | refine Cov.goF Hs [_, _, _, _] [] [] [] hs (by simp [kOK]) rfl ?_
            | refine Cov.goF Hs [_, _, _, _, _] [] [] [] hs (by simp [kOK]) rfl ?_
            | refine Cov.goF Hs [_, _, _, _, _, _] [] [] [] hs (by simp [kOK]) rfl ?_
          rw [hst]
          simp [cvT, step, res, litNat, hcv, ColsEq.refl, -List.getD_eq_getElem?_getD]
      · rw [if_neg (fun e => h7 e.1)] at hst
        refine ⟨by unfold inI64; omega, (x + 1, na), ⟨by simp only; omega, by simp only; omega⟩, ?_⟩
        first
          | refine Cov.goF Hs [_] [] [] [] hs (by simp [kOK]) rfl ?_
          | refine Cov.goF Hs [_, _] [] [] [] hs (by simp [kOK]) rfl ?_
          | refine Cov.goF Hs [_, _, _] [] [] [] hs (by simp [kOK]) rfl ?_
          | refine Cov.goF Hs [_, _, _, _] [] [] [] hs (by simp [kOK]) rfl ?_
          | refine Cov.goF Hs [_, _, _, _, _] [] [] [] hs (by simp [kOK]) rfl ?_
          | refine Cov.goF Hs [_, _, _, _, _, _] [] [] [] hs (by simp [kOK]) rfl ?_
        rw [hst]
        simp [cvT, step, res, litNat, hcv, ColsEq.refl, -List.getD_eq_getElem?_getD]
    · have hxe : x = 2 ^ n := by omega
      have hend := hend hxe
      rw [hend]
      refine ⟨na, Cov.goF Hs [] [] [] [] hs (by simp [kOK]) rfl ?_⟩
      simp [cvT, step, res, litNat, ColsEq.refl, -List.getD_eq_getElem?_getD]
  refine SR.run (t := .mk) ?_
  unfold litNat
  simp -dsimp only [aqT, aqU, aqN, aqS, ↓seqK, ↓blkK, ↓loopK, step, stepBin, Nat.add_assoc nid, ↓reduceIte, Option.toList, ← Int.ofNat_tmod, ← Int.ofNat_tdiv, simprocAttr, BEq.rfl, LN_succ]
  refine ⟨nb, RetOK.goF Hs [] [] [] [] [] (.inl rfl) hs (by simp [kOK]) rfl ?_⟩
  simp [a139, cvT, step, res, litNat, ColsEq.refl, -List.getD_eq_getElem?_getD]
end Go.Proofs.YtpifoghhaohhaaaGreatDoor
namespace Go.Proofs.YtpifoghhaohhaaaGreatDoor
open Go.RowKit Go.Shelf Go.Lib
theorem getD_appI (l : List Int) (x : Int) : (fun i => if i < l.length then l.getD i 0 else [x].getD (i - l.length) 0) = fun i => (l ++ [x]).getD i 0 := by
  funext i
  simp only [List.getD_eq_getElem?_getD, List.getElem?_append]
  by_cases h : i < l.length
  · rw [if_pos h, if_pos h]
  · rw [if_neg h, if_neg h]
theorem keyLt {b : Nat} {Hs : Heap} (hs : Scoped b Hs) {i : Nat} {x : ABlk} (h : getH Hs i = some x) : (∀ k, i < b + k) ∧ ¬ b = i ∧ ∀ k, ¬ b + k = i := by
  have := (keyFact hs h).2.2
  exact ⟨fun k => by omega, by omega, fun k => by omega⟩
theorem Scoped.cons {b b' i : Nat} {x : ABlk} {Hs : Heap} (hs : Scoped b Hs) (hb : b ≤ i) (hi : i < b') (hx : lowBlk b' (some x) = true) : Scoped b' ((i, some x) :: Hs) := by
  have hs' := hs.mono (b' := b') (by omega)
  refine ⟨fun j hj => ?_, fun j y hy => ?_⟩
  · simp only [keys, List.map_cons, List.mem_cons] at hj
    rcases hj with rfl | hj
    · exact hi
    · exact hs'.lt j hj
  · simp only [getH] at hy
    by_cases e : (i == j) = true
    · simp only [e, cond_true, Option.some.injEq] at hy; subst hy; exact hx
    · simp only [Bool.not_eq_true] at e; simp only [e, cond_false] at hy
      exact hs'.blk j y hy
def detB (G L : List (List UInt8)) (t : Int) : Bool := !(L.getD t.toNat [] == G.getD t.toNat [])
theorem detects_c (g0 r0 : Bool) (b : Nat → Bool) (G : List (List UInt8)) (R : RowL) (f : List UInt8) (bl : Bool) (L : List (List UInt8)) (t : Int) (nid : Nat) (h0 : 0 ≤ t) (h1 : t < G.length) (h2 : L.length = G.length) (hG : G.length ≤ 1000000) :
    ACall Tryz.prog 92 [dictP g0 r0 b G R, .agg [.str f, litS bl L], .int .i64 t] [] nid (.bool (detB G L t)) [] := by
  refine acall_run c92 (by simp [a92]) ?_
  unfold dictP litS
  simp -dsimp only [aqT, aqU, aqN, aqS, ↓seqK, ↓blkK, ↓loopK, step, stepBin, Nat.add_assoc nid, ↓reduceIte, Option.toList, ← Int.ofNat_tmod, ← Int.ofNat_tdiv, simprocAttr, BEq.rfl, LN_succ, a92]
  refine ⟨⟨by omega, by omega⟩, ⟨by omega, by omega⟩, ?_⟩
  refine RetOK.go [] [] (.inl rfl) ?_
  simp [a92, cvT, step, res, detB, -List.getD_eq_getElem?_getD]
def boxF (nf : Bool) (F : List Int) : Option ABlk := some (.box 22 [litI nf F])
def agB (G L : List (List UInt8)) (F : List Int) (t : Int) : Bool := detB G L t && !F.contains t
theorem ex11_c (Hs : Heap) (id ix il : Nat) (g0 r0 : Bool) (b : Nat → Bool) (G : List (List UInt8)) (R : RowL) (f : List UInt8) (bl : Bool) (L : List (List UInt8)) (nf : Bool) (F : List Int) (t : Int) (r : List UInt8) (nid : Nat) (hs : Scoped nid Hs)
    (hd : getH Hs id = boxP2 g0 r0 b G R) (hx : getH Hs ix = boxRw f bl L) (hl : getH Hs il = boxF nf F) (h0 : 0 ≤ t) (h1 : t < G.length) (h2 : L.length = G.length) (hG : G.length ≤ 1000000) (hF : F.length ≤ 1000000) :
    ACall Tryz.prog 126 [.agg [.int .i64 t, .str r], .ptr id 0, .ptr ix 0, .ptr il 0] Hs nid (.bool (agB G L F t)) [] := by
  unfold boxP2 at hd
  unfold boxRw at hx
  unfold boxF litI at hl
  obtain ⟨a1, a2, a3⟩ := keyFact hs hd
  obtain ⟨b1, b2, b3⟩ := keyFact hs hx
  obtain ⟨c1, c2, c3⟩ := keyFact hs hl
  have hdt := fun m => detects_c g0 r0 b G R f bl L t m h0 h1 h2 hG
  have hct := fun m => contains_c nf F t m (by omega)
  unfold dictP litS at hdt
  unfold litI at hct
  unfold agB
  refine acall_run c126 (by simp [a126]) ?_
  simp -dsimp only [a126, aqT, aqU, aqN, aqS, ↓seqK, ↓blkK, ↓loopK, step, stepBin, Nat.add_assoc nid, ↓reduceIte, Option.toList, ← Int.ofNat_tmod, ← Int.ofNat_tdiv, simprocAttr, BEq.rfl, LN_succ, a1, a2, b1, b2, c1, c2, hd, hx, hl]
  refine CallO.pure (hdt _) ?_
  cases hb : detB G L t <;> simp -dsimp only [aqT, aqU, aqN, aqS, ↓seqK, ↓blkK, ↓loopK, step, stepBin, Nat.add_assoc nid, ↓reduceIte, Option.toList, ← Int.ofNat_tmod, ← Int.ofNat_tdiv, simprocAttr, BEq.rfl, LN_succ, a1, a2, b1, b2, c1, c2, hd, hx, hl]
  · refine RetOK.goF Hs [] [_] [] [] [] (.inl rfl) hs (by simp [kOK]) rfl ?_
    simp [a126, cvT, step, res]
  · refine CallO.pure (hct _) ?_
    simp -dsimp only [aqT, aqU, aqN, aqS, ↓seqK, ↓blkK, ↓loopK, step, stepBin, Nat.add_assoc nid, ↓reduceIte, Option.toList, ← Int.ofNat_tmod, ← Int.ofNat_tdiv, simprocAttr, BEq.rfl, LN_succ, a1, a2, b1, b2, c1, c2, hd, hx, hl]
    refine RetOK.goF Hs [] [_] [] [] [] (.inl rfl) hs (by simp [kOK]) rfl ?_
    simp [a126, cvT, step, res]
def agS (G L : List (List UInt8)) (F : List Int) (S : SeenL) : Bool := (List.range S.length).any fun k => agB G L F (sT S k)
theorem ex1_c (Hs : Heap) (is id il : Nat) (g0 r0 : Bool) (b : Nat → Bool) (G : List (List UInt8)) (R : RowL) (p : Rw) (nf : Bool) (F : List Int) (nl : Bool) (S : SeenL) (nid : Nat) (hs : Scoped nid Hs)
    (h1 : getH Hs is = boxS nl S) (hd : getH Hs id = boxP2 g0 r0 b G R) (hl : getH Hs il = boxF nf F) (hI : SnIn G.length S) (h2 : p.2.2.length = G.length) (hG : G.length ≤ 1000000) (hF : F.length ≤ 1000000) (hS : S.length ≤ 1000000) :
    ACall Tryz.prog 124 [rwV p, .ptr is 0, .ptr id 0, .ptr il 0] Hs nid (.bool (agS G p.2.2 F S)) [] := by
  have hd0 := hd
  have hl0 := hl
  unfold boxS at h1
  unfold boxP2 at hd
  unfold boxF litI at hl
  obtain ⟨a1, a2, a3⟩ := keyFact hs hd
  obtain ⟨b1, b2, b3⟩ := keyFact hs h1
  obtain ⟨c1, c2, c3⟩ := keyFact hs hl
  have hin : ∀ m, nid < m → Scoped m ((nid, boxRw p.1 p.2.1 p.2.2) :: Hs) := fun m hm => hs.cons (Nat.le_refl _) hm rfl
  have hcs := fun m (hm : nid < m) => containsSn_h 126 [.ptr id 0, .ptr nid 0, .ptr il 0] ((nid, boxRw p.1 p.2.1 p.2.2) :: Hs) (fun k => agB G p.2.2 F (sT S k)) nl S.length (sT S) (sR S) m (hin m hm) (by simp [lowAll, idsOfs, idsOf]; omega) hS (fun k hk m' h' =>
    ex11_c ((nid, boxRw p.1 p.2.1 p.2.2) :: Hs) id nid il g0 r0 b G R p.1 p.2.1 p.2.2 nf F (sT S k) (sR S k) m' (hin m' (by omega)) (by simp only [getH, a1, cond_false]; exact hd0) (by simp only [getH_hit]) (by simp only [getH, c1, cond_false]; exact hl0) (hI k hk).1 (hI k hk).2 h2 hG hF)
  unfold boxRw at hcs
  unfold litSn at h1
  refine acall_run c124 (by simp [a124]) ?_
  unfold rwV
  simp -dsimp only [a124, aqT, aqU, aqN, aqS, ↓seqK, ↓blkK, ↓loopK, step, stepBin, Nat.add_assoc nid, ↓reduceIte, Option.toList, ← Int.ofNat_tmod, ← Int.ofNat_tdiv, simprocAttr, BEq.rfl, LN_succ, a1, a2, b1, b2, c1, c2, hd, h1, hl]
  refine CallO.on (hcs _ (by omega)) (fun _ _ h => h) ?_
  have e : (List.range S.length).any (fun k => agB G p.2.2 F (sT S k)) = agS G p.2.2 F S := rfl
  rw [e]
  simp -dsimp only [aqT, aqU, aqN, aqS, ↓seqK, ↓blkK, ↓loopK, step, stepBin, Nat.add_assoc nid, ↓reduceIte, Option.toList, ← Int.ofNat_tmod, ← Int.ofNat_tdiv, simprocAttr, BEq.rfl, LN_succ, a1, a2, b1, b2, c1, c2, hd, h1, hl]
  refine RetOK.goF Hs [] [_] [] [] [] (.inl rfl) hs (by simp [kOK]) rfl ?_
  simp [a124, cvT, step, res]
def openB (G : List (List UInt8)) (X : List Rw) (B : Nat) (t : Int) : Bool := !(List.range X.length).any fun i => B.testBit i && detB G (X.getD i z0).2.2 t
theorem openB_yes {G : List (List UInt8)} {X : List Rw} {B : Nat} {t : Int} (h : ∀ i, i < X.length → (B.testBit i && detB G (X.getD i z0).2.2 t) = false) : openB G X B t = true := by
  unfold openB
  simp only [Bool.not_eq_true', List.any_eq_false, List.mem_range]
  intro i hi
  rw [h i hi]
  simp
theorem openB_no {G : List (List UInt8)} {X : List Rw} {B : Nat} {t : Int} {i : Nat} (hi : i < X.length) (h : (B.testBit i && detB G (X.getD i z0).2.2 t) = true) : openB G X B t = false := by
  unfold openB
  simp only [Bool.not_eq_false', List.any_eq_true, List.mem_range]
  exact ⟨i, hi, h⟩
set_option maxHeartbeats 1000000 in
theorem ex2_c (Hs : Heap) (ip iz id T1 T2 : Nat) (g0 r0 : Bool) (b : Nat → Bool) (G : List (List UInt8)) (R : RowL) (nx : Bool) (X : List Rw) (B : Nat) (t : Int) (nid : Nat) (hs : Scoped nid Hs)
    (hp : getH Hs ip = some (.box T1 [.lit nx X.length (colsRw X)])) (hz : getH Hs iz = some (.box T2 [.int .u64 (B : Nat)])) (hd : getH Hs id = boxP2 g0 r0 b G R) (h0 : 0 ≤ t) (h1 : t < G.length) (hX : ∀ p ∈ X, p.2.2.length = G.length) (hG : G.length ≤ 1000000) (hB : B < 128) (hXl : X.length ≤ 7) :
    ACall Tryz.prog 128 [.int .i64 t, .ptr ip 0, .ptr iz 0, .ptr id 0] Hs nid (.bool (openB G X B t)) [] := by
  have hd0 := hd
  unfold boxP2 at hd
  unfold colsRw at hp
  obtain ⟨a1, a2, a3⟩ := keyFact hs hd
  obtain ⟨b1, b2, b3⟩ := keyFact hs hp
  obtain ⟨c1, c2, c3⟩ := keyFact hs hz
  obtain ⟨d1, d2, d3⟩ := keyLt hs hd
  obtain ⟨d4, d5, d6⟩ := keyLt hs hp
  obtain ⟨d7, d8, d9⟩ := keyLt hs hz
  refine acall_run c128 (by simp [a128]) ?_
  simp -dsimp only [a128, aqT, aqU, aqN, aqS, ↓seqK, ↓blkK, ↓loopK, step, stepBin, Nat.add_assoc nid, ↓reduceIte, Option.toList, ← Int.ofNat_tmod, ← Int.ofNat_tdiv, simprocAttr, BEq.rfl, LN_succ, a1, a2, b1, b2, c1, c2, hd, hp, hz]
  refine LP.mkP (fun i : Nat => i ≤ X.length ∧ ∀ j, j < i → (B.testBit j && detB G (X.getD j z0).2.2 t) = false) (fun i => ⟨[(10, .int .i64 i), (9, .int .i64 X.length), (8, .lit nx X.length (colsRw X)), (0, .int .i64 t), (1, .ptr ip 0), (2, .ptr iz 0), (3, .ptr id 0)], Hs, nid + 100, nid⟩) (fun i => X.length + 1 - i) 0 ⟨by omega, fun j hj => by omega⟩ (Cov.goF Hs [] [] [] [] hs (by simp [kOK]) rfl ?_) (fun i hi => ?_)
  · simp [cvT, step, res, colsRw, ColsEq.refl, d1, d2, d3, d4, d5, d6, d7, d8, d9, -List.getD_eq_getElem?_getD]
  obtain ⟨hi, hall⟩ := hi
  unfold colsRw
  simp -dsimp only [aqT, aqU, aqN, aqS, ↓seqK, ↓blkK, ↓loopK, step, stepBin, Nat.add_assoc nid, ↓reduceIte, Option.toList, ← Int.ofNat_tmod, ← Int.ofNat_tdiv, simprocAttr, BEq.rfl, LN_succ, a1, a2, b1, b2, c1, c2, hd, hp, hz]
  refine S2.dec (fun h3 => ?_) (fun h3 => ?_) <;> simp -dsimp only [aqT, aqU, aqN, aqS, ↓seqK, ↓blkK, ↓loopK, step, stepBin, Nat.add_assoc nid, ↓reduceIte, Option.toList, ← Int.ofNat_tmod, ← Int.ofNat_tdiv, simprocAttr, BEq.rfl, LN_succ, a1, a2, b1, b2, c1, c2, hd, hp, hz]
  · have hil : i < X.length := by omega
    have hdt := fun m => detects_c g0 r0 b G R (X.getD i z0).1 (X.getD i z0).2.1 (X.getD i z0).2.2 t m h0 h1 (hX _ (rwMem hil)) hG
    unfold dictP litS at hdt
    have hbit := bitZ_eq hB (i := i) (by omega)
    have hno := fun h => openB_no (G := G) (X := X) (B := B) (t := t) hil h
    have hw : IntKind.u64.wrap (((B : Nat) : Int)) = (B : Nat) := by
      have : ((List.range 128).all fun b => decide (IntKind.u64.wrap (((b : Nat) : Int)) = (b : Nat))) = true := by kernel_rfl
      exact of_decide_eq_true (List.all_eq_true.1 this B (List.mem_range.2 hB))
    refine ⟨by omega, by omega, ?_⟩
    change S2 (bitZ B i) _ _ _ _
    rw [hbit]
    cases hb : B.testBit i <;> simp -dsimp only [aqT, aqU, aqN, aqS, ↓seqK, ↓blkK, ↓loopK, step, stepBin, Nat.add_assoc nid, ↓reduceIte, Option.toList, ← Int.ofNat_tmod, ← Int.ofNat_tdiv, simprocAttr, BEq.rfl, LN_succ, a1, a2, b1, b2, c1, c2, hd, hp, hz]
    · refine ⟨by unfold inI64; omega, i + 1, ⟨⟨by omega, fun j hj => ?_⟩, by omega⟩, ?_⟩
      · rcases (by omega : j < i ∨ j = i) with hj | hj
        · exact hall j hj
        · rw [hj, hb]; rfl
      first
        | refine Cov.goF Hs [_] [] [] [] hs (by simp [kOK]) rfl ?_
        | refine Cov.goF Hs [_, _] [] [] [] hs (by simp [kOK]) rfl ?_
        | refine Cov.goF Hs [_, _, _] [] [] [] hs (by simp [kOK]) rfl ?_
      simp [cvT, step, res, colsRw, ColsEq.refl, d1, d2, d3, d4, d5, d6, d7, d8, d9, -List.getD_eq_getElem?_getD]
    · refine CallO.pure (hdt _) ?_
      cases hdb : detB G (X.getD i z0).2.2 t <;> simp -dsimp only [aqT, aqU, aqN, aqS, ↓seqK, ↓blkK, ↓loopK, step, stepBin, Nat.add_assoc nid, ↓reduceIte, Option.toList, ← Int.ofNat_tmod, ← Int.ofNat_tdiv, simprocAttr, BEq.rfl, LN_succ, a1, a2, b1, b2, c1, c2, hd, hp, hz]
      · refine ⟨by unfold inI64; omega, i + 1, ⟨⟨by omega, fun j hj => ?_⟩, by omega⟩, ?_⟩
        · rcases (by omega : j < i ∨ j = i) with hj | hj
          · exact hall j hj
          · rw [hj, hdb]; simp
        first
          | refine Cov.goF Hs [_] [] [] [] hs (by simp [kOK]) rfl ?_
          | refine Cov.goF Hs [_, _] [] [] [] hs (by simp [kOK]) rfl ?_
          | refine Cov.goF Hs [_, _, _] [] [] [] hs (by simp [kOK]) rfl ?_
        simp [cvT, step, res, colsRw, ColsEq.refl, d1, d2, d3, d4, d5, d6, d7, d8, d9, -List.getD_eq_getElem?_getD]
      · rw [hno (by rw [hb, hdb]; rfl)]
        first
          | refine RetOK.goF Hs [] [_] [] [] [] (.inl rfl) hs (by simp [kOK]) rfl ?_
          | refine RetOK.goF Hs [] [_, _] [] [] [] (.inl rfl) hs (by simp [kOK]) rfl ?_
          | refine RetOK.goF Hs [] [_, _, _] [] [] [] (.inl rfl) hs (by simp [kOK]) rfl ?_
        simp [a128, cvT, step, res]
  · rw [openB_yes (fun j hj => hall j (by omega))]
    refine RetOK.goF Hs [] [] [] [] [] (.inl rfl) hs (by simp [kOK]) rfl ?_
    simp [a128, cvT, step, res]
end Go.Proofs.YtpifoghhaohhaaaGreatDoor
namespace Go.Proofs.YtpifoghhaohhaaaGreatDoor
open Go.RowKit Go.Shelf Go.Lib
def failT (G : List (List UInt8)) (S : SeenL) (n : Nat) : List Int := ((List.range n).filter fun k => offB G (sT S k) (sR S k)).map fun k => sT S k
theorem failT_succ (G : List (List UInt8)) (S : SeenL) (n : Nat) : failT G S (n + 1) = if offB G (sT S n) (sR S n) = true then failT G S n ++ [sT S n] else failT G S n := by
  unfold failT
  rw [List.range_succ, List.filter_append, List.map_append]
  cases h : offB G (sT S n) (sR S n) <;> simp [h]
theorem failT_len (G : List (List UInt8)) (S : SeenL) (n : Nat) : (failT G S n).length ≤ n := by
  unfold failT
  rw [List.length_map]
  have := List.length_filter_le (fun k => offB G (sT S k) (sR S k)) (List.range n)
  simpa using this
theorem failT_in {G : List (List UInt8)} {S : SeenL} {m : Nat} (hI : SnIn m S) {n : Nat} (hn : n ≤ S.length) : ∀ t ∈ failT G S n, 0 ≤ t ∧ t < m := fun t ht => by
  unfold failT at ht
  obtain ⟨k, hk, rfl⟩ := List.mem_map.1 ht
  have := List.mem_range.1 (List.mem_filter.1 hk).1
  exact hI k (by omega)
def failV (G : List (List UInt8)) (S : SeenL) : List Int := failT G S S.length
def partV (b : Nat → Bool) (G : List (List UInt8)) (R : RowL) (S : SeenL) : List Rw := keepW (fun p => agS G p.2.2 (failV G S) S) (rowsB b R)
def okE (G : List (List UInt8)) (X : List Rw) (F : List Int) (B : Nat) : Bool := !(List.range F.length).any fun k => openB G X B (F.getD k 0)
def exStep (ok : Nat → Bool) (x : Bool × Nat) (s : Nat) : Bool × Nat := if (x.1 && skipZ x.2 s) = true then x else if ok s = true then (true, s) else x
def exTo (ok : Nat → Bool) (n : Nat) : Bool × Nat := (List.range n).foldl (exStep ok) (false, 0)
theorem exTo_succ (ok : Nat → Bool) (n : Nat) : exTo ok (n + 1) = exStep ok (exTo ok n) n := by
  unfold exTo
  rw [List.range_succ, List.foldl_append]; rfl
theorem exStep_skip {ok : Nat → Bool} {x : Bool × Nat} {s : Nat} (h : (x.1 && skipZ x.2 s) = true) : exStep ok x s = x := by unfold exStep; rw [if_pos h]
theorem exStep_yes {ok : Nat → Bool} {x : Bool × Nat} {s : Nat} (h : (x.1 && skipZ x.2 s) = false) (hk : ok s = true) : exStep ok x s = (true, s) := by unfold exStep; rw [if_neg (by rw [h]; simp), if_pos hk]
theorem exStep_no {ok : Nat → Bool} {x : Bool × Nat} {s : Nat} (h : (x.1 && skipZ x.2 s) = false) (hk : ok s = false) : exStep ok x s = x := by unfold exStep; rw [if_neg (by rw [h]; simp), if_neg (by rw [hk]; simp)]
def goOn (fd : Bool) (best x : Nat) : Bool := !(fd && skipZ best x)
theorem goOn_of {fd : Bool} {best x : Nat} (h : (fd && skipZ best x) = false) : goOn fd best x = true := by unfold goOn; rw [h]; rfl
theorem goOn_get {fd : Bool} {best x : Nat} (h : goOn fd best x = true) : (fd && skipZ best x) = false := by
  unfold goOn at h
  generalize (fd && skipZ best x) = c at *
  cases c
  · rfl
  · cases h
def worseD (d : Int) (mask : Nat) : Bool :=
  let low : Int := IntKind.u64.wrap ((BitVec.ofInt IntKind.u64.bits d &&& BitVec.ofInt IntKind.u64.bits (IntKind.u64.wrap (0 - d))).toNat : Int)
  IntKind.u64.wrap ((BitVec.ofInt IntKind.u64.bits ((mask : Nat) : Int) &&& BitVec.ofInt IntKind.u64.bits low).toNat : Int) == 0
theorem worseD_eq {best mask : Nat} {d : Int} (h : IntKind.u64.wrap ((BitVec.ofInt IntKind.u64.bits ((mask : Nat) : Int) ^^^ BitVec.ofInt IntKind.u64.bits ((best : Nat) : Int)).toNat : Int) = d) : worseD d mask = worseZ best mask := by subst h; rfl
theorem exTo_lt (ok : Nat → Bool) : ∀ n, n ≤ 128 → (exTo ok n).2 < 128
  | 0, _ => by simp [exTo]
  | n + 1, h => by
    rw [exTo_succ]
    have := exTo_lt ok n (by omega)
    unfold exStep
    split
    · exact this
    · split
      · simp only; omega
      · exact this
def exOut (X : List Rw) (B n : Nat) : List (List UInt8) := (fewZ B n).map fun i => (X.getD i z0).1
theorem exOut_yes {X : List Rw} {B n : Nat} (h : B.testBit n = true) : exOut X B (n + 1) = exOut X B n ++ [(X.getD n z0).1] := by unfold exOut; rw [fewZ_yes h, List.map_append]; rfl
theorem exOut_no {X : List Rw} {B n : Nat} (h : B.testBit n = false) : exOut X B (n + 1) = exOut X B n := by unfold exOut; rw [fewZ_no h]
theorem exOut_len (X : List Rw) (B n : Nat) : (exOut X B n).length ≤ n := by unfold exOut; rw [List.length_map]; exact fewZ_len B n
def exR (nid : Nat) (fd : Bool) (out : List (List UInt8)) : PV := match fd with
  | true => .tup [.sl nid 0 out.length, .bool true, .int .i64 0]
  | false => .tup [.lit true 0 [], .bool false, .int .i64 0]
def exU (nid : Nat) (fd : Bool) (out : List (List UInt8)) : Heap := match fd with
  | true => [(nid, arrS out)]
  | false => []
theorem part_len (b : Nat → Bool) (G : List (List UInt8)) (R : RowL) (S : SeenL) : (partV b G R S).length ≤ R.length := by
  have := keepW_len (fun p => agS G p.2.2 (failV G S) S) (rowsB b R)
  rw [rowsB_len] at this
  exact this
theorem part_row {b : Nat → Bool} {G : List (List UInt8)} {R : RowL} {S : SeenL} (hlen : ∀ j, j < R.length → (rowR R j).length = G.length) : ∀ p ∈ partV b G R S, p.2.2.length = G.length := fun p hp => by
  obtain ⟨k, hk, rfl⟩ := rowsB_mem (List.mem_filter.1 hp).1
  exact hlen k hk
theorem scoped2 {b i j : Nat} {x y : ABlk} (hi : i < b) (hj : j < b) (hx : lowBlk b (some x) = true) (hy : lowBlk b (some y) = true) : Scoped b [(i, some x), (j, some y)] := by
  refine ⟨fun k hk => ?_, fun k z hz => ?_⟩
  · simp [keys] at hk; omega
  · simp only [getH] at hz
    by_cases e : (i == k) = true
    · simp only [e, cond_true, Option.some.injEq] at hz; subst hz; exact hx
    · simp only [Bool.not_eq_true] at e
      by_cases e2 : (j == k) = true
      · simp only [e, e2, cond_true, cond_false, Option.some.injEq] at hz; subst hz; exact hy
      · simp only [Bool.not_eq_true] at e2; simp [e, e2] at hz
theorem scoped3 {b i j l : Nat} {x y z : ABlk} (hi : i < b) (hj : j < b) (hl : l < b) (hx : lowBlk b (some x) = true) (hy : lowBlk b (some y) = true) (hz : lowBlk b (some z) = true) : Scoped b [(i, some x), (j, some y), (l, some z)] := by
  have h2 := scoped2 hj hl hy hz
  refine ⟨fun k hk => ?_, fun k u hu => ?_⟩
  · simp [keys] at hk; omega
  · simp only [getH] at hu
    by_cases e : (i == k) = true
    · simp only [e, cond_true, Option.some.injEq] at hu; subst hu; exact hx
    · simp only [Bool.not_eq_true] at e
      simp only [e, cond_false] at hu
      exact h2.blk k u (by simpa only [getH] using hu)
set_option maxHeartbeats 8000000 in
theorem explain_c (g0 r0 : Bool) (b : Nat → Bool) (G : List (List UInt8)) (R : RowL) (nl : Bool) (S : SeenL) (nid : Nat) (hB : DictW G R) (hS : SnW S) (hD : dictV G R = 0) (hV : seenV G R S = 0) (hI : SnIn G.length S) (hR7 : R.length ≤ 7) :
    ACall Tryz.prog 48 [dictP g0 r0 b G R, litSn nl S] [] nid (exR nid (exTo (okE G (partV b G R S) (failV G S)) (2 ^ (partV b G R S).length)).1 (exOut (partV b G R S) (exTo (okE G (partV b G R S) (failV G S)) (2 ^ (partV b G R S).length)).2 (partV b G R S).length))
      (exU nid (exTo (okE G (partV b G R S) (failV G S)) (2 ^ (partV b G R S).length)).1 (exOut (partV b G R S) (exTo (okE G (partV b G R S) (failV G S)) (2 ^ (partV b G R S).length)).2 (partV b G R S).length)) := by
  have hgl := hB.gl
  have hsl := hS.l
  have hd := fun m => seenD_c g0 r0 b G R nl S m hB hS
  rw [hV] at hd
  have hlen := dictV_rows hD
  have hpl := part_len b G R S
  have hpr := part_row (b := b) (S := S) hlen
  have hfi := failT_in (G := G) hI (Nat.le_refl S.length)
  have hfl := failT_len G S S.length
  refine acall_sr c48 (by simp [a48]) ?_
  unfold a48
  refine SR.seq ?_
  unfold dictP litSn at *
  simp -dsimp only [aqT, aqU, aqN, aqS, ↓seqK, ↓blkK, ↓loopK, step, stepBin, Nat.add_assoc nid, ↓reduceIte, Option.toList, ← Int.ofNat_tmod, ← Int.ofNat_tdiv, simprocAttr, BEq.rfl, LN_succ]
  refine SR.seqTo ⟨[(3, .ptr (nid + 4) 0), (2, .ptr nid 0)], [(nid + 4, boxS nl S), (nid, boxP2 g0 r0 b G R)], nid + 100, nid⟩ ?_ ?_
  · simp -dsimp only [aqT, aqU, aqN, aqS, ↓seqK, ↓blkK, ↓loopK, step, stepBin, Nat.add_assoc nid, ↓reduceIte, Option.toList, ← Int.ofNat_tmod, ← Int.ofNat_tdiv, simprocAttr, BEq.rfl, LN_succ]
    refine CallO.pure (hd _) ?_
    simp -dsimp only [aqT, aqU, aqN, aqS, ↓seqK, ↓blkK, ↓loopK, step, stepBin, Nat.add_assoc nid, ↓reduceIte, Option.toList, ← Int.ofNat_tmod, ← Int.ofNat_tdiv, simprocAttr, BEq.rfl, LN_succ]
    refine Cov.go [] [] ?_
    simp [cvT, step, res, boxP2, boxS, litSn, ColsEq.refl, -List.getD_eq_getElem?_getD]
  clear hd
  refine SR.seq ?_
  unfold boxS boxP2 litSn
  simp -dsimp only [aqT, aqU, aqN, aqS, ↓seqK, ↓blkK, ↓loopK, step, stepBin, Nat.add_assoc nid, ↓reduceIte, Option.toList, ← Int.ofNat_tmod, ← Int.ofNat_tdiv, simprocAttr, BEq.rfl, LN_succ]
  refine SR.seqW (ι := Unit) (fun _ => ⟨[(8, .ptr (nid + 8) 0), (3, .ptr (nid + 4) 0), (2, .ptr nid 0)], [(nid + 20, arrI (failV G S)), (nid + 8, some (.box 22 [.sl (nid + 20) 0 (failV G S).length])), (nid + 4, boxS nl S), (nid, boxP2 g0 r0 b G R)], nid + 2000, nid⟩) ?_ (fun _ => ?_)
  · refine SR.seqTo ⟨[(29, .int .i64 0), (28, .int .i64 S.length), (27, litSn nl S), (8, .ptr (nid + 8) 0), (3, .ptr (nid + 4) 0), (2, .ptr nid 0)], [(nid + 8, some (.box 22 [.lit true 0 []])), (nid + 4, boxS nl S), (nid, boxP2 g0 r0 b G R)], nid + 150, nid⟩ ?_ ?_
    · simp -dsimp only [aqT, aqU, aqN, aqS, ↓seqK, ↓blkK, ↓loopK, step, stepBin, Nat.add_assoc nid, ↓reduceIte, Option.toList, ← Int.ofNat_tmod, ← Int.ofNat_tdiv, simprocAttr, BEq.rfl, LN_succ]
      refine Cov.go [(nid + 8, nid + 100)] [] ?_
      simp [cvT, step, res, boxP2, boxS, litSn, ColsEq.refl, -List.getD_eq_getElem?_getD]
    refine SR.block ?_
    refine SR.loopP (fun k : Nat => k ≤ S.length) (fun k => ⟨[(29, .int .i64 k), (28, .int .i64 S.length), (27, litSn nl S), (8, .ptr (nid + 8) 0), (3, .ptr (nid + 4) 0), (2, .ptr nid 0)], [(nid + 20, arrI (failT G S k)), (nid + 8, some (.box 22 [.sl (nid + 20) 0 (failT G S k).length])), (nid + 4, boxS nl S), (nid, boxP2 g0 r0 b G R)], nid + 200, nid⟩) (fun k => S.length + 1 - k) 0 (by omega) (Cov.go [] [(nid + 20, 1)] ?_) (fun k hk => ?_)
    · simp [cvT, step, res, boxP2, boxS, litSn, arrI, failT, ColsEq.refl, -List.getD_eq_getElem?_getD]
    have hfs := failT_succ G S k
    have hfk := failT_len G S k
    have hin := hI k
    have hend : k = S.length → failV G S = failT G S k := fun e => by rw [e]; rfl
    generalize failT G S k = V at *
    refine SR.run (t := .mk) ?_
    unfold litSn arrI boxP2
    simp -dsimp only [aqT, aqU, aqN, aqS, ↓seqK, ↓blkK, ↓loopK, step, stepBin, Nat.add_assoc nid, ↓reduceIte, Option.toList, ← Int.ofNat_tmod, ← Int.ofNat_tdiv, simprocAttr, BEq.rfl, LN_succ]
    refine S2.dec (fun h3 => ?_) (fun h3 => ?_) <;> simp -dsimp only [aqT, aqU, aqN, aqS, ↓seqK, ↓blkK, ↓loopK, step, stepBin, Nat.add_assoc nid, ↓reduceIte, Option.toList, ← Int.ofNat_tmod, ← Int.ofNat_tdiv, simprocAttr, BEq.rfl, LN_succ]
    · have hkl : k < S.length := by omega
      have hin := hin hkl
      refine ⟨by omega, ⟨by omega, by omega⟩, ?_⟩
      have eo : (!(sR S k == G.getD (sT S k).toNat [])) = offB G (sT S k) (sR S k) := by unfold offB; rw [BEq.comm]
      rw [eo]
      cases h6 : offB G (sT S k) (sR S k) <;> rw [h6] at hfs <;> simp -dsimp only [aqT, aqU, aqN, aqS, ↓seqK, ↓blkK, ↓loopK, step, stepBin, Nat.add_assoc nid, ↓reduceIte, Option.toList, ← Int.ofNat_tmod, ← Int.ofNat_tdiv, simprocAttr, BEq.rfl, LN_succ]
      · rw [if_neg (by simp)] at hfs
        refine ⟨by unfold inI64; omega, k + 1, ⟨by omega, by omega⟩, Cov.go [] [] ?_⟩
        rw [hfs]
        simp [cvT, step, res, boxP2, boxS, litSn, arrI, ColsEq.refl, -List.getD_eq_getElem?_getD]
      · rw [if_pos rfl] at hfs
        rw [getD_appI]
        have hl : (V ++ [sT S k]).length = V.length + 1 := by simp
        refine ⟨⟨by omega, by omega⟩, by unfold inI64; omega, k + 1, ⟨by omega, by omega⟩, Cov.go [(nid + 20, nid + 272)] [] ?_⟩
        simp only [hfs]
        simp [cvT, step, res, boxP2, boxS, litSn, arrI, ColsEq.refl, -List.getD_eq_getElem?_getD, -List.length_append]
        try simp
    · have hkn : k = S.length := by omega
      have hend := hend hkn
      rw [hend]
      refine ⟨(), Cov.go [] [] ?_⟩
      simp [cvT, step, res, boxP2, boxS, litSn, arrI, ColsEq.refl, -List.getD_eq_getElem?_getD]
  have hfV : (failV G S).length ≤ S.length := hfl
  change ∀ t ∈ failV G S, 0 ≤ t ∧ t < G.length at hfi
  have hpv : ∀ F, failV G S = F → partV b G R S = keepW (fun p => agS G p.2.2 F S) (rowsB b R) := fun F e => by rw [← e]; rfl
  generalize hFe : failV G S = F at *
  have hpv := hpv F rfl
  unfold arrI boxS boxP2 litSn
  refine SR.freezeB [nid + 20] (fun n2 => ?_)
  simp only [frzS, frzH, frzBlk, lends, lend, kill, noOs, aqT, aqU, aqN, aqS, ↓seqK, ↓blkK, ↓loopK, step, stepBin, Nat.add_assoc nid, ↓reduceIte, Option.toList, ← Int.ofNat_tmod, ← Int.ofNat_tdiv, simprocAttr, BEq.rfl, LN_succ]
  generalize n2 (nid + 20) = nf
  refine SR.cov (t' := .mk) (st' := ⟨[(8, .ptr (nid + 8) 0), (3, .ptr (nid + 4) 0), (2, .ptr nid 0)], [(nid + 8, boxF nf F), (nid + 4, boxS nl S), (nid, boxP2 g0 r0 b G R)], nid + 2000, nid⟩) ?_ ?_
  · refine Cov.go [] [] ?_
    simp [cvT, step, res, boxP2, boxS, boxF, litI, litSn, ColsEq.refl, -List.getD_eq_getElem?_getD]
  -- the rows that may take part
  refine SR.seqTo ⟨[(11, .ptr (nid + 12) 0), (8, .ptr (nid + 8) 0), (3, .ptr (nid + 4) 0), (2, .ptr nid 0)], [(nid + 2200, arrRz R.length (partV b G R S)), (nid + 12, some (.box 27 [.sl (nid + 2200) 0 (partV b G R S).length])), (nid + 8, boxF nf F), (nid + 4, boxS nl S), (nid, boxP2 g0 r0 b G R)], nid + 2300, nid⟩ ?_ ?_
  · unfold boxF boxS boxP2 litSn litI
    simp -dsimp only [aqT, aqU, aqN, aqS, ↓seqK, ↓blkK, ↓loopK, step, stepBin, Nat.add_assoc nid, ↓reduceIte, Option.toList, ← Int.ofNat_tmod, ← Int.ofNat_tdiv, simprocAttr, BEq.rfl, LN_succ]
    have hcl := fun m => ACall.nonnil (P := Tryz.prog) (f := 123) (az := [rowsP r0 b R]) (Hs := []) (nid := m) 0 (show [rowsP r0 b R][0]? = some (.lit r0 R.length _) from rfl) (fun hn => cloneRw_c r0 b R m (by omega) hn)
    unfold rowsP at hcl
    refine CallO.pure (hcl _) ?_
    unfold arrRw
    simp -dsimp only [aqT, aqU, aqN, aqS, ↓seqK, ↓blkK, ↓loopK, step, stepBin, Nat.add_assoc nid, ↓reduceIte, Option.toList, ← Int.ofNat_tmod, ← Int.ofNat_tdiv, simprocAttr, BEq.rfl, LN_succ]
    have e1 : R.length = (rowsB b R).length := by rw [rowsB_len]
    have hdl := fun id m (h1 : id < m) (h2 : nid + 8 < m) (h3 : nid + 8 < id) => deleteW_h 124 id [.ptr (nid + 4) 0, .ptr nid 0, .ptr (nid + 8) 0] [(nid + 4, boxS nl S), (nid, boxP2 g0 r0 b G R), (nid + 8, boxF nf F)] (fun p => agS G p.2.2 F S) (rowsB b R) m h1 (by simp [keys]; omega) (scoped3 (by omega) (by omega) h2 rfl rfl rfl) (by simp [lowAll, idsOfs, idsOf]; omega) (by omega) (fun p hp m' h' => by
      obtain ⟨k, hk, rfl⟩ := rowsB_mem hp
      exact ex1_c [(nid + 4, boxS nl S), (nid, boxP2 g0 r0 b G R), (nid + 8, boxF nf F)] (nid + 4) nid (nid + 8) g0 r0 b G R (rowF R k, b k, rowR R k) nf F nl S m' (scoped3 (by omega) (by omega) (by omega) rfl rfl rfl) (by simp only [getH_hit]) (by simp only [aqT, aqU, aqN, aqS, ↓seqK, ↓blkK, ↓loopK, step, stepBin, Nat.add_assoc nid, ↓reduceIte, Option.toList, ← Int.ofNat_tmod, ← Int.ofNat_tdiv, simprocAttr, BEq.rfl, LN_succ]) (by simp only [aqT, aqU, aqN, aqS, ↓seqK, ↓blkK, ↓loopK, step, stepBin, Nat.add_assoc nid, ↓reduceIte, Option.toList, ← Int.ofNat_tmod, ← Int.ofNat_tdiv, simprocAttr, BEq.rfl, LN_succ]) hI (hlen k hk) hgl (by omega) hsl)
    rw [← e1, ← hpv] at hdl
    refine CallO.on (hdl (nid + 2008) _ (by omega) (by omega) (by omega)) (subH_cons (by simp only [aqT, aqU, aqN, aqS, ↓seqK, ↓blkK, ↓loopK, step, stepBin, Nat.add_assoc nid, ↓reduceIte, Option.toList, ← Int.ofNat_tmod, ← Int.ofNat_tdiv, simprocAttr, BEq.rfl, LN_succ, arrRw, rowsB_len]) (subH_cons (by simp only [aqT, aqU, aqN, aqS, ↓seqK, ↓blkK, ↓loopK, step, stepBin, Nat.add_assoc nid, ↓reduceIte, Option.toList, ← Int.ofNat_tmod, ← Int.ofNat_tdiv, simprocAttr, BEq.rfl, LN_succ, boxS, litSn]) (subH_cons (by simp only [aqT, aqU, aqN, aqS, ↓seqK, ↓blkK, ↓loopK, step, stepBin, Nat.add_assoc nid, ↓reduceIte, Option.toList, ← Int.ofNat_tmod, ← Int.ofNat_tdiv, simprocAttr, BEq.rfl, LN_succ, boxP2]) (subH_get (by simp only [aqT, aqU, aqN, aqS, ↓seqK, ↓blkK, ↓loopK, step, stepBin, Nat.add_assoc nid, ↓reduceIte, Option.toList, ← Int.ofNat_tmod, ← Int.ofNat_tdiv, simprocAttr, BEq.rfl, LN_succ, boxF, litI]))))) ?_
    rw [arrRz_eq]
    simp -dsimp only [aqT, aqU, aqN, aqS, ↓seqK, ↓blkK, ↓loopK, step, stepBin, Nat.add_assoc nid, ↓reduceIte, Option.toList, ← Int.ofNat_tmod, ← Int.ofNat_tdiv, simprocAttr, BEq.rfl, LN_succ]
    refine Cov.go [(nid + 2200, nid + 2008), (nid + 12, nid + 2020)] [] ?_
    simp [cvT, step, res, boxP2, boxS, boxF, litI, litSn, arrRz_eq, colsRz_self, ColsEq.refl, -List.getD_eq_getElem?_getD]
  rw [arrRz_eq]
  have hno : noOs (colsRz (partV b G R S)) = true := rfl
  have hXl : (partV b G R S).length ≤ 7 := by omega
  unfold boxF boxS boxP2 litSn litI
  refine SR.freezeB [nid + 2200] (fun n2 => ?_)
  simp only [frzS, frzH, frzBlk, lends, lend, kill, hno, aqT, aqU, aqN, aqS, ↓seqK, ↓blkK, ↓loopK, step, stepBin, Nat.add_assoc nid, ↓reduceIte, Option.toList, ← Int.ofNat_tmod, ← Int.ofNat_tdiv, simprocAttr, BEq.rfl, LN_succ]
  clear hno hpv
  generalize n2 (nid + 2200) = nx
  generalize partV b G R S = X at *
  refine SR.cov (t' := .mk) (st' := ⟨[(11, .ptr (nid + 12) 0), (8, .ptr (nid + 8) 0), (2, .ptr nid 0)], [(nid + 12, some (.box 27 [.lit nx X.length (colsRw X)])), (nid + 8, boxF nf F), (nid, boxP2 g0 r0 b G R)], nid + 2300, nid⟩) ?_ ?_
  · refine Cov.go [] [] ?_
    have hz := colsRz_eq X
    simp [cvT, step, res, boxP2, boxF, litI, hz, ColsEq.refl, -List.getD_eq_getElem?_getD]
  refine SR.seqTo ⟨[(11, .ptr (nid + 12) 0), (8, .ptr (nid + 8) 0), (2, .ptr nid 0)], [(nid + 12, some (.box 27 [.lit nx X.length (colsRw X)])), (nid + 8, boxF nf F), (nid, boxP2 g0 r0 b G R)], nid + 2400, nid⟩ ?_ ?_
  · unfold colsRw
    simp -dsimp only [aqT, aqU, aqN, aqS, ↓seqK, ↓blkK, ↓loopK, step, stepBin, Nat.add_assoc nid, ↓reduceIte, Option.toList, ← Int.ofNat_tmod, ← Int.ofNat_tdiv, simprocAttr, BEq.rfl, LN_succ]
    refine S2.no (by simp; omega) ?_
    simp -dsimp only [aqT, aqU, aqN, aqS, ↓seqK, ↓blkK, ↓loopK, step, stepBin, Nat.add_assoc nid, ↓reduceIte, Option.toList, ← Int.ofNat_tmod, ← Int.ofNat_tdiv, simprocAttr, BEq.rfl, LN_succ]
    refine Cov.go [] [] ?_
    simp [cvT, step, res, boxP2, boxF, litI, colsRw, ColsEq.refl, -List.getD_eq_getElem?_getD]
  refine SR.seq ?_
  simp -dsimp only [aqT, aqU, aqN, aqS, ↓seqK, ↓blkK, ↓loopK, step, stepBin, Nat.add_assoc nid, ↓reduceIte, Option.toList, ← Int.ofNat_tmod, ← Int.ofNat_tdiv, simprocAttr, BEq.rfl, LN_succ]
  have hpw := (powZ_eq (j := X.length) (by omega)).1
  have hp1 : 2 ^ X.length ≤ 2 ^ 7 := Nat.pow_le_pow_right (by omega) hXl
  have hp0 := Nat.two_pow_pos X.length
  refine SR.seqW (ι := Unit) (fun _ => ⟨[(12, .int .u64 ((exTo (okE G X F) (2 ^ X.length)).2 : Nat)), (13, .bool (exTo (okE G X F) (2 ^ X.length)).1), (11, .ptr (nid + 12) 0)], [(nid + 12, some (.box 27 [.lit nx X.length (colsRw X)]))], nid + 4000, nid⟩) ?_ (fun _ => ?_)
  · unfold colsRw
    refine SR.seqTo ⟨[(59, .int .u64 0), (58, .int .u64 ((2 ^ X.length : Nat) : Int)), (12, .int .u64 0), (13, .bool false), (11, .ptr (nid + 12) 0), (8, .ptr (nid + 8) 0), (2, .ptr nid 0)], [(nid + 12, some (.box 27 [.lit nx X.length (colsRw X)])), (nid + 8, boxF nf F), (nid, boxP2 g0 r0 b G R)], nid + 2500, nid⟩ ?_ ?_
    · simp -dsimp only [aqT, aqU, aqN, aqS, ↓seqK, ↓blkK, ↓loopK, step, stepBin, Nat.add_assoc nid, ↓reduceIte, Option.toList, ← Int.ofNat_tmod, ← Int.ofNat_tdiv, simprocAttr, BEq.rfl, LN_succ]
      rw [hpw]
      refine ⟨by omega, Cov.go [] [] ?_⟩
      simp [cvT, step, res, boxP2, boxF, litI, colsRw, ColsEq.refl, -List.getD_eq_getElem?_getD]
    refine SR.block ?_
    refine SR.loopP (fun x : Nat => x ≤ 2 ^ X.length) (fun x => ⟨[(59, .int .u64 (x : Nat)), (58, .int .u64 ((2 ^ X.length : Nat) : Int)), (12, .int .u64 ((exTo (okE G X F) x).2 : Nat)), (13, .bool (exTo (okE G X F) x).1), (11, .ptr (nid + 12) 0), (8, .ptr (nid + 8) 0), (2, .ptr nid 0)], [(nid + 12, some (.box 27 [.lit nx X.length (colsRw X)])), (nid + 8, boxF nf F), (nid, boxP2 g0 r0 b G R)], nid + 2600, nid⟩) (fun x => 2 ^ X.length + 1 - x) 0 (by omega) (Cov.go [] [] ?_) (fun x hx => ?_)
    · simp [cvT, step, res, boxP2, boxF, litI, colsRw, exTo, ColsEq.refl, -List.getD_eq_getElem?_getD]
    have hxs := exTo_succ (okE G X F) x
    have hxl := exTo_lt (okE G X F) x (by omega)
    have hend : x = 2 ^ X.length → exTo (okE G X F) (2 ^ X.length) = exTo (okE G X F) x := fun e => by rw [e]
    generalize exTo (okE G X F) x = y at *
    obtain ⟨fd, best⟩ := y
    simp only at *
    refine SR.seq ?_
    simp -dsimp only [aqT, aqU, aqN, aqS, ↓seqK, ↓blkK, ↓loopK, step, stepBin, Nat.add_assoc nid, ↓reduceIte, Option.toList, ← Int.ofNat_tmod, ← Int.ofNat_tdiv, simprocAttr, BEq.rfl, LN_succ]
    refine SR.seq ?_
    simp -dsimp only [aqT, aqU, aqN, aqS, ↓seqK, ↓blkK, ↓loopK, step, stepBin, Nat.add_assoc nid, ↓reduceIte, Option.toList, ← Int.ofNat_tmod, ← Int.ofNat_tdiv, simprocAttr, BEq.rfl, LN_succ]
    refine S2.dec (fun h4 => ?_) (fun h4 => ?_) <;> simp -dsimp only [aqT, aqU, aqN, aqS, ↓seqK, ↓blkK, ↓loopK, step, stepBin, Nat.add_assoc nid, ↓reduceIte, Option.toList, ← Int.ofNat_tmod, ← Int.ofNat_tdiv, simprocAttr, BEq.rfl, LN_succ]
    · have hxP : x < 2 ^ X.length := by omega
      have hx7 : x < 128 := by omega
      have hw : IntKind.u64.wrap (((x : Nat) : Int) + 1) = ((x + 1 : Nat) : Int) := by
        have : ((List.range 128).all fun b => decide (IntKind.u64.wrap (((b : Nat) : Int) + 1) = ((b + 1 : Nat) : Int))) = true := by kernel_rfl
        exact of_decide_eq_true (List.all_eq_true.1 this x (List.mem_range.2 hx7))
      refine SR.seqW (ι := Unit) (fun _ => ⟨[(59, .int .u64 (x : Nat)), (58, .int .u64 ((2 ^ X.length : Nat) : Int)), (12, .int .u64 ((exTo (okE G X F) (x + 1)).2 : Nat)), (13, .bool (exTo (okE G X F) (x + 1)).1), (11, .ptr (nid + 12) 0), (8, .ptr (nid + 8) 0), (2, .ptr nid 0)], [(nid + 12, some (.box 27 [.lit nx X.length (colsRw X)])), (nid + 8, boxF nf F), (nid, boxP2 g0 r0 b G R)], nid + 3500, nid⟩) ?_ (fun _ => ?_)
      · generalize exTo (okE G X F) (x + 1) = y1 at *
        refine SR.block ?_
        unfold boxF litI boxP2
        refine SR.seqTo ⟨[(14, .ptr (nid + 16) 0), (59, .int .u64 (x : Nat)), (58, .int .u64 ((2 ^ X.length : Nat) : Int)), (12, .int .u64 (best : Nat)), (13, .bool fd), (11, .ptr (nid + 12) 0), (8, .ptr (nid + 8) 0), (2, .ptr nid 0)], [(nid + 16, some (.box 163 [.int .u64 (x : Nat)])), (nid + 12, some (.box 27 [.lit nx X.length (colsRw X)])), (nid + 8, boxF nf F), (nid, boxP2 g0 r0 b G R)], nid + 2700, nid⟩ ?_ ?_
        · simp -dsimp only [aqT, aqU, aqN, aqS, ↓seqK, ↓blkK, ↓loopK, step, stepBin, Nat.add_assoc nid, ↓reduceIte, Option.toList, ← Int.ofNat_tmod, ← Int.ofNat_tdiv, simprocAttr, BEq.rfl, LN_succ]
          refine Cov.go [(nid + 16, nid + 2608)] [] ?_
          simp [cvT, step, res, boxP2, boxF, litI, ColsEq.refl, -List.getD_eq_getElem?_getD]
        refine SR.seq ?_
        simp -dsimp only [aqT, aqU, aqN, aqS, ↓seqK, ↓blkK, ↓loopK, step, stepBin, Nat.add_assoc nid, ↓reduceIte, Option.toList, ← Int.ofNat_tmod, ← Int.ofNat_tdiv, simprocAttr, BEq.rfl, LN_succ]
        refine CallO.pure (onesZ_c x _ hx7) ?_
        simp -dsimp only [aqT, aqU, aqN, aqS, ↓seqK, ↓blkK, ↓loopK, step, stepBin, Nat.add_assoc nid, ↓reduceIte, Option.toList, ← Int.ofNat_tmod, ← Int.ofNat_tdiv, simprocAttr, BEq.rfl, LN_succ]
        refine CallO.pure (onesZ_c best _ hxl) ?_
        simp -dsimp only [aqT, aqU, aqN, aqS, ↓seqK, ↓blkK, ↓loopK, step, stepBin, Nat.add_assoc nid, ↓reduceIte, Option.toList, ← Int.ofNat_tmod, ← Int.ofNat_tdiv, simprocAttr, BEq.rfl, LN_succ]
        have hq1 := popZ_le x
        have hq2 := popZ_le best
        refine ⟨by unfold inI64; omega, ?_⟩
        refine SR.seqW (ι := {_u : Unit // goOn fd best x = true}) (fun _ => ⟨[(14, .ptr (nid + 16) 0), (59, .int .u64 (x : Nat)), (58, .int .u64 ((2 ^ X.length : Nat) : Int)), (12, .int .u64 (best : Nat)), (13, .bool fd), (11, .ptr (nid + 12) 0), (8, .ptr (nid + 8) 0), (2, .ptr nid 0)], [(nid + 16, some (.box 163 [.int .u64 (x : Nat)])), (nid + 12, some (.box 27 [.lit nx X.length (colsRw X)])), (nid + 8, boxF nf F), (nid, boxP2 g0 r0 b G R)], nid + 2900, nid⟩) ?_ (fun ⟨_, hsk⟩ => ?_)
        · refine SR.seq ?_
          simp -dsimp only [aqT, aqU, aqN, aqS, ↓seqK, ↓blkK, ↓loopK, step, stepBin, Nat.add_assoc nid, ↓reduceIte, Option.toList, ← Int.ofNat_tmod, ← Int.ofNat_tdiv, simprocAttr, BEq.rfl, LN_succ]
          generalize hDe : IntKind.u64.wrap _ = D
          have hDw := worseD_eq hDe
          refine SR.run (t := .mk) ?_
          have goSkip : (fd && skipZ best x) = true → y1 = (fd, best) := fun h => hxs.trans (exStep_skip (x := (fd, best)) h)
          cases fd <;> simp -dsimp only [aqT, aqU, aqN, aqS, ↓seqK, ↓blkK, ↓loopK, step, stepBin, Nat.add_assoc nid, ↓reduceIte, Option.toList, ← Int.ofNat_tmod, ← Int.ofNat_tdiv, simprocAttr, BEq.rfl, LN_succ]
          · refine ⟨⟨(), goOn_of rfl⟩, Cov.go [] [] ?_⟩
            simp [cvT, step, res, boxP2, boxF, litI, ColsEq.refl, -List.getD_eq_getElem?_getD]
          refine S2.dec (fun h5 => ?_) (fun h5 => ?_) <;> simp -dsimp only [aqT, aqU, aqN, aqS, ↓seqK, ↓blkK, ↓loopK, step, stepBin, Nat.add_assoc nid, ↓reduceIte, Option.toList, ← Int.ofNat_tmod, ← Int.ofNat_tdiv, simprocAttr, BEq.rfl, LN_succ]
          · have := goSkip (by unfold skipZ; rw [decide_eq_true h5]; rfl)
            rw [this]
            refine ⟨(), Cov.go [] [] ?_⟩
            simp [cvT, step, res, boxP2, boxF, litI, ColsEq.refl, -List.getD_eq_getElem?_getD]
          refine S2.intro (fun h6 => ?_) (fun h6 => ?_) <;> simp -dsimp only [aqT, aqU, aqN, aqS, ↓seqK, ↓blkK, ↓loopK, step, stepBin, Nat.add_assoc nid, ↓reduceIte, Option.toList, ← Int.ofNat_tmod, ← Int.ofNat_tdiv, simprocAttr, BEq.rfl, LN_succ]
          · change S2 (worseD D x) _ _ _ _
            rw [hDw]
            refine S2.intro (fun h7 => ?_) (fun h7 => ?_) <;> simp -dsimp only [aqT, aqU, aqN, aqS, ↓seqK, ↓blkK, ↓loopK, step, stepBin, Nat.add_assoc nid, ↓reduceIte, Option.toList, ← Int.ofNat_tmod, ← Int.ofNat_tdiv, simprocAttr, BEq.rfl, LN_succ]
            · have := goSkip (by unfold skipZ; rw [h6, h7]; simp)
              rw [this]
              refine ⟨(), Cov.go [] [] ?_⟩
              simp [cvT, step, res, boxP2, boxF, litI, ColsEq.refl, -List.getD_eq_getElem?_getD]
            · refine ⟨⟨(), goOn_of (by unfold skipZ; rw [h7, decide_eq_false h5]; simp)⟩, Cov.go [] [] ?_⟩
              simp [cvT, step, res, boxP2, boxF, litI, ColsEq.refl, -List.getD_eq_getElem?_getD]
          · refine ⟨⟨(), goOn_of (by unfold skipZ; rw [h6, decide_eq_false h5]; rfl)⟩, Cov.go [] [] ?_⟩
            simp [cvT, step, res, boxP2, boxF, litI, ColsEq.refl, -List.getD_eq_getElem?_getD]
        have hsk := goOn_get hsk
        have goYes := fun hk => hxs.trans (exStep_yes (x := (fd, best)) hsk hk)
        have goNo := fun hk => hxs.trans (exStep_no (x := (fd, best)) hsk hk)
        clear hxs
        refine SR.run (t := .mk) ?_
        have hci := fun m (hm : nid + 16 < m) => containsI_h 128 [.ptr (nid + 12) 0, .ptr (nid + 16) 0, .ptr nid 0] [(nid + 12, some (.box 27 [.lit nx X.length (colsRw X)])), (nid + 16, some (.box 163 [.int .u64 (x : Nat)])), (nid, boxP2 g0 r0 b G R)] (fun k => openB G X x (F.getD k 0)) nf F.length (fun k => F.getD k 0) m (scoped3 (by omega) hm (by omega) rfl rfl rfl) (by simp [lowAll, idsOfs, idsOf]; omega) (by omega) (fun k hk m' h' =>
          ex2_c [(nid + 12, some (.box 27 [.lit nx X.length (colsRw X)])), (nid + 16, some (.box 163 [.int .u64 (x : Nat)])), (nid, boxP2 g0 r0 b G R)] (nid + 12) (nid + 16) nid 27 163 g0 r0 b G R nx X x (F.getD k 0) m' (scoped3 (by omega) (by omega) (by omega) rfl rfl rfl) (by simp only [getH_hit]) (by simp only [aqT, aqU, aqN, aqS, ↓seqK, ↓blkK, ↓loopK, step, stepBin, Nat.add_assoc nid, ↓reduceIte, Option.toList, ← Int.ofNat_tmod, ← Int.ofNat_tdiv, simprocAttr, BEq.rfl, LN_succ]) (by simp only [aqT, aqU, aqN, aqS, ↓seqK, ↓blkK, ↓loopK, step, stepBin, Nat.add_assoc nid, ↓reduceIte, Option.toList, ← Int.ofNat_tmod, ← Int.ofNat_tdiv, simprocAttr, BEq.rfl, LN_succ]) (hfi _ (by rw [List.getD_eq_getElem?_getD, List.getElem?_eq_getElem hk]; exact List.getElem_mem _)).1 (hfi _ (by rw [List.getD_eq_getElem?_getD, List.getElem?_eq_getElem hk]; exact List.getElem_mem _)).2 hpr hgl hx7 hXl)
        unfold boxF litI boxP2
        simp -dsimp only [aqT, aqU, aqN, aqS, ↓seqK, ↓blkK, ↓loopK, step, stepBin, Nat.add_assoc nid, ↓reduceIte, Option.toList, ← Int.ofNat_tmod, ← Int.ofNat_tdiv, simprocAttr, BEq.rfl, LN_succ]
        refine CallO.on (hci _ (by omega)) (subH_cons (by simp only [aqT, aqU, aqN, aqS, ↓seqK, ↓blkK, ↓loopK, step, stepBin, Nat.add_assoc nid, ↓reduceIte, Option.toList, ← Int.ofNat_tmod, ← Int.ofNat_tdiv, simprocAttr, BEq.rfl, LN_succ]) (subH_cons (by simp only [aqT, aqU, aqN, aqS, ↓seqK, ↓blkK, ↓loopK, step, stepBin, Nat.add_assoc nid, ↓reduceIte, Option.toList, ← Int.ofNat_tmod, ← Int.ofNat_tdiv, simprocAttr, BEq.rfl, LN_succ]) (subH_get (by simp only [aqT, aqU, aqN, aqS, ↓seqK, ↓blkK, ↓loopK, step, stepBin, Nat.add_assoc nid, ↓reduceIte, Option.toList, ← Int.ofNat_tmod, ← Int.ofNat_tdiv, simprocAttr, BEq.rfl, LN_succ, boxP2])))) ?_
        have eo : (!(List.range F.length).any fun k => openB G X x (F.getD k 0)) = okE G X F x := rfl
        simp -dsimp only [aqT, aqU, aqN, aqS, ↓seqK, ↓blkK, ↓loopK, step, stepBin, Nat.add_assoc nid, ↓reduceIte, Option.toList, ← Int.ofNat_tmod, ← Int.ofNat_tdiv, simprocAttr, BEq.rfl, LN_succ]
        rw [eo]
        cases hok : okE G X F x <;> simp -dsimp only [aqT, aqU, aqN, aqS, ↓seqK, ↓blkK, ↓loopK, step, stepBin, Nat.add_assoc nid, ↓reduceIte, Option.toList, ← Int.ofNat_tmod, ← Int.ofNat_tdiv, simprocAttr, BEq.rfl, LN_succ]
        · rw [goNo hok]
          refine ⟨(), Cov.go [] [] ?_⟩
          simp [cvT, step, res, boxP2, boxF, litI, ColsEq.refl, -List.getD_eq_getElem?_getD]
        · rw [goYes hok]
          refine ⟨(), Cov.go [] [] ?_⟩
          simp [cvT, step, res, boxP2, boxF, litI, ColsEq.refl, -List.getD_eq_getElem?_getD]
      · refine SR.run (t := .mk) ?_
        simp -dsimp only [aqT, aqU, aqN, aqS, ↓seqK, ↓blkK, ↓loopK, step, stepBin, Nat.add_assoc nid, ↓reduceIte, Option.toList, ← Int.ofNat_tmod, ← Int.ofNat_tdiv, simprocAttr, BEq.rfl, LN_succ]
        rw [hw]
        refine ⟨x + 1, ⟨by omega, by omega⟩, Cov.go [] [] ?_⟩
        simp [cvT, step, res, boxP2, boxF, litI, ColsEq.refl, -List.getD_eq_getElem?_getD]
    · have hend := hend (by omega)
      rw [hend]
      refine ⟨(), Cov.go [] [] ?_⟩
      simp [cvT, step, res, colsRw, ColsEq.refl, -List.getD_eq_getElem?_getD]
  have hlt := exTo_lt (okE G X F) (2 ^ X.length) (by omega)
  generalize exTo (okE G X F) (2 ^ X.length) = y at *
  obtain ⟨fd, best⟩ := y
  simp only at *
  cases fd
  · refine SR.run (t := .mk) ?_
    simp -dsimp only [aqT, aqU, aqN, aqS, ↓seqK, ↓blkK, ↓loopK, step, stepBin, Nat.add_assoc nid, ↓reduceIte, Option.toList, ← Int.ofNat_tmod, ← Int.ofNat_tdiv, simprocAttr, BEq.rfl, LN_succ]
    simp only [exR, exU]
    refine RetOK.pure (.inl rfl) rfl ?_
    simp [cvT, step, res]
  simp only [exR, exU]
  refine SR.run (t := .mk) ?_
  unfold colsRw
  simp -dsimp only [aqT, aqU, aqN, aqS, ↓seqK, ↓blkK, ↓loopK, step, stepBin, Nat.add_assoc nid, ↓reduceIte, Option.toList, ← Int.ofNat_tmod, ← Int.ofNat_tdiv, simprocAttr, BEq.rfl, LN_succ]
  refine LP.mkP (fun i : Nat => i ≤ X.length) (fun i => ⟨[(99, .int .i64 i), (98, .int .i64 X.length), (97, .lit nx X.length (colsRw X)), (12, .int .u64 (best : Nat)), (18, .sl (nid + 30) 0 (exOut X best i).length)], [(nid + 30, arrS (exOut X best i))], nid + 5000, nid⟩) (fun i => X.length + 1 - i) 0 (by omega) (Cov.go [] [(nid + 30, 1)] ?_) (fun i hi => ?_)
  · simp [cvT, step, res, arrS, exOut, fewZ, colsRw, ColsEq.refl, -List.getD_eq_getElem?_getD]
  have hy := exOut_yes (X := X) (B := best) (n := i)
  have hnn := exOut_no (X := X) (B := best) (n := i)
  have hol := exOut_len X best i
  have hend : i = X.length → exOut X best X.length = exOut X best i := fun e => by rw [e]
  generalize exOut X best i = V at *
  unfold arrS colsRw
  simp -dsimp only [aqT, aqU, aqN, aqS, ↓seqK, ↓blkK, ↓loopK, step, stepBin, Nat.add_assoc nid, ↓reduceIte, Option.toList, ← Int.ofNat_tmod, ← Int.ofNat_tdiv, simprocAttr, BEq.rfl, LN_succ]
  refine S2.dec (fun h5 => ?_) (fun h5 => ?_) <;> simp -dsimp only [aqT, aqU, aqN, aqS, ↓seqK, ↓blkK, ↓loopK, step, stepBin, Nat.add_assoc nid, ↓reduceIte, Option.toList, ← Int.ofNat_tmod, ← Int.ofNat_tdiv, simprocAttr, BEq.rfl, LN_succ]
  · have hbit := bitZ_eq hlt (i := i) (by omega)
    refine ⟨by omega, by omega, ?_⟩
    change S2 (bitZ best i) _ _ _ _
    rw [hbit]
    cases hb : best.testBit i <;> simp -dsimp only [aqT, aqU, aqN, aqS, ↓seqK, ↓blkK, ↓loopK, step, stepBin, Nat.add_assoc nid, ↓reduceIte, Option.toList, ← Int.ofNat_tmod, ← Int.ofNat_tdiv, simprocAttr, BEq.rfl, LN_succ]
    · refine ⟨by unfold inI64; omega, i + 1, ⟨by omega, by omega⟩, Cov.go [] [] ?_⟩
      rw [hnn hb]
      simp [cvT, step, res, arrS, colsRw, ColsEq.refl, -List.getD_eq_getElem?_getD]
    · rw [getD_app1 V _ rfl, ← hy hb]
      have hl2 : (exOut X best (i + 1)).length = V.length + 1 := by rw [hy hb]; simp
      refine ⟨⟨by omega, by omega⟩, by unfold inI64; omega, i + 1, ⟨by omega, by omega⟩, Cov.go [(nid + 30, nid + 5064)] [] ?_⟩
      simp [cvT, step, res, arrS, colsRw, hl2, ColsEq.refl, -List.getD_eq_getElem?_getD]
  · have hend := hend (by omega)
    rw [hend]
    refine RetOK.go [(nid, nid + 30)] [] (.inl rfl) ?_
    simp [a48, cvT, step, res, arrS, -List.getD_eq_getElem?_getD]
end Go.Proofs.YtpifoghhaohhaaaGreatDoor
namespace Go.Proofs.YtpifoghhaohhaaaGreatDoor
open Go.RowKit Go.Shelf Go.Lib
def boxX (nx : Bool) (X : List Rw) : Option ABlk := some (.box 27 [.lit nx X.length (colsRw X)])
def boxT (t : Int) : Option ABlk := some (.box 3 [.int .i64 t])
def boxN (nf : Bool) (l : List Nat) : Option ABlk := some (.box 22 [litNat nf l])
theorem eb3_c (Hs : Heap) (ir it id : Nat) (g0 r0 : Bool) (b : Nat → Bool) (G : List (List UInt8)) (R : RowL) (nx : Bool) (X : List Rw) (t : Int) (i : Nat) (nid : Nat) (hs : Scoped nid Hs)
    (hr : getH Hs ir = boxX nx X) (ht : getH Hs it = boxT t) (hd : getH Hs id = boxP2 g0 r0 b G R) (h0 : 0 ≤ t) (h1 : t < G.length) (hi : i < X.length) (hX : (X.getD i z0).2.2.length = G.length) (hG : G.length ≤ 1000000) :
    ACall Tryz.prog 137 [.int .i64 (i : Nat), .ptr ir 0, .ptr it 0, .ptr id 0] Hs nid (.bool (detB G (X.getD i z0).2.2 t)) [] := by
  unfold boxP2 at hd
  unfold boxX colsRw at hr
  unfold boxT at ht
  obtain ⟨a1, a2, a3⟩ := keyFact hs hd
  obtain ⟨b1, b2, b3⟩ := keyFact hs hr
  obtain ⟨c1, c2, c3⟩ := keyFact hs ht
  refine acall_run c137 (by simp [a137]) ?_
  simp -dsimp only [a137, aqT, aqU, aqN, aqS, ↓seqK, ↓blkK, ↓loopK, step, stepBin, Nat.add_assoc nid, ↓reduceIte, Option.toList, ← Int.ofNat_tmod, ← Int.ofNat_tdiv, simprocAttr, BEq.rfl, LN_succ, a1, a2, b1, b2, c1, c2, hd, hr, ht]
  refine ⟨by omega, ⟨by omega, by omega⟩, ⟨by omega, by omega⟩, ?_⟩
  unfold detB
  refine RetOK.goF Hs [] [] [] [] [] (.inl rfl) hs (by simp [kOK]) rfl ?_
  simp [a137, cvT, step, res, -List.getD_eq_getElem?_getD]
theorem any_getD {α : Type} (l : List α) (d : α) (P : α → Bool) : (List.range l.length).any (fun k => P (l.getD k d)) = l.any P := by
  rw [Bool.eq_iff_iff]
  simp only [List.any_eq_true, List.mem_range]
  constructor
  · rintro ⟨k, hk, h⟩
    refine ⟨_, ?_, h⟩
    rw [List.getD_eq_getElem?_getD, List.getElem?_eq_getElem hk]
    exact List.getElem_mem hk
  · rintro ⟨x, hx, h⟩
    obtain ⟨k, hk, rfl⟩ := List.getElem_of_mem hx
    exact ⟨k, hk, by rw [List.getD_eq_getElem?_getD, List.getElem?_eq_getElem hk]; exact h⟩
theorem openB_few (G : List (List UInt8)) (X : List Rw) (B : Nat) (t : Int) : (!(fewZ B X.length).any fun i => detB G (X.getD i z0).2.2 t) = openB G X B t := by
  unfold openB fewZ
  congr 1
  rw [List.any_filter]
theorem eb2_c (Hs : Heap) (il ir id : Nat) (g0 r0 : Bool) (b : Nat → Bool) (G : List (List UInt8)) (R : RowL) (nx nq : Bool) (X : List Rw) (B : Nat) (t : Int) (nid : Nat) (hs : Scoped nid Hs)
    (hl : getH Hs il = boxN nq (fewZ B X.length)) (hr : getH Hs ir = boxX nx X) (hd : getH Hs id = boxP2 g0 r0 b G R) (h0 : 0 ≤ t) (h1 : t < G.length) (hX : ∀ p ∈ X, p.2.2.length = G.length) (hG : G.length ≤ 1000000) (hXl : X.length ≤ 1000000) :
    ACall Tryz.prog 136 [.int .i64 t, .ptr il 0, .ptr ir 0, .ptr id 0] Hs nid (.bool (openB G X B t)) [] := by
  have hd0 := hd
  have hr0 := hr
  unfold boxP2 at hd
  unfold boxX at hr
  unfold boxN litNat at hl
  obtain ⟨a1, a2, a3⟩ := keyFact hs hd
  obtain ⟨b1, b2, b3⟩ := keyFact hs hr
  obtain ⟨c1, c2, c3⟩ := keyFact hs hl
  have hfl := fewZ_len B X.length
  have hmem : ∀ k, k < (fewZ B X.length).length → (fewZ B X.length).getD k 0 < X.length := fun k hk => by
    have : (fewZ B X.length).getD k 0 ∈ fewZ B X.length := by rw [List.getD_eq_getElem?_getD, List.getElem?_eq_getElem hk]; exact List.getElem_mem hk
    exact List.mem_range.1 (List.mem_filter.1 this).1
  have hin : ∀ m, nid < m → Scoped m ((nid, boxT t) :: Hs) := fun m hm => hs.cons (Nat.le_refl _) hm rfl
  have hcs := fun m (hm : nid < m) => containsI_h 137 [.ptr ir 0, .ptr nid 0, .ptr id 0] ((nid, boxT t) :: Hs) (fun k => detB G (X.getD ((fewZ B X.length).getD k 0) z0).2.2 t) nq (fewZ B X.length).length (fun k => (((fewZ B X.length).getD k 0 : Nat) : Int)) m (hin m hm) (by simp [lowAll, idsOfs, idsOf]; omega) (by omega) (fun k hk m' h' =>
    eb3_c ((nid, boxT t) :: Hs) ir nid id g0 r0 b G R nx X t ((fewZ B X.length).getD k 0) m' (hin m' (by omega)) (by simp only [getH, b1, cond_false]; exact hr0) (by simp only [getH_hit]) (by simp only [getH, a1, cond_false]; exact hd0) h0 h1 (hmem k hk) (hX _ (rwMem (hmem k hk))) hG)
  have e := any_getD (fewZ B X.length) 0 (fun i => detB G (X.getD i z0).2.2 t)
  simp only [e] at hcs
  have eo := openB_few G X B t
  generalize (fewZ B X.length).any (fun i => detB G (X.getD i z0).2.2 t) = q at *
  unfold boxT at hcs
  refine acall_run c136 (by simp [a136]) ?_
  simp -dsimp only [a136, aqT, aqU, aqN, aqS, ↓seqK, ↓blkK, ↓loopK, step, stepBin, Nat.add_assoc nid, ↓reduceIte, Option.toList, ← Int.ofNat_tmod, ← Int.ofNat_tdiv, simprocAttr, BEq.rfl, LN_succ, a1, a2, b1, b2, c1, c2, hd, hr, hl]
  refine CallO.on (hcs _ (by omega)) (fun _ _ h => h) ?_
  simp -dsimp only [aqT, aqU, aqN, aqS, ↓seqK, ↓blkK, ↓loopK, step, stepBin, Nat.add_assoc nid, ↓reduceIte, Option.toList, ← Int.ofNat_tmod, ← Int.ofNat_tdiv, simprocAttr, BEq.rfl, LN_succ, a1, a2, b1, b2, c1, c2, hd, hr, hl]
  rw [eo]
  refine RetOK.goF Hs [] [_] [] [] [] (.inl rfl) hs (by simp [kOK]) rfl ?_
  simp [a136, cvT, step, res]
theorem eb1_c (Hs : Heap) (il ir id : Nat) (g0 r0 : Bool) (b : Nat → Bool) (G : List (List UInt8)) (R : RowL) (nx nf : Bool) (X : List Rw) (F : List Int) (nq : Bool) (B : Nat) (nid : Nat) (hs : Scoped nid Hs)
    (hl : getH Hs il = boxF nf F) (hr : getH Hs ir = boxX nx X) (hd : getH Hs id = boxP2 g0 r0 b G R) (hF : ∀ t ∈ F, 0 ≤ t ∧ t < G.length) (hFl : F.length ≤ 1000000) (hX : ∀ p ∈ X, p.2.2.length = G.length) (hG : G.length ≤ 1000000) (hXl : X.length ≤ 1000000) :
    ACall Tryz.prog 135 [litNat nq (fewZ B X.length), .ptr il 0, .ptr ir 0, .ptr id 0] Hs nid (.bool (okE G X F B)) [] := by
  have hd0 := hd
  have hr0 := hr
  unfold boxP2 at hd
  unfold boxX at hr
  unfold boxF litI at hl
  obtain ⟨a1, a2, a3⟩ := keyFact hs hd
  obtain ⟨b1, b2, b3⟩ := keyFact hs hr
  obtain ⟨c1, c2, c3⟩ := keyFact hs hl
  have hin : ∀ m, nid < m → Scoped m ((nid, boxN nq (fewZ B X.length)) :: Hs) := fun m hm => hs.cons (Nat.le_refl _) hm rfl
  have hFk : ∀ k, k < F.length → 0 ≤ F.getD k 0 ∧ F.getD k 0 < G.length := fun k hk => hF _ (by rw [List.getD_eq_getElem?_getD, List.getElem?_eq_getElem hk]; exact List.getElem_mem hk)
  have hcs := fun m (hm : nid < m) => containsI_h 136 [.ptr nid 0, .ptr ir 0, .ptr id 0] ((nid, boxN nq (fewZ B X.length)) :: Hs) (fun k => openB G X B (F.getD k 0)) nf F.length (fun k => F.getD k 0) m (hin m hm) (by simp [lowAll, idsOfs, idsOf]; omega) hFl (fun k hk m' h' =>
    eb2_c ((nid, boxN nq (fewZ B X.length)) :: Hs) nid ir id g0 r0 b G R nx nq X B (F.getD k 0) m' (hin m' (by omega)) (by simp only [getH_hit]) (by simp only [getH, b1, cond_false]; exact hr0) (by simp only [getH, a1, cond_false]; exact hd0) (hFk k hk).1 (hFk k hk).2 hX hG hXl)
  have eo : (!(List.range F.length).any fun k => openB G X B (F.getD k 0)) = okE G X F B := rfl
  generalize (List.range F.length).any (fun k => openB G X B (F.getD k 0)) = q at *
  unfold boxN litNat at hcs
  refine acall_run c135 (by simp [a135]) ?_
  unfold litNat
  simp -dsimp only [a135, aqT, aqU, aqN, aqS, ↓seqK, ↓blkK, ↓loopK, step, stepBin, Nat.add_assoc nid, ↓reduceIte, Option.toList, ← Int.ofNat_tmod, ← Int.ofNat_tdiv, simprocAttr, BEq.rfl, LN_succ, a1, a2, b1, b2, c1, c2, hd, hr, hl]
  refine CallO.on (hcs _ (by omega)) (fun _ _ h => h) ?_
  simp -dsimp only [aqT, aqU, aqN, aqS, ↓seqK, ↓blkK, ↓loopK, step, stepBin, Nat.add_assoc nid, ↓reduceIte, Option.toList, ← Int.ofNat_tmod, ← Int.ofNat_tdiv, simprocAttr, BEq.rfl, LN_succ, a1, a2, b1, b2, c1, c2, hd, hr, hl]
  rw [eo]
  refine RetOK.goF Hs [] [_] [] [] [] (.inl rfl) hs (by simp [kOK]) rfl ?_
  simp [a135, cvT, step, res]
def agrB (G L : List (List UInt8)) (t : Int) (r : List UInt8) : Bool := detB G L t && (r == G.getD t.toNat [])
def agrS (G L : List (List UInt8)) (S : SeenL) : Bool := (List.range S.length).any fun k => agrB G L (sT S k) (sR S k)
theorem po1_c (Hs : Heap) (ix id : Nat) (g0 r0 : Bool) (b : Nat → Bool) (G : List (List UInt8)) (R : RowL) (f : List UInt8) (bl : Bool) (L : List (List UInt8)) (t : Int) (r : List UInt8) (nid : Nat) (hs : Scoped nid Hs)
    (hx : getH Hs ix = boxRw f bl L) (hd : getH Hs id = boxP2 g0 r0 b G R) (h0 : 0 ≤ t) (h1 : t < G.length) (h2 : L.length = G.length) (hG : G.length ≤ 1000000) :
    ACall Tryz.prog 209 [.agg [.int .i64 t, .str r], .ptr ix 0, .ptr id 0] Hs nid (.bool (agrB G L t r)) [] := by
  unfold boxP2 at hd
  unfold boxRw at hx
  obtain ⟨a1, a2, a3⟩ := keyFact hs hd
  obtain ⟨b1, b2, b3⟩ := keyFact hs hx
  refine acall_run c209 (by simp [a209]) ?_
  simp -dsimp only [a209, aqT, aqU, aqN, aqS, ↓seqK, ↓blkK, ↓loopK, step, stepBin, Nat.add_assoc nid, ↓reduceIte, Option.toList, ← Int.ofNat_tmod, ← Int.ofNat_tdiv, simprocAttr, BEq.rfl, LN_succ, a1, a2, b1, b2, hd, hx]
  refine ⟨⟨by omega, by omega⟩, ⟨by omega, by omega⟩, ?_⟩
  have ed : (!(L.getD t.toNat [] == G.getD t.toNat [])) = detB G L t := rfl
  rw [ed]
  unfold agrB
  cases hb : detB G L t <;> simp -dsimp only [aqT, aqU, aqN, aqS, ↓seqK, ↓blkK, ↓loopK, step, stepBin, Nat.add_assoc nid, ↓reduceIte, Option.toList, ← Int.ofNat_tmod, ← Int.ofNat_tdiv, simprocAttr, BEq.rfl, LN_succ, a1, a2, b1, b2, hd, hx]
  · refine RetOK.goF Hs [] [_] [] [] [] (.inl rfl) hs (by simp [kOK]) rfl ?_
    simp [a209, cvT, step, res]
  · refine ⟨⟨by omega, by omega⟩, ?_⟩
    refine RetOK.goF Hs [] [_] [] [] [] (.inl rfl) hs (by simp [kOK]) rfl ?_
    simp [a209, cvT, step, res, -List.getD_eq_getElem?_getD]
end Go.Proofs.YtpifoghhaohhaaaGreatDoor
namespace Go.Proofs.YtpifoghhaohhaaaGreatDoor
open Go.RowKit Go.Shelf Go.Lib
def partR (b : Nat → Bool) (G : List (List UInt8)) (R : RowL) (S : SeenL) : List Rw := keepW (fun p => agrS G p.2.2 S) (rowsB b R)
theorem rwApp_s (V : List Rw) (p : Rw) {n : Nat} (hn : n = V.length + 1) : ColEq n (.s fun i => if i < V.length then (V.getD i z0).1 else ([p.1] : List (List UInt8)).getD (i - V.length) []) (.s fun k => ((V ++ [p]).getD k z0).1) := ColEq.s fun j hj => by
  by_cases h : j < V.length
  · rw [if_pos h, List.getD_eq_getElem?_getD, List.getD_eq_getElem?_getD, List.getElem?_append_left h]
  · have e : j = V.length := by omega
    subst e
    rw [if_neg h, List.getD_eq_getElem?_getD (l := V ++ [p]), List.getElem?_append_right (Nat.le_refl _), Nat.sub_self]
    rfl
theorem rwApp_l (V : List Rw) (p : Rw) {n : Nat} (hn : n = V.length + 1) (xs : List (Bool × Nat × List Col)) (hx : xs = [(p.2.1, p.2.2.length, [.s fun j => p.2.2.getD j []])]) :
    ColEq n (.l (fun i => if i < V.length then (V.getD i z0).2.1 else (xs.getD (i - V.length) (true, 0, [])).1) (fun i => if i < V.length then (V.getD i z0).2.2.length else (xs.getD (i - V.length) (true, 0, [])).2.1) (fun i => if i < V.length then [.s fun j => (V.getD i z0).2.2.getD j []] else (xs.getD (i - V.length) (true, 0, [])).2.2))
      (.l (fun k => ((V ++ [p]).getD k z0).2.1) (fun k => ((V ++ [p]).getD k z0).2.2.length) (fun k => [.s fun j => ((V ++ [p]).getD k z0).2.2.getD j []])) := ColEq.l fun j hj => by
  subst hx
  by_cases h : j < V.length
  · have e : (V ++ [p]).getD j z0 = V.getD j z0 := by rw [List.getD_eq_getElem?_getD, List.getElem?_append_left h, ← List.getD_eq_getElem?_getD]
    rw [if_pos h, if_pos h, if_pos h, e]
    exact ⟨rfl, rfl, ColsEq.refl _ _⟩
  · have e : j = V.length := by omega
    subst e
    have e2 : (V ++ [p]).getD V.length z0 = p := by simp
    rw [if_neg h, if_neg h, if_neg h, e2, Nat.sub_self]
    exact ⟨rfl, rfl, ColsEq.refl _ _⟩
set_option maxHeartbeats 4000000 in
theorem parts_c (g0 r0 : Bool) (b : Nat → Bool) (G : List (List UInt8)) (R : RowL) (nl : Bool) (S : SeenL) (nid : Nat) (hgl : G.length ≤ 1000000) (hrl : R.length ≤ 1000000) (hsl : S.length ≤ 1000000) (hlen : ∀ j, j < R.length → (rowR R j).length = G.length) (hI : SnIn G.length S) :
    ACall Tryz.prog 134 [dictP g0 r0 b G R, litSn nl S] [] nid (.tup [.sl nid 0 (partR b G R S).length, .sl (nid + 1) 0 (failV G S).length]) [(nid, arrRw (partR b G R S)), (nid + 1, arrI (failV G S))] := by
  refine acall_sr c134 (by simp [a134]) ?_
  unfold a134 dictP litSn
  refine SR.seq ?_
  simp -dsimp only [aqT, aqU, aqN, aqS, ↓seqK, ↓blkK, ↓loopK, step, stepBin, Nat.add_assoc nid, ↓reduceIte, Option.toList, ← Int.ofNat_tmod, ← Int.ofNat_tdiv, simprocAttr, BEq.rfl, LN_succ]
  refine SR.seqW (ι := Unit) (fun _ => ⟨[(5, .sl (nid + 20) 0 (failV G S).length), (4, .lit true 0 []), (1, litSn nl S), (2, .ptr nid 0)], [(nid + 20, arrI (failV G S)), (nid, boxP2 g0 r0 b G R)], nid + 2000, nid⟩) ?_ (fun _ => ?_)
  · refine SR.seqTo ⟨[(13, .int .i64 0), (12, .int .i64 S.length), (11, litSn nl S), (5, .lit true 0 []), (4, .lit true 0 []), (1, litSn nl S), (2, .ptr nid 0)], [(nid, boxP2 g0 r0 b G R)], nid + 150, nid⟩ ?_ ?_
    · simp -dsimp only [aqT, aqU, aqN, aqS, ↓seqK, ↓blkK, ↓loopK, step, stepBin, Nat.add_assoc nid, ↓reduceIte, Option.toList, ← Int.ofNat_tmod, ← Int.ofNat_tdiv, simprocAttr, BEq.rfl, LN_succ]
      refine Cov.go [] [] ?_
      simp [cvT, step, res, boxP2, litSn, ColsEq.refl, -List.getD_eq_getElem?_getD]
    refine SR.block ?_
    refine SR.loopP (fun k : Nat => k ≤ S.length) (fun k => ⟨[(13, .int .i64 k), (12, .int .i64 S.length), (11, litSn nl S), (5, .sl (nid + 20) 0 (failT G S k).length), (4, .lit true 0 []), (1, litSn nl S), (2, .ptr nid 0)], [(nid + 20, arrI (failT G S k)), (nid, boxP2 g0 r0 b G R)], nid + 200, nid⟩) (fun k => S.length + 1 - k) 0 (by omega) (Cov.go [] [(nid + 20, 1)] ?_) (fun k hk => ?_)
    · simp [cvT, step, res, boxP2, litSn, arrI, failT, ColsEq.refl, -List.getD_eq_getElem?_getD]
    have hfs := failT_succ G S k
    have hfk := failT_len G S k
    have hin := hI k
    have hend : k = S.length → failV G S = failT G S k := fun e => by rw [e]; rfl
    generalize failT G S k = V at *
    refine SR.run (t := .mk) ?_
    unfold litSn arrI boxP2
    simp -dsimp only [aqT, aqU, aqN, aqS, ↓seqK, ↓blkK, ↓loopK, step, stepBin, Nat.add_assoc nid, ↓reduceIte, Option.toList, ← Int.ofNat_tmod, ← Int.ofNat_tdiv, simprocAttr, BEq.rfl, LN_succ]
    refine S2.dec (fun h3 => ?_) (fun h3 => ?_) <;> simp -dsimp only [aqT, aqU, aqN, aqS, ↓seqK, ↓blkK, ↓loopK, step, stepBin, Nat.add_assoc nid, ↓reduceIte, Option.toList, ← Int.ofNat_tmod, ← Int.ofNat_tdiv, simprocAttr, BEq.rfl, LN_succ]
    · have hkl : k < S.length := by omega
      have hin := hin hkl
      refine ⟨by omega, ⟨by omega, by omega⟩, ?_⟩
      have eo : (!(sR S k == G.getD (sT S k).toNat [])) = offB G (sT S k) (sR S k) := by unfold offB; rw [BEq.comm]
      rw [eo]
      cases h6 : offB G (sT S k) (sR S k) <;> rw [h6] at hfs <;> simp -dsimp only [aqT, aqU, aqN, aqS, ↓seqK, ↓blkK, ↓loopK, step, stepBin, Nat.add_assoc nid, ↓reduceIte, Option.toList, ← Int.ofNat_tmod, ← Int.ofNat_tdiv, simprocAttr, BEq.rfl, LN_succ]
      · rw [if_neg (by simp)] at hfs
        refine ⟨by unfold inI64; omega, k + 1, ⟨by omega, by omega⟩, Cov.go [] [] ?_⟩
        rw [hfs]
        simp [cvT, step, res, boxP2, litSn, arrI, ColsEq.refl, -List.getD_eq_getElem?_getD]
      · rw [if_pos rfl] at hfs
        rw [getD_appI]
        refine ⟨⟨by omega, by omega⟩, by unfold inI64; omega, k + 1, ⟨by omega, by omega⟩, Cov.go [(nid + 20, nid + 272)] [] ?_⟩
        simp only [hfs]
        simp [cvT, step, res, boxP2, litSn, arrI, ColsEq.refl, -List.getD_eq_getElem?_getD, -List.length_append]
        try simp
    · have hend := hend (by omega)
      rw [hend]
      refine ⟨(), Cov.go [] [] ?_⟩
      simp [cvT, step, res, boxP2, litSn, arrI, ColsEq.refl, -List.getD_eq_getElem?_getD]
  generalize failV G S = F at *
  refine SR.seqW (ι := Unit) (fun _ => ⟨[(5, .sl (nid + 20) 0 F.length), (4, .sl (nid + 24) 0 (partR b G R S).length)], [(nid + 24, arrRw (partR b G R S)), (nid + 20, arrI F)], nid + 4000, nid⟩) ?_ (fun _ => ?_)
  · unfold boxP2 litSn arrI
    refine SR.seqTo ⟨[(35, .int .i64 0), (34, .int .i64 R.length), (33, rowsP r0 b R), (5, .sl (nid + 20) 0 F.length), (4, .lit true 0 []), (1, litSn nl S), (2, .ptr nid 0)], [(nid + 20, arrI F), (nid, boxP2 g0 r0 b G R)], nid + 2100, nid⟩ ?_ ?_
    · simp -dsimp only [aqT, aqU, aqN, aqS, ↓seqK, ↓blkK, ↓loopK, step, stepBin, Nat.add_assoc nid, ↓reduceIte, Option.toList, ← Int.ofNat_tmod, ← Int.ofNat_tdiv, simprocAttr, BEq.rfl, LN_succ]
      refine Cov.go [] [] ?_
      simp [cvT, step, res, boxP2, litSn, rowsP, arrI, ColsEq.refl, -List.getD_eq_getElem?_getD]
    refine SR.block ?_
    refine SR.loopP (fun k : Nat => k ≤ R.length) (fun k => ⟨[(35, .int .i64 k), (34, .int .i64 R.length), (33, rowsP r0 b R), (5, .sl (nid + 20) 0 F.length), (4, .sl (nid + 24) 0 (keepW (fun p => agrS G p.2.2 S) ((rowsB b R).take k)).length), (1, litSn nl S), (2, .ptr nid 0)], [(nid + 24, arrRw (keepW (fun p => agrS G p.2.2 S) ((rowsB b R).take k))), (nid + 20, arrI F), (nid, boxP2 g0 r0 b G R)], nid + 2200, nid⟩) (fun k => R.length + 1 - k) 0 (by omega) (Cov.go [] [(nid + 24, 2)] ?_) (fun k hk => ?_)
    · simp [cvT, step, res, boxP2, litSn, rowsP, arrI, arrRw, colsRw, keepW, ColsEq.refl, -List.getD_eq_getElem?_getD]
    have hks := fun h => keepW_succ (F := fun p => agrS G p.2.2 S) (l := rowsB b R) (k := k) h
    have hkl2 := keepW_len (fun p => agrS G p.2.2 S) ((rowsB b R).take k)
    rw [List.length_take, rowsB_len] at hkl2
    have hend : k = R.length → partR b G R S = keepW (fun p => agrS G p.2.2 S) ((rowsB b R).take k) := fun e => by unfold partR; rw [List.take_of_length_le (by rw [rowsB_len]; omega)]
    generalize keepW (fun p => agrS G p.2.2 S) ((rowsB b R).take k) = V at *
    refine SR.run (t := .mk) ?_
    unfold rowsP arrRw colsRw arrI boxP2
    simp -dsimp only [aqT, aqU, aqN, aqS, ↓seqK, ↓blkK, ↓loopK, step, stepBin, Nat.add_assoc nid, ↓reduceIte, Option.toList, ← Int.ofNat_tmod, ← Int.ofNat_tdiv, simprocAttr, BEq.rfl, LN_succ]
    refine S2.dec (fun h3 => ?_) (fun h3 => ?_) <;> simp -dsimp only [aqT, aqU, aqN, aqS, ↓seqK, ↓blkK, ↓loopK, step, stepBin, Nat.add_assoc nid, ↓reduceIte, Option.toList, ← Int.ofNat_tmod, ← Int.ofNat_tdiv, simprocAttr, BEq.rfl, LN_succ]
    · have hkl : k < R.length := by omega
      have hks := hks (by rw [rowsB_len]; omega)
      rw [rowsB_at b R hkl] at hks
      have hlk := hlen k hkl
      have hcs := fun i m (hi : nid < i) (hm : i < m) => containsSn_h 209 [.ptr i 0, .ptr nid 0] [(i, boxRw (rowF R k) (b k) (rowR R k)), (nid, boxP2 g0 r0 b G R)] (fun j => agrB G (rowR R k) (sT S j) (sR S j)) nl S.length (sT S) (sR S) m (scoped2 hm (by omega) rfl rfl) (by simp [lowAll, idsOfs, idsOf]; omega) hsl (fun j hj m' h' =>
        po1_c [(i, boxRw (rowF R k) (b k) (rowR R k)), (nid, boxP2 g0 r0 b G R)] i nid g0 r0 b G R (rowF R k) (b k) (rowR R k) (sT S j) (sR S j) m' (scoped2 (by omega) (by omega) rfl rfl) (by simp only [getH_hit]) (by have e : (i == nid) = false := (by simp; omega); simp only [getH, e, cond_false, beq_self_eq_true, cond_true]) (hI j hj).1 (hI j hj).2 hlk hgl)
      have ea : ((List.range S.length).any fun j => agrB G (rowR R k) (sT S j) (sR S j)) = agrS G (rowR R k) S := rfl
      rw [ea] at hcs
      unfold litSn
      refine ⟨by omega, CallO.on (hcs (nid + 2212) _ (by omega) (by omega)) (subH_cons (by simp only [aqT, aqU, aqN, aqS, ↓seqK, ↓blkK, ↓loopK, step, stepBin, Nat.add_assoc nid, ↓reduceIte, Option.toList, ← Int.ofNat_tmod, ← Int.ofNat_tdiv, simprocAttr, BEq.rfl, LN_succ, boxRw]) (subH_get (by simp only [aqT, aqU, aqN, aqS, ↓seqK, ↓blkK, ↓loopK, step, stepBin, Nat.add_assoc nid, ↓reduceIte, Option.toList, ← Int.ofNat_tmod, ← Int.ofNat_tdiv, simprocAttr, BEq.rfl, LN_succ, boxP2]))) ?_⟩
      simp -dsimp only [aqT, aqU, aqN, aqS, ↓seqK, ↓blkK, ↓loopK, step, stepBin, Nat.add_assoc nid, ↓reduceIte, Option.toList, ← Int.ofNat_tmod, ← Int.ofNat_tdiv, simprocAttr, BEq.rfl, LN_succ]
      cases h6 : agrS G (rowR R k) S <;> simp only [h6] at hks <;> simp -dsimp only [aqT, aqU, aqN, aqS, ↓seqK, ↓blkK, ↓loopK, step, stepBin, Nat.add_assoc nid, ↓reduceIte, Option.toList, ← Int.ofNat_tmod, ← Int.ofNat_tdiv, simprocAttr, BEq.rfl, LN_succ, Bool.not_false, Bool.not_true]
      · rw [if_neg (by simp)] at hks
        refine ⟨⟨by omega, by omega⟩, by unfold inI64; omega, k + 1, ⟨by omega, by omega⟩, Cov.go [(nid + 24, nid + 2256)] [] ?_⟩
        simp only [hks]
        simp [cvT, step, res, boxP2, litSn, rowsP, arrI, arrRw, colsRw, ColsEq.refl, -List.getD_eq_getElem?_getD]
        exact ⟨rwApp_s V (rowF R k, b k, rowR R k) rfl, rwApp_l V (rowF R k, b k, rowR R k) rfl _ rfl⟩
      · rw [if_pos (by simp), List.append_nil] at hks
        refine ⟨by unfold inI64; omega, k + 1, ⟨by omega, by omega⟩, Cov.go [] [] ?_⟩
        rw [hks]
        simp [cvT, step, res, boxP2, litSn, rowsP, arrI, arrRw, colsRw, ColsEq.refl, -List.getD_eq_getElem?_getD]
    · have hend := hend (by omega)
      rw [hend]
      refine ⟨(), Cov.go [] [] ?_⟩
      simp [cvT, step, res, arrI, arrRw, colsRw, ColsEq.refl, -List.getD_eq_getElem?_getD]
  refine SR.run (t := .mk) ?_
  unfold arrRw arrI colsRw
  simp -dsimp only [aqT, aqU, aqN, aqS, ↓seqK, ↓blkK, ↓loopK, step, stepBin, Nat.add_assoc nid, ↓reduceIte, Option.toList, ← Int.ofNat_tmod, ← Int.ofNat_tdiv, simprocAttr, BEq.rfl, LN_succ]
  refine RetOK.go [(nid, nid + 24), (nid + 1, nid + 20)] [] (.inl rfl) ?_
  simp [a134, cvT, step, res, ColsEq.refl, -List.getD_eq_getElem?_getD]
end Go.Proofs.YtpifoghhaohhaaaGreatDoor
namespace Go.Proofs.YtpifoghhaohhaaaGreatDoor
open Go.RowKit Go.Shelf Go.Lib
theorem colsRw_self {hi : Nat} {ren nils : List (Nat × Nat)} {n : Nat} (l : List Rw) : AColsEq hi ren nils n (colsRw l) (colsRw l) := AColsEq.self _ rfl
theorem full_all : ((List.range 8).all fun n => fewZ (2 ^ n - 1) n == List.range n) = true := by kernel_rfl
theorem full_eq {n : Nat} (hn : n ≤ 7) : fewZ (2 ^ n - 1) n = List.range n := beq_iff_eq.1 (List.all_eq_true.1 full_all n (List.mem_range.2 (by omega)))
def outL (X : List Rw) (l : List Nat) : List (List UInt8) := l.map fun i => (X.getD i z0).1
theorem outL_succ (X : List Rw) (l : List Nat) {k : Nat} (hk : k < l.length) : outL X (l.take (k + 1)) = outL X (l.take k) ++ [(X.getD (l.getD k 0) z0).1] := by
  unfold outL
  rw [List.take_succ_eq_append_getElem hk, List.map_append, List.getD_eq_getElem?_getD (l := l), List.getElem?_eq_getElem hk]
  rfl
set_option maxHeartbeats 8000000 in
theorem explainedBy_c (g0 r0 : Bool) (b : Nat → Bool) (G : List (List UInt8)) (R : RowL) (nl : Bool) (S : SeenL) (nid : Nat) (hgl : G.length ≤ 1000000) (hrl : R.length ≤ 7) (hsl : S.length ≤ 1000000) (hlen : ∀ j, j < R.length → (rowR R j).length = G.length) (hI : SnIn G.length S) :
    ACall Tryz.prog 52 [dictP g0 r0 b G R, litSn nl S] [] nid (exR nid (okE G (partR b G R S) (failV G S) (2 ^ (partR b G R S).length - 1)) (exOut (partR b G R S) (shortTo (okE G (partR b G R S) (failV G S)) (partR b G R S).length (2 ^ (partR b G R S).length)) (partR b G R S).length))
      (exU nid (okE G (partR b G R S) (failV G S) (2 ^ (partR b G R S).length - 1)) (exOut (partR b G R S) (shortTo (okE G (partR b G R S) (failV G S)) (partR b G R S).length (2 ^ (partR b G R S).length)) (partR b G R S).length)) := by
  have hpc := fun m => parts_c g0 r0 b G R nl S m hgl (by omega) hsl hlen hI
  have hfi := failT_in (G := G) hI (Nat.le_refl S.length)
  change ∀ t ∈ failV G S, 0 ≤ t ∧ t < G.length at hfi
  have hfl : (failV G S).length ≤ S.length := failT_len G S S.length
  have hXl : (partR b G R S).length ≤ 7 := by
    have := keepW_len (fun p => agrS G p.2.2 S) (rowsB b R)
    rw [rowsB_len] at this
    exact Nat.le_trans this hrl
  have hpr : ∀ p ∈ partR b G R S, p.2.2.length = G.length := fun p hp => by
    obtain ⟨k, hk, rfl⟩ := rowsB_mem (List.mem_filter.1 hp).1
    exact hlen k hk
  generalize partR b G R S = X at *
  generalize failV G S = F at *
  have hpw := (powZ_eq (j := X.length) (by omega)).2
  have hp1 : 2 ^ X.length ≤ 2 ^ 7 := Nat.pow_le_pow_right (by omega) hXl
  have hp0 := Nat.two_pow_pos X.length
  refine acall_sr c52 (by simp [a52]) ?_
  unfold a52
  refine SR.seq ?_
  unfold dictP litSn at *
  simp -dsimp only [aqT, aqU, aqN, aqS, ↓seqK, ↓blkK, ↓loopK, step, stepBin, Nat.add_assoc nid, ↓reduceIte, Option.toList, ← Int.ofNat_tmod, ← Int.ofNat_tdiv, simprocAttr, BEq.rfl, LN_succ]
  refine SR.seqTo ⟨[(8, .ptr (nid + 8) 0), (7, .ptr (nid + 12) 0), (2, .ptr nid 0)], [(nid + 20, arrRw X), (nid + 24, arrI F), (nid + 8, some (.box 22 [.sl (nid + 24) 0 F.length])), (nid + 12, some (.box 27 [.sl (nid + 20) 0 X.length])), (nid, boxP2 g0 r0 b G R)], nid + 100, nid⟩ ?_ ?_
  · simp -dsimp only [aqT, aqU, aqN, aqS, ↓seqK, ↓blkK, ↓loopK, step, stepBin, Nat.add_assoc nid, ↓reduceIte, Option.toList, ← Int.ofNat_tmod, ← Int.ofNat_tdiv, simprocAttr, BEq.rfl, LN_succ]
    refine CallO.pure (hpc _) ?_
    unfold arrRw arrI
    simp -dsimp only [aqT, aqU, aqN, aqS, ↓seqK, ↓blkK, ↓loopK, step, stepBin, Nat.add_assoc nid, ↓reduceIte, Option.toList, ← Int.ofNat_tmod, ← Int.ofNat_tdiv, simprocAttr, BEq.rfl, LN_succ]
    refine Cov.go [(nid + 20, nid + 24), (nid + 24, nid + 25), (nid + 8, nid + 44), (nid + 12, nid + 40)] [] ?_
    simp [cvT, step, res, boxP2, colsRw_self, ColsEq.refl, -List.getD_eq_getElem?_getD]
  unfold arrRw arrI boxP2
  have hno : noOs (colsRw X) = true := rfl
  refine SR.freezeB [nid + 20, nid + 24] (fun n2 => ?_)
  simp only [frzS, frzH, frzBlk, lends, lend, kill, hno, noOs, aqT, aqU, aqN, aqS, ↓seqK, ↓blkK, ↓loopK, step, stepBin, Nat.add_assoc nid, ↓reduceIte, Option.toList, ← Int.ofNat_tmod, ← Int.ofNat_tdiv, simprocAttr, BEq.rfl, LN_succ]
  clear hno
  generalize n2 (nid + 20) = nx
  generalize n2 (nid + 24) = nf
  refine SR.cov (t' := .mk) (st' := ⟨[(8, .ptr (nid + 8) 0), (7, .ptr (nid + 12) 0), (2, .ptr nid 0)], [(nid + 8, boxF nf F), (nid + 12, boxX nx X), (nid, boxP2 g0 r0 b G R)], nid + 100, nid⟩) ?_ ?_
  · refine Cov.go [] [] ?_
    simp [cvT, step, res, boxP2, boxF, litI, boxX, ColsEq.refl, -List.getD_eq_getElem?_getD]
  refine SR.seqTo ⟨[(8, .ptr (nid + 8) 0), (7, .ptr (nid + 12) 0), (2, .ptr nid 0)], [(nid + 8, boxF nf F), (nid + 12, boxX nx X), (nid, boxP2 g0 r0 b G R)], nid + 200, nid⟩ ?_ ?_
  · unfold boxX
    simp -dsimp only [aqT, aqU, aqN, aqS, ↓seqK, ↓blkK, ↓loopK, step, stepBin, Nat.add_assoc nid, ↓reduceIte, Option.toList, ← Int.ofNat_tmod, ← Int.ofNat_tdiv, simprocAttr, BEq.rfl, LN_succ]
    refine S2.no (by simp; omega) ?_
    simp -dsimp only [aqT, aqU, aqN, aqS, ↓seqK, ↓blkK, ↓loopK, step, stepBin, Nat.add_assoc nid, ↓reduceIte, Option.toList, ← Int.ofNat_tmod, ← Int.ofNat_tdiv, simprocAttr, BEq.rfl, LN_succ]
    refine Cov.go [] [] ?_
    simp [cvT, step, res, boxP2, boxF, litI, boxX, ColsEq.refl, -List.getD_eq_getElem?_getD]
  refine SR.seq ?_
  simp -dsimp only [aqT, aqU, aqN, aqS, ↓seqK, ↓blkK, ↓loopK, step, stepBin, Nat.add_assoc nid, ↓reduceIte, Option.toList, ← Int.ofNat_tmod, ← Int.ofNat_tdiv, simprocAttr, BEq.rfl, LN_succ]
  have hsc : ∀ m, nid + 12 < m → Scoped m [(nid + 8, boxF nf F), (nid + 12, boxX nx X), (nid, boxP2 g0 r0 b G R)] := fun m hm => scoped3 (by omega) hm (by omega) rfl rfl rfl
  have hcl := fun nq B m (hm : nid + 12 < m) => eb1_c [(nid + 8, boxF nf F), (nid + 12, boxX nx X), (nid, boxP2 g0 r0 b G R)] (nid + 8) (nid + 12) nid g0 r0 b G R nx nf X F nq B m (hsc m hm) (by simp only [getH_hit]) (by simp only [aqT, aqU, aqN, aqS, ↓seqK, ↓blkK, ↓loopK, step, stepBin, Nat.add_assoc nid, ↓reduceIte, Option.toList, ← Int.ofNat_tmod, ← Int.ofNat_tdiv, simprocAttr, BEq.rfl, LN_succ]) (by simp only [aqT, aqU, aqN, aqS, ↓seqK, ↓blkK, ↓loopK, step, stepBin, Nat.add_assoc nid, ↓reduceIte, Option.toList, ← Int.ofNat_tmod, ← Int.ofNat_tdiv, simprocAttr, BEq.rfl, LN_succ]) hfi (by omega) hpr hgl (by omega)
  have hmm : ∃ (nq : Bool) (cols : List Col), (∀ m, ACall Tryz.prog 138 [.int .i64 ((2 ^ X.length - 1 : Nat) : Int), .int .i64 (X.length : Nat)] [] m (.lit nq X.length cols) []) ∧ (∀ m, nid + 12 < m → ACall Tryz.prog 135 [.lit nq X.length cols, .ptr (nid + 8) 0, .ptr (nid + 12) 0, .ptr nid 0] [(nid + 8, boxF nf F), (nid + 12, boxX nx X), (nid, boxP2 g0 r0 b G R)] m (.bool (okE G X F (2 ^ X.length - 1))) []) := by
    have hfull := full_eq (n := X.length) hXl
    by_cases h0 : X.length = 0
    · refine ⟨true, [], fun m => by rw [h0]; exact mem0_c m, fun m hm => ?_⟩
      have h1 := hcl true (2 ^ X.length - 1) m hm
      rw [hfull, h0] at h1
      rw [h0]
      exact ACall.nilArg 0 rfl h1
    · refine ⟨false, [.i .i64 fun k => (((fewZ (2 ^ X.length - 1) X.length).getD k 0 : Nat) : Int)], fun m => ?_, fun m hm => ?_⟩
      · have h1 := mem_c (2 ^ X.length - 1) X.length m (by omega) hXl
        have hl : (fewZ (2 ^ X.length - 1) X.length).length = X.length := by rw [hfull]; simp
        unfold arrNat at h1
        rw [hl] at h1
        exact ACall.lit h1 (by omega) rfl rfl
      · have h1 := hcl false (2 ^ X.length - 1) m hm
        have hl : (fewZ (2 ^ X.length - 1) X.length).length = X.length := by rw [hfull]; simp
        unfold litNat at h1
        rw [hl] at h1
        exact h1
  obtain ⟨nq, cols, hm1, hm2⟩ := hmm
  generalize hB1 : 2 ^ X.length - 1 = B1 at *
  refine SR.seqW (ι := {_u : Unit // okE G X F B1 = true}) (fun _ => ⟨[(9, .fn 135 [.ptr (nid + 8) 0, .ptr (nid + 12) 0, .ptr nid 0]), (8, .ptr (nid + 8) 0), (7, .ptr (nid + 12) 0), (2, .ptr nid 0)], [(nid + 8, boxF nf F), (nid + 12, boxX nx X), (nid, boxP2 g0 r0 b G R)], nid + 600, nid⟩) ?_ (fun ⟨_, hok⟩ => ?_)
  · refine SR.run (t := .mk) ?_
    unfold boxX boxF boxP2 at hm2
    unfold boxX boxF boxP2
    simp -dsimp only [aqT, aqU, aqN, aqS, ↓seqK, ↓blkK, ↓loopK, step, stepBin, Nat.add_assoc nid, ↓reduceIte, Option.toList, ← Int.ofNat_tmod, ← Int.ofNat_tdiv, simprocAttr, BEq.rfl, LN_succ]
    rw [hpw]
    have e : (((2 ^ X.length : Nat) : Int) - 1) = (B1 : Nat) := by omega
    rw [e]
    refine ⟨by omega, by unfold inI64; omega, CallX.pure (hm1 _) ?_⟩
    simp -dsimp only [aqT, aqU, aqN, aqS, ↓seqK, ↓blkK, ↓loopK, step, stepBin, Nat.add_assoc nid, ↓reduceIte, Option.toList, ← Int.ofNat_tmod, ← Int.ofNat_tdiv, simprocAttr, BEq.rfl, LN_succ]
    refine CallX.on (hm2 _ (by omega)) (subH_cons (by simp only [aqT, aqU, aqN, aqS, ↓seqK, ↓blkK, ↓loopK, step, stepBin, Nat.add_assoc nid, ↓reduceIte, Option.toList, ← Int.ofNat_tmod, ← Int.ofNat_tdiv, simprocAttr, BEq.rfl, LN_succ]) (subH_cons (by simp only [aqT, aqU, aqN, aqS, ↓seqK, ↓blkK, ↓loopK, step, stepBin, Nat.add_assoc nid, ↓reduceIte, Option.toList, ← Int.ofNat_tmod, ← Int.ofNat_tdiv, simprocAttr, BEq.rfl, LN_succ]) (subH_get (by simp only [aqT, aqU, aqN, aqS, ↓seqK, ↓blkK, ↓loopK, step, stepBin, Nat.add_assoc nid, ↓reduceIte, Option.toList, ← Int.ofNat_tmod, ← Int.ofNat_tdiv, simprocAttr, BEq.rfl, LN_succ])))) ?_
    simp -dsimp only [aqT, aqU, aqN, aqS, ↓seqK, ↓blkK, ↓loopK, step, stepBin, Nat.add_assoc nid, ↓reduceIte, Option.toList, ← Int.ofNat_tmod, ← Int.ofNat_tdiv, simprocAttr, BEq.rfl, LN_succ]
    cases hok : okE G X F B1 <;> simp -dsimp only [aqT, aqU, aqN, aqS, ↓seqK, ↓blkK, ↓loopK, step, stepBin, Nat.add_assoc nid, ↓reduceIte, Option.toList, ← Int.ofNat_tmod, ← Int.ofNat_tdiv, simprocAttr, BEq.rfl, LN_succ, Bool.not_false, Bool.not_true]
    · refine ⟨by simp [litI, idsOf], ?_⟩
      simp only [exR, exU]
      refine RetOK.pure (.inl rfl) rfl ?_
      simp [cvT, step, res]
    · refine ⟨by simp [litI, idsOf], ⟨(), rfl⟩, Cov.go [] [] ?_⟩
      simp [cvT, step, res, boxP2, boxF, litI, boxX, ColsEq.refl, -List.getD_eq_getElem?_getD]
  rw [hok]
  simp only [exR, exU]
  refine SR.seq ?_
  simp -dsimp only [aqT, aqU, aqN, aqS, ↓seqK, ↓blkK, ↓loopK, step, stepBin, Nat.add_assoc nid, ↓reduceIte, Option.toList, ← Int.ofNat_tmod, ← Int.ofNat_tdiv, simprocAttr, BEq.rfl, LN_succ]
  have hsh := fun m (hm : nid + 12 < m) => short_I 135 [.ptr (nid + 8) 0, .ptr (nid + 12) 0, .ptr nid 0] [(nid + 8, boxF nf F), (nid + 12, boxX nx X), (nid, boxP2 g0 r0 b G R)] (okE G X F) X.length m hXl (hsc m hm) (by simp [lowAll, idsOfs, idsOf]; omega) (fun a B hB m' h' => hcl a B m' (by omega))
  have hlt := shortTo_lt (okE G X F) X.length (2 ^ X.length) (Nat.le_refl _)
  generalize shortTo (okE G X F) X.length (2 ^ X.length) = B at *
  have hmem : ∀ k, k < (fewZ B X.length).length → (fewZ B X.length).getD k 0 < X.length := fun k hk => by
    have : (fewZ B X.length).getD k 0 ∈ fewZ B X.length := by rw [List.getD_eq_getElem?_getD, List.getElem?_eq_getElem hk]; exact List.getElem_mem hk
    exact List.mem_range.1 (List.mem_filter.1 this).1
  have hfb := fewZ_len B X.length
  have heo : exOut X B X.length = outL X (fewZ B X.length) := rfl
  rw [heo]
  generalize fewZ B X.length = l at *
  refine SR.seqW (ι := Unit) (fun _ => ⟨[(10, .sl (nid + 30) 0 (outL X l).length)], [(nid + 30, arrS (outL X l))], nid + 4000, nid⟩) ?_ (fun _ => ?_)
  · unfold boxX boxF boxP2 at hsh
    unfold boxX boxF boxP2
    refine SR.seqW (ι := Bool) (fun nb => ⟨[(38, .int .i64 0), (37, .int .i64 l.length), (36, litNat nb l), (10, .lit true 0 []), (7, .ptr (nid + 12) 0)], [(nid + 12, boxX nx X)], nid + 700, nid⟩) ?_ (fun nb => ?_)
    · refine SR.run (t := .mk) ?_
      simp -dsimp only [aqT, aqU, aqN, aqS, ↓seqK, ↓blkK, ↓loopK, step, stepBin, Nat.add_assoc nid, ↓reduceIte, Option.toList, ← Int.ofNat_tmod, ← Int.ofNat_tdiv, simprocAttr, BEq.rfl, LN_succ]
      refine CallO.any (hsh _ (by omega)) (subH_cons (by simp only [aqT, aqU, aqN, aqS, ↓seqK, ↓blkK, ↓loopK, step, stepBin, Nat.add_assoc nid, ↓reduceIte, Option.toList, ← Int.ofNat_tmod, ← Int.ofNat_tdiv, simprocAttr, BEq.rfl, LN_succ]) (subH_cons (by simp only [aqT, aqU, aqN, aqS, ↓seqK, ↓blkK, ↓loopK, step, stepBin, Nat.add_assoc nid, ↓reduceIte, Option.toList, ← Int.ofNat_tmod, ← Int.ofNat_tdiv, simprocAttr, BEq.rfl, LN_succ]) (subH_get (by simp only [aqT, aqU, aqN, aqS, ↓seqK, ↓blkK, ↓loopK, step, stepBin, Nat.add_assoc nid, ↓reduceIte, Option.toList, ← Int.ofNat_tmod, ← Int.ofNat_tdiv, simprocAttr, BEq.rfl, LN_succ])))) (fun nb _ => ?_)
      unfold litNat
      simp -dsimp only [aqT, aqU, aqN, aqS, ↓seqK, ↓blkK, ↓loopK, step, stepBin, Nat.add_assoc nid, ↓reduceIte, Option.toList, ← Int.ofNat_tmod, ← Int.ofNat_tdiv, simprocAttr, BEq.rfl, LN_succ]
      refine ⟨nb, Cov.go [] [] ?_⟩
      simp [cvT, step, res, boxX, litNat, ColsEq.refl, -List.getD_eq_getElem?_getD]
    refine SR.block ?_
    refine SR.loopP (fun k : Nat => k ≤ l.length) (fun k => ⟨[(38, .int .i64 k), (37, .int .i64 l.length), (36, litNat nb l), (10, .sl (nid + 30) 0 (outL X (l.take k)).length), (7, .ptr (nid + 12) 0)], [(nid + 30, arrS (outL X (l.take k))), (nid + 12, boxX nx X)], nid + 800, nid⟩) (fun k => l.length + 1 - k) 0 (by omega) (Cov.go [] [(nid + 30, 1)] ?_) (fun k hk => ?_)
    · simp [cvT, step, res, boxX, litNat, arrS, outL, ColsEq.refl, -List.getD_eq_getElem?_getD]
    have hos := fun h => outL_succ X l (k := k) h
    have hol : (outL X (l.take k)).length ≤ k := by unfold outL; rw [List.length_map, List.length_take]; omega
    have hend : k = l.length → outL X l = outL X (l.take k) := fun e => by rw [e, List.take_length]
    generalize outL X (l.take k) = V at *
    refine SR.run (t := .mk) ?_
    unfold boxX litNat arrS colsRw
    simp -dsimp only [aqT, aqU, aqN, aqS, ↓seqK, ↓blkK, ↓loopK, step, stepBin, Nat.add_assoc nid, ↓reduceIte, Option.toList, ← Int.ofNat_tmod, ← Int.ofNat_tdiv, simprocAttr, BEq.rfl, LN_succ]
    refine S2.dec (fun h3 => ?_) (fun h3 => ?_) <;> simp -dsimp only [aqT, aqU, aqN, aqS, ↓seqK, ↓blkK, ↓loopK, step, stepBin, Nat.add_assoc nid, ↓reduceIte, Option.toList, ← Int.ofNat_tmod, ← Int.ofNat_tdiv, simprocAttr, BEq.rfl, LN_succ]
    · have hkl : k < l.length := by omega
      have hos := hos hkl
      have hmk := hmem k hkl
      refine ⟨by omega, by omega, ?_⟩
      rw [getD_app1 V _ rfl]
      refine ⟨⟨by omega, by omega⟩, by unfold inI64; omega, k + 1, ⟨by omega, by omega⟩, Cov.go [(nid + 30, nid + 844)] [] ?_⟩
      simp only [hos]
      simp [cvT, step, res, boxX, litNat, arrS, colsRw, ColsEq.refl, -List.getD_eq_getElem?_getD, -List.length_append]
      try simp
    · have hend := hend (by omega)
      rw [hend]
      refine ⟨(), Cov.go [] [] ?_⟩
      simp [cvT, step, res, arrS, ColsEq.refl, -List.getD_eq_getElem?_getD]
  refine SR.run (t := .mk) ?_
  unfold arrS
  simp -dsimp only [aqT, aqU, aqN, aqS, ↓seqK, ↓blkK, ↓loopK, step, stepBin, Nat.add_assoc nid, ↓reduceIte, Option.toList, ← Int.ofNat_tmod, ← Int.ofNat_tdiv, simprocAttr, BEq.rfl, LN_succ]
  refine RetOK.go [(nid, nid + 30)] [] (.inl rfl) ?_
  simp [a52, cvT, step, res, -List.getD_eq_getElem?_getD]
end Go.Proofs.YtpifoghhaohhaaaGreatDoor
namespace Go.Proofs.YtpifoghhaohhaaaGreatDoor
open Go.RowKit Go.Shelf Go.Lib
structure SeenG (G : List (List UInt8)) (R : RowL) (S : SeenL) : Prop where
  d : dictV G R = 0
  l : S.length ≤ 100
  b : ∀ j, j < S.length → seenBad G.length S j = 0
theorem seenV_get {G : List (List UInt8)} {R : RowL} {S : SeenL} (h : seenV G R S = 0) : SeenG G R S := by
  unfold seenV at h
  by_cases h1 : dictV G R = 0
  · rw [if_neg (by simp [h1])] at h
    by_cases h2 : 100 < S.length
    · rw [if_pos h2] at h; omega
    · rw [if_neg h2] at h
      exact ⟨h1, by omega, firstBad_all0 h⟩
  · rw [if_pos h1] at h
    exact absurd h h1
theorem SeenG.bad {G : List (List UInt8)} {R : RowL} {S : SeenL} (h : SeenG G R S) {k : Nat} (hk : k < S.length) : (0 ≤ sT S k ∧ sT S k < G.length) ∧ ¬ (0 < k ∧ sT S k ≤ sT S (k - 1)) := by
  have := h.b k hk
  unfold seenBad at this
  split at this
  · omega
  · rename_i h1
    split at this
    · omega
    · split at this
      · omega
      · rename_i h3
        refine ⟨?_, h3⟩
        unfold outB at h1
        simp only [decide_eq_true_eq] at h1
        omega
theorem SeenG.ins {G : List (List UInt8)} {R : RowL} {S : SeenL} (h : SeenG G R S) : SnIn G.length S := fun k hk => (h.bad hk).1
theorem SeenG.up {G : List (List UInt8)} {R : RowL} {S : SeenL} (h : SeenG G R S) : ∀ k j, j < k → k < S.length → sT S j < sT S k
  | 0, j, hj, _ => by omega
  | k + 1, j, hj, hk => by
    have h1 := (h.bad hk).2
    rw [Nat.add_sub_cancel] at h1
    rcases (by omega : j = k ∨ j < k) with e | e
    · subst e; omega
    · have := SeenG.up h k j e (by omega)
      omega
theorem SeenG.inj {G : List (List UInt8)} {R : RowL} {S : SeenL} (h : SeenG G R S) {j k : Nat} (hj : j < S.length) (hk : k < S.length) (e : sT S j = sT S k) : j = k := by
  rcases Nat.lt_trichotomy j k with h1 | h1 | h1
  · have := h.up k j h1 hk; omega
  · exact h1
  · have := h.up j k h1 hj; omega
theorem dictV_size {G : List (List UInt8)} {R : RowL} (h : dictV G R = 0) : 0 < G.length ∧ G.length ≤ 100 := by
  unfold dictV at h
  split at h
  · omega
  · rename_i h1
    split at h
    · omega
    · rename_i h2
      exact ⟨by omega, by omega⟩
theorem fail_has {G : List (List UInt8)} {R : RowL} {S : SeenL} (h : SeenG G R S) {k : Nat} (hk : k < S.length) : (failV G S).contains (sT S k) = offB G (sT S k) (sR S k) := by
  rw [Bool.eq_iff_iff]
  unfold failV failT
  simp only [List.contains_iff_mem, List.mem_map, List.mem_filter, List.mem_range]
  constructor
  · rintro ⟨j, ⟨hj, ho⟩, e⟩
    have := h.inj hj hk e
    subst this
    exact ho
  · intro ho
    exact ⟨k, ⟨hk, ho⟩, rfl⟩
theorem ag_eq {G L : List (List UInt8)} {R : RowL} {S : SeenL} (h : SeenG G R S) : agS G L (failV G S) S = agrS G L S := by
  unfold agS agrS
  rw [Bool.eq_iff_iff]
  simp only [List.any_eq_true, List.mem_range]
  have key : ∀ k, k < S.length → agB G L (failV G S) (sT S k) = agrB G L (sT S k) (sR S k) := fun k hk => by
    unfold agB agrB
    rw [fail_has h hk]
    unfold offB
    rw [Bool.not_not, BEq.comm]
  exact ⟨fun ⟨k, hk, e⟩ => ⟨k, hk, by rw [← key k hk]; exact e⟩, fun ⟨k, hk, e⟩ => ⟨k, hk, by rw [key k hk]; exact e⟩⟩
theorem part_eq {b : Nat → Bool} {G : List (List UInt8)} {R : RowL} {S : SeenL} (h : SeenG G R S) : partR b G R S = partV b G R S := by
  unfold partR partV
  congr 1
  funext p
  rw [ag_eq h]
theorem few_all : ((List.range 8).all fun n => (List.range 128).all fun B => !decide (B < 2 ^ n) || fewZ B n == fewZ B 7) = true := by kernel_rfl
theorem few_eq {n B : Nat} (hn : n ≤ 7) (hB : B < 2 ^ n) : fewZ B n = fewZ B 7 := by
  have hp : 2 ^ n ≤ 2 ^ 7 := Nat.pow_le_pow_right (by omega) hn
  have := List.all_eq_true.1 (List.all_eq_true.1 few_all n (List.mem_range.2 (by omega))) B (List.mem_range.2 (by omega))
  simp only [Bool.or_eq_true, Bool.not_eq_true', decide_eq_false_iff_not, beq_iff_eq] at this
  rcases this with h | h
  · exact absurd hB h
  · exact h
theorem less_all : ((List.range 8).all fun n => (List.range 128).all fun B => !decide (B < 2 ^ n - 1) || decide (ordZ (fewZ B n) (fewZ (2 ^ n - 1) n) < 0)) = true := by kernel_rfl
theorem less_full {n B : Nat} (hn : n ≤ 7) (hB : B < 2 ^ n - 1) : ordZ (fewZ B n) (fewZ (2 ^ n - 1) n) < 0 := by
  have hp : 2 ^ n ≤ 2 ^ 7 := Nat.pow_le_pow_right (by omega) hn
  have := List.all_eq_true.1 (List.all_eq_true.1 less_all n (List.mem_range.2 (by omega))) B (List.mem_range.2 (by omega))
  simp only [Bool.or_eq_true, Bool.not_eq_true', decide_eq_false_iff_not, decide_eq_true_eq] at this
  rcases this with h | h
  · exact absurd hB h
  · exact h
theorem cmpL_self : ∀ l : List Nat, cmpL l l = 0
  | [] => rfl
  | a :: l => by simp [cmpL, cmpL_self l]
theorem ordZ_self (l : List Nat) : ordZ l l = 0 := by unfold ordZ; rw [if_neg (by omega), if_neg (by omega), cmpL_self]
theorem ex_inv (ok : Nat → Bool) {n : Nat} (hn : n ≤ 7) : ∀ x, x ≤ 2 ^ n → ((exTo ok x).1 = false ∧ shortTo ok n x = 2 ^ n - 1 ∧ ∀ m, m < x → ok m = false) ∨ ((exTo ok x).1 = true ∧ (exTo ok x).2 = shortTo ok n x)
  | 0, _ => .inl ⟨rfl, rfl, fun m hm => by omega⟩
  | x + 1, h => by
    have hp : 2 ^ n ≤ 2 ^ 7 := Nat.pow_le_pow_right (by omega) hn
    have ih := ex_inv ok hn x (by omega)
    have hlt := shortTo_lt ok n x (by omega)
    rw [exTo_succ, shortTo_succ]
    rcases ih with ⟨h1, h2, h3⟩ | ⟨h1, h2⟩
    · cases hok : ok x
      · left
        rw [exStep_no (by rw [h1]; rfl) hok]
        refine ⟨h1, ?_, fun m hm => ?_⟩
        · unfold shortStep
          rw [if_neg (by rw [hok]; simp)]
          exact h2
        · rcases (by omega : m < x ∨ m = x) with e | e
          · exact h3 m e
          · rw [e]; exact hok
      · right
        rw [exStep_yes (by rw [h1]; rfl) hok]
        refine ⟨rfl, ?_⟩
        unfold shortStep
        rw [h2]
        rcases (by omega : x < 2 ^ n - 1 ∨ x = 2 ^ n - 1) with e | e
        · rw [if_pos ⟨less_full hn e, hok⟩]
        · rw [if_neg (by rw [e, ordZ_self]; omega), e]
    · right
      have hsk := skip_eq (b := shortTo ok n x) (s := x) (by omega) (by omega)
      rw [← few_eq hn (show x < 2 ^ n by omega), ← few_eq hn hlt] at hsk
      unfold shortStep
      cases hs : skipZ (shortTo ok n x) x
      · rw [hs] at hsk
        have ho : ordZ (fewZ x n) (fewZ (shortTo ok n x) n) < 0 := by simpa using hsk.symm
        cases hok : ok x
        · rw [exStep_no (by rw [h2, hs]; simp) hok, if_neg (by simp)]
          exact ⟨h1, h2⟩
        · rw [exStep_yes (by rw [h2, hs]; simp) hok, if_pos ⟨ho, rfl⟩]
          exact ⟨rfl, rfl⟩
      · rw [hs] at hsk
        have ho : ¬ ordZ (fewZ x n) (fewZ (shortTo ok n x) n) < 0 := by simpa using hsk.symm
        rw [exStep_skip (by rw [h1, h2, hs]; rfl), if_neg (fun e => ho e.1)]
        exact ⟨h1, h2⟩
theorem okE_iff {G : List (List UInt8)} {X : List Rw} {F : List Int} {B : Nat} : okE G X F B = true ↔ ∀ k, k < F.length → ∃ i, i < X.length ∧ B.testBit i = true ∧ detB G (X.getD i z0).2.2 (F.getD k 0) = true := by
  have hop : ∀ t, openB G X B t = false ↔ ∃ i, i < X.length ∧ B.testBit i = true ∧ detB G (X.getD i z0).2.2 t = true := fun t => by
    unfold openB
    rw [Bool.not_eq_false', List.any_eq_true]
    constructor
    · rintro ⟨i, hi, h⟩
      rw [Bool.and_eq_true] at h
      exact ⟨i, List.mem_range.1 hi, h.1, h.2⟩
    · rintro ⟨i, hi, h1, h2⟩
      exact ⟨i, List.mem_range.2 hi, by rw [h1, h2]; rfl⟩
  unfold okE
  rw [Bool.not_eq_true', List.any_eq_false]
  constructor
  · intro h k hk
    exact (hop _).1 (by simpa using h k (List.mem_range.2 hk))
  · intro h k hk
    have := (hop _).2 (h k (List.mem_range.1 hk))
    rw [this]
    simp
theorem okE_mono {G : List (List UInt8)} {X : List Rw} {F : List Int} {B C : Nat} (h : ∀ i, i < X.length → B.testBit i = true → C.testBit i = true) (hB : okE G X F B = true) : okE G X F C = true := by
  rw [okE_iff] at *
  intro k hk
  obtain ⟨i, hi, h1, h2⟩ := hB k hk
  exact ⟨i, hi, h i hi h1, h2⟩
theorem full_bit {n i : Nat} (hi : i < n) : (2 ^ n - 1).testBit i = true := by rw [Nat.testBit_two_pow_sub_one]; simpa using hi
theorem ex_end {G : List (List UInt8)} {X : List Rw} {F : List Int} (hn : X.length ≤ 7) : (exTo (okE G X F) (2 ^ X.length)).1 = okE G X F (2 ^ X.length - 1) ∧ (okE G X F (2 ^ X.length - 1) = true → (exTo (okE G X F) (2 ^ X.length)).2 = shortTo (okE G X F) X.length (2 ^ X.length)) := by
  have hp := Nat.two_pow_pos X.length
  rcases ex_inv (okE G X F) hn (2 ^ X.length) (Nat.le_refl _) with ⟨h1, h2, h3⟩ | ⟨h1, h2⟩
  · have := h3 (2 ^ X.length - 1) (by omega)
    rw [h1, this]
    exact ⟨rfl, fun e => by cases e⟩
  · refine ⟨?_, fun _ => h2⟩
    rw [h1]
    have hsome : ∃ m, m < 2 ^ X.length ∧ okE G X F m = true := by
      suffices hh : ∀ x, x ≤ 2 ^ X.length → (exTo (okE G X F) x).1 = true → ∃ m, m < x ∧ okE G X F m = true from hh _ (Nat.le_refl _) h1
      intro x
      induction x with
      | zero => intro _ e; simp [exTo] at e
      | succ x ih =>
        intro hx e
        rw [exTo_succ] at e
        cases hok : okE G X F x
        · have : (exTo (okE G X F) x).1 = true := by
            by_cases hs : ((exTo (okE G X F) x).1 && skipZ (exTo (okE G X F) x).2 x) = true
            · rw [exStep_skip hs] at e; exact e
            · rw [exStep_no (by simpa using hs) hok] at e; exact e
          obtain ⟨m, hm, hk⟩ := ih (by omega) this
          exact ⟨m, by omega, hk⟩
        · exact ⟨x, by omega, hok⟩
    obtain ⟨m, hm, hk⟩ := hsome
    exact (okE_mono (fun i hi _ => full_bit hi) hk).symm
theorem left_map (g0 : Bool) (b : Nat → Bool) (G : List (List UInt8)) (R : RowL) (S : SeenL) : (leftV g0 b G R S).map (fun p => p.2.2) = ((G :: (rowsB b R).map fun p => p.2.2).filter fun L => consB L S) := by
  unfold leftV keepW
  have : ∀ l : List Rw, (l.filter fun p => !!consB p.2.2 S).map (fun p => p.2.2) = (l.map fun p => p.2.2).filter fun L => consB L S := fun l => by
    induction l with
    | nil => rfl
    | cons a l ih =>
      simp only [List.filter_cons, List.map_cons, Bool.not_not]
      cases consB a.2.2 S <;> simp_all
  rw [this]
  rfl
theorem colT_map (X : List Rw) (t : Nat) : colT X t = (X.map fun p => p.2.2).map fun L => L.getD t [] := by unfold colT; rw [List.map_map]; rfl
theorem left_len2 (g0 : Bool) (b : Nat → Bool) (G : List (List UInt8)) (R : RowL) (S : SeenL) : (leftV g0 b G R S).length = (leftV false b G R S).length := by
  have := congrArg List.length ((left_map g0 b G R S).trans (left_map false b G R S).symm)
  simpa using this
theorem best_eq (g0 : Bool) (b : Nat → Bool) (G : List (List UInt8)) (R : RowL) (S : SeenL) (n : Nat) : bestTo S (leftV g0 b G R S) n = bestTo S (leftV false b G R S) n := by
  have hc : ∀ t, colT (leftV g0 b G R S) t = colT (leftV false b G R S) t := fun t => by rw [colT_map, colT_map, left_map, left_map]
  have hl := left_len2 g0 b G R S
  have : bestStep S (leftV g0 b G R S) = bestStep S (leftV false b G R S) := by
    funext x t
    unfold bestStep
    rw [hc, hl]
  unfold bestTo
  rw [this]
end Go.Proofs.YtpifoghhaohhaaaGreatDoor
namespace Go.Proofs.YtpifoghhaohhaaaGreatDoor
open Go.RowKit Go.Shelf Go.Lib
def dR : RowL := [([97], [[49]])]
def dS : SeenL := [(0, [49])]
set_option maxHeartbeats 1000000 in
theorem diagnosed_c (nid : Nat) : ACall Tryz.prog 25 [] [] nid (.bool true) [] := by
  have hB : DictW [[48]] dR := ⟨by simp, by intro r hr; simp only [List.mem_singleton] at hr; subst hr; simp, by simp [dR], fun k => by
    rcases k with _ | k
    · refine ⟨by simp [rowF, dR], by simp [rowR, dR], fun r hr => ?_⟩
      simp [rowR, dR] at hr; subst hr; simp
    · refine ⟨by simp [rowF, dR], by simp [rowR, dR], fun r hr => ?_⟩
      simp [rowR, dR] at hr⟩
  have hS : SnW dS := ⟨by simp [dS], fun k => by rcases k with _ | k <;> simp [sR, dS]⟩
  have hI : SnIn [[48]].length dS := fun k hk => by
    have : k = 0 := by simp [dS] at hk; omega
    subst this; simp [sT, dS]
  have hc := fun nl m => candidates_c false false (fun _ => false) [[48]] dR nl dS m hB hS (by rfl) (by rfl) hI
  have e1 : (fun k => sT dS k) = fun i => [(0 : Int)].getD i 0 := by funext k; rcases k with _ | k <;> rfl
  have e2 : (fun k => sR dS k) = fun i => ([[49]] : List (List UInt8)).getD i [] := by funext k; rcases k with _ | k <;> rfl
  have e3 : candL dR dS = [[97]] := by rfl
  have e4 : consB [[48]] dS = false := by rfl
  unfold litSn dictP at hc
  rw [e1, e2, e3, e4] at hc
  refine acall_sr c25 (by simp [a25]) ?_
  unfold a25
  refine SR.seq ?_
  simp -dsimp only [aqT, aqU, aqN, aqS, ↓seqK, ↓blkK, ↓loopK, step, stepBin, Nat.add_assoc nid, ↓reduceIte, Option.toList, ← Int.ofNat_tmod, ← Int.ofNat_tdiv, simprocAttr, BEq.rfl, LN_succ]
  refine SR.seqTo ⟨[(1, .ptr (nid + 4) 0)], [(nid + 4, boxP2 false false (fun _ => false) [[48]] dR)], nid + 100, nid⟩ ?_ ?_
  · simp -dsimp only [aqT, aqU, aqN, aqS, ↓seqK, ↓blkK, ↓loopK, step, stepBin, Nat.add_assoc nid, ↓reduceIte, Option.toList, ← Int.ofNat_tmod, ← Int.ofNat_tdiv, simprocAttr, BEq.rfl, LN_succ]
    refine Cov.go [(nid + 4, nid + 24)] [] ?_
    simp [cvT, step, res, boxP2, ColsEq.refl, -List.getD_eq_getElem?_getD]
    refine ⟨rfl, ColEq.s fun j hj => ?_, ColEq.l fun j hj => ?_⟩
    · obtain rfl : j = 0 := by omega
      rfl
    · obtain rfl : j = 0 := by omega
      exact ⟨rfl, rfl, ColsEq.refl _ _⟩
  refine SR.run (t := .mk) ?_
  unfold boxP2
  simp -dsimp only [aqT, aqU, aqN, aqS, ↓seqK, ↓blkK, ↓loopK, step, stepBin, Nat.add_assoc nid, ↓reduceIte, Option.toList, ← Int.ofNat_tmod, ← Int.ofNat_tdiv, simprocAttr, BEq.rfl, LN_succ]
  refine CallO.lent [nid + 108] (fun nl' => by
    simp only [lends, lend, noOs, aqT, aqU, aqN, aqS, ↓seqK, ↓blkK, ↓loopK, step, stepBin, Nat.add_assoc nid, ↓reduceIte, Option.toList, ← Int.ofNat_tmod, ← Int.ofNat_tdiv, simprocAttr, BEq.rfl, LN_succ]
    exact hc _ _) rfl rfl (by simp only [List.mem_singleton, forall_eq, aqT, aqU, aqN, aqS, ↓seqK, ↓blkK, ↓loopK, step, stepBin, Nat.add_assoc nid, ↓reduceIte, Option.toList, ← Int.ofNat_tmod, ← Int.ofNat_tdiv, simprocAttr, BEq.rfl, LN_succ]) ?_
  unfold arrS
  simp -dsimp only [aqT, aqU, aqN, aqS, ↓seqK, ↓blkK, ↓loopK, step, stepBin, Nat.add_assoc nid, ↓reduceIte, Option.toList, ← Int.ofNat_tmod, ← Int.ofNat_tdiv, simprocAttr, BEq.rfl, LN_succ]
  have heq := fun na nb m => equalS_c na nb [[97]] [[97]] m (by simp) (by simp)
  unfold litS at heq
  refine CallO.lent [nid + 112, nid + 176] (fun nl' => by
    simp only [lends, lend, noOs, aqT, aqU, aqN, aqS, ↓seqK, ↓blkK, ↓loopK, step, stepBin, Nat.add_assoc nid, ↓reduceIte, Option.toList, ← Int.ofNat_tmod, ← Int.ofNat_tdiv, simprocAttr, BEq.rfl, LN_succ]
    exact heq _ _ _) rfl rfl (by simp [getH, idS1, idS2]) ?_
  simp -dsimp only [aqT, aqU, aqN, aqS, ↓seqK, ↓blkK, ↓loopK, step, stepBin, Nat.add_assoc nid, ↓reduceIte, Option.toList, ← Int.ofNat_tmod, ← Int.ofNat_tdiv, simprocAttr, BEq.rfl, LN_succ]
  refine RetOK.go [] [] (.inl rfl) ?_
  simp [a25, cvT, step, res]
def ffX (fd : Bool) (out : List (List UInt8)) : List (List UInt8) := if fd = true then out else []
set_option maxHeartbeats 8000000 in
theorem faultsFound_c (nl : Bool) (A : List Int) (nid : Nat) (hA : A.length ≤ 17592186044416) : ACall Tryz.prog 6 [litI nl A] [] nid (.bool true) [] := by
  refine acall_sr c6 (by simp [a6]) ?_
  unfold a6 litI
  refine SR.seq ?_
  simp -dsimp only [aqT, aqU, aqN, aqS, ↓seqK, ↓blkK, ↓loopK, step, stepBin, Nat.add_assoc nid, ↓reduceIte, Option.toList, ← Int.ofNat_tmod, ← Int.ofNat_tdiv, simprocAttr, BEq.rfl, LN_succ]
  refine SR.seq ?_
  simp -dsimp only [aqT, aqU, aqN, aqS, ↓seqK, ↓blkK, ↓loopK, step, stepBin, Nat.add_assoc nid, ↓reduceIte, Option.toList, ← Int.ofNat_tmod, ← Int.ofNat_tdiv, simprocAttr, BEq.rfl, LN_succ]
  refine SR.seqW (ι := {x : DictX // DictB 4 x.G x.R ∧ x.q ≤ 1000}) (fun x => ⟨[(3, .ptr (nid + 12) 0), (4, .ptr (nid + 8) 0)], [(nid + 12, strmC nl A x.1.q), (nid + 8, boxP2 x.1.g0 x.1.r0 x.1.b x.1.G x.1.R)], nid + 200, nid⟩) ?_ (fun ⟨⟨g0, r0, b, G, R, q⟩, hB, hq⟩ => ?_)
  · refine SR.run (t := .mk) ?_
    simp -dsimp only [aqT, aqU, aqN, aqS, ↓seqK, ↓blkK, ↓loopK, step, stepBin, Nat.add_assoc nid, ↓reduceIte, Option.toList, ← Int.ofNat_tmod, ← Int.ofNat_tdiv, simprocAttr, BEq.rfl, LN_succ]
    refine CallO.any (dict_I (nid + 12) _ nl A 0 7 4 (by omega) (by omega) hA (by omega) (by omega) (by omega)) (subH_get (by simp only [aqT, aqU, aqN, aqS, ↓seqK, ↓blkK, ↓loopK, step, stepBin, Nat.add_assoc nid, ↓reduceIte, Option.toList, ← Int.ofNat_tmod, ← Int.ofNat_tdiv, simprocAttr, BEq.rfl, LN_succ, strmC])) (fun x hx => ?_)
    unfold dictP
    simp -dsimp only [aqT, aqU, aqN, aqS, ↓seqK, ↓blkK, ↓loopK, step, stepBin, Nat.add_assoc nid, ↓reduceIte, Option.toList, ← Int.ofNat_tmod, ← Int.ofNat_tdiv, simprocAttr, BEq.rfl, LN_succ]
    refine ⟨⟨x, hx.1, by omega⟩, Cov.go [(nid + 8, nid + 28)] [] ?_⟩
    simp [cvT, step, res, boxP2, strmC, ColsEq.refl, -List.getD_eq_getElem?_getD]
  simp only at hB hq ⊢
  have hW := hB.w (by omega)
  have hrl := hB.rl
  have hgl := hB.gl
  unfold boxP2
  refine SR.seqW (ι := {S : SeenL // SnB G.length S}) (fun S => ⟨[(5, .sl (nid + 20) 0 S.1.length), (4, .ptr (nid + 8) 0)], [(nid + 20, arrSn S.1), (nid + 8, boxP2 g0 r0 b G R)], nid + 300, nid⟩) ?_ (fun ⟨S, hSB⟩ => ?_)
  · refine SR.run (t := .mk) ?_
    have hsn := fun m (hm : nid + 12 < m) => seenOf_I (nid + 12) m nl A q g0 r0 b G R hm (by omega) hA (by omega) hB.gs (by omega) (fun x hx => ⟨by have := (hB.rs x hx).2.1; omega, (hB.rs x hx).2.2⟩)
    unfold dictP at hsn
    simp -dsimp only [aqT, aqU, aqN, aqS, ↓seqK, ↓blkK, ↓loopK, step, stepBin, Nat.add_assoc nid, ↓reduceIte, Option.toList, ← Int.ofNat_tmod, ← Int.ofNat_tdiv, simprocAttr, BEq.rfl, LN_succ]
    refine CallO.any (hsn _ (by omega)) (subH_get (by simp only [aqT, aqU, aqN, aqS, ↓seqK, ↓blkK, ↓loopK, step, stepBin, Nat.add_assoc nid, ↓reduceIte, Option.toList, ← Int.ofNat_tmod, ← Int.ofNat_tdiv, simprocAttr, BEq.rfl, LN_succ, strmC])) (fun x hx => ?_)
    unfold arrSn
    simp -dsimp only [aqT, aqU, aqN, aqS, ↓seqK, ↓blkK, ↓loopK, step, stepBin, Nat.add_assoc nid, ↓reduceIte, Option.toList, ← Int.ofNat_tmod, ← Int.ofNat_tdiv, simprocAttr, BEq.rfl, LN_succ]
    refine ⟨⟨x.1, hx.1⟩, Cov.go [(nid + 20, nid + 208)] [] ?_⟩
    simp [cvT, step, res, boxP2, arrSn, strmC, ColsEq.refl, -List.getD_eq_getElem?_getD]
  simp only
  have hSW := hSB.w (by omega)
  unfold arrSn boxP2
  refine SR.freezeB [nid + 20] (fun n2 => ?_)
  simp only [frzS, frzH, frzBlk, lends, lend, kill, noOs, aqT, aqU, aqN, aqS, ↓seqK, ↓blkK, ↓loopK, step, stepBin, Nat.add_assoc nid, ↓reduceIte, Option.toList, ← Int.ofNat_tmod, ← Int.ofNat_tdiv, simprocAttr, BEq.rfl, LN_succ]
  generalize n2 (nid + 20) = ns
  have hsr := fun m => seenR_c g0 r0 b G R ns S m hW hSW
  unfold dictP litSn at hsr
  refine SR.seqTo ⟨[(6, .int .i64 (seenV G R S)), (5, litSn ns S), (4, .ptr (nid + 8) 0)], [(nid + 8, boxP2 g0 r0 b G R)], nid + 400, nid⟩ ?_ ?_
  · simp -dsimp only [aqT, aqU, aqN, aqS, ↓seqK, ↓blkK, ↓loopK, step, stepBin, Nat.add_assoc nid, ↓reduceIte, Option.toList, ← Int.ofNat_tmod, ← Int.ofNat_tdiv, simprocAttr, BEq.rfl, LN_succ]
    refine CallO.pure (hsr _) ?_
    simp -dsimp only [aqT, aqU, aqN, aqS, ↓seqK, ↓blkK, ↓loopK, step, stepBin, Nat.add_assoc nid, ↓reduceIte, Option.toList, ← Int.ofNat_tmod, ← Int.ofNat_tdiv, simprocAttr, BEq.rfl, LN_succ]
    refine Cov.go [] [] ?_
    simp [cvT, step, res, boxP2, litSn, ColsEq.refl, -List.getD_eq_getElem?_getD]
  clear hsr
  by_cases hV : seenV G R S = 0
  · have hG := seenV_get hV
    have hI := hG.ins
    have hD := hG.d
    have hlen := dictV_rows hD
    obtain ⟨hG0, hG1⟩ := dictV_size hD
    have h1 := fun m => candidates_c g0 r0 b G R ns S m hW hSW hD hV hI
    have h2 := fun m => nearest_c g0 r0 b G R ns S m hW hSW hD hV hI
    have h3 := fun m => explain_c g0 r0 b G R ns S m hW hSW hD hV hI hrl
    have h4 := fun m => best_c g0 r0 b G R ns S m hW hSW hD hV hI hG0
    have k1 := fun m => candidatesR_c g0 r0 b G R ns S m hW hSW hD hG0 hI
    have k2 := fun m => nearestR_c g0 r0 b G R ns S m hW hSW hD hI
    have k3 := fun m => explainedBy_c g0 r0 b G R ns S m hW.gl hrl hSW.l hlen hI
    have k4 := fun m => bestR_c g0 r0 b G R ns S m hW hSW hD hV hI hG0
    rw [part_eq hG] at k3
    have hpl := part_len b G R S
    obtain ⟨x1, x2⟩ := ex_end (G := G) (X := partV b G R S) (F := failV G S) (by omega)
    have e3 : ∀ m, exR m (exTo (okE G (partV b G R S) (failV G S)) (2 ^ (partV b G R S).length)).1 (exOut (partV b G R S) (exTo (okE G (partV b G R S) (failV G S)) (2 ^ (partV b G R S).length)).2 (partV b G R S).length) = exR m (okE G (partV b G R S) (failV G S) (2 ^ (partV b G R S).length - 1)) (exOut (partV b G R S) (shortTo (okE G (partV b G R S) (failV G S)) (partV b G R S).length (2 ^ (partV b G R S).length)) (partV b G R S).length) := fun m => by
      rw [x1]
      cases hk : okE G (partV b G R S) (failV G S) (2 ^ (partV b G R S).length - 1)
      · rfl
      · rw [x2 hk]
    have e4 : ∀ m, exU m (exTo (okE G (partV b G R S) (failV G S)) (2 ^ (partV b G R S).length)).1 (exOut (partV b G R S) (exTo (okE G (partV b G R S) (failV G S)) (2 ^ (partV b G R S).length)).2 (partV b G R S).length) = exU m (okE G (partV b G R S) (failV G S) (2 ^ (partV b G R S).length - 1)) (exOut (partV b G R S) (shortTo (okE G (partV b G R S) (failV G S)) (partV b G R S).length (2 ^ (partV b G R S).length)) (partV b G R S).length) := fun m => by
      rw [x1]
      cases hk : okE G (partV b G R S) (failV G S) (2 ^ (partV b G R S).length - 1)
      · rfl
      · rw [x2 hk]
    simp only [e3, e4] at h3
    rw [best_eq g0, left_len2 g0] at h4
    have l1 := candL_len R S
    have l2 := nearV_len R S R.length (Nat.le_refl _)
    rw [List.take_length] at l2
    have l3 := exOut_len (partV b G R S) (shortTo (okE G (partV b G R S) (failV G S)) (partV b G R S).length (2 ^ (partV b G R S).length)) (partV b G R S).length
    clear e3 e4 x1 x2 hB hSB hW hSW hG hlen
    generalize exOut (partV b G R S) (shortTo (okE G (partV b G R S) (failV G S)) (partV b G R S).length (2 ^ (partV b G R S).length)) (partV b G R S).length = ox at *
    generalize okE G (partV b G R S) (failV G S) (2 ^ (partV b G R S).length - 1) = fd at *
    generalize bestEnd (bestTo S (leftV false b G R S) G.length) (leftV false b G R S).length = be at *
    generalize candL R S = cl at *
    generalize nearV R S = nv at *
    generalize consB G S = cb at *
    rw [hV]
    unfold dictP litSn at *
    obtain ⟨b1, b2, b3⟩ := be
    obtain ⟨nk, nv⟩ := nv
    simp only at *
    unfold boxP2
    -- the program's four answers
    refine SR.seqTo ⟨[(9, .int .i64 0), (8, .bool cb), (7, .sl (nid + 24) 0 cl.length), (6, .int .i64 0), (5, litSn ns S), (4, .ptr (nid + 8) 0)], [(nid + 24, arrS cl), (nid + 8, boxP2 g0 r0 b G R)], nid + 500, nid⟩ ?_ ?_
    · simp -dsimp only [aqT, aqU, aqN, aqS, ↓seqK, ↓blkK, ↓loopK, step, stepBin, Nat.add_assoc nid, ↓reduceIte, Option.toList, ← Int.ofNat_tmod, ← Int.ofNat_tdiv, simprocAttr, BEq.rfl, LN_succ]
      refine CallO.pure (h1 _) ?_
      unfold arrS
      simp -dsimp only [aqT, aqU, aqN, aqS, ↓seqK, ↓blkK, ↓loopK, step, stepBin, Nat.add_assoc nid, ↓reduceIte, Option.toList, ← Int.ofNat_tmod, ← Int.ofNat_tdiv, simprocAttr, BEq.rfl, LN_succ]
      refine Cov.go [(nid + 24, nid + 408)] [] ?_
      simp [cvT, step, res, boxP2, arrS, litSn, ColsEq.refl, -List.getD_eq_getElem?_getD]
    unfold boxP2 arrS litSn
    refine SR.seqTo ⟨[(12, .int .i64 0), (11, .int .i64 nk), (10, .sl (nid + 28) 0 nv.length), (9, .int .i64 0), (8, .bool cb), (7, .sl (nid + 24) 0 cl.length), (6, .int .i64 0), (5, litSn ns S), (4, .ptr (nid + 8) 0)], [(nid + 28, arrS nv), (nid + 24, arrS cl), (nid + 8, boxP2 g0 r0 b G R)], nid + 600, nid⟩ ?_ ?_
    · simp -dsimp only [aqT, aqU, aqN, aqS, ↓seqK, ↓blkK, ↓loopK, step, stepBin, Nat.add_assoc nid, ↓reduceIte, Option.toList, ← Int.ofNat_tmod, ← Int.ofNat_tdiv, simprocAttr, BEq.rfl, LN_succ]
      refine CallO.pure (h2 _) ?_
      unfold arrS
      simp -dsimp only [aqT, aqU, aqN, aqS, ↓seqK, ↓blkK, ↓loopK, step, stepBin, Nat.add_assoc nid, ↓reduceIte, Option.toList, ← Int.ofNat_tmod, ← Int.ofNat_tdiv, simprocAttr, BEq.rfl, LN_succ]
      refine Cov.go [(nid + 28, nid + 508)] [] ?_
      simp [cvT, step, res, boxP2, arrS, litSn, ColsEq.refl, -List.getD_eq_getElem?_getD]
    unfold boxP2 arrS litSn
    refine SR.seqTo ⟨[(15, .int .i64 0), (14, .bool fd), (13, .sl (nid + 32) 0 (ffX fd ox).length), (12, .int .i64 0), (11, .int .i64 nk), (10, .sl (nid + 28) 0 nv.length), (9, .int .i64 0), (8, .bool cb), (7, .sl (nid + 24) 0 cl.length), (6, .int .i64 0), (5, litSn ns S), (4, .ptr (nid + 8) 0)], [(nid + 32, arrS (ffX fd ox)), (nid + 28, arrS nv), (nid + 24, arrS cl), (nid + 8, boxP2 g0 r0 b G R)], nid + 700, nid⟩ ?_ ?_
    · simp -dsimp only [aqT, aqU, aqN, aqS, ↓seqK, ↓blkK, ↓loopK, step, stepBin, Nat.add_assoc nid, ↓reduceIte, Option.toList, ← Int.ofNat_tmod, ← Int.ofNat_tdiv, simprocAttr, BEq.rfl, LN_succ]
      refine CallO.pure (h3 _) ?_
      cases fd <;> simp only [exR, exU] <;> unfold arrS <;> simp -dsimp only [aqT, aqU, aqN, aqS, ↓seqK, ↓blkK, ↓loopK, step, stepBin, Nat.add_assoc nid, ↓reduceIte, Option.toList, ← Int.ofNat_tmod, ← Int.ofNat_tdiv, simprocAttr, BEq.rfl, LN_succ]
      · refine Cov.go [] [(nid + 32, 1)] ?_
        simp [cvT, step, res, boxP2, arrS, litSn, ffX, ColsEq.refl, -List.getD_eq_getElem?_getD]
      · refine Cov.go [(nid + 32, nid + 608)] [] ?_
        simp [cvT, step, res, boxP2, arrS, litSn, ffX, ColsEq.refl, -List.getD_eq_getElem?_getD]
    unfold boxP2 arrS litSn
    refine SR.seqTo ⟨[(19, .int .i64 0), (18, .bool b3), (17, .int .i64 b2), (16, .int .i64 b1), (15, .int .i64 0), (14, .bool fd), (13, .sl (nid + 32) 0 (ffX fd ox).length), (12, .int .i64 0), (11, .int .i64 nk), (10, .sl (nid + 28) 0 nv.length), (9, .int .i64 0), (8, .bool cb), (7, .sl (nid + 24) 0 cl.length), (6, .int .i64 0), (5, litSn ns S), (4, .ptr (nid + 8) 0)], [(nid + 32, arrS (ffX fd ox)), (nid + 28, arrS nv), (nid + 24, arrS cl), (nid + 8, boxP2 g0 r0 b G R)], nid + 800, nid⟩ ?_ ?_
    · simp -dsimp only [aqT, aqU, aqN, aqS, ↓seqK, ↓blkK, ↓loopK, step, stepBin, Nat.add_assoc nid, ↓reduceIte, Option.toList, ← Int.ofNat_tmod, ← Int.ofNat_tdiv, simprocAttr, BEq.rfl, LN_succ]
      refine CallO.pure (h4 _) ?_
      simp -dsimp only [aqT, aqU, aqN, aqS, ↓seqK, ↓blkK, ↓loopK, step, stepBin, Nat.add_assoc nid, ↓reduceIte, Option.toList, ← Int.ofNat_tmod, ← Int.ofNat_tdiv, simprocAttr, BEq.rfl, LN_succ]
      refine Cov.go [] [] ?_
      simp [cvT, step, res, boxP2, arrS, litSn, ColsEq.refl, -List.getD_eq_getElem?_getD]
    refine SR.seq ?_
    simp -dsimp only [aqT, aqU, aqN, aqS, ↓seqK, ↓blkK, ↓loopK, step, stepBin, Nat.add_assoc nid, ↓reduceIte, Option.toList, ← Int.ofNat_tmod, ← Int.ofNat_tdiv, simprocAttr, BEq.rfl, LN_succ]
    clear h1 h2 h3 h4
    unfold boxP2 arrS litSn
    refine SR.seqTo ⟨[(21, .bool cb), (20, .sl (nid + 36) 0 cl.length), (19, .int .i64 0), (18, .bool b3), (17, .int .i64 b2), (16, .int .i64 b1), (15, .int .i64 0), (14, .bool fd), (13, .sl (nid + 32) 0 (ffX fd ox).length), (12, .int .i64 0), (11, .int .i64 nk), (10, .sl (nid + 28) 0 nv.length), (9, .int .i64 0), (8, .bool cb), (7, .sl (nid + 24) 0 cl.length), (5, litSn ns S), (4, .ptr (nid + 8) 0)], [(nid + 36, arrS cl), (nid + 32, arrS (ffX fd ox)), (nid + 28, arrS nv), (nid + 24, arrS cl), (nid + 8, boxP2 g0 r0 b G R)], nid + 900, nid⟩ ?_ ?_
    · simp -dsimp only [aqT, aqU, aqN, aqS, ↓seqK, ↓blkK, ↓loopK, step, stepBin, Nat.add_assoc nid, ↓reduceIte, Option.toList, ← Int.ofNat_tmod, ← Int.ofNat_tdiv, simprocAttr, BEq.rfl, LN_succ]
      refine CallO.pure (k1 _) ?_
      unfold arrS
      simp -dsimp only [aqT, aqU, aqN, aqS, ↓seqK, ↓blkK, ↓loopK, step, stepBin, Nat.add_assoc nid, ↓reduceIte, Option.toList, ← Int.ofNat_tmod, ← Int.ofNat_tdiv, simprocAttr, BEq.rfl, LN_succ]
      refine Cov.go [(nid + 36, nid + 816)] [] ?_
      simp [cvT, step, res, boxP2, arrS, litSn, ColsEq.refl, -List.getD_eq_getElem?_getD]
    unfold boxP2 arrS litSn
    refine SR.seqTo ⟨[(23, .int .i64 nk), (22, .sl (nid + 40) 0 nv.length), (21, .bool cb), (20, .sl (nid + 36) 0 cl.length), (19, .int .i64 0), (18, .bool b3), (17, .int .i64 b2), (16, .int .i64 b1), (15, .int .i64 0), (14, .bool fd), (13, .sl (nid + 32) 0 (ffX fd ox).length), (12, .int .i64 0), (11, .int .i64 nk), (10, .sl (nid + 28) 0 nv.length), (9, .int .i64 0), (8, .bool cb), (7, .sl (nid + 24) 0 cl.length), (5, litSn ns S), (4, .ptr (nid + 8) 0)], [(nid + 40, arrS nv), (nid + 36, arrS cl), (nid + 32, arrS (ffX fd ox)), (nid + 28, arrS nv), (nid + 24, arrS cl), (nid + 8, boxP2 g0 r0 b G R)], nid + 1000, nid⟩ ?_ ?_
    · simp -dsimp only [aqT, aqU, aqN, aqS, ↓seqK, ↓blkK, ↓loopK, step, stepBin, Nat.add_assoc nid, ↓reduceIte, Option.toList, ← Int.ofNat_tmod, ← Int.ofNat_tdiv, simprocAttr, BEq.rfl, LN_succ]
      refine CallO.pure (k2 _) ?_
      unfold arrS
      simp -dsimp only [aqT, aqU, aqN, aqS, ↓seqK, ↓blkK, ↓loopK, step, stepBin, Nat.add_assoc nid, ↓reduceIte, Option.toList, ← Int.ofNat_tmod, ← Int.ofNat_tdiv, simprocAttr, BEq.rfl, LN_succ]
      refine Cov.go [(nid + 40, nid + 908)] [] ?_
      simp [cvT, step, res, boxP2, arrS, litSn, ColsEq.refl, -List.getD_eq_getElem?_getD]
    unfold boxP2 arrS litSn
    refine SR.seqTo ⟨[(26, .int .i64 0), (25, .bool fd), (24, .sl (nid + 44) 0 (ffX fd ox).length), (23, .int .i64 nk), (22, .sl (nid + 40) 0 nv.length), (21, .bool cb), (20, .sl (nid + 36) 0 cl.length), (19, .int .i64 0), (18, .bool b3), (17, .int .i64 b2), (16, .int .i64 b1), (15, .int .i64 0), (14, .bool fd), (13, .sl (nid + 32) 0 (ffX fd ox).length), (12, .int .i64 0), (11, .int .i64 nk), (10, .sl (nid + 28) 0 nv.length), (9, .int .i64 0), (8, .bool cb), (7, .sl (nid + 24) 0 cl.length), (5, litSn ns S), (4, .ptr (nid + 8) 0)], [(nid + 44, arrS (ffX fd ox)), (nid + 40, arrS nv), (nid + 36, arrS cl), (nid + 32, arrS (ffX fd ox)), (nid + 28, arrS nv), (nid + 24, arrS cl), (nid + 8, boxP2 g0 r0 b G R)], nid + 1100, nid⟩ ?_ ?_
    · simp -dsimp only [aqT, aqU, aqN, aqS, ↓seqK, ↓blkK, ↓loopK, step, stepBin, Nat.add_assoc nid, ↓reduceIte, Option.toList, ← Int.ofNat_tmod, ← Int.ofNat_tdiv, simprocAttr, BEq.rfl, LN_succ]
      refine CallO.pure (k3 _) ?_
      cases fd <;> simp only [exR, exU] <;> unfold arrS <;> simp -dsimp only [aqT, aqU, aqN, aqS, ↓seqK, ↓blkK, ↓loopK, step, stepBin, Nat.add_assoc nid, ↓reduceIte, Option.toList, ← Int.ofNat_tmod, ← Int.ofNat_tdiv, simprocAttr, BEq.rfl, LN_succ]
      · refine Cov.go [] [(nid + 44, 1)] ?_
        simp [cvT, step, res, boxP2, arrS, litSn, ffX, ColsEq.refl, -List.getD_eq_getElem?_getD]
      · refine Cov.go [(nid + 44, nid + 1008)] [] ?_
        simp [cvT, step, res, boxP2, arrS, litSn, ffX, ColsEq.refl, -List.getD_eq_getElem?_getD]
    unfold boxP2 arrS litSn
    refine SR.seqTo ⟨[(29, .bool b3), (28, .int .i64 b2), (27, .int .i64 b1), (26, .int .i64 0), (25, .bool fd), (24, .sl (nid + 44) 0 (ffX fd ox).length), (23, .int .i64 nk), (22, .sl (nid + 40) 0 nv.length), (21, .bool cb), (20, .sl (nid + 36) 0 cl.length), (19, .int .i64 0), (18, .bool b3), (17, .int .i64 b2), (16, .int .i64 b1), (15, .int .i64 0), (14, .bool fd), (13, .sl (nid + 32) 0 (ffX fd ox).length), (12, .int .i64 0), (11, .int .i64 nk), (10, .sl (nid + 28) 0 nv.length), (9, .int .i64 0), (8, .bool cb), (7, .sl (nid + 24) 0 cl.length), (5, litSn ns S), (4, .ptr (nid + 8) 0)], [(nid + 44, arrS (ffX fd ox)), (nid + 40, arrS nv), (nid + 36, arrS cl), (nid + 32, arrS (ffX fd ox)), (nid + 28, arrS nv), (nid + 24, arrS cl), (nid + 8, boxP2 g0 r0 b G R)], nid + 1200, nid⟩ ?_ ?_
    · simp -dsimp only [aqT, aqU, aqN, aqS, ↓seqK, ↓blkK, ↓loopK, step, stepBin, Nat.add_assoc nid, ↓reduceIte, Option.toList, ← Int.ofNat_tmod, ← Int.ofNat_tdiv, simprocAttr, BEq.rfl, LN_succ]
      refine CallO.pure (k4 _) ?_
      simp -dsimp only [aqT, aqU, aqN, aqS, ↓seqK, ↓blkK, ↓loopK, step, stepBin, Nat.add_assoc nid, ↓reduceIte, Option.toList, ← Int.ofNat_tmod, ← Int.ofNat_tdiv, simprocAttr, BEq.rfl, LN_succ]
      refine Cov.go [] [] ?_
      simp [cvT, step, res, boxP2, arrS, litSn, ColsEq.refl, -List.getD_eq_getElem?_getD]
    clear k1 k2 k3 k4 hI
    have l4 : (ffX fd ox).length ≤ 7 := by
      unfold ffX
      split
      · omega
      · simp
    generalize ffX fd ox = xx at *
    unfold boxP2 arrS litSn
    refine SR.freezeB [nid + 24, nid + 28, nid + 32, nid + 36, nid + 40, nid + 44] (fun n3 => ?_)
    simp only [frzS, frzH, frzBlk, lends, lend, kill, noOs, aqT, aqU, aqN, aqS, ↓seqK, ↓blkK, ↓loopK, step, stepBin, Nat.add_assoc nid, ↓reduceIte, Option.toList, ← Int.ofNat_tmod, ← Int.ofNat_tdiv, simprocAttr, BEq.rfl, LN_succ]
    generalize n3 (nid + 24) = f1
    generalize n3 (nid + 28) = f2
    generalize n3 (nid + 32) = f3
    generalize n3 (nid + 36) = f4
    generalize n3 (nid + 40) = f5
    generalize n3 (nid + 44) = f6
    have q1 := fun m => equalS_c f1 f4 cl cl m (by omega) (by omega)
    have q2 := fun m => equalS_c f2 f5 nv nv m (by omega) (by omega)
    have q3 := fun m => equalS_c f3 f6 xx xx m (by omega) (by omega)
    have r1 : (cl == cl) = true := by simp
    have r2 : (nv == nv) = true := by simp
    have r3 : (xx == xx) = true := by simp
    rw [r1] at q1
    rw [r2] at q2
    rw [r3] at q3
    unfold litS at q1 q2 q3
    refine SR.seqTo ⟨[(15, .int .i64 0), (26, .int .i64 0), (13, litS f3 xx), (24, litS f6 xx), (14, .bool fd), (25, .bool fd), (19, .int .i64 0), (16, .int .i64 b1), (27, .int .i64 b1), (17, .int .i64 b2), (28, .int .i64 b2), (18, .bool b3), (29, .bool b3)], [], nid + 1400, nid⟩ ?_ ?_
    · simp -dsimp only [aqT, aqU, aqN, aqS, ↓seqK, ↓blkK, ↓loopK, step, stepBin, Nat.add_assoc nid, ↓reduceIte, Option.toList, ← Int.ofNat_tmod, ← Int.ofNat_tdiv, simprocAttr, BEq.rfl, LN_succ, bne_self_eq_false]
      refine CallO.pure (q1 _) ?_
      simp -dsimp only [aqT, aqU, aqN, aqS, ↓seqK, ↓blkK, ↓loopK, step, stepBin, Nat.add_assoc nid, ↓reduceIte, Option.toList, ← Int.ofNat_tmod, ← Int.ofNat_tdiv, simprocAttr, BEq.rfl, LN_succ, bne_self_eq_false, Bool.not_true]
      refine CallO.pure (q2 _) ?_
      simp -dsimp only [aqT, aqU, aqN, aqS, ↓seqK, ↓blkK, ↓loopK, step, stepBin, Nat.add_assoc nid, ↓reduceIte, Option.toList, ← Int.ofNat_tmod, ← Int.ofNat_tdiv, simprocAttr, BEq.rfl, LN_succ, bne_self_eq_false, Bool.not_true]
      refine Cov.go [] [] ?_
      simp [cvT, step, res, litS, ColsEq.refl, -List.getD_eq_getElem?_getD]
    refine SR.run (t := .mk) ?_
    unfold litS
    simp -dsimp only [aqT, aqU, aqN, aqS, ↓seqK, ↓blkK, ↓loopK, step, stepBin, Nat.add_assoc nid, ↓reduceIte, Option.toList, ← Int.ofNat_tmod, ← Int.ofNat_tdiv, simprocAttr, BEq.rfl, LN_succ, bne_self_eq_false]
    refine CallO.pure (q3 _) ?_
    simp -dsimp only [aqT, aqU, aqN, aqS, ↓seqK, ↓blkK, ↓loopK, step, stepBin, Nat.add_assoc nid, ↓reduceIte, Option.toList, ← Int.ofNat_tmod, ← Int.ofNat_tdiv, simprocAttr, BEq.rfl, LN_succ, bne_self_eq_false]
    refine CallO.pure (diagnosed_c _) ?_
    simp -dsimp only [aqT, aqU, aqN, aqS, ↓seqK, ↓blkK, ↓loopK, step, stepBin, Nat.add_assoc nid, ↓reduceIte, Option.toList, ← Int.ofNat_tmod, ← Int.ofNat_tdiv, simprocAttr, BEq.rfl, LN_succ]
    refine RetOK.pure (.inl rfl) rfl ?_
    simp [cvT, step, res]
  · have h1 := fun m => candBad_c g0 r0 b G R ns S m hW hSW hV
    have h2 := fun m => nearBad_c g0 r0 b G R ns S m hW hSW hV
    have h3 := fun m => explBad_c g0 r0 b G R ns S m hW hSW hV
    have h4 := fun m => bestBad_c g0 r0 b G R ns S m hW hSW hV
    clear hB hSB hW hSW
    have hv0 : (seenV G R S == 0) = false := by simpa using hV
    have hv1 : (seenV G R S != 0) = true := by simpa using hV
    generalize seenV G R S = v at *
    unfold dictP litSn at *
    unfold boxP2
    refine SR.seqTo ⟨[(9, .int .i64 v), (8, .bool false), (7, .lit true 0 []), (6, .int .i64 v), (5, litSn ns S), (4, .ptr (nid + 8) 0)], [(nid + 8, boxP2 g0 r0 b G R)], nid + 500, nid⟩ ?_ ?_
    · simp -dsimp only [aqT, aqU, aqN, aqS, ↓seqK, ↓blkK, ↓loopK, step, stepBin, Nat.add_assoc nid, ↓reduceIte, Option.toList, ← Int.ofNat_tmod, ← Int.ofNat_tdiv, simprocAttr, BEq.rfl, LN_succ]
      refine CallO.pure (h1 _) ?_
      simp -dsimp only [aqT, aqU, aqN, aqS, ↓seqK, ↓blkK, ↓loopK, step, stepBin, Nat.add_assoc nid, ↓reduceIte, Option.toList, ← Int.ofNat_tmod, ← Int.ofNat_tdiv, simprocAttr, BEq.rfl, LN_succ]
      refine Cov.go [] [] ?_
      simp [cvT, step, res, boxP2, litSn, ColsEq.refl, -List.getD_eq_getElem?_getD]
    unfold boxP2 litSn
    refine SR.seqTo ⟨[(12, .int .i64 v), (11, .int .i64 0), (10, .lit true 0 []), (9, .int .i64 v), (8, .bool false), (7, .lit true 0 []), (6, .int .i64 v), (5, litSn ns S), (4, .ptr (nid + 8) 0)], [(nid + 8, boxP2 g0 r0 b G R)], nid + 600, nid⟩ ?_ ?_
    · simp -dsimp only [aqT, aqU, aqN, aqS, ↓seqK, ↓blkK, ↓loopK, step, stepBin, Nat.add_assoc nid, ↓reduceIte, Option.toList, ← Int.ofNat_tmod, ← Int.ofNat_tdiv, simprocAttr, BEq.rfl, LN_succ]
      refine CallO.pure (h2 _) ?_
      simp -dsimp only [aqT, aqU, aqN, aqS, ↓seqK, ↓blkK, ↓loopK, step, stepBin, Nat.add_assoc nid, ↓reduceIte, Option.toList, ← Int.ofNat_tmod, ← Int.ofNat_tdiv, simprocAttr, BEq.rfl, LN_succ]
      refine Cov.go [] [] ?_
      simp [cvT, step, res, boxP2, litSn, ColsEq.refl, -List.getD_eq_getElem?_getD]
    unfold boxP2 litSn
    refine SR.seqTo ⟨[(15, .int .i64 v), (14, .bool false), (13, .lit true 0 []), (12, .int .i64 v), (11, .int .i64 0), (10, .lit true 0 []), (9, .int .i64 v), (8, .bool false), (7, .lit true 0 []), (6, .int .i64 v), (5, litSn ns S), (4, .ptr (nid + 8) 0)], [(nid + 8, boxP2 g0 r0 b G R)], nid + 700, nid⟩ ?_ ?_
    · simp -dsimp only [aqT, aqU, aqN, aqS, ↓seqK, ↓blkK, ↓loopK, step, stepBin, Nat.add_assoc nid, ↓reduceIte, Option.toList, ← Int.ofNat_tmod, ← Int.ofNat_tdiv, simprocAttr, BEq.rfl, LN_succ]
      refine CallO.pure (h3 _) ?_
      simp -dsimp only [aqT, aqU, aqN, aqS, ↓seqK, ↓blkK, ↓loopK, step, stepBin, Nat.add_assoc nid, ↓reduceIte, Option.toList, ← Int.ofNat_tmod, ← Int.ofNat_tdiv, simprocAttr, BEq.rfl, LN_succ]
      refine Cov.go [] [] ?_
      simp [cvT, step, res, boxP2, litSn, ColsEq.refl, -List.getD_eq_getElem?_getD]
    unfold boxP2 litSn
    refine SR.seqTo ⟨[(19, .int .i64 v), (18, .bool false), (17, .int .i64 0), (16, .int .i64 0), (15, .int .i64 v), (14, .bool false), (13, .lit true 0 []), (12, .int .i64 v), (11, .int .i64 0), (10, .lit true 0 []), (9, .int .i64 v), (8, .bool false), (7, .lit true 0 []), (6, .int .i64 v)], [], nid + 800, nid⟩ ?_ ?_
    · simp -dsimp only [aqT, aqU, aqN, aqS, ↓seqK, ↓blkK, ↓loopK, step, stepBin, Nat.add_assoc nid, ↓reduceIte, Option.toList, ← Int.ofNat_tmod, ← Int.ofNat_tdiv, simprocAttr, BEq.rfl, LN_succ]
      refine CallO.pure (h4 _) ?_
      simp -dsimp only [aqT, aqU, aqN, aqS, ↓seqK, ↓blkK, ↓loopK, step, stepBin, Nat.add_assoc nid, ↓reduceIte, Option.toList, ← Int.ofNat_tmod, ← Int.ofNat_tdiv, simprocAttr, BEq.rfl, LN_succ]
      refine Cov.go [] [] ?_
      simp [cvT, step, res, litSn, ColsEq.refl, -List.getD_eq_getElem?_getD]
    clear h1 h2 h3 h4
    refine SR.seqW (ι := {_u : Unit // False}) (fun _ => ⟨[], [], nid + 1000, nid⟩) ?_ (fun ⟨_, h⟩ => h.elim)
    refine SR.run (t := .mk) ?_
    simp -dsimp only [aqT, aqU, aqN, aqS, ↓seqK, ↓blkK, ↓loopK, step, stepBin, Nat.add_assoc nid, ↓reduceIte, Option.toList, ← Int.ofNat_tmod, ← Int.ofNat_tdiv, simprocAttr, BEq.rfl, LN_succ, hv0, hv1, beq_self_eq_true, Bool.not_false]
    refine ⟨by unfold inI64; omega, by unfold inI64; omega, CallO.pure (diagnosed_c _) ?_⟩
    simp -dsimp only [aqT, aqU, aqN, aqS, ↓seqK, ↓blkK, ↓loopK, step, stepBin, Nat.add_assoc nid, ↓reduceIte, Option.toList, ← Int.ofNat_tmod, ← Int.ofNat_tdiv, simprocAttr, BEq.rfl, LN_succ]
    refine RetOK.pure (.inl rfl) rfl ?_
    simp [cvT, step, res]
end Go.Proofs.YtpifoghhaohhaaaGreatDoor
namespace Go.Proofs.YtpifoghhaohhaaaGreatDoor
open Go.RowKit
theorem handed_shaped {H : Type} {enc : TypeId × Value → H} {a : Assume} {C : Checked} {os : Os} {f : FuncId} {fn : Func} {s : ChangeSpec} {conds : List PathCond} {apart fresh handsOn again : Bool} {X : World → Array Value → Prop}
    (hX : ∀ (w w' : World) (args : Array Value), w.heap = w'.heap → X w args → X w' args)
    (own : ownKnob C.prog.godebug = none) (started : os.Started) (noInit : C.prog.inits.idxOf? f = none) (hfn : C.prog.funcs[f]? = some fn)
    (witness : ∃ (w : World) (tape : Tape) (i : Input), w.os = os ∧ (w.forCall tape i).Shaped C.prog ∧ i.vars = [] ∧ Input.okWide C.prog (w.forCall tape i) .any w.heap.size f i ∧
      ((s.pre enc C.prog fn conds apart (w.forCall tape i).memory i.args ∧ X (w.forCall tape i).memory i.args) ∧ sizedMet enc C.prog fn (OpenSpec.ofChange s) apart (w.forCall tape i).memory i.args) ∧ a.holds C.prog (lone (Frame.enter C.prog f i.args .normal) [] (w.forCall tape i)))
    (contract : ∀ (W : World) (base : Nat) (args : Array Value) (ds gs : List (DataW H)) (before : List MemPlace),
      (∀ (j : Nat) t v, fn.params[j]? = some t → args[j]? = some v → Value.okWide C.prog W .any base t v) →
      DataW.Whole enc C.prog fn.params.toList s.vars apart W args.toList ds gs before →
      conds.all (PathCond.test C.prog ⟨fn.params.toList, ds, s.plain.varTypes C.prog, gs⟩) = true →
      (DataW.weightsEach C.prog (fn.params.toList ++ s.plain.varTypes C.prog) (ds ++ gs)).all (· ≤ reachBytes) = true → X W args → W.ShapedOpen C.prog →
      Calls C.prog f args W fun e W' => ∃ v, e = .returned v ∧ s.post enc C.prog fn apart fresh handsOn again W args v W') :
    ReturnsInHanded a C os f .any (fun w args => (s.pre enc C.prog fn conds apart w args ∧ X w args) ∧ sizedMet enc C.prog fn (OpenSpec.ofChange s) apart w args) (s.post enc C.prog fn apart fresh handsOn again) := by
  refine returnsInHanded_of_calls own started noInit witness ?_
  intro w tape i _ hsh _ hok hpre _
  obtain ⟨_, _, _, fn', hfn', _, _, _, _, hval⟩ := hok
  have e : fn' = fn := Option.some.inj (hfn'.symm.trans hfn)
  subst e
  obtain ⟨⟨⟨ds, gs, before, hw, hc⟩, hx⟩, hz⟩ := hpre
  have hw' := DataW.Whole.of_heap (w' := w.forCall tape i) (by rfl) hw
  refine (contract (w.forCall tape i) w.heap.size i.args ds gs before hval hw' hc (hz.weights hw) (hX _ _ _ (by rfl) hx) hsh).mono fun e W' ⟨v, he, hp⟩ => ?_
  subst he
  exact ChangeSpec.post_blind hp
theorem gok_cell {W : World} {g : Nat} {m : Int} (h : W.cell? ⟨g, 0, none⟩ = some (.int .i64 m)) : g < W.heap.size ∧ ∃ o, W.heap[g]? = some o ∧ cell0 o = some (.int .i64 m) := by
  unfold World.cell? at h
  simp only at h
  split at h
  · rename_i c t f hc
    refine ⟨?_, _, hc, ?_⟩
    · rcases Nat.lt_or_ge g W.heap.size with hl | hl
      · exact hl
      · rw [Array.getElem?_eq_none hl] at hc; cases hc
    · simpa [cell0] using h
  · cases h
set_option maxRecDepth 1000000 in
theorem gok0_of {W : World} (h : W.ShapedOpen Tryz.prog) : GOK0 (fun b => W.heap[b]?) W.heap.size := by
  obtain ⟨m, hm⟩ := cell_of_shapedOpen_int (g := 1) (t := 3) (zero := #[.int .i64 0]) (k := .i64) h (of_decide_eq_true (by kernel_rfl)) (by kernel_rfl) rfl (by kernel_rfl) (by kernel_rfl) Tryz.underlying3
  obtain ⟨h1, o, h2, h3⟩ := gok_cell hm
  exact ⟨o, m, h1, h2, h3⟩
theorem gok_of {W : World} (h : W.ShapedOpen Tryz.prog) : GOK (fun b => W.heap[b]?) W.heap.size := gok0_of h
end Go.Proofs.YtpifoghhaohhaaaGreatDoor
namespace Go.Proofs.YtpifoghhaohhaaaGreatDoor
open Go.ChangeShapes Go.WideShapes Go.ChangeAt Go.RowKit
def cellsD : Nat → DataW Unit → List Value
  | 0, _ => []
  | n + 1, .agg l => l.flatMap (cellsD n)
  | _ + 1, .lit (.int k z) => [.int k z]
  | _ + 1, _ => []
noncomputable def laidWorld (os : Os) : World :=
  let w0 := World.holding Tryz.prog os ⟨#[], #[], []⟩
  let put (h : Array Obj) (g : Nat) (cs : List Value) : Array Obj := h.modify g fun
    | .cells _ t frozen => .cells cs.toArray t frozen
    | o => o
  { w0 with heap := put (put (put (put (put (w0.heap) ((Tryz.prog.globalNamed "unicode/utf8.acceptRanges").getD 0) (cellsD 9 Rows.laid_unicode_utf8_acceptRanges)) ((Tryz.prog.globalNamed "unicode/utf8.first").getD 0) (cellsD 9 Rows.laid_unicode_utf8_first)) ((Tryz.prog.globalNamed "math/bits.deBruijn32tab").getD 0) (cellsD 9 Rows.laid_math_bits_deBruijn32tab)) ((Tryz.prog.globalNamed "math/bits.deBruijn64tab").getD 0) (cellsD 9 Rows.laid_math_bits_deBruijn64tab)) ((Tryz.prog.globalNamed "internal/strconv.uint64pow10").getD 0) (cellsD 9 Rows.laid_internal_strconv_uint64pow10) }
set_option maxRecDepth 1000000 in
theorem faultsFound_met (os : Os) (args : Array Value) : laidMetH Tryz.prog Rows.faultsFoundRow.laid ((laidWorld os).forCall (fun _ _ => 0) ⟨#[], args, []⟩).memory := by
  show laidMet Tryz.prog Rows.faultsFoundRow.laid _
  exact laidMet_of_run' 10 (by kernel_rfl) (by kernel_rfl)
theorem faultsFound_own : ownKnob Tryz.prog.godebug = none := by kernel_rfl
theorem faultsFound_laidOut : laidOutB Tryz.prog = true := by kernel_rfl
theorem faultsFound_cells : Tryz.prog.cellsOf 3 = 1 := by kernel_rfl
theorem faultsFound_bytes : Tryz.prog.bytesOf 3 = 8 := by kernel_rfl
set_option maxRecDepth 100000 in
theorem faultsFound_block {W : World} {base : Nat} {a0 : Option Addr} {len cap : Nat} (h : Value.okWide Tryz.prog W .any base 22 (.slice a0 len cap)) : ∀ a, a0 = some a → a.block < W.heap.size := by
  intro a e
  subst e
  simp only [Value.okWide, Tryz.underlying22, Cell.okWide, Cell.ok] at h
  obtain ⟨_, _, _, _, row, cells, hs, _⟩ := h
  rcases Nat.lt_or_ge a.block W.heap.size with hl | hl
  · exact hl
  · have hn : W.heap[a.block]? = none := Array.getElem?_eq_none hl
    simp [World.shape?, hn] at hs
set_option maxRecDepth 100000 in
theorem faultsFound_lifted (os : Os) (started : os.Started) (H : Type) (enc : TypeId × Value → H) :
    ReturnsInHanded {} Tryz.checked os 6 .any (fun w args => (Rows.faultsFoundSpec.pre enc Tryz.prog Tryz.f6 Rows.faultsFoundRow.domain false w args ∧ laidMetH Tryz.prog Rows.faultsFoundRow.laid w) ∧ sizedMet enc Tryz.prog Tryz.f6 (OpenSpec.ofChange Rows.faultsFoundSpec) false w args)
      (Rows.faultsFoundSpec.post enc Tryz.prog Tryz.f6 false true false false) := by
  refine handed_shaped (C := Tryz.checked) (X := fun w _ => laidMetH Tryz.prog Rows.faultsFoundRow.laid w) (fun _ _ _ hh h => h.of_heap hh) faultsFound_own started (by kernel_rfl) Tryz.func6
    (ChangeSpec.witness_at (enc := enc) (C := Tryz.checked) (os := os) (X := fun w _ => laidMetH Tryz.prog Rows.faultsFoundRow.laid w) false (laidWorld os) #[.slice none 0 0] 8 rfl (by kernel_rfl) (by kernel_rfl) (by kernel_rfl) (by kernel_rfl) (by kernel_rfl) (faultsFound_met os _)) ?_
  intro W base args ds gs before hval0 hW hcnd hsz0 _ hsh
  have hsz : (DataW.weightsEach Tryz.prog (Tryz.f6.params.toList ++ Rows.faultsFoundSpec.plain.varTypes Tryz.prog) (ds ++ gs)).all (· ≤ reachBytes) = true := hsz0
  clear hsz0
  have hval : ∀ (j : Nat) t v, Tryz.f6.params[j]? = some t → args[j]? = some v → Value.okWide Tryz.prog W .any base t v := hval0
  have hW' := hW
  obtain ⟨p, q, hA0, hV, rfl, hfz, hnd⟩ := hW
  have hA : DataW.TrodAll enc Tryz.prog W 0 (fun _ => true) true Tryz.f6.params.toList args.toList ds p := hA0
  rw [Tryz.params6] at hA hval hsz
  obtain ⟨v0, vs0, d0, ds0, p0, q0, hargs, rfl, rfl, h0, r0⟩ := trodAll_cons hA
  obtain ⟨rfl, rfl, rfl⟩ := trodAll_nil r0
  obtain rfl : args = #[v0] := by cases args; simp_all
  obtain ⟨rfl, rfl⟩ := trodVars_none hV
  obtain ⟨a0, len0, cap0, rfl⟩ := okWide_slice Tryz.underlying22 (hval 0 22 v0 rfl rfl)
  have k0 := h0
  have lt0 : ∀ x ∈ p0, x.block < W.heap.size := by obtain ⟨m, hm⟩ := k0; exact DataW.trod_lt m _ _ _ hm
  obtain ⟨L, rfl, hr, hblk, hwf, hlen, hcap, hle⟩ : ∃ L : List Int, len0 = L.length ∧ RowV W a0 (ints L) ∧ (∀ a, a0 = some a → a.block < W.heap.size) ∧ Within (-9223372036854775808) 9223372036854775807 L ∧ L.length ≤ 17592186044415 ∧ (a0 = none → cap0 = 0) ∧ L.length ≤ cap0 := by
    obtain ⟨fuel, hf⟩ := h0
    rcases open_ints Tryz.underlying22 Tryz.underlying3 faultsFound_cells hf with ⟨hcs, _⟩ | ⟨x, l, c, zs, hcs, _, hl, hm, hz, hx, hcell, hwz⟩
    · simp [Value.cells] at hcs
      obtain ⟨rfl, rfl, rfl⟩ := hcs
      exact ⟨[], rfl, (fun k u hu => by simp [ints] at hu), (fun a e => by cases e), (fun y hy => by cases hy), by simp, fun _ => rfl, by simp⟩
    · simp [Value.cells] at hcs
      obtain ⟨rfl, rfl, rfl⟩ := hcs
      simp only [Prod.mk.injEq] at hx
      obtain ⟨rfl, rfl⟩ := hx
      simp only [if_true] at hz
      have hreach : len0 * 8 ≤ 140737488351232 := by
        have := sized_slice hsz (j := 0) (t := 22) (e := 3) rfl rfl Tryz.underlying22
        rw [faultsFound_bytes] at this
        simp only [lits, List.length_map, List.length_take, List.length_drop, reachBytes] at this
        omega
      have hll : (zs.take len0).length = len0 := by rw [List.length_take]; omega
      refine ⟨zs.take len0, hll.symm, ?_, ?_, ?_, by omega, (fun e => by cases e), by omega⟩
      · intro k u hu
        obtain ⟨b, off, spot⟩ := x
        have hk : k < len0 := by
          have := (List.getElem?_eq_some_iff.1 hu).1
          simp only [ints, List.length_map] at this
          omega
        have hspot : spot = none := by simpa [Addr.add] using World.cell?_spot (hcell 0 (by omega))
        subst hspot
        refine ⟨b, off, rfl, ?_⟩
        have hc := hcell k (by omega)
        simp only [ints, List.getElem?_map, List.getElem?_take, hk, if_true] at hu
        have hkz : k < zs.length := by omega
        rw [List.getElem?_eq_getElem hkz] at hu
        simp only [Option.map_some, Option.some.injEq] at hu
        subst hu
        rw [List.getD_eq_getElem?_getD, List.getElem?_eq_getElem hkz] at hc
        have e : (⟨b, off, none⟩ : Addr).add k = ⟨b, off + k, none⟩ := by unfold Addr.add; split <;> simp_all
        rw [e] at hc
        simpa using hc
      · exact faultsFound_block (hval 0 22 _ rfl rfl)
      · intro y hy
        have h1 : IntKind.i64.min = -9223372036854775808 := rfl
        have h2 : IntKind.i64.max = 9223372036854775807 := rfl
        have := hwz y (List.mem_of_mem_take hy)
        simp [Lit.wf, h1, h2] at this
        omega
  clear hA0 hval0
  refine (calls_of_acall Tryz.func6 (by kernel_rfl) (by kernel_rfl) hr hcap hle (gok_of hsh) (fun nl nid => faultsFound_c nl L nid (by omega))).mono fun e W' ⟨he, bel⟩ => ?_
  subst he
  exact ⟨_, rfl, _, _, _, [], _, [], hW', trodAll_mk1 (shut_bool Tryz.underlying4 _), (trodAll_cons_mk (Below.trod faultsFound_laidOut (by kernel_rfl) (of_decide_eq_true (by kernel_rfl)) k0 bel lt0) trodAll_mk0), rfl, bel.frame _, fun h => by cases h⟩
end Go.Proofs.YtpifoghhaohhaaaGreatDoor
namespace Go.Proofs.YtpifoghhaohhaaaGreatDoor
open Go.ChangeShapes Go.WideShapes Go.ChangeAt Go.RowKit
theorem faultsFound_f_laidOut : laidOutB Tryz.pinned.checked.prog = true := by kernel_rfl
theorem faultsFound_f_mapsRowed : mapsRowed Tryz.pinned.checked.prog = true := by kernel_rfl
theorem faultsFound_f_inPlace : (Rows.faultsFoundRow.inPlace == Tryz.pinned.checked.prog.inPlace 6) = true := by kernel_rfl
theorem faultsFound_f_unfollowed : (Rows.faultsFoundRow.unfollowed == Tryz.pinned.checked.prog.unfollowed 6) = true := by kernel_rfl
theorem faultsFound_f_recurses : (Rows.faultsFoundRow.recurses == Tryz.pinned.checked.prog.recurses 6) = true := by kernel_rfl
theorem faultsFound_f_named : (Rows.faultsFoundRow.named == Tryz.pinned.checked.prog.varsNamed 6) = true := by kernel_rfl
theorem faultsFound_f_plainKeys : (Rows.faultsFoundRow.plainKeys == Tryz.pinned.checked.prog.plainKeys) = true := by kernel_rfl
theorem faultsFound_f_heard : Tryz.pinned.checked.prog.stopsHeard = true := by kernel_rfl
theorem faultsFound_f_enter : Tryz.pinned.checked.prog.mayEnter = true := by kernel_rfl
theorem faultsFound_closed : joinedFacts Tryz.pinned.checked.prog 6 Tryz.f6 Rows.faultsFoundSpec Rows.faultsFoundRow = true := by
  unfold joinedFacts
  rw [faultsFound_f_laidOut, faultsFound_f_mapsRowed, faultsFound_f_inPlace, faultsFound_f_unfollowed, faultsFound_f_recurses, faultsFound_f_named, faultsFound_f_plainKeys, faultsFound_f_heard, faultsFound_f_enter]
  kernel_rfl
theorem faultsFound_over : Rows.faultsFoundRow.holds Tryz.pinned (OpenSpec.ofChange Rows.faultsFoundSpec) :=
  OpenClaim.holds_of_wide 6 Tryz.f6 rfl rfl rfl rfl rfl rfl rfl ⟨rfl, rfl, rfl, rfl, rfl⟩ rfl rfl rfl rfl rfl (by kernel_rfl) Tryz.func6 faultsFound_closed
    (of_decide_eq_true (by kernel_rfl)) (by unfold Func.isWrapper; first | (rw [if_pos (by decide +kernel)]; kernel_rfl) | (rw [if_neg (by decide +kernel)]; exact ⟨rfl, rfl⟩))
    (fun os started H enc _ => faultsFound_lifted os started H enc)
end Go.Proofs.YtpifoghhaohhaaaGreatDoor
