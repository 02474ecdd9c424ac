/-
  Groups of faults, by the document, by the abstract machine.
-/
import Derived.Test.YtpifoghhaohhaaaGreatDoorKFG6
import Derived.Test.YtpifoghhaohhaaaGreatDoorKFG3
import Derived.Test.YtpifoghhaohhaaaGreatDoorKFG4
import Derived.Test.YtpifoghhaohhaaaGreatDoorKFG5
import Derived.Test.YtpifoghhaohhaaaGreatDoorProg
import Derived.Test.YtpifoghhaohhaaaGreatDoorChecked
import Derived.Handed
import Derived.HandedShaped
import Derived.Shelf.Vars
import Derived.KernelRfl
import Derived.Test.YtpifoghhaohhaaaGreatDoorRows
import Derived.Test.YtpifoghhaohhaaaGreatDoorCards
import Derived.Test.YtpifoghhaohhaaaGreatDoorTie
import Derived.ChangeSame
import Derived.ChangeVars
import Derived.JoinedOf
import Derived.LaidLaws
import Derived.LaidHandle
import Derived.PinnedBridge
import Derived.SevenTiedAt
import Derived.WalkKit
import Derived.ProofKit
import Derived.OpenShut
import Derived.SizedLaws
import Derived.ChangeOld
import Derived.Below
set_option linter.unusedVariables false
set_option linter.unusedSimpArgs false
set_option maxRecDepth 100000
namespace Go.Proofs.YtpifoghhaohhaaaGreatDoor
open Go.RowKit Go.Shelf Go.Lib
theorem grpAt_step (K N : Nat → List UInt8) (n f : Nat) : grpAt K N (n + 1) f = if (K n == K f) = true then grpAt K N n f ++ [N n] else grpAt K N n f := by
  cases h : (K n == K f)
  · rw [if_neg (by simp), grpAt_ne (by simpa using h)]
  · rw [if_pos rfl, grpAt_eq (by simpa using h)]
theorem grpAt_len (K N : Nat → List UInt8) (n f : Nat) : (grpAt K N n f).length ≤ n := by
  unfold grpAt
  rw [List.length_map]
  have := List.length_filter_le (fun j => K j == K f) (List.range n)
  rwa [List.length_range] at this
def gsR (K N : Nat → List UInt8) (n i : Nat) : List (List (List UInt8)) := (fsts K i).map fun f => grpAt K N n f
theorem any_newK (K : Nat → List UInt8) (i : Nat) : ((List.range i).any fun j => K j == K i) = !newK K i := by
  unfold newK
  rw [Bool.eq_iff_iff, Bool.not_eq_true', List.any_eq_true, List.all_eq_false]
  constructor
  · rintro ⟨x, hx, h⟩; exact ⟨x, hx, by simpa using h⟩
  · rintro ⟨x, hx, h⟩; exact ⟨x, hx, by simpa using h⟩
theorem gsR_len (K N : Nat → List UInt8) (n i : Nat) : (gsR K N n i).length = (fsts K i).length := by simp [gsR]
theorem gsR_short (K N : Nat → List UInt8) (n i j : Nat) : ((gsR K N n i).getD j []).length ≤ n := by
  unfold gsR
  rw [List.getD_eq_getElem?_getD, List.getElem?_map]
  cases (fsts K i)[j]? with
  | none => simp
  | some f => exact grpAt_len K N n f
set_option maxHeartbeats 16000000 in
theorem groupsOf_c (g0 r0 : Bool) (b : Nat → Bool) (G : List (List UInt8)) (R : RowL) (nl : Bool) (T : List Int) (nid : Nat) (hB : DictW G R) (hD : dictV G R = 0) (hr : R.length ≤ 7) (hT : T.length ≤ 1000) (hI : ∀ t ∈ T, 0 ≤ t ∧ t < G.length) :
    ACall Tryz.prog 30 [dictP g0 r0 b G R, litI nl T] [] nid (.sl nid 0 (grpD G R T).length) [(nid, arrG (grpD G R T))] := by
  have hgl := hB.gl
  have hok := dict_ok hD
  have hlo := hok.lo
  have hlen := dictV_rows hD
  have hall := fun m => allR_c g0 r0 b G R m hB.rl hlo hgl
  have hXl : (([], false, G) :: rowsB b R).length = R.length + 1 := by rw [List.length_cons, rowsB_len]
  have hXr : ∀ k, k < R.length + 1 → ((([], false, G) :: rowsB b R).getD k z0).2.2.length = G.length ∧ ∀ x ∈ ((([], false, G) :: rowsB b R).getD k z0).2.2, (32 : UInt8) ∉ x := fun k hk => by
    cases k with
    | zero => exact ⟨rfl, fun x hx => (resp_no (hok.g x hx)).2.2.1⟩
    | succ k =>
      rw [List.getD_cons_succ, rowsB_at b R (by omega)]
      refine ⟨hlen k (by omega), fun x hx => ?_⟩
      have hm := row_mem (R := R) (k := k) (by omega)
      exact (resp_no ((hok.r _ hm).2.2 x hx)).2.2.1
  have hK : keyD G R T = fun j => toldV ((([], false, G) :: rowsB b R).getD j z0).2.2 T := by
    funext j; unfold keyD; rw [(rowX_at false b G R j).2]
  have hN : nameD G R = fun j => ((([], false, G) :: rowsB b R).getD j z0).1 := by
    funext j; rw [(rowX_at false b G R j).1]
  unfold grpD
  generalize hKK : keyD G R T = K at *
  generalize hNN : nameD G R = N at *
  generalize (([], false, G) :: rowsB b R) = X at *
  have hKX : ∀ i j, i < R.length + 1 → j < R.length + 1 → (!difB (X.getD i z0).2.2 (X.getD j z0).2.2 T) = (K j == K i) := fun i j hi hj => by
    rw [difB_told (hXr i hi).2 (hXr j hj).2, Bool.not_not, hK]
    rw [Bool.eq_iff_iff]
    simp only [beq_iff_eq]
    exact eq_comm
  have hNX : ∀ j, (X.getD j z0).1 = N j := fun j => by rw [hN]
  clear hK hN hKK hNN
  refine acall_sr c30 (by simp [a30]) ?_
  unfold a30 dictP litI at *
  refine SR.seq ?_
  simp -dsimp only [aqT, aqU, aqN, aqS, ↓seqK, ↓blkK, ↓loopK, step, stepBin, Nat.add_assoc nid, ↓reduceIte, Option.toList, ← Int.ofNat_tmod, ← Int.ofNat_tdiv, simprocAttr, BEq.rfl, LN_succ]
  refine SR.seq ?_
  simp -dsimp only [aqT, aqU, aqN, aqS, ↓seqK, ↓blkK, ↓loopK, step, stepBin, Nat.add_assoc nid, ↓reduceIte, Option.toList, ← Int.ofNat_tmod, ← Int.ofNat_tdiv, simprocAttr, BEq.rfl, LN_succ]
  refine SR.seqTo ⟨[(6, .sl (nid + 20) 0 (R.length + 1)), (5, .lit true 0 []), (3, .ptr (nid + 4) 0)], [(nid + 20, arrRw X), (nid + 4, some (.box 22 [litI nl T]))], nid + 100, nid⟩ ?_ ?_
  · simp -dsimp only [aqT, aqU, aqN, aqS, ↓seqK, ↓blkK, ↓loopK, step, stepBin, Nat.add_assoc nid, ↓reduceIte, Option.toList, ← Int.ofNat_tmod, ← Int.ofNat_tdiv, simprocAttr, BEq.rfl, LN_succ]
    refine CallO.pure (hall _) ?_
    unfold arrRw colsRw
    simp -dsimp only [aqT, aqU, aqN, aqS, ↓seqK, ↓blkK, ↓loopK, step, stepBin, Nat.add_assoc nid, ↓reduceIte, Option.toList, ← Int.ofNat_tmod, ← Int.ofNat_tdiv, simprocAttr, BEq.rfl, LN_succ]
    refine Cov.go [] [] ?_
    simp [cvT, step, res, litI, arrRw, colsRw, ColsEq.refl, -List.getD_eq_getElem?_getD]
  unfold arrRw litI
  have hno : noOs (colsRw X) = true := rfl
  refine SR.freezeB [nid + 20] (fun n2 => ?_)
  simp only [frzS, frzH, frzBlk, lends, lend, kill, hno, noOs, aqT, aqU, aqN, aqS, ↓seqK, ↓blkK, ↓loopK, step, stepBin, Nat.add_assoc nid, ↓reduceIte, Option.toList, ← Int.ofNat_tmod, ← Int.ofNat_tdiv, simprocAttr, BEq.rfl, LN_succ]
  clear hno
  generalize n2 (nid + 20) = nx
  refine SR.seqW (ι := Unit) (fun _ => ⟨[(5, .sl (nid + 16) 0 (fsts K (R.length + 1)).length)], [(nid + 16, outG nid (fsts K (R.length + 1)).length (fun j => (gsR K N (R.length + 1) (R.length + 1)).getD j [])), (nid + 4, some (.box 22 [litI nl T]))] ++ famN (nid + 100) (fun j => gB ((gsR K N (R.length + 1) (R.length + 1)).getD j [])) (fsts K (R.length + 1)).length, nid + 9000, nid⟩) ?_ (fun _ => ?_)
  · refine SR.seqTo ⟨[(17, .int .i64 0), (16, .int .i64 ((R.length + 1 : Nat) : Int)), (15, .lit nx (R.length + 1) (colsRw X)), (6, .lit nx (R.length + 1) (colsRw X)), (5, .lit true 0 []), (3, .ptr (nid + 4) 0)], [(nid + 4, some (.box 22 [litI nl T]))], nid + 200, nid⟩ ?_ ?_
    · simp -dsimp only [aqT, aqU, aqN, aqS, ↓seqK, ↓blkK, ↓loopK, step, stepBin, Nat.add_assoc nid, ↓reduceIte, Option.toList, ← Int.ofNat_tmod, ← Int.ofNat_tdiv, simprocAttr, BEq.rfl, LN_succ]
      refine Cov.go [] [] ?_
      simp [cvT, step, res, litI, colsRw, ColsEq.refl, -List.getD_eq_getElem?_getD]
    unfold litI
    refine SR.block ?_
    refine SR.loopP (fun i : Nat => i ≤ R.length + 1) (fun i => ⟨[(17, .int .i64 i), (16, .int .i64 ((R.length + 1 : Nat) : Int)), (15, .lit nx (R.length + 1) (colsRw X)), (6, .lit nx (R.length + 1) (colsRw X)), (5, .sl (nid + 16) 0 (fsts K i).length), (3, .ptr (nid + 4) 0)], [(nid + 16, outG nid (fsts K i).length (fun j => (gsR K N (R.length + 1) i).getD j [])), (nid + 4, some (.box 22 [litI nl T]))] ++ famN (nid + 100) (fun j => gB ((gsR K N (R.length + 1) i).getD j [])) (fsts K i).length, nid + 300, nid⟩) (fun i => R.length + 2 - i) 0 (by omega) (Cov.go [] [(nid + 16, 1)] ?_) (fun i hi => ?_)
    · simp [cvT, step, res, litI, outG, famN, fsts, colsRw, ColsEq.refl, -List.getD_eq_getElem?_getD]
    have hfl := fsts_len (K := K) i
    refine SR.seq ?_
    unfold outG litI colsRw
    simp -dsimp only [aqT, aqU, aqN, aqS, ↓seqK, ↓blkK, ↓loopK, step, stepBin, Nat.add_assoc nid, ↓reduceIte, Option.toList, ← Int.ofNat_tmod, ← Int.ofNat_tdiv, simprocAttr, BEq.rfl, LN_succ]
    refine SR.seq ?_
    simp -dsimp only [aqT, aqU, aqN, aqS, ↓seqK, ↓blkK, ↓loopK, step, stepBin, Nat.add_assoc nid, ↓reduceIte, Option.toList, ← Int.ofNat_tmod, ← Int.ofNat_tdiv, simprocAttr, BEq.rfl, LN_succ]
    refine S2.dec (fun h3 => ?_) (fun h3 => ?_) <;> simp -dsimp only [aqT, aqU, aqN, aqS, ↓seqK, ↓blkK, ↓loopK, step, stepBin, Nat.add_assoc nid, ↓reduceIte, Option.toList, ← Int.ofNat_tmod, ← Int.ofNat_tdiv, simprocAttr, BEq.rfl, LN_succ]
    · have hil : i < R.length + 1 := by omega
      obtain ⟨hx1, hx2⟩ := hXr i hil
      refine SR.seqW (ι := Unit) (fun _ => ⟨[(17, .int .i64 i), (16, .int .i64 ((R.length + 1 : Nat) : Int)), (15, .lit nx (R.length + 1) (colsRw X)), (6, .lit nx (R.length + 1) (colsRw X)), (5, .sl (nid + 16) 0 (fsts K (i + 1)).length), (3, .ptr (nid + 4) 0)], [(nid + 16, outG nid (fsts K (i + 1)).length (fun j => (gsR K N (R.length + 1) (i + 1)).getD j [])), (nid + 4, some (.box 22 [litI nl T]))] ++ famN (nid + 100) (fun j => gB ((gsR K N (R.length + 1) (i + 1)).getD j [])) (fsts K (i + 1)).length, nid + 8000, nid⟩) ?_ (fun _ => ?_)
      · refine SR.block ?_
        refine SR.seq ?_
        simp -dsimp only [aqT, aqU, aqN, aqS, ↓seqK, ↓blkK, ↓loopK, step, stepBin, Nat.add_assoc nid, ↓reduceIte, Option.toList, ← Int.ofNat_tmod, ← Int.ofNat_tdiv, simprocAttr, BEq.rfl, LN_succ]
        refine ⟨by omega, ?_⟩
        refine SR.seq ?_
        simp -dsimp only [aqT, aqU, aqN, aqS, ↓seqK, ↓blkK, ↓loopK, step, stepBin, Nat.add_assoc nid, ↓reduceIte, Option.toList, ← Int.ofNat_tmod, ← Int.ofNat_tdiv, simprocAttr, BEq.rfl, LN_succ]
        have hcon := fun mm (h : nid + 316 < mm) => containsRw_h 103 [.ptr (nid + 316) 0, .ptr (nid + 4) 0] [(nid + 316, boxRw (X.getD i z0).1 (X.getD i z0).2.1 (X.getD i z0).2.2), (nid + 4, some (.box 22 [.lit nl T.length [.i .i64 fun i => T.getD i 0]]))] (fun j => K j == K i) nx i (fun j => (X.getD j z0).1) (fun j => (X.getD j z0).2.1) (fun j => (X.getD j z0).2.2.length) (fun j => [.s fun q => (X.getD j z0).2.2.getD q []]) mm (scoped2 (by omega) (by omega) rfl rfl) (by simp [lowAll, idsOfs, idsOf]; omega) (by omega) (fun j hj m' h' => by
          have hjn := hXr j (by omega)
          have h := same_c [(nid + 316, boxRw (X.getD i z0).1 (X.getD i z0).2.1 (X.getD i z0).2.2), (nid + 4, some (.box 22 [.lit nl T.length [.i .i64 fun i => T.getD i 0]]))] (nid + 316) (nid + 4) 22 (X.getD j z0).1 (X.getD i z0).1 (X.getD j z0).2.1 (X.getD i z0).2.1 (X.getD j z0).2.2 (X.getD i z0).2.2 nl T m' (scoped2 (by omega) (by omega) rfl rfl) (by simp only [getH_hit]) (by rw [getH_ne (by omega)]; simp only [getH_hit]) (by omega) hT (by rw [hx1]; exact hI) (by rw [hjn.1]; exact hI)
          rw [hKX i j hil (by omega)] at h
          exact h)
        rw [any_newK] at hcon
        unfold boxRw at hcon
        have hgsh := fun j => gsR_short K N (R.length + 1) i j
        have hgsl := gsR_len K N (R.length + 1) i
        refine SR.seqW (ι := {_u : Unit // newK K i = true}) (fun _ => ⟨[(9, .fn 103 [.ptr (nid + 28) 0, .ptr (nid + 4) 0]), (17, .int .i64 i), (16, .int .i64 ((R.length + 1 : Nat) : Int)), (15, .lit nx (R.length + 1) (colsRw X)), (6, .lit nx (R.length + 1) (colsRw X)), (5, .sl (nid + 16) 0 (fsts K i).length), (3, .ptr (nid + 4) 0)], [(nid + 28, boxRw (X.getD i z0).1 (X.getD i z0).2.1 (X.getD i z0).2.2), (nid + 16, outG nid (fsts K i).length (fun j => (gsR K N (R.length + 1) i).getD j [])), (nid + 4, some (.box 22 [litI nl T]))] ++ famN (nid + 100) (fun j => gB ((gsR K N (R.length + 1) i).getD j [])) (fsts K i).length, nid + 400, nid⟩) ?_ (fun ⟨_, hnew⟩ => ?_)
        · refine SR.run (t := .mk) ?_
          simp -dsimp only [aqT, aqU, aqN, aqS, ↓seqK, ↓blkK, ↓loopK, step, stepBin, Nat.add_assoc nid, ↓reduceIte, Option.toList, ← Int.ofNat_tmod, ← Int.ofNat_tdiv, simprocAttr, BEq.rfl, LN_succ]
          refine ⟨⟨by omega, by omega⟩, CallO.on (hcon _ (by omega)) (subH_cons (by simp only [aqT, aqU, aqN, aqS, ↓seqK, ↓blkK, ↓loopK, step, stepBin, Nat.add_assoc nid, ↓reduceIte, Option.toList, ← Int.ofNat_tmod, ← Int.ofNat_tdiv, simprocAttr, BEq.rfl, LN_succ]) (subH_get (by simp only [aqT, aqU, aqN, aqS, ↓seqK, ↓blkK, ↓loopK, step, stepBin, Nat.add_assoc nid, ↓reduceIte, Option.toList, ← Int.ofNat_tmod, ← Int.ofNat_tdiv, simprocAttr, BEq.rfl, LN_succ]))) ?_⟩
          cases hnew : newK K i <;> simp -dsimp only [aqT, aqU, aqN, aqS, ↓seqK, ↓blkK, ↓loopK, step, stepBin, Nat.add_assoc nid, ↓reduceIte, Option.toList, ← Int.ofNat_tmod, ← Int.ofNat_tdiv, simprocAttr, BEq.rfl, LN_succ, Bool.not_true, Bool.not_false]
          · have hfo := fsts_old hnew
            have hgo : gsR K N (R.length + 1) (i + 1) = gsR K N (R.length + 1) i := by unfold gsR; rw [hfo]
            refine ⟨(), ?_⟩
            rw [hfo, hgo]
            unfold outG litI colsRw
            refine Cov.famSame [_, _, _, _] [_, _] (nid + 100) _ _ [] [] (by intro id hid; simp only [keys, List.map_cons, List.map_nil, List.mem_cons, List.not_mem_nil, or_false] at hid; omega) (by simp) (by simp) (fun j _ => gB_self _) ?_ (by omega) ?_
            · intro id hid _
              simp only [liveIds, List.mem_cons, List.not_mem_nil, or_false] at hid
              rcases hid with rfl | rfl <;> first | (simp only [srcOf, beq_self_eq_true, cond_true]; omega) | (rw [srcOf_off (by intro x hx; simp at hx; try (subst hx; simp only; omega))]; omega)
            · simp [cvT, step, res, boxRw, ColsEq.refl, -List.getD_eq_getElem?_getD]
              try (intro j hj; omega)
          · refine ⟨⟨(), rfl⟩, ?_⟩
            unfold outG litI colsRw boxRw
            refine Cov.famSame [_, _, _, _] [_, _, _] (nid + 100) _ _ [(nid + 28, nid + 316)] [] (by intro id hid; simp only [keys, List.map_cons, List.map_nil, List.mem_cons, List.not_mem_nil, or_false] at hid; omega) (by intro x hx; simp at hx; subst hx; simp only; omega) (by simp) (fun j _ => gB_self _) ?_ (by omega) ?_
            · intro id hid _
              simp only [liveIds, List.mem_cons, List.not_mem_nil, or_false] at hid
              rcases hid with rfl | rfl | rfl <;> first | (simp only [srcOf, beq_self_eq_true, cond_true]; omega) | (rw [srcOf_off (by intro x hx; simp at hx; try (subst hx; simp only; omega))]; omega)
            · simp [cvT, step, res, boxRw, ColsEq.refl, -List.getD_eq_getElem?_getD]
              try (intro j hj; refine ⟨?_, by omega⟩; rw [show (nid + 28 == nid + (100 + j)) = false by simp; omega]; rfl)
        have hfn := fsts_new hnew
        have hgn : gsR K N (R.length + 1) (i + 1) = gsR K N (R.length + 1) i ++ [grpAt K N (R.length + 1) i] := by unfold gsR; rw [hfn, List.map_append]; rfl
        have hfl2 : (fsts K (i + 1)).length = (fsts K i).length + 1 := by rw [hfn]; simp
        have hgo : ∀ j, j < (fsts K i).length + 1 → (gsR K N (R.length + 1) (i + 1)).getD j [] = if j = (fsts K i).length then grpAt K N (R.length + 1) i else (gsR K N (R.length + 1) i).getD j [] := fun j hj => by
          rw [hgn]
          by_cases e : j = (fsts K i).length
          · rw [if_pos e, e, ← hgsl]; simp
          · rw [if_neg e, List.getD_eq_getElem?_getD, List.getElem?_append_left (by omega), ← List.getD_eq_getElem?_getD]
        rw [hfl2]
        clear hcon hgn hfn hgsl hfl2
        generalize (fsts K i).length = m at *
        generalize hg2 : (fun j => (gsR K N (R.length + 1) (i + 1)).getD j []) = g2 at *
        have hgo : ∀ j, j < m + 1 → g2 j = if j = m then grpAt K N (R.length + 1) i else (gsR K N (R.length + 1) i).getD j [] := fun j hj => by rw [← hg2]; exact hgo j hj
        have hg3 : (fun j => gB ((gsR K N (R.length + 1) (i + 1)).getD j [])) = fun j => gB (g2 j) := by rw [← hg2]
        rw [hg3]
        generalize hg1 : (fun j => (gsR K N (R.length + 1) i).getD j []) = g at *
        have hgo : ∀ j, j < m + 1 → g2 j = if j = m then grpAt K N (R.length + 1) i else g j := fun j hj => by rw [hgo j hj, ← hg1]
        have hg4 : (fun j => gB ((gsR K N (R.length + 1) i).getD j [])) = fun j => gB (g j) := by rw [← hg1]
        rw [hg4]
        clear hg1 hg2 hg3 hg4
        unfold outG litI colsRw boxRw
        refine SR.seq ?_
        simp -dsimp only [aqT, aqU, aqN, aqS, ↓seqK, ↓blkK, ↓loopK, step, stepBin, Nat.add_assoc nid, ↓reduceIte, Option.toList, ← Int.ofNat_tmod, ← Int.ofNat_tdiv, simprocAttr, BEq.rfl, LN_succ]
        refine SR.seqW (ι := Unit) (fun _ => ⟨[(10, .sl (nid + 24) 0 (grpAt K N (R.length + 1) i).length), (17, .int .i64 i), (16, .int .i64 ((R.length + 1 : Nat) : Int)), (15, .lit nx (R.length + 1) (colsRw X)), (6, .lit nx (R.length + 1) (colsRw X)), (5, .sl (nid + 16) 0 m), (3, .ptr (nid + 4) 0)], [(nid + 24, arrS (grpAt K N (R.length + 1) i)), (nid + 16, outG nid m g), (nid + 4, some (.box 22 [litI nl T]))] ++ famN (nid + 100) (fun j => gB (g j)) m, nid + 6000, nid⟩) ?_ (fun _ => ?_)
        · refine SR.seqTo ⟨[(30, .int .i64 0), (29, .int .i64 ((R.length + 1 : Nat) : Int)), (28, .lit nx (R.length + 1) (colsRw X)), (10, .lit true 0 []), (9, .fn 103 [.ptr (nid + 28) 0, .ptr (nid + 4) 0]), (17, .int .i64 i), (16, .int .i64 ((R.length + 1 : Nat) : Int)), (15, .lit nx (R.length + 1) (colsRw X)), (6, .lit nx (R.length + 1) (colsRw X)), (5, .sl (nid + 16) 0 m), (3, .ptr (nid + 4) 0)], [(nid + 28, boxRw (X.getD i z0).1 (X.getD i z0).2.1 (X.getD i z0).2.2), (nid + 16, outG nid m g), (nid + 4, some (.box 22 [litI nl T]))] ++ famN (nid + 100) (fun j => gB (g j)) m, nid + 500, nid⟩ ?_ ?_
          · simp -dsimp only [aqT, aqU, aqN, aqS, ↓seqK, ↓blkK, ↓loopK, step, stepBin, Nat.add_assoc nid, ↓reduceIte, Option.toList, ← Int.ofNat_tmod, ← Int.ofNat_tdiv, simprocAttr, BEq.rfl, LN_succ]
            unfold outG litI colsRw boxRw
            refine Cov.famSame [_, _, _] [_, _, _] (nid + 100) _ _ [] [] (by intro id hid; simp only [keys, List.map_cons, List.map_nil, List.mem_cons, List.not_mem_nil, or_false] at hid; omega) (by simp) (by simp) (fun j _ => gB_self _) ?_ (by omega) ?_
            · intro id hid _
              simp only [liveIds, List.mem_cons, List.not_mem_nil, or_false] at hid
              rcases hid with rfl | rfl | rfl <;> first | (simp only [srcOf, beq_self_eq_true, cond_true]; omega) | (rw [srcOf_off (by intro x hx; simp at hx; try (subst hx; simp only; omega))]; omega)
            · simp [cvT, step, res, boxRw, ColsEq.refl, -List.getD_eq_getElem?_getD]
              try (intro j hj; omega)
          refine SR.block ?_
          refine SR.loopP (fun k : Nat => k ≤ R.length + 1) (fun k => ⟨[(30, .int .i64 k), (29, .int .i64 ((R.length + 1 : Nat) : Int)), (28, .lit nx (R.length + 1) (colsRw X)), (10, .sl (nid + 24) 0 (grpAt K N k i).length), (9, .fn 103 [.ptr (nid + 28) 0, .ptr (nid + 4) 0]), (17, .int .i64 i), (16, .int .i64 ((R.length + 1 : Nat) : Int)), (15, .lit nx (R.length + 1) (colsRw X)), (6, .lit nx (R.length + 1) (colsRw X)), (5, .sl (nid + 16) 0 m), (3, .ptr (nid + 4) 0)], [(nid + 24, arrS (grpAt K N k i)), (nid + 28, boxRw (X.getD i z0).1 (X.getD i z0).2.1 (X.getD i z0).2.2), (nid + 16, outG nid m g), (nid + 4, some (.box 22 [litI nl T]))] ++ famN (nid + 100) (fun j => gB (g j)) m, nid + 600, nid⟩) (fun k => R.length + 2 - k) 0 (by omega) ?_ (fun k hk => ?_)
          · unfold outG litI colsRw boxRw arrS
            refine Cov.famSame [_, _, _] [_, _, _, _] (nid + 100) _ _ [] [(nid + 24, 1)] (by intro id hid; simp only [keys, List.map_cons, List.map_nil, List.mem_cons, List.not_mem_nil, or_false] at hid; omega) (by simp) (by intro x hx; simp at hx; subst hx; simp only; omega) (fun j _ => gB_self _) ?_ (by omega) ?_
            · intro id hid _
              simp only [liveIds, List.mem_cons, List.not_mem_nil, or_false] at hid
              rcases hid with rfl | rfl | rfl | rfl <;> first | (simp only [srcOf, beq_self_eq_true, cond_true]; omega) | (rw [srcOf_off (by intro x hx; simp at hx; try (subst hx; simp only; omega))]; omega)
            · simp [cvT, step, res, boxRw, ColsEq.refl, -List.getD_eq_getElem?_getD, grpAt]
              try (intro j hj; omega)
          have hst := grpAt_step K N k i
          have hle := grpAt_len K N k i
          have hen : k = R.length + 1 → grpAt K N (R.length + 1) i = grpAt K N k i := fun e => by rw [e]
          generalize hg5 : grpAt K N (k + 1) i = U1 at *
          generalize grpAt K N k i = U at *
          refine SR.run (t := .mk) ?_
          unfold outG litI colsRw boxRw arrS
          simp -dsimp only [aqT, aqU, aqN, aqS, ↓seqK, ↓blkK, ↓loopK, step, stepBin, Nat.add_assoc nid, ↓reduceIte, Option.toList, ← Int.ofNat_tmod, ← Int.ofNat_tdiv, simprocAttr, BEq.rfl, LN_succ]
          refine S2.dec (fun h4 => ?_) (fun h4 => ?_) <;> simp -dsimp only [aqT, aqU, aqN, aqS, ↓seqK, ↓blkK, ↓loopK, step, stepBin, Nat.add_assoc nid, ↓reduceIte, Option.toList, ← Int.ofNat_tmod, ← Int.ofNat_tdiv, simprocAttr, BEq.rfl, LN_succ]
          · have hkl : k < R.length + 1 := by omega
            have hjn := hXr k hkl
            have hsc := fun m' (h' : nid + 28 < m') => same_c [(nid + 28, boxRw (X.getD i z0).1 (X.getD i z0).2.1 (X.getD i z0).2.2), (nid + 4, some (.box 22 [.lit nl T.length [.i .i64 fun i => T.getD i 0]]))] (nid + 28) (nid + 4) 22 (X.getD k z0).1 (X.getD i z0).1 (X.getD k z0).2.1 (X.getD i z0).2.1 (X.getD k z0).2.2 (X.getD i z0).2.2 nl T m' (scoped2 (by omega) (by omega) rfl rfl) (by simp only [getH_hit]) (by rw [getH_ne (by omega)]; simp only [getH_hit]) (by omega) hT (by rw [hx1]; exact hI) (by rw [hjn.1]; exact hI)
            rw [hKX i k hil hkl] at hsc
            unfold boxRw at hsc
            refine ⟨by omega, CallO.on (hsc _ (by omega)) (subH_cons (by simp only [aqT, aqU, aqN, aqS, ↓seqK, ↓blkK, ↓loopK, step, stepBin, Nat.add_assoc nid, ↓reduceIte, Option.toList, ← Int.ofNat_tmod, ← Int.ofNat_tdiv, simprocAttr, BEq.rfl, LN_succ]) (subH_get (by simp only [aqT, aqU, aqN, aqS, ↓seqK, ↓blkK, ↓loopK, step, stepBin, Nat.add_assoc nid, ↓reduceIte, Option.toList, ← Int.ofNat_tmod, ← Int.ofNat_tdiv, simprocAttr, BEq.rfl, LN_succ]))) ?_⟩
            simp -dsimp only [aqT, aqU, aqN, aqS, ↓seqK, ↓blkK, ↓loopK, step, stepBin, Nat.add_assoc nid, ↓reduceIte, Option.toList, ← Int.ofNat_tmod, ← Int.ofNat_tdiv, simprocAttr, BEq.rfl, LN_succ]
            cases hKK : (K k == K i) <;> rw [hKK] at hst <;> simp -dsimp only [aqT, aqU, aqN, aqS, ↓seqK, ↓blkK, ↓loopK, step, stepBin, Nat.add_assoc nid, ↓reduceIte, Option.toList, ← Int.ofNat_tmod, ← Int.ofNat_tdiv, simprocAttr, BEq.rfl, LN_succ]
            · rw [if_neg (by simp)] at hst
              refine ⟨by unfold inI64; omega, k + 1, ⟨by omega, by omega⟩, ?_⟩
              rw [hg5, hst]
              refine Cov.famSame [_, _, _, _, _, _] [_, _, _, _] (nid + 100) _ _ [] [] (by intro id hid; simp only [keys, List.map_cons, List.map_nil, List.mem_cons, List.not_mem_nil, or_false] at hid; omega) (by simp) (by simp) (fun j _ => gB_self _) ?_ (by omega) ?_
              · intro id hid _
                simp only [liveIds, List.mem_cons, List.not_mem_nil, or_false] at hid
                rcases hid with rfl | rfl | rfl | rfl <;> first | (simp only [srcOf, beq_self_eq_true, cond_true]; omega) | (rw [srcOf_off (by intro x hx; simp at hx; try (subst hx; simp only; omega))]; omega)
              · simp [cvT, step, res, boxRw, ColsEq.refl, -List.getD_eq_getElem?_getD]
                try (intro j hj; omega)
            · rw [if_pos rfl] at hst
              rw [getD_app1 U _ rfl, hNX]
              refine ⟨⟨by omega, by omega⟩, by unfold inI64; omega, k + 1, ⟨by omega, by omega⟩, ?_⟩
              rw [hg5, hst]
              have hln : (U ++ [N k]).length = U.length + 1 := by simp
              rw [hln]
              refine Cov.famSame [_, _, _, _, _, _, _, _, _] [_, _, _, _] (nid + 100) _ _ [(nid + 24, nid + 648)] [] (by intro id hid; simp only [keys, List.map_cons, List.map_nil, List.mem_cons, List.not_mem_nil, or_false] at hid; omega) (by intro x hx; simp at hx; subst hx; simp only; omega) (by simp) (fun j _ => gB_self _) ?_ (by omega) ?_
              · intro id hid _
                simp only [liveIds, List.mem_cons, List.not_mem_nil, or_false] at hid
                rcases hid with rfl | rfl | rfl | rfl <;> first | (simp only [srcOf, beq_self_eq_true, cond_true]; omega) | (rw [srcOf_off (by intro x hx; simp at hx; try (subst hx; simp only; omega))]; omega)
              · simp [cvT, step, res, boxRw, ColsEq.refl, -List.getD_eq_getElem?_getD]
                try (intro j hj; refine ⟨?_, by omega⟩; rw [show (nid + 24 == nid + (100 + j)) = false by simp; omega]; rfl)
          · rw [hen (by omega)]
            refine ⟨(), ?_⟩
            refine Cov.famSame [_, _, _, _] [_, _, _] (nid + 100) _ _ [] [] (by intro id hid; simp only [keys, List.map_cons, List.map_nil, List.mem_cons, List.not_mem_nil, or_false] at hid; omega) (by simp) (by simp) (fun j _ => gB_self _) ?_ (by omega) ?_
            · intro id hid _
              simp only [liveIds, List.mem_cons, List.not_mem_nil, or_false] at hid
              rcases hid with rfl | rfl | rfl <;> first | (simp only [srcOf, beq_self_eq_true, cond_true]; omega) | (rw [srcOf_off (by intro x hx; simp at hx; try (subst hx; simp only; omega))]; omega)
            · simp [cvT, step, res, boxRw, ColsEq.refl, -List.getD_eq_getElem?_getD]
              try (intro j hj; omega)
        have hgm : m + 1 ≤ 8 := by omega
        generalize grpAt K N (R.length + 1) i = U at *
        refine SR.run (t := .mk) ?_
        unfold outG litI colsRw arrS
        simp -dsimp only [aqT, aqU, aqN, aqS, ↓seqK, ↓blkK, ↓loopK, step, stepBin, Nat.add_assoc nid, ↓reduceIte, Option.toList, ← Int.ofNat_tmod, ← Int.ofNat_tdiv, simprocAttr, BEq.rfl, LN_succ]
        refine ⟨⟨by omega, by omega⟩, (), ?_⟩
        generalize hrn : ((nid + 100 + m, nid + 24) :: [(nid + 16, nid + 6012)] : List (Nat × Nat)) = rn
        have s4 : srcOf rn (nid + 4) = nid + 4 := by rw [← hrn]; exact srcOf_off (by intro x hx; simp at hx; rcases hx with rfl | rfl <;> simp only <;> omega)
        have s16 : srcOf rn (nid + 16) = nid + 6012 := by
          rw [← hrn]
          have e1 : (nid + 100 + m == nid + 16) = false := by simp; omega
          simp only [srcOf, e1, cond_false, beq_self_eq_true, cond_true]
        have sj : ∀ j, j < m + 1 → srcOf rn (nid + (100 + j)) = if j = m then nid + 24 else nid + (100 + j) := fun j hj => by
          rw [← hrn]
          by_cases e : j = m
          · subst e; rw [if_pos rfl, ← Nat.add_assoc]; simp [srcOf]
          · rw [if_neg e]; exact srcOf_off (by intro x hx; simp at hx; rcases hx with rfl | rfl <;> simp only <;> omega)
        refine Cov.famSet' [_, _, _, _, _, _] [_, _] (nid + 100) _ _ m (nid + 24) _ _ rn [(nid + 16, nid + 6012)] [] hrn.symm (.arr 9 U.length [.s fun i => U.getD i []]) (by omega) ?_ rfl ?_ ?_ (by omega) (by omega) ?_ (by intro x hx; simp at hx; subst hx; simp only; omega) (by simp) ?_ (by omega) ?_ (fun j hj hne => ⟨by omega, ?_⟩) ?_ ?_ ?_
        · rw [← hrn]; simp [inRange]; omega
        · simp [apart, liveIds, nilSz, s4, s16]
        · simp [liveIds]
        · intro id hid
          simp only [keys, List.map_cons, List.map_nil, List.mem_cons, List.not_mem_nil, or_false] at hid
          omega
        · rw [getH_ne (by omega), getH_ne (by omega), getH_ne (by omega)]
          simp only [getH_hit]
        · show BlkCov _ _ _ _ (gB (g2 m))
          rw [hgo m (by omega), if_pos rfl]
          exact gB_self U
        · show BlkCov _ _ _ (gB (g j)) (gB (g2 j))
          rw [hgo j hj, if_neg hne]
          exact gB_self _
        · refine ⟨?_, ?_, trivial⟩
          · show onBlk (getH _ (srcOf rn (nid + 16))) _
            rw [s16]
            simp only [List.cons_append, List.nil_append]
            repeat rw [getH_ne (by omega)]
            simp only [getH_hit]
            refine And.intro rfl (And.intro rfl ⟨fun j hj => ?_, trivial⟩)
            refine ⟨?_, rfl, by show nid + (100 + j) < nid + 8000; omega, ?_⟩
            · show srcOf rn (nid + (100 + j)) = if j < m then nid + (100 + j) else ([(nid + 24, U.length)].getD (j - m) (0, 0)).1
              rw [sj j hj]
              by_cases e : j = m
              · rw [if_pos e, if_neg (by omega), e, Nat.sub_self]; rfl
              · rw [if_neg e, if_pos (by omega)]
            · show (if j < m then (g j).length else ([(nid + 24, U.length)].getD (j - m) (0, 0)).2) = (g2 j).length
              rw [hgo j hj]
              by_cases e : j = m
              · rw [if_pos e, if_neg (by omega), e, Nat.sub_self]; rfl
              · rw [if_neg e, if_pos (by omega)]
          · show onBlk (getH _ (srcOf rn (nid + 4))) _
            rw [s4]
            simp only [List.cons_append, List.nil_append]
            repeat rw [getH_ne (by omega)]
            simp only [getH_hit]
            exact And.intro rfl (by simp [PVCovs, PVCov, ColsEq.refl])
        · intro id hid _
          simp only [liveIds, List.mem_cons, List.not_mem_nil, or_false] at hid
          rcases hid with rfl | rfl
          · rw [s16]; omega
          · rw [s4]; omega
        · simp [cvT, step, res, s4, s16, ColsEq.refl, -List.getD_eq_getElem?_getD]
      · refine SR.run (t := .mk) ?_
        have hfl1 := fsts_len (K := K) (i + 1)
        unfold outG litI colsRw
        simp -dsimp only [aqT, aqU, aqN, aqS, ↓seqK, ↓blkK, ↓loopK, step, stepBin, Nat.add_assoc nid, ↓reduceIte, Option.toList, ← Int.ofNat_tmod, ← Int.ofNat_tdiv, simprocAttr, BEq.rfl, LN_succ]
        refine ⟨by unfold inI64; omega, i + 1, ⟨by omega, by omega⟩, ?_⟩
        refine Cov.famSame [_, _] [_, _] (nid + 100) _ _ [] [] (by intro id hid; simp only [keys, List.map_cons, List.map_nil, List.mem_cons, List.not_mem_nil, or_false] at hid; omega) (by simp) (by simp) (fun j _ => gB_self _) ?_ (by omega) ?_
        · intro id hid _
          simp only [liveIds, List.mem_cons, List.not_mem_nil, or_false] at hid
          rcases hid with rfl | rfl <;> first | (simp only [srcOf, beq_self_eq_true, cond_true]; omega) | (rw [srcOf_off (by intro x hx; simp at hx; try (subst hx; simp only; omega))]; omega)
        · simp [cvT, step, res, boxRw, ColsEq.refl, -List.getD_eq_getElem?_getD]
          try (intro j hj; omega)
    · obtain rfl : i = R.length + 1 := by omega
      refine ⟨(), Cov.drop (by omega) ?_⟩
      simp only [SlotsIn, aqT, aqU, aqN, ↓seqK, ↓blkK, ↓loopK, step, stepBin, Nat.reduceBEq, Nat.reduceBeqDiff, Nat.add_assoc nid, Nat.reduceAdd, reduceCtorEq, ↓reduceIte, Nat.reduceLeDiff, Nat.reduceBneDiff, Option.toList, ← Int.ofNat_tmod, ← Int.ofNat_tdiv, Nat.reduceLT]
      try simp
  have hM := fsts_len (K := K) (R.length + 1)
  have hgs : gsR K N (R.length + 1) (R.length + 1) = grps K N (R.length + 1) := rfl
  rw [hgs]
  have hpos : ∀ j, j < (fsts K (R.length + 1)).length → 0 < ((grps K N (R.length + 1)).getD j []).length := fun j hj => by
    have hj2 : j < (grps K N (R.length + 1)).length := by rw [grps_len]; exact hj
    rw [List.getD_eq_getElem?_getD, List.getElem?_eq_getElem hj2]
    exact List.length_pos_iff.2 (grps_full (K := K) (N := N) (R.length + 1) _ (List.getElem_mem hj2))
  have hgl3 := grps_len (K := K) (N := N) (R.length + 1)
  clear hall hXr hKX hNX hgs
  generalize (fsts K (R.length + 1)).length = M at *
  generalize grps K N (R.length + 1) = gs at *
  have hgat : ∀ j, j < M → getH ([(nid + 16, outG nid M (fun j => gs.getD j [])), (nid + 4, some (.box 22 [litI nl T]))] ++ famN (nid + 100) (fun j => gB (gs.getD j [])) M) (nid + (100 + j)) = some (gB (gs.getD j [])) := fun j hj => by
    rw [getH_skip (by intro k hk; simp only [keys, List.map_cons, List.map_nil, List.mem_cons, List.not_mem_nil, or_false] at hk; omega), ← Nat.add_assoc]
    exact famN_at _ hj
  have hid0 : ((List.range M).map fun j => nid + (100 + j)).contains (nid + 16) = false := by
    rw [Bool.eq_false_iff]
    intro h
    have h : (nid + 16) ∈ (List.range M).map fun j => nid + (100 + j) := by simpa using h
    obtain ⟨j, _, e⟩ := List.mem_map.1 h
    omega
  have hb0 : getH ([(nid + 16, outG nid M (fun j => gs.getD j [])), (nid + 4, some (.box 22 [litI nl T]))] ++ famN (nid + 100) (fun j => gB (gs.getD j [])) M) (nid + 16) = some (.arr 26 M [.o (fun j => nid + (100 + j)) (fun j => (gs.getD j []).length)]) := by
    simp only [List.cons_append, List.nil_append, getH_hit]
    rfl
  generalize [(nid + 16, outG nid M (fun j => gs.getD j [])), (nid + 4, some (.box 22 [litI nl T]))] ++ famN (nid + 100) (fun j => gB (gs.getD j [])) M = H at *
  refine SR.freezeO ((List.range M).map fun j => nid + (100 + j)) (nid + 16) 26 M [.o (fun j => nid + (100 + j)) (fun j => (gs.getD j []).length)] hb0 hid0 (fun c hc => ?_) (fun n2 hnn => ?_)
  · simp only [List.mem_singleton] at hc
    subst hc
    intro j hj
    refine ⟨?_, _, _, _, hgat j hj, rfl⟩
    simp only [List.contains_iff_mem, List.mem_map, List.mem_range]
    exact ⟨j, hj, rfl⟩
  have hfs : frzS H ((List.range M).map fun j => nid + (100 + j)) n2 [(5, .sl (nid + 16) 0 M)] = [(5, .sl (nid + 16) 0 M)] := by
    simp only [frzS, List.map_cons, List.map_nil, lend, hid0, Bool.false_and, cond_false]
  rw [hfs]
  refine SR.cov (t' := .mk) (st' := ⟨[(5, .sl (nid + 16) 0 gs.length)], [(nid + 16, arrG gs)], nid + 10000, nid⟩) (Cov.go [] [] ⟨by omega, rfl, rfl, by simp [apart, liveIds, arrG], by simp [liveIds, arrG], ⟨?_, trivial⟩, ?_⟩) ?_
  · show onBlk (getH (_ :: _) (nid + 16)) _
    rw [getH_hit]
    refine And.intro rfl (And.intro hgl3.symm ⟨ColEq.l fun j hj => ⟨hnn _ _ _ _ (hgat j hj) (hpos j hj), rfl, ?_⟩, trivial⟩)
    have e : colsAt H (nid + (100 + j)) = [.s fun i => (gs.getD j []).getD i []] := by
      unfold colsAt
      rw [hgat j hj]
      rfl
    show ColsEq _ (colsAt H (nid + (100 + j))) _
    rw [e]
    exact ColsEq.refl _ _
  · simp [cvT, step, res, hgl3]
  refine SR.run (t := .mk) ?_
  unfold arrG
  simp -dsimp only [aqT, aqU, aqN, aqS, ↓seqK, ↓blkK, ↓loopK, step, stepBin, Nat.add_assoc nid, ↓reduceIte, Option.toList, ← Int.ofNat_tmod, ← Int.ofNat_tdiv, simprocAttr, BEq.rfl, LN_succ]
  refine RetOK.go [(nid, nid + 16)] [] (.inl rfl) ?_
  simp [a30, cvT, step, res, ColsEq.refl, -List.getD_eq_getElem?_getD]
end Go.Proofs.YtpifoghhaohhaaaGreatDoor
namespace Go.Proofs.YtpifoghhaohhaaaGreatDoor
open Go.RowKit
theorem gcd_c (a b nid : Nat) (ha : a ≤ 1000000000000) (hb : b ≤ 1000000000000) : ACall Tryz.prog 184 [.int .i64 (a : Nat), .int .i64 (b : Nat)] [] nid (.int .i64 (Nat.gcd a b : Nat)) [] := by
  refine acall_run c184 (by simp [a184]) ?_
  simp -dsimp only [a184, aqT, aqU, aqN, aqS, ↓seqK, ↓blkK, ↓loopK, step, stepBin, Nat.add_assoc nid, ↓reduceIte, Option.toList, ← Int.ofNat_tmod, ← Int.ofNat_tdiv, simprocAttr, BEq.rfl, LN_succ]
  refine LP.mkP (fun x : Nat × Nat => Nat.gcd x.1 x.2 = Nat.gcd a b ∧ x.1 ≤ 1000000000000 ∧ x.2 ≤ 1000000000000) (fun x : Nat × Nat => ⟨[(0, .int .i64 (x.1 : Nat)), (1, .int .i64 (x.2 : Nat))], [], nid + 100, nid⟩) (fun x => x.2) (a, b) ⟨rfl, ha, hb⟩ (Cov.go [] [] ?_) (fun x hx => ?_)
  · simp [cvT, step, res]
  obtain ⟨x, y⟩ := x
  obtain ⟨hg, h1, h2⟩ := hx
  simp only at hg h1 h2
  simp -dsimp only [aqT, aqU, aqN, aqS, ↓seqK, ↓blkK, ↓loopK, step, stepBin, Nat.add_assoc nid, ↓reduceIte, Option.toList, ← Int.ofNat_tmod, ← Int.ofNat_tdiv, simprocAttr, BEq.rfl, LN_succ]
  refine S2.intro (fun h => ?_) (fun h => ?_) <;> simp -dsimp only [aqT, aqU, aqN, aqS, ↓seqK, ↓blkK, ↓loopK, step, stepBin, Nat.add_assoc nid, ↓reduceIte, Option.toList, ← Int.ofNat_tmod, ← Int.ofNat_tdiv, simprocAttr, BEq.rfl, LN_succ]
  · have hy : 0 < y := by
      rcases Nat.eq_zero_or_pos y with h0 | h0
      · subst h0; simp at h
      · exact h0
    have hm := Nat.mod_lt x hy
    refine ⟨by omega, (y, x % y), ⟨⟨?_, by omega, by simp only; omega⟩, by simp only; omega⟩, Cov.go [] [] ?_⟩
    · simp only
      rw [← hg, Nat.gcd_comm x y, Nat.gcd_rec y x, Nat.gcd_comm]
    · simp [cvT, step, res]
  · have hy : y = 0 := by
      rcases Nat.eq_zero_or_pos y with h0 | h0
      · exact h0
      · exfalso
        have : ((y : Int) != 0) = true := by simp; omega
        rw [this] at h
        cases h
    subst hy
    rw [Nat.gcd_zero_right] at hg
    rw [← hg]
    refine RetOK.pure (.inl rfl) rfl ?_
    simp [cvT, step, res]
theorem frac_c (a b nid : Nat) (ha : a ≤ 1000000000000) (hb : b ≤ 1000000000000) (hb0 : 0 < b) : ACall Tryz.prog 94 [.int .i64 (a : Nat), .int .i64 (b : Nat)] [] nid (.agg [.int .i64 (a / Nat.gcd a b : Nat), .int .i64 (b / Nat.gcd a b : Nat)]) [] := by
  have hg := Nat.gcd_pos_of_pos_right a hb0
  refine acall_run c94 (by simp [a94]) ?_
  simp -dsimp only [a94, aqT, aqU, aqN, aqS, ↓seqK, ↓blkK, ↓loopK, step, stepBin, Nat.add_assoc nid, ↓reduceIte, Option.toList, ← Int.ofNat_tmod, ← Int.ofNat_tdiv, simprocAttr, BEq.rfl, LN_succ]
  have hm : max (a : Int) (0 - (a : Int)) = a := by omega
  rw [hm]
  refine ⟨by unfold inI64; omega, CallO.pure (gcd_c a b _ ha hb) ?_⟩
  simp -dsimp only [aqT, aqU, aqN, aqS, ↓seqK, ↓blkK, ↓loopK, step, stepBin, Nat.add_assoc nid, ↓reduceIte, Option.toList, ← Int.ofNat_tmod, ← Int.ofNat_tdiv, simprocAttr, BEq.rfl, LN_succ]
  have q1 : a / Nat.gcd a b ≤ a := Nat.div_le_self _ _
  have q2 : b / Nat.gcd a b ≤ b := Nat.div_le_self _ _
  have wN : ∀ q : Nat, q ≤ 1000000000000 → IntKind.i64.wrap (q : Int) = q := fun q hq => IntWalk.i64_in _ (by omega)
  have w1 : IntKind.i64.wrap ((a / Nat.gcd a b : Nat) : Int) = ((a / Nat.gcd a b : Nat) : Int) := wN _ (Nat.le_trans q1 ha)
  have w2 : IntKind.i64.wrap ((b / Nat.gcd a b : Nat) : Int) = ((b / Nat.gcd a b : Nat) : Int) := wN _ (Nat.le_trans q2 hb)
  rw [w1, w2]
  refine ⟨by omega, by omega, RetOK.go [] [] (.inl rfl) ?_⟩
  generalize a / Nat.gcd a b = q at *
  generalize b / Nat.gcd a b = r at *
  simp [a94, cvT, step, res]
end Go.Proofs.YtpifoghhaohhaaaGreatDoor
namespace Go.Proofs.YtpifoghhaohhaaaGreatDoor
open Go.RowKit
theorem gcdR_c (a b nid : Nat) (ha : a ≤ 1000000000000) (hb : b ≤ 1000000000000) : ACall Tryz.prog 187 [.int .i64 (a : Nat), .int .i64 (b : Nat)] [] nid (.int .i64 (Nat.gcd a b : Nat)) [] := by
  refine acall_run c187 (by simp [a187]) ?_
  simp -dsimp only [a187, aqT, aqU, aqN, aqS, ↓seqK, ↓blkK, ↓loopK, step, stepBin, Nat.add_assoc nid, ↓reduceIte, Option.toList, ← Int.ofNat_tmod, ← Int.ofNat_tdiv, simprocAttr, BEq.rfl, LN_succ]
  refine LP.mkP (fun x : Nat × Nat => Nat.gcd x.1 x.2 = Nat.gcd a b ∧ x.1 ≤ 1000000000000 ∧ x.2 ≤ 1000000000000) (fun x : Nat × Nat => ⟨[(0, .int .i64 (x.1 : Nat)), (1, .int .i64 (x.2 : Nat))], [], nid + 100, nid⟩) (fun x => x.2) (a, b) ⟨rfl, ha, hb⟩ (Cov.go [] [] ?_) (fun x hx => ?_)
  · simp [cvT, step, res]
  obtain ⟨x, y⟩ := x
  obtain ⟨hg, h1, h2⟩ := hx
  simp only at hg h1 h2
  simp -dsimp only [aqT, aqU, aqN, aqS, ↓seqK, ↓blkK, ↓loopK, step, stepBin, Nat.add_assoc nid, ↓reduceIte, Option.toList, ← Int.ofNat_tmod, ← Int.ofNat_tdiv, simprocAttr, BEq.rfl, LN_succ]
  refine S2.intro (fun h => ?_) (fun h => ?_) <;> simp -dsimp only [aqT, aqU, aqN, aqS, ↓seqK, ↓blkK, ↓loopK, step, stepBin, Nat.add_assoc nid, ↓reduceIte, Option.toList, ← Int.ofNat_tmod, ← Int.ofNat_tdiv, simprocAttr, BEq.rfl, LN_succ]
  · have hy : 0 < y := by
      rcases Nat.eq_zero_or_pos y with h0 | h0
      · subst h0; simp at h
      · exact h0
    have hm := Nat.mod_lt x hy
    refine ⟨by omega, (y, x % y), ⟨⟨?_, by omega, by simp only; omega⟩, by simp only; omega⟩, Cov.go [] [] ?_⟩
    · simp only
      rw [← hg, Nat.gcd_comm x y, Nat.gcd_rec y x, Nat.gcd_comm]
    · simp [cvT, step, res]
  · have hy : y = 0 := by
      rcases Nat.eq_zero_or_pos y with h0 | h0
      · exact h0
      · exfalso
        have : ((y : Int) != 0) = true := by simp; omega
        rw [this] at h
        cases h
    subst hy
    rw [Nat.gcd_zero_right] at hg
    rw [← hg]
    refine RetOK.pure (.inl rfl) rfl ?_
    simp [cvT, step, res]
theorem fracR_c (a b nid : Nat) (ha : a ≤ 1000000000000) (hb : b ≤ 1000000000000) (hb0 : 0 < b) : ACall Tryz.prog 101 [.int .i64 (a : Nat), .int .i64 (b : Nat)] [] nid (.agg [.int .i64 (a / Nat.gcd a b : Nat), .int .i64 (b / Nat.gcd a b : Nat)]) [] := by
  have hg := Nat.gcd_pos_of_pos_right a hb0
  refine acall_run c101 (by simp [a101]) ?_
  simp -dsimp only [a101, aqT, aqU, aqN, aqS, ↓seqK, ↓blkK, ↓loopK, step, stepBin, Nat.add_assoc nid, ↓reduceIte, Option.toList, ← Int.ofNat_tmod, ← Int.ofNat_tdiv, simprocAttr, BEq.rfl, LN_succ]
  have hm : max (a : Int) (0 - (a : Int)) = a := by omega
  rw [hm]
  refine ⟨by unfold inI64; omega, CallO.pure (gcdR_c a b _ ha hb) ?_⟩
  simp -dsimp only [aqT, aqU, aqN, aqS, ↓seqK, ↓blkK, ↓loopK, step, stepBin, Nat.add_assoc nid, ↓reduceIte, Option.toList, ← Int.ofNat_tmod, ← Int.ofNat_tdiv, simprocAttr, BEq.rfl, LN_succ]
  have q1 : a / Nat.gcd a b ≤ a := Nat.div_le_self _ _
  have q2 : b / Nat.gcd a b ≤ b := Nat.div_le_self _ _
  have wN : ∀ q : Nat, q ≤ 1000000000000 → IntKind.i64.wrap (q : Int) = q := fun q hq => IntWalk.i64_in _ (by omega)
  have w1 : IntKind.i64.wrap ((a / Nat.gcd a b : Nat) : Int) = ((a / Nat.gcd a b : Nat) : Int) := wN _ (Nat.le_trans q1 ha)
  have w2 : IntKind.i64.wrap ((b / Nat.gcd a b : Nat) : Int) = ((b / Nat.gcd a b : Nat) : Int) := wN _ (Nat.le_trans q2 hb)
  rw [w1, w2]
  refine ⟨by omega, by omega, RetOK.go [] [] (.inl rfl) ?_⟩
  generalize a / Nat.gcd a b = q at *
  generalize b / Nat.gcd a b = r at *
  simp [a101, cvT, step, res]
end Go.Proofs.YtpifoghhaohhaaaGreatDoor
namespace Go.Proofs.YtpifoghhaohhaaaGreatDoor
open Go.RowKit Go.Shelf Go.Lib
theorem grpD_len {G : List (List UInt8)} {R : RowL} {T : List Int} : 1 ≤ (grpD G R T).length ∧ (grpD G R T).length ≤ R.length + 1 := by
  unfold grpD
  rw [grps_len]
  refine ⟨?_, fsts_len _⟩
  obtain ⟨f, hf, _⟩ := fsts_has (K := keyD G R T) (R.length + 1) 0 (by omega)
  exact List.length_pos_of_mem hf
theorem groupsBad_c (g0 r0 : Bool) (b : Nat → Bool) (G : List (List UInt8)) (R : RowL) (nl : Bool) (T : List Int) (nid : Nat) (hB : DictW G R) (hT : T.length ≤ 1000000) (hV : bothTV G R T ≠ 0) :
    ACall Tryz.prog 19 [dictP g0 r0 b G R, litI nl T] [] nid (.tup [.lit true 0 [], .int .i64 (bothTV G R T)]) [] := by
  have hd := fun m => tstD_c g0 r0 b G R nl T m hB hT
  refine acall_sr c19 (by simp [a19]) ?_
  unfold a19 dictP litI at *
  refine SR.run (t := .mk) ?_
  simp -dsimp only [aqT, aqU, aqN, aqS, ↓seqK, ↓blkK, ↓loopK, step, stepBin, Nat.add_assoc nid, ↓reduceIte, Option.toList, ← Int.ofNat_tmod, ← Int.ofNat_tdiv, simprocAttr, BEq.rfl, LN_succ]
  refine CallO.pure (hd _) ?_
  simp -dsimp only [aqT, aqU, aqN, aqS, ↓seqK, ↓blkK, ↓loopK, step, stepBin, Nat.add_assoc nid, ↓reduceIte, Option.toList, ← Int.ofNat_tmod, ← Int.ofNat_tdiv, simprocAttr, BEq.rfl, LN_succ]
  refine S2.yes (by simpa using hV) ?_
  simp -dsimp only [aqT, aqU, aqN, aqS, ↓seqK, ↓blkK, ↓loopK, step, stepBin, Nat.add_assoc nid, ↓reduceIte, Option.toList, ← Int.ofNat_tmod, ← Int.ofNat_tdiv, simprocAttr, BEq.rfl, LN_succ]
  refine RetOK.pure (.inl rfl) rfl ?_
  simp [cvT, step, res]
theorem bothT_zero {G : List (List UInt8)} {R : RowL} {T : List Int} (hD : dictV G R = 0) (hT : tstV G.length T = 0) : bothTV G R T = 0 := by
  unfold bothTV; rw [if_neg (by simp [hD]), hT]
theorem groupsOk_c (g0 r0 : Bool) (b : Nat → Bool) (G : List (List UInt8)) (R : RowL) (nl : Bool) (T : List Int) (nid : Nat) (hB : DictW G R) (hr : R.length ≤ 7) (hD : dictV G R = 0) (hT : tstV G.length T = 0) :
    ACall Tryz.prog 19 [dictP g0 r0 b G R, litI nl T] [] nid (.tup [.sl nid 0 (grpD G R T).length, .int .i64 0]) [(nid, arrG (grpD G R T))] := by
  obtain ⟨hTl, hTi⟩ := tstV_in hT
  have hd := fun m => tstD_c g0 r0 b G R nl T m hB (by omega)
  rw [bothT_zero hD hT] at hd
  have hg := fun m => groups_c g0 r0 b G R nl T m hB hD hr (by omega) hTi
  generalize grpD G R T = gs at *
  refine acall_sr c19 (by simp [a19]) ?_
  unfold a19 dictP litI at *
  unfold arrG at *
  refine SR.run (t := .mk) ?_
  simp -dsimp only [aqT, aqU, aqN, aqS, ↓seqK, ↓blkK, ↓loopK, step, stepBin, Nat.add_assoc nid, ↓reduceIte, Option.toList, ← Int.ofNat_tmod, ← Int.ofNat_tdiv, simprocAttr, BEq.rfl, LN_succ]
  refine CallO.pure (hd _) ?_
  simp -dsimp only [aqT, aqU, aqN, aqS, ↓seqK, ↓blkK, ↓loopK, step, stepBin, Nat.add_assoc nid, ↓reduceIte, Option.toList, ← Int.ofNat_tmod, ← Int.ofNat_tdiv, simprocAttr, BEq.rfl, LN_succ]
  refine CallO.pure (hg _) ?_
  simp -dsimp only [aqT, aqU, aqN, aqS, ↓seqK, ↓blkK, ↓loopK, step, stepBin, Nat.add_assoc nid, ↓reduceIte, Option.toList, ← Int.ofNat_tmod, ← Int.ofNat_tdiv, simprocAttr, BEq.rfl, LN_succ]
  refine RetOK.go [(nid, nid + 44)] [] (.inl rfl) ?_
  simp [a19, cvT, step, res, ColsEq.refl, -List.getD_eq_getElem?_getD]
def resF (G : List (List UInt8)) (R : RowL) (T : List Int) : Nat × Nat × Bool :=
  if R.length = 0 then (0, 0, false) else (((grpD G R T).length - 1) / Nat.gcd ((grpD G R T).length - 1) R.length, R.length / Nat.gcd ((grpD G R T).length - 1) R.length, true)
def resP (x : Nat × Nat × Bool) : PV := .agg [.int .i64 (x.1 : Nat), .int .i64 (x.2.1 : Nat)]
theorem resBad_c (g0 r0 : Bool) (b : Nat → Bool) (G : List (List UInt8)) (R : RowL) (nl : Bool) (T : List Int) (nid : Nat) (hB : DictW G R) (hT : T.length ≤ 1000000) (hV : bothTV G R T ≠ 0) :
    ACall Tryz.prog 20 [dictP g0 r0 b G R, litI nl T] [] nid (.tup [.agg [.int .i64 0, .int .i64 0], .bool false, .int .i64 (bothTV G R T)]) [] := by
  have hd := fun m => tstD_c g0 r0 b G R nl T m hB hT
  refine acall_sr c20 (by simp [a20]) ?_
  unfold a20 dictP litI at *
  refine SR.run (t := .mk) ?_
  simp -dsimp only [aqT, aqU, aqN, aqS, ↓seqK, ↓blkK, ↓loopK, step, stepBin, Nat.add_assoc nid, ↓reduceIte, Option.toList, ← Int.ofNat_tmod, ← Int.ofNat_tdiv, simprocAttr, BEq.rfl, LN_succ]
  refine CallO.pure (hd _) ?_
  simp -dsimp only [aqT, aqU, aqN, aqS, ↓seqK, ↓blkK, ↓loopK, step, stepBin, Nat.add_assoc nid, ↓reduceIte, Option.toList, ← Int.ofNat_tmod, ← Int.ofNat_tdiv, simprocAttr, BEq.rfl, LN_succ]
  refine S2.yes (by simpa using hV) ?_
  simp -dsimp only [aqT, aqU, aqN, aqS, ↓seqK, ↓blkK, ↓loopK, step, stepBin, Nat.add_assoc nid, ↓reduceIte, Option.toList, ← Int.ofNat_tmod, ← Int.ofNat_tdiv, simprocAttr, BEq.rfl, LN_succ]
  refine RetOK.go [] [] (.inl rfl) ?_
  simp [a20, cvT, step, res]
set_option maxHeartbeats 2000000 in
theorem resOk_c (g0 r0 : Bool) (b : Nat → Bool) (G : List (List UInt8)) (R : RowL) (nl : Bool) (T : List Int) (nid : Nat) (hB : DictW G R) (hr : R.length ≤ 7) (hD : dictV G R = 0) (hT : tstV G.length T = 0) :
    ACall Tryz.prog 20 [dictP g0 r0 b G R, litI nl T] [] nid (.tup [resP (resF G R T), .bool (resF G R T).2.2, .int .i64 0]) [] := by
  obtain ⟨hTl, hTi⟩ := tstV_in hT
  have hd := fun m => tstD_c g0 r0 b G R nl T m hB (by omega)
  rw [bothT_zero hD hT] at hd
  have hg := fun m => groups_c g0 r0 b G R nl T m hB hD hr (by omega) hTi
  obtain ⟨l1, l2⟩ := grpD_len (G := G) (R := R) (T := T)
  unfold resF
  generalize grpD G R T = gs at *
  refine acall_sr c20 (by simp [a20]) ?_
  unfold a20 dictP litI at *
  unfold arrG at *
  refine SR.seq ?_
  simp -dsimp only [aqT, aqU, aqN, aqS, ↓seqK, ↓blkK, ↓loopK, step, stepBin, Nat.add_assoc nid, ↓reduceIte, Option.toList, ← Int.ofNat_tmod, ← Int.ofNat_tdiv, simprocAttr, BEq.rfl, LN_succ]
  refine SR.seqTo ⟨[(1, litI nl T), (2, .ptr nid 0), (4, .ptr (nid + 4) 0)], [(nid, boxP2 g0 r0 b G R), (nid + 4, some (.box 41 [.int .i64 0, .int .i64 0]))], nid + 100, nid⟩ ?_ ?_
  · simp -dsimp only [aqT, aqU, aqN, aqS, ↓seqK, ↓blkK, ↓loopK, step, stepBin, Nat.add_assoc nid, ↓reduceIte, Option.toList, ← Int.ofNat_tmod, ← Int.ofNat_tdiv, simprocAttr, BEq.rfl, LN_succ]
    refine CallO.pure (hd _) ?_
    simp -dsimp only [aqT, aqU, aqN, aqS, ↓seqK, ↓blkK, ↓loopK, step, stepBin, Nat.add_assoc nid, ↓reduceIte, Option.toList, ← Int.ofNat_tmod, ← Int.ofNat_tdiv, simprocAttr, BEq.rfl, LN_succ]
    refine Cov.go [] [] ?_
    simp [cvT, step, res, boxP2, litI, ColsEq.refl, -List.getD_eq_getElem?_getD]
  unfold boxP2 litI
  refine SR.run (t := .mk) ?_
  simp -dsimp only [aqT, aqU, aqN, aqS, ↓seqK, ↓blkK, ↓loopK, step, stepBin, Nat.add_assoc nid, ↓reduceIte, Option.toList, ← Int.ofNat_tmod, ← Int.ofNat_tdiv, simprocAttr, BEq.rfl, LN_succ]
  refine S2.intro (fun h => ?_) (fun h => ?_) <;> simp -dsimp only [aqT, aqU, aqN, aqS, ↓seqK, ↓blkK, ↓loopK, step, stepBin, Nat.add_assoc nid, ↓reduceIte, Option.toList, ← Int.ofNat_tmod, ← Int.ofNat_tdiv, simprocAttr, BEq.rfl, LN_succ]
  · have h0 : R.length = 0 := by simpa using h
    rw [if_pos h0]
    refine RetOK.go [] [] (.inl rfl) ?_
    simp [a20, cvT, step, res, resP]
  · have h0 : R.length ≠ 0 := by simpa using h
    have hf := fun q => frac_c (gs.length - 1) R.length q (by omega) (by omega) (by omega)
    rw [if_neg h0]
    have e1 : (((gs.length : Nat) : Int) - 1) = ((gs.length - 1 : Nat) : Int) := by omega
    refine CallX.pure (hg _) ?_
    simp -dsimp only [aqT, aqU, aqN, aqS, ↓seqK, ↓blkK, ↓loopK, step, stepBin, Nat.add_assoc nid, ↓reduceIte, Option.toList, ← Int.ofNat_tmod, ← Int.ofNat_tdiv, simprocAttr, BEq.rfl, LN_succ]
    rw [e1]
    refine ⟨by unfold inI64; omega, CallX.pure (hf _) ?_⟩
    simp -dsimp only [aqT, aqU, aqN, aqS, ↓seqK, ↓blkK, ↓loopK, step, stepBin, Nat.add_assoc nid, ↓reduceIte, Option.toList, ← Int.ofNat_tmod, ← Int.ofNat_tdiv, simprocAttr, BEq.rfl, LN_succ]
    refine RetOK.go [] [] (.inl rfl) ?_
    simp [a20, cvT, step, res, resP]
set_option maxHeartbeats 2000000 in
theorem resOf_c (g0 r0 : Bool) (b : Nat → Bool) (G : List (List UInt8)) (R : RowL) (nl : Bool) (T : List Int) (nid : Nat) (hB : DictW G R) (hr : R.length ≤ 7) (hD : dictV G R = 0) (hT : tstV G.length T = 0) :
    ACall Tryz.prog 27 [dictP g0 r0 b G R, litI nl T] [] nid (.tup [resP (resF G R T), .bool (resF G R T).2.2]) [] := by
  obtain ⟨hTl, hTi⟩ := tstV_in hT
  have hg := fun m => groupsOf_c g0 r0 b G R nl T m hB hD hr (by omega) hTi
  obtain ⟨l1, l2⟩ := grpD_len (G := G) (R := R) (T := T)
  unfold resF
  generalize grpD G R T = gs at *
  refine acall_sr c27 (by simp [a27]) ?_
  unfold a27 dictP litI at *
  unfold arrG at *
  refine SR.run (t := .mk) ?_
  simp -dsimp only [aqT, aqU, aqN, aqS, ↓seqK, ↓blkK, ↓loopK, step, stepBin, Nat.add_assoc nid, ↓reduceIte, Option.toList, ← Int.ofNat_tmod, ← Int.ofNat_tdiv, simprocAttr, BEq.rfl, LN_succ]
  refine S2.intro (fun h => ?_) (fun h => ?_) <;> simp -dsimp only [aqT, aqU, aqN, aqS, ↓seqK, ↓blkK, ↓loopK, step, stepBin, Nat.add_assoc nid, ↓reduceIte, Option.toList, ← Int.ofNat_tmod, ← Int.ofNat_tdiv, simprocAttr, BEq.rfl, LN_succ]
  · have h0 : R.length = 0 := by simpa using h
    rw [if_pos h0]
    refine RetOK.go [] [] (.inl rfl) ?_
    simp [a27, cvT, step, res, resP]
  · have h0 : R.length ≠ 0 := by simpa using h
    have hf := fun q => fracR_c (gs.length - 1) R.length q (by omega) (by omega) (by omega)
    rw [if_neg h0]
    have e1 : (((gs.length : Nat) : Int) - 1) = ((gs.length - 1 : Nat) : Int) := by omega
    refine CallX.pure (hg _) ?_
    simp -dsimp only [aqT, aqU, aqN, aqS, ↓seqK, ↓blkK, ↓loopK, step, stepBin, Nat.add_assoc nid, ↓reduceIte, Option.toList, ← Int.ofNat_tmod, ← Int.ofNat_tdiv, simprocAttr, BEq.rfl, LN_succ]
    rw [e1]
    refine ⟨by unfold inI64; omega, CallX.pure (hf _) ?_⟩
    simp -dsimp only [aqT, aqU, aqN, aqS, ↓seqK, ↓blkK, ↓loopK, step, stepBin, Nat.add_assoc nid, ↓reduceIte, Option.toList, ← Int.ofNat_tmod, ← Int.ofNat_tdiv, simprocAttr, BEq.rfl, LN_succ]
    refine RetOK.go [] [] (.inl rfl) ?_
    simp [a27, cvT, step, res, resP]
end Go.Proofs.YtpifoghhaohhaaaGreatDoor
namespace Go.Proofs.YtpifoghhaohhaaaGreatDoor
open Go.RowKit Go.Shelf Go.Lib
theorem dictNN {f : Nat} {az : List PV} {Hs : Heap} {nid : Nat} {r : PV} {u : Heap} (i : Nat) {g0 r0 : Bool} {b : Nat → Bool} {G : List (List UInt8)} {R : RowL} (hi : az[i]? = some (dictP g0 r0 b G R))
    (h : (∀ k, k < R.length → 0 < (rowR R k).length → b k = false) → ACall Tryz.prog f az Hs nid r u) : ACall Tryz.prog f az Hs nid r u := fun C vs hb hl hr hs => by
  have hlt : i < vs.length := by rw [hl]; exact (List.getElem?_eq_some_iff.1 hi).1
  have hrep := hr i _ vs[i] hi (List.getElem?_eq_getElem hlt)
  unfold dictP at hrep
  refine h (fun k hk hp => ?_) C vs hb hl hr hs
  generalize vs[i] = v at hrep
  cases hrep with
  | agg hl2 h2 h3 =>
    rename_i ws
    have hw : 1 < ws.length := by rw [hl2]; simp
    obtain ⟨A, cap, uu, e1, e2, e3, e4, e5, e6⟩ := (h2 1 _ ws[1] rfl (List.getElem?_eq_getElem hw)).lit_inv
    have hc := e6 k 1 _ hk rfl
    generalize uu k 1 = x at hc
    cases hc with
    | l u2 hnl hn0 hle hcc hrr =>
      rename_i A2 cap2
      cases A2 with
      | none =>
        have h0 : (rowR R k).length = 0 := (hn0 rfl).1
        omega
      | some a => rw [hnl]; rfl
def ixR (R : RowL) (f : List UInt8) : Option Nat := (List.range R.length).find? fun k => rowF R k == f
theorem ixR_hit {R : RowL} {f : List UInt8} {k : Nat} (hk : k < R.length) (h0 : ∀ j, j < k → (rowF R j == f) = false) (h : (rowF R k == f) = true) : ixR R f = some k := by
  unfold ixR
  rw [List.find?_range_eq_some]
  exact ⟨h, List.mem_range.2 hk, fun j hj => by rw [h0 j hj]; rfl⟩
theorem ixR_none {R : RowL} {f : List UInt8} (h0 : ∀ j, j < R.length → (rowF R j == f) = false) : ixR R f = none := by
  unfold ixR
  rw [List.find?_eq_none]
  intro j hj
  rw [h0 j (List.mem_range.1 hj)]
  simp
theorem ixR_lt {R : RowL} {f : List UInt8} {k : Nat} (h : ixR R f = some k) : k < R.length := by
  unfold ixR at h
  exact List.mem_range.1 (List.find?_range_eq_some.1 h).2.1
def rowPV (b : Nat → Bool) (R : RowL) : Option Nat → PV
  | some k => .lit (b k) (rowR R k).length [.s fun j => (rowR R k).getD j []]
  | none => .lit true 0 []
theorem row_c (g0 r0 : Bool) (b : Nat → Bool) (G : List (List UInt8)) (R : RowL) (f : List UInt8) (nid : Nat) (hR : R.length ≤ 1000000) : ACall Tryz.prog 95 [dictP g0 r0 b G R, .str f] [] nid (rowPV b R (ixR R f)) [] := by
  refine acall_run c95 (by simp [a95]) ?_
  unfold dictP
  simp -dsimp only [aqT, aqU, aqN, aqS, ↓seqK, ↓blkK, ↓loopK, step, stepBin, Nat.add_assoc nid, ↓reduceIte, Option.toList, ← Int.ofNat_tmod, ← Int.ofNat_tdiv, simprocAttr, BEq.rfl, LN_succ, a95]
  refine LP.mkP (fun k : Nat => k ≤ R.length ∧ ∀ j, j < k → (rowF R j == f) = false) (fun k => ⟨[(10, .int .i64 k), (9, .int .i64 R.length), (8, rowsP r0 b R), (1, .str f)], [], nid + 100, nid⟩) (fun k => R.length + 1 - k) 0 ⟨by omega, fun j hj => by omega⟩ (Cov.go [] [] ?_) (fun k hk => ?_)
  · simp [cvT, step, res, rowsP, ColsEq.refl, -List.getD_eq_getElem?_getD]
  obtain ⟨hk, hall⟩ := hk
  unfold rowsP
  simp -dsimp only [aqT, aqU, aqN, aqS, ↓seqK, ↓blkK, ↓loopK, step, stepBin, Nat.add_assoc nid, ↓reduceIte, Option.toList, ← Int.ofNat_tmod, ← Int.ofNat_tdiv, simprocAttr, BEq.rfl, LN_succ]
  refine S2.dec (fun h3 => ?_) (fun h3 => ?_) <;> simp -dsimp only [aqT, aqU, aqN, aqS, ↓seqK, ↓blkK, ↓loopK, step, stepBin, Nat.add_assoc nid, ↓reduceIte, Option.toList, ← Int.ofNat_tmod, ← Int.ofNat_tdiv, simprocAttr, BEq.rfl, LN_succ]
  · have hkl : k < R.length := by omega
    refine ⟨by omega, S2.intro (fun h4 => ?_) (fun h4 => ?_)⟩ <;> simp -dsimp only [aqT, aqU, aqN, aqS, ↓seqK, ↓blkK, ↓loopK, step, stepBin, Nat.add_assoc nid, ↓reduceIte, Option.toList, ← Int.ofNat_tmod, ← Int.ofNat_tdiv, simprocAttr, BEq.rfl, LN_succ]
    · rw [ixR_hit hkl hall h4]
      refine RetOK.go [] [] (.inl rfl) ?_
      simp [a95, cvT, step, res, rowPV, ColsEq.refl, -List.getD_eq_getElem?_getD]
    · refine ⟨by unfold inI64; omega, k + 1, ⟨⟨by omega, fun j hj => ?_⟩, by omega⟩, Cov.go [] [] ?_⟩
      · rcases (by omega : j < k ∨ j = k) with hj | hj
        · exact hall j hj
        · rw [hj]; exact h4
      simp [cvT, step, res, rowsP, ColsEq.refl, -List.getD_eq_getElem?_getD]
  · rw [ixR_none (fun j hj => hall j (by omega))]
    refine RetOK.go [] [] (.inl rfl) ?_
    simp [a95, cvT, step, res, rowPV]
def rowOP (b : Nat → Bool) (R : RowL) : Option Nat → PV
  | some k => .tup [.agg [.str (rowF R k), .lit (b k) (rowR R k).length [.s fun j => (rowR R k).getD j []]], .bool true]
  | none => .tup [.agg [.str [], .lit true 0 []], .bool false]
theorem rowOf_c (g0 r0 : Bool) (b : Nat → Bool) (G : List (List UInt8)) (R : RowL) (f : List UInt8) (nid : Nat) (hR : R.length ≤ 1000000) : ACall Tryz.prog 96 [dictP g0 r0 b G R, .str f] [] nid (rowOP b R (ixR R f)) [] := by
  refine acall_run c96 (by simp [a96]) ?_
  unfold dictP
  simp -dsimp only [aqT, aqU, aqN, aqS, ↓seqK, ↓blkK, ↓loopK, step, stepBin, Nat.add_assoc nid, ↓reduceIte, Option.toList, ← Int.ofNat_tmod, ← Int.ofNat_tdiv, simprocAttr, BEq.rfl, LN_succ, a96]
  refine LP.mkP (fun k : Nat => k ≤ R.length ∧ ∀ j, j < k → (rowF R j == f) = false) (fun k => ⟨[(11, .int .i64 k), (10, .int .i64 R.length), (9, rowsP r0 b R), (1, .str f), (4, .ptr (nid + 4) 0)], [(nid + 4, some (.box 67 [.str [], .lit true 0 []]))], nid + 100, nid⟩) (fun k => R.length + 1 - k) 0 ⟨by omega, fun j hj => by omega⟩ (Cov.go [] [] ?_) (fun k hk => ?_)
  · simp [cvT, step, res, rowsP, ColsEq.refl, -List.getD_eq_getElem?_getD]
  obtain ⟨hk, hall⟩ := hk
  unfold rowsP
  simp -dsimp only [aqT, aqU, aqN, aqS, ↓seqK, ↓blkK, ↓loopK, step, stepBin, Nat.add_assoc nid, ↓reduceIte, Option.toList, ← Int.ofNat_tmod, ← Int.ofNat_tdiv, simprocAttr, BEq.rfl, LN_succ]
  refine S2.dec (fun h3 => ?_) (fun h3 => ?_) <;> simp -dsimp only [aqT, aqU, aqN, aqS, ↓seqK, ↓blkK, ↓loopK, step, stepBin, Nat.add_assoc nid, ↓reduceIte, Option.toList, ← Int.ofNat_tmod, ← Int.ofNat_tdiv, simprocAttr, BEq.rfl, LN_succ]
  · have hkl : k < R.length := by omega
    refine ⟨by omega, S2.intro (fun h4 => ?_) (fun h4 => ?_)⟩ <;> simp -dsimp only [aqT, aqU, aqN, aqS, ↓seqK, ↓blkK, ↓loopK, step, stepBin, Nat.add_assoc nid, ↓reduceIte, Option.toList, ← Int.ofNat_tmod, ← Int.ofNat_tdiv, simprocAttr, BEq.rfl, LN_succ]
    · rw [ixR_hit hkl hall h4]
      refine RetOK.go [] [] (.inl rfl) ?_
      simp [a96, cvT, step, res, rowOP, ColsEq.refl, -List.getD_eq_getElem?_getD]
    · refine ⟨by unfold inI64; omega, k + 1, ⟨⟨by omega, fun j hj => ?_⟩, by omega⟩, Cov.go [] [] ?_⟩
      · rcases (by omega : j < k ∨ j = k) with hj | hj
        · exact hall j hj
        · rw [hj]; exact h4
      simp [cvT, step, res, rowsP, ColsEq.refl, -List.getD_eq_getElem?_getD]
  · rw [ixR_none (fun j hj => hall j (by omega))]
    refine RetOK.go [] [] (.inl rfl) ?_
    simp [a96, cvT, step, res, rowOP]
def dsP (R : RowL) (n nid : Nat) : Option Nat → Option Nat → PV
  | some i, some j => .tup [.sl nid 0 (detL (rowR R j) (rowR R i) n).length, .int .i64 0]
  | _, _ => .tup [.lit true 0 [], .int .i64 8]
def dsU (R : RowL) (n nid : Nat) : Option Nat → Option Nat → Heap
  | some i, some j => [(nid, arrI (detL (rowR R j) (rowR R i) n))]
  | _, _ => []
theorem distBad_c (g0 r0 : Bool) (b : Nat → Bool) (G : List (List UInt8)) (R : RowL) (x y : List UInt8) (nid : Nat) (hB : DictW G R) (hV : dictV G R ≠ 0) :
    ACall Tryz.prog 21 [dictP g0 r0 b G R, .str x, .str y] [] nid (.tup [.lit true 0 [], .int .i64 (dictV G R)]) [] := by
  have hd := fun m => dictD_c g0 r0 b G R m hB
  refine acall_sr c21 (by simp [a21]) ?_
  unfold a21 dictP at *
  refine SR.run (t := .mk) ?_
  simp -dsimp only [aqT, aqU, aqN, aqS, ↓seqK, ↓blkK, ↓loopK, step, stepBin, Nat.add_assoc nid, ↓reduceIte, Option.toList, ← Int.ofNat_tmod, ← Int.ofNat_tdiv, simprocAttr, BEq.rfl, LN_succ]
  refine CallO.pure (hd _) ?_
  simp -dsimp only [aqT, aqU, aqN, aqS, ↓seqK, ↓blkK, ↓loopK, step, stepBin, Nat.add_assoc nid, ↓reduceIte, Option.toList, ← Int.ofNat_tmod, ← Int.ofNat_tdiv, simprocAttr, BEq.rfl, LN_succ]
  refine S2.yes (by simpa using hV) ?_
  simp -dsimp only [aqT, aqU, aqN, aqS, ↓seqK, ↓blkK, ↓loopK, step, stepBin, Nat.add_assoc nid, ↓reduceIte, Option.toList, ← Int.ofNat_tmod, ← Int.ofNat_tdiv, simprocAttr, BEq.rfl, LN_succ]
  refine RetOK.pure (.inl rfl) rfl ?_
  simp [cvT, step, res]
set_option maxHeartbeats 4000000 in
theorem dist_c (g0 r0 : Bool) (b : Nat → Bool) (G : List (List UInt8)) (R : RowL) (x y : List UInt8) (nid : Nat) (hB : DictW G R) (hD : dictV G R = 0) :
    ACall Tryz.prog 21 [dictP g0 r0 b G R, .str x, .str y] [] nid (dsP R G.length nid (ixR R x) (ixR R y)) (dsU R G.length nid (ixR R x) (ixR R y)) := dictNN 0 rfl (fun hnn => by
  have hgl := hB.gl
  have hok := dict_ok hD
  have hlo := hok.lo
  have hlen := dictV_rows hD
  have hd := fun m => dictD_c g0 r0 b G R m hB
  rw [hD] at hd
  have hrx := fun m => row_c g0 r0 b G R x m hB.rl
  have hry := fun m => row_c g0 r0 b G R y m hB.rl
  have hix := fun i (h : ixR R x = some i) => ixR_lt h
  have hiy := fun i (h : ixR R y = some i) => ixR_lt h
  refine acall_sr c21 (by simp [a21]) ?_
  unfold a21 dictP at *
  refine SR.seq ?_
  simp -dsimp only [aqT, aqU, aqN, aqS, ↓seqK, ↓blkK, ↓loopK, step, stepBin, Nat.add_assoc nid, ↓reduceIte, Option.toList, ← Int.ofNat_tmod, ← Int.ofNat_tdiv, simprocAttr, BEq.rfl, LN_succ]
  refine SR.seqTo ⟨[(1, .str x), (2, .str y), (3, .ptr nid 0)], [(nid, boxP2 g0 r0 b G R)], nid + 100, nid⟩ ?_ ?_
  · simp -dsimp only [aqT, aqU, aqN, aqS, ↓seqK, ↓blkK, ↓loopK, step, stepBin, Nat.add_assoc nid, ↓reduceIte, Option.toList, ← Int.ofNat_tmod, ← Int.ofNat_tdiv, simprocAttr, BEq.rfl, LN_succ]
    refine CallO.pure (hd _) ?_
    simp -dsimp only [aqT, aqU, aqN, aqS, ↓seqK, ↓blkK, ↓loopK, step, stepBin, Nat.add_assoc nid, ↓reduceIte, Option.toList, ← Int.ofNat_tmod, ← Int.ofNat_tdiv, simprocAttr, BEq.rfl, LN_succ]
    refine Cov.go [] [] ?_
    simp [cvT, step, res, boxP2, ColsEq.refl, -List.getD_eq_getElem?_getD]
  unfold boxP2
  refine SR.seqTo ⟨[(9, rowPV b R (ixR R x)), (10, rowPV b R (ixR R y))], [], nid + 200, nid⟩ ?_ ?_
  · simp -dsimp only [aqT, aqU, aqN, aqS, ↓seqK, ↓blkK, ↓loopK, step, stepBin, Nat.add_assoc nid, ↓reduceIte, Option.toList, ← Int.ofNat_tmod, ← Int.ofNat_tdiv, simprocAttr, BEq.rfl, LN_succ]
    refine CallX.pure (hrx _) ?_
    simp -dsimp only [aqT, aqU, aqN, aqS, ↓seqK, ↓blkK, ↓loopK, step, stepBin, Nat.add_assoc nid, ↓reduceIte, Option.toList, ← Int.ofNat_tmod, ← Int.ofNat_tdiv, simprocAttr, BEq.rfl, LN_succ]
    refine CallX.pure (hry _) ?_
    simp -dsimp only [aqT, aqU, aqN, aqS, ↓seqK, ↓blkK, ↓loopK, step, stepBin, Nat.add_assoc nid, ↓reduceIte, Option.toList, ← Int.ofNat_tmod, ← Int.ofNat_tdiv, simprocAttr, BEq.rfl, LN_succ]
    refine Cov.go [] [] ?_
    cases ixR R x <;> cases ixR R y <;> simp [cvT, step, res, rowPV, ColsEq.refl, -List.getD_eq_getElem?_getD]
  clear hrx hry hd
  cases hx : ixR R x with
  | none =>
    simp only [rowPV, dsP, dsU]
    refine SR.run (t := .mk) ?_
    simp -dsimp only [aqT, aqU, aqN, aqS, ↓seqK, ↓blkK, ↓loopK, step, stepBin, Nat.add_assoc nid, ↓reduceIte, Option.toList, ← Int.ofNat_tmod, ← Int.ofNat_tdiv, simprocAttr, BEq.rfl, LN_succ]
    refine RetOK.go [] [] (.inl rfl) ?_
    simp [a21, cvT, step, res]
  | some i =>
    have hi := hix i hx
    have hbi := hnn i hi (by rw [hlen i hi]; exact hlo)
    cases hy : ixR R y with
    | none =>
      simp only [rowPV, dsP, dsU, hbi]
      refine SR.run (t := .mk) ?_
      simp -dsimp only [aqT, aqU, aqN, aqS, ↓seqK, ↓blkK, ↓loopK, step, stepBin, Nat.add_assoc nid, ↓reduceIte, Option.toList, ← Int.ofNat_tmod, ← Int.ofNat_tdiv, simprocAttr, BEq.rfl, LN_succ]
      refine RetOK.go [] [] (.inl rfl) ?_
      simp [a21, cvT, step, res]
    | some j =>
      have hj := hiy j hy
      have hbj := hnn j hj (by rw [hlen j hj]; exact hlo)
      have hli := hlen i hi
      have hlj := hlen j hj
      simp only [rowPV, dsP, dsU, hbi, hbj]
      rw [← hli]
      generalize hA : rowR R i = A at *
      generalize hBB : rowR R j = B at *
      refine SR.seqTo ⟨[(9, .lit false A.length [.s fun j => A.getD j []]), (10, .lit false B.length [.s fun j => B.getD j []])], [], nid + 300, nid⟩ ?_ ?_
      · simp -dsimp only [aqT, aqU, aqN, aqS, ↓seqK, ↓blkK, ↓loopK, step, stepBin, Nat.add_assoc nid, ↓reduceIte, Option.toList, ← Int.ofNat_tmod, ← Int.ofNat_tdiv, simprocAttr, BEq.rfl, LN_succ]
        refine Cov.go [] [] ?_
        simp [cvT, step, res, ColsEq.refl, -List.getD_eq_getElem?_getD]
      refine SR.seq ?_
      simp -dsimp only [aqT, aqU, aqN, aqS, ↓seqK, ↓blkK, ↓loopK, step, stepBin, Nat.add_assoc nid, ↓reduceIte, Option.toList, ← Int.ofNat_tmod, ← Int.ofNat_tdiv, simprocAttr, BEq.rfl, LN_succ]
      refine SR.run (t := .mk) ?_
      simp -dsimp only [aqT, aqU, aqN, aqS, ↓seqK, ↓blkK, ↓loopK, step, stepBin, Nat.add_assoc nid, ↓reduceIte, Option.toList, ← Int.ofNat_tmod, ← Int.ofNat_tdiv, simprocAttr, BEq.rfl, LN_succ]
      refine LP.mkP (fun k : Nat => k ≤ A.length) (fun k => ⟨[(32, .int .i64 k), (31, .int .i64 A.length), (9, .lit false A.length [.s fun j => A.getD j []]), (10, .lit false B.length [.s fun j => B.getD j []]), (11, .sl (nid + 8) 0 (detL B A k).length)], [(nid + 8, arrI (detL B A k))], nid + 400, nid⟩) (fun k => A.length + 1 - k) 0 (by omega) (Cov.go [] [(nid + 8, 1)] ?_) (fun k hk => ?_)
      · simp [cvT, step, res, arrI, detL, ColsEq.refl, -List.getD_eq_getElem?_getD]
      have hsu := detL_succ B A k
      have hle := detL_len B A k
      have hen : k = A.length → detL B A A.length = detL B A k := fun e => by rw [e]
      generalize detL B A k = V at *
      unfold arrI
      simp -dsimp only [aqT, aqU, aqN, aqS, ↓seqK, ↓blkK, ↓loopK, step, stepBin, Nat.add_assoc nid, ↓reduceIte, Option.toList, ← Int.ofNat_tmod, ← Int.ofNat_tdiv, simprocAttr, BEq.rfl, LN_succ]
      refine S2.dec (fun h3 => ?_) (fun h3 => ?_) <;> simp -dsimp only [aqT, aqU, aqN, aqS, ↓seqK, ↓blkK, ↓loopK, step, stepBin, Nat.add_assoc nid, ↓reduceIte, Option.toList, ← Int.ofNat_tmod, ← Int.ofNat_tdiv, simprocAttr, BEq.rfl, LN_succ]
      · have hkl : k < A.length := by omega
        refine ⟨by omega, by omega, ?_⟩
        have eo : (!(A.getD k [] == B.getD k [])) = detB B A (k : Nat) := rfl
        rw [eo]
        cases h6 : detB B A (k : Nat) <;> rw [h6] at hsu <;> simp -dsimp only [aqT, aqU, aqN, aqS, ↓seqK, ↓blkK, ↓loopK, step, stepBin, Nat.add_assoc nid, ↓reduceIte, Option.toList, ← Int.ofNat_tmod, ← Int.ofNat_tdiv, simprocAttr, BEq.rfl, LN_succ]
        · rw [if_neg (by simp)] at hsu
          refine ⟨by unfold inI64; omega, k + 1, ⟨by omega, by omega⟩, Cov.go [] [] ?_⟩
          rw [hsu]
          simp [cvT, step, res, arrI, ColsEq.refl, -List.getD_eq_getElem?_getD]
        · rw [if_pos rfl] at hsu
          rw [getD_appI]
          refine ⟨⟨by omega, by omega⟩, by unfold inI64; omega, k + 1, ⟨by omega, by omega⟩, Cov.go [(nid + 8, nid + 460)] [] ?_⟩
          simp only [hsu]
          simp [cvT, step, res, arrI, ColsEq.refl, -List.getD_eq_getElem?_getD, -List.length_append]
          try simp
      · rw [hen (by omega)]
        refine RetOK.go [(nid, nid + 8)] [] (.inl rfl) ?_
        simp [a21, cvT, step, res, arrI, ColsEq.refl, -List.getD_eq_getElem?_getD])
theorem dif1 (A B : List (List UInt8)) (t : Int) : difB A B [t] = detB B A t := by simp [difB, detB]
set_option maxHeartbeats 4000000 in
theorem distR_c (g0 r0 : Bool) (b : Nat → Bool) (G : List (List UInt8)) (R : RowL) (x y : List UInt8) (nid : Nat) (hB : DictW G R) (hD : dictV G R = 0) :
    ACall Tryz.prog 22 [dictP g0 r0 b G R, .str x, .str y] [] nid (dsP R G.length nid (ixR R x) (ixR R y)) (dsU R G.length nid (ixR R x) (ixR R y)) := by
  have hgl := hB.gl
  have hlen := dictV_rows hD
  have hrx := fun m => rowOf_c g0 r0 b G R x m hB.rl
  have hry := fun m => rowOf_c g0 r0 b G R y m hB.rl
  have hix := fun i (h : ixR R x = some i) => ixR_lt h
  have hiy := fun i (h : ixR R y = some i) => ixR_lt h
  refine acall_sr c22 (by simp [a22]) ?_
  unfold a22 dictP at *
  cases hx : ixR R x with
  | none =>
    rw [hx] at hrx
    simp only [rowOP] at hrx
    refine SR.seq ?_
    simp -dsimp only [aqT, aqU, aqN, aqS, ↓seqK, ↓blkK, ↓loopK, step, stepBin, Nat.add_assoc nid, ↓reduceIte, Option.toList, ← Int.ofNat_tmod, ← Int.ofNat_tdiv, simprocAttr, BEq.rfl, LN_succ]
    refine SR.seqTo ⟨[(9, .bool false), (2, .str y), (3, .ptr nid 0)], [(nid, boxP2 g0 r0 b G R)], nid + 100, nid⟩ ?_ ?_
    · simp -dsimp only [aqT, aqU, aqN, aqS, ↓seqK, ↓blkK, ↓loopK, step, stepBin, Nat.add_assoc nid, ↓reduceIte, Option.toList, ← Int.ofNat_tmod, ← Int.ofNat_tdiv, simprocAttr, BEq.rfl, LN_succ]
      refine CallO.pure (hrx _) ?_
      simp -dsimp only [aqT, aqU, aqN, aqS, ↓seqK, ↓blkK, ↓loopK, step, stepBin, Nat.add_assoc nid, ↓reduceIte, Option.toList, ← Int.ofNat_tmod, ← Int.ofNat_tdiv, simprocAttr, BEq.rfl, LN_succ]
      refine Cov.go [] [] ?_
      simp [cvT, step, res, boxP2, ColsEq.refl, -List.getD_eq_getElem?_getD]
    unfold boxP2
    have e1 : dsP R G.length nid none (ixR R y) = .tup [.lit true 0 [], .int .i64 8] := by cases ixR R y <;> rfl
    have e2 : dsU R G.length nid none (ixR R y) = [] := by cases ixR R y <;> rfl
    rw [e1, e2]
    cases hy : ixR R y <;> rw [hy] at hry <;> simp only [rowOP] at hry
    all_goals
      refine SR.run (t := .mk) ?_
      simp -dsimp only [aqT, aqU, aqN, aqS, ↓seqK, ↓blkK, ↓loopK, step, stepBin, Nat.add_assoc nid, ↓reduceIte, Option.toList, ← Int.ofNat_tmod, ← Int.ofNat_tdiv, simprocAttr, BEq.rfl, LN_succ]
      refine CallO.pure (hry _) ?_
      simp -dsimp only [aqT, aqU, aqN, aqS, ↓seqK, ↓blkK, ↓loopK, step, stepBin, Nat.add_assoc nid, ↓reduceIte, Option.toList, ← Int.ofNat_tmod, ← Int.ofNat_tdiv, simprocAttr, BEq.rfl, LN_succ]
      refine RetOK.go [] [] (.inl rfl) ?_
      simp [a22, cvT, step, res]
  | some i =>
    have hi := hix i hx
    rw [hx] at hrx
    simp only [rowOP] at hrx
    refine SR.seq ?_
    simp -dsimp only [aqT, aqU, aqN, aqS, ↓seqK, ↓blkK, ↓loopK, step, stepBin, Nat.add_assoc nid, ↓reduceIte, Option.toList, ← Int.ofNat_tmod, ← Int.ofNat_tdiv, simprocAttr, BEq.rfl, LN_succ]
    refine SR.seqTo ⟨[(8, .ptr (nid + 4) 0), (9, .bool true), (2, .str y), (3, .ptr nid 0)], [(nid + 4, boxRw (rowF R i) (b i) (rowR R i)), (nid, boxP2 g0 r0 b G R)], nid + 100, nid⟩ ?_ ?_
    · simp -dsimp only [aqT, aqU, aqN, aqS, ↓seqK, ↓blkK, ↓loopK, step, stepBin, Nat.add_assoc nid, ↓reduceIte, Option.toList, ← Int.ofNat_tmod, ← Int.ofNat_tdiv, simprocAttr, BEq.rfl, LN_succ]
      refine CallO.pure (hrx _) ?_
      simp -dsimp only [aqT, aqU, aqN, aqS, ↓seqK, ↓blkK, ↓loopK, step, stepBin, Nat.add_assoc nid, ↓reduceIte, Option.toList, ← Int.ofNat_tmod, ← Int.ofNat_tdiv, simprocAttr, BEq.rfl, LN_succ]
      refine Cov.go [(nid + 4, nid + 36)] [] ?_
      simp [cvT, step, res, boxP2, boxRw, ColsEq.refl, -List.getD_eq_getElem?_getD]
    unfold boxP2 boxRw
    cases hy : ixR R y with
    | none =>
      rw [hy] at hry
      simp only [rowOP] at hry
      simp only [dsP, dsU]
      refine SR.run (t := .mk) ?_
      simp -dsimp only [aqT, aqU, aqN, aqS, ↓seqK, ↓blkK, ↓loopK, step, stepBin, Nat.add_assoc nid, ↓reduceIte, Option.toList, ← Int.ofNat_tmod, ← Int.ofNat_tdiv, simprocAttr, BEq.rfl, LN_succ]
      refine CallO.pure (hry _) ?_
      simp -dsimp only [aqT, aqU, aqN, aqS, ↓seqK, ↓blkK, ↓loopK, step, stepBin, Nat.add_assoc nid, ↓reduceIte, Option.toList, ← Int.ofNat_tmod, ← Int.ofNat_tdiv, simprocAttr, BEq.rfl, LN_succ]
      refine RetOK.go [] [] (.inl rfl) ?_
      simp [a22, cvT, step, res]
    | some j =>
      have hj := hiy j hy
      have hli := hlen i hi
      have hlj := hlen j hj
      rw [hy] at hry
      simp only [rowOP] at hry
      simp only [dsP, dsU]
      generalize hA : rowR R i = A at *
      generalize hBB : rowR R j = B at *
      refine SR.seqTo ⟨[(8, .ptr (nid + 4) 0), (10, .ptr (nid + 12) 0), (9, .bool true), (11, .bool true), (3, .ptr nid 0)], [(nid + 4, boxRw (rowF R i) (b i) A), (nid + 12, boxRw (rowF R j) (b j) B), (nid, boxP2 g0 r0 b G R)], nid + 200, nid⟩ ?_ ?_
      · simp -dsimp only [aqT, aqU, aqN, aqS, ↓seqK, ↓blkK, ↓loopK, step, stepBin, Nat.add_assoc nid, ↓reduceIte, Option.toList, ← Int.ofNat_tmod, ← Int.ofNat_tdiv, simprocAttr, BEq.rfl, LN_succ]
        refine CallO.pure (hry _) ?_
        simp -dsimp only [aqT, aqU, aqN, aqS, ↓seqK, ↓blkK, ↓loopK, step, stepBin, Nat.add_assoc nid, ↓reduceIte, Option.toList, ← Int.ofNat_tmod, ← Int.ofNat_tdiv, simprocAttr, BEq.rfl, LN_succ]
        refine Cov.go [(nid + 12, nid + 124)] [] ?_
        simp [cvT, step, res, boxP2, boxRw, ColsEq.refl, -List.getD_eq_getElem?_getD]
      unfold boxRw boxP2
      refine SR.seqTo ⟨[(8, .ptr (nid + 4) 0), (10, .ptr (nid + 12) 0), (3, .ptr nid 0)], [(nid + 4, boxRw (rowF R i) (b i) A), (nid + 12, boxRw (rowF R j) (b j) B), (nid, boxP2 g0 r0 b G R)], nid + 300, nid⟩ ?_ ?_
      · simp -dsimp only [aqT, aqU, aqN, aqS, ↓seqK, ↓blkK, ↓loopK, step, stepBin, Nat.add_assoc nid, ↓reduceIte, Option.toList, ← Int.ofNat_tmod, ← Int.ofNat_tdiv, simprocAttr, BEq.rfl, LN_succ]
        refine Cov.go [] [] ?_
        simp [cvT, step, res, boxP2, boxRw, ColsEq.refl, -List.getD_eq_getElem?_getD]
      unfold boxRw boxP2
      refine SR.seq ?_
      simp -dsimp only [aqT, aqU, aqN, aqS, ↓seqK, ↓blkK, ↓loopK, step, stepBin, Nat.add_assoc nid, ↓reduceIte, Option.toList, ← Int.ofNat_tmod, ← Int.ofNat_tdiv, simprocAttr, BEq.rfl, LN_succ]
      refine SR.run (t := .mk) ?_
      simp -dsimp only [aqT, aqU, aqN, aqS, ↓seqK, ↓blkK, ↓loopK, step, stepBin, Nat.add_assoc nid, ↓reduceIte, Option.toList, ← Int.ofNat_tmod, ← Int.ofNat_tdiv, simprocAttr, BEq.rfl, LN_succ]
      refine LP.mkP (fun k : Nat => k ≤ G.length) (fun k => ⟨[(35, .int .i64 k), (34, .int .i64 G.length), (8, .ptr (nid + 4) 0), (10, .ptr (nid + 12) 0), (12, .sl (nid + 8) 0 (detL B A k).length)], [(nid + 8, arrI (detL B A k)), (nid + 4, boxRw (rowF R i) (b i) A), (nid + 12, boxRw (rowF R j) (b j) B)], nid + 400, nid⟩) (fun k => G.length + 1 - k) 0 (by omega) (Cov.go [] [(nid + 8, 1)] ?_) (fun k hk => ?_)
      · simp [cvT, step, res, arrI, boxRw, detL, ColsEq.refl, -List.getD_eq_getElem?_getD]
      have hsu := detL_succ B A k
      have hle := detL_len B A k
      have hen : k = G.length → detL B A G.length = detL B A k := fun e => by rw [e]
      generalize detL B A k = V at *
      unfold arrI boxRw
      simp -dsimp only [aqT, aqU, aqN, aqS, ↓seqK, ↓blkK, ↓loopK, step, stepBin, Nat.add_assoc nid, ↓reduceIte, Option.toList, ← Int.ofNat_tmod, ← Int.ofNat_tdiv, simprocAttr, BEq.rfl, LN_succ]
      refine S2.dec (fun h3 => ?_) (fun h3 => ?_) <;> simp -dsimp only [aqT, aqU, aqN, aqS, ↓seqK, ↓blkK, ↓loopK, step, stepBin, Nat.add_assoc nid, ↓reduceIte, Option.toList, ← Int.ofNat_tmod, ← Int.ofNat_tdiv, simprocAttr, BEq.rfl, LN_succ]
      · have hkl : k < G.length := by omega
        have hdf := fun n3 m => differAt_c (rowF R i) (rowF R j) (b i) (b j) A B n3 [(k : Int)] m (by omega) (by simp) (by intro t ht; simp at ht; subst ht; omega) (by intro t ht; simp at ht; subst ht; omega)
        rw [dif1] at hdf
        refine CallO.lent [nid + 424] (fun nl' => by
          simp only [lends, lend, noOs, aqT, aqU, aqN, aqS, ↓seqK, ↓blkK, ↓loopK, step, stepBin, Nat.add_assoc nid, ↓reduceIte, Option.toList, ← Int.ofNat_tmod, ← Int.ofNat_tdiv, simprocAttr, BEq.rfl, LN_succ]
          exact hdf _ _) rfl rfl (by simp [getH, idS1, idS2]) ?_
        simp -dsimp only [aqT, aqU, aqN, aqS, ↓seqK, ↓blkK, ↓loopK, step, stepBin, Nat.add_assoc nid, ↓reduceIte, Option.toList, ← Int.ofNat_tmod, ← Int.ofNat_tdiv, simprocAttr, BEq.rfl, LN_succ]
        cases h6 : detB B A (k : Nat) <;> rw [h6] at hsu <;> simp -dsimp only [aqT, aqU, aqN, aqS, ↓seqK, ↓blkK, ↓loopK, step, stepBin, Nat.add_assoc nid, ↓reduceIte, Option.toList, ← Int.ofNat_tmod, ← Int.ofNat_tdiv, simprocAttr, BEq.rfl, LN_succ]
        · rw [if_neg (by simp)] at hsu
          refine ⟨by unfold inI64; omega, k + 1, ⟨by omega, by omega⟩, Cov.go [] [] ?_⟩
          rw [hsu]
          simp [cvT, step, res, arrI, boxRw, ColsEq.refl, -List.getD_eq_getElem?_getD]
        · rw [if_pos rfl] at hsu
          rw [getD_appI]
          refine ⟨⟨by omega, by omega⟩, by unfold inI64; omega, k + 1, ⟨by omega, by omega⟩, Cov.go [(nid + 8, nid + 444)] [] ?_⟩
          simp only [hsu]
          simp [cvT, step, res, arrI, boxRw, ColsEq.refl, -List.getD_eq_getElem?_getD, -List.length_append]
          try simp
      · rw [hen (by omega)]
        refine RetOK.go [(nid, nid + 8)] [] (.inl rfl) ?_
        simp [a22, cvT, step, res, arrI, ColsEq.refl, -List.getD_eq_getElem?_getD]
end Go.Proofs.YtpifoghhaohhaaaGreatDoor
namespace Go.Proofs.YtpifoghhaohhaaaGreatDoor
open Go.RowKit Go.Lib
theorem getD_swp {l : List Int} {i k : Nat} (hi : i < l.length) (hk : k < l.length) :
    (fun j => if j = k then l.getD i 0 else if j = i then l.getD k 0 else l.getD j 0) = fun j => (swpL l i k).getD j 0 := by
  funext j
  unfold swpL
  simp only [List.getD_eq_getElem?_getD]
  by_cases h1 : j = k
  · subst h1
    rw [if_pos rfl, List.getElem?_set_self (by simpa using hk)]
    rfl
  · rw [if_neg h1, List.getElem?_set_ne (fun e => h1 e.symm)]
    by_cases h2 : j = i
    · subst h2
      rw [if_pos rfl, List.getElem?_set_self hi]
      rfl
    · rw [if_neg h2, List.getElem?_set_ne (fun e => h2 e.symm)]
theorem getD_appO (l : List Int) (x : Int) : (fun i => if i < l.length then l.getD i 0 else [x].getD (i - l.length) 0) = fun i => (l ++ [x]).getD i 0 := by
  funext i
  rw [List.getD_eq_getElem?_getD, List.getD_eq_getElem?_getD, List.getD_eq_getElem?_getD, List.getElem?_append]
  split <;> rfl
set_option maxHeartbeats 2000000 in
theorem order_c (s nid : Nat) (nl : Bool) (A : List Int) (p n : Nat) (h : s < nid) (hp : p ≤ 1099400000000) (hA : A.length ≤ 17592186044416) (hn : n ≤ 1000000) :
    ACall Tryz.prog 74 [.ptr s 0, .int .i64 (n : Nat)] [(s, strmC nl A p)] nid (.sl nid 0 n) [(nid, arrI (orderV A p n)), (s, strmC nl A (p + (n - 1)))] := by
  obtain ⟨e1, e2, e3, e4, e5, e6, e7, e8, e9⟩ := id_all h
  refine acall_sr c74 (by simp [a74]) ?_
  unfold a74
  refine SR.seq ?_
  simp -dsimp only [aqT, aqU, aqN, aqS, ↓seqK, ↓blkK, ↓loopK, step, stepBin, Nat.add_assoc nid, ↓reduceIte, Option.toList, ← Int.ofNat_tmod, ← Int.ofNat_tdiv, simprocAttr, BEq.rfl, LN_succ, e1, e2, e3, e4, e5, e6, e7, e8, e9]
  refine SR.seq ?_
  simp -dsimp only [aqT, aqU, aqN, aqS, ↓seqK, ↓blkK, ↓loopK, step, stepBin, Nat.add_assoc nid, ↓reduceIte, Option.toList, ← Int.ofNat_tmod, ← Int.ofNat_tdiv, simprocAttr, BEq.rfl, LN_succ, e1, e2, e3, e4, e5, e6, e7, e8, e9]
  refine SR.seqTo ⟨[(5, .sl (nid + 8) 0 n), (0, .ptr s 0), (1, .int .i64 (n : Nat))], [(nid + 8, arrI (rngL n)), (s, strmC nl A p)], nid + 200, nid⟩ ?_ ?_
  · simp -dsimp only [aqT, aqU, aqN, aqS, ↓seqK, ↓blkK, ↓loopK, step, stepBin, Nat.add_assoc nid, ↓reduceIte, Option.toList, ← Int.ofNat_tmod, ← Int.ofNat_tdiv, simprocAttr, BEq.rfl, LN_succ, e1, e2, e3, e4, e5, e6, e7, e8, e9]
    refine LP.mkP (fun k : Nat => k ≤ n) (fun k => ⟨[(10, .int .i64 k), (9, .int .i64 (n : Nat)), (5, .sl (nid + 8) 0 k), (0, .ptr s 0), (1, .int .i64 (n : Nat))], [(nid + 8, arrI (rngL k)), (s, strmC nl A p)], nid + 100, nid⟩) (fun k => n + 1 - k) 0 (by omega) (Cov.go [] [(nid + 8, 1)] ?_) (fun k hk => ?_)
    · simp [cvT, step, res, e1, e2, e3, e4, e5, e6, e7, e8, e9, strmC, arrI, rngL, -List.getD_eq_getElem?_getD]
    have hrl := rng_len k
    have happ := getD_appO (rngL k) (k : Int)
    rw [hrl, ← rng_succ] at happ
    unfold arrI
    simp -dsimp only [aqT, aqU, aqN, aqS, ↓seqK, ↓blkK, ↓loopK, step, stepBin, Nat.add_assoc nid, ↓reduceIte, Option.toList, ← Int.ofNat_tmod, ← Int.ofNat_tdiv, simprocAttr, BEq.rfl, LN_succ, e1, e2, e3, e4, e5, e6, e7, e8, e9]
    refine S2.dec (fun h3 => ?_) (fun h3 => ?_) <;> simp -dsimp only [aqT, aqU, aqN, aqS, ↓seqK, ↓blkK, ↓loopK, step, stepBin, Nat.add_assoc nid, ↓reduceIte, Option.toList, ← Int.ofNat_tmod, ← Int.ofNat_tdiv, simprocAttr, BEq.rfl, LN_succ, e1, e2, e3, e4, e5, e6, e7, e8, e9]
    · rw [happ]
      refine ⟨by omega, by unfold inI64; omega, k + 1, ⟨by omega, by omega⟩, Cov.go [(nid + 8, nid + 124)] [] ?_⟩
      simp [cvT, step, res, e1, e2, e3, e4, e5, e6, e7, e8, e9, strmC, arrI, rng_len, ColsEq.refl, -List.getD_eq_getElem?_getD]
    · obtain rfl : k = n := by omega
      refine Cov.go [] [] ?_
      simp [cvT, step, res, e1, e2, e3, e4, e5, e6, e7, e8, e9, strmC, arrI, rng_len, ColsEq.refl, -List.getD_eq_getElem?_getD]
  refine SR.seqTo ⟨[(5, .sl (nid + 8) 0 n)], [(nid + 8, arrI (orderV A p n)), (s, strmC nl A (p + (n - 1)))], nid + 600, nid⟩ ?_ ?_
  · unfold arrI
    simp -dsimp only [aqT, aqU, aqN, aqS, ↓seqK, ↓blkK, ↓loopK, step, stepBin, Nat.add_assoc nid, ↓reduceIte, Option.toList, ← Int.ofNat_tmod, ← Int.ofNat_tdiv, simprocAttr, BEq.rfl, LN_succ, e1, e2, e3, e4, e5, e6, e7, e8, e9]
    refine ⟨by unfold inI64; omega, ?_⟩
    refine LP.mkP (fun x : Nat × List Int => x.1 ≤ n - 1 ∧ x.2.length = n ∧ ordV A (n - 1 - x.1) (p + x.1) x.2 = orderV A p n) (fun x => ⟨[(7, .int .i64 ((n : Int) - 1 - (x.1 : Nat))), (5, .sl (nid + 8) 0 n), (0, .ptr s 0)], [(nid + 8, arrI x.2), (s, strmC nl A (p + x.1))], nid + 300, nid⟩) (fun x => n - x.1) (0, rngL n) ⟨by simp, rng_len n, by simp [orderV]⟩ (Cov.go [] [] ?_) (fun x hx => ?_)
    · simp [cvT, step, res, e1, e2, e3, e4, e5, e6, e7, e8, e9, strmC, arrI, rng_len, ColsEq.refl, -List.getD_eq_getElem?_getD]
    obtain ⟨k, l⟩ := x
    obtain ⟨hk, hl, ho⟩ := hx
    simp only at hk hl ho ⊢
    unfold arrI
    simp -dsimp only [aqT, aqU, aqN, aqS, ↓seqK, ↓blkK, ↓loopK, step, stepBin, Nat.add_assoc nid, ↓reduceIte, Option.toList, ← Int.ofNat_tmod, ← Int.ofNat_tdiv, simprocAttr, BEq.rfl, LN_succ, e1, e2, e3, e4, e5, e6, e7, e8, e9]
    refine S2.dec (fun h3 => ?_) (fun h3 => ?_) <;> simp -dsimp only [aqT, aqU, aqN, aqS, ↓seqK, ↓blkK, ↓loopK, step, stepBin, Nat.add_assoc nid, ↓reduceIte, Option.toList, ← Int.ofNat_tmod, ← Int.ofNat_tdiv, simprocAttr, BEq.rfl, LN_succ, e1, e2, e3, e4, e5, e6, e7, e8, e9]
    · obtain ⟨j, hj⟩ : ∃ j, n - 1 - k = j + 1 := ⟨n - 1 - k - 1, by omega⟩
      have ej : ((n : Int) - 1 - (k : Nat)) = ((j + 1 : Nat) : Int) := by omega
      have hnd := nextV_bd A (p + k) (n := ((j : Nat) : Int) + 2) (by omega)
      rw [ej]
      have e2' : (((j + 1 : Nat) : Int) + 1) = ((j : Nat) : Int) + 2 := by omega
      rw [e2']
      refine ⟨by unfold inI64; omega, ?_⟩
      refine CallO.on (next_c s _ nl A (p + k) _ (by omega) (by omega) hA (by omega)) (subH_get (by simp only [aqT, aqU, aqN, aqS, ↓seqK, ↓blkK, ↓loopK, step, stepBin, Nat.add_assoc nid, ↓reduceIte, Option.toList, ← Int.ofNat_tmod, ← Int.ofNat_tdiv, simprocAttr, BEq.rfl, LN_succ, e1, e2, e3, e4, e5, e6, e7, e8, e9])) ?_
      obtain ⟨I, hI⟩ : ∃ I : Nat, nextV A (p + k) (((j : Nat) : Int) + 2) = I := ⟨_, (Int.toNat_of_nonneg hnd.1).symm⟩
      rw [hI]
      simp -dsimp only [aqT, aqU, aqN, aqS, ↓seqK, ↓blkK, ↓loopK, step, stepBin, Nat.add_assoc nid, ↓reduceIte, Option.toList, ← Int.ofNat_tmod, ← Int.ofNat_tdiv, simprocAttr, BEq.rfl, LN_succ, e1, e2, e3, e4, e5, e6, e7, e8, e9, strmC_low]
      have hsw := getD_swp (l := l) (i := j + 1) (k := I) (by omega) (by omega)
      rw [hj] at ho
      unfold ordV at ho
      rw [hI, Int.toNat_natCast] at ho
      refine ⟨⟨by omega, by omega⟩, ⟨by omega, by omega⟩, ⟨by omega, by omega⟩, ⟨by omega, by omega⟩, ?_⟩
      rw [hsw]
      refine ⟨by unfold inI64; omega, (k + 1, swpL l (j + 1) I), ⟨⟨by simp only; omega, by simp only; rw [swp_len]; exact hl, ?_⟩, by simp only; omega⟩, Cov.go [] [] ?_⟩
      · simp only
        rw [show n - 1 - (k + 1) = j by omega]
        exact ho
      simp [cvT, step, res, e1, e2, e3, e4, e5, e6, e7, e8, e9, strmC, arrI, swp_len, ColsEq.refl, -List.getD_eq_getElem?_getD]
      omega
    · have e0 : n - 1 - k = 0 := by omega
      rw [e0] at ho
      unfold ordV at ho
      have ek : p + (n - 1) = p + k := by omega
      rw [ek, ← ho]
      refine Cov.go [] [] ?_
      simp [cvT, step, res, e1, e2, e3, e4, e5, e6, e7, e8, e9, strmC, arrI, hl, ColsEq.refl, -List.getD_eq_getElem?_getD]
  · refine SR.run (t := .mk) ?_
    have hol := order_len A p n
    unfold arrI
    simp -dsimp only [aqT, aqU, aqN, aqS, ↓seqK, ↓blkK, ↓loopK, step, stepBin, Nat.add_assoc nid, ↓reduceIte, Option.toList, ← Int.ofNat_tmod, ← Int.ofNat_tdiv, simprocAttr, BEq.rfl, LN_succ, e1, e2, e3, e4, e5, e6, e7, e8, e9]
    refine RetOK.go [(nid, nid + 8)] [] (.inl rfl) ?_
    simp [a74, cvT, step, res, e1, e2, e3, e4, e5, e6, e7, e8, e9, strmC, arrI, ColsEq.refl, -List.getD_eq_getElem?_getD]
end Go.Proofs.YtpifoghhaohhaaaGreatDoor
namespace Go.Proofs.YtpifoghhaohhaaaGreatDoor
open Go.RowKit Go.Shelf Go.Lib
def arowL : List (List UInt8) := [[102, 48], [102, 49], [102, 50], [102, 51], [122, 122], []]
def arowV (A : List Int) (p : Nat) : List UInt8 := arowL.getD (pickI A p 6) []
theorem arow_c (s nid : Nat) (nl : Bool) (A : List Int) (p : Nat) (h : s < nid) (hp : p ≤ 1099511627775) (hA : A.length ≤ 17592186044416) :
    ACall Tryz.prog 16 [.ptr s 0] [(s, strmC nl A p)] nid (.str (arowV A p)) [(s, strmC nl A (p + 1))] := by
  obtain ⟨e1, e2, e3, e4, e5, e6, e7, e8, e9⟩ := id_all h
  refine acall_run c16 (by simp [a16]) ?_
  simp -dsimp only [a16, aqT, aqU, aqN, aqS, ↓seqK, ↓blkK, ↓loopK, step, stepBin, Nat.add_assoc nid, ↓reduceIte, Option.toList, ← Int.ofNat_tmod, ← Int.ofNat_tdiv, simprocAttr, BEq.rfl, LN_succ, e1, e2, e3, e4, e5, e6, e7, e8, e9, strmC_low]
  refine CallO.some_go (T := 9) (nl := nl) (A := A) (p := p) (g := fun i => arowL.getD i []) (by simp only [aqT, aqU, aqN, aqS, ↓seqK, ↓blkK, ↓loopK, step, stepBin, Nat.add_assoc nid, ↓reduceIte, Option.toList, ← Int.ofNat_tmod, ← Int.ofNat_tdiv, simprocAttr, BEq.rfl, LN_succ, e1, e2, e3, e4, e5, e6, e7, e8, e9]) (by simp only [aqT, aqU, aqN, aqS, ↓seqK, ↓blkK, ↓loopK, step, stepBin, Nat.add_assoc nid, ↓reduceIte, Option.toList, ← Int.ofNat_tmod, ← Int.ofNat_tdiv, simprocAttr, BEq.rfl, LN_succ, e1, e2, e3, e4, e5, e6, e7, e8, e9]; rfl) (by simp only [aqT, aqU, aqN, aqS, ↓seqK, ↓blkK, ↓loopK, step, stepBin, Nat.add_assoc nid, ↓reduceIte, Option.toList, ← Int.ofNat_tmod, ← Int.ofNat_tdiv, simprocAttr, BEq.rfl, LN_succ, e1, e2, e3, e4, e5, e6, e7, e8, e9]) (by omega) (by omega) hA (by omega) (by omega) ?_
  simp -dsimp only [aqT, aqU, aqN, aqS, ↓seqK, ↓blkK, ↓loopK, step, stepBin, Nat.add_assoc nid, ↓reduceIte, Option.toList, ← Int.ofNat_tmod, ← Int.ofNat_tdiv, simprocAttr, BEq.rfl, LN_succ, e1, e2, e3, e4, e5, e6, e7, e8, e9, strmC_low]
  refine RetOK.go [] [] (.inl rfl) ?_
  simp [a16, cvT, step, res, e1, e2, e3, e4, e5, e6, e7, e8, e9, strmC, arowV]
set_option maxHeartbeats 4000000 in
theorem testList_I (s nid : Nat) (nl : Bool) (A : List Int) (p : Nat) (g0 r0 : Bool) (b : Nat → Bool) (G : List (List UInt8)) (R : RowL) (h : s < nid) (hp : p ≤ 1099300000000) (hA : A.length ≤ 17592186044416) (hG : G.length ≤ 100) :
    ACallI Tryz.prog 15 [.ptr s 0, dictP g0 r0 b G R] [(s, strmC nl A p)] nid (fun x : List Int × Nat => x.1.length ≤ 101 ∧ x.2 ≤ p + 300) (fun x => .sl nid 0 x.1.length) (fun x => [(nid, arrI x.1), (s, strmC nl A x.2)]) := by
  obtain ⟨e1, e2, e3, e4, e5, e6, e7, e8, e9⟩ := id_all h
  refine acallI_sr c15 (by simp [a15]) ?_
  unfold a15 dictP
  refine SR.seq ?_
  simp -dsimp only [aqT, aqU, aqN, aqS, ↓seqK, ↓blkK, ↓loopK, step, stepBin, Nat.add_assoc nid, ↓reduceIte, Option.toList, ← Int.ofNat_tmod, ← Int.ofNat_tdiv, simprocAttr, BEq.rfl, LN_succ, e1, e2, e3, e4, e5, e6, e7, e8, e9]
  refine SR.seq ?_
  simp -dsimp only [aqT, aqU, aqN, aqS, ↓seqK, ↓blkK, ↓loopK, step, stepBin, Nat.add_assoc nid, ↓reduceIte, Option.toList, ← Int.ofNat_tmod, ← Int.ofNat_tdiv, simprocAttr, BEq.rfl, LN_succ, e1, e2, e3, e4, e5, e6, e7, e8, e9]
  refine SR.seqW (ι := {x : List Int × Nat // x.1.length ≤ G.length ∧ x.2 ≤ p + 200}) (fun x => ⟨[(5, .sl (nid + 16) 0 x.1.1.length), (3, .ptr (nid + 4) 0), (0, .ptr s 0)], [(nid + 16, arrI x.1.1), (nid + 4, boxP2 g0 r0 b G R), (s, strmC nl A x.1.2)], nid + 400, nid⟩) ?_ (fun ⟨⟨T, q⟩, hT, hq⟩ => ?_)
  · refine SR.seqTo ⟨[(14, .int .i64 0), (13, .int .i64 G.length), (12, .sl (nid + 12) 0 (orderV A p G.length).length), (5, .lit true 0 []), (3, .ptr (nid + 4) 0), (0, .ptr s 0)], [(nid + 12, arrI (orderV A p G.length)), (nid + 4, boxP2 g0 r0 b G R), (s, strmC nl A (p + (G.length - 1)))], nid + 100, nid⟩ ?_ ?_
    · have hol := order_len A p G.length
      simp -dsimp only [aqT, aqU, aqN, aqS, ↓seqK, ↓blkK, ↓loopK, step, stepBin, Nat.add_assoc nid, ↓reduceIte, Option.toList, ← Int.ofNat_tmod, ← Int.ofNat_tdiv, simprocAttr, BEq.rfl, LN_succ, e1, e2, e3, e4, e5, e6, e7, e8, e9]
      refine CallO.on (order_c s _ nl A p G.length (by omega) (by omega) hA (by omega)) (subH_get (by simp only [aqT, aqU, aqN, aqS, ↓seqK, ↓blkK, ↓loopK, step, stepBin, Nat.add_assoc nid, ↓reduceIte, Option.toList, ← Int.ofNat_tmod, ← Int.ofNat_tdiv, simprocAttr, BEq.rfl, LN_succ, e1, e2, e3, e4, e5, e6, e7, e8, e9])) ?_
      unfold arrI
      simp -dsimp only [aqT, aqU, aqN, aqS, ↓seqK, ↓blkK, ↓loopK, step, stepBin, Nat.add_assoc nid, ↓reduceIte, Option.toList, ← Int.ofNat_tmod, ← Int.ofNat_tdiv, simprocAttr, BEq.rfl, LN_succ, e1, e2, e3, e4, e5, e6, e7, e8, e9, strmC_low]
      refine Cov.go [(nid + 4, nid), (nid + 12, nid + 28)] [] ?_
      simp [cvT, step, res, e1, e2, e3, e4, e5, e6, e7, e8, e9, boxP2, strmC, arrI, hol, ColsEq.refl, -List.getD_eq_getElem?_getD]
    have hol := order_len A p G.length
    generalize orderV A p G.length = O at *
    unfold boxP2 arrI
    refine SR.freezeB [nid + 12] (fun n2 => ?_)
    simp only [frzS, frzH, frzBlk, lends, lend, kill, noOs, strmC, aqT, aqU, aqN, aqS, ↓seqK, ↓blkK, ↓loopK, step, stepBin, Nat.add_assoc nid, ↓reduceIte, Option.toList, ← Int.ofNat_tmod, ← Int.ofNat_tdiv, simprocAttr, BEq.rfl, LN_succ, e1, e2, e3, e4, e5, e6, e7, e8, e9]
    generalize n2 (nid + 12) = no
    refine SR.block ?_
    refine SR.loopP (fun x : Nat × List Int × Nat => x.1 ≤ G.length ∧ x.2.1.length ≤ x.1 ∧ x.2.2 ≤ p + (G.length - 1) + x.1) (fun x => ⟨[(14, .int .i64 x.1), (13, .int .i64 G.length), (12, litI no O), (5, .sl (nid + 16) 0 x.2.1.length), (3, .ptr (nid + 4) 0), (0, .ptr s 0)], [(nid + 16, arrI x.2.1), (nid + 4, boxP2 g0 r0 b G R), (s, strmC nl A x.2.2)], nid + 200, nid⟩) (fun x => G.length + 1 - x.1) (0, [], p + (G.length - 1)) ⟨by simp, by simp, by simp⟩ (Cov.go [] [(nid + 16, 1)] ?_) (fun x hx => ?_)
    · simp [cvT, step, res, e1, e2, e3, e4, e5, e6, e7, e8, e9, boxP2, strmC, litI, arrI, ColsEq.refl, -List.getD_eq_getElem?_getD]
    obtain ⟨k, T, q⟩ := x
    obtain ⟨hk, hT, hq⟩ := hx
    simp only at hk hT hq ⊢
    refine SR.run (t := .mk) ?_
    unfold boxP2 arrI litI
    simp -dsimp only [aqT, aqU, aqN, aqS, ↓seqK, ↓blkK, ↓loopK, step, stepBin, Nat.add_assoc nid, ↓reduceIte, Option.toList, ← Int.ofNat_tmod, ← Int.ofNat_tdiv, simprocAttr, BEq.rfl, LN_succ, e1, e2, e3, e4, e5, e6, e7, e8, e9]
    refine S2.dec (fun h3 => ?_) (fun h3 => ?_) <;> simp -dsimp only [aqT, aqU, aqN, aqS, ↓seqK, ↓blkK, ↓loopK, step, stepBin, Nat.add_assoc nid, ↓reduceIte, Option.toList, ← Int.ofNat_tmod, ← Int.ofNat_tdiv, simprocAttr, BEq.rfl, LN_succ, e1, e2, e3, e4, e5, e6, e7, e8, e9]
    · refine ⟨by omega, ?_⟩
      refine CallO.on (flip_c s _ nl A q 3 (by omega) (by omega) hA (by omega)) (subH_get (by simp only [aqT, aqU, aqN, aqS, ↓seqK, ↓blkK, ↓loopK, step, stepBin, Nat.add_assoc nid, ↓reduceIte, Option.toList, ← Int.ofNat_tmod, ← Int.ofNat_tdiv, simprocAttr, BEq.rfl, LN_succ, e1, e2, e3, e4, e5, e6, e7, e8, e9])) ?_
      simp -dsimp only [aqT, aqU, aqN, aqS, ↓seqK, ↓blkK, ↓loopK, step, stepBin, Nat.add_assoc nid, ↓reduceIte, Option.toList, ← Int.ofNat_tmod, ← Int.ofNat_tdiv, simprocAttr, BEq.rfl, LN_succ, e1, e2, e3, e4, e5, e6, e7, e8, e9, strmC_low]
      cases hf : flipV A q 3 <;> simp -dsimp only [aqT, aqU, aqN, aqS, ↓seqK, ↓blkK, ↓loopK, step, stepBin, Nat.add_assoc nid, ↓reduceIte, Option.toList, ← Int.ofNat_tmod, ← Int.ofNat_tdiv, simprocAttr, BEq.rfl, LN_succ, e1, e2, e3, e4, e5, e6, e7, e8, e9, strmC_low, Bool.not_false, Bool.not_true]
      · rw [getD_appO]
        have hl1 : (T ++ [O.getD k 0]).length = T.length + 1 := by simp
        generalize T ++ [O.getD k 0] = T1 at *
        refine ⟨by omega, by unfold inI64; omega, (k + 1, T1, q + 1), ⟨⟨by simp only; omega, by simp only; omega, by simp only; omega⟩, by simp only; omega⟩, Cov.go [(nid + 16, nid + 240)] [] ?_⟩
        simp [cvT, step, res, e1, e2, e3, e4, e5, e6, e7, e8, e9, boxP2, strmC, litI, arrI, hl1, ColsEq.refl, -List.getD_eq_getElem?_getD]
      · refine ⟨by unfold inI64; omega, (k + 1, T, q + 1), ⟨⟨by simp only; omega, by simp only; omega, by simp only; omega⟩, by simp only; omega⟩, Cov.go [] [] ?_⟩
        simp [cvT, step, res, e1, e2, e3, e4, e5, e6, e7, e8, e9, boxP2, strmC, litI, arrI, ColsEq.refl, -List.getD_eq_getElem?_getD]
    · refine ⟨⟨(T, q), by simp only; omega, by simp only; omega⟩, Cov.go [] [] ?_⟩
      simp [cvT, step, res, e1, e2, e3, e4, e5, e6, e7, e8, e9, boxP2, strmC, litI, arrI, ColsEq.refl, -List.getD_eq_getElem?_getD]
  simp only at hT hq ⊢
  refine SR.run (t := .mk) ?_
  unfold boxP2 arrI
  simp -dsimp only [aqT, aqU, aqN, aqS, ↓seqK, ↓blkK, ↓loopK, step, stepBin, Nat.add_assoc nid, ↓reduceIte, Option.toList, ← Int.ofNat_tmod, ← Int.ofNat_tdiv, simprocAttr, BEq.rfl, LN_succ, e1, e2, e3, e4, e5, e6, e7, e8, e9]
  refine CallO.on (flip_c s _ nl A q 15 (by omega) (by omega) hA (by omega)) (subH_get (by simp only [aqT, aqU, aqN, aqS, ↓seqK, ↓blkK, ↓loopK, step, stepBin, Nat.add_assoc nid, ↓reduceIte, Option.toList, ← Int.ofNat_tmod, ← Int.ofNat_tdiv, simprocAttr, BEq.rfl, LN_succ, e1, e2, e3, e4, e5, e6, e7, e8, e9])) ?_
  simp -dsimp only [aqT, aqU, aqN, aqS, ↓seqK, ↓blkK, ↓loopK, step, stepBin, Nat.add_assoc nid, ↓reduceIte, Option.toList, ← Int.ofNat_tmod, ← Int.ofNat_tdiv, simprocAttr, BEq.rfl, LN_succ, e1, e2, e3, e4, e5, e6, e7, e8, e9, strmC_low]
  cases hf : flipV A q 15 <;> simp -dsimp only [aqT, aqU, aqN, aqS, ↓seqK, ↓blkK, ↓loopK, step, stepBin, Nat.add_assoc nid, ↓reduceIte, Option.toList, ← Int.ofNat_tmod, ← Int.ofNat_tdiv, simprocAttr, BEq.rfl, LN_succ, e1, e2, e3, e4, e5, e6, e7, e8, e9, strmC_low, Bool.not_false, Bool.not_true]
  · refine ⟨(T, q + 1), ⟨by simp only; omega, by simp only; omega⟩, RetOK.go [(nid, nid + 16)] [] (.inl rfl) ?_⟩
    simp [a15, cvT, step, res, e1, e2, e3, e4, e5, e6, e7, e8, e9, strmC, arrI, -List.getD_eq_getElem?_getD]
  · refine CallO.pick_go (T := 3) (nl := nl) (A := A) (p := q + 1) (g := fun i => [0, -1, (G.length : Int)].getD i 0) (by simp only [aqT, aqU, aqN, aqS, ↓seqK, ↓blkK, ↓loopK, step, stepBin, Nat.add_assoc nid, ↓reduceIte, Option.toList, ← Int.ofNat_tmod, ← Int.ofNat_tdiv, simprocAttr, BEq.rfl, LN_succ, e1, e2, e3, e4, e5, e6, e7, e8, e9]) (by simp only [aqT, aqU, aqN, aqS, ↓seqK, ↓blkK, ↓loopK, step, stepBin, Nat.add_assoc nid, ↓reduceIte, Option.toList, ← Int.ofNat_tmod, ← Int.ofNat_tdiv, simprocAttr, BEq.rfl, LN_succ, e1, e2, e3, e4, e5, e6, e7, e8, e9]) (by simp only [aqT, aqU, aqN, aqS, ↓seqK, ↓blkK, ↓loopK, step, stepBin, Nat.add_assoc nid, ↓reduceIte, Option.toList, ← Int.ofNat_tmod, ← Int.ofNat_tdiv, simprocAttr, BEq.rfl, LN_succ, e1, e2, e3, e4, e5, e6, e7, e8, e9]) (by omega) (by omega) hA (by omega) (by omega) ?_
    generalize ([0, -1, (G.length : Int)].getD (pickI A (q + 1) 3) 0 : Int) = v
    simp -dsimp only [aqT, aqU, aqN, aqS, ↓seqK, ↓blkK, ↓loopK, step, stepBin, Nat.add_assoc nid, ↓reduceIte, Option.toList, ← Int.ofNat_tmod, ← Int.ofNat_tdiv, simprocAttr, BEq.rfl, LN_succ, e1, e2, e3, e4, e5, e6, e7, e8, e9, strmC_low]
    rw [getD_appO]
    have hl1 : (T ++ [v]).length = T.length + 1 := by simp
    generalize T ++ [v] = T1 at *
    refine ⟨by omega, (T1, q + 1 + 1), ⟨by simp only; omega, by simp only; omega⟩, RetOK.go [(nid, nid + 440)] [] (.inl rfl) ?_⟩
    simp [a15, cvT, step, res, e1, e2, e3, e4, e5, e6, e7, e8, e9, strmC, arrI, hl1, -List.getD_eq_getElem?_getD]
end Go.Proofs.YtpifoghhaohhaaaGreatDoor
namespace Go.Proofs.YtpifoghhaohhaaaGreatDoor
open Go.RowKit Go.Shelf Go.Lib
theorem detBad_c (g0 r0 : Bool) (b : Nat → Bool) (G : List (List UInt8)) (R : RowL) (nl : Bool) (T : List Int) (nid : Nat) (hB : DictW G R) (hT : T.length ≤ 1000000) (hV : bothTV G R T ≠ 0) :
    ACall Tryz.prog 18 [dictP g0 r0 b G R, litI nl T] [] nid (.tup [.lit true 0 [], .lit true 0 [], .int .i64 (bothTV G R T)]) [] := by
  have hd := fun m => tstD_c g0 r0 b G R nl T m hB hT
  refine acall_sr c18 (by simp [a18]) ?_
  unfold a18 dictP litI at *
  refine SR.run (t := .mk) ?_
  simp -dsimp only [aqT, aqU, aqN, aqS, ↓seqK, ↓blkK, ↓loopK, step, stepBin, Nat.add_assoc nid, ↓reduceIte, Option.toList, ← Int.ofNat_tmod, ← Int.ofNat_tdiv, simprocAttr, BEq.rfl, LN_succ]
  refine CallO.pure (hd _) ?_
  simp -dsimp only [aqT, aqU, aqN, aqS, ↓seqK, ↓blkK, ↓loopK, step, stepBin, Nat.add_assoc nid, ↓reduceIte, Option.toList, ← Int.ofNat_tmod, ← Int.ofNat_tdiv, simprocAttr, BEq.rfl, LN_succ]
  refine S2.yes (by simpa using hV) ?_
  simp -dsimp only [aqT, aqU, aqN, aqS, ↓seqK, ↓blkK, ↓loopK, step, stepBin, Nat.add_assoc nid, ↓reduceIte, Option.toList, ← Int.ofNat_tmod, ← Int.ofNat_tdiv, simprocAttr, BEq.rfl, LN_succ]
  refine RetOK.pure (.inl rfl) rfl ?_
  simp [cvT, step, res]
set_option maxHeartbeats 1000000 in
theorem tstR_c (g0 r0 : Bool) (b : Nat → Bool) (G : List (List UInt8)) (R : RowL) (nl : Bool) (T : List Int) (nid : Nat) (hB : DictW G R) (hT : T.length ≤ 1000000) : ACall Tryz.prog 24 [dictP g0 r0 b G R, litI nl T] [] nid (.int .i64 (tstV G.length T)) [] := by
  have hgl := hB.gl
  refine acall_sr c24 (by simp [a24]) ?_
  unfold a24
  refine SR.seq ?_
  unfold dictP litI at *
  simp -dsimp only [aqT, aqU, aqN, aqS, ↓seqK, ↓blkK, ↓loopK, step, stepBin, Nat.add_assoc nid, ↓reduceIte, Option.toList, ← Int.ofNat_tmod, ← Int.ofNat_tdiv, simprocAttr, BEq.rfl, LN_succ]
  refine SR.seqW (ι := {_u : Unit // ¬ 100 < T.length}) (fun _ => ⟨[(2, .ptr nid 0), (1, litI nl T)], [(nid, boxP2 g0 r0 b G R)], nid + 150, nid⟩) ?_ (fun ⟨_, h2⟩ => ?_)
  · refine SR.run (t := .mk) ?_
    simp -dsimp only [aqT, aqU, aqN, aqS, ↓seqK, ↓blkK, ↓loopK, step, stepBin, Nat.add_assoc nid, ↓reduceIte, Option.toList, ← Int.ofNat_tmod, ← Int.ofNat_tdiv, simprocAttr, BEq.rfl, LN_succ]
    refine S2.dec (fun h2 => ?_) (fun h2 => ?_) <;> simp -dsimp only [aqT, aqU, aqN, aqS, ↓seqK, ↓blkK, ↓loopK, step, stepBin, Nat.add_assoc nid, ↓reduceIte, Option.toList, ← Int.ofNat_tmod, ← Int.ofNat_tdiv, simprocAttr, BEq.rfl, LN_succ]
    · have e : tstV G.length T = 2 := by unfold tstV; rw [if_pos (by omega)]
      rw [e]
      refine RetOK.pure (.inl rfl) rfl ?_
      simp [cvT, step, res]
    · refine ⟨⟨(), by omega⟩, Cov.go [] [] ?_⟩
      simp [cvT, step, res, boxP2, litI, ColsEq.refl, -List.getD_eq_getElem?_getD]
  refine SR.seqW (ι := {_u : Unit // ∀ j, j < T.length → tstBad G.length T j = 0}) (fun _ => ⟨[], [], nid + 2000, nid⟩) ?_ (fun ⟨_, h5⟩ => ?_)
  · unfold boxP2 litI
    refine SR.seqTo ⟨[(12, .int .i64 0), (11, .int .i64 T.length), (10, litI nl T), (2, .ptr nid 0), (1, litI nl T)], [(nid, boxP2 g0 r0 b G R)], nid + 200, nid⟩ ?_ ?_
    · simp -dsimp only [aqT, aqU, aqN, aqS, ↓seqK, ↓blkK, ↓loopK, step, stepBin, Nat.add_assoc nid, ↓reduceIte, Option.toList, ← Int.ofNat_tmod, ← Int.ofNat_tdiv, simprocAttr, BEq.rfl, LN_succ]
      refine Cov.go [] [] ?_
      simp [cvT, step, res, boxP2, litI, ColsEq.refl, -List.getD_eq_getElem?_getD]
    refine SR.block ?_
    refine SR.loopP (fun k : Nat => k ≤ T.length ∧ ∀ j, j < k → tstBad G.length T j = 0) (fun k : Nat => ⟨[(12, .int .i64 k), (11, .int .i64 T.length), (10, litI nl T), (2, .ptr nid 0), (1, litI nl T)], [(nid, boxP2 g0 r0 b G R)], nid + 200, nid⟩) (fun k => T.length + 1 - k) 0 ⟨by omega, fun j hj => by omega⟩ (Cov.go [] [] ?_) (fun k hk => ?_)
    · simp [cvT, step, res, boxP2, litI, ColsEq.refl, -List.getD_eq_getElem?_getD]
    obtain ⟨hk, hall⟩ := hk
    refine SR.run (t := .mk) ?_
    have hct := fun m => contTake_c nl T k (T.getD k 0) m hk hT
    have hbad := fun e (hkl : k < T.length) => tstV_row (n := G.length) (e := e) h2 hkl hall
    have hdef : tstBad G.length T k = if outB (T.getD k 0) 0 ((G.length : Int) - 1) = true then 1 else if (T.take k).contains (T.getD k 0) = true then 6 else 0 := rfl
    unfold litI boxP2
    simp -dsimp only [aqT, aqU, aqN, aqS, ↓seqK, ↓blkK, ↓loopK, step, stepBin, Nat.add_assoc nid, ↓reduceIte, Option.toList, ← Int.ofNat_tmod, ← Int.ofNat_tdiv, simprocAttr, BEq.rfl, LN_succ]
    refine S2.dec (fun h4 => ?_) (fun h4 => ?_) <;> simp -dsimp only [aqT, aqU, aqN, aqS, ↓seqK, ↓blkK, ↓loopK, step, stepBin, Nat.add_assoc nid, ↓reduceIte, Option.toList, ← Int.ofNat_tmod, ← Int.ofNat_tdiv, simprocAttr, BEq.rfl, LN_succ]
    · have hkl : k < T.length := by omega
      refine ⟨by omega, by unfold inI64; omega, CallO.pure (in_c _ _ _ _) ?_⟩
      simp -dsimp only [aqT, aqU, aqN, aqS, ↓seqK, ↓blkK, ↓loopK, step, stepBin, Nat.add_assoc nid, ↓reduceIte, Option.toList, ← Int.ofNat_tmod, ← Int.ofNat_tdiv, simprocAttr, BEq.rfl, LN_succ, Bool.not_not]
      cases h6 : outB (T.getD k 0) 0 ((G.length : Int) - 1) <;> rw [h6] at hdef <;> simp -dsimp only [aqT, aqU, aqN, aqS, ↓seqK, ↓blkK, ↓loopK, step, stepBin, Nat.add_assoc nid, ↓reduceIte, Option.toList, ← Int.ofNat_tmod, ← Int.ofNat_tdiv, simprocAttr, BEq.rfl, LN_succ]
      · rw [if_neg (by simp)] at hdef
        refine ⟨by omega, ?_⟩
        refine CallO.pure (hct _) ?_
        simp -dsimp only [aqT, aqU, aqN, aqS, ↓seqK, ↓blkK, ↓loopK, step, stepBin, Nat.add_assoc nid, ↓reduceIte, Option.toList, ← Int.ofNat_tmod, ← Int.ofNat_tdiv, simprocAttr, BEq.rfl, LN_succ]
        cases h7 : (T.take k).contains (T.getD k 0) <;> rw [h7] at hdef <;> simp -dsimp only [aqT, aqU, aqN, aqS, ↓seqK, ↓blkK, ↓loopK, step, stepBin, Nat.add_assoc nid, ↓reduceIte, Option.toList, ← Int.ofNat_tmod, ← Int.ofNat_tdiv, simprocAttr, BEq.rfl, LN_succ]
        · rw [if_neg (by simp)] at hdef
          refine ⟨by unfold inI64; omega, k + 1, ⟨⟨by omega, fun j hj => ?_⟩, by omega⟩, Cov.go [] [] ?_⟩
          · rcases (by omega : j < k ∨ j = k) with hj | hj
            · exact hall j hj
            · rw [hj]; exact hdef
          simp [cvT, step, res, boxP2, litI, ColsEq.refl, -List.getD_eq_getElem?_getD]
        · rw [if_pos rfl] at hdef
          rw [hbad 6 hkl hdef (by decide)]
          refine RetOK.pure (.inl rfl) rfl ?_
          simp [cvT, step, res]
      · rw [if_pos rfl] at hdef
        rw [hbad 1 hkl hdef (by decide)]
        refine RetOK.pure (.inl rfl) rfl ?_
        simp [cvT, step, res]
    · refine ⟨⟨(), fun j hj => hall j (by omega)⟩, Cov.go [] [] ?_⟩
      simp [cvT, step, res, boxP2, -List.getD_eq_getElem?_getD]
  · rw [tstV_good h2 h5]
    refine SR.run (t := .mk) ?_
    simp -dsimp only [aqT, aqU, aqN, aqS, ↓seqK, ↓blkK, ↓loopK, step, stepBin, Nat.add_assoc nid, ↓reduceIte, Option.toList, ← Int.ofNat_tmod, ← Int.ofNat_tdiv, simprocAttr, BEq.rfl, LN_succ]
    refine RetOK.pure (.inl rfl) rfl ?_
    simp [cvT, step, res]
set_option maxHeartbeats 4000000 in
theorem detR_c (g0 r0 : Bool) (b : Nat → Bool) (G : List (List UInt8)) (R : RowL) (nl : Bool) (T : List Int) (nid : Nat) (hB : DictW G R) (hD : dictV G R = 0) (hT : tstV G.length T = 0) :
    ACall Tryz.prog 26 [dictP g0 r0 b G R, litI nl T] [] nid (.tup [.sl nid 0 (yesL G R T R.length).length, .sl (nid + 1) 0 (notL G R T R.length).length]) [(nid, arrS (yesL G R T R.length)), (nid + 1, arrS (notL G R T R.length))] := by
  have hgl := hB.gl
  have hrl := hB.rl
  obtain ⟨hTl, hTi⟩ := tstV_in hT
  have hlen := dictV_rows hD
  have hG0 : 0 < G.length := by have := (dict_ok hD).lo; omega
  have hcl := fun m => cloneL_c g0 G m hG0 (by omega)
  unfold litS at hcl
  refine acall_sr c26 (by simp [a26]) ?_
  unfold a26
  refine SR.seq ?_
  unfold dictP litI at *
  simp -dsimp only [aqT, aqU, aqN, aqS, ↓seqK, ↓blkK, ↓loopK, step, stepBin, Nat.add_assoc nid, ↓reduceIte, Option.toList, ← Int.ofNat_tmod, ← Int.ofNat_tdiv, simprocAttr, BEq.rfl, LN_succ]
  refine SR.seqW (ι := Unit) (fun _ => ⟨[(4, .sl (nid + 20) 0 (yesL G R T R.length).length), (5, .sl (nid + 24) 0 (notL G R T R.length).length)], [(nid + 20, arrS (yesL G R T R.length)), (nid + 24, arrS (notL G R T R.length))], nid + 4000, nid⟩) ?_ (fun _ => ?_)
  · refine SR.seqTo ⟨[(11, .int .i64 0), (10, .int .i64 R.length), (9, rowsP r0 b R), (4, .lit true 0 []), (5, .lit true 0 []), (2, .ptr nid 0), (1, litI nl T)], [(nid, boxP2 g0 r0 b G R)], nid + 150, nid⟩ ?_ ?_
    · simp -dsimp only [aqT, aqU, aqN, aqS, ↓seqK, ↓blkK, ↓loopK, step, stepBin, Nat.add_assoc nid, ↓reduceIte, Option.toList, ← Int.ofNat_tmod, ← Int.ofNat_tdiv, simprocAttr, BEq.rfl, LN_succ]
      refine Cov.go [] [] ?_
      simp [cvT, step, res, boxP2, litI, rowsP, ColsEq.refl, -List.getD_eq_getElem?_getD]
    refine SR.block ?_
    refine SR.loopP (fun k : Nat => k ≤ R.length) (fun k => ⟨[(11, .int .i64 k), (10, .int .i64 R.length), (9, rowsP r0 b R), (4, .sl (nid + 20) 0 (yesL G R T k).length), (5, .sl (nid + 24) 0 (notL G R T k).length), (2, .ptr nid 0), (1, litI nl T)], [(nid + 20, arrS (yesL G R T k)), (nid + 24, arrS (notL G R T k)), (nid, boxP2 g0 r0 b G R)], nid + 200, nid⟩) (fun k => R.length + 1 - k) 0 (by omega) (Cov.go [] [(nid + 20, 1), (nid + 24, 1)] ?_) (fun k hk => ?_)
    · simp [cvT, step, res, boxP2, litI, rowsP, arrS, yesL, notL, ColsEq.refl, -List.getD_eq_getElem?_getD]
    have hyn := fun h => yes_not G R T (k := k) h
    obtain ⟨hyl, hnl⟩ := yn_len G R T k
    have hend : k = R.length → yesL G R T R.length = yesL G R T k ∧ notL G R T R.length = notL G R T k := fun e => by rw [e]; exact ⟨rfl, rfl⟩
    generalize yesL G R T k = Y at *
    generalize notL G R T k = V at *
    refine SR.run (t := .mk) ?_
    unfold rowsP arrS boxP2 litI
    simp -dsimp only [aqT, aqU, aqN, aqS, ↓seqK, ↓blkK, ↓loopK, step, stepBin, Nat.add_assoc nid, ↓reduceIte, Option.toList, ← Int.ofNat_tmod, ← Int.ofNat_tdiv, simprocAttr, BEq.rfl, LN_succ]
    refine S2.dec (fun h3 => ?_) (fun h3 => ?_) <;> simp -dsimp only [aqT, aqU, aqN, aqS, ↓seqK, ↓blkK, ↓loopK, step, stepBin, Nat.add_assoc nid, ↓reduceIte, Option.toList, ← Int.ofNat_tmod, ← Int.ofNat_tdiv, simprocAttr, BEq.rfl, LN_succ]
    · have hkl : k < R.length := by omega
      obtain ⟨hy1, hy2⟩ := hyn hkl
      have hlk := hlen k hkl
      have hdf := fun m => differAt_c (rowF R k) [] (b k) false (rowR R k) G nl T m (by omega) (by omega) (fun t ht => by rw [hlk]; exact hTi t ht) hTi
      have ea : difB (rowR R k) G T = detsB G (rowR R k) T := rfl
      rw [ea] at hdf
      refine ⟨by omega, CallX.pure (hcl _) ?_⟩
      simp -dsimp only [aqT, aqU, aqN, aqS, ↓seqK, ↓blkK, ↓loopK, step, stepBin, Nat.add_assoc nid, ↓reduceIte, Option.toList, ← Int.ofNat_tmod, ← Int.ofNat_tdiv, simprocAttr, BEq.rfl, LN_succ]
      refine CallX.pure (hdf _) ?_
      simp -dsimp only [aqT, aqU, aqN, aqS, ↓seqK, ↓blkK, ↓loopK, step, stepBin, Nat.add_assoc nid, ↓reduceIte, Option.toList, ← Int.ofNat_tmod, ← Int.ofNat_tdiv, simprocAttr, BEq.rfl, LN_succ]
      cases h6 : detsB G (rowR R k) T <;> rw [h6] at hy1 hy2 <;> simp -dsimp only [aqT, aqU, aqN, aqS, ↓seqK, ↓blkK, ↓loopK, step, stepBin, Nat.add_assoc nid, ↓reduceIte, Option.toList, ← Int.ofNat_tmod, ← Int.ofNat_tdiv, simprocAttr, BEq.rfl, LN_succ]
      · rw [if_neg (by simp)] at hy1 hy2
        rw [getD_app1 V _ rfl]
        refine ⟨⟨by omega, by omega⟩, by unfold inI64; omega, k + 1, ⟨by omega, by omega⟩, Cov.go [(nid + 24, nid + 264)] [] ?_⟩
        simp only [hy1, hy2]
        simp [cvT, step, res, boxP2, litI, rowsP, arrS, ColsEq.refl, -List.getD_eq_getElem?_getD, -List.length_append]
        try simp
      · rw [if_pos rfl] at hy1 hy2
        rw [getD_app1 Y _ rfl]
        refine ⟨⟨by omega, by omega⟩, by unfold inI64; omega, k + 1, ⟨by omega, by omega⟩, Cov.go [(nid + 20, nid + 264)] [] ?_⟩
        simp only [hy1, hy2]
        simp [cvT, step, res, boxP2, litI, rowsP, arrS, ColsEq.refl, -List.getD_eq_getElem?_getD, -List.length_append]
        try simp
    · obtain ⟨e1, e2⟩ := hend (by omega)
      rw [e1, e2]
      refine ⟨(), Cov.go [] [] ?_⟩
      simp [cvT, step, res, arrS, ColsEq.refl, -List.getD_eq_getElem?_getD]
  refine SR.run (t := .mk) ?_
  unfold arrS
  simp -dsimp only [aqT, aqU, aqN, aqS, ↓seqK, ↓blkK, ↓loopK, step, stepBin, Nat.add_assoc nid, ↓reduceIte, Option.toList, ← Int.ofNat_tmod, ← Int.ofNat_tdiv, simprocAttr, BEq.rfl, LN_succ]
  refine RetOK.go [(nid, nid + 20), (nid + 1, nid + 24)] [] (.inl rfl) ?_
  simp [a26, cvT, step, res, arrS, ColsEq.refl, -List.getD_eq_getElem?_getD]
theorem ext_G {gs hs : List (List (List UInt8))} (hl : gs.length = hs.length) (h : ∀ j, j < gs.length → gs.getD j [] = hs.getD j []) : gs = hs := by
  refine List.ext_getElem hl fun i h1 h2 => ?_
  have := h i h1
  rw [List.getD_eq_getElem?_getD, List.getElem?_eq_getElem h1, List.getD_eq_getElem?_getD, List.getElem?_eq_getElem h2] at this
  exact this
set_option maxHeartbeats 1000000 in
theorem eqFuncG_c (na nb : Bool) (gs hs : List (List (List UInt8))) (nid : Nat) (hg : gs.length ≤ 1000000) (hh : hs.length ≤ 1000000) (hgs : ∀ j, (gs.getD j []).length ≤ 1000000) (hhs : ∀ j, (hs.getD j []).length ≤ 1000000) :
    ACall Tryz.prog 29 [litG na gs, litG nb hs, .fn 28 []] [] nid (.bool (gs == hs)) [] := by
  refine acall_run c29 (by simp [a29]) ?_
  unfold litG
  simp -dsimp only [aqT, aqU, aqN, aqS, ↓seqK, ↓blkK, ↓loopK, step, stepBin, Nat.add_assoc nid, ↓reduceIte, Option.toList, ← Int.ofNat_tmod, ← Int.ofNat_tdiv, simprocAttr, BEq.rfl, LN_succ, a29]
  refine S2.intro (fun h => ?_) (fun h => ?_) <;> simp -dsimp only [aqT, aqU, aqN, aqS, ↓seqK, ↓blkK, ↓loopK, step, stepBin, Nat.add_assoc nid, ↓reduceIte, Option.toList, ← Int.ofNat_tmod, ← Int.ofNat_tdiv, simprocAttr, BEq.rfl, LN_succ]
  · have h0 : gs.length ≠ hs.length := by
      have h : ¬ ((gs.length : Nat) : Int) = (hs.length : Nat) := by simpa using h
      omega
    have e : (gs == hs) = false := by
      rw [beq_eq_false_iff_ne]
      intro e; exact h0 (by rw [e])
    rw [e]
    refine RetOK.pure (.inl rfl) rfl ?_
    simp [cvT, step, res]
  have hl : gs.length = hs.length := by
    have h : ((gs.length : Nat) : Int) = (hs.length : Nat) := by simpa using h
    omega
  refine LP.mkP (fun k : Nat => k ≤ gs.length ∧ ∀ j, j < k → gs.getD j [] = hs.getD j []) (fun k => ⟨[(17, .int .i64 k), (16, .int .i64 gs.length), (15, litG na gs), (1, litG nb hs), (2, .fn 28 [])], [], nid + 100, nid⟩) (fun k => gs.length + 1 - k) 0 ⟨by omega, fun j hj => by omega⟩ (Cov.go [] [] ?_) (fun k hk => ?_)
  · simp [cvT, step, res, litG, ColsEq.refl, -List.getD_eq_getElem?_getD]
  obtain ⟨hk, hall⟩ := hk
  unfold litG
  simp -dsimp only [aqT, aqU, aqN, aqS, ↓seqK, ↓blkK, ↓loopK, step, stepBin, Nat.add_assoc nid, ↓reduceIte, Option.toList, ← Int.ofNat_tmod, ← Int.ofNat_tdiv, simprocAttr, BEq.rfl, LN_succ]
  refine S2.dec (fun h3 => ?_) (fun h3 => ?_) <;> simp -dsimp only [aqT, aqU, aqN, aqS, ↓seqK, ↓blkK, ↓loopK, step, stepBin, Nat.add_assoc nid, ↓reduceIte, Option.toList, ← Int.ofNat_tmod, ← Int.ofNat_tdiv, simprocAttr, BEq.rfl, LN_succ]
  · have hkl : k < gs.length := by omega
    have he := fun m => equalS_c (noG k) (noG k) (gs.getD k []) (hs.getD k []) m (by have := hgs k; omega) (by have := hhs k; omega)
    unfold litS at he
    refine ⟨by omega, by omega, CallO.pure (he _) ?_⟩
    simp -dsimp only [aqT, aqU, aqN, aqS, ↓seqK, ↓blkK, ↓loopK, step, stepBin, Nat.add_assoc nid, ↓reduceIte, Option.toList, ← Int.ofNat_tmod, ← Int.ofNat_tdiv, simprocAttr, BEq.rfl, LN_succ]
    cases h6 : (gs.getD k [] == hs.getD k []) <;> simp -dsimp only [aqT, aqU, aqN, aqS, ↓seqK, ↓blkK, ↓loopK, step, stepBin, Nat.add_assoc nid, ↓reduceIte, Option.toList, ← Int.ofNat_tmod, ← Int.ofNat_tdiv, simprocAttr, BEq.rfl, LN_succ, Bool.not_true, Bool.not_false]
    · have e : (gs == hs) = false := by
        rw [beq_eq_false_iff_ne]
        intro e
        rw [e] at h6
        simp at h6
      rw [e]
      refine RetOK.pure (.inl rfl) rfl ?_
      simp [cvT, step, res]
    · refine ⟨by unfold inI64; omega, k + 1, ⟨⟨by omega, fun j hj => ?_⟩, by omega⟩, Cov.go [] [] ?_⟩
      · rcases (by omega : j < k ∨ j = k) with hj | hj
        · exact hall j hj
        · rw [hj]; simpa using h6
      simp [cvT, step, res, litG, ColsEq.refl, -List.getD_eq_getElem?_getD]
  · have e : gs = hs := ext_G hl fun j hj => hall j (by omega)
    rw [e, beq_self_eq_true]
    refine RetOK.pure (.inl rfl) rfl ?_
    simp [cvT, step, res]
end Go.Proofs.YtpifoghhaohhaaaGreatDoor
namespace Go.Proofs.YtpifoghhaohhaaaGreatDoor
open Go.RowKit Go.Shelf Go.Lib
def fracB (x : Nat × Nat × Bool) : Option ABlk := some (.box 41 [.int .i64 (x.1 : Nat), .int .i64 (x.2.1 : Nat)])
def dsL (R : RowL) (n : Nat) : Option Nat → Option Nat → List Int × Int
  | some i, some j => (detL (rowR R j) (rowR R i) n, 0)
  | _, _ => ([], 8)
theorem dsL_len (R : RowL) (n : Nat) (x y : Option Nat) : (dsL R n x y).1.length ≤ n := by
  unfold dsL
  split
  · exact detL_len _ _ _
  · simp
theorem equalNilI_c (nid : Nat) : ACall Tryz.prog 23 [.lit true 0 [], .lit true 0 []] [] nid (.bool true) [] := by
  refine acall_run c23 (by simp [a23]) ?_
  simp -dsimp only [aqT, aqU, aqN, aqS, ↓seqK, ↓blkK, ↓loopK, step, stepBin, Nat.add_assoc nid, ↓reduceIte, Option.toList, ← Int.ofNat_tmod, ← Int.ofNat_tdiv, simprocAttr, BEq.rfl, LN_succ, a23]
  refine LP.mkP (fun k : Nat => k = 0) (fun k : Nat => ⟨[(13, .int .i64 0), (12, .int .i64 0)], [], nid + 100, nid⟩) (fun k => 1) 0 rfl (Cov.go [] [] ?_) (fun k hk => ?_)
  · simp [cvT, step, res]
  simp -dsimp only [aqT, aqU, aqN, aqS, ↓seqK, ↓blkK, ↓loopK, step, stepBin, Nat.add_assoc nid, ↓reduceIte, Option.toList, ← Int.ofNat_tmod, ← Int.ofNat_tdiv, simprocAttr, BEq.rfl, LN_succ]
  refine RetOK.pure (.inl rfl) rfl ?_
  simp [cvT, step, res]
set_option maxHeartbeats 8000000 in
theorem faultsGrouped_c (nl : Bool) (A : List Int) (nid : Nat) (hA : A.length ≤ 17592186044416) : ACall Tryz.prog 3 [litI nl A] [] nid (.bool true) [] := by
  refine acall_sr c3 (by simp [a3]) ?_
  unfold a3 litI
  refine SR.seq ?_
  simp -dsimp only [aqT, aqU, aqN, aqS, ↓seqK, ↓blkK, ↓loopK, step, stepBin, Nat.add_assoc nid, ↓reduceIte, Option.toList, ← Int.ofNat_tmod, ← Int.ofNat_tdiv, simprocAttr, BEq.rfl, LN_succ]
  refine SR.seq ?_
  simp -dsimp only [aqT, aqU, aqN, aqS, ↓seqK, ↓blkK, ↓loopK, step, stepBin, Nat.add_assoc nid, ↓reduceIte, Option.toList, ← Int.ofNat_tmod, ← Int.ofNat_tdiv, simprocAttr, BEq.rfl, LN_succ]
  refine SR.seqW (ι := {x : DictX // DictB 4 x.G x.R ∧ x.q ≤ 1000}) (fun x => ⟨[(3, .ptr (nid + 12) 0), (4, .ptr (nid + 8) 0)], [(nid + 12, strmC nl A x.1.q), (nid + 8, boxP2 x.1.g0 x.1.r0 x.1.b x.1.G x.1.R)], nid + 200, nid⟩) ?_ (fun ⟨⟨g0, r0, b, G, R, q⟩, hB, hq⟩ => ?_)
  · refine SR.run (t := .mk) ?_
    simp -dsimp only [aqT, aqU, aqN, aqS, ↓seqK, ↓blkK, ↓loopK, step, stepBin, Nat.add_assoc nid, ↓reduceIte, Option.toList, ← Int.ofNat_tmod, ← Int.ofNat_tdiv, simprocAttr, BEq.rfl, LN_succ]
    refine CallO.any (dict_I (nid + 12) _ nl A 0 7 4 (by omega) (by omega) hA (by omega) (by omega) (by omega)) (subH_get (by simp only [aqT, aqU, aqN, aqS, ↓seqK, ↓blkK, ↓loopK, step, stepBin, Nat.add_assoc nid, ↓reduceIte, Option.toList, ← Int.ofNat_tmod, ← Int.ofNat_tdiv, simprocAttr, BEq.rfl, LN_succ, strmC])) (fun x hx => ?_)
    unfold dictP
    simp -dsimp only [aqT, aqU, aqN, aqS, ↓seqK, ↓blkK, ↓loopK, step, stepBin, Nat.add_assoc nid, ↓reduceIte, Option.toList, ← Int.ofNat_tmod, ← Int.ofNat_tdiv, simprocAttr, BEq.rfl, LN_succ]
    refine ⟨⟨x, hx.1, by omega⟩, Cov.go [(nid + 8, nid + 28)] [] ?_⟩
    simp [cvT, step, res, boxP2, strmC, ColsEq.refl, -List.getD_eq_getElem?_getD]
  simp only at hB hq ⊢
  have hW := hB.w (by omega)
  have hrl := hB.rl
  have hgl := hB.gl
  try unfold boxP2
  refine SR.seqW (ι := {x : List Int × List UInt8 × List UInt8 // x.1.length ≤ 101}) (fun x => ⟨[(5, .sl (nid + 20) 0 x.1.1.length), (6, .str x.1.2.1), (7, .str x.1.2.2), (4, .ptr (nid + 8) 0)], [(nid + 20, arrI x.1.1), (nid + 8, boxP2 g0 r0 b G R)], nid + 300, nid⟩) ?_ (fun ⟨⟨T, fa, fb⟩, hT⟩ => ?_)
  · refine SR.run (t := .mk) ?_
    have hsn := fun m (hm : nid + 12 < m) => testList_I (nid + 12) m nl A q g0 r0 b G R hm (by omega) hA (by omega)
    unfold dictP at hsn
    simp -dsimp only [aqT, aqU, aqN, aqS, ↓seqK, ↓blkK, ↓loopK, step, stepBin, Nat.add_assoc nid, ↓reduceIte, Option.toList, ← Int.ofNat_tmod, ← Int.ofNat_tdiv, simprocAttr, BEq.rfl, LN_succ]
    refine CallO.any (hsn _ (by omega)) (subH_get (by simp only [aqT, aqU, aqN, aqS, ↓seqK, ↓blkK, ↓loopK, step, stepBin, Nat.add_assoc nid, ↓reduceIte, Option.toList, ← Int.ofNat_tmod, ← Int.ofNat_tdiv, simprocAttr, BEq.rfl, LN_succ, strmC])) (fun x hx => ?_)
    try unfold arrI
    simp -dsimp only [aqT, aqU, aqN, aqS, ↓seqK, ↓blkK, ↓loopK, step, stepBin, Nat.add_assoc nid, ↓reduceIte, Option.toList, ← Int.ofNat_tmod, ← Int.ofNat_tdiv, simprocAttr, BEq.rfl, LN_succ, strmC_low]
    refine CallO.on (arow_c (nid + 12) _ nl A x.2 (by omega) (by have := hx.2; omega) hA) (subH_get (by simp only [aqT, aqU, aqN, aqS, ↓seqK, ↓blkK, ↓loopK, step, stepBin, Nat.add_assoc nid, ↓reduceIte, Option.toList, ← Int.ofNat_tmod, ← Int.ofNat_tdiv, simprocAttr, BEq.rfl, LN_succ])) ?_
    simp -dsimp only [aqT, aqU, aqN, aqS, ↓seqK, ↓blkK, ↓loopK, step, stepBin, Nat.add_assoc nid, ↓reduceIte, Option.toList, ← Int.ofNat_tmod, ← Int.ofNat_tdiv, simprocAttr, BEq.rfl, LN_succ, strmC_low]
    refine CallO.on (arow_c (nid + 12) _ nl A (x.2 + 1) (by omega) (by have := hx.2; omega) hA) (subH_get (by simp only [aqT, aqU, aqN, aqS, ↓seqK, ↓blkK, ↓loopK, step, stepBin, Nat.add_assoc nid, ↓reduceIte, Option.toList, ← Int.ofNat_tmod, ← Int.ofNat_tdiv, simprocAttr, BEq.rfl, LN_succ])) ?_
    simp -dsimp only [aqT, aqU, aqN, aqS, ↓seqK, ↓blkK, ↓loopK, step, stepBin, Nat.add_assoc nid, ↓reduceIte, Option.toList, ← Int.ofNat_tmod, ← Int.ofNat_tdiv, simprocAttr, BEq.rfl, LN_succ, strmC_low]
    refine ⟨⟨(x.1, arowV A x.2, arowV A (x.2 + 1)), hx.1⟩, Cov.go [(nid + 20, nid + 208)] [] ?_⟩
    simp [cvT, step, res, boxP2, arrI, strmC, ColsEq.refl, -List.getD_eq_getElem?_getD]
  simp only at hT ⊢
  try unfold arrI
  try unfold boxP2
  refine SR.freezeB [nid + 20] (fun n2 => ?_)
  simp only [frzS, frzH, frzBlk, lends, lend, kill, noOs, aqT, aqU, aqN, aqS, ↓seqK, ↓blkK, ↓loopK, step, stepBin, Nat.add_assoc nid, ↓reduceIte, Option.toList, ← Int.ofNat_tmod, ← Int.ofNat_tdiv, simprocAttr, BEq.rfl, LN_succ]
  generalize n2 (nid + 20) = ns
  have hsr := fun m => dictR_c g0 r0 b G R m hW
  unfold dictP at hsr
  refine SR.seqTo ⟨[(8, .int .i64 (dictV G R)), (5, litI ns T), (6, .str fa), (7, .str fb), (4, .ptr (nid + 8) 0)], [(nid + 8, boxP2 g0 r0 b G R)], nid + 400, nid⟩ ?_ ?_
  · simp -dsimp only [aqT, aqU, aqN, aqS, ↓seqK, ↓blkK, ↓loopK, step, stepBin, Nat.add_assoc nid, ↓reduceIte, Option.toList, ← Int.ofNat_tmod, ← Int.ofNat_tdiv, simprocAttr, BEq.rfl, LN_succ]
    refine CallO.pure (hsr _) ?_
    simp -dsimp only [aqT, aqU, aqN, aqS, ↓seqK, ↓blkK, ↓loopK, step, stepBin, Nat.add_assoc nid, ↓reduceIte, Option.toList, ← Int.ofNat_tmod, ← Int.ofNat_tdiv, simprocAttr, BEq.rfl, LN_succ]
    refine Cov.go [] [] ?_
    simp [cvT, step, res, boxP2, litI, arrI, arrS, arrG, resP, fracB, ColsEq.refl, -List.getD_eq_getElem?_getD]
  clear hsr
  by_cases hV : dictV G R = 0
  · skip
    have hdc := fun m => dist_c g0 r0 b G R fa fb m hW hV
    have hdr := fun m => distR_c g0 r0 b G R fa fb m hW hV
    have hG0 := (dict_ok hV).lo
    have hG1 := (dict_ok hV).hi
    unfold dictP at hdc hdr
    rw [hV]
    by_cases hV2 : tstV G.length T = 0
    · skip
      have h1 := fun m => detected_c g0 r0 b G R ns T m hW hV hV2
      have h2 := fun m => groupsOk_c g0 r0 b G R ns T m hW hrl hV hV2
      have h3 := fun m => resOk_c g0 r0 b G R ns T m hW hrl hV hV2
      have k0 := fun m => tstR_c g0 r0 b G R ns T m hW (by omega)
      have k1 := fun m => detR_c g0 r0 b G R ns T m hW hV hV2
      have k2 := fun m => groupsOf_c g0 r0 b G R ns T m hW hV hrl (by omega) (tstV_in hV2).2
      have k3 := fun m => resOf_c g0 r0 b G R ns T m hW hrl hV hV2
      rw [hV2] at k0
      obtain ⟨hyl, hnl⟩ := yn_len G R T R.length
      have hgl2 := (grpD_len (G := G) (R := R) (T := T)).2
      have hgs : ∀ j, ((grpD G R T).getD j []).length ≤ 1000000 := fun j => by
        have := grps_short (K := keyD G R T) (N := nameD G R) (R.length + 1) j
        unfold grpD
        omega
      generalize yesL G R T R.length = Y at *
      generalize notL G R T R.length = V2 at *
      generalize resF G R T = rf at *
      generalize grpD G R T = gs at *
      unfold dictP litI at *
      try unfold boxP2
      try unfold litI
      refine SR.seqTo ⟨[(11, .int .i64 0), (10, .sl (nid + 36) 0 V2.length), (9, .sl (nid + 32) 0 Y.length), (8, .int .i64 0), (5, litI ns T), (6, .str fa), (7, .str fb), (4, .ptr (nid + 8) 0)], [(nid + 36, arrS V2), (nid + 32, arrS Y), (nid + 8, boxP2 g0 r0 b G R)], nid + 500, nid⟩ ?_ ?_
      · simp -dsimp only [aqT, aqU, aqN, aqS, ↓seqK, ↓blkK, ↓loopK, step, stepBin, Nat.add_assoc nid, ↓reduceIte, Option.toList, ← Int.ofNat_tmod, ← Int.ofNat_tdiv, simprocAttr, BEq.rfl, LN_succ]
        refine CallO.pure (h1 _) ?_
        try unfold arrS
        simp -dsimp only [aqT, aqU, aqN, aqS, ↓seqK, ↓blkK, ↓loopK, step, stepBin, Nat.add_assoc nid, ↓reduceIte, Option.toList, ← Int.ofNat_tmod, ← Int.ofNat_tdiv, simprocAttr, BEq.rfl, LN_succ]
        refine Cov.go [(nid + 32, nid + 408), (nid + 36, nid + 409)] [] ?_
        simp [cvT, step, res, boxP2, litI, arrI, arrS, arrG, resP, fracB, ColsEq.refl, -List.getD_eq_getElem?_getD]
      try unfold boxP2
      try unfold litI
      try unfold arrS
      refine SR.seqTo ⟨[(13, .int .i64 0), (12, .sl (nid + 40) 0 gs.length), (11, .int .i64 0), (10, .sl (nid + 36) 0 V2.length), (9, .sl (nid + 32) 0 Y.length), (8, .int .i64 0), (5, litI ns T), (6, .str fa), (7, .str fb), (4, .ptr (nid + 8) 0)], [(nid + 40, arrG gs), (nid + 36, arrS V2), (nid + 32, arrS Y), (nid + 8, boxP2 g0 r0 b G R)], nid + 600, nid⟩ ?_ ?_
      · simp -dsimp only [aqT, aqU, aqN, aqS, ↓seqK, ↓blkK, ↓loopK, step, stepBin, Nat.add_assoc nid, ↓reduceIte, Option.toList, ← Int.ofNat_tmod, ← Int.ofNat_tdiv, simprocAttr, BEq.rfl, LN_succ]
        refine CallO.pure (h2 _) ?_
        try unfold arrG
        simp -dsimp only [aqT, aqU, aqN, aqS, ↓seqK, ↓blkK, ↓loopK, step, stepBin, Nat.add_assoc nid, ↓reduceIte, Option.toList, ← Int.ofNat_tmod, ← Int.ofNat_tdiv, simprocAttr, BEq.rfl, LN_succ]
        refine Cov.go [(nid + 40, nid + 508)] [] ?_
        simp [cvT, step, res, boxP2, litI, arrI, arrS, arrG, resP, fracB, ColsEq.refl, -List.getD_eq_getElem?_getD]
      try unfold boxP2
      try unfold litI
      try unfold arrS
      try unfold arrG
      refine SR.seqTo ⟨[(14, .ptr (nid + 28) 0), (15, .bool rf.2.2), (16, .int .i64 0), (13, .int .i64 0), (12, .sl (nid + 40) 0 gs.length), (11, .int .i64 0), (10, .sl (nid + 36) 0 V2.length), (9, .sl (nid + 32) 0 Y.length), (8, .int .i64 0), (5, litI ns T), (6, .str fa), (7, .str fb), (4, .ptr (nid + 8) 0)], [(nid + 40, arrG gs), (nid + 36, arrS V2), (nid + 32, arrS Y), (nid + 8, boxP2 g0 r0 b G R), (nid + 28, fracB rf)], nid + 700, nid⟩ ?_ ?_
      · simp -dsimp only [aqT, aqU, aqN, aqS, ↓seqK, ↓blkK, ↓loopK, step, stepBin, Nat.add_assoc nid, ↓reduceIte, Option.toList, ← Int.ofNat_tmod, ← Int.ofNat_tdiv, simprocAttr, BEq.rfl, LN_succ]
        refine CallO.pure (h3 _) ?_
        unfold resP
        simp -dsimp only [aqT, aqU, aqN, aqS, ↓seqK, ↓blkK, ↓loopK, step, stepBin, Nat.add_assoc nid, ↓reduceIte, Option.toList, ← Int.ofNat_tmod, ← Int.ofNat_tdiv, simprocAttr, BEq.rfl, LN_succ]
        refine Cov.go [(nid + 28, nid + 628)] [] ?_
        simp [cvT, step, res, boxP2, litI, arrI, arrS, arrG, resP, fracB, ColsEq.refl, -List.getD_eq_getElem?_getD]
      try unfold arrS
      try unfold arrG
      try unfold fracB
      try unfold boxP2
      try unfold litI
      refine SR.seqTo ⟨[(14, .ptr (nid + 28) 0), (15, .bool rf.2.2), (16, .int .i64 0), (13, .int .i64 0), (12, .sl (nid + 40) 0 gs.length), (11, .int .i64 0), (10, .sl (nid + 36) 0 V2.length), (9, .sl (nid + 32) 0 Y.length), (8, .int .i64 0), (5, litI ns T), (6, .str fa), (7, .str fb), (4, .ptr (nid + 8) 0), (17, .sl (nid + 24) 0 (dsL R G.length (ixR R fa) (ixR R fb)).1.length), (18, .int .i64 (dsL R G.length (ixR R fa) (ixR R fb)).2)], [(nid + 40, arrG gs), (nid + 36, arrS V2), (nid + 32, arrS Y), (nid + 8, boxP2 g0 r0 b G R), (nid + 28, fracB rf), (nid + 24, arrI (dsL R G.length (ixR R fa) (ixR R fb)).1)], nid + 800, nid⟩ ?_ ?_
      · simp -dsimp only [aqT, aqU, aqN, aqS, ↓seqK, ↓blkK, ↓loopK, step, stepBin, Nat.add_assoc nid, ↓reduceIte, Option.toList, ← Int.ofNat_tmod, ← Int.ofNat_tdiv, simprocAttr, BEq.rfl, LN_succ]
        refine CallO.pure (hdc _) ?_
        cases ixR R fa <;> cases ixR R fb <;> simp only [dsP, dsU, dsL] <;> unfold arrI <;> simp -dsimp only [aqT, aqU, aqN, aqS, ↓seqK, ↓blkK, ↓loopK, step, stepBin, Nat.add_assoc nid, ↓reduceIte, Option.toList, ← Int.ofNat_tmod, ← Int.ofNat_tdiv, simprocAttr, BEq.rfl, LN_succ]
        all_goals first
          | (refine Cov.go [] [(nid + 24, 1)] ?_
             simp [cvT, step, res, boxP2, litI, arrI, arrS, arrG, resP, fracB, ColsEq.refl, -List.getD_eq_getElem?_getD]
             done)
          | (refine Cov.go [(nid + 24, nid + 712)] [] ?_
             simp [cvT, step, res, boxP2, litI, arrI, arrS, arrG, resP, fracB, ColsEq.refl, -List.getD_eq_getElem?_getD])
      refine SR.seq ?_
      try unfold arrI
      try unfold arrS
      try unfold arrG
      try unfold fracB
      try unfold boxP2
      try unfold litI
      simp -dsimp only [aqT, aqU, aqN, aqS, ↓seqK, ↓blkK, ↓loopK, step, stepBin, Nat.add_assoc nid, ↓reduceIte, Option.toList, ← Int.ofNat_tmod, ← Int.ofNat_tdiv, simprocAttr, BEq.rfl, LN_succ]
      refine SR.seq ?_
      simp -dsimp only [aqT, aqU, aqN, aqS, ↓seqK, ↓blkK, ↓loopK, step, stepBin, Nat.add_assoc nid, ↓reduceIte, Option.toList, ← Int.ofNat_tmod, ← Int.ofNat_tdiv, simprocAttr, BEq.rfl, LN_succ]
      try unfold boxP2
      try unfold litI
      refine SR.seqTo ⟨[(14, .ptr (nid + 28) 0), (15, .bool rf.2.2), (16, .int .i64 0), (13, .int .i64 0), (12, .sl (nid + 40) 0 gs.length), (11, .int .i64 0), (10, .sl (nid + 36) 0 V2.length), (9, .sl (nid + 32) 0 Y.length), (8, .int .i64 0), (5, litI ns T), (6, .str fa), (7, .str fb), (4, .ptr (nid + 8) 0), (17, .sl (nid + 24) 0 (dsL R G.length (ixR R fa) (ixR R fb)).1.length), (18, .int .i64 (dsL R G.length (ixR R fa) (ixR R fb)).2), (20, .sl (nid + 44) 0 (dsL R G.length (ixR R fa) (ixR R fb)).1.length), (19, .int .i64 (dsL R G.length (ixR R fa) (ixR R fb)).2)], [(nid + 40, arrG gs), (nid + 36, arrS V2), (nid + 32, arrS Y), (nid + 8, boxP2 g0 r0 b G R), (nid + 28, fracB rf), (nid + 24, arrI (dsL R G.length (ixR R fa) (ixR R fb)).1), (nid + 44, arrI (dsL R G.length (ixR R fa) (ixR R fb)).1)], nid + 900, nid⟩ ?_ ?_
      · simp -dsimp only [aqT, aqU, aqN, aqS, ↓seqK, ↓blkK, ↓loopK, step, stepBin, Nat.add_assoc nid, ↓reduceIte, Option.toList, ← Int.ofNat_tmod, ← Int.ofNat_tdiv, simprocAttr, BEq.rfl, LN_succ]
        refine CallO.pure (hdr _) ?_
        cases ixR R fa <;> cases ixR R fb <;> simp only [dsP, dsU, dsL] <;> unfold arrI <;> simp -dsimp only [aqT, aqU, aqN, aqS, ↓seqK, ↓blkK, ↓loopK, step, stepBin, Nat.add_assoc nid, ↓reduceIte, Option.toList, ← Int.ofNat_tmod, ← Int.ofNat_tdiv, simprocAttr, BEq.rfl, LN_succ]
        all_goals first
          | (refine Cov.go [] [(nid + 44, 1)] ?_
             simp [cvT, step, res, boxP2, litI, arrI, arrS, arrG, resP, fracB, ColsEq.refl, -List.getD_eq_getElem?_getD]
             done)
          | (refine Cov.go [(nid + 44, nid + 832)] [] ?_
             simp [cvT, step, res, boxP2, litI, arrI, arrS, arrG, resP, fracB, ColsEq.refl, -List.getD_eq_getElem?_getD])
      have hVl := dsL_len R G.length (ixR R fa) (ixR R fb)
      generalize dsL R G.length (ixR R fa) (ixR R fb) = dl at *
      obtain ⟨V, c⟩ := dl
      simp only at hVl ⊢
      try unfold arrI
      try unfold arrS
      try unfold arrG
      try unfold fracB
      try unfold boxP2
      try unfold litI
      refine SR.freezeB [nid + 24, nid + 44] (fun n3 => ?_)
      simp only [frzS, frzH, frzBlk, lends, lend, kill, noOs, aqT, aqU, aqN, aqS, ↓seqK, ↓blkK, ↓loopK, step, stepBin, Nat.add_assoc nid, ↓reduceIte, Option.toList, ← Int.ofNat_tmod, ← Int.ofNat_tdiv, simprocAttr, BEq.rfl, LN_succ]
      generalize n3 (nid + 24) = f1
      generalize n3 (nid + 44) = f2
      have q1 := fun m => equalI_c f1 f2 V V m (by omega) (by omega)
      rw [beq_self_eq_true] at q1
      unfold litI at q1
      refine SR.seqTo ⟨[(14, .ptr (nid + 28) 0), (15, .bool rf.2.2), (16, .int .i64 0), (13, .int .i64 0), (12, .sl (nid + 40) 0 gs.length), (11, .int .i64 0), (10, .sl (nid + 36) 0 V2.length), (9, .sl (nid + 32) 0 Y.length), (8, .int .i64 0), (5, litI ns T), (4, .ptr (nid + 8) 0)], [(nid + 40, arrG gs), (nid + 36, arrS V2), (nid + 32, arrS Y), (nid + 8, boxP2 g0 r0 b G R), (nid + 28, fracB rf)], nid + 1200, nid⟩ ?_ ?_
      · simp -dsimp only [aqT, aqU, aqN, aqS, ↓seqK, ↓blkK, ↓loopK, step, stepBin, Nat.add_assoc nid, ↓reduceIte, Option.toList, ← Int.ofNat_tmod, ← Int.ofNat_tdiv, simprocAttr, BEq.rfl, LN_succ, bne_self_eq_false]
        refine CallO.pure (q1 _) ?_
        simp -dsimp only [aqT, aqU, aqN, aqS, ↓seqK, ↓blkK, ↓loopK, step, stepBin, Nat.add_assoc nid, ↓reduceIte, Option.toList, ← Int.ofNat_tmod, ← Int.ofNat_tdiv, simprocAttr, BEq.rfl, LN_succ, bne_self_eq_false, Bool.not_true]
        refine Cov.go [] [] ?_
        simp [cvT, step, res, boxP2, litI, arrI, arrS, arrG, resP, fracB, ColsEq.refl, -List.getD_eq_getElem?_getD]
      try unfold arrS
      try unfold arrG
      try unfold fracB
      try unfold boxP2
      try unfold litI
      refine SR.seq ?_
      simp -dsimp only [aqT, aqU, aqN, aqS, ↓seqK, ↓blkK, ↓loopK, step, stepBin, Nat.add_assoc nid, ↓reduceIte, Option.toList, ← Int.ofNat_tmod, ← Int.ofNat_tdiv, simprocAttr, BEq.rfl, LN_succ]
      refine SR.seqTo ⟨[(21, .int .i64 0), (14, .ptr (nid + 28) 0), (15, .bool rf.2.2), (16, .int .i64 0), (13, .int .i64 0), (12, .sl (nid + 40) 0 gs.length), (11, .int .i64 0), (10, .sl (nid + 36) 0 V2.length), (9, .sl (nid + 32) 0 Y.length), (8, .int .i64 0), (5, litI ns T), (4, .ptr (nid + 8) 0)], [(nid + 40, arrG gs), (nid + 36, arrS V2), (nid + 32, arrS Y), (nid + 8, boxP2 g0 r0 b G R), (nid + 28, fracB rf)], nid + 1300, nid⟩ ?_ ?_
      · simp -dsimp only [aqT, aqU, aqN, aqS, ↓seqK, ↓blkK, ↓loopK, step, stepBin, Nat.add_assoc nid, ↓reduceIte, Option.toList, ← Int.ofNat_tmod, ← Int.ofNat_tdiv, simprocAttr, BEq.rfl, LN_succ]
        refine CallO.pure (k0 _) ?_
        simp -dsimp only [aqT, aqU, aqN, aqS, ↓seqK, ↓blkK, ↓loopK, step, stepBin, Nat.add_assoc nid, ↓reduceIte, Option.toList, ← Int.ofNat_tmod, ← Int.ofNat_tdiv, simprocAttr, BEq.rfl, LN_succ]
        refine Cov.go [] [] ?_
        simp [cvT, step, res, boxP2, litI, arrI, arrS, arrG, resP, fracB, ColsEq.refl, -List.getD_eq_getElem?_getD]
      try unfold arrS
      try unfold arrG
      try unfold fracB
      try unfold boxP2
      try unfold litI
      refine SR.seq ?_
      simp -dsimp only [aqT, aqU, aqN, aqS, ↓seqK, ↓blkK, ↓loopK, step, stepBin, Nat.add_assoc nid, ↓reduceIte, Option.toList, ← Int.ofNat_tmod, ← Int.ofNat_tdiv, simprocAttr, BEq.rfl, LN_succ]
      refine SR.seqTo ⟨[(23, .sl (nid + 52) 0 V2.length), (22, .sl (nid + 48) 0 Y.length), (14, .ptr (nid + 28) 0), (15, .bool rf.2.2), (16, .int .i64 0), (13, .int .i64 0), (12, .sl (nid + 40) 0 gs.length), (11, .int .i64 0), (10, .sl (nid + 36) 0 V2.length), (9, .sl (nid + 32) 0 Y.length), (5, litI ns T), (4, .ptr (nid + 8) 0)], [(nid + 52, arrS V2), (nid + 48, arrS Y), (nid + 40, arrG gs), (nid + 36, arrS V2), (nid + 32, arrS Y), (nid + 8, boxP2 g0 r0 b G R), (nid + 28, fracB rf)], nid + 1500, nid⟩ ?_ ?_
      · simp -dsimp only [aqT, aqU, aqN, aqS, ↓seqK, ↓blkK, ↓loopK, step, stepBin, Nat.add_assoc nid, ↓reduceIte, Option.toList, ← Int.ofNat_tmod, ← Int.ofNat_tdiv, simprocAttr, BEq.rfl, LN_succ]
        refine CallO.pure (k1 _) ?_
        try unfold arrS
        simp -dsimp only [aqT, aqU, aqN, aqS, ↓seqK, ↓blkK, ↓loopK, step, stepBin, Nat.add_assoc nid, ↓reduceIte, Option.toList, ← Int.ofNat_tmod, ← Int.ofNat_tdiv, simprocAttr, BEq.rfl, LN_succ]
        refine Cov.go [(nid + 48, nid + 1316), (nid + 52, nid + 1317)] [] ?_
        simp [cvT, step, res, boxP2, litI, arrI, arrS, arrG, resP, fracB, ColsEq.refl, -List.getD_eq_getElem?_getD]
      try unfold arrS
      try unfold arrG
      try unfold fracB
      try unfold boxP2
      try unfold litI
      refine SR.seqTo ⟨[(24, .ptr (nid + 56) 0), (25, .bool rf.2.2), (23, .sl (nid + 52) 0 V2.length), (22, .sl (nid + 48) 0 Y.length), (14, .ptr (nid + 28) 0), (15, .bool rf.2.2), (16, .int .i64 0), (13, .int .i64 0), (12, .sl (nid + 40) 0 gs.length), (11, .int .i64 0), (10, .sl (nid + 36) 0 V2.length), (9, .sl (nid + 32) 0 Y.length), (5, litI ns T), (4, .ptr (nid + 8) 0)], [(nid + 56, fracB rf), (nid + 52, arrS V2), (nid + 48, arrS Y), (nid + 40, arrG gs), (nid + 36, arrS V2), (nid + 32, arrS Y), (nid + 8, boxP2 g0 r0 b G R), (nid + 28, fracB rf)], nid + 1600, nid⟩ ?_ ?_
      · simp -dsimp only [aqT, aqU, aqN, aqS, ↓seqK, ↓blkK, ↓loopK, step, stepBin, Nat.add_assoc nid, ↓reduceIte, Option.toList, ← Int.ofNat_tmod, ← Int.ofNat_tdiv, simprocAttr, BEq.rfl, LN_succ]
        refine CallO.pure (k3 _) ?_
        unfold resP
        simp -dsimp only [aqT, aqU, aqN, aqS, ↓seqK, ↓blkK, ↓loopK, step, stepBin, Nat.add_assoc nid, ↓reduceIte, Option.toList, ← Int.ofNat_tmod, ← Int.ofNat_tdiv, simprocAttr, BEq.rfl, LN_succ]
        refine Cov.go [(nid + 56, nid + 1524)] [] ?_
        simp [cvT, step, res, boxP2, litI, arrI, arrS, arrG, resP, fracB, ColsEq.refl, -List.getD_eq_getElem?_getD]
      try unfold arrS
      try unfold arrG
      try unfold fracB
      try unfold boxP2
      try unfold litI
      refine SR.freezeB [nid + 32, nid + 36, nid + 40, nid + 48, nid + 52] (fun n4 => ?_)
      simp only [frzS, frzH, frzBlk, lends, lend, kill, noOs, aqT, aqU, aqN, aqS, ↓seqK, ↓blkK, ↓loopK, step, stepBin, Nat.add_assoc nid, ↓reduceIte, Option.toList, ← Int.ofNat_tmod, ← Int.ofNat_tdiv, simprocAttr, BEq.rfl, LN_succ]
      generalize n4 (nid + 32) = m1
      generalize n4 (nid + 36) = m2
      generalize n4 (nid + 40) = m3
      generalize n4 (nid + 48) = m4
      generalize n4 (nid + 52) = m5
      have p1 := fun m => equalS_c m1 m4 Y Y m (by omega) (by omega)
      have p2 := fun m => equalS_c m2 m5 V2 V2 m (by omega) (by omega)
      have p3 := fun x m => eqFuncG_c m3 x gs gs m (by omega) (by omega) hgs hgs
      rw [beq_self_eq_true] at p1 p2
      simp only [beq_self_eq_true] at p3
      unfold litS at p1 p2
      unfold litG at p3
      refine SR.run (t := .mk) ?_
      simp -dsimp only [aqT, aqU, aqN, aqS, ↓seqK, ↓blkK, ↓loopK, step, stepBin, Nat.add_assoc nid, ↓reduceIte, Option.toList, ← Int.ofNat_tmod, ← Int.ofNat_tdiv, simprocAttr, BEq.rfl, LN_succ, beq_self_eq_true]
      refine CallO.pure (p1 _) ?_
      simp -dsimp only [aqT, aqU, aqN, aqS, ↓seqK, ↓blkK, ↓loopK, step, stepBin, Nat.add_assoc nid, ↓reduceIte, Option.toList, ← Int.ofNat_tmod, ← Int.ofNat_tdiv, simprocAttr, BEq.rfl, LN_succ, beq_self_eq_true]
      refine CallO.pure (p2 _) ?_
      simp -dsimp only [aqT, aqU, aqN, aqS, ↓seqK, ↓blkK, ↓loopK, step, stepBin, Nat.add_assoc nid, ↓reduceIte, Option.toList, ← Int.ofNat_tmod, ← Int.ofNat_tdiv, simprocAttr, BEq.rfl, LN_succ, beq_self_eq_true]
      refine CallO.pure (k2 _) ?_
      try unfold arrG
      simp -dsimp only [aqT, aqU, aqN, aqS, ↓seqK, ↓blkK, ↓loopK, step, stepBin, Nat.add_assoc nid, ↓reduceIte, Option.toList, ← Int.ofNat_tmod, ← Int.ofNat_tdiv, simprocAttr, BEq.rfl, LN_succ, beq_self_eq_true]
      refine CallO.lent [nid + 1680] (fun nl' => by
        simp only [lends, lend, noOs, aqT, aqU, aqN, aqS, ↓seqK, ↓blkK, ↓loopK, step, stepBin, Nat.add_assoc nid, ↓reduceIte, Option.toList, ← Int.ofNat_tmod, ← Int.ofNat_tdiv, simprocAttr, BEq.rfl, LN_succ]
        exact p3 _ _) rfl rfl (by simp [getH, idS1, idS2]) ?_
      simp -dsimp only [aqT, aqU, aqN, aqS, ↓seqK, ↓blkK, ↓loopK, step, stepBin, Nat.add_assoc nid, ↓reduceIte, Option.toList, ← Int.ofNat_tmod, ← Int.ofNat_tdiv, simprocAttr, BEq.rfl, LN_succ, beq_self_eq_true]
      refine CallO.pure (diagnosedD_c _) ?_
      simp -dsimp only [aqT, aqU, aqN, aqS, ↓seqK, ↓blkK, ↓loopK, step, stepBin, Nat.add_assoc nid, ↓reduceIte, Option.toList, ← Int.ofNat_tmod, ← Int.ofNat_tdiv, simprocAttr, BEq.rfl, LN_succ]
      refine RetOK.pure (.inl rfl) rfl ?_
      simp [cvT, step, res]
    · have hE : bothTV G R T ≠ 0 := by unfold bothTV; rw [if_neg (by simp [hV])]; exact hV2
      have eE : bothTV G R T = tstV G.length T := by unfold bothTV; rw [if_neg (by simp [hV])]
      have h1 := fun m => detBad_c g0 r0 b G R ns T m hW (by omega) hE
      have h2 := fun m => groupsBad_c g0 r0 b G R ns T m hW (by omega) hE
      have h3 := fun m => resBad_c g0 r0 b G R ns T m hW (by omega) hE
      have k0 := fun m => tstR_c g0 r0 b G R ns T m hW (by omega)
      rw [← eE] at k0
      have hv0 : (bothTV G R T == 0) = false := by simpa using hE
      have hv1 : (bothTV G R T != 0) = true := by simpa using hE
      generalize bothTV G R T = v at *
      unfold dictP litI at *
      try unfold boxP2
      try unfold litI
      refine SR.seqTo ⟨[(11, .int .i64 v), (10, .lit true 0 []), (9, .lit true 0 []), (8, .int .i64 0), (5, litI ns T), (6, .str fa), (7, .str fb), (4, .ptr (nid + 8) 0)], [(nid + 8, boxP2 g0 r0 b G R)], nid + 500, nid⟩ ?_ ?_
      · simp -dsimp only [aqT, aqU, aqN, aqS, ↓seqK, ↓blkK, ↓loopK, step, stepBin, Nat.add_assoc nid, ↓reduceIte, Option.toList, ← Int.ofNat_tmod, ← Int.ofNat_tdiv, simprocAttr, BEq.rfl, LN_succ]
        refine CallO.pure (h1 _) ?_
        simp -dsimp only [aqT, aqU, aqN, aqS, ↓seqK, ↓blkK, ↓loopK, step, stepBin, Nat.add_assoc nid, ↓reduceIte, Option.toList, ← Int.ofNat_tmod, ← Int.ofNat_tdiv, simprocAttr, BEq.rfl, LN_succ]
        refine Cov.go [] [] ?_
        simp [cvT, step, res, boxP2, litI, arrI, arrS, arrG, resP, fracB, ColsEq.refl, -List.getD_eq_getElem?_getD]
      try unfold boxP2
      try unfold litI
      refine SR.seqTo ⟨[(13, .int .i64 v), (12, .lit true 0 []), (11, .int .i64 v), (10, .lit true 0 []), (9, .lit true 0 []), (8, .int .i64 0), (5, litI ns T), (6, .str fa), (7, .str fb), (4, .ptr (nid + 8) 0)], [(nid + 8, boxP2 g0 r0 b G R)], nid + 600, nid⟩ ?_ ?_
      · simp -dsimp only [aqT, aqU, aqN, aqS, ↓seqK, ↓blkK, ↓loopK, step, stepBin, Nat.add_assoc nid, ↓reduceIte, Option.toList, ← Int.ofNat_tmod, ← Int.ofNat_tdiv, simprocAttr, BEq.rfl, LN_succ]
        refine CallO.pure (h2 _) ?_
        simp -dsimp only [aqT, aqU, aqN, aqS, ↓seqK, ↓blkK, ↓loopK, step, stepBin, Nat.add_assoc nid, ↓reduceIte, Option.toList, ← Int.ofNat_tmod, ← Int.ofNat_tdiv, simprocAttr, BEq.rfl, LN_succ]
        refine Cov.go [] [] ?_
        simp [cvT, step, res, boxP2, litI, arrI, arrS, arrG, resP, fracB, ColsEq.refl, -List.getD_eq_getElem?_getD]
      try unfold boxP2
      try unfold litI
      refine SR.seqTo ⟨[(14, .ptr (nid + 28) 0), (15, .bool false), (16, .int .i64 v), (13, .int .i64 v), (12, .lit true 0 []), (11, .int .i64 v), (10, .lit true 0 []), (9, .lit true 0 []), (8, .int .i64 0), (5, litI ns T), (6, .str fa), (7, .str fb), (4, .ptr (nid + 8) 0)], [(nid + 8, boxP2 g0 r0 b G R), (nid + 28, fracB (0, 0, false))], nid + 700, nid⟩ ?_ ?_
      · simp -dsimp only [aqT, aqU, aqN, aqS, ↓seqK, ↓blkK, ↓loopK, step, stepBin, Nat.add_assoc nid, ↓reduceIte, Option.toList, ← Int.ofNat_tmod, ← Int.ofNat_tdiv, simprocAttr, BEq.rfl, LN_succ]
        refine CallO.pure (h3 _) ?_
        simp -dsimp only [aqT, aqU, aqN, aqS, ↓seqK, ↓blkK, ↓loopK, step, stepBin, Nat.add_assoc nid, ↓reduceIte, Option.toList, ← Int.ofNat_tmod, ← Int.ofNat_tdiv, simprocAttr, BEq.rfl, LN_succ]
        refine Cov.go [(nid + 28, nid + 628)] [] ?_
        simp [cvT, step, res, boxP2, litI, arrI, arrS, arrG, resP, fracB, ColsEq.refl, -List.getD_eq_getElem?_getD]
      try unfold fracB
      try unfold boxP2
      try unfold litI
      refine SR.seqTo ⟨[(14, .ptr (nid + 28) 0), (15, .bool false), (16, .int .i64 v), (13, .int .i64 v), (12, .lit true 0 []), (11, .int .i64 v), (10, .lit true 0 []), (9, .lit true 0 []), (8, .int .i64 0), (5, litI ns T), (6, .str fa), (7, .str fb), (4, .ptr (nid + 8) 0), (17, .sl (nid + 24) 0 (dsL R G.length (ixR R fa) (ixR R fb)).1.length), (18, .int .i64 (dsL R G.length (ixR R fa) (ixR R fb)).2)], [(nid + 8, boxP2 g0 r0 b G R), (nid + 28, fracB (0, 0, false)), (nid + 24, arrI (dsL R G.length (ixR R fa) (ixR R fb)).1)], nid + 800, nid⟩ ?_ ?_
      · simp -dsimp only [aqT, aqU, aqN, aqS, ↓seqK, ↓blkK, ↓loopK, step, stepBin, Nat.add_assoc nid, ↓reduceIte, Option.toList, ← Int.ofNat_tmod, ← Int.ofNat_tdiv, simprocAttr, BEq.rfl, LN_succ]
        refine CallO.pure (hdc _) ?_
        cases ixR R fa <;> cases ixR R fb <;> simp only [dsP, dsU, dsL] <;> unfold arrI <;> simp -dsimp only [aqT, aqU, aqN, aqS, ↓seqK, ↓blkK, ↓loopK, step, stepBin, Nat.add_assoc nid, ↓reduceIte, Option.toList, ← Int.ofNat_tmod, ← Int.ofNat_tdiv, simprocAttr, BEq.rfl, LN_succ]
        all_goals first
          | (refine Cov.go [] [(nid + 24, 1)] ?_
             simp [cvT, step, res, boxP2, litI, arrI, arrS, arrG, resP, fracB, ColsEq.refl, -List.getD_eq_getElem?_getD]
             done)
          | (refine Cov.go [(nid + 24, nid + 712)] [] ?_
             simp [cvT, step, res, boxP2, litI, arrI, arrS, arrG, resP, fracB, ColsEq.refl, -List.getD_eq_getElem?_getD])
      refine SR.seq ?_
      try unfold arrI
      try unfold fracB
      try unfold boxP2
      try unfold litI
      simp -dsimp only [aqT, aqU, aqN, aqS, ↓seqK, ↓blkK, ↓loopK, step, stepBin, Nat.add_assoc nid, ↓reduceIte, Option.toList, ← Int.ofNat_tmod, ← Int.ofNat_tdiv, simprocAttr, BEq.rfl, LN_succ]
      refine SR.seq ?_
      simp -dsimp only [aqT, aqU, aqN, aqS, ↓seqK, ↓blkK, ↓loopK, step, stepBin, Nat.add_assoc nid, ↓reduceIte, Option.toList, ← Int.ofNat_tmod, ← Int.ofNat_tdiv, simprocAttr, BEq.rfl, LN_succ]
      try unfold boxP2
      try unfold litI
      refine SR.seqTo ⟨[(14, .ptr (nid + 28) 0), (15, .bool false), (16, .int .i64 v), (13, .int .i64 v), (12, .lit true 0 []), (11, .int .i64 v), (10, .lit true 0 []), (9, .lit true 0 []), (8, .int .i64 0), (5, litI ns T), (6, .str fa), (7, .str fb), (4, .ptr (nid + 8) 0), (17, .sl (nid + 24) 0 (dsL R G.length (ixR R fa) (ixR R fb)).1.length), (18, .int .i64 (dsL R G.length (ixR R fa) (ixR R fb)).2), (20, .sl (nid + 44) 0 (dsL R G.length (ixR R fa) (ixR R fb)).1.length), (19, .int .i64 (dsL R G.length (ixR R fa) (ixR R fb)).2)], [(nid + 8, boxP2 g0 r0 b G R), (nid + 28, fracB (0, 0, false)), (nid + 24, arrI (dsL R G.length (ixR R fa) (ixR R fb)).1), (nid + 44, arrI (dsL R G.length (ixR R fa) (ixR R fb)).1)], nid + 900, nid⟩ ?_ ?_
      · simp -dsimp only [aqT, aqU, aqN, aqS, ↓seqK, ↓blkK, ↓loopK, step, stepBin, Nat.add_assoc nid, ↓reduceIte, Option.toList, ← Int.ofNat_tmod, ← Int.ofNat_tdiv, simprocAttr, BEq.rfl, LN_succ]
        refine CallO.pure (hdr _) ?_
        cases ixR R fa <;> cases ixR R fb <;> simp only [dsP, dsU, dsL] <;> unfold arrI <;> simp -dsimp only [aqT, aqU, aqN, aqS, ↓seqK, ↓blkK, ↓loopK, step, stepBin, Nat.add_assoc nid, ↓reduceIte, Option.toList, ← Int.ofNat_tmod, ← Int.ofNat_tdiv, simprocAttr, BEq.rfl, LN_succ]
        all_goals first
          | (refine Cov.go [] [(nid + 44, 1)] ?_
             simp [cvT, step, res, boxP2, litI, arrI, arrS, arrG, resP, fracB, ColsEq.refl, -List.getD_eq_getElem?_getD]
             done)
          | (refine Cov.go [(nid + 44, nid + 832)] [] ?_
             simp [cvT, step, res, boxP2, litI, arrI, arrS, arrG, resP, fracB, ColsEq.refl, -List.getD_eq_getElem?_getD])
      have hVl := dsL_len R G.length (ixR R fa) (ixR R fb)
      generalize dsL R G.length (ixR R fa) (ixR R fb) = dl at *
      obtain ⟨V, c⟩ := dl
      simp only at hVl ⊢
      try unfold arrI
      try unfold fracB
      try unfold boxP2
      try unfold litI
      refine SR.freezeB [nid + 24, nid + 44] (fun n3 => ?_)
      simp only [frzS, frzH, frzBlk, lends, lend, kill, noOs, aqT, aqU, aqN, aqS, ↓seqK, ↓blkK, ↓loopK, step, stepBin, Nat.add_assoc nid, ↓reduceIte, Option.toList, ← Int.ofNat_tmod, ← Int.ofNat_tdiv, simprocAttr, BEq.rfl, LN_succ]
      generalize n3 (nid + 24) = f1
      generalize n3 (nid + 44) = f2
      have q1 := fun m => equalI_c f1 f2 V V m (by omega) (by omega)
      rw [beq_self_eq_true] at q1
      unfold litI at q1
      refine SR.seqTo ⟨[(14, .ptr (nid + 28) 0), (15, .bool false), (16, .int .i64 v), (13, .int .i64 v), (12, .lit true 0 []), (11, .int .i64 v), (10, .lit true 0 []), (9, .lit true 0 []), (8, .int .i64 0), (5, litI ns T), (4, .ptr (nid + 8) 0)], [(nid + 8, boxP2 g0 r0 b G R), (nid + 28, fracB (0, 0, false))], nid + 1200, nid⟩ ?_ ?_
      · simp -dsimp only [aqT, aqU, aqN, aqS, ↓seqK, ↓blkK, ↓loopK, step, stepBin, Nat.add_assoc nid, ↓reduceIte, Option.toList, ← Int.ofNat_tmod, ← Int.ofNat_tdiv, simprocAttr, BEq.rfl, LN_succ, bne_self_eq_false]
        refine CallO.pure (q1 _) ?_
        simp -dsimp only [aqT, aqU, aqN, aqS, ↓seqK, ↓blkK, ↓loopK, step, stepBin, Nat.add_assoc nid, ↓reduceIte, Option.toList, ← Int.ofNat_tmod, ← Int.ofNat_tdiv, simprocAttr, BEq.rfl, LN_succ, bne_self_eq_false, Bool.not_true]
        refine Cov.go [] [] ?_
        simp [cvT, step, res, boxP2, litI, arrI, arrS, arrG, resP, fracB, ColsEq.refl, -List.getD_eq_getElem?_getD]
      try unfold fracB
      try unfold boxP2
      try unfold litI
      refine SR.seq ?_
      simp -dsimp only [aqT, aqU, aqN, aqS, ↓seqK, ↓blkK, ↓loopK, step, stepBin, Nat.add_assoc nid, ↓reduceIte, Option.toList, ← Int.ofNat_tmod, ← Int.ofNat_tdiv, simprocAttr, BEq.rfl, LN_succ]
      refine SR.seqTo ⟨[(21, .int .i64 v), (14, .ptr (nid + 28) 0), (15, .bool false), (16, .int .i64 v), (13, .int .i64 v), (12, .lit true 0 []), (11, .int .i64 v), (10, .lit true 0 []), (9, .lit true 0 []), (8, .int .i64 0), (5, litI ns T), (4, .ptr (nid + 8) 0)], [(nid + 8, boxP2 g0 r0 b G R), (nid + 28, fracB (0, 0, false))], nid + 1300, nid⟩ ?_ ?_
      · simp -dsimp only [aqT, aqU, aqN, aqS, ↓seqK, ↓blkK, ↓loopK, step, stepBin, Nat.add_assoc nid, ↓reduceIte, Option.toList, ← Int.ofNat_tmod, ← Int.ofNat_tdiv, simprocAttr, BEq.rfl, LN_succ]
        refine CallO.pure (k0 _) ?_
        simp -dsimp only [aqT, aqU, aqN, aqS, ↓seqK, ↓blkK, ↓loopK, step, stepBin, Nat.add_assoc nid, ↓reduceIte, Option.toList, ← Int.ofNat_tmod, ← Int.ofNat_tdiv, simprocAttr, BEq.rfl, LN_succ]
        refine Cov.go [] [] ?_
        simp [cvT, step, res, boxP2, litI, arrI, arrS, arrG, resP, fracB, ColsEq.refl, -List.getD_eq_getElem?_getD]
      refine SR.seqW (ι := {_u : Unit // False}) (fun _ => ⟨[], [], nid + 3000, nid⟩) ?_ (fun ⟨_, h⟩ => h.elim)
      refine SR.run (t := .mk) ?_
      try unfold fracB
      simp -dsimp only [aqT, aqU, aqN, aqS, ↓seqK, ↓blkK, ↓loopK, step, stepBin, Nat.add_assoc nid, ↓reduceIte, Option.toList, ← Int.ofNat_tmod, ← Int.ofNat_tdiv, simprocAttr, BEq.rfl, LN_succ, hv0, hv1, beq_self_eq_true, Bool.not_false]
      refine ⟨by unfold inI64; omega, by unfold inI64; omega, CallO.pure (diagnosedD_c _) ?_⟩
      simp -dsimp only [aqT, aqU, aqN, aqS, ↓seqK, ↓blkK, ↓loopK, step, stepBin, Nat.add_assoc nid, ↓reduceIte, Option.toList, ← Int.ofNat_tmod, ← Int.ofNat_tdiv, simprocAttr, BEq.rfl, LN_succ]
      refine RetOK.pure (.inl rfl) rfl ?_
      simp [cvT, step, res]
  · have hE : bothTV G R T ≠ 0 := by unfold bothTV; rw [if_pos (by simpa using hV)]; exact hV
    have eE : bothTV G R T = dictV G R := by unfold bothTV; rw [if_pos (by simpa using hV)]
    have h1 := fun m => detBad_c g0 r0 b G R ns T m hW (by omega) hE
    have h2 := fun m => groupsBad_c g0 r0 b G R ns T m hW (by omega) hE
    have h3 := fun m => resBad_c g0 r0 b G R ns T m hW (by omega) hE
    have h4 := fun m => distBad_c g0 r0 b G R fa fb m hW hV
    rw [eE] at h1 h2 h3
    have hv0 : (dictV G R == 0) = false := by simpa using hV
    have hv1 : (dictV G R != 0) = true := by simpa using hV
    generalize dictV G R = v at *
    unfold dictP litI at *
    try unfold boxP2
    try unfold litI
    refine SR.seqTo ⟨[(11, .int .i64 v), (10, .lit true 0 []), (9, .lit true 0 []), (8, .int .i64 v), (5, litI ns T), (6, .str fa), (7, .str fb), (4, .ptr (nid + 8) 0)], [(nid + 8, boxP2 g0 r0 b G R)], nid + 500, nid⟩ ?_ ?_
    · simp -dsimp only [aqT, aqU, aqN, aqS, ↓seqK, ↓blkK, ↓loopK, step, stepBin, Nat.add_assoc nid, ↓reduceIte, Option.toList, ← Int.ofNat_tmod, ← Int.ofNat_tdiv, simprocAttr, BEq.rfl, LN_succ]
      refine CallO.pure (h1 _) ?_
      simp -dsimp only [aqT, aqU, aqN, aqS, ↓seqK, ↓blkK, ↓loopK, step, stepBin, Nat.add_assoc nid, ↓reduceIte, Option.toList, ← Int.ofNat_tmod, ← Int.ofNat_tdiv, simprocAttr, BEq.rfl, LN_succ]
      refine Cov.go [] [] ?_
      simp [cvT, step, res, boxP2, litI, arrI, arrS, arrG, resP, fracB, ColsEq.refl, -List.getD_eq_getElem?_getD]
    try unfold boxP2
    try unfold litI
    refine SR.seqTo ⟨[(13, .int .i64 v), (12, .lit true 0 []), (11, .int .i64 v), (10, .lit true 0 []), (9, .lit true 0 []), (8, .int .i64 v), (5, litI ns T), (6, .str fa), (7, .str fb), (4, .ptr (nid + 8) 0)], [(nid + 8, boxP2 g0 r0 b G R)], nid + 600, nid⟩ ?_ ?_
    · simp -dsimp only [aqT, aqU, aqN, aqS, ↓seqK, ↓blkK, ↓loopK, step, stepBin, Nat.add_assoc nid, ↓reduceIte, Option.toList, ← Int.ofNat_tmod, ← Int.ofNat_tdiv, simprocAttr, BEq.rfl, LN_succ]
      refine CallO.pure (h2 _) ?_
      simp -dsimp only [aqT, aqU, aqN, aqS, ↓seqK, ↓blkK, ↓loopK, step, stepBin, Nat.add_assoc nid, ↓reduceIte, Option.toList, ← Int.ofNat_tmod, ← Int.ofNat_tdiv, simprocAttr, BEq.rfl, LN_succ]
      refine Cov.go [] [] ?_
      simp [cvT, step, res, boxP2, litI, arrI, arrS, arrG, resP, fracB, ColsEq.refl, -List.getD_eq_getElem?_getD]
    try unfold boxP2
    try unfold litI
    refine SR.seqTo ⟨[(14, .ptr (nid + 28) 0), (15, .bool false), (16, .int .i64 v), (13, .int .i64 v), (12, .lit true 0 []), (11, .int .i64 v), (10, .lit true 0 []), (9, .lit true 0 []), (8, .int .i64 v), (5, litI ns T), (6, .str fa), (7, .str fb), (4, .ptr (nid + 8) 0)], [(nid + 8, boxP2 g0 r0 b G R), (nid + 28, fracB (0, 0, false))], nid + 700, nid⟩ ?_ ?_
    · simp -dsimp only [aqT, aqU, aqN, aqS, ↓seqK, ↓blkK, ↓loopK, step, stepBin, Nat.add_assoc nid, ↓reduceIte, Option.toList, ← Int.ofNat_tmod, ← Int.ofNat_tdiv, simprocAttr, BEq.rfl, LN_succ]
      refine CallO.pure (h3 _) ?_
      simp -dsimp only [aqT, aqU, aqN, aqS, ↓seqK, ↓blkK, ↓loopK, step, stepBin, Nat.add_assoc nid, ↓reduceIte, Option.toList, ← Int.ofNat_tmod, ← Int.ofNat_tdiv, simprocAttr, BEq.rfl, LN_succ]
      refine Cov.go [(nid + 28, nid + 628)] [] ?_
      simp [cvT, step, res, boxP2, litI, arrI, arrS, arrG, resP, fracB, ColsEq.refl, -List.getD_eq_getElem?_getD]
    try unfold fracB
    try unfold boxP2
    try unfold litI
    refine SR.seqTo ⟨[(17, .lit true 0 []), (18, .int .i64 v), (14, .ptr (nid + 28) 0), (15, .bool false), (16, .int .i64 v), (13, .int .i64 v), (12, .lit true 0 []), (11, .int .i64 v), (10, .lit true 0 []), (9, .lit true 0 []), (8, .int .i64 v), (5, litI ns T), (6, .str fa), (7, .str fb), (4, .ptr (nid + 8) 0)], [(nid + 8, boxP2 g0 r0 b G R), (nid + 28, fracB (0, 0, false))], nid + 800, nid⟩ ?_ ?_
    · simp -dsimp only [aqT, aqU, aqN, aqS, ↓seqK, ↓blkK, ↓loopK, step, stepBin, Nat.add_assoc nid, ↓reduceIte, Option.toList, ← Int.ofNat_tmod, ← Int.ofNat_tdiv, simprocAttr, BEq.rfl, LN_succ]
      refine CallO.pure (h4 _) ?_
      simp -dsimp only [aqT, aqU, aqN, aqS, ↓seqK, ↓blkK, ↓loopK, step, stepBin, Nat.add_assoc nid, ↓reduceIte, Option.toList, ← Int.ofNat_tmod, ← Int.ofNat_tdiv, simprocAttr, BEq.rfl, LN_succ]
      refine Cov.go [] [] ?_
      simp [cvT, step, res, boxP2, litI, arrI, arrS, arrG, resP, fracB, ColsEq.refl, -List.getD_eq_getElem?_getD]
    refine SR.seq ?_
    try unfold fracB
    try unfold boxP2
    try unfold litI
    simp -dsimp only [aqT, aqU, aqN, aqS, ↓seqK, ↓blkK, ↓loopK, step, stepBin, Nat.add_assoc nid, ↓reduceIte, Option.toList, ← Int.ofNat_tmod, ← Int.ofNat_tdiv, simprocAttr, BEq.rfl, LN_succ]
    refine SR.seq ?_
    simp -dsimp only [aqT, aqU, aqN, aqS, ↓seqK, ↓blkK, ↓loopK, step, stepBin, Nat.add_assoc nid, ↓reduceIte, Option.toList, ← Int.ofNat_tmod, ← Int.ofNat_tdiv, simprocAttr, BEq.rfl, LN_succ]
    refine SR.seqTo ⟨[(19, .int .i64 v), (20, .lit true 0 []), (17, .lit true 0 []), (18, .int .i64 v), (14, .ptr (nid + 28) 0), (15, .bool false), (16, .int .i64 v), (13, .int .i64 v), (12, .lit true 0 []), (11, .int .i64 v), (10, .lit true 0 []), (9, .lit true 0 []), (8, .int .i64 v), (5, litI ns T), (6, .str fa), (7, .str fb), (4, .ptr (nid + 8) 0)], [(nid + 8, boxP2 g0 r0 b G R), (nid + 28, fracB (0, 0, false))], nid + 900, nid⟩ ?_ ?_
    · simp -dsimp only [aqT, aqU, aqN, aqS, ↓seqK, ↓blkK, ↓loopK, step, stepBin, Nat.add_assoc nid, ↓reduceIte, Option.toList, ← Int.ofNat_tmod, ← Int.ofNat_tdiv, simprocAttr, BEq.rfl, LN_succ, hv0]
      refine Cov.go [] [] ?_
      simp [cvT, step, res, boxP2, litI, arrI, arrS, arrG, resP, fracB, ColsEq.refl, -List.getD_eq_getElem?_getD]
    try unfold fracB
    try unfold boxP2
    try unfold litI
    have q1 := equalNilI_c
    refine SR.seqTo ⟨[(14, .ptr (nid + 28) 0), (15, .bool false), (16, .int .i64 v), (13, .int .i64 v), (12, .lit true 0 []), (11, .int .i64 v), (10, .lit true 0 []), (9, .lit true 0 []), (8, .int .i64 v), (5, litI ns T), (4, .ptr (nid + 8) 0)], [(nid + 8, boxP2 g0 r0 b G R), (nid + 28, fracB (0, 0, false))], nid + 1200, nid⟩ ?_ ?_
    · simp -dsimp only [aqT, aqU, aqN, aqS, ↓seqK, ↓blkK, ↓loopK, step, stepBin, Nat.add_assoc nid, ↓reduceIte, Option.toList, ← Int.ofNat_tmod, ← Int.ofNat_tdiv, simprocAttr, BEq.rfl, LN_succ, bne_self_eq_false]
      refine CallO.pure (q1 _) ?_
      simp -dsimp only [aqT, aqU, aqN, aqS, ↓seqK, ↓blkK, ↓loopK, step, stepBin, Nat.add_assoc nid, ↓reduceIte, Option.toList, ← Int.ofNat_tmod, ← Int.ofNat_tdiv, simprocAttr, BEq.rfl, LN_succ, bne_self_eq_false, Bool.not_true]
      refine Cov.go [] [] ?_
      simp [cvT, step, res, boxP2, litI, arrI, arrS, arrG, resP, fracB, ColsEq.refl, -List.getD_eq_getElem?_getD]
    try unfold fracB
    try unfold boxP2
    try unfold litI
    refine SR.seq ?_
    simp -dsimp only [aqT, aqU, aqN, aqS, ↓seqK, ↓blkK, ↓loopK, step, stepBin, Nat.add_assoc nid, ↓reduceIte, Option.toList, ← Int.ofNat_tmod, ← Int.ofNat_tdiv, simprocAttr, BEq.rfl, LN_succ]
    refine SR.seqTo ⟨[(21, .int .i64 v), (14, .ptr (nid + 28) 0), (15, .bool false), (16, .int .i64 v), (13, .int .i64 v), (12, .lit true 0 []), (11, .int .i64 v), (10, .lit true 0 []), (9, .lit true 0 []), (8, .int .i64 v), (5, litI ns T), (4, .ptr (nid + 8) 0)], [(nid + 8, boxP2 g0 r0 b G R), (nid + 28, fracB (0, 0, false))], nid + 1300, nid⟩ ?_ ?_
    · simp -dsimp only [aqT, aqU, aqN, aqS, ↓seqK, ↓blkK, ↓loopK, step, stepBin, Nat.add_assoc nid, ↓reduceIte, Option.toList, ← Int.ofNat_tmod, ← Int.ofNat_tdiv, simprocAttr, BEq.rfl, LN_succ, hv0]
      refine Cov.go [] [] ?_
      simp [cvT, step, res, boxP2, litI, arrI, arrS, arrG, resP, fracB, ColsEq.refl, -List.getD_eq_getElem?_getD]
    refine SR.seqW (ι := {_u : Unit // False}) (fun _ => ⟨[], [], nid + 3000, nid⟩) ?_ (fun ⟨_, h⟩ => h.elim)
    refine SR.run (t := .mk) ?_
    try unfold fracB
    simp -dsimp only [aqT, aqU, aqN, aqS, ↓seqK, ↓blkK, ↓loopK, step, stepBin, Nat.add_assoc nid, ↓reduceIte, Option.toList, ← Int.ofNat_tmod, ← Int.ofNat_tdiv, simprocAttr, BEq.rfl, LN_succ, hv0, hv1, beq_self_eq_true, Bool.not_false]
    refine ⟨by unfold inI64; omega, by unfold inI64; omega, CallO.pure (diagnosedD_c _) ?_⟩
    simp -dsimp only [aqT, aqU, aqN, aqS, ↓seqK, ↓blkK, ↓loopK, step, stepBin, Nat.add_assoc nid, ↓reduceIte, Option.toList, ← Int.ofNat_tmod, ← Int.ofNat_tdiv, simprocAttr, BEq.rfl, LN_succ]
    refine RetOK.pure (.inl rfl) rfl ?_
    simp [cvT, step, res]
end Go.Proofs.YtpifoghhaohhaaaGreatDoor
namespace Go.Proofs.YtpifoghhaohhaaaGreatDoor
open Go.RowKit
theorem handed_shaped {H : Type} {enc : TypeId × Value → H} {a : Assume} {C : Checked} {os : Os} {f : FuncId} {fn : Func} {s : ChangeSpec} {conds : List PathCond} {apart fresh handsOn again : Bool} {X : World → Array Value → Prop}
    (hX : ∀ (w w' : World) (args : Array Value), w.heap = w'.heap → X w args → X w' args)
    (own : ownKnob C.prog.godebug = none) (started : os.Started) (noInit : C.prog.inits.idxOf? f = none) (hfn : C.prog.funcs[f]? = some fn)
    (witness : ∃ (w : World) (tape : Tape) (i : Input), w.os = os ∧ (w.forCall tape i).Shaped C.prog ∧ i.vars = [] ∧ Input.okWide C.prog (w.forCall tape i) .any w.heap.size f i ∧
      ((s.pre enc C.prog fn conds apart (w.forCall tape i).memory i.args ∧ X (w.forCall tape i).memory i.args) ∧ sizedMet enc C.prog fn (OpenSpec.ofChange s) apart (w.forCall tape i).memory i.args) ∧ a.holds C.prog (lone (Frame.enter C.prog f i.args .normal) [] (w.forCall tape i)))
    (contract : ∀ (W : World) (base : Nat) (args : Array Value) (ds gs : List (DataW H)) (before : List MemPlace),
      (∀ (j : Nat) t v, fn.params[j]? = some t → args[j]? = some v → Value.okWide C.prog W .any base t v) →
      DataW.Whole enc C.prog fn.params.toList s.vars apart W args.toList ds gs before →
      conds.all (PathCond.test C.prog ⟨fn.params.toList, ds, s.plain.varTypes C.prog, gs⟩) = true →
      (DataW.weightsEach C.prog (fn.params.toList ++ s.plain.varTypes C.prog) (ds ++ gs)).all (· ≤ reachBytes) = true → X W args → W.ShapedOpen C.prog →
      Calls C.prog f args W fun e W' => ∃ v, e = .returned v ∧ s.post enc C.prog fn apart fresh handsOn again W args v W') :
    ReturnsInHanded a C os f .any (fun w args => (s.pre enc C.prog fn conds apart w args ∧ X w args) ∧ sizedMet enc C.prog fn (OpenSpec.ofChange s) apart w args) (s.post enc C.prog fn apart fresh handsOn again) := by
  refine returnsInHanded_of_calls own started noInit witness ?_
  intro w tape i _ hsh _ hok hpre _
  obtain ⟨_, _, _, fn', hfn', _, _, _, _, hval⟩ := hok
  have e : fn' = fn := Option.some.inj (hfn'.symm.trans hfn)
  subst e
  obtain ⟨⟨⟨ds, gs, before, hw, hc⟩, hx⟩, hz⟩ := hpre
  have hw' := DataW.Whole.of_heap (w' := w.forCall tape i) (by rfl) hw
  refine (contract (w.forCall tape i) w.heap.size i.args ds gs before hval hw' hc (hz.weights hw) (hX _ _ _ (by rfl) hx) hsh).mono fun e W' ⟨v, he, hp⟩ => ?_
  subst he
  exact ChangeSpec.post_blind hp
theorem gok_cell {W : World} {g : Nat} {m : Int} (h : W.cell? ⟨g, 0, none⟩ = some (.int .i64 m)) : g < W.heap.size ∧ ∃ o, W.heap[g]? = some o ∧ cell0 o = some (.int .i64 m) := by
  unfold World.cell? at h
  simp only at h
  split at h
  · rename_i c t f hc
    refine ⟨?_, _, hc, ?_⟩
    · rcases Nat.lt_or_ge g W.heap.size with hl | hl
      · exact hl
      · rw [Array.getElem?_eq_none hl] at hc; cases hc
    · simpa [cell0] using h
  · cases h
set_option maxRecDepth 1000000 in
theorem gok0_of {W : World} (h : W.ShapedOpen Tryz.prog) : GOK0 (fun b => W.heap[b]?) W.heap.size := by
  obtain ⟨m, hm⟩ := cell_of_shapedOpen_int (g := 1) (t := 3) (zero := #[.int .i64 0]) (k := .i64) h (of_decide_eq_true (by kernel_rfl)) (by kernel_rfl) rfl (by kernel_rfl) (by kernel_rfl) Tryz.underlying3
  obtain ⟨h1, o, h2, h3⟩ := gok_cell hm
  exact ⟨o, m, h1, h2, h3⟩
theorem gok_of {W : World} (h : W.ShapedOpen Tryz.prog) : GOK (fun b => W.heap[b]?) W.heap.size := gok0_of h
end Go.Proofs.YtpifoghhaohhaaaGreatDoor
namespace Go.Proofs.YtpifoghhaohhaaaGreatDoor
open Go.ChangeShapes Go.WideShapes Go.ChangeAt Go.RowKit
def cellsD : Nat → DataW Unit → List Value
  | 0, _ => []
  | n + 1, .agg l => l.flatMap (cellsD n)
  | _ + 1, .lit (.int k z) => [.int k z]
  | _ + 1, _ => []
noncomputable def laidWorld (os : Os) : World :=
  let w0 := World.holding Tryz.prog os ⟨#[], #[], []⟩
  let put (h : Array Obj) (g : Nat) (cs : List Value) : Array Obj := h.modify g fun
    | .cells _ t frozen => .cells cs.toArray t frozen
    | o => o
  { w0 with heap := put (put (put (put (put (w0.heap) ((Tryz.prog.globalNamed "unicode/utf8.acceptRanges").getD 0) (cellsD 9 Rows.laid_unicode_utf8_acceptRanges)) ((Tryz.prog.globalNamed "unicode/utf8.first").getD 0) (cellsD 9 Rows.laid_unicode_utf8_first)) ((Tryz.prog.globalNamed "math/bits.deBruijn32tab").getD 0) (cellsD 9 Rows.laid_math_bits_deBruijn32tab)) ((Tryz.prog.globalNamed "math/bits.deBruijn64tab").getD 0) (cellsD 9 Rows.laid_math_bits_deBruijn64tab)) ((Tryz.prog.globalNamed "internal/strconv.uint64pow10").getD 0) (cellsD 9 Rows.laid_internal_strconv_uint64pow10) }
set_option maxRecDepth 1000000 in
theorem faultsGrouped_met (os : Os) (args : Array Value) : laidMetH Tryz.prog Rows.faultsGroupedRow.laid ((laidWorld os).forCall (fun _ _ => 0) ⟨#[], args, []⟩).memory := by
  show laidMet Tryz.prog Rows.faultsGroupedRow.laid _
  exact laidMet_of_run' 10 (by kernel_rfl) (by kernel_rfl)
theorem faultsGrouped_own : ownKnob Tryz.prog.godebug = none := by kernel_rfl
theorem faultsGrouped_laidOut : laidOutB Tryz.prog = true := by kernel_rfl
theorem faultsGrouped_cells : Tryz.prog.cellsOf 3 = 1 := by kernel_rfl
theorem faultsGrouped_bytes : Tryz.prog.bytesOf 3 = 8 := by kernel_rfl
set_option maxRecDepth 100000 in
theorem faultsGrouped_block {W : World} {base : Nat} {a0 : Option Addr} {len cap : Nat} (h : Value.okWide Tryz.prog W .any base 22 (.slice a0 len cap)) : ∀ a, a0 = some a → a.block < W.heap.size := by
  intro a e
  subst e
  simp only [Value.okWide, Tryz.underlying22, Cell.okWide, Cell.ok] at h
  obtain ⟨_, _, _, _, row, cells, hs, _⟩ := h
  rcases Nat.lt_or_ge a.block W.heap.size with hl | hl
  · exact hl
  · have hn : W.heap[a.block]? = none := Array.getElem?_eq_none hl
    simp [World.shape?, hn] at hs
set_option maxRecDepth 100000 in
theorem faultsGrouped_lifted (os : Os) (started : os.Started) (H : Type) (enc : TypeId × Value → H) :
    ReturnsInHanded {} Tryz.checked os 3 .any (fun w args => (Rows.faultsGroupedSpec.pre enc Tryz.prog Tryz.f3 Rows.faultsGroupedRow.domain false w args ∧ laidMetH Tryz.prog Rows.faultsGroupedRow.laid w) ∧ sizedMet enc Tryz.prog Tryz.f3 (OpenSpec.ofChange Rows.faultsGroupedSpec) false w args)
      (Rows.faultsGroupedSpec.post enc Tryz.prog Tryz.f3 false true false false) := by
  refine handed_shaped (C := Tryz.checked) (X := fun w _ => laidMetH Tryz.prog Rows.faultsGroupedRow.laid w) (fun _ _ _ hh h => h.of_heap hh) faultsGrouped_own started (by kernel_rfl) Tryz.func3
    (ChangeSpec.witness_at (enc := enc) (C := Tryz.checked) (os := os) (X := fun w _ => laidMetH Tryz.prog Rows.faultsGroupedRow.laid w) false (laidWorld os) #[.slice none 0 0] 8 rfl (by kernel_rfl) (by kernel_rfl) (by kernel_rfl) (by kernel_rfl) (by kernel_rfl) (faultsGrouped_met os _)) ?_
  intro W base args ds gs before hval0 hW hcnd hsz0 _ hsh
  have hsz : (DataW.weightsEach Tryz.prog (Tryz.f3.params.toList ++ Rows.faultsGroupedSpec.plain.varTypes Tryz.prog) (ds ++ gs)).all (· ≤ reachBytes) = true := hsz0
  clear hsz0
  have hval : ∀ (j : Nat) t v, Tryz.f3.params[j]? = some t → args[j]? = some v → Value.okWide Tryz.prog W .any base t v := hval0
  have hW' := hW
  obtain ⟨p, q, hA0, hV, rfl, hfz, hnd⟩ := hW
  have hA : DataW.TrodAll enc Tryz.prog W 0 (fun _ => true) true Tryz.f3.params.toList args.toList ds p := hA0
  rw [Tryz.params3] at hA hval hsz
  obtain ⟨v0, vs0, d0, ds0, p0, q0, hargs, rfl, rfl, h0, r0⟩ := trodAll_cons hA
  obtain ⟨rfl, rfl, rfl⟩ := trodAll_nil r0
  obtain rfl : args = #[v0] := by cases args; simp_all
  obtain ⟨rfl, rfl⟩ := trodVars_none hV
  obtain ⟨a0, len0, cap0, rfl⟩ := okWide_slice Tryz.underlying22 (hval 0 22 v0 rfl rfl)
  have k0 := h0
  have lt0 : ∀ x ∈ p0, x.block < W.heap.size := by obtain ⟨m, hm⟩ := k0; exact DataW.trod_lt m _ _ _ hm
  obtain ⟨L, rfl, hr, hblk, hwf, hlen, hcap, hle⟩ : ∃ L : List Int, len0 = L.length ∧ RowV W a0 (ints L) ∧ (∀ a, a0 = some a → a.block < W.heap.size) ∧ Within (-9223372036854775808) 9223372036854775807 L ∧ L.length ≤ 17592186044415 ∧ (a0 = none → cap0 = 0) ∧ L.length ≤ cap0 := by
    obtain ⟨fuel, hf⟩ := h0
    rcases open_ints Tryz.underlying22 Tryz.underlying3 faultsGrouped_cells hf with ⟨hcs, _⟩ | ⟨x, l, c, zs, hcs, _, hl, hm, hz, hx, hcell, hwz⟩
    · simp [Value.cells] at hcs
      obtain ⟨rfl, rfl, rfl⟩ := hcs
      exact ⟨[], rfl, (fun k u hu => by simp [ints] at hu), (fun a e => by cases e), (fun y hy => by cases hy), by simp, fun _ => rfl, by simp⟩
    · simp [Value.cells] at hcs
      obtain ⟨rfl, rfl, rfl⟩ := hcs
      simp only [Prod.mk.injEq] at hx
      obtain ⟨rfl, rfl⟩ := hx
      simp only [if_true] at hz
      have hreach : len0 * 8 ≤ 140737488351232 := by
        have := sized_slice hsz (j := 0) (t := 22) (e := 3) rfl rfl Tryz.underlying22
        rw [faultsGrouped_bytes] at this
        simp only [lits, List.length_map, List.length_take, List.length_drop, reachBytes] at this
        omega
      have hll : (zs.take len0).length = len0 := by rw [List.length_take]; omega
      refine ⟨zs.take len0, hll.symm, ?_, ?_, ?_, by omega, (fun e => by cases e), by omega⟩
      · intro k u hu
        obtain ⟨b, off, spot⟩ := x
        have hk : k < len0 := by
          have := (List.getElem?_eq_some_iff.1 hu).1
          simp only [ints, List.length_map] at this
          omega
        have hspot : spot = none := by simpa [Addr.add] using World.cell?_spot (hcell 0 (by omega))
        subst hspot
        refine ⟨b, off, rfl, ?_⟩
        have hc := hcell k (by omega)
        simp only [ints, List.getElem?_map, List.getElem?_take, hk, if_true] at hu
        have hkz : k < zs.length := by omega
        rw [List.getElem?_eq_getElem hkz] at hu
        simp only [Option.map_some, Option.some.injEq] at hu
        subst hu
        rw [List.getD_eq_getElem?_getD, List.getElem?_eq_getElem hkz] at hc
        have e : (⟨b, off, none⟩ : Addr).add k = ⟨b, off + k, none⟩ := by unfold Addr.add; split <;> simp_all
        rw [e] at hc
        simpa using hc
      · exact faultsGrouped_block (hval 0 22 _ rfl rfl)
      · intro y hy
        have h1 : IntKind.i64.min = -9223372036854775808 := rfl
        have h2 : IntKind.i64.max = 9223372036854775807 := rfl
        have := hwz y (List.mem_of_mem_take hy)
        simp [Lit.wf, h1, h2] at this
        omega
  clear hA0 hval0
  refine (calls_of_acall Tryz.func3 (by kernel_rfl) (by kernel_rfl) hr hcap hle (gok_of hsh) (fun nl nid => faultsGrouped_c nl L nid (by omega))).mono fun e W' ⟨he, bel⟩ => ?_
  subst he
  exact ⟨_, rfl, _, _, _, [], _, [], hW', trodAll_mk1 (shut_bool Tryz.underlying4 _), (trodAll_cons_mk (Below.trod faultsGrouped_laidOut (by kernel_rfl) (of_decide_eq_true (by kernel_rfl)) k0 bel lt0) trodAll_mk0), rfl, bel.frame _, fun h => by cases h⟩
end Go.Proofs.YtpifoghhaohhaaaGreatDoor
namespace Go.Proofs.YtpifoghhaohhaaaGreatDoor
open Go.ChangeShapes Go.WideShapes Go.ChangeAt Go.RowKit
theorem faultsGrouped_f_laidOut : laidOutB Tryz.pinned.checked.prog = true := by kernel_rfl
theorem faultsGrouped_f_mapsRowed : mapsRowed Tryz.pinned.checked.prog = true := by kernel_rfl
theorem faultsGrouped_f_inPlace : (Rows.faultsGroupedRow.inPlace == Tryz.pinned.checked.prog.inPlace 3) = true := by kernel_rfl
theorem faultsGrouped_f_unfollowed : (Rows.faultsGroupedRow.unfollowed == Tryz.pinned.checked.prog.unfollowed 3) = true := by kernel_rfl
theorem faultsGrouped_f_recurses : (Rows.faultsGroupedRow.recurses == Tryz.pinned.checked.prog.recurses 3) = true := by kernel_rfl
theorem faultsGrouped_f_named : (Rows.faultsGroupedRow.named == Tryz.pinned.checked.prog.varsNamed 3) = true := by kernel_rfl
theorem faultsGrouped_f_plainKeys : (Rows.faultsGroupedRow.plainKeys == Tryz.pinned.checked.prog.plainKeys) = true := by kernel_rfl
theorem faultsGrouped_f_heard : Tryz.pinned.checked.prog.stopsHeard = true := by kernel_rfl
theorem faultsGrouped_f_enter : Tryz.pinned.checked.prog.mayEnter = true := by kernel_rfl
theorem faultsGrouped_closed : joinedFacts Tryz.pinned.checked.prog 3 Tryz.f3 Rows.faultsGroupedSpec Rows.faultsGroupedRow = true := by
  unfold joinedFacts
  rw [faultsGrouped_f_laidOut, faultsGrouped_f_mapsRowed, faultsGrouped_f_inPlace, faultsGrouped_f_unfollowed, faultsGrouped_f_recurses, faultsGrouped_f_named, faultsGrouped_f_plainKeys, faultsGrouped_f_heard, faultsGrouped_f_enter]
  kernel_rfl
theorem faultsGrouped_over : Rows.faultsGroupedRow.holds Tryz.pinned (OpenSpec.ofChange Rows.faultsGroupedSpec) :=
  OpenClaim.holds_of_wide 3 Tryz.f3 rfl rfl rfl rfl rfl rfl rfl ⟨rfl, rfl, rfl, rfl, rfl⟩ rfl rfl rfl rfl rfl (by kernel_rfl) Tryz.func3 faultsGrouped_closed
    (of_decide_eq_true (by kernel_rfl)) (by unfold Func.isWrapper; first | (rw [if_pos (by decide +kernel)]; kernel_rfl) | (rw [if_neg (by decide +kernel)]; exact ⟨rfl, rfl⟩))
    (fun os started H enc _ => faultsGrouped_lifted os started H enc)
end Go.Proofs.YtpifoghhaohhaaaGreatDoor
