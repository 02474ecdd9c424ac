/-
 The table of the fewest touchdowns for each set,by the abstract machine.
-/
import Derived.Test.YtmgfcjblclanmaaGreatDoorDTO6
import Derived.Test.YtmgfcjblclanmaaGreatDoorDTO4
import Derived.Test.YtmgfcjblclanmaaGreatDoorDTO3
import Derived.Shelf.Small.Strs
import Derived.Shelf.SlSortCmp.WholeK
import Derived.Test.YtmgfcjblclanmaaGreatDoorDTO5
import Derived.Test.YtmgfcjblclanmaaGreatDoorProg
import Derived.WalkKit
import Derived.Shelf.Strings.Count
import Derived.Ground.NamesProg
import Derived.Shelf.Strings.OnBuilder
import Derived.Lib.Join
import Derived.Lib.Bytealg
import Derived.Shelf.Strconv.Itoa3
set_option linter.unusedVariables false
set_option linter.unusedSimpArgs false
set_option maxRecDepth 100000
namespace Go.Proofs.YtmgfcjblclanmaaGreatDoor
open Go.RowKit
def arrNt (l : List Nat) : Option ABlk := some (.arr 3 l.length [.i .i64 fun i => ((l.getD i 0 : Nat) : Int)])
def litTd (nl : Bool) (L : List Pt) (S : List Nat) : PV := .lit nl L.length [.i .i64 fun j => (L.getD j p0).1,.i .i64 fun j => (L.getD j p0).2,.i .u64 fun j => ((S.getD j 0 : Nat) : Int)]
def midN (l : List Nat) (M s : Nat) : List Nat := tabN l (s - 1) ++ List.replicate (M - s) 0
def inN (l : List Nat) (M s acc : Nat) : List Nat := tabN l (s - 1) ++ acc :: List.replicate (M - s - 1) 0
def tabF (l : List Nat) (s : Nat) : Nat → Nat := fun i => (tabN l (s - 1)).getD i 0
theorem midN_len {l : List Nat} {M s : Nat} (h1 : 1 ≤ s) (h2 : s ≤ M) : (midN l M s).length = M := by
 unfold midN
 rw [List.length_append,tabN_len,List.length_replicate]
 omega
theorem inN_len {l : List Nat} {M s : Nat} (acc : Nat) (h1 : 1 ≤ s) (h2 : s < M) : (inN l M s acc).length = M := by
 unfold inN
 rw [List.length_append,tabN_len,List.length_cons,List.length_replicate]
 omega
theorem midN_in (l : List Nat) {M s : Nat} (h2 : s < M) : midN l M s = inN l M s 0 := by
 unfold midN inN
 rw [← List.replicate_succ,show M - s - 1 + 1 = M - s by omega]
theorem inN_mid (l : List Nat) {M s : Nat} (h1 : 1 ≤ s) (h2 : s < M) : inN l M s (l.foldl (stepN (tabF l s) s) 0) = midN l M (s + 1) := by
 obtain ⟨t,rfl⟩ : ∃ t,s = t + 1 := ⟨s - 1,by omega⟩
 have e : tabN l (t + 1 + 1 - 1) = tabN l (t + 1 - 1) ++ [l.foldl (stepN (tabF l (t + 1)) (t + 1)) 0] := rfl
 unfold midN inN
 rw [e,List.append_assoc,List.singleton_append,Nat.sub_sub]
theorem inN_at {l : List Nat} {M s acc : Nat} (h1 : 1 ≤ s) : (inN l M s acc).getD s 0 = acc := by
 unfold inN
 rw [List.getD_eq_getElem?_getD,List.getElem?_append_right (by rw [tabN_len]; omega),tabN_len,show s - (s - 1 + 1) = 0 by omega]
 rfl
theorem inN_low {l : List Nat} {M s acc i : Nat} (h1 : 1 ≤ s) (h : i < s) : (inN l M s acc).getD i 0 = tabF l s i := by
 unfold inN tabF
 rw [List.getD_eq_getElem?_getD,List.getElem?_append_left (by rw [tabN_len]; omega),List.getD_eq_getElem?_getD]
theorem inN_set {l : List Nat} {M s acc v : Nat} (h1 : 1 ≤ s) : (inN l M s acc).set s v = inN l M s v := by
 unfold inN
 rw [List.set_append_right _ _ (by rw [tabN_len]; omega),tabN_len,show s - (s - 1 + 1) = 0 by omega]
 rfl
theorem midN_one (l : List Nat) {M : Nat} (h : 1 ≤ M) : midN l M 1 = List.replicate M 0 := by
 unfold midN
 show [0] ++ List.replicate (M - 1) 0 = _
 rw [List.singleton_append,← List.replicate_succ,show M - 1 + 1 = M by omega]
theorem midN_end (l : List Nat) (M : Nat) : midN l M M = tabN l (M - 1) := by
 unfold midN
 rw [Nat.sub_self]
 simp
theorem getD_setN (l : List Nat) (v : Nat) {i : Nat} (hi : i < l.length) : (fun j => if j = i then (v : Int) else ((l.getD j 0 : Nat) : Int)) = fun j => (((l.set i v).getD j 0 : Nat) : Int) := by
 funext j
 rw [List.getD_eq_getElem?_getD,List.getD_eq_getElem?_getD,List.getElem?_set]
 by_cases h : j = i
 ·subst h
  rw [if_pos rfl,if_pos rfl,if_pos hi]
  rfl
 ·rw [if_neg h,if_neg (fun hh => h hh.symm)]
theorem getD_setM (l : List Nat) (v : Nat) {i : Nat} (hi : i < l.length) : (fun j => if j = i then ((v : Int) + 1) else ((l.getD j 0 : Nat) : Int)) = fun j => (((l.set i (v + 1)).getD j 0 : Nat) : Int) := getD_setN l (v + 1) hi
theorem foldN_le {F : Nat → Nat} {s b : Nat} (hF : ∀ i,F i ≤ b) : ∀ (l : List Nat) (a : Nat),a ≤ b + 1 → l.foldl (stepN F s) a ≤ b + 1
 | [],_,h => h
 | d :: l,a,h => foldN_le hF l _ (by
  unfold stepN
  have := hF (andN s d)
  split
  ·split <;> omega
  ·exact h)
theorem tabN_le (l : List Nat) : ∀ k i,(tabN l k).getD i 0 ≤ k
 | 0,i => by cases i <;> simp [tabN]
 | k + 1,i => by
  have ih := tabN_le l k
  have hv : valN (fun s => (tabN l k).getD s 0) l (k + 1) ≤ k + 1 := foldN_le (b := k) ih l 0 (by omega)
  show (tabN l k ++ [_]).getD i 0 ≤ k + 1
  rw [List.getD_eq_getElem?_getD]
  by_cases h : i < (tabN l k).length
  ·rw [List.getElem?_append_left h,← List.getD_eq_getElem?_getD]
   have := ih i
   omega
  ·rw [List.getElem?_append_right (by omega)]
   cases i - (tabN l k).length with
   | zero => exact hv
   | succ n => simp
set_option maxHeartbeats 8000000 in
theorem fewest_c (nl : Bool) (L : List Pt) (S : List Nat) (K nid : Nat) (hS : S.length = L.length) (hL : L.length ≤ 1000000) (hd : ∀ d ∈ S,d < 16384) (hK : K ≤ 14) :
  ACall Tryz.prog 64 [litTd nl L S,.int .i64 (K : Nat)] [] nid (.sl nid 0 (2 ^ K)) [(nid,arrNt (tabN S (2 ^ K - 1)))] := by
 have hM : 2 ^ K ≤ 2 ^ 14 := Nat.pow_le_pow_right (by omega) hK
 have hM1 : 1 ≤ 2 ^ K := Nat.pow_pos (by omega)
 have hw1 : IntKind.i64.wrap (1 * 2 ^ (min K IntKind.i64.bits)) = ((2 ^ K : Nat) : Int) := by
  have := shl64 K (by omega)
  rwa [Nat.one_shiftLeft] at this
 have hw2 := shl64u K (by omega)
 rw [Nat.one_shiftLeft] at hw2
 have hend := midN_end S (2 ^ K)
 rw [← hend]
 generalize hMM : 2 ^ K = M at *
 refine acall_sr c64 (by simp [a64]) ?_
 unfold a64
 unfold litTd
 refine SR.seq ?_
 simp -dsimp only [aqA,↓seqK,↓blkK,↓loopK,step,stepBin,eqB,Nat.add_assoc nid,↓reduceIte,simprocAttr,LN_succ]
 refine SR.seq ?_
 simp -dsimp only [aqA,↓seqK,↓blkK,↓loopK,step,stepBin,eqB,Nat.add_assoc nid,↓reduceIte,simprocAttr,LN_succ]
 rw [hw1]
 refine ⟨by omega,by omega,?_⟩
 refine SR.seqW (ι := Unit) (fun _ => ⟨[(5,.sl (nid + 8) 0 M)],[(nid + 8,arrNt (midN S M M))],nid + 90000,nid⟩) ?_ (fun _ => ?_)
 ·refine SR.seq ?_
  simp -dsimp only [aqA,↓seqK,↓blkK,↓loopK,step,stepBin,eqB,Nat.add_assoc nid,↓reduceIte,simprocAttr,LN_succ]
  refine SR.block ?_
  refine SR.loopP (fun s : Nat => 1 ≤ s ∧ s ≤ M) (fun s : Nat => ⟨[(6,.int .u64 s),(5,.sl (nid + 8) 0 M),(1,.int .i64 (K : Nat)),(0,litTd nl L S)],[(nid + 8,arrNt (midN S M s))],nid + 100,nid⟩) (fun s => M + 1 - s) 1 ⟨Nat.le_refl _,hM1⟩ (Cov.go [(nid + 8,nid + 12)] [] ?_) (fun s hs => ?_)
  ·rw [midN_one S hM1]
   simp [cvT,step,res,arrNt,litTd,Col.const,-List.getD_eq_getElem?_getD]
   refine ColEq.i fun j hj => ?_
   have e : (List.replicate M 0).getD j 0 = 0 := by rw [List.getD_eq_getElem?_getD,List.getElem?_replicate,if_pos hj]; rfl
   rw [e]
   rfl
  obtain ⟨hs1,hs2⟩ := hs
  unfold litTd arrNt
  rw [midN_len hs1 hs2]
  refine SR.seq ?_
  simp -dsimp only [aqA,↓seqK,↓blkK,↓loopK,step,stepBin,eqB,Nat.add_assoc nid,↓reduceIte,simprocAttr,LN_succ]
  rw [hw2]
  refine ⟨by omega,?_⟩
  refine S2.dec (fun h3 => ?_) (fun h3 => ?_) <;> simp -dsimp only [aqA,↓seqK,↓blkK,↓loopK,step,stepBin,eqB,Nat.add_assoc nid,↓reduceIte,simprocAttr,LN_succ]
  ·have hsM : s < M := by omega
   rw [midN_in S hsM]
   refine SR.seqW (ι := Unit) (fun _ => ⟨[(6,.int .u64 s),(5,.sl (nid + 8) 0 M),(1,.int .i64 (K : Nat)),(0,litTd nl L S)],[(nid + 8,arrNt (midN S M (s + 1)))],nid + 5000,nid⟩) ?_ (fun _ => ?_)
   ·rw [← inN_mid S hs1 hsM]
    refine SR.block ?_
    refine SR.seq ?_
    simp -dsimp only [aqA,↓seqK,↓blkK,↓loopK,step,stepBin,eqB,Nat.add_assoc nid,↓reduceIte,simprocAttr,LN_succ]
    refine SR.block ?_
    refine SR.loopP (fun j : Nat => j ≤ L.length) (fun j : Nat => ⟨[(22,.int .i64 j),(21,.int .i64 L.length),(20,litTd nl L S),(6,.int .u64 s),(5,.sl (nid + 8) 0 M),(1,.int .i64 (K : Nat)),(0,litTd nl L S)],[(nid + 8,arrNt (inN S M s ((S.take j).foldl (stepN (tabF S s) s) 0)))],nid + 300,nid⟩) (fun j => L.length + 1 - j) 0 (Nat.zero_le _) (Cov.go [] [] ?_) (fun j hj => ?_)
    ·simp [cvT,step,res,arrNt,litTd,inN_len 0 hs1 hsM,-List.getD_eq_getElem?_getD]
    unfold litTd arrNt
    rw [inN_len _ hs1 hsM]
    refine SR.seq ?_
    simp -dsimp only [aqA,↓seqK,↓blkK,↓loopK,step,stepBin,eqB,Nat.add_assoc nid,↓reduceIte,simprocAttr,LN_succ]
    refine SR.seq ?_
    simp -dsimp only [aqA,↓seqK,↓blkK,↓loopK,step,stepBin,eqB,Nat.add_assoc nid,↓reduceIte,simprocAttr,LN_succ]
    refine S2.dec (fun h4 => ?_) (fun h4 => ?_) <;> simp -dsimp only [aqA,↓seqK,↓blkK,↓loopK,step,stepBin,eqB,Nat.add_assoc nid,↓reduceIte,simprocAttr,LN_succ]
    ·have hjl : j < S.length := by omega
     have hdm : S.getD j 0 ∈ S := by rw [List.getD_eq_getElem?_getD,List.getElem?_eq_getElem hjl]; exact List.getElem_mem _
     have hdb := hd _ hdm
     have hfs : (S.take (j + 1)).foldl (stepN (tabF S s) s) 0 = stepN (tabF S s) s ((S.take j).foldl (stepN (tabF S s) s) 0) (S.getD j 0) := by
      rw [take_snoc (x := S.getD j 0) (by rw [List.getD_eq_getElem?_getD,List.getElem?_eq_getElem hjl]; rfl),List.foldl_append]
      rfl
     generalize hdd : S.getD j 0 = d at *
     have hA1 := andNot64u s d (by omega) (by omega)
     have hA2 := andNot64u d s (by omega) (by omega)
     have hL1 := low64u s (by omega) (by omega)
     refine SR.seqW (ι := Unit) (fun _ => ⟨[(22,.int .i64 j),(21,.int .i64 L.length),(20,litTd nl L S),(6,.int .u64 s),(5,.sl (nid + 8) 0 M),(1,.int .i64 (K : Nat)),(0,litTd nl L S)],[(nid + 8,arrNt (inN S M s ((S.take (j + 1)).foldl (stepN (tabF S s) s) 0)))],nid + 1000,nid⟩) ?_ (fun _ => ?_)
     ·rw [hfs]
      have hF : ∀ i,tabF S s i ≤ s - 1 := fun i => tabN_le S (s - 1) i
      have hacc := foldN_le (s := s) hF (S.take j) 0 (by omega)
      generalize (S.take j).foldl (stepN (tabF S s) s) 0 = acc at *
      refine SR.block ?_
      refine SR.seq ?_
      simp -dsimp only [aqA,↓seqK,↓blkK,↓loopK,step,stepBin,eqB,Nat.add_assoc nid,↓reduceIte,simprocAttr,LN_succ]
      refine ⟨by omega,?_⟩
      rw [hdd]
      refine SR.seq ?_
      simp -dsimp only [aqA,↓seqK,↓blkK,↓loopK,step,stepBin,eqB,Nat.add_assoc nid,↓reduceIte,simprocAttr,LN_succ,hA1]
      have hlow := lowN_has (s := s) (by omega) (by omega)
      have hlb : 2 ^ lowN s < 18446744073709551616 := by
       rcases Nat.lt_or_ge s (2 ^ lowN s) with h | h
       ·rw [Nat.testBit_lt_two_pow h] at hlow
        exact absurd hlow.1 (by decide)
       ·omega
      have hA3 := and64u d (2 ^ lowN s) (by omega) hlb
      by_cases c1 : andN d s = 0
      ·have b1 : (((andN d s : Nat) : Int) != 0) = false := by rw [c1]; rfl
       by_cases c2 : d.testBit (lowN s) = true
       ·have b2 : (((d &&& 2 ^ lowN s : Nat) : Int) == 0) = false := by rw [low_in,c2]; rfl
        by_cases c3 : andN s d = 0
        ·have b3 : (((andN s d : Nat) : Int) != 0) = false := by rw [c3]; rfl
         have hmay : mayN (tabF S s) s d = true := by
          unfold mayN subN
          rw [decide_eq_true c1,c2,decide_eq_true c3]
          rfl
         have hget : (inN S M s acc).getD (andN s d) 0 = tabF S s (andN s d) := inN_low hs1 (by omega)
         have hat := inN_at (l := S) (M := M) (acc := acc) hs1
         have hst : stepN (tabF S s) s acc d = if acc = 0 ∨ tabF S s (andN s d) + 1 < acc then tabF S s (andN s d) + 1 else acc := by unfold stepN; rw [if_pos hmay]
         have hvb := hF (andN s d)
         have hlr : andN s d < M := by omega
         generalize hvv : tabF S s (andN s d) = v at *
         by_cases c5 : acc = 0
         ·have b5 : ((acc : Int) == 0) = true := by rw [c5]; rfl
          have hst2 : stepN (tabF S s) s acc d = v + 1 := by rw [hst,if_pos (.inl c5)]
          rw [hst2]
          refine SR.run (t := .mk) ?_
          simp -dsimp only [aqA,↓seqK,↓blkK,↓loopK,step,stepBin,eqB,Nat.add_assoc nid,↓reduceIte,simprocAttr,LN_succ,hA2,hL1,hA3,b1,b2,b3,hget,hat,b5]
          rw [getD_setM (inN S M s acc) v (by rw [inN_len acc hs1 hsM]; exact hsM),inN_set hs1]
          repeat refine ⟨by first | omega | (unfold inI64; omega),?_⟩
          refine ⟨(),Cov.go [] [] ?_⟩
          simp [cvT,step,res,arrNt,litTd,inN_len _ hs1 hsM,-List.getD_eq_getElem?_getD]
         ·have b5 : ((acc : Int) == 0) = false := by rw [beq_eq_false_iff_ne]; omega
          by_cases c6 : (v : Int) + 1 < acc
          ·have hst2 : stepN (tabF S s) s acc d = v + 1 := by rw [hst,if_pos (.inr (by omega))]
           rw [hst2]
           refine SR.run (t := .mk) ?_
           simp -dsimp only [aqA,↓seqK,↓blkK,↓loopK,step,stepBin,eqB,Nat.add_assoc nid,↓reduceIte,simprocAttr,LN_succ,hA2,hL1,hA3,b1,b2,b3,hget,hat,b5,c6]
           rw [getD_setM (inN S M s acc) v (by rw [inN_len acc hs1 hsM]; exact hsM),inN_set hs1]
           repeat refine ⟨by first | omega | (unfold inI64; omega),?_⟩
           refine ⟨(),Cov.go [] [] ?_⟩
           simp [cvT,step,res,arrNt,litTd,inN_len _ hs1 hsM,-List.getD_eq_getElem?_getD]
          ·have hst2 : stepN (tabF S s) s acc d = acc := by rw [hst,if_neg (by omega)]
           rw [hst2]
           refine SR.run (t := .mk) ?_
           simp -dsimp only [aqA,↓seqK,↓blkK,↓loopK,step,stepBin,eqB,Nat.add_assoc nid,↓reduceIte,simprocAttr,LN_succ,hA2,hL1,hA3,b1,b2,b3,hget,hat,b5,c6]
           repeat refine ⟨by first | omega | (unfold inI64; omega),?_⟩
           refine ⟨(),Cov.go [] [] ?_⟩
           simp [cvT,step,res,arrNt,litTd,inN_len _ hs1 hsM,-List.getD_eq_getElem?_getD]
        ·have b3 : (((andN s d : Nat) : Int) != 0) = true := by rw [bne_iff_ne]; omega
         have hlt : andN s d < s := andN_lt (by omega) hlow.1 c2
         have hget : (inN S M s acc).getD (andN s d) 0 = tabF S s (andN s d) := inN_low hs1 hlt
         by_cases c4 : tabF S s (andN s d) = 0
         ·have b4 : (((tabF S s (andN s d) : Nat) : Int) == 0) = true := by rw [c4]; rfl
          have hno : stepN (tabF S s) s acc d = acc := by
           unfold stepN mayN
           rw [decide_eq_false c3,c4]
           simp
          refine SR.run (t := .mk) ?_
          simp -dsimp only [aqA,↓seqK,↓blkK,↓loopK,step,stepBin,eqB,Nat.add_assoc nid,↓reduceIte,simprocAttr,LN_succ,hA2,hL1,hA3,b1,b2,b3,b4,hget,hno]
          refine ⟨by omega,(),Cov.go [] [] ?_⟩
          simp [cvT,step,res,arrNt,litTd,inN_len acc hs1 hsM,-List.getD_eq_getElem?_getD]
         ·have b4 : (((tabF S s (andN s d) : Nat) : Int) == 0) = false := by rw [beq_eq_false_iff_ne]; omega
          have hmay : mayN (tabF S s) s d = true := by
           unfold mayN subN
           rw [decide_eq_true c1,c2,decide_eq_true (show tabF S s (andN s d) ≠ 0 from c4)]
           simp
          have hat := inN_at (l := S) (M := M) (acc := acc) hs1
          have hst : stepN (tabF S s) s acc d = if acc = 0 ∨ tabF S s (andN s d) + 1 < acc then tabF S s (andN s d) + 1 else acc := by unfold stepN; rw [if_pos hmay]
          have hvb := hF (andN s d)
          have hlr : andN s d < M := by omega
          generalize hvv : tabF S s (andN s d) = v at *
          by_cases c5 : acc = 0
          ·have b5 : ((acc : Int) == 0) = true := by rw [c5]; rfl
           have hst2 : stepN (tabF S s) s acc d = v + 1 := by rw [hst,if_pos (.inl c5)]
           rw [hst2]
           refine SR.run (t := .mk) ?_
           simp -dsimp only [aqA,↓seqK,↓blkK,↓loopK,step,stepBin,eqB,Nat.add_assoc nid,↓reduceIte,simprocAttr,LN_succ,hA2,hL1,hA3,b1,b2,b3,b4,hget,hat,b5]
           rw [getD_setM (inN S M s acc) v (by rw [inN_len acc hs1 hsM]; exact hsM),inN_set hs1]
           repeat refine ⟨by first | omega | (unfold inI64; omega),?_⟩
           refine ⟨(),Cov.go [] [] ?_⟩
           simp [cvT,step,res,arrNt,litTd,inN_len _ hs1 hsM,-List.getD_eq_getElem?_getD]
          ·have b5 : ((acc : Int) == 0) = false := by rw [beq_eq_false_iff_ne]; omega
           by_cases c6 : (v : Int) + 1 < acc
           ·have hst2 : stepN (tabF S s) s acc d = v + 1 := by rw [hst,if_pos (.inr (by omega))]
            rw [hst2]
            refine SR.run (t := .mk) ?_
            simp -dsimp only [aqA,↓seqK,↓blkK,↓loopK,step,stepBin,eqB,Nat.add_assoc nid,↓reduceIte,simprocAttr,LN_succ,hA2,hL1,hA3,b1,b2,b3,b4,hget,hat,b5,c6]
            rw [getD_setM (inN S M s acc) v (by rw [inN_len acc hs1 hsM]; exact hsM),inN_set hs1]
            repeat refine ⟨by first | omega | (unfold inI64; omega),?_⟩
            refine ⟨(),Cov.go [] [] ?_⟩
            simp [cvT,step,res,arrNt,litTd,inN_len _ hs1 hsM,-List.getD_eq_getElem?_getD]
           ·have hst2 : stepN (tabF S s) s acc d = acc := by rw [hst,if_neg (by omega)]
            rw [hst2]
            refine SR.run (t := .mk) ?_
            simp -dsimp only [aqA,↓seqK,↓blkK,↓loopK,step,stepBin,eqB,Nat.add_assoc nid,↓reduceIte,simprocAttr,LN_succ,hA2,hL1,hA3,b1,b2,b3,b4,hget,hat,b5,c6]
            repeat refine ⟨by first | omega | (unfold inI64; omega),?_⟩
            refine ⟨(),Cov.go [] [] ?_⟩
            simp [cvT,step,res,arrNt,litTd,inN_len _ hs1 hsM,-List.getD_eq_getElem?_getD]
       ·have b2 : (((d &&& 2 ^ lowN s : Nat) : Int) == 0) = true := by rw [low_in]; simpa using c2
        have hno : stepN (tabF S s) s acc d = acc := stepN_no (by simpa using c2)
        refine SR.run (t := .mk) ?_
        simp -dsimp only [aqA,↓seqK,↓blkK,↓loopK,step,stepBin,eqB,Nat.add_assoc nid,↓reduceIte,simprocAttr,LN_succ,hA2,hL1,hA3,b1,b2,hno]
        refine ⟨(),Cov.go [] [] ?_⟩
        simp [cvT,step,res,arrNt,litTd,inN_len acc hs1 hsM,-List.getD_eq_getElem?_getD]
      ·have b1 : (((andN d s : Nat) : Int) != 0) = true := by rw [bne_iff_ne]; omega
       have hno : stepN (tabF S s) s acc d = acc := by
        unfold stepN mayN subN
        rw [decide_eq_false c1]
        simp
       refine SR.run (t := .mk) ?_
       simp -dsimp only [aqA,↓seqK,↓blkK,↓loopK,step,stepBin,eqB,Nat.add_assoc nid,↓reduceIte,simprocAttr,LN_succ,hA2,hL1,b1,hno]
       refine ⟨(),Cov.go [] [] ?_⟩
       simp [cvT,step,res,arrNt,litTd,inN_len acc hs1 hsM,-List.getD_eq_getElem?_getD]
     ·refine SR.run (t := .mk) ?_
      simp -dsimp only [aqA,↓seqK,↓blkK,↓loopK,step,stepBin,eqB,Nat.add_assoc nid,↓reduceIte,simprocAttr,LN_succ]
      refine ⟨by unfold inI64; omega,j + 1,⟨by omega,by omega⟩,Cov.go [] [] ?_⟩
      simp [cvT,step,res,arrNt,litTd,inN_len _ hs1 hsM,-List.getD_eq_getElem?_getD]
    ·obtain rfl : j = L.length := by omega
     rw [← hS,List.take_length]
     refine ⟨(),Cov.go [] [] ?_⟩
     simp [cvT,step,res,arrNt,litTd,inN_len _ hs1 hsM,-List.getD_eq_getElem?_getD]
   ·refine SR.run (t := .mk) ?_
    simp -dsimp only [aqA,↓seqK,↓blkK,↓loopK,step,stepBin,eqB,Nat.add_assoc nid,↓reduceIte,simprocAttr,LN_succ]
    have hsw : IntKind.u64.wrap ((s : Int) + 1) = ((s + 1 : Nat) : Int) := u64_nat (a := s + 1) (by omega)
    rw [hsw]
    refine ⟨s + 1,⟨⟨by omega,by omega⟩,by omega⟩,Cov.go [] [] ?_⟩
    simp [cvT,step,res,arrNt,litTd,midN_len (l := S) (M := M) (s := s + 1) (by omega) (by omega),-List.getD_eq_getElem?_getD]
  ·obtain rfl : s = M := by omega
   refine ⟨(),Cov.go [] [] ?_⟩
   simp [cvT,step,res,arrNt,litTd,midN_len (l := S) hs1 hs2,-List.getD_eq_getElem?_getD]
 ·refine SR.run (t := .mk) ?_
  have := midN_len (l := S) hM1 (Nat.le_refl M)
  unfold arrNt
  simp -dsimp only [aqA,↓seqK,↓blkK,↓loopK,step,stepBin,eqB,Nat.add_assoc nid,↓reduceIte,simprocAttr,LN_succ]
  refine RetOK.go [(nid,nid + 8)] [] (.inl rfl) ?_
  simp [a64,cvT,step,res,this,-List.getD_eq_getElem?_getD]
end Go.Proofs.YtmgfcjblclanmaaGreatDoor
namespace Go.Proofs.YtmgfcjblclanmaaGreatDoor
open Go.RowKit
def litNt (nl : Bool) (l : List Nat) : PV := .lit nl l.length [.i .i64 fun i => ((l.getD i 0 : Nat) : Int)]
def boxU (s : Nat) : Option ABlk := some (.box 104 [.int .u64 (s : Nat)])
def boxT (nl : Bool) (l : List Nat) : Option ABlk := some (.box 22 [litNt nl l])
set_option maxHeartbeats 4000000 in
theorem pickT_c (i1 i2 : Nat) (nl : Bool) (Tb : List Nat) (s d : Nat) (p : Pt) (nid : Nat) (h1 : i1 < nid) (h2 : i2 < nid) (n1 : i1 ≠ i2) (hs : s < Tb.length) (hT : Tb.length ≤ 16384) (hd : d < 16384) (hv : ∀ i,Tb.getD i 0 ≤ 1000000) :
  ACall Tryz.prog 66 [.agg [.int .i64 p.1,.int .i64 p.2,.int .u64 (d : Nat)],.ptr i1 0,.ptr i2 0] [(i1,boxU s),(i2,boxT nl Tb)] nid (.bool (pickN (fun i => Tb.getD i 0) s d)) [] := by
 obtain ⟨a1,a2,a3,a4,a5,a6,a7,a8,a9⟩ := id_all h1
 obtain ⟨b1,b2,b3,b4,b5,b6,b7,b8,b9⟩ := id_all h2
 have g1 : (i1 == i2) = false := by simpa using n1
 have g2 : (i2 == i1) = false := by simpa using fun h => n1 h.symm
 have m1 : ¬ i2 = i1 := fun h => n1 h.symm
 have hA1 := andNot64u s d (by omega) (by omega)
 have hA2 := andNot64u d s (by omega) (by omega)
 have hle : andN s d ≤ s := andN_le (by omega)
 have hv1 := hv (andN s d)
 refine acall_sr c66 (by simp [a66]) ?_
 unfold a66
 unfold boxU boxT litNt
 refine SR.seq ?_
 simp -dsimp only [aqA,↓seqK,↓blkK,↓loopK,step,stepBin,eqB,Nat.add_assoc nid,↓reduceIte,simprocAttr,LN_succ,a1,a2,a3,a4,a5,a6,a7,a8,a9,b1,b2,b3,b4,b5,b6,b7,b8,b9,g1,g2,n1,m1]
 refine SR.seq ?_
 simp -dsimp only [aqA,↓seqK,↓blkK,↓loopK,step,stepBin,eqB,Nat.add_assoc nid,↓reduceIte,simprocAttr,LN_succ,a1,a2,a3,a4,a5,a6,a7,a8,a9,b1,b2,b3,b4,b5,b6,b7,b8,b9,g1,g2,n1,m1,hA1]
 refine SR.seqTo ⟨[(4,.bool (pickN (fun i => Tb.getD i 0) s d))],[(i1,boxU s),(i2,boxT nl Tb)],nid + 5000,nid⟩ ?_ ?_
 ·refine Run.cut 6 (by decide) (by decide) ?_
  by_cases c1 : andN d s = 0
  ·have q1 : (((andN d s : Nat) : Int) == 0) = true := by rw [c1]; rfl
   have hlast : (((Tb.getD s 0 : Nat) : Int) == ((Tb.getD (andN s d) 0 : Nat) : Int) + 1) = decide (Tb.getD s 0 = Tb.getD (andN s d) 0 + 1) := by
    rw [Bool.eq_iff_iff,beq_iff_eq,decide_eq_true_eq]
    omega
   simp -dsimp only [aqA,↓seqK,↓blkK,↓loopK,step,stepBin,eqB,Nat.add_assoc nid,↓reduceIte,simprocAttr,LN_succ,List.take,shiftL,List.map,a1,a2,a3,a4,a5,a6,a7,a8,a9,b1,b2,b3,b4,b5,b6,b7,b8,b9,g1,g2,n1,m1,hA2,q1]
   by_cases c2 : andN s d = 0
   ·have q2 : (((andN s d : Nat) : Int) == 0) = true := by rw [c2]; rfl
    have hp : pickN (fun i => Tb.getD i 0) s d = decide (Tb.getD s 0 = Tb.getD (andN s d) 0 + 1) := by
     unfold pickN subN
     rw [decide_eq_true c1,decide_eq_true c2]
     rfl
    refine RCut.again 11 [15,5,1,2] (by decide) (by decide) fun s1 h => ?_
    simp only [List.forall_mem_cons,aqA,↓seqK,↓blkK,↓loopK,step,stepBin,eqB,Nat.add_assoc nid,↓reduceIte,simprocAttr,LN_succ,q2] at h
    obtain ⟨f1,f2,f3,f4,-⟩ := h
    simp -dsimp only [aqA,↓seqK,↓blkK,↓loopK,step,stepBin,eqB,Nat.add_assoc nid,↓reduceIte,simprocAttr,LN_succ,List.take,shiftL,List.map,a1,a2,a3,a4,a5,a6,a7,a8,a9,b1,b2,b3,b4,b5,b6,b7,b8,b9,g1,g2,n1,m1,f1,f2,f3,f4,q2]
    refine RCut.go [26,5,1,2] fun s2 h => ?_
    simp only [List.forall_mem_cons,aqA,↓seqK,↓blkK,↓loopK,step,stepBin,eqB,Nat.add_assoc nid,↓reduceIte,simprocAttr,LN_succ,f1,f2,f3,f4,q2,hlast] at h
    clear f1 f2 f3 f4
    obtain ⟨f1,f2,f3,f4,-⟩ := h
    simp -dsimp only [aqA,↓seqK,↓blkK,↓loopK,step,stepBin,eqB,Nat.add_assoc nid,↓reduceIte,simprocAttr,LN_succ,List.take,shiftL,List.map,a1,a2,a3,a4,a5,a6,a7,a8,a9,b1,b2,b3,b4,b5,b6,b7,b8,b9,g1,g2,n1,m1,f1,f2,f3,f4,q2,hlast]
    refine ⟨by omega,by omega,by unfold inI64; omega,Cov.go [] [] ?_⟩
    rw [hp]
    simp [cvT,step,res,boxU,boxT,litNt,-List.getD_eq_getElem?_getD,a1,a2,a3,a4,a5,a6,a7,a8,a9,b1,b2,b3,b4,b5,b6,b7,b8,b9,g1,g2,n1,m1,f1,f2,f3,f4]
   ·have q2 : (((andN s d : Nat) : Int) == 0) = false := by rw [beq_eq_false_iff_ne]; omega
    by_cases c3 : 0 < Tb.getD (andN s d) 0
    ·have q3 : decide ((0 : Int) < ((Tb.getD (andN s d) 0 : Nat) : Int)) = true := decide_eq_true (by omega)
     have hp : pickN (fun i => Tb.getD i 0) s d = decide (Tb.getD s 0 = Tb.getD (andN s d) 0 + 1) := by
      unfold pickN subN
      rw [decide_eq_true c1,decide_eq_true c3]
      simp
     refine RCut.again 11 [15,5,1,2] (by decide) (by decide) fun s1 h => ?_
     simp only [List.forall_mem_cons,aqA,↓seqK,↓blkK,↓loopK,step,stepBin,eqB,Nat.add_assoc nid,↓reduceIte,simprocAttr,LN_succ,q2,q3] at h
     obtain ⟨f1,f2,f3,f4,-⟩ := h
     simp -dsimp only [aqA,↓seqK,↓blkK,↓loopK,step,stepBin,eqB,Nat.add_assoc nid,↓reduceIte,simprocAttr,LN_succ,List.take,shiftL,List.map,a1,a2,a3,a4,a5,a6,a7,a8,a9,b1,b2,b3,b4,b5,b6,b7,b8,b9,g1,g2,n1,m1,f1,f2,f3,f4,q2,q3]
     refine ⟨by omega,?_⟩
     refine RCut.go [26,5,1,2] fun s2 h => ?_
     simp only [List.forall_mem_cons,aqA,↓seqK,↓blkK,↓loopK,step,stepBin,eqB,Nat.add_assoc nid,↓reduceIte,simprocAttr,LN_succ,f1,f2,f3,f4,q2,hlast] at h
     clear f1 f2 f3 f4
     obtain ⟨f1,f2,f3,f4,-⟩ := h
     simp -dsimp only [aqA,↓seqK,↓blkK,↓loopK,step,stepBin,eqB,Nat.add_assoc nid,↓reduceIte,simprocAttr,LN_succ,List.take,shiftL,List.map,a1,a2,a3,a4,a5,a6,a7,a8,a9,b1,b2,b3,b4,b5,b6,b7,b8,b9,g1,g2,n1,m1,f1,f2,f3,f4,q2,hlast]
     refine ⟨by omega,by omega,by unfold inI64; omega,Cov.go [] [] ?_⟩
     rw [hp]
     simp [cvT,step,res,boxU,boxT,litNt,-List.getD_eq_getElem?_getD,a1,a2,a3,a4,a5,a6,a7,a8,a9,b1,b2,b3,b4,b5,b6,b7,b8,b9,g1,g2,n1,m1,f1,f2,f3,f4]
    ·have q3 : decide ((0 : Int) < ((Tb.getD (andN s d) 0 : Nat) : Int)) = false := decide_eq_false (by omega)
     have hp : pickN (fun i => Tb.getD i 0) s d = false := by
      unfold pickN subN
      rw [decide_eq_false c2,decide_eq_false c3]
      simp
     refine RCut.again 11 [15,5,1,2] (by decide) (by decide) fun s1 h => ?_
     simp only [List.forall_mem_cons,aqA,↓seqK,↓blkK,↓loopK,step,stepBin,eqB,Nat.add_assoc nid,↓reduceIte,simprocAttr,LN_succ,q2,q3] at h
     obtain ⟨f1,f2,f3,f4,-⟩ := h
     simp -dsimp only [aqA,↓seqK,↓blkK,↓loopK,step,stepBin,eqB,Nat.add_assoc nid,↓reduceIte,simprocAttr,LN_succ,List.take,shiftL,List.map,a1,a2,a3,a4,a5,a6,a7,a8,a9,b1,b2,b3,b4,b5,b6,b7,b8,b9,g1,g2,n1,m1,f1,f2,f3,f4,q2,q3]
     refine ⟨by omega,?_⟩
     refine RCut.go [26,5,1,2] fun s2 h => ?_
     simp only [List.forall_mem_cons,aqA,↓seqK,↓blkK,↓loopK,step,stepBin,eqB,Nat.add_assoc nid,↓reduceIte,simprocAttr,LN_succ,f1,f2,f3,f4,q2] at h
     clear f1 f2 f3 f4
     obtain ⟨f1,f2,f3,f4,-⟩ := h
     simp -dsimp only [aqA,↓seqK,↓blkK,↓loopK,step,stepBin,eqB,Nat.add_assoc nid,↓reduceIte,simprocAttr,LN_succ,List.take,shiftL,List.map,a1,a2,a3,a4,a5,a6,a7,a8,a9,b1,b2,b3,b4,b5,b6,b7,b8,b9,g1,g2,n1,m1,f1,f2,f3,f4,q2]
     refine Cov.go [] [] ?_
     rw [hp]
     simp [cvT,step,res,boxU,boxT,litNt,-List.getD_eq_getElem?_getD,a1,a2,a3,a4,a5,a6,a7,a8,a9,b1,b2,b3,b4,b5,b6,b7,b8,b9,g1,g2,n1,m1,f1,f2,f3,f4]
  ·have q1 : (((andN d s : Nat) : Int) == 0) = false := by rw [beq_eq_false_iff_ne]; omega
   have hp : pickN (fun i => Tb.getD i 0) s d = false := by
    unfold pickN subN
    rw [decide_eq_false c1]
    simp
   simp -dsimp only [aqA,↓seqK,↓blkK,↓loopK,step,stepBin,eqB,Nat.add_assoc nid,↓reduceIte,simprocAttr,LN_succ,List.take,shiftL,List.map,a1,a2,a3,a4,a5,a6,a7,a8,a9,b1,b2,b3,b4,b5,b6,b7,b8,b9,g1,g2,n1,m1,hA2,q1]
   refine RCut.again 11 [15,5,1,2] (by decide) (by decide) fun s1 h => ?_
   simp only [List.forall_mem_cons,aqA,↓seqK,↓blkK,↓loopK,step,stepBin,eqB,Nat.add_assoc nid,↓reduceIte,simprocAttr,LN_succ] at h
   obtain ⟨f1,f2,f3,f4,-⟩ := h
   simp -dsimp only [aqA,↓seqK,↓blkK,↓loopK,step,stepBin,eqB,Nat.add_assoc nid,↓reduceIte,simprocAttr,LN_succ,List.take,shiftL,List.map,a1,a2,a3,a4,a5,a6,a7,a8,a9,b1,b2,b3,b4,b5,b6,b7,b8,b9,g1,g2,n1,m1,f1,f2,f3,f4]
   refine RCut.go [26,5,1,2] fun s2 h => ?_
   simp only [List.forall_mem_cons,aqA,↓seqK,↓blkK,↓loopK,step,stepBin,eqB,Nat.add_assoc nid,↓reduceIte,simprocAttr,LN_succ,f1,f2,f3,f4] at h
   clear f1 f2 f3 f4
   obtain ⟨f1,f2,f3,f4,-⟩ := h
   simp -dsimp only [aqA,↓seqK,↓blkK,↓loopK,step,stepBin,eqB,Nat.add_assoc nid,↓reduceIte,simprocAttr,LN_succ,List.take,shiftL,List.map,a1,a2,a3,a4,a5,a6,a7,a8,a9,b1,b2,b3,b4,b5,b6,b7,b8,b9,g1,g2,n1,m1,f1,f2,f3,f4]
   refine Cov.go [] [] ?_
   rw [hp]
   simp [cvT,step,res,boxU,boxT,litNt,-List.getD_eq_getElem?_getD,a1,a2,a3,a4,a5,a6,a7,a8,a9,b1,b2,b3,b4,b5,b6,b7,b8,b9,g1,g2,n1,m1,f1,f2,f3,f4]
 ·refine SR.run (t := .mk) ?_
  unfold boxU boxT litNt
  simp -dsimp only [aqA,↓seqK,↓blkK,↓loopK,step,stepBin,eqB,Nat.add_assoc nid,↓reduceIte,simprocAttr,LN_succ,a1,a2,a3,a4,a5,a6,a7,a8,a9,b1,b2,b3,b4,b5,b6,b7,b8,b9,g1,g2,n1,m1]
  refine RetOK.go [] [] (.inl rfl) ?_
  simp [a66,cvT,step,res,a1,a2,a3,a4,a5,a6,a7,a8,a9,b1,b2,b3,b4,b5,b6,b7,b8,b9,g1,g2,n1,m1,-List.getD_eq_getElem?_getD]
def nextI (F : Nat → Nat) (S : List Nat) (s : Nat) : Int := match S.findIdx? (pickN F s) with
 | some i => (i : Int)
 | none => -1
set_option maxHeartbeats 4000000 in
theorem indexT_c (i1 i2 : Nat) (nl nlT : Bool) (Tb : List Nat) (L : List Pt) (S : List Nat) (s : Nat) (nid : Nat) (h1 : i1 < nid) (h2 : i2 < nid) (n1 : i1 ≠ i2) (hs : s < Tb.length) (hT : Tb.length ≤ 16384) (hS : S.length = L.length) (hL : L.length ≤ 1000000) (hd : ∀ d ∈ S,d < 16384) (hv : ∀ i,Tb.getD i 0 ≤ 1000000) :
  ACall Tryz.prog 65 [litTd nl L S,.fn 66 [.ptr i1 0,.ptr i2 0]] [(i1,boxU s),(i2,boxT nlT Tb)] nid (.int .i64 (nextI (fun i => Tb.getD i 0) S s)) [] := by
 obtain ⟨a1,a2,a3,a4,a5,a6,a7,a8,a9⟩ := id_all h1
 obtain ⟨b1,b2,b3,b4,b5,b6,b7,b8,b9⟩ := id_all h2
 have g1 : (i1 == i2) = false := by simpa using n1
 have g2 : (i2 == i1) = false := by simpa using fun h => n1 h.symm
 have m1 : ¬ i2 = i1 := fun h => n1 h.symm
 have hp := fun (p : Pt) (d : Nat) hd' k (k1 : i1 < k) (k2 : i2 < k) => pickT_c i1 i2 nlT Tb s d p k k1 k2 n1 hs hT hd' hv
 generalize hG : (fun i => Tb.getD i 0) = G at *
 refine acall_run c65 (by simp [a65]) ?_
 unfold litTd
 simp -dsimp only [a65,aqA,↓seqK,↓blkK,↓loopK,step,stepBin,eqB,Nat.add_assoc nid,↓reduceIte,simprocAttr,LN_succ,a1,a2,a3,a4,a5,a6,a7,a8,a9,b1,b2,b3,b4,b5,b6,b7,b8,b9,g1,g2,n1,m1]
 refine LP.mkP (fun k : Nat => k ≤ L.length ∧ ∀ j,j < k → pickN G s (S.getD j 0) = false) (fun k : Nat => ⟨[(8,.int .i64 k),(7,.int .i64 L.length),(0,litTd nl L S),(1,.fn 66 [.ptr i1 0,.ptr i2 0])],[(i1,boxU s),(i2,boxT nlT Tb)],nid + 100,nid⟩) (fun k => L.length + 1 - k) 0 ⟨by omega,fun j hj => by omega⟩ (Cov.go [] [] ?_) (fun k hk => ?_)
 ·simp [cvT,step,res,a1,a2,a3,a4,a5,a6,a7,a8,a9,b1,b2,b3,b4,b5,b6,b7,b8,b9,g1,g2,n1,m1,litTd,boxU,boxT,litNt,-List.getD_eq_getElem?_getD]
 obtain ⟨hk,hall⟩ := hk
 unfold litTd
 simp -dsimp only [aqA,↓seqK,↓blkK,↓loopK,step,stepBin,eqB,Nat.add_assoc nid,↓reduceIte,simprocAttr,LN_succ,a1,a2,a3,a4,a5,a6,a7,a8,a9,b1,b2,b3,b4,b5,b6,b7,b8,b9,g1,g2,n1,m1]
 refine S2.dec (fun h1 => ?_) (fun h1 => ?_) <;> simp -dsimp only [aqA,↓seqK,↓blkK,↓loopK,step,stepBin,eqB,Nat.add_assoc nid,↓reduceIte,simprocAttr,LN_succ,a1,a2,a3,a4,a5,a6,a7,a8,a9,b1,b2,b3,b4,b5,b6,b7,b8,b9,g1,g2,n1,m1]
 ·have hkl : k < S.length := by omega
  have hdm : S.getD k 0 ∈ S := by rw [List.getD_eq_getElem?_getD,List.getElem?_eq_getElem hkl]; exact List.getElem_mem _
  refine ⟨by omega,CallO.on (hp (L.getD k p0) (S.getD k 0) (hd _ hdm) _ (by omega) (by omega)) (subH_cons (by simp only [aqA,↓seqK,↓blkK,↓loopK,step,stepBin,eqB,Nat.add_assoc nid,↓reduceIte,simprocAttr,LN_succ,boxU,boxT,litNt,a1,a2,a3,a4,a5,a6,a7,a8,a9,b1,b2,b3,b4,b5,b6,b7,b8,b9,g1,g2,n1,m1]) (subH_get (by simp only [aqA,↓seqK,↓blkK,↓loopK,step,stepBin,eqB,Nat.add_assoc nid,↓reduceIte,simprocAttr,LN_succ,boxU,boxT,litNt,a1,a2,a3,a4,a5,a6,a7,a8,a9,b1,b2,b3,b4,b5,b6,b7,b8,b9,g1,g2,n1,m1]))) ?_⟩
  simp -dsimp only [aqA,↓seqK,↓blkK,↓loopK,step,stepBin,eqB,Nat.add_assoc nid,↓reduceIte,simprocAttr,LN_succ,a1,a2,a3,a4,a5,a6,a7,a8,a9,b1,b2,b3,b4,b5,b6,b7,b8,b9,g1,g2,n1,m1]
  refine S2.intro (fun h2 => ?_) (fun h2 => ?_) <;> simp -dsimp only [aqA,↓seqK,↓blkK,↓loopK,step,stepBin,eqB,Nat.add_assoc nid,↓reduceIte,simprocAttr,LN_succ,a1,a2,a3,a4,a5,a6,a7,a8,a9,b1,b2,b3,b4,b5,b6,b7,b8,b9,g1,g2,n1,m1]
  ·have e : nextI G S s = (k : Int) := by
    unfold nextI
    have : S.findIdx? (pickN G s) = some k := by
     refine List.findIdx?_eq_some_iff_getElem.2 ⟨hkl,?_,fun j hj => ?_⟩
     ·rw [List.getD_eq_getElem?_getD,List.getElem?_eq_getElem hkl] at h2; exact h2
     ·have := hall j hj
      rw [List.getD_eq_getElem?_getD,List.getElem?_eq_getElem (by omega)] at this
      simpa using this
    rw [this]
   rw [e]
   refine RetOK.go [] [] (.inl rfl) ?_
   simp [a65,cvT,step,res,a1,a2,a3,a4,a5,a6,a7,a8,a9,b1,b2,b3,b4,b5,b6,b7,b8,b9,g1,g2,n1,m1,boxU,boxT,litNt,-List.getD_eq_getElem?_getD]
  ·refine ⟨by unfold inI64; omega,k + 1,⟨⟨by omega,fun j hj => ?_⟩,by omega⟩,Cov.go [] [] ?_⟩
   ·rcases (by omega : j < k ∨ j = k) with hj | hj
    ·exact hall j hj
    ·rw [hj]; exact h2
   ·simp [cvT,step,res,a1,a2,a3,a4,a5,a6,a7,a8,a9,b1,b2,b3,b4,b5,b6,b7,b8,b9,g1,g2,n1,m1,litTd,boxU,boxT,litNt,-List.getD_eq_getElem?_getD]
 ·have hkn : k = S.length := by omega
  have e : nextI G S s = -1 := by
   unfold nextI
   have : S.findIdx? (pickN G s) = none := by
    refine List.findIdx?_eq_none_iff.2 fun d hd => ?_
    obtain ⟨j,hj,rfl⟩ := List.mem_iff_getElem.1 hd
    have := hall j (by omega)
    rw [List.getD_eq_getElem?_getD,List.getElem?_eq_getElem hj] at this
    exact this
   rw [this]
  rw [e]
  refine RetOK.go [] [] (.inl rfl) ?_
  simp [a65,cvT,step,res,a1,a2,a3,a4,a5,a6,a7,a8,a9,b1,b2,b3,b4,b5,b6,b7,b8,b9,g1,g2,n1,m1,boxU,boxT,litNt,-List.getD_eq_getElem?_getD]
end Go.Proofs.YtmgfcjblclanmaaGreatDoor
namespace Go.Proofs.YtmgfcjblclanmaaGreatDoor
open Go.RowKit
def fewGo (W : Waf) (card : List Pt) : Option (List Nat) := goN ((tdV W card).map (setT W card)) (2 ^ (opV W).length) (2 ^ (opV W).length - 1)
def outP (L : List Pt) (is : List Nat) : List Pt := is.map fun i => L.getD i p0
def fewOut (W : Waf) (card : List Pt) : List Pt := outP (tdV W card) ((fewGo W card).getD [])
theorem doneP_get {F : Pt → Bool} {l : List Pt} {j : Nat} (h : j < (keepP F l).length) : (doneP F l).getD j p0 = (keepP F l).getD j p0 := by
 unfold doneP
 rw [List.getD_eq_getElem?_getD,List.getElem?_append_left h,List.getD_eq_getElem?_getD]
theorem nextI_few {S : List Nat} {k s : Nat} (hs : s ≤ k) (hk : k < 2 ^ 64) : nextI (fun i => (tabN S k).getD i 0) S s = match nextTd S s with
 | some i => (i : Int)
 | none => -1 := by
 have e : pickN (fun i => (tabN S k).getD i 0) s = pickN (fewN S) s := by
  funext d
  have hle : andN s d ≤ s := andN_le (by omega)
  have e1 := tabN_few S (Nat.le_trans hle hs)
  have e2 := tabN_few S hs
  unfold pickN
  simp only [e1,e2]
 unfold nextI nextTd
 rw [e]
 all_goals (cases S.findIdx? (pickN (fewN S) s) <;> rfl)
theorem goN_zero {l : List Nat} {f : Nat} (h : 0 < f) : goN l f 0 = some [] := by
 obtain ⟨g,rfl⟩ : ∃ g,f = g + 1 := ⟨f - 1,by omega⟩
 unfold goN
 rw [if_pos rfl]
theorem goN_next {l : List Nat} {f s : Nat} (h : 0 < f) (h0 : s ≠ 0) : goN l f s = match nextTd l s with
 | none => none
 | some i => (goN l (f - 1) (andN s (l.getD i 0))).map (i :: ·) := by
 obtain ⟨g,rfl⟩ : ∃ g,f = g + 1 := ⟨f - 1,by omega⟩
 rw [goN,if_neg h0]
 rfl
theorem andN_down {l : List Nat} {s d : Nat} (hs : s < 2 ^ 64) (h : pickN (fewN l) s d = true) : andN s d < s := by
 obtain ⟨h1,_,_,h4⟩ := pick_facts h
 obtain ⟨i,hi⟩ := Nat.exists_testBit_of_ne_zero h4
 exact andN_lt hs (subN_iff.1 h1 i hi) hi
def GoAt (S : List Nat) (s0 : Nat) (s : Nat) (is : List Nat) : Prop := is.length + s ≤ s0 ∧ ∃ f,s < f ∧ goN S (s0 + 1) s0 = (goN S f s).map (is ++ ·)
theorem GoAt.start (S : List Nat) (s0 : Nat) : GoAt S s0 s0 [] := ⟨by simp,s0 + 1,by omega,by cases goN S (s0 + 1) s0 <;> rfl⟩
theorem GoAt.stop {S : List Nat} {s0 : Nat} {is : List Nat} (h : GoAt S s0 0 is) : goN S (s0 + 1) s0 = some is := by
 obtain ⟨_,f,hf,e⟩ := h
 rw [e,goN_zero hf]
 simp
theorem GoAt.no {S : List Nat} {s0 s : Nat} {is : List Nat} (h : GoAt S s0 s is) (h0 : s ≠ 0) (hn : nextTd S s = none) : goN S (s0 + 1) s0 = none := by
 obtain ⟨_,f,hf,e⟩ := h
 rw [e,goN_next (by omega) h0,hn]
 rfl
theorem GoAt.step {S : List Nat} {s0 s i : Nat} {is : List Nat} (hs : s0 < 2 ^ 64) (h : GoAt S s0 s is) (h0 : s ≠ 0) (hn : nextTd S s = some i) : GoAt S s0 (andN s (S.getD i 0)) (is ++ [i]) ∧ andN s (S.getD i 0) < s := by
 obtain ⟨h1,f,hf,e⟩ := h
 have hd : andN s (S.getD i 0) < s := andN_down (by omega) (nextTd_some hn).2
 refine ⟨⟨by rw [List.length_append,List.length_singleton]; omega,f - 1,by omega,?_⟩,hd⟩
 rw [e,goN_next (by omega) h0,hn]
 simp only [Option.map_map]
 congr 1
 funext l
 simp
def arrTs (L : List Pt) (S : List Nat) : Option ABlk := some (.arr 107 L.length [.i .i64 fun j => (L.getD j p0).1,.i .i64 fun j => (L.getD j p0).2,.i .u64 fun j => ((S.getD j 0 : Nat) : Int)])
set_option maxHeartbeats 8000000 in
theorem fewestApi_all (nl nlc : Bool) (W : Waf) (card : List Pt) (nid : Nat) (hWb : WafBd W) (hW : WafOk W) (h0 : cfV W card = 0) (hl : card.length ≤ 1000) (hc : ∀ p ∈ card,p.1 ≤ 100 ∧ -100 ≤ p.1 ∧ p.2 ≤ 100 ∧ -100 ≤ p.2) (hk : (opV W).length ≤ 14) :
  ACall Tryz.prog 17 [wafP nl W,litPl nlc card] [] nid (.tup [.sl nid 0 (fewOut W card).length,.bool (fewGo W card).isSome,.int .i64 0]) [(nid,arrPl (fewOut W card))] := by
 have hpl := plTo_bd hW (Nat.le_refl _)
 have hplv : (plV W).length ≤ 60000 := hpl
 have hf := fun k => cardFault_all nl nlc W card k hWb (by omega)
 rw [h0] at hf
 have hK : keepP (fun p => !untB W p) (plV W) = opV W := keep_unt W _
 have hin : ∀ p ∈ plV W,inI64 p.1 ∧ inI64 p.2 := fun p hp => by
  obtain ⟨h1,h2,h3,h4⟩ := plV_bd hW hp
  unfold inI64; omega
 have hdel := fun id k h3 h4 h5 => deleteP1_c 62 id nid nl W (fun p => !untB W p) (plV W) k h3 h4 h5 (by omega) (fun p hp nid' h' => unt2_c nid nl W p nid' h' hW (hin p hp))
 rw [hK] at hdel
 have hdg := fun j (h : j < (opV W).length) => doneP_get (F := fun p => !untB W p) (l := plV W) (j := j) (by rw [hK]; exact h)
 rw [hK] at hdg
 have hdl := doneP_len (fun p => !untB W p) (plV W)
 have hpla := fun k => places_all nl W k hW
 have htd := fun nlo k => touchdowns_c nl nlc nlo W card k hW hl hc hk
 have hsl : ∀ d ∈ (tdV W card).map (setT W card),d < 16384 := fun d hd => by
  obtain ⟨a,ha,rfl⟩ := List.mem_map.1 hd
  have h1 : setT W card a = orT (opV W) (touchL card a) (touchL card a).length := (orT_all (opV_nodup W) _).symm
  have h2 := orT_lt (opV W) (q := touchL card a) (Nat.le_refl _)
  have h3 : (2 : Nat) ^ (opV W).length ≤ 2 ^ 14 := Nat.pow_le_pow_right (by omega) hk
  rw [h1]
  omega
 have htl : (tdV W card).length ≤ 1000000 := by
  have h1 : (tdV W card).length ≤ (tdC W card).length := List.length_filter_le _ _
  have h2 : (tdC W card).length ≤ (tdP W card).length := compTo_len _ _
  have h3 : (tdP W card).length = (ptsV W card).length := sortV_len _
  have h4 := ptsV_len W card
  have : (opV W).length * card.length ≤ 14 * 1000 := Nat.mul_le_mul hk hl
  omega
 have hfw := fun nlt k => fewest_c nlt (tdV W card) ((tdV W card).map (setT W card)) (opV W).length k (List.length_map ..) htl hsl hk
 have hM : 2 ^ (opV W).length ≤ 2 ^ 14 := Nat.pow_le_pow_right (by omega) hk
 have hM1 : 1 ≤ 2 ^ (opV W).length := Nat.pow_pos (by omega)
 have hTl := tabN_len ((tdV W card).map (setT W card)) (2 ^ (opV W).length - 1)
 have hTv := tabN_le ((tdV W card).map (setT W card)) (2 ^ (opV W).length - 1)
 have hsh := shl64u (opV W).length (by omega)
 rw [Nat.one_shiftLeft] at hsh
 have hgo : fewGo W card = goN ((tdV W card).map (setT W card)) (2 ^ (opV W).length - 1 + 1) (2 ^ (opV W).length - 1) := by unfold fewGo; rw [Nat.sub_add_cancel hM1]
 have hnx := fun s hs => nextI_few (S := (tdV W card).map (setT W card)) (k := 2 ^ (opV W).length - 1) (s := s) hs (by omega)
 have hSl : ((tdV W card).map (setT W card)).length = (tdV W card).length := List.length_map ..
 unfold fewOut
 generalize doneP (fun p => !untB W p) (plV W) = D at *
 rw [hgo]
 clear hgo
 unfold arrTd at htd
 generalize (tdV W card).map (setT W card) = S at *
 generalize tdV W card = L at *
 have hop : (opV W).length ≤ (plV W).length := List.length_filter_le _ _
 generalize opV W = op at *
 generalize plV W = pl at *
 generalize 2 ^ op.length = M at *
 refine acall_sr c17 (by simp [a17]) ?_
 unfold a17
 unfold wafP litPl at *
 refine SR.seq ?_
 simp -dsimp only [aqA,↓seqK,↓blkK,↓loopK,step,stepBin,eqB,Nat.add_assoc nid,↓reduceIte,simprocAttr,LN_succ]
 refine SR.seqTo ⟨[(1,litPl nlc card),(2,.ptr nid 0)],[(nid,boxW nl W)],nid + 100,nid⟩ ?_ ?_
 ·simp -dsimp only [aqA,↓seqK,↓blkK,↓loopK,step,stepBin,eqB,Nat.add_assoc nid,↓reduceIte,simprocAttr,LN_succ]
  refine CallO.pure (hf _) ?_
  simp -dsimp only [aqA,↓seqK,↓blkK,↓loopK,step,stepBin,eqB,Nat.add_assoc nid,↓reduceIte,simprocAttr,LN_succ]
  refine Cov.go [] [] ?_
  simp [cvT,step,res,boxW,litPl,-List.getD_eq_getElem?_getD]
 refine SR.seqTo ⟨[(8,.sl (nid + 4) 0 op.length),(1,litPl nlc card),(2,.ptr nid 0)],[(nid,boxW nl W),(nid + 4,arrPl D)],nid + 200,nid⟩ ?_ ?_
 ·unfold boxW litPl
  simp -dsimp only [aqA,↓seqK,↓blkK,↓loopK,step,stepBin,eqB,Nat.add_assoc nid,↓reduceIte,simprocAttr,LN_succ]
  refine CallO.pure (hpla _) ?_
  unfold arrPl boxW at hdel
  unfold arrPl
  simp -dsimp only [aqA,↓seqK,↓blkK,↓loopK,step,stepBin,eqB,Nat.add_assoc nid,↓reduceIte,simprocAttr,LN_succ]
  refine CallO.on (hdel _ _ (by omega) (by omega) (by omega)) (subH_cons (by simp only [aqA,↓seqK,↓blkK,↓loopK,step,stepBin,eqB,Nat.add_assoc nid,↓reduceIte,simprocAttr,LN_succ]) (subH_get (by simp only [aqA,↓seqK,↓blkK,↓loopK,step,stepBin,eqB,Nat.add_assoc nid,↓reduceIte,simprocAttr,LN_succ]))) ?_
  simp -dsimp only [aqA,↓seqK,↓blkK,↓loopK,step,stepBin,eqB,Nat.add_assoc nid,↓reduceIte,simprocAttr,LN_succ]
  refine Cov.go [(nid + 4,nid + 104)] [] ?_
  simp [cvT,step,res,-List.getD_eq_getElem?_getD]
 refine SR.freezeB [nid + 4] (fun nl' => ?_)
 simp only [frzS,frzH,frzBlk,lends,lend,kill,noOs,aqA,↓seqK,↓blkK,↓loopK,step,stepBin,eqB,Nat.add_assoc nid,↓reduceIte,simprocAttr,LN_succ,boxW,arrPl,litPl]
 generalize nl' (nid + 4) = nlo
 refine SR.cov (t' := .mk) (st' := ⟨[(8,litPl nlo op),(1,litPl nlc card),(2,.ptr nid 0)],[(nid,boxW nl W)],nid + 300,nid⟩) (Cov.go [] [] ?_) ?_
 ·simp [cvT,step,res,boxW,litPl,-List.getD_eq_getElem?_getD]
  exact ⟨ColEq.i fun j hj => by rw [hdg j hj],ColEq.i fun j hj => by rw [hdg j hj]⟩
 unfold litPl boxW
 refine SR.seqTo ⟨[(8,litPl nlo op),(1,litPl nlc card),(2,.ptr nid 0)],[(nid,boxW nl W)],nid + 400,nid⟩ ?_ ?_
 ·have hlen : ¬ (14 : Int) < (op.length : Nat) := by omega
  simp -dsimp only [aqA,↓seqK,↓blkK,↓loopK,step,stepBin,eqB,Nat.add_assoc nid,↓reduceIte,simprocAttr,LN_succ,hlen]
  refine Cov.go [] [] ?_
  simp [cvT,step,res,boxW,litPl,-List.getD_eq_getElem?_getD]
 unfold litPl boxW
 refine SR.seqTo ⟨[(9,.sl (nid + 8) 0 L.length),(8,litPl nlo op)],[(nid + 8,arrTs L S)],nid + 500,nid⟩ ?_ ?_
 ·simp -dsimp only [aqA,↓seqK,↓blkK,↓loopK,step,stepBin,eqB,Nat.add_assoc nid,↓reduceIte,simprocAttr,LN_succ]
  refine CallO.pure (htd _ _) ?_
  simp -dsimp only [aqA,↓seqK,↓blkK,↓loopK,step,stepBin,eqB,Nat.add_assoc nid,↓reduceIte,simprocAttr,LN_succ]
  refine Cov.go [(nid + 8,nid + 412)] [] ?_
  simp [cvT,step,res,arrTs,litPl,-List.getD_eq_getElem?_getD]
 refine SR.freezeB [nid + 8] (fun nl2 => ?_)
 simp only [frzS,frzH,frzBlk,lends,lend,kill,noOs,aqA,↓seqK,↓blkK,↓loopK,step,stepBin,eqB,Nat.add_assoc nid,↓reduceIte,simprocAttr,LN_succ,arrTs,litPl]
 generalize nl2 (nid + 8) = nlt
 refine SR.cov (t' := .mk) (st' := ⟨[(9,litTd nlt L S),(8,litPl nlo op)],[],nid + 600,nid⟩) (Cov.go [] [] ?_) ?_
 ·simp [cvT,step,res,litTd,litPl,-List.getD_eq_getElem?_getD]
 have hTl' : (tabN S (M - 1)).length = M := by omega
 generalize tabN S (M - 1) = Tb at *
 have hfw' := fun k => hfw nlt k
 unfold litTd arrNt at hfw'
 rw [hTl'] at hfw'
 unfold litPl litTd
 refine SR.seqTo ⟨[(10,.ptr (nid + 16) 0),(9,litTd nlt L S),(8,litPl nlo op)],[(nid + 12,arrNt Tb),(nid + 16,some (.box 22 [.sl (nid + 12) 0 M]))],nid + 700,nid⟩ ?_ ?_
 ·simp -dsimp only [aqA,↓seqK,↓blkK,↓loopK,step,stepBin,eqB,Nat.add_assoc nid,↓reduceIte,simprocAttr,LN_succ]
  refine CallO.pure (hfw' _) ?_
  simp -dsimp only [aqA,↓seqK,↓blkK,↓loopK,step,stepBin,eqB,Nat.add_assoc nid,↓reduceIte,simprocAttr,LN_succ]
  refine Cov.go [(nid + 12,nid + 612),(nid + 16,nid + 616)] [] ?_
  simp [cvT,step,res,arrNt,litTd,litPl,hTl',-List.getD_eq_getElem?_getD]
 refine SR.freezeB [nid + 12] (fun nl3 => ?_)
 unfold arrNt
 rw [hTl']
 simp only [frzS,frzH,frzBlk,lends,lend,kill,noOs,aqA,↓seqK,↓blkK,↓loopK,step,stepBin,eqB,Nat.add_assoc nid,↓reduceIte,simprocAttr,LN_succ,litTd,litPl]
 generalize nl3 (nid + 12) = nlb
 refine SR.cov (t' := .mk) (st' := ⟨[(10,.ptr (nid + 16) 0),(9,litTd nlt L S),(8,litPl nlo op)],[(nid + 16,boxT nlb Tb)],nid + 800,nid⟩) (Cov.go [] [] ?_) ?_
 ·simp [cvT,step,res,litTd,litPl,boxT,litNt,hTl',-List.getD_eq_getElem?_getD]
 have hsub : IntKind.u64.wrap ((M : Int) - 1) = ((M - 1 : Nat) : Int) := by
  rw [show ((M : Int) - 1) = ((M - 1 : Nat) : Int) from by omega]
  exact u64_nat (by omega)
 unfold litPl litTd boxT litNt
 refine SR.seqTo ⟨[(11,.ptr (nid + 20) 0),(10,.ptr (nid + 16) 0),(9,litTd nlt L S)],[(nid + 16,boxT nlb Tb),(nid + 20,boxU (M - 1))],nid + 900,nid⟩ ?_ ?_
 ·simp -dsimp only [aqA,↓seqK,↓blkK,↓loopK,step,stepBin,eqB,Nat.add_assoc nid,↓reduceIte,simprocAttr,LN_succ]
  rw [hsh,hsub]
  refine ⟨by omega,Cov.go [(nid + 20,nid + 816)] [] ?_⟩
  simp [cvT,step,res,arrNt,litTd,litPl,boxT,boxU,litNt,hTl',-List.getD_eq_getElem?_getD]
 refine SR.seq ?_
 unfold litTd boxT litNt boxU
 simp -dsimp only [aqA,↓seqK,↓blkK,↓loopK,step,stepBin,eqB,Nat.add_assoc nid,↓reduceIte,simprocAttr,LN_succ]
 have hix := fun (i1 i2 : Nat) (s k : Nat) (k1 : i1 < k) (k2 : i2 < k) (k3 : i1 ≠ i2) (k4 : s < M) => indexT_c i1 i2 nlt nlb Tb L S s k k1 k2 k3 (by omega) (by omega) hSl htl hsl (fun i => by have := hTv i; omega)
 generalize hfuel : M - 1 = s0 at *
 refine SR.seqW (ι := {is : List Nat // goN S (s0 + 1) s0 = some is}) (fun x => ⟨[(12,.sl (nid + 24) 0 (outP L x.1).length)],[(nid + 24,arrPl (outP L x.1))],nid + 90000,nid⟩) ?_ (fun x => ?_)
 ·refine SR.block ?_
  refine SR.loopP (fun x : Nat × List Nat => GoAt S s0 x.1 x.2) (fun x : Nat × List Nat => ⟨[(12,.sl (nid + 24) 0 (outP L x.2).length),(11,.ptr (nid + 20) 0),(10,.ptr (nid + 16) 0),(9,litTd nlt L S)],[(nid + 16,boxT nlb Tb),(nid + 20,boxU x.1),(nid + 24,arrPl (outP L x.2))],nid + 1000,nid⟩) (fun x => x.1) (s0,[]) (GoAt.start S s0) (Cov.go [] [(nid + 24,2)] ?_) (fun x hx => ?_)
  ·simp [cvT,step,res,litTd,boxT,boxU,litNt,arrPl,outP,-List.getD_eq_getElem?_getD]
  obtain ⟨s,is⟩ := x
  simp only at hx ⊢
  have hs0 : s ≤ s0 := by have := hx.1; omega
  have hisl : is.length ≤ s0 := by have := hx.1; omega
  refine SR.seq ?_
  unfold boxU boxT litNt litTd arrPl
  by_cases hz : s = 0
  ·have hb : (((s : Nat) : Int) != 0) = false := by rw [hz]; rfl
   subst hz
   simp -dsimp only [aqA,↓seqK,↓blkK,↓loopK,step,stepBin,eqB,Nat.add_assoc nid,↓reduceIte,simprocAttr,LN_succ,hb]
   refine ⟨⟨is,hx.stop⟩,Cov.go [] [] ?_⟩
   simp [cvT,step,res,arrPl,-List.getD_eq_getElem?_getD]
  ·have hb : (((s : Nat) : Int) != 0) = true := by rw [bne_iff_ne]; omega
   simp -dsimp only [aqA,↓seqK,↓blkK,↓loopK,step,stepBin,eqB,Nat.add_assoc nid,↓reduceIte,simprocAttr,LN_succ,hb]
   refine SR.block ?_
   have hix' := fun k (k1 : nid + 24 < k) => hix (nid + 20) (nid + 16) s k (by omega) (by omega) (by omega) (by omega)
   rw [hnx s hs0] at hix'
   cases hn : nextTd S s with
   | none =>
    rw [hn] at hix'
    refine SR.run (t := .mk) ?_
    unfold litTd boxT litNt boxU at hix'
    simp -dsimp only [aqA,↓seqK,↓blkK,↓loopK,step,stepBin,eqB,Nat.add_assoc nid,↓reduceIte,simprocAttr,LN_succ]
    refine CallO.on (hix' _ (by omega)) (subH_cons (by simp only [aqA,↓seqK,↓blkK,↓loopK,step,stepBin,eqB,Nat.add_assoc nid,↓reduceIte,simprocAttr,LN_succ]) (subH_get (by simp only [aqA,↓seqK,↓blkK,↓loopK,step,stepBin,eqB,Nat.add_assoc nid,↓reduceIte,simprocAttr,LN_succ]))) ?_
    simp -dsimp only [aqA,↓seqK,↓blkK,↓loopK,step,stepBin,eqB,Nat.add_assoc nid,↓reduceIte,simprocAttr,LN_succ]
    have hno := hx.no hz hn
    rw [hno]
    refine RetOK.go [] [(nid,2)] (.inl rfl) ?_
    simp [a17,cvT,step,res,outP,-List.getD_eq_getElem?_getD]
   | some i =>
    rw [hn] at hix'
    obtain ⟨hst,hlt⟩ := hx.step (by omega) hz hn
    have hil := (nextTd_some hn).1
    refine SR.seqTo ⟨[(13,.int .i64 (i : Nat)),(12,.sl (nid + 24) 0 (outP L is).length),(11,.ptr (nid + 20) 0),(10,.ptr (nid + 16) 0),(9,litTd nlt L S)],[(nid + 16,boxT nlb Tb),(nid + 20,boxU s),(nid + 24,arrPl (outP L is))],nid + 1200,nid⟩ ?_ ?_
    ·unfold litTd boxT litNt boxU at hix'
     simp -dsimp only [aqA,↓seqK,↓blkK,↓loopK,step,stepBin,eqB,Nat.add_assoc nid,↓reduceIte,simprocAttr,LN_succ]
     refine CallO.on (hix' _ (by omega)) (subH_cons (by simp only [aqA,↓seqK,↓blkK,↓loopK,step,stepBin,eqB,Nat.add_assoc nid,↓reduceIte,simprocAttr,LN_succ]) (subH_get (by simp only [aqA,↓seqK,↓blkK,↓loopK,step,stepBin,eqB,Nat.add_assoc nid,↓reduceIte,simprocAttr,LN_succ]))) ?_
     simp -dsimp only [aqA,↓seqK,↓blkK,↓loopK,step,stepBin,eqB,Nat.add_assoc nid,↓reduceIte,simprocAttr,LN_succ]
     refine Cov.go [] [] ?_
     simp [cvT,step,res,litTd,boxT,boxU,litNt,arrPl,-List.getD_eq_getElem?_getD]
    refine SR.seq ?_
    unfold boxU boxT litNt litTd arrPl
    have hneg : ¬ ((i : Nat) : Int) < 0 := by omega
    simp -dsimp only [aqA,↓seqK,↓blkK,↓loopK,step,stepBin,eqB,Nat.add_assoc nid,↓reduceIte,simprocAttr,LN_succ,hneg]
    refine SR.seqTo ⟨[(13,.int .i64 (i : Nat)),(12,.sl (nid + 24) 0 (outP L (is ++ [i])).length),(11,.ptr (nid + 20) 0),(10,.ptr (nid + 16) 0),(9,litTd nlt L S)],[(nid + 16,boxT nlb Tb),(nid + 20,boxU s),(nid + 24,arrPl (outP L (is ++ [i])))],nid + 1400,nid⟩ ?_ ?_
    ·have hos : outP L (is ++ [i]) = outP L is ++ [L.getD i p0] := by simp [outP]
     have hol : (outP L (is ++ [i])).length = (outP L is).length + 1 := by rw [hos]; simp
     simp -dsimp only [aqA,↓seqK,↓blkK,↓loopK,step,stepBin,eqB,Nat.add_assoc nid,↓reduceIte,simprocAttr,LN_succ]
     rw [getD_appP (outP L is) (L.getD i p0) rfl (fun q => q.1) rfl rfl,getD_appP (outP L is) (L.getD i p0) rfl (fun q => q.2) rfl rfl,← hos]
     have hopl : (outP L is).length = is.length := by simp [outP]
     refine ⟨by omega,⟨by omega,by omega⟩,Cov.go [(nid + 24,nid + 1236)] [] ?_⟩
     simp [cvT,step,res,hol,litTd,boxT,boxU,litNt,arrPl,-List.getD_eq_getElem?_getD]
    unfold boxU boxT litNt litTd arrPl
    refine SR.run (t := .mk) ?_
    simp -dsimp only [aqA,↓seqK,↓blkK,↓loopK,step,stepBin,eqB,Nat.add_assoc nid,↓reduceIte,simprocAttr,LN_succ]
    have hdm : S.getD i 0 ∈ S := by rw [List.getD_eq_getElem?_getD,List.getElem?_eq_getElem hil]; exact List.getElem_mem _
    have hdb := hsl _ hdm
    rw [andNot64u s (S.getD i 0) (by omega) (by omega)]
    refine ⟨by omega,(andN s (S.getD i 0),is ++ [i]),⟨hst,hlt⟩,Cov.go [] [] ?_⟩
    simp [cvT,step,res,litTd,boxT,boxU,litNt,arrPl,-List.getD_eq_getElem?_getD,-List.length_append]
 ·obtain ⟨is,his⟩ := x
  dsimp only
  rw [his]
  refine SR.run (t := .mk) ?_
  unfold arrPl
  simp -dsimp only [aqA,↓seqK,↓blkK,↓loopK,step,stepBin,eqB,Nat.add_assoc nid,↓reduceIte,simprocAttr,LN_succ]
  refine RetOK.go [(nid,nid + 24)] [] (.inl rfl) ?_
  simp [a17,cvT,step,res,-List.getD_eq_getElem?_getD]
end Go.Proofs.YtmgfcjblclanmaaGreatDoor
namespace Go.Proofs.YtmgfcjblclanmaaGreatDoor
open Go.RowKit Go.Shelf Go.Lib Go.Sort
set_option maxHeartbeats 2000000
def byNameV (p q : List UInt8 × List UInt8) : Int := Lib.compareBytes p.1 q.1
set_option maxRecDepth 20000 in
set_option maxHeartbeats 4000000 in
theorem byName_calls (p q : List UInt8 × List UInt8) (W : World) : Calls Tryz.prog 80 #[.agg #[.string ⟨p.1.toArray⟩,.string ⟨p.2.toArray⟩],.agg #[.string ⟨q.1.toArray⟩,.string ⟨q.2.toArray⟩]] W fun e w' => e = .returned (.int .i64 (byNameV p q)) ∧ ∃ n os',w' = grow (W.drewN n) os' := by
 have hB := fun W' => Any.strings_Compare Tryz.lays106 ⟨p.1.toArray⟩ ⟨q.1.toArray⟩ W'
 have hf : Tryz.lays106_ren.f 106 = 81 := by kernel_rfl
 rw [hf] at hB
 have hr : Lib.compareBytes (ByteArray.mk p.1.toArray).data.toList (ByteArray.mk q.1.toArray).data.toList = byNameV p q := rfl
 rw [hr] at hB
 generalize byNameV p q = r at *
 obtain ⟨px,py⟩ := p
 obtain ⟨qx,qy⟩ := q
 simp only at hB ⊢
 generalize (⟨px.toArray⟩ : ByteArray) = ax at *
 generalize (⟨py.toArray⟩ : ByteArray) = ay at *
 generalize (⟨qx.toArray⟩ : ByteArray) = bx at *
 generalize (⟨qy.toArray⟩ : ByteArray) = bY at *
 go_enter Tryz.func80,Tryz.ntmps80
 go_wp2_with (go_at_call 81; refine (hB _).mono ?_; rintro e w' ⟨rfl,rfl⟩)
 go_ret
 refine ⟨rfl,0,#[.cells #[.string ax,.string ay] 78 (0,0),.cells #[.string bx,.string bY] 78 (0,0)],?_⟩
 rw [alloc_eq_grow,alloc_eq_grow,grow_grow]
 rfl
end Go.Proofs.YtmgfcjblclanmaaGreatDoor
namespace Go.Proofs.YtmgfcjblclanmaaGreatDoor
open Go.RowKit Go.Shelf Go.Lib Go.Sort
set_option maxHeartbeats 2000000
abbrev PrT := List UInt8 × List UInt8
def encS (p : PrT) : List Value := [.string ⟨p.1.toArray⟩,.string ⟨p.2.toArray⟩]
def pr0 : PrT := ([],[])
def arrS2 (T : Nat) (l : List PrT) : Option ABlk := some (.arr T l.length [.s fun i => (l.getD i pr0).1,.s fun i => (l.getD i pr0).2])
theorem flat_getS (l : List PrT) {i : Nat} (hi : i < l.length) : (flatK encS 2 l.toArray).toList[i * 2 + 0]? = some (.string ⟨(l.getD i pr0).1.toArray⟩) ∧ (flatK encS 2 l.toArray).toList[i * 2 + 1]? = some (.string ⟨(l.getD i pr0).2.toArray⟩) := by
 have hg : (l.toArray)[i]! = l.getD i pr0 := by
  rw [getElem!_pos (l.toArray) i (by simpa using hi),List.getD_eq_getElem?_getD,List.getElem?_eq_getElem hi]
  simp
 have hs : (flatK encS 2 l.toArray).size = l.length * 2 := by simp
 have key : ∀ t,t < l.length * 2 → (flatK encS 2 l.toArray).toList[t]? = some ((encS (l.toArray)[t / 2]!)[t % 2]!) := fun t ht => by
  have h := get_flatK encS 2 l.toArray t (by simpa using ht)
  rw [getElem!_pos _ t (by rw [hs]; exact ht)] at h
  rw [Array.getElem?_toList,Array.getElem?_eq_getElem (by rw [hs]; exact ht),h]
 refine ⟨?_,?_⟩
 ·rw [key _ (by omega),show (i * 2 + 0) / 2 = i by omega,show (i * 2 + 0) % 2 = 0 by omega,hg]
  rfl
 ·rw [key _ (by omega),show (i * 2 + 1) / 2 = i by omega,show (i * 2 + 1) % 2 = 1 by omega,hg]
  rfl
theorem acall_turnedS {P : Program} {f g : Nat} {fn : Func} {T : Nat} {l l' : List PrT} (ix nid : Nat) (hf : P.funcs[f]? = some fn) (h1 : (fn.name == "runtime.NumGoroutine") = false) (h2 : fn.body.isNone = false)
  (hT : T ≠ TS) (hpos : 0 < l.length) (hlen : l'.length = l.length)
  (h : ∀ (w : World) (blk off cap : Nat), HoldsK encS 2 w blk off l.toArray → blk < w.heap.size → Calls P f #[.slice (some ⟨blk, off, none⟩) l.toArray.size cap, .func (.func g) #[] #[]] w fun e w' => e = .returned (.tuple #[]) ∧ ∃ n os, w' = sortWorldK encS 2 w blk off n l'.toArray os) :
  ACall P f [.sl ix 0 l.length, .fn g []] [(ix, arrS2 T l)] nid (.tup []) [(ix, arrS2 T l')] := by
 intro C vs hb hl hrep hs
 obtain ⟨v0, v1, rfl⟩ : ∃ v0 v1, vs = [v0, v1] := by
  match vs, hl with
  | [a, b], _ => exact ⟨a, b, rfl⟩
 have r0 := hrep 0 _ _ rfl rfl
 have r1 := hrep 1 _ _ rfl rfl
 have hgb : getH [(ix, arrS2 T l)] ix = some (.arr T l.length [.s fun i => (l.getD i pr0).1, .s fun i => (l.getD i pr0).2]) := by simp [getH, arrS2]
 obtain ⟨pl', hm', hbs, hlies⟩ := hs.blk ix _ hgb
 cases r1 with
 | @fn _ _ us hul hu =>
 have hus : us = [] := List.eq_nil_of_length_eq_zero hul
 subst hus
 cases r0 with
 | @sl _ _ _ pl A B c cap hm hh hl0 h0 hB hB0 hle hc =>
 rw [hm] at hm'
 injection hm' with hm'
 subst hm'
 obtain ⟨hBA, hcc⟩ := h0 rfl
 have hBv := hB (by omega)
 rw [Nat.zero_mul, Nat.add_zero] at hBv
 have hbs' := hbs
 obtain ⟨xs, cap2, s1, s2, s3, s4, s5, s6, s7⟩ := hbs'
 have hol := s4 hpos
 have hs2 : pl.sz = 2 := s2
 have hcells := s3.cells hol
 have hxl : xs.length = l.length * 2 := s3.1
 have hblt := s3.lt pl.blk hol
 have hF : ∀ t, t < l.length * 2 → (flatK encS 2 l'.toArray).size = l.length * 2 := fun _ _ => by simp [hlen]
 have hFs : (flatK encS 2 l'.toArray).toList.length = l.length * 2 := by simp [hlen]
 obtain ⟨cur, hcur, hcsz, Y', hY', hev⟩ := HSF.setArr nid hs (cols' := [.s fun i => (l'.getD i pr0).1, .s fun i => (l'.getD i pr0).2]) hm hgb hpos 0 (flatK encS 2 l'.toArray).toList (by
   intro v hv
   obtain ⟨t, ht, rfl⟩ := List.getElem_of_mem hv
   have ht' : t < l'.length * 2 := by rw [hFs] at ht; omega
   have hg := flat_getS l' (i := t / 2) (by omega)
   have hcase : t = t / 2 * 2 + 0 ∨ t = t / 2 * 2 + 1 := by omega
   rcases hcase with hc | hc
   ·have := hg.1; rw [← hc, List.getElem?_eq_getElem ht] at this; injection this with this; rw [this]; rfl
   ·have := hg.2; rw [← hc, List.getElem?_eq_getElem ht] at this; injection this with this; rw [this]; rfl)
  (by rw [hFs]; simp) rfl
  (by
   intro a k c' ha hk _ _
   have hg := flat_getS l' (i := a) (by omega)
   match k, hk with
   | 0, hk => injection hk with hk; subst hk; exact ⟨_, hg.1, .s⟩
   | 1, hk => injection hk with hk; subst hk; exact ⟨_, hg.2, .s⟩)
  (by
   intro a k c' ha hk hn
   exfalso
   apply hn
   rw [hFs]
   have : k < 2 := (List.getElem?_eq_some_iff.1 hk).1
   simp only [List.length_cons, List.length_nil]
   omega)
 have hex := hcur.exact hT
 have hold : HoldsK encS 2 C.w0 pl.blk pl.o l.toArray := by
  intro j hj
  have hj' : j < l.length * 2 := by simpa using hj
  have hg := flat_getS l (i := j / 2) (by omega)
  have hx : ∀ k c, k < 2 → ([.s fun i => (l.getD i pr0).1, .s fun i => (l.getD i pr0).2] : List Col)[k]? = some c → ∃ v, xs[j / 2 * 2 + k]? = some v ∧ ColRep C.Y0 C.w0 c (j / 2) v := fun k c _ hk => by
   obtain ⟨v, e1, e2⟩ := s7 (j / 2) k c (by omega) hk
   exact ⟨v, e1, e2.col (noOs_get (by rfl) hk)⟩
  have hlt : j < (flatK encS 2 l.toArray).size := by simpa using hj'
  have key : xs[j]? = (flatK encS 2 l.toArray).toList[j]? := by
   have hcase : j = j / 2 * 2 + 0 ∨ j = j / 2 * 2 + 1 := by omega
   rcases hcase with hc | hc
   ·obtain ⟨v, e1, e2⟩ := hx 0 _ (by omega) rfl
    cases e2
    rw [hc, e1, hg.1]
   ·obtain ⟨v, e1, e2⟩ := hx 1 _ (by omega) rfl
    cases e2
    rw [hc, e1, hg.2]
  rw [Array.getElem?_toList (xs := flatK encS 2 l.toArray), Array.getElem?_eq_getElem hlt] at key
  refine ⟨?_, ?_⟩
  ·rw [hcells j _ key, getElem!_pos _ j hlt]
   rfl
  ·simp [World.frozen?, hex]
 have hcall := h C.w0 pl.blk pl.o c hold hblt
 refine .inl ⟨fn, hf, h1, h2, ?_⟩
 have hargs : ([Value.slice B l.length c, Value.func (.func g) #[] ([] : List Value).toArray] : List Value).toArray = #[.slice (some ⟨pl.blk, pl.o, none⟩) l.toArray.size c, .func (.func g) #[] #[]] := by
  rw [hBv]; simp
 rw [hargs]
 refine hcall.mono fun e w' ⟨he, n, os, hw⟩ => ⟨_, he, Y', C.m0, .tup rfl (fun i p v hp => by simp at hp), ?_, ?_⟩
 all_goals
  have hgr : (C.w0.setRow pl.blk (splice cur.toList (pl.o + 0) (flatK encS 2 l'.toArray).toList).toArray).grownBy w' none := by
   rw [hw]
   unfold sortWorldK putRowK
   have e1 : putRow id (Sort.ahead C.w0 n) pl.blk pl.o (flatK encS 2 l'.toArray) = Sort.ahead (putRow id C.w0 pl.blk pl.o (flatK encS 2 l'.toArray)) n := rfl
   rw [e1, putRow_setRow C.w0 pl.blk pl.o _ cur T (0, 0) hex (by rw [Array.length_toList] at hcsz; simpa using hcsz)]
   exact ⟨rfl, rfl, rfl, by simp [grow, Sort.ahead], fun k hk _ => by simp only [grow, Sort.ahead, Nat.add_zero] at hk ⊢; rw [Array.getElem?_append_left hk]⟩
  obtain ⟨q1, q2⟩ := hY'.push (Fr' := fun id => nid + 4 ≤ id) (fun id hid => ⟨by omega, by omega⟩) hgr
 ·exact q1.same (fun i => by by_cases hi : ix = i <;> simp [getH, arrS2, hi, hlen])
 ·exact hev.trans q2
end Go.Proofs.YtmgfcjblclanmaaGreatDoor
namespace Go.Proofs.YtmgfcjblclanmaaGreatDoor
open Go.Sort
theorem cb_cons (a b : UInt8) (ar br : List UInt8) : Lib.compareBytes (a :: ar) (b :: br) < 0 ↔ (a.toNat < b.toNat ∨ a.toNat = b.toNat ∧ Lib.compareBytes ar br < 0) := by
 rw [show Lib.compareBytes (a :: ar) (b :: br) = if a < b then -1 else if b < a then 1 else Lib.compareBytes ar br from rfl]
 simp only [UInt8.lt_iff_toNat_lt]
 split
 ·omega
 ·split
  ·omega
  ·have : a.toNat = b.toNat := by omega
   rw [this]
   omega
theorem cb_nil (l : List UInt8) : ¬ Lib.compareBytes l [] < 0 := by cases l <;> simp [Lib.compareBytes]
theorem cb_irr : ∀ l : List UInt8,¬ Lib.compareBytes l l < 0
 | [] => by simp [Lib.compareBytes]
 | a :: l => by
  rw [cb_cons]
  have := cb_irr l
  omega
theorem cb_trans : ∀ a b c : List UInt8,Lib.compareBytes a b < 0 → Lib.compareBytes b c < 0 → Lib.compareBytes a c < 0
 | _,[],_,h,_ => absurd h (cb_nil _)
 | _,_ :: _,[],_,h => absurd h (cb_nil _)
 | [],_ :: _,_ :: _,_,_ => by simp [Lib.compareBytes]
 | a :: ar,b :: br,c :: cr,h1,h2 => by
  rw [cb_cons] at *
  have := cb_trans ar br cr
  rcases h1 with h1 | ⟨h1,h3⟩ <;> rcases h2 with h2 | ⟨h2,h4⟩
  ·omega
  ·omega
  ·omega
  ·exact .inr ⟨by omega,this h3 h4⟩
theorem cb_ntrans : ∀ a b c : List UInt8,¬ Lib.compareBytes a b < 0 → ¬ Lib.compareBytes b c < 0 → ¬ Lib.compareBytes a c < 0
 | _,_,[],_,_ => cb_nil _
 | _,[],_ :: _,_,h => absurd (by simp [Lib.compareBytes]) h
 | [],_ :: _,_ :: _,h,_ => absurd (by simp [Lib.compareBytes]) h
 | a :: ar,b :: br,c :: cr,h1,h2 => by
  rw [cb_cons] at *
  have := cb_ntrans ar br cr
  rintro (h | ⟨h3,h4⟩)
  ·omega
  ·refine this (fun h => h1 (.inr ⟨by omega,h⟩)) (fun h => h2 (.inr ⟨by omega,h⟩)) h4
theorem byName_swo : SWO (ltOf byNameV) where
 irrefl x := by
  unfold ltOf byNameV
  simpa using cb_irr x.1
 trans x y z h1 h2 := by
  unfold ltOf byNameV at *
  simp only [decide_eq_true_eq] at *
  exact cb_trans _ _ _ h1 h2
 ntrans x y z h1 h2 := by
  unfold ltOf byNameV at *
  simp only [decide_eq_false_iff_not] at *
  exact cb_ntrans _ _ _ h1 h2
end Go.Proofs.YtmgfcjblclanmaaGreatDoor
namespace Go.Proofs.YtmgfcjblclanmaaGreatDoor
open Go.RowKit Go.Shelf Go.Lib Go.Sort
set_option maxHeartbeats 2000000
noncomputable def prSort (l : List PrT) : List PrT := (pdq (ltOf byNameV) l.toArray 0 l.toArray.size (Lib.bitLen l.toArray.size) true true).toList
theorem prSort_len (l : List PrT) : (prSort l).length = l.length := by
 have h := (pdq_sorts (ltOf byNameV) byName_swo l.toArray 0 l.toArray.size (Lib.bitLen l.toArray.size) true true (Nat.zero_le _) (Nat.le_refl _) (Or.inl rfl)).1
 have := h.1
 unfold prSort
 simpa using this
set_option maxRecDepth 20000 in
theorem sortPr_c (ix : Nat) (l : List PrT) (nid : Nat) (hpos : 0 < l.length) (hl : l.length < 4611686018427387904) :
  ACall Tryz.prog 79 [.sl ix 0 l.length,.fn 80 []] [(ix,arrS2 78 l)] nid (.tup []) [(ix,arrS2 78 (prSort l))] :=
 acall_turnedS ix nid Tryz.func79 (by kernel_rfl) (by kernel_rfl) (by decide) hpos (prSort_len l) (fun w blk off cap hH hblk => by
  have eg : ∀ args w,(callFunc 80 args).run Tryz.prog w = .ok (.enter 80 args) w := enters_of Tryz.func80 (by kernel_rfl) rfl
  have h := AnyQ.slices_SortFunc_eq Tryz.sortPr 2 Tryz.isAgg78 Tryz.sizeOf78 encS (fun _ => rfl) (fun x v hv => by simp [encS] at hv; rcases hv with rfl | rfl <;> rfl) byNameV byName_swo 80 #[] blk off cap l.toArray w eg (fun _ _ _ _ x y => byName_calls x y _) hH hblk (by simpa using hl)
  have hf : Tryz.sortPr_ren.f 6 = 79 := by kernel_rfl
  rw [hf] at h
  refine h.mono fun e w' ⟨he,n,os,hw⟩ => ⟨he,n,os,?_⟩
  rw [hw]
  unfold prSort
  simp)
end Go.Proofs.YtmgfcjblclanmaaGreatDoor
namespace Go.Proofs.YtmgfcjblclanmaaGreatDoor
open Go.RowKit
set_option maxHeartbeats 4000000 in
theorem dieR_all (nl : Bool) (W : Waf) (x y : Int) (nid : Nat) (hW : WafOk W) (hx : inI64 x) (hy : inI64 y) : ACall Tryz.prog 71 [wafP nl W,.agg [.int .i64 x,.int .i64 y]] [] nid (.int .u8 (dieV W x y)) [] := by
 have hp := hW.pos
 have hl := hW.len
 obtain ⟨hw1,hw2⟩ := hW.wide
 have hw0 : wideOf W = (W.rows.getD 0 []).length := rfl
 refine acall_run c71 (by simp [a71]) ?_
 unfold wafP
 simp -dsimp only [a71,aqA,↓seqK,↓blkK,↓loopK,step,stepBin,eqB,Nat.add_assoc nid,↓reduceIte,simprocAttr,LN_succ]
 refine ⟨by unfold inI64; omega,CallX.pure (in_c _ _ _ _) ?_⟩
 simp -dsimp only [aqA,↓seqK,↓blkK,↓loopK,step,stepBin,eqB,Nat.add_assoc nid,↓reduceIte,simprocAttr,LN_succ,Bool.not_not]
 cases h1 : outB y 0 ((W.rows.length : Int) - 1) <;> simp -dsimp only [aqA,↓seqK,↓blkK,↓loopK,step,stepBin,eqB,Nat.add_assoc nid,↓reduceIte,simprocAttr,LN_succ]
 ·refine ⟨by omega,by unfold inI64; omega,CallX.pure (in_c _ _ _ _) ?_⟩
  simp -dsimp only [aqA,↓seqK,↓blkK,↓loopK,step,stepBin,eqB,Nat.add_assoc nid,↓reduceIte,simprocAttr,LN_succ,Bool.not_not]
  rw [← hw0]
  cases h2 : outB x 0 ((wideOf W : Int) - 1) <;> simp -dsimp only [aqA,↓seqK,↓blkK,↓loopK,step,stepBin,eqB,Nat.add_assoc nid,↓reduceIte,simprocAttr,LN_succ]
  ·have hy1 : 0 ≤ y ∧ y < W.rows.length := by unfold outB at h1; simp at h1; omega
   have hx1 : 0 ≤ x ∧ x < wideOf W := by unfold outB at h2; simp at h2; omega
   have hr := (hW.at (y := y.toNat) (by omega)).1
   have e : dieV W x y = byteI ((W.rows.getD y.toNat []).getD x.toNat 0) := by unfold dieV; rw [h1,h2,if_neg (by simp),if_neg (by simp)]
   rw [e]
   refine ⟨by omega,by omega,?_⟩
   refine RetOK.pure (.inl rfl) rfl ?_
   simp [cvT,step,res,byteI]
  ·have e : dieV W x y = 46 := by unfold dieV; rw [h1,h2,if_neg (by simp),if_pos rfl]
   rw [e]
   refine RetOK.pure (.inl rfl) rfl ?_
   simp [cvT,step,res]
 ·have e : dieV W x y = 46 := by unfold dieV; rw [h1,if_pos rfl]
  rw [e]
  refine RetOK.pure (.inl rfl) rfl ?_
  simp [cvT,step,res]
theorem dieN (W : Waf) (x y : Int) : ∃ n : Nat,n < 256 ∧ dieV W x y = (n : Int) := by
 unfold dieV
 split
 ·exact ⟨46,by omega,rfl⟩
 split
 ·exact ⟨46,by omega,rfl⟩
 ·exact ⟨_,UInt8.toNat_lt _,rfl⟩
theorem testedR_all (nl : Bool) (W : Waf) (p : Pt) (nid : Nat) (hW : WafOk W) (hp : inI64 p.1 ∧ inI64 p.2) : ACall Tryz.prog 75 [wafP nl W,.agg [.int .i64 p.1,.int .i64 p.2]] [] nid (.bool (allP W p)) [] := by
 obtain ⟨n,hn,e⟩ := dieN W p.1 p.2
 have hd := fun k => dieR_all nl W p.1 p.2 k hW hp.1 hp.2
 have hb := binsS_ok n hn
 have hg : allP W p = decide (0 ≤ Lib.indexByte (binsL ++ [42]) n.toUInt8) := by unfold allP testedV; rw [e,hb]
 rw [e] at hd
 rw [hg]
 refine acall_run c75 (by simp [a75]) ?_
 unfold wafP at *
 simp -dsimp only [aqA,↓seqK,↓blkK,↓loopK,step,stepBin,eqB,Nat.add_assoc nid,↓reduceIte,simprocAttr,LN_succ,a75]
 refine CallO.pure (hd _) ?_
 simp -dsimp only [aqA,↓seqK,↓blkK,↓loopK,step,stepBin,eqB,Nat.add_assoc nid,↓reduceIte,simprocAttr,LN_succ]
 refine CallO.pure (indexB_c (binsL ++ [42]) (n : Int) _) ?_
 simp -dsimp only [aqA,↓seqK,↓blkK,↓loopK,step,stepBin,eqB,Nat.add_assoc nid,↓reduceIte,simprocAttr,LN_succ]
 generalize Lib.indexByte (binsL ++ [42]) n.toUInt8 = q
 refine RetOK.pure (.inl rfl) rfl ?_
 simp [cvT,step,res]
theorem truthW_c (b : Bool) (nid : Nat) : ACall Tryz.prog 74 [.bool b] [] nid (.int .i64 (if b = true then 1 else 0)) [] := by
 refine acall_run c74 (by simp [a74]) ?_
 simp -dsimp only [aqA,↓seqK,↓blkK,↓loopK,step,stepBin,eqB,Nat.add_assoc nid,↓reduceIte,simprocAttr,a74]
 refine S2.intro (fun h => ?_) (fun h => ?_) <;> simp -dsimp only [aqA,↓seqK,↓blkK,↓loopK,step,stepBin,eqB,Nat.add_assoc nid,↓reduceIte,simprocAttr]
 ·refine RetOK.pure (.inl rfl) rfl ?_
  simp [cvT,step,res,h]
 ·refine RetOK.pure (.inl rfl) rfl ?_
  simp [cvT,step,res,h]
theorem filter_snoc (F : Pt → Bool) (l : List Pt) (p : Pt) : (l ++ [p]).filter F = l.filter F ++ (if F p = true then [p] else []) := by
 rw [List.filter_append]
 congr 1
 cases h : F p <;> simp [h]
set_option maxHeartbeats 4000000 in
theorem placesR_h (f : Nat) (caps : List PV) (Hs : Heap) (F : Pt → Bool) (nl : Bool) (W : Waf) (nid : Nat) (hW : WafOk W) (hs : Scoped nid Hs) (hcap : lowAll nid (idsOfs caps) = true)
  (hf : ∀ p,p ∈ plV W → ∀ nid',nid ≤ nid' → ACall Tryz.prog f (.agg [.int .i64 p.1,.int .i64 p.2] :: caps) Hs nid' (.bool (F p)) []) :
  ACall Tryz.prog 69 [wafP nl W,.fn f caps] Hs nid (.sl nid 0 ((plV W).filter F).length) [(nid,arrPl ((plV W).filter F))] := by
 have hcv := capsC hcap
 have hl := hW.len
 refine acall_run c69 (by simp [a69]) ?_
 unfold wafP
 simp -dsimp only [a69,aqA,↓seqK,↓blkK,↓loopK,step,stepBin,eqB,Nat.add_assoc nid,↓reduceIte,simprocAttr,LN_succ]
 refine LP.mkP (fun y : Nat => y ≤ W.rows.length) (fun y : Nat => ⟨[(13,.int .i64 y),(12,.int .i64 W.rows.length),(11,.lit nl W.rows.length [.s fun i => W.rows.getD i []]),(5,.sl (nid + 8) 0 ((plTo W y).filter F).length),(1,.fn f caps)],(nid + 8,arrPl ((plTo W y).filter F)) :: Hs,nid + 100,nid⟩) (fun y => W.rows.length + 1 - y) 0 (by omega) ?_ (fun y hy => ?_)
 ·first | refine Cov.goF Hs [_] [_] [] [(nid + 8,2)] hs (by simp [kOK]) (by simp) ?_ | refine Cov.goF Hs [_,_] [_] [] [(nid + 8,2)] hs (by simp [kOK]) (by simp) ?_ | refine Cov.goF Hs [_,_,_] [_] [] [(nid + 8,2)] hs (by simp [kOK]) (by simp) ?_ | refine Cov.goF Hs [_,_,_,_] [_] [] [(nid + 8,2)] hs (by simp [kOK]) (by simp) ?_ | refine Cov.goF Hs [_,_,_,_,_] [_] [] [(nid + 8,2)] hs (by simp [kOK]) (by simp) ?_ | refine Cov.goF Hs [_,_,_,_,_,_] [_] [] [(nid + 8,2)] hs (by simp [kOK]) (by simp) ?_ | refine Cov.goF Hs [_,_,_,_,_,_,_] [_] [] [(nid + 8,2)] hs (by simp [kOK]) (by simp) ?_ | refine Cov.goF Hs [_,_,_,_,_,_,_,_] [_] [] [(nid + 8,2)] hs (by simp [kOK]) (by simp) ?_ | refine Cov.goF Hs [] [_] [] [(nid + 8,2)] hs (by simp [kOK]) (by simp) ?_
  simp [cvT,step,res,PVCovs.self (b := nid) (hi := nid + 100) (ren := []) (nils := [(nid + 8,2)]) rfl (by simp [inRange]) (by omega) caps hcap,arrPl,plTo]
 have hTm : ∀ p,p ∈ plTo W y → p ∈ plV W := fun p hp => by
  unfold plV plTo at *
  rw [List.mem_flatMap] at *
  obtain ⟨a,ha,hb⟩ := hp
  exact ⟨a,List.mem_range.2 (by have := List.mem_range.1 ha; omega),hb⟩
 unfold arrPl
 simp -dsimp only [aqA,↓seqK,↓blkK,↓loopK,step,stepBin,eqB,Nat.add_assoc nid,↓reduceIte,simprocAttr,LN_succ]
 refine S2.dec (fun h1 => ?_) (fun h1 => ?_) <;> simp -dsimp only [aqA,↓seqK,↓blkK,↓loopK,step,stepBin,eqB,Nat.add_assoc nid,↓reduceIte,simprocAttr,LN_succ]
 ·have hyl : y < W.rows.length := by omega
  have hrl := (hW.at hyl).1
  have hw2 := hW.wide.2
  have hts := plTo_succ W y
  have htb := plTo_bd hW (y := y) (by omega)
  have hpl : ∀ x : Nat,x < (W.rows.getD y []).length → (((x : Nat) : Int),((y : Nat) : Int)) ∈ plV W := fun x hx => by
   unfold plV plTo rowPl
   rw [List.mem_flatMap]
   exact ⟨y,List.mem_range.2 hyl,List.mem_map.2 ⟨x,List.mem_range.2 hx,rfl⟩⟩
  generalize hr : W.rows.getD y [] = r at *
  generalize plTo W y = T at *
  refine ⟨by omega,LP.mkP (fun x : Nat => x ≤ r.length) (fun x : Nat => ⟨[(20,.int .i64 x),(19,.int .i64 r.length),(6,.int .i64 y),(13,.int .i64 y),(12,.int .i64 W.rows.length),(11,.lit nl W.rows.length [.s fun i => W.rows.getD i []]),(5,.sl (nid + 8) 0 ((T ++ rowPl y x).filter F).length),(1,.fn f caps)],(nid + 8,arrPl ((T ++ rowPl y x).filter F)) :: Hs,nid + 300,nid⟩) (fun x => r.length + 1 - x) 0 (by omega) ?_ (fun x hx => ?_)⟩
  ·first | refine Cov.goF Hs [_] [_] [] [] hs (by simp [kOK]) (by simp) ?_ | refine Cov.goF Hs [_,_] [_] [] [] hs (by simp [kOK]) (by simp) ?_ | refine Cov.goF Hs [_,_,_] [_] [] [] hs (by simp [kOK]) (by simp) ?_ | refine Cov.goF Hs [_,_,_,_] [_] [] [] hs (by simp [kOK]) (by simp) ?_ | refine Cov.goF Hs [_,_,_,_,_] [_] [] [] hs (by simp [kOK]) (by simp) ?_ | refine Cov.goF Hs [_,_,_,_,_,_] [_] [] [] hs (by simp [kOK]) (by simp) ?_ | refine Cov.goF Hs [_,_,_,_,_,_,_] [_] [] [] hs (by simp [kOK]) (by simp) ?_ | refine Cov.goF Hs [_,_,_,_,_,_,_,_] [_] [] [] hs (by simp [kOK]) (by simp) ?_ | refine Cov.goF Hs [] [_] [] [] hs (by simp [kOK]) (by simp) ?_
   simp [cvT,step,res,hcv,arrPl,rowPl]
  have hrs := rowPl_succ y x
  have hrx := rowPl_len y x
  have hTs : T ++ rowPl y (x + 1) = (T ++ rowPl y x) ++ [((x : Int),(y : Int))] := by rw [hrs,List.append_assoc]
  have hfs := filter_snoc F (T ++ rowPl y x) ((x : Int),(y : Int))
  rw [← hTs] at hfs
  have hfl : ((T ++ rowPl y x).filter F).length ≤ 61000 := by
   have h1 := List.length_filter_le F (T ++ rowPl y x)
   rw [List.length_append,hrx] at h1
   omega
  generalize hLd : (T ++ rowPl y x).filter F = L at *
  unfold arrPl
  simp -dsimp only [aqA,↓seqK,↓blkK,↓loopK,step,stepBin,eqB,Nat.add_assoc nid,↓reduceIte,simprocAttr,LN_succ]
  refine S2.dec (fun h2 => ?_) (fun h2 => ?_) <;> simp -dsimp only [aqA,↓seqK,↓blkK,↓loopK,step,stepBin,eqB,Nat.add_assoc nid,↓reduceIte,simprocAttr,LN_succ]
  ·have hxl : x < r.length := by omega
   refine CallO.on (hf _ (hpl x hxl) _ (by omega)) (by first | exact subH_frame (X := [_]) hs (by simp [kOK]) | exact subH_frame (X := [_,_]) hs (by simp [kOK]) | exact subH_frame (X := [_,_,_]) hs (by simp [kOK]) | exact subH_frame (X := [_,_,_,_]) hs (by simp [kOK]) | exact subH_frame (X := [_,_,_,_,_]) hs (by simp [kOK]) | exact subH_frame (X := [_,_,_,_,_,_]) hs (by simp [kOK]) | exact subH_frame (X := [_,_,_,_,_,_,_]) hs (by simp [kOK]) | exact subH_frame (X := [_,_,_,_,_,_,_,_]) hs (by simp [kOK]) | exact subH_frame (X := []) hs (by simp [kOK])) ?_
   cases hF : F ((x : Int),(y : Int)) <;> rw [hF] at hfs <;> simp -dsimp only [aqA,↓seqK,↓blkK,↓loopK,step,stepBin,eqB,Nat.add_assoc nid,↓reduceIte,simprocAttr,LN_succ]
   ·rw [if_neg (by simp),List.append_nil] at hfs
    refine ⟨by unfold inI64; omega,x + 1,⟨by omega,by omega⟩,?_⟩
    first | refine Cov.goF Hs [_] [_] [] [] hs (by simp [kOK]) (by simp) ?_ | refine Cov.goF Hs [_,_] [_] [] [] hs (by simp [kOK]) (by simp) ?_ | refine Cov.goF Hs [_,_,_] [_] [] [] hs (by simp [kOK]) (by simp) ?_ | refine Cov.goF Hs [_,_,_,_] [_] [] [] hs (by simp [kOK]) (by simp) ?_ | refine Cov.goF Hs [_,_,_,_,_] [_] [] [] hs (by simp [kOK]) (by simp) ?_ | refine Cov.goF Hs [_,_,_,_,_,_] [_] [] [] hs (by simp [kOK]) (by simp) ?_ | refine Cov.goF Hs [_,_,_,_,_,_,_] [_] [] [] hs (by simp [kOK]) (by simp) ?_ | refine Cov.goF Hs [_,_,_,_,_,_,_,_] [_] [] [] hs (by simp [kOK]) (by simp) ?_ | refine Cov.goF Hs [] [_] [] [] hs (by simp [kOK]) (by simp) ?_
    simp [cvT,step,res,hcv,arrPl,hfs,-List.getD_eq_getElem?_getD]
   ·rw [if_pos rfl] at hfs
    rw [getD_appP L ((x : Int),(y : Int)) rfl (fun q => q.1) rfl rfl,getD_appP L ((x : Int),(y : Int)) rfl (fun q => q.2) rfl rfl,← hfs]
    have hl3 : ((T ++ rowPl y (x + 1)).filter F).length = L.length + 1 := by rw [hfs]; simp
    refine ⟨⟨by omega,by omega⟩,by unfold inI64; omega,x + 1,⟨by omega,by omega⟩,?_⟩
    first | refine Cov.goF Hs [_] [_] [(nid + 8,nid + 356)] [] hs (by simp [kOK]) (by simp) ?_ | refine Cov.goF Hs [_,_] [_] [(nid + 8,nid + 356)] [] hs (by simp [kOK]) (by simp) ?_ | refine Cov.goF Hs [_,_,_] [_] [(nid + 8,nid + 356)] [] hs (by simp [kOK]) (by simp) ?_ | refine Cov.goF Hs [_,_,_,_] [_] [(nid + 8,nid + 356)] [] hs (by simp [kOK]) (by simp) ?_ | refine Cov.goF Hs [_,_,_,_,_] [_] [(nid + 8,nid + 356)] [] hs (by simp [kOK]) (by simp) ?_ | refine Cov.goF Hs [_,_,_,_,_,_] [_] [(nid + 8,nid + 356)] [] hs (by simp [kOK]) (by simp) ?_ | refine Cov.goF Hs [_,_,_,_,_,_,_] [_] [(nid + 8,nid + 356)] [] hs (by simp [kOK]) (by simp) ?_ | refine Cov.goF Hs [_,_,_,_,_,_,_,_] [_] [(nid + 8,nid + 356)] [] hs (by simp [kOK]) (by simp) ?_ | refine Cov.goF Hs [] [_] [(nid + 8,nid + 356)] [] hs (by simp [kOK]) (by simp) ?_
    simp [cvT,step,res,PVCovs.self (b := nid) (hi := nid + 300) (ren := [(nid + 8,nid + 356)]) (nils := []) (by simp [inRange]) rfl (by omega) caps hcap,arrPl,hl3,-List.getD_eq_getElem?_getD,-List.length_append,-List.filter_append]
  ·obtain rfl : x = r.length := by omega
   have e : (plTo W (y + 1)).filter F = L := by rw [hts,hLd]
   refine ⟨by unfold inI64; omega,y + 1,⟨by omega,by omega⟩,?_⟩
   rw [e]
   first | refine Cov.goF Hs [_] [_] [] [] hs (by simp [kOK]) (by simp) ?_ | refine Cov.goF Hs [_,_] [_] [] [] hs (by simp [kOK]) (by simp) ?_ | refine Cov.goF Hs [_,_,_] [_] [] [] hs (by simp [kOK]) (by simp) ?_ | refine Cov.goF Hs [_,_,_,_] [_] [] [] hs (by simp [kOK]) (by simp) ?_ | refine Cov.goF Hs [_,_,_,_,_] [_] [] [] hs (by simp [kOK]) (by simp) ?_ | refine Cov.goF Hs [_,_,_,_,_,_] [_] [] [] hs (by simp [kOK]) (by simp) ?_ | refine Cov.goF Hs [_,_,_,_,_,_,_] [_] [] [] hs (by simp [kOK]) (by simp) ?_ | refine Cov.goF Hs [_,_,_,_,_,_,_,_] [_] [] [] hs (by simp [kOK]) (by simp) ?_ | refine Cov.goF Hs [] [_] [] [] hs (by simp [kOK]) (by simp) ?_
   simp [cvT,step,res,hcv,arrPl,-List.getD_eq_getElem?_getD,-List.filter_append]
 ·obtain rfl : y = W.rows.length := by omega
  refine RetOK.goF Hs [] [_] [(nid,arrPl ((plV W).filter F))] [(nid,nid + 8)] [] (.inl rfl) hs (by simp [kOK]) (by simp) ?_
  simp [cvT,step,res,a69,arrPl,plV,-List.getD_eq_getElem?_getD]
end Go.Proofs.YtmgfcjblclanmaaGreatDoor
namespace Go.Proofs.YtmgfcjblclanmaaGreatDoor
open Go.RowKit Go.Lib
theorem take_eqPl {l m : List Pt} {k : Nat} (hl : k < l.length) (hm : k < m.length) (h : l.take k = m.take k) (hx : l.getD k p0 = m.getD k p0) : l.take (k + 1) = m.take (k + 1) := by
 rw [take_snoc (x := l.getD k p0) (by rw [List.getD_eq_getElem?_getD,List.getElem?_eq_getElem hl]; rfl),take_snoc (x := m.getD k p0) (by rw [List.getD_eq_getElem?_getD,List.getElem?_eq_getElem hm]; rfl),h,hx]
theorem equalPl_c (nl nl' : Bool) (l m : List Pt) (nid : Nat) (hl : l.length ≤ 1000000) (hm : m.length ≤ 1000000) : ACall Tryz.prog 22 [litPl nl l,litPl nl' m] [] nid (.bool (l == m)) [] := by
  refine acall_run c22 (by simp [a22]) ?_
  unfold litPl
  simp -dsimp only [aqA,↓seqK,↓blkK,↓loopK,step,stepBin,eqB,Nat.add_assoc nid,↓reduceIte,simprocAttr,LN_succ,a22]
  refine S2.intro (fun h => ?_) (fun h => ?_) <;> simp -dsimp only [aqA,↓seqK,↓blkK,↓loopK,step,stepBin,eqB,Nat.add_assoc nid,↓reduceIte,simprocAttr,LN_succ]
  · refine RetOK.pure (.inl rfl) rfl ?_
    have h1 : l ≠ m := fun e => by subst e; simp at h
    have h2 : (l == m) = false := by simpa using h1
    simp [cvT,step,res,h1]
  have hlm : l.length = m.length := by have : (l.length : Int) = m.length := by simpa using h
                                       omega
  refine LP.mkP (fun k : Nat => k ≤ l.length ∧ l.take k = m.take k) (fun k : Nat => ⟨[(13,.int .i64 k),(12,.int .i64 l.length),(0,litPl nl l),(1,litPl nl' m)],[],nid + 100,nid⟩) (fun k => l.length + 1 - k) 0 ⟨by omega,rfl⟩ (Cov.go [] [] ?_) (fun k hk => ?_)
  · simp [cvT,step,res,litPl]
  unfold litPl
  obtain ⟨hk,ht⟩ := hk
  simp -dsimp only [aqA,↓seqK,↓blkK,↓loopK,step,stepBin,eqB,Nat.add_assoc nid,↓reduceIte,simprocAttr,LN_succ]
  refine S2.dec (fun h3 => ?_) (fun h3 => ?_) <;> simp -dsimp only [aqA,↓seqK,↓blkK,↓loopK,step,stepBin,eqB,Nat.add_assoc nid,↓reduceIte,simprocAttr,LN_succ]
  · have hkl : k < l.length := by omega
    have hstep := fun hx => take_eqPl (l := l) (m := m) hkl (by omega) ht hx
    have hne : l.getD k p0 ≠ m.getD k p0 → l ≠ m := fun hd e => hd (by rw [e])
    generalize l.getD k p0 = a at *
    generalize m.getD k p0 = b at *
    refine ⟨by omega,by omega,S2.intro (fun h4 => ?_) (fun h4 => ?_)⟩ <;> simp -dsimp only [aqA,↓seqK,↓blkK,↓loopK,step,stepBin,eqB,Nat.add_assoc nid,↓reduceIte,simprocAttr,LN_succ]
    · have h1 : l ≠ m := hne (fun e => by subst e; simp at h4)
      refine RetOK.pure (.inl rfl) rfl ?_
      simp [cvT,step,res,h1]
    · have h5 : a = b := by
        simp at h4; exact Prod.ext h4.1 h4.2
      refine ⟨by unfold inI64; omega,k + 1,⟨⟨by omega,hstep h5⟩,by omega⟩,Cov.go [] [] ?_⟩
      simp [cvT,step,res,litPl,-List.getD_eq_getElem?_getD]
  · obtain rfl : k = l.length := by omega
    have h1 : l = m := by
      rw [List.take_of_length_le (Nat.le_refl _),List.take_of_length_le (by omega)] at ht
      exact ht
    refine RetOK.pure (.inl rfl) rfl ?_
    simp [cvT,step,res,h1]
theorem ptEq (p q : Pt) : (p.1 == q.1 && p.2 == q.2) = (q == p) := by
 rw [Bool.eq_iff_iff,Bool.and_eq_true,beq_iff_eq,beq_iff_eq,beq_iff_eq]
 exact ⟨fun h => Prod.ext h.1.symm h.2.symm,fun h => by rw [h]; exact ⟨rfl,rfl⟩⟩
theorem indexPt_c (nl : Bool) (l : List Pt) (p : Pt) (nid : Nat) (hl : l.length ≤ 1000000) : ACall Tryz.prog 126 [litPl nl l,.agg [.int .i64 p.1,.int .i64 p.2]] [] nid (.int .i64 (idxP (fun q => q == p) l)) [] := by
 refine acall_run c126 (by simp [a126]) ?_
 unfold litPl
 simp -dsimp only [aqA,↓seqK,↓blkK,↓loopK,step,stepBin,eqB,Nat.add_assoc nid,↓reduceIte,simprocAttr,LN_succ,a126]
 refine LP.mkP (fun k : Nat => k ≤ l.length ∧ ∀ j,j < k → (l.getD j p0 == p) = false) (fun k : Nat => ⟨[(8,.int .i64 k),(7,.int .i64 l.length),(0,litPl nl l),(3,.ptr nid 0)],[(nid,some (.box 34 [.int .i64 p.1,.int .i64 p.2]))],nid + 100,nid⟩) (fun k => l.length + 1 - k) 0 ⟨by omega,fun j hj => by omega⟩ (Cov.go [] [] ?_) (fun k hk => ?_)
 ·simp [cvT,step,res,litPl]
 unfold litPl
 obtain ⟨hk,hb⟩ := hk
 simp -dsimp only [aqA,↓seqK,↓blkK,↓loopK,step,stepBin,eqB,Nat.add_assoc nid,↓reduceIte,simprocAttr,LN_succ]
 refine S2.dec (fun h3 => ?_) (fun h3 => ?_) <;> simp -dsimp only [aqA,↓seqK,↓blkK,↓loopK,step,stepBin,eqB,Nat.add_assoc nid,↓reduceIte,simprocAttr,LN_succ]
 ·have hkl : k < l.length := by omega
  have he := ptEq p (l.getD k p0)
  refine ⟨by omega,?_⟩
  rw [he]
  refine S2.intro (fun h4 => ?_) (fun h4 => ?_) <;> simp -dsimp only [aqA,↓seqK,↓blkK,↓loopK,step,stepBin,eqB,Nat.add_assoc nid,↓reduceIte,simprocAttr,LN_succ]
  ·have e : idxP (fun q => q == p) l = k := by unfold idxP; rw [idxP_hit hkl hb h4]
   rw [e]
   refine RetOK.pure (.inl rfl) rfl ?_
   simp [cvT,step,res]
  ·refine ⟨by unfold inI64; omega,k + 1,⟨⟨by omega,fun j hj => ?_⟩,by omega⟩,Cov.go [] [] ?_⟩
   ·rcases (by omega : j < k ∨ j = k) with hj | hj
    ·exact hb j hj
    ·rw [hj]; exact h4
   ·simp [cvT,step,res,litPl,-List.getD_eq_getElem?_getD]
 ·obtain rfl : k = l.length := by omega
  have e : idxP (fun q => q == p) l = -1 := by unfold idxP; rw [idxP_none hb]
  rw [e]
  refine RetOK.pure (.inl rfl) rfl ?_
  simp [cvT,step,res]
theorem containsPt_c (nl : Bool) (l : List Pt) (p : Pt) (nid : Nat) (hl : l.length ≤ 1000000) : ACall Tryz.prog 72 [litPl nl l,.agg [.int .i64 p.1,.int .i64 p.2]] [] nid (.bool (l.contains p)) [] := by
 have h0 := fun k => indexPt_c nl l p k hl
 have e : l.contains p = decide (0 ≤ idxP (fun q => q == p) l) := by
  rw [idxP_any,Bool.eq_iff_iff]
  simp
 rw [e]
 generalize idxP (fun q => q == p) l = i at *
 refine acall_run c72 (by simp [a72]) ?_
 unfold litPl at *
 simp -dsimp only [aqA,↓seqK,↓blkK,↓loopK,step,stepBin,eqB,Nat.add_assoc nid,↓reduceIte,simprocAttr,LN_succ,a72]
 refine CallO.pure (h0 _) ?_
 simp -dsimp only [aqA,↓seqK,↓blkK,↓loopK,step,stepBin,eqB,Nat.add_assoc nid,↓reduceIte,simprocAttr,LN_succ]
 refine RetOK.pure (.inl rfl) rfl ?_
 simp [cvT,step,res]
end Go.Proofs.YtmgfcjblclanmaaGreatDoor
namespace Go.Proofs.YtmgfcjblclanmaaGreatDoor
theorem ltP_tri (a b : Pt) : ltP a b ∨ a = b ∨ ltP b a := by
 unfold ltP
 by_cases h : a.1 = b.1 ∧ a.2 = b.2
 ·exact .inr (.inl (Prod.ext h.1 h.2))
 ·omega
theorem compTo_in {l : List Pt} : ∀ {k : Nat} {a : Pt},k ≤ l.length → a ∈ compTo l k → ∃ j,j < k ∧ a = l.getD j p0
 | k,a,hk,h => by
  obtain ⟨j,hj,rfl⟩ := List.mem_map.1 h
  exact ⟨j,List.mem_range.1 (List.mem_filter.1 hj).1,rfl⟩
theorem compTo_pw {l : List Pt} (h : l.Pairwise fun a b => ¬ ltP b a) : ∀ k,k ≤ l.length → (compTo l k).Pairwise ltP
 | 0,_ => by simp [compTo]
 | k + 1,hk => by
  have ih := compTo_pw h k (by omega)
  rw [compTo_succ]
  by_cases hn : newB l k = true
  ·rw [if_pos hn,List.pairwise_append]
   refine ⟨ih,List.pairwise_singleton _ _,fun a ha b hb => ?_⟩
   rw [List.mem_singleton] at hb
   subst hb
   obtain ⟨j,hj,rfl⟩ := compTo_in (by omega) ha
   have hge : ∀ i i',i < i' → i' < l.length → ¬ ltP (l.getD i' p0) (l.getD i p0) := fun i i' h1 h2 => by
    have := List.pairwise_iff_getElem.1 h i i' (by omega) h2 h1
    rw [List.getD_eq_getElem?_getD,List.getElem?_eq_getElem h2,List.getD_eq_getElem?_getD,List.getElem?_eq_getElem (by omega)]
    exact this
   have hne : l.getD k p0 ≠ l.getD (k - 1) p0 := fun e => by
    unfold newB at hn
    rw [e] at hn
    have hk0 : (k == 0) = false := by rw [beq_eq_false_iff_ne]; omega
    rw [hk0] at hn
    simp at hn
   have h1 := hge (k - 1) k (by omega) (by omega)
   have h2 : ltP (l.getD (k - 1) p0) (l.getD k p0) := by
    rcases ltP_tri (l.getD (k - 1) p0) (l.getD k p0) with g | g | g
    ·exact g
    ·exact absurd g.symm hne
    ·exact absurd g h1
   by_cases hjk : j = k - 1
   ·rw [hjk]; exact h2
   ·have h3 := hge j (k - 1) (by omega) (by omega)
    rcases ltP_tri (l.getD j p0) (l.getD (k - 1) p0) with g | g | g
    ·unfold ltP at *
     omega
    ·rw [g]; exact h2
    ·exact absurd g h3
  ·rw [if_neg hn]
   exact ih
theorem comp_filter (l : List Pt) (f : Pt → Bool) : compTo (sortV (l.filter f)) (sortV (l.filter f)).length = (compTo (sortV l) (sortV l).length).filter f := by
 refine sorted_eq (compTo_pw (sortV_le _) _ (Nat.le_refl _)) ((compTo_pw (sortV_le _) _ (Nat.le_refl _)).filter _) (fun q => ?_)
 rw [compTo_mem,List.mem_filter,compTo_mem,(sortV_perm _).mem_iff,(sortV_perm _).mem_iff,List.mem_filter]
def rowD (W : Waf) (card : List Pt) (st : List Pt × List Pt × Nat) (p : Pt) : List Pt × List Pt × Nat :=
 if st.1.contains p = true then st else (st.1 ++ (touchL card (downP card p)).filter (fun q => untB W q && !st.1.contains q),st.2.1 ++ [downP card p],st.2.2 + ((touchL card (downP card p)).filter (badT W st.1)).length)
theorem badT_congr {W : Waf} {S T : List Pt} (h : ∀ q,q ∈ S ↔ q ∈ T) : badT W S = badT W T := by
 funext q
 unfold badT
 congr 1
 rw [Bool.eq_iff_iff,List.contains_iff_mem,List.contains_iff_mem]
 exact h q
theorem rowD_same {W : Waf} {card : List Pt} : ∀ (ps : List Pt) (S T out : List Pt) (again : Nat),(∀ p ∈ ps,untB W p = true) → (∀ q,q ∈ S ↔ q ∈ T) → (ps.foldl (rowD W card) (S,out,again)).2 = (ps.foldl (rowS W card) (T,out,again)).2
 | [],_,_,_,_,_,_ => rfl
 | p :: ps,S,T,out,again,hu,hS => by
  rw [List.foldl_cons,List.foldl_cons]
  have hup := hu p (List.mem_cons_self ..)
  have hrest := fun q hq => hu q (List.mem_cons_of_mem _ hq)
  have hcon : S.contains p = T.contains p := by rw [Bool.eq_iff_iff,List.contains_iff_mem,List.contains_iff_mem]; exact hS p
  cases hc : T.contains p with
  | true =>
   have e1 : rowD W card (S,out,again) p = (S,out,again) := by unfold rowD; rw [if_pos (by simp only; rw [hcon,hc])]
   have e2 : rowS W card (T,out,again) p = (T,out,again) := by
    show (if (untB W p && !T.contains p) = true then _ else _) = _
    rw [hc,if_neg (by simp)]
   rw [e1,e2]
   exact rowD_same ps S T out again hrest hS
  | false =>
   have e1 : rowD W card (S,out,again) p = (S ++ (touchL card (downP card p)).filter (fun q => untB W q && !S.contains q),out ++ [downP card p],again + ((touchL card (downP card p)).filter (badT W S)).length) := by
    unfold rowD
    rw [if_neg (by simp only; rw [hcon,hc]; simp)]
   have e2 : rowS W card (T,out,again) p = (T ++ tV W card (downP card p),out ++ [downP card p],again + ((touchL card (downP card p)).filter (badT W T)).length) := by
    show (if (untB W p && !T.contains p) = true then _ else _) = _
    rw [hc,hup,if_pos (by simp)]
   rw [e1,e2,badT_congr hS]
   refine rowD_same ps _ _ _ _ hrest (fun q => ?_)
   unfold tV
   rw [List.mem_append,List.mem_append,List.mem_filter,List.mem_filter,hS q,Bool.and_eq_true]
   constructor
   ·rintro (h | ⟨h1,h2,_⟩)
    ·exact .inl h
    ·exact .inr ⟨h1,h2⟩
   ·rintro (h | ⟨h1,h2⟩)
    ·exact .inl h
    ·by_cases hq : q ∈ T
     ·exact .inl hq
     ·refine .inr ⟨h1,h2,?_⟩
      rw [Bool.not_eq_true',Bool.eq_false_iff]
      intro hh
      exact hq ((hS q).1 (List.contains_iff_mem.1 hh))
def rowsD (W : Waf) (card : List Pt) : List Pt × List Pt × Nat := (opV W).foldl (rowD W card) ([],[],0)
theorem rowsD_same (W : Waf) (card : List Pt) : (rowsD W card).2 = (rowsV W card).2 := by
 rw [rowsV_op]
 exact rowD_same _ [] [] [] 0 (fun p hp => (List.mem_filter.1 hp).2) (fun q => Iff.rfl)
end Go.Proofs.YtmgfcjblclanmaaGreatDoor
namespace Go.Proofs.YtmgfcjblclanmaaGreatDoor
open Go.RowKit
theorem plV_in {W : Waf} (hW : WafOk W) {p : Pt} (hp : p ∈ plV W) : inI64 p.1 ∧ inI64 p.2 := by
 obtain ⟨h1,h2,h3,h4⟩ := plV_bd hW hp
 unfold inI64; omega
theorem untR1_c (ia : Nat) (nl : Bool) (W : Waf) (p : Pt) (nid : Nat) (hia : ia < nid) (hW : WafOk W) (hp : inI64 p.1 ∧ inI64 p.2) : ACall Tryz.prog 127 [.agg [.int .i64 p.1,.int .i64 p.2],.ptr ia 0] [(ia,boxW nl W)] nid (.bool (untB W p)) [] := by
 obtain ⟨a1,a2,a3,a4,a5,a6,a7,a8,a9⟩ := id_all hia
 have hf := fun m => dieR_all nl W p.1 p.2 m hW hp.1 hp.2
 have e : untB W p = (dieV W p.1 p.2 == 63) := rfl
 rw [e]
 refine acall_run c127 (by simp [a127]) ?_
 unfold boxW
 unfold wafP at hf
 simp -dsimp only [a127,aqA,↓seqK,↓blkK,↓loopK,step,stepBin,eqB,Nat.add_assoc nid,↓reduceIte,simprocAttr,LN_succ,a1,a2,a3,a4,a5,a6,a7,a8,a9]
 refine CallO.pure (hf _) ?_
 simp -dsimp only [aqA,↓seqK,↓blkK,↓loopK,step,stepBin,eqB,Nat.add_assoc nid,↓reduceIte,simprocAttr,LN_succ,a1,a2,a3,a4,a5,a6,a7,a8,a9]
 refine RetOK.go [] [] (.inl rfl) ?_
 simp [a127,cvT,step,res,a1,a2,a3,a4,a5,a6,a7,a8,a9]
theorem untR_c (nl : Bool) (W : Waf) (nid : Nat) (hW : WafOk W) : ACall Tryz.prog 73 [wafP nl W] [] nid (.sl nid 0 (opV W).length) [(nid,arrPl (opV W))] := by
 have e : opV W = (plV W).filter (untB W) := rfl
 rw [e]
 refine acall_run c73 (by simp [a73]) ?_
 unfold wafP
 simp -dsimp only [aqA,↓seqK,↓blkK,↓loopK,step,stepBin,eqB,Nat.add_assoc nid,↓reduceIte,simprocAttr,LN_succ,a73]
 refine CallO.on (placesR_h 127 [.ptr nid 0] [(nid,boxW nl W)] (untB W) nl W _ hW (scp1 (by omega) rfl) (by simp [idsOfs,idsOf,lowAll]) (fun p hp nid' h' => untR1_c nid nl W p nid' (by omega) hW (plV_in hW hp))) (subH_get (by simp only [aqA,↓seqK,↓blkK,↓loopK,step,stepBin,eqB,Nat.add_assoc nid,↓reduceIte,simprocAttr,LN_succ,boxW])) ?_
 unfold arrPl
 simp -dsimp only [aqA,↓seqK,↓blkK,↓loopK,step,stepBin,eqB,Nat.add_assoc nid,↓reduceIte,simprocAttr,LN_succ]
 refine RetOK.go [(nid,nid + 16)] [] (.inl rfl) ?_
 simp [a73,cvT,step,res,-List.getD_eq_getElem?_getD]
set_option maxHeartbeats 4000000 in
theorem sites_all (nl : Bool) (card : List Pt) (a : Pt) (nid : Nat) (hl : card.length ≤ 1000) (hc : ∀ p ∈ card,PtBd p) (ha : PtBd a) : ACall Tryz.prog 68 [litPl nl card,.agg [.int .i64 a.1,.int .i64 a.2]] [] nid (.sl nid 0 (touchL card a).length) [(nid,arrPl (touchL card a))] := by
 obtain ⟨a1,a2,a3,a4⟩ := ha
 refine acall_run c68 (by simp [a68]) ?_
 unfold litPl
 simp -dsimp only [aqA,↓seqK,↓blkK,↓loopK,step,stepBin,eqB,Nat.add_assoc nid,↓reduceIte,simprocAttr,LN_succ,a68]
 refine LP.mkP (fun k : Nat => k ≤ card.length) (fun k : Nat => ⟨[(10,.int .i64 k),(9,.int .i64 card.length),(8,litPl nl card),(5,.sl (nid + 8) 0 (touchL (card.take k) a).length),(3,.ptr nid 0)],[(nid,some (.box 34 [.int .i64 a.1,.int .i64 a.2])),(nid + 8,arrPl (touchL (card.take k) a))],nid + 100,nid⟩) (fun k => card.length + 1 - k) 0 (by omega) (Cov.go [] [(nid + 8,2)] ?_) (fun k hk => ?_)
 ·simp [cvT,step,res,litPl,arrPl,touchL]
 have hs := fun h => touchL_succ card a (k := k) h
 have htl : (touchL (card.take k) a).length = k := by rw [touchL_len,List.length_take]; omega
 generalize hTd : touchL (card.take k) a = T at *
 unfold litPl arrPl
 simp -dsimp only [aqA,↓seqK,↓blkK,↓loopK,step,stepBin,eqB,Nat.add_assoc nid,↓reduceIte,simprocAttr,LN_succ]
 refine S2.dec (fun h1 => ?_) (fun h1 => ?_) <;> simp -dsimp only [aqA,↓seqK,↓blkK,↓loopK,step,stepBin,eqB,Nat.add_assoc nid,↓reduceIte,simprocAttr,LN_succ]
 ·have hkl : k < card.length := by omega
  obtain ⟨b1,b2,b3,b4⟩ := hc _ (ptMem hkl)
  have hs' := hs hkl
  generalize card.getD k p0 = p at *
  rw [getD_appP T (a.1 + p.1,a.2 + p.2) rfl (fun q => q.1) rfl rfl,getD_appP T (a.1 + p.1,a.2 + p.2) rfl (fun q => q.2) rfl rfl,← hs']
  have hl3 : (touchL (card.take (k + 1)) a).length = T.length + 1 := by rw [hs']; simp
  refine ⟨by omega,by unfold inI64; omega,by unfold inI64; omega,⟨by omega,by omega⟩,by unfold inI64; omega,k + 1,⟨by omega,by omega⟩,Cov.go [(nid + 8,nid + 172)] [] ?_⟩
  simp [cvT,step,res,litPl,arrPl,hl3,-List.getD_eq_getElem?_getD,-List.length_append]
 ·obtain rfl : k = card.length := by omega
  rw [List.take_length] at hTd
  rw [hTd]
  refine RetOK.go [(nid,nid + 8)] [] (.inl rfl) ?_
  simp [cvT,step,res,a68,arrPl,-List.getD_eq_getElem?_getD]
def boxLp (ns : Bool) (T : List Pt) : Option ABlk := some (.box 30 [litPl ns T])
theorem touch1R_c (ia ib : Nat) (nl ns : Bool) (W : Waf) (T : List Pt) (p : Pt) (nid : Nat) (hia : ia < nid) (hib : ib < nid) (n1 : ia ≠ ib) (hW : WafOk W) (hp : inI64 p.1 ∧ inI64 p.2) (hT : T.length ≤ 1000000) :
  ACall Tryz.prog 70 [.agg [.int .i64 p.1,.int .i64 p.2],.ptr ia 0,.ptr ib 0] [(ia,boxW nl W),(ib,boxLp ns T)] nid (.bool (untB W p && T.contains p)) [] := by
 obtain ⟨a1,a2,a3,a4,a5,a6,a7,a8,a9⟩ := id_all hia
 obtain ⟨b1,b2,b3,b4,b5,b6,b7,b8,b9⟩ := id_all hib
 have g1 : (ia == ib) = false := by simpa using n1
 have g2 : (ib == ia) = false := by simpa using fun h => n1 h.symm
 have m1 : ¬ ib = ia := fun h => n1 h.symm
 have hf := fun m => dieR_all nl W p.1 p.2 m hW hp.1 hp.2
 have hc := fun m => containsPt_c ns T p m hT
 have e : untB W p = (dieV W p.1 p.2 == 63) := rfl
 rw [e]
 refine acall_run c70 (by simp [a70]) ?_
 unfold boxW boxLp
 unfold wafP at hf
 unfold litPl at hc ⊢
 simp -dsimp only [a70,aqA,↓seqK,↓blkK,↓loopK,step,stepBin,eqB,Nat.add_assoc nid,↓reduceIte,simprocAttr,LN_succ,a1,a2,a3,a4,a5,a6,a7,a8,a9,b1,b2,b3,b4,b5,b6,b7,b8,b9,g1,g2,n1,m1]
 refine CallO.pure (hf _) ?_
 cases hd : (dieV W p.1 p.2 == 63) <;> simp -dsimp only [aqA,↓seqK,↓blkK,↓loopK,step,stepBin,eqB,Nat.add_assoc nid,↓reduceIte,simprocAttr,LN_succ,a1,a2,a3,a4,a5,a6,a7,a8,a9,b1,b2,b3,b4,b5,b6,b7,b8,b9,g1,g2,n1,m1,hd]
 ·refine RetOK.go [] [] (.inl rfl) ?_
  simp [a70,cvT,step,res,a1,a2,a3,a4,a5,a6,a7,a8,a9,b1,b2,b3,b4,b5,b6,b7,b8,b9,g1,g2,n1,m1,-List.getD_eq_getElem?_getD]
 ·refine CallO.pure (hc _) ?_
  simp -dsimp only [aqA,↓seqK,↓blkK,↓loopK,step,stepBin,eqB,Nat.add_assoc nid,↓reduceIte,simprocAttr,LN_succ,a1,a2,a3,a4,a5,a6,a7,a8,a9,b1,b2,b3,b4,b5,b6,b7,b8,b9,g1,g2,n1,m1,hd]
  refine RetOK.go [] [] (.inl rfl) ?_
  simp [a70,cvT,step,res,a1,a2,a3,a4,a5,a6,a7,a8,a9,b1,b2,b3,b4,b5,b6,b7,b8,b9,g1,g2,n1,m1,-List.getD_eq_getElem?_getD]
def spanV (x : Int) : Int := if outB x (-59) 59 = true then 1 else 0
theorem span59_c (x : Int) (nid : Nat) : ACall Tryz.prog 67 [.int .i64 x,.int .i64 (-59),.int .i64 59] [] nid (.int .i64 (spanV x)) [] := by
 refine acall_run c67 (by simp [a67]) ?_
 simp -dsimp only [aqA,↓seqK,↓blkK,↓loopK,step,stepBin,eqB,Nat.add_assoc nid,↓reduceIte,simprocAttr,LN_succ,a67]
 refine CallO.pure (in_c _ _ _ _) ?_
 simp -dsimp only [aqA,↓seqK,↓blkK,↓loopK,step,stepBin,eqB,Nat.add_assoc nid,↓reduceIte,simprocAttr,LN_succ,Bool.not_not]
 unfold spanV
 cases h : outB x (-59) 59 <;> simp -dsimp only [aqA,↓seqK,↓blkK,↓loopK,step,stepBin,eqB,Nat.add_assoc nid,↓reduceIte,simprocAttr,LN_succ]
 ·refine RetOK.pure (.inl rfl) rfl ?_
  simp [cvT,step,res]
 ·refine RetOK.pure (.inl rfl) rfl ?_
  simp [cvT,step,res]
theorem orE_c (nl : Bool) (l : List Int) (nid : Nat) (hl : l.length ≤ 1000000000) : ACall Tryz.prog 13 [litI nl l] [] nid (.int .i64 (firstBad (fun x : Int => x) l)) [] := by
 refine acall_run c13 (by simp [a13]) ?_
 unfold litI
 simp -dsimp only [aqA,↓seqK,↓blkK,↓loopK,step,stepBin,eqB,Nat.add_assoc nid,↓reduceIte,simprocAttr,a13]
 refine LP.mkP (fun k : Nat => k ≤ l.length ∧ firstBad (fun x : Int => x) (l.take k) = 0) (fun k : Nat => ⟨[(8,.int .i64 k),(7,.int .i64 l.length),(6,litI nl l),(3,.int .i64 0)],[],nid + 100,nid⟩) (fun k => l.length + 1 - k) 0 ⟨by omega,rfl⟩ (Cov.go [] [] ?_) (fun k hk => ?_)
 ·simp [cvT,step,res,litI]
 unfold litI
 obtain ⟨hk,hb⟩ := hk
 simp -dsimp only [aqA,↓seqK,↓blkK,↓loopK,step,stepBin,eqB,Nat.add_assoc nid,↓reduceIte,simprocAttr,LN_succ]
 refine S2.dec (fun h3 => ?_) (fun h3 => ?_) <;> simp -dsimp only [aqA,↓seqK,↓blkK,↓loopK,step,stepBin,eqB,Nat.add_assoc nid,↓reduceIte,simprocAttr,LN_succ]
 ·have hkl : k < l.length := by omega
  have bad : l.getD k 0 ≠ 0 → firstBad (fun x : Int => x) l = l.getD k 0 := fun h => firstBad_hit (x := l.getD k 0) (by rw [List.getD_eq_getElem?_getD,List.getElem?_eq_getElem hkl]; rfl) hb h
  have good : l.getD k 0 = 0 → firstBad (fun x : Int => x) (l.take (k + 1)) = 0 := fun h => firstBad_step (x := l.getD k 0) (by rw [List.getD_eq_getElem?_getD,List.getElem?_eq_getElem hkl]; rfl) hb h
  refine ⟨by omega,S2.intro (fun h4 => ?_) (fun h4 => ?_)⟩ <;> simp -dsimp only [aqA,↓seqK,↓blkK,↓loopK,step,stepBin,eqB,Nat.add_assoc nid,↓reduceIte,simprocAttr,LN_succ]
  ·rw [bad (by simpa using h4)]
   refine RetOK.pure (.inl rfl) rfl ?_
   simp [cvT,step,res]
  ·refine ⟨by unfold inI64; omega,k + 1,⟨⟨by omega,good (by simpa using h4)⟩,by omega⟩,Cov.go [] [] ?_⟩
   simp [cvT,step,res,litI]
 ·have hkn : k = l.length := by omega
  subst hkn
  rw [List.take_length] at hb
  rw [hb]
  refine RetOK.pure (.inl rfl) rfl ?_
  simp [cvT,step,res]
theorem downFault_c (a : Pt) (nid : Nat) : ACall Tryz.prog 19 [.agg [.int .i64 a.1,.int .i64 a.2]] [] nid (.int .i64 (if outB a.1 (-59) 59 = true ∨ outB a.2 (-59) 59 = true then 1 else 0)) [] := by
 have h1 := fun k => span59_c a.1 k
 have h2 := fun k => span59_c a.2 k
 have h3 := fun nl' k => orE_c nl' [spanV a.1,spanV a.2] k (by simp)
 have e : firstBad (fun x : Int => x) [spanV a.1,spanV a.2] = if outB a.1 (-59) 59 = true ∨ outB a.2 (-59) 59 = true then 1 else 0 := by
  rw [firstBad2]
  unfold spanV
  cases outB a.1 (-59) 59 <;> cases outB a.2 (-59) 59 <;> rfl
 rw [e] at h3
 unfold litI at h3
 generalize (if outB a.1 (-59) 59 = true ∨ outB a.2 (-59) 59 = true then (1 : Int) else 0) = v at *
 generalize spanV a.1 = x at *
 generalize spanV a.2 = y at *
 refine acall_run c19 (by simp [a19]) ?_
 simp -dsimp only [aqA,↓seqK,↓blkK,↓loopK,step,stepBin,eqB,Nat.add_assoc nid,↓reduceIte,simprocAttr,LN_succ,a19]
 refine CallX.pure (h1 _) ?_
 simp -dsimp only [aqA,↓seqK,↓blkK,↓loopK,step,stepBin,eqB,Nat.add_assoc nid,↓reduceIte,simprocAttr,LN_succ]
 refine CallX.pure (h2 _) ?_
 simp -dsimp only [aqA,↓seqK,↓blkK,↓loopK,step,stepBin,eqB,Nat.add_assoc nid,↓reduceIte,simprocAttr,LN_succ]
 refine CallX.lent [nid + 32] (fun nl' => by
  simp only [lends,lend,noOs,aqA,↓seqK,↓blkK,↓loopK,step,stepBin,eqB,Nat.add_assoc nid,↓reduceIte,simprocAttr,LN_succ]
  exact h3 _ _) rfl rfl (by simp [getH]) ?_
 simp -dsimp only [aqA,↓seqK,↓blkK,↓loopK,step,stepBin,eqB,Nat.add_assoc nid,↓reduceIte,simprocAttr,LN_succ]
 refine RetOK.go [] [] (.inl rfl) ?_
 simp [a19,cvT,step,res]
def tbV (W : Waf) (card : List Pt) (a : Pt) : List Pt := (plV W).filter fun p => untB W p && (touchL card a).contains p
theorem touchedBy_c (nl nlc : Bool) (W : Waf) (card : List Pt) (a : Pt) (nid : Nat) (hW : WafOk W) (hl : card.length ≤ 1000) (hc : ∀ p ∈ card,PtBd p) (ha : PtBd a) :
  ACall Tryz.prog 20 [wafP nl W,litPl nlc card,.agg [.int .i64 a.1,.int .i64 a.2]] [] nid (.tup [.sl nid 0 (tbV W card a).length,.int .i64 ((card.length : Int) - ((tbV W card a).length : Nat))]) [(nid,arrPl (tbV W card a))] := by
 have hs := fun k => sites_all nlc card a k hl hc ha
 have htl := touchL_len card a
 have hpl := plTo_bd hW (Nat.le_refl _)
 have hplv : (plV W).length ≤ 60000 := hpl
 have htb : (tbV W card a).length ≤ 60000 := Nat.le_trans (List.length_filter_le _ _) hplv
 have hF : tbV W card a = (plV W).filter fun p => untB W p && (touchL card a).contains p := rfl
 rw [hF] at htb ⊢
 generalize touchL card a = T at *
 refine acall_sr c20 (by simp [a20]) ?_
 unfold a20
 unfold wafP litPl at *
 unfold arrPl at hs
 refine SR.seq ?_
 simp -dsimp only [aqA,↓seqK,↓blkK,↓loopK,step,stepBin,eqB,Nat.add_assoc nid,↓reduceIte,simprocAttr,LN_succ]
 refine SR.seqTo ⟨[(8,.ptr (nid + 8) 0),(1,litPl nlc card),(3,.ptr nid 0)],[(nid,boxW nl W),(nid + 12,arrPl T),(nid + 8,some (.box 30 [.sl (nid + 12) 0 T.length]))],nid + 200,nid⟩ ?_ ?_
 ·simp -dsimp only [aqA,↓seqK,↓blkK,↓loopK,step,stepBin,eqB,Nat.add_assoc nid,↓reduceIte,simprocAttr,LN_succ]
  refine CallO.pure (hs _) ?_
  simp -dsimp only [aqA,↓seqK,↓blkK,↓loopK,step,stepBin,eqB,Nat.add_assoc nid,↓reduceIte,simprocAttr,LN_succ]
  refine Cov.go [(nid + 12,nid + 24),(nid + 8,nid + 28)] [] ?_
  simp [cvT,step,res,boxW,arrPl,litPl,-List.getD_eq_getElem?_getD]
 refine SR.freezeB [nid + 12] (fun nl2 => ?_)
 simp only [frzS,frzH,frzBlk,lends,lend,kill,noOs,aqA,↓seqK,↓blkK,↓loopK,step,stepBin,eqB,Nat.add_assoc nid,↓reduceIte,simprocAttr,LN_succ,boxW,arrPl,litPl]
 generalize nl2 (nid + 12) = ns
 refine SR.cov (t' := .mk) (st' := ⟨[(8,.ptr (nid + 8) 0),(1,litPl nlc card),(3,.ptr nid 0)],[(nid,boxW nl W),(nid + 8,boxLp ns T)],nid + 300,nid⟩) (Cov.go [] [] ?_) ?_
 ·simp [cvT,step,res,boxW,litPl,boxLp,-List.getD_eq_getElem?_getD]
 have hpk := fun m (h : nid + 8 < m) => placesR_h 70 [.ptr nid 0,.ptr (nid + 8) 0] [(nid,boxW nl W),(nid + 8,boxLp ns T)] (fun p => untB W p && T.contains p) nl W m hW (scp2 (by omega) (by omega) (by simp [lowBlk,lowAll,idsOfs,idsOf,litPl]) rfl) (by simp [idsOfs,idsOf,lowAll]; omega) (fun p hp nid' h' => touch1R_c nid (nid + 8) nl ns W T p nid' (by omega) (by omega) (by omega) hW (plV_in hW hp) (by omega))
 generalize (plV W).filter (fun p => untB W p && T.contains p) = Q at *
 unfold arrPl wafP at hpk
 refine SR.run (t := .mk) ?_
 unfold boxW boxLp litPl at *
 simp -dsimp only [aqA,↓seqK,↓blkK,↓loopK,step,stepBin,eqB,Nat.add_assoc nid,↓reduceIte,simprocAttr,LN_succ]
 refine CallO.on (hpk _ (by omega)) (subH_cons (by simp only [aqA,↓seqK,↓blkK,↓loopK,step,stepBin,eqB,Nat.add_assoc nid,↓reduceIte,simprocAttr,LN_succ]) (subH_get (by simp only [aqA,↓seqK,↓blkK,↓loopK,step,stepBin,eqB,Nat.add_assoc nid,↓reduceIte,simprocAttr,LN_succ]))) ?_
 simp -dsimp only [aqA,↓seqK,↓blkK,↓loopK,step,stepBin,eqB,Nat.add_assoc nid,↓reduceIte,simprocAttr,LN_succ]
 refine ⟨by unfold inI64; omega,RetOK.go [(nid,nid + 308)] [] (.inl rfl) ?_⟩
 simp [a20,cvT,step,res,-List.getD_eq_getElem?_getD]
end Go.Proofs.YtmgfcjblclanmaaGreatDoor
namespace Go.Proofs.YtmgfcjblclanmaaGreatDoor
open Go.RowKit
def litDn (nl : Bool) (L : List Pt) (S : List Nat) : PV := .lit nl L.length [.i .i64 fun j => (L.getD j p0).1,.i .i64 fun j => (L.getD j p0).2,.i .i64 fun j => ((S.getD j 0 : Nat) : Int)]
def midD (l : List Nat) (M s : Nat) : List Int := (List.range s).map (encF l) ++ List.replicate (M - s) 0
def inD (l : List Nat) (M s : Nat) (acc : Int) : List Int := (List.range s).map (encF l) ++ acc :: List.replicate (M - s - 1) 0
theorem midD_len {l : List Nat} {M s : Nat} (h : s ≤ M) : (midD l M s).length = M := by
 unfold midD
 rw [List.length_append,List.length_map,List.length_range,List.length_replicate]
 omega
theorem inD_len {l : List Nat} {M s : Nat} (acc : Int) (h : s < M) : (inD l M s acc).length = M := by
 unfold inD
 rw [List.length_append,List.length_map,List.length_range,List.length_cons,List.length_replicate]
 omega
theorem midD_set (l : List Nat) {M s : Nat} (h : s < M) (v : Int) : (midD l M s).set s v = inD l M s v := by
 unfold midD inD
 rw [List.set_append_right _ _ (by simp),List.length_map,List.length_range,Nat.sub_self,show M - s = M - s - 1 + 1 by omega,List.replicate_succ]
 rfl
theorem inD_set {l : List Nat} {M s : Nat} {acc : Int} (v : Int) : (inD l M s acc).set s v = inD l M s v := by
 unfold inD
 rw [List.set_append_right _ _ (by simp),List.length_map,List.length_range,Nat.sub_self]
 rfl
theorem inD_mid (l : List Nat) {M s : Nat} : inD l M s (encF l s) = midD l M (s + 1) := by
 unfold inD midD
 rw [List.range_succ,List.map_append,List.append_assoc,Nat.sub_sub]
 rfl
theorem inD_at {l : List Nat} {M s : Nat} {acc : Int} : (inD l M s acc).getD s 0 = acc := by
 unfold inD
 rw [List.getD_eq_getElem?_getD,List.getElem?_append_right (by simp),List.length_map,List.length_range,Nat.sub_self]
 rfl
theorem inD_low {l : List Nat} {M s i : Nat} {acc : Int} (h : i < s) : (inD l M s acc).getD i 0 = encF l i := by
 unfold inD
 rw [List.getD_eq_getElem?_getD,List.getElem?_append_left (by simpa using h),List.getElem?_map,List.getElem?_range h]
 rfl
theorem midD_one (l : List Nat) {M : Nat} (h : 1 ≤ M) : midD l M 1 = List.replicate M 0 := by
 have e : encF l 0 = 0 := by unfold encF; rw [if_neg (by simp),fewN_zero]; rfl
 unfold midD
 rw [show List.range 1 = [0] from rfl,List.map_cons,e,List.map_nil,List.singleton_append,← List.replicate_succ,show M - 1 + 1 = M by omega]
theorem getD_setI (l : List Int) (v : Int) {i : Nat} (hi : i < l.length) : (fun j => if j = i then v else l.getD j 0) = fun j => (l.set i v).getD j 0 := by
 funext j
 rw [List.getD_eq_getElem?_getD,List.getD_eq_getElem?_getD,List.getElem?_set]
 by_cases h : j = i
 ·subst h
  rw [if_pos rfl,if_pos rfl,if_pos hi]
  rfl
 ·rw [if_neg h,if_neg (fun hh => h hh.symm)]
theorem and_sub {s d : Nat} : (s &&& d = d) ↔ subN d s = true := by
 rw [subN_iff]
 constructor
 ·intro h i hi
  rw [← h,Nat.testBit_and,Bool.and_eq_true] at hi
  exact hi.1
 ·intro h
  refine Nat.eq_of_testBit_eq fun i => ?_
  rw [Nat.testBit_and]
  cases hd : d.testBit i with
  | true => rw [h i hd]; rfl
  | false => simp
theorem encF_bd (l : List Nat) (s : Nat) : -1 ≤ encF l s ∧ encF l s ≤ s := by
 have h := tabN_le l s s
 unfold encF
 split
 ·omega
 ·have e : fewN l s = (tabN l s).getD s 0 := rfl
  rw [e]
  omega
set_option maxHeartbeats 8000000 in
theorem needed_c (nl : Bool) (L : List Pt) (S : List Nat) (K nid : Nat) (hS : S.length = L.length) (hL : L.length ≤ 1000000) (hd : ∀ d ∈ S,d < 16384) (hd0 : ∀ d ∈ S,d ≠ 0) (hK : K ≤ 14) :
  ACall Tryz.prog 83 [litDn nl L S,.int .i64 (K : Nat)] [] nid (.sl nid 0 (2 ^ K)) [(nid,arrI (midD S (2 ^ K) (2 ^ K)))] := by
 have hM : 2 ^ K ≤ 2 ^ 14 := Nat.pow_le_pow_right (by omega) hK
 have hM1 : 1 ≤ 2 ^ K := Nat.pow_pos (by omega)
 have hw1 : IntKind.i64.wrap (1 * 2 ^ (min K IntKind.i64.bits)) = ((2 ^ K : Nat) : Int) := by
  have := shl64 K (by omega)
  rwa [Nat.one_shiftLeft] at this
 generalize hMM : 2 ^ K = M at *
 refine acall_sr c83 (by simp [a83]) ?_
 unfold a83
 unfold litDn
 refine SR.seq ?_
 simp -dsimp only [aqA,↓seqK,↓blkK,↓loopK,step,stepBin,eqB,Nat.add_assoc nid,↓reduceIte,simprocAttr,LN_succ]
 refine SR.seq ?_
 simp -dsimp only [aqA,↓seqK,↓blkK,↓loopK,step,stepBin,eqB,Nat.add_assoc nid,↓reduceIte,simprocAttr,LN_succ]
 rw [hw1]
 refine ⟨by omega,by omega,?_⟩
 refine SR.seqW (ι := Unit) (fun _ => ⟨[(5,.sl (nid + 8) 0 M)],[(nid + 8,arrI (midD S M M))],nid + 90000,nid⟩) ?_ (fun _ => ?_)
 ·refine SR.seq ?_
  simp -dsimp only [aqA,↓seqK,↓blkK,↓loopK,step,stepBin,eqB,Nat.add_assoc nid,↓reduceIte,simprocAttr,LN_succ]
  refine SR.block ?_
  refine SR.loopP (fun s : Nat => 1 ≤ s ∧ s ≤ M) (fun s : Nat => ⟨[(6,.int .i64 s),(5,.sl (nid + 8) 0 M),(0,litDn nl L S)],[(nid + 8,arrI (midD S M s))],nid + 100,nid⟩) (fun s => M + 1 - s) 1 ⟨Nat.le_refl _,hM1⟩ (Cov.go [(nid + 8,nid + 12)] [] ?_) (fun s hs => ?_)
  ·rw [midD_one S hM1]
   simp [cvT,step,res,arrI,litDn,Col.const,-List.getD_eq_getElem?_getD]
   refine ColEq.i fun j hj => ?_
   have e : (List.replicate M (0 : Int)).getD j 0 = 0 := by rw [List.getD_eq_getElem?_getD,List.getElem?_replicate,if_pos hj]; rfl
   rw [e]
   rfl
  obtain ⟨hs1,hs2⟩ := hs
  unfold litDn arrI
  rw [midD_len hs2]
  refine SR.seq ?_
  simp -dsimp only [aqA,↓seqK,↓blkK,↓loopK,step,stepBin,eqB,Nat.add_assoc nid,↓reduceIte,simprocAttr,LN_succ]
  refine S2.dec (fun h3 => ?_) (fun h3 => ?_) <;> simp -dsimp only [aqA,↓seqK,↓blkK,↓loopK,step,stepBin,eqB,Nat.add_assoc nid,↓reduceIte,simprocAttr,LN_succ]
  ·have hsM : s < M := by omega
   refine SR.seqW (ι := Unit) (fun _ => ⟨[(6,.int .i64 s),(5,.sl (nid + 8) 0 M),(0,litDn nl L S)],[(nid + 8,arrI (midD S M (s + 1)))],nid + 5000,nid⟩) ?_ (fun _ => ?_)
   ·refine SR.block ?_
    refine SR.seqTo ⟨[(6,.int .i64 s),(5,.sl (nid + 8) 0 M),(0,litDn nl L S)],[(nid + 8,arrI (inD S M s (-1)))],nid + 200,nid⟩ ?_ ?_
    ·simp -dsimp only [aqA,↓seqK,↓blkK,↓loopK,step,stepBin,eqB,Nat.add_assoc nid,↓reduceIte,simprocAttr,LN_succ]
     rw [getD_setI (midD S M s) (-1) (by rw [midD_len hs2]; exact hsM),midD_set S hsM]
     refine ⟨by omega,Cov.go [] [] ?_⟩
     simp [cvT,step,res,arrI,litDn,inD_len _ hsM,-List.getD_eq_getElem?_getD]
    rw [← inD_mid S,← need_val (l := S) (s := s) (by omega) (by omega) hd0]
    unfold litDn arrI
    rw [inD_len _ hsM]
    refine SR.seq ?_
    simp -dsimp only [aqA,↓seqK,↓blkK,↓loopK,step,stepBin,eqB,Nat.add_assoc nid,↓reduceIte,simprocAttr,LN_succ]
    refine SR.block ?_
    refine SR.loopP (fun j : Nat => j ≤ L.length) (fun j : Nat => ⟨[(24,.int .i64 j),(23,.int .i64 L.length),(22,litDn nl L S),(6,.int .i64 s),(5,.sl (nid + 8) 0 M),(0,litDn nl L S)],[(nid + 8,arrI (inD S M s ((S.take j).foldl (stepD (encF S) s) (-1))))],nid + 300,nid⟩) (fun j => L.length + 1 - j) 0 (Nat.zero_le _) (Cov.go [] [] ?_) (fun j hj => ?_)
    ·simp [cvT,step,res,arrI,litDn,inD_len _ hsM,-List.getD_eq_getElem?_getD]
    unfold litDn arrI
    rw [inD_len _ hsM]
    refine SR.seq ?_
    simp -dsimp only [aqA,↓seqK,↓blkK,↓loopK,step,stepBin,eqB,Nat.add_assoc nid,↓reduceIte,simprocAttr,LN_succ]
    refine SR.seq ?_
    simp -dsimp only [aqA,↓seqK,↓blkK,↓loopK,step,stepBin,eqB,Nat.add_assoc nid,↓reduceIte,simprocAttr,LN_succ]
    refine S2.dec (fun h4 => ?_) (fun h4 => ?_) <;> simp -dsimp only [aqA,↓seqK,↓blkK,↓loopK,step,stepBin,eqB,Nat.add_assoc nid,↓reduceIte,simprocAttr,LN_succ]
    ·have hjl : j < S.length := by omega
     have hdm : S.getD j 0 ∈ S := by rw [List.getD_eq_getElem?_getD,List.getElem?_eq_getElem hjl]; exact List.getElem_mem _
     have hdb := hd _ hdm
     have hdz := hd0 _ hdm
     have hfs : (S.take (j + 1)).foldl (stepD (encF S) s) (-1) = stepD (encF S) s ((S.take j).foldl (stepD (encF S) s) (-1)) (S.getD j 0) := by
      rw [take_snoc (x := S.getD j 0) (by rw [List.getD_eq_getElem?_getD,List.getElem?_eq_getElem hjl]; rfl),List.foldl_append]
      rfl
     generalize hdd : S.getD j 0 = d at *
     have hA1 := and64 s d (by omega) (by omega)
     refine SR.seqW (ι := Unit) (fun _ => ⟨[(24,.int .i64 j),(23,.int .i64 L.length),(22,litDn nl L S),(6,.int .i64 s),(5,.sl (nid + 8) 0 M),(0,litDn nl L S)],[(nid + 8,arrI (inD S M s ((S.take (j + 1)).foldl (stepD (encF S) s) (-1))))],nid + 1000,nid⟩) ?_ (fun _ => ?_)
     ·rw [hfs]
      generalize hacd : (S.take j).foldl (stepD (encF S) s) (-1) = acc at *
      refine SR.block ?_
      refine SR.seq ?_
      simp -dsimp only [aqA,↓seqK,↓blkK,↓loopK,step,stepBin,eqB,Nat.add_assoc nid,↓reduceIte,simprocAttr,LN_succ]
      refine ⟨by omega,?_⟩
      rw [hdd]
      by_cases c1 : subN d s = true
      ·have c1' := and_sub.2 c1
       have b1 : (((s &&& d : Nat) : Int) != ((d : Nat) : Int)) = false := by rw [c1',bne_eq_false_iff_eq]
       have hdle : d ≤ s := by rw [← c1']; exact Nat.and_le_left
       have hsd : ((s : Int) - (d : Int)) = ((andN s d : Nat) : Int) := by rw [← sub_andN (by omega) c1]; omega
       have hlt : andN s d < s := by rw [← sub_andN (by omega) c1]; omega
       have hget : (inD S M s acc).getD (andN s d) 0 = encF S (andN s d) := inD_low hlt
       have hat := inD_at (l := S) (M := M) (s := s) (acc := acc)
       have hbd := encF_bd S (andN s d)
       have hst : stepD (encF S) s acc d = if encF S (andN s d) < 0 then acc else if acc < 0 ∨ encF S (andN s d) + 1 < acc then encF S (andN s d) + 1 else acc := by
        unfold stepD
        rw [c1]
        simp
       have hlr : andN s d < M := by omega
       generalize hvv : encF S (andN s d) = v at *
       by_cases c2 : v < 0
       ·have hst2 : stepD (encF S) s acc d = acc := by rw [hst,if_pos c2]
        rw [hst2]
        refine SR.run (t := .mk) ?_
        simp -dsimp only [aqA,↓seqK,↓blkK,↓loopK,step,stepBin,eqB,Nat.add_assoc nid,↓reduceIte,simprocAttr,LN_succ,hA1,b1,hsd,Int.toNat_natCast,hget,hat,c2]
        repeat refine ⟨by first | omega | (unfold inI64; omega),?_⟩
        refine ⟨(),Cov.go [] [] ?_⟩
        simp [cvT,step,res,arrI,litDn,inD_len _ hsM,-List.getD_eq_getElem?_getD]
       ·rw [if_neg c2] at hst
        by_cases c3 : acc < 0
        ·have hst2 : stepD (encF S) s acc d = v + 1 := by rw [hst,if_pos (.inl c3)]
         rw [hst2]
         refine SR.run (t := .mk) ?_
         simp -dsimp only [aqA,↓seqK,↓blkK,↓loopK,step,stepBin,eqB,Nat.add_assoc nid,↓reduceIte,simprocAttr,LN_succ,hA1,b1,hsd,Int.toNat_natCast,hget,hat,c2,c3]
         rw [getD_setI (inD S M s acc) (v + 1) (by rw [inD_len acc hsM]; exact hsM),inD_set]
         repeat refine ⟨by first | omega | (unfold inI64; omega),?_⟩
         refine ⟨(),Cov.go [] [] ?_⟩
         simp [cvT,step,res,arrI,litDn,inD_len _ hsM,-List.getD_eq_getElem?_getD]
        ·by_cases c4 : v + 1 < acc
         ·have hst2 : stepD (encF S) s acc d = v + 1 := by rw [hst,if_pos (.inr c4)]
          rw [hst2]
          refine SR.run (t := .mk) ?_
          simp -dsimp only [aqA,↓seqK,↓blkK,↓loopK,step,stepBin,eqB,Nat.add_assoc nid,↓reduceIte,simprocAttr,LN_succ,hA1,b1,hsd,Int.toNat_natCast,hget,hat,c2,c3,c4]
          rw [getD_setI (inD S M s acc) (v + 1) (by rw [inD_len acc hsM]; exact hsM),inD_set]
          repeat refine ⟨by first | omega | (unfold inI64; omega),?_⟩
          refine ⟨(),Cov.go [] [] ?_⟩
          simp [cvT,step,res,arrI,litDn,inD_len _ hsM,-List.getD_eq_getElem?_getD]
         ·have hst2 : stepD (encF S) s acc d = acc := by rw [hst,if_neg (by omega)]
          rw [hst2]
          refine SR.run (t := .mk) ?_
          simp -dsimp only [aqA,↓seqK,↓blkK,↓loopK,step,stepBin,eqB,Nat.add_assoc nid,↓reduceIte,simprocAttr,LN_succ,hA1,b1,hsd,Int.toNat_natCast,hget,hat,c2,c3,c4]
          repeat refine ⟨by first | omega | (unfold inI64; omega),?_⟩
          refine ⟨(),Cov.go [] [] ?_⟩
          simp [cvT,step,res,arrI,litDn,inD_len _ hsM,-List.getD_eq_getElem?_getD]
      ·have b1 : (((s &&& d : Nat) : Int) != ((d : Nat) : Int)) = true := by
        rw [bne_iff_ne]
        intro hh
        exact c1 (and_sub.1 (by omega))
       have hst2 : stepD (encF S) s acc d = acc := by
        unfold stepD
        rw [if_pos (.inl (by simpa using c1))]
       rw [hst2]
       refine SR.run (t := .mk) ?_
       simp -dsimp only [aqA,↓seqK,↓blkK,↓loopK,step,stepBin,eqB,Nat.add_assoc nid,↓reduceIte,simprocAttr,LN_succ,hA1,b1]
       repeat refine ⟨by first | omega | (unfold inI64; omega),?_⟩
       refine ⟨(),Cov.go [] [] ?_⟩
       simp [cvT,step,res,arrI,litDn,inD_len _ hsM,-List.getD_eq_getElem?_getD]
     ·refine SR.run (t := .mk) ?_
      simp -dsimp only [aqA,↓seqK,↓blkK,↓loopK,step,stepBin,eqB,Nat.add_assoc nid,↓reduceIte,simprocAttr,LN_succ]
      refine ⟨by unfold inI64; omega,j + 1,⟨by omega,by omega⟩,Cov.go [] [] ?_⟩
      simp [cvT,step,res,arrI,litDn,inD_len _ hsM,-List.getD_eq_getElem?_getD]
    ·obtain rfl : j = L.length := by omega
     rw [← hS,List.take_length]
     refine ⟨(),Cov.go [] [] ?_⟩
     simp [cvT,step,res,arrI,litDn,inD_len _ hsM,-List.getD_eq_getElem?_getD]
   ·refine SR.run (t := .mk) ?_
    simp -dsimp only [aqA,↓seqK,↓blkK,↓loopK,step,stepBin,eqB,Nat.add_assoc nid,↓reduceIte,simprocAttr,LN_succ]
    refine ⟨by unfold inI64; omega,s + 1,⟨⟨by omega,by omega⟩,by omega⟩,Cov.go [] [] ?_⟩
    simp [cvT,step,res,arrI,litDn,midD_len (l := S) (M := M) (s := s + 1) (by omega),-List.getD_eq_getElem?_getD]
  ·obtain rfl : s = M := by omega
   refine ⟨(),Cov.go [] [] ?_⟩
   simp [cvT,step,res,arrI,litDn,midD_len (l := S) hs2,-List.getD_eq_getElem?_getD]
 ·refine SR.run (t := .mk) ?_
  have := midD_len (l := S) (Nat.le_refl M)
  unfold arrI
  simp -dsimp only [aqA,↓seqK,↓blkK,↓loopK,step,stepBin,eqB,Nat.add_assoc nid,↓reduceIte,simprocAttr,LN_succ]
  refine RetOK.go [(nid,nid + 8)] [] (.inl rfl) ?_
  simp [a83,cvT,step,res,this,-List.getD_eq_getElem?_getD]
end Go.Proofs.YtmgfcjblclanmaaGreatDoor
namespace Go.Proofs.YtmgfcjblclanmaaGreatDoor
open Go.RowKit
def arrDg (g : Pt → Int) (l : List Pt) : Option ABlk := some (.arr 123 l.length [.i .i64 fun j => (l.getD j p0).1,.i .i64 fun j => (l.getD j p0).2,.i .i64 fun j => g (l.getD j p0)])
def arrDd (g : Pt → Int) (l : List Pt) (n : Nat) : Option ABlk := some (.arr 123 l.length [.i .i64 fun j => (l.getD j p0).1,.i .i64 fun j => (l.getD j p0).2,.i .i64 fun j => if j < n then g (l.getD j p0) else 0])
theorem eq3 (g : Pt → Int) (p q : Pt) : (p.1 == q.1 && (p.2 == q.2 && g p == g q)) = (p.1 == q.1 && p.2 == q.2) := by
 by_cases h : p = q
 ·subst h; simp
 ·cases h1 : (p.1 == q.1) <;> cases h2 : (p.2 == q.2) <;> simp
  exact absurd (Prod.ext (by simpa using h1) (by simpa using h2)) h
theorem doneC_third {l : List Pt} (g : Pt → Int) : ∀ j,j < l.length → (if (compTo l l.length).length ≤ j ∧ j < (compTo l l.length).length + (l.length - (compTo l l.length).length) then (0 : Int) else g ((partC l l.length).getD j p0)) = if j < (compTo l l.length).length then g ((doneC l).getD j p0) else 0 := fun j hj => by
 by_cases h : j < (compTo l l.length).length
 ·rw [if_neg (by omega),if_pos h]
  unfold doneC partC
  rw [List.getD_eq_getElem?_getD,List.getElem?_append_left h,List.getD_eq_getElem?_getD,List.getElem?_append_left h]
 ·rw [if_pos (by omega),if_neg h]
set_option maxHeartbeats 8000000 in
theorem compactD_c (g : Pt → Int) (id : Nat) (l : List Pt) (nid : Nat) (hid : id < nid) (hl : l.length ≤ 1000000) : ACall Tryz.prog 140 [.sl id 0 l.length] [(id,arrDg g l)] nid (.sl id 0 (compTo l l.length).length) [(id,arrDd g (doneC l) (compTo l l.length).length)] := by
 obtain ⟨e1,e2,e3,e4,e5,e6,e7,e8,e9⟩ := id_all hid
 refine acall_run c140 (by simp [a140]) ?_
 unfold arrDg
 try unfold arrDd
 simp -dsimp only [aqA,↓seqK,↓blkK,↓loopK,step,stepBin,eqB,Nat.add_assoc nid,↓reduceIte,simprocAttr,LN_succ,a140,e1,e2,e3,e4,e5,e6,e7,e8,e9]
 have hsame : (∀ j,j < l.length → newB l j = true) → compTo l l.length = l ∧ doneC l = l := fun h => by
  have e := compTo_take (Nat.le_refl _) h
  rw [List.take_length] at e
  refine ⟨e,?_⟩
  unfold doneC
  rw [e]
  simp
 refine S2.dec (fun h2 => ?_) (fun h2 => ?_) <;> simp -dsimp only [aqA,↓seqK,↓blkK,↓loopK,step,stepBin,eqB,Nat.add_assoc nid,↓reduceIte,simprocAttr,LN_succ,e1,e2,e3,e4,e5,e6,e7,e8,e9]
 ·obtain ⟨k1,k2⟩ := hsame (fun j hj => newB_first l (show j = 0 by omega))
  rw [k1,k2]
  refine RetOK.go [] [] (.inl rfl) ?_
  simp [a140,cvT,step,res,e1,e2,e3,e4,e5,e6,e7,e8,e9,arrDg,arrDd,-List.getD_eq_getElem?_getD]
  exact ColEq.i fun j hj => by rw [if_pos hj]
 refine LP.mkP (fun i : Nat => (1 ≤ i ∧ i ≤ l.length) ∧ ∀ j,j < i → newB l j = true) (fun i : Nat => ⟨[(3,.int .i64 i),(0,.sl id 0 l.length)],[(id,arrDg g l)],nid + 100,nid⟩) (fun i => l.length + 1 - i) 1 ⟨⟨by omega,by omega⟩,fun j hj => newB_first l (show j = 0 by omega)⟩ (Cov.go [] [] ?_) (fun i hi => ?_)
 ·simp [cvT,step,res,e1,e2,e3,e4,e5,e6,e7,e8,e9,arrDg,arrDd,-List.getD_eq_getElem?_getD]
 obtain ⟨⟨hi1,hi⟩,hb⟩ := hi
 unfold arrDg
 try unfold arrDd
 simp -dsimp only [aqA,↓seqK,↓blkK,↓loopK,step,stepBin,eqB,Nat.add_assoc nid,↓reduceIte,simprocAttr,LN_succ,e1,e2,e3,e4,e5,e6,e7,e8,e9]
 refine S2.dec (fun h3 => ?_) (fun h3 => ?_) <;> simp -dsimp only [aqA,↓seqK,↓blkK,↓loopK,step,stepBin,eqB,Nat.add_assoc nid,↓reduceIte,simprocAttr,LN_succ,e1,e2,e3,e4,e5,e6,e7,e8,e9]
 ·have hil : i < l.length := by omega
  have e1' : ((i : Int) - 1).toNat = i - 1 := by omega
  have hnb := newB_eq l (j := i) (by omega)
  refine ⟨by omega,by unfold inI64; omega,⟨by omega,by omega⟩,?_⟩
  rw [e1']
  have hx : ((l.getD i p0).1 == (l.getD (i - 1) p0).1 && (l.getD i p0).2 == (l.getD (i - 1) p0).2) = !newB l i := by rw [hnb,Bool.not_not]
  rw [eq3,hx]
  cases hq : newB l i
  ·have c0 : compTo l i = l.take i := compTo_take hi hb
   have c1 : compTo l (i + 1) = compTo l i := (partC_skip hq).2
   have c2 : (compTo l (i + 1)).length = i := by rw [c1,c0,List.length_take]; omega
   have c3 : partC l (i + 1) = l := by
    unfold partC
    rw [c2,c1,c0,List.take_append_drop]
   simp -dsimp only [aqA,↓seqK,↓blkK,↓loopK,step,stepBin,eqB,Nat.add_assoc nid,↓reduceIte,simprocAttr,LN_succ,e1,e2,e3,e4,e5,e6,e7,e8,e9]
   refine ⟨by omega,?_⟩
   refine LP.mkP (fun m : Nat => (i + 1 ≤ m ∧ m ≤ l.length) ∧ (compTo l m).length + 1 ≤ m) (fun m : Nat => ⟨[(0,.sl id 0 l.length),(3,.int .i64 (compTo l m).length),(4,.sl id i (l.length - i)),(5,.int .i64 (m - i : Nat))],[(id,arrDg g (partC l m))],nid + 1000,nid⟩) (fun m => l.length + 1 - m) (i + 1) ⟨⟨by omega,by omega⟩,by omega⟩ (Cov.go [] [] ?_) (fun m hm => ?_)
   ·rw [c2,c3,show i + 1 - i = 1 from by omega]
    simp [cvT,step,res,e1,e2,e3,e4,e5,e6,e7,e8,e9,arrDg,arrDd,-List.getD_eq_getElem?_getD]
   obtain ⟨⟨hm1,hm2⟩,hm3⟩ := hm
   have hpl := partC_len hm2
   unfold arrDg
   try unfold arrDd
   rw [hpl]
   simp -dsimp only [aqA,↓seqK,↓blkK,↓loopK,step,stepBin,eqB,Nat.add_assoc nid,↓reduceIte,simprocAttr,LN_succ,e1,e2,e3,e4,e5,e6,e7,e8,e9]
   refine S2.dec (fun h5 => ?_) (fun h5 => ?_) <;> simp -dsimp only [aqA,↓seqK,↓blkK,↓loopK,step,stepBin,eqB,Nat.add_assoc nid,↓reduceIte,simprocAttr,LN_succ,e1,e2,e3,e4,e5,e6,e7,e8,e9]
   ·have hml : m < l.length := by omega
    have f1 : i + (m - i) = m := by omega
    have f2 : i + ((m - i : Nat) - 1 : Int).toNat = m - 1 := by omega
    have f3 : (partC l m).getD m p0 = l.getD m p0 := partC_at (by omega)
    have f4 : (partC l m).getD (m - 1) p0 = l.getD (m - 1) p0 := partC_at (by omega)
    refine ⟨by omega,by unfold inI64; omega,by omega,?_⟩
    rw [f1,f2,f3,f4,eq3,← newB_eq l (by omega)]
    cases hq2 : newB l m
    ·obtain ⟨g1,g2⟩ := partC_skip hq2
     simp -dsimp only [aqA,↓seqK,↓blkK,↓loopK,step,stepBin,eqB,Nat.add_assoc nid,↓reduceIte,simprocAttr,LN_succ,e1,e2,e3,e4,e5,e6,e7,e8,e9]
     refine ⟨by unfold inI64; omega,m + 1,⟨⟨⟨by omega,by omega⟩,by rw [g2]; omega⟩,by omega⟩,Cov.go [] [] ?_⟩
     rw [g1,g2,show ((m + 1 - i : Nat) : Int) = (m - i : Nat) + 1 from by omega]
     simp [cvT,step,res,e1,e2,e3,e4,e5,e6,e7,e8,e9,arrDg,arrDd,hpl,-List.getD_eq_getElem?_getD]
    ·obtain ⟨g1,g2⟩ := partC_set hml hq2
     simp -dsimp only [aqA,↓seqK,↓blkK,↓loopK,step,stepBin,eqB,Nat.add_assoc nid,↓reduceIte,simprocAttr,LN_succ,e1,e2,e3,e4,e5,e6,e7,e8,e9]
     rw [f1,f3,getD_setP (partC l m) (l.getD m p0) (by omega) (fun p => p.1) rfl,getD_setP (partC l m) (l.getD m p0) (by omega) (fun p => p.2) rfl,getD_setP (partC l m) (l.getD m p0) (by omega) g rfl,g1]
     refine ⟨by omega,by omega,by unfold inI64; omega,by unfold inI64; omega,m + 1,⟨⟨⟨by omega,by omega⟩,by rw [g2]; omega⟩,by omega⟩,Cov.go [] [] ?_⟩
     rw [g2,show ((m + 1 - i : Nat) : Int) = (m - i : Nat) + 1 from by omega]
     simp [cvT,step,res,e1,e2,e3,e4,e5,e6,e7,e8,e9,arrDg,arrDd,partC_len (l := l) (m := m + 1) (by omega),-List.getD_eq_getElem?_getD]
   ·obtain rfl : m = l.length := by omega
    simp -dsimp only [aqA,↓seqK,↓blkK,↓loopK,step,stepBin,eqB,Nat.add_assoc nid,↓reduceIte,simprocAttr,LN_succ,Col.const,e1,e2,e3,e4,e5,e6,e7,e8,e9]
    refine ⟨⟨by omega,by omega⟩,by omega,⟨by omega,by omega⟩,?_⟩
    refine RetOK.go [] [] (.inl rfl) ?_
    have hdl : (doneC l).length = l.length := by unfold doneC; rw [List.length_append,List.length_replicate]; omega
    simp [a140,cvT,step,res,e1,e2,e3,e4,e5,e6,e7,e8,e9,arrDg,arrDd,hdl,-List.getD_eq_getElem?_getD]
    exact ⟨ColEq.i (doneC_at (fun p => p.1) rfl),ColEq.i (doneC_at (fun p => p.2) rfl),ColEq.i (doneC_third g)⟩
  ·simp -dsimp only [aqA,↓seqK,↓blkK,↓loopK,step,stepBin,eqB,Nat.add_assoc nid,↓reduceIte,simprocAttr,LN_succ,e1,e2,e3,e4,e5,e6,e7,e8,e9]
   refine ⟨by unfold inI64; omega,i + 1,⟨⟨⟨by omega,by omega⟩,fun j hj => ?_⟩,by omega⟩,Cov.go [] [] ?_⟩
   ·rcases Nat.lt_succ_iff_lt_or_eq.1 hj with h | h
    ·exact hb j h
    ·rw [h]; exact hq
   ·simp [cvT,step,res,e1,e2,e3,e4,e5,e6,e7,e8,e9,arrDg,arrDd,-List.getD_eq_getElem?_getD]
 ·obtain rfl : i = l.length := by omega
  obtain ⟨k1,k2⟩ := hsame hb
  rw [k1,k2]
  refine RetOK.go [] [] (.inl rfl) ?_
  simp [a140,cvT,step,res,e1,e2,e3,e4,e5,e6,e7,e8,e9,arrDg,arrDd,-List.getD_eq_getElem?_getD]
  exact ColEq.i fun j hj => by rw [if_pos hj]
end Go.Proofs.YtmgfcjblclanmaaGreatDoor
namespace Go.Proofs.YtmgfcjblclanmaaGreatDoor
open Go.RowKit
def boxI (s : Nat) : Option ABlk := some (.box 3 [.int .i64 (s : Nat)])
def boxNI (nl : Bool) (l : List Int) : Option ABlk := some (.box 22 [litI nl l])
def pickD (Tb : List Int) (s d : Nat) : Bool := subN d s && (Tb.getD (andN s d) 0 == Tb.getD s 0 - 1)
def nextD (Tb : List Int) (S : List Nat) (s : Nat) : Int := match S.findIdx? (pickD Tb s) with
 | some i => (i : Int)
 | none => -1
set_option maxHeartbeats 4000000 in
theorem pickD_c (i1 i2 : Nat) (nl : Bool) (Tb : List Int) (s d : Nat) (p : Pt) (nid : Nat) (h1 : i1 < nid) (h2 : i2 < nid) (n1 : i1 ≠ i2) (hs : s < Tb.length) (hT : Tb.length ≤ 16384) (hd : d < 16384) (hv : ∀ i,-1 ≤ Tb.getD i 0 ∧ Tb.getD i 0 ≤ 1000000) :
  ACall Tryz.prog 85 [.agg [.int .i64 p.1,.int .i64 p.2,.int .i64 (d : Nat)],.ptr i1 0,.ptr i2 0] [(i1,boxI s),(i2,boxNI nl Tb)] nid (.bool (pickD Tb s d)) [] := by
 obtain ⟨a1,a2,a3,a4,a5,a6,a7,a8,a9⟩ := id_all h1
 obtain ⟨b1,b2,b3,b4,b5,b6,b7,b8,b9⟩ := id_all h2
 have g1 : (i1 == i2) = false := by simpa using n1
 have g2 : (i2 == i1) = false := by simpa using fun h => n1 h.symm
 have m1 : ¬ i2 = i1 := fun h => n1 h.symm
 have hA1 := and64 s d (by omega) (by omega)
 have hvs := hv s
 refine acall_sr c85 (by simp [a85]) ?_
 unfold a85
 unfold boxI boxNI litI
 refine SR.seq ?_
 simp -dsimp only [aqA,↓seqK,↓blkK,↓loopK,step,stepBin,eqB,Nat.add_assoc nid,↓reduceIte,simprocAttr,LN_succ,a1,a2,a3,a4,a5,a6,a7,a8,a9,b1,b2,b3,b4,b5,b6,b7,b8,b9,g1,g2,n1,m1]
 refine SR.seqTo ⟨[(4,.bool (pickD Tb s d))],[(i1,boxI s),(i2,boxNI nl Tb)],nid + 5000,nid⟩ ?_ ?_
 ·refine Run.cut 8 (by decide) (by decide) ?_
  by_cases c1 : subN d s = true
  ·have c1' := and_sub.2 c1
   have q1 : (((s &&& d : Nat) : Int) == ((d : Nat) : Int)) = true := by rw [c1']; simp
   have hdle : d ≤ s := by rw [← c1']; exact Nat.and_le_left
   have hsd : ((s : Int) - (d : Int)) = ((andN s d : Nat) : Int) := by rw [← sub_andN (by omega) c1]; omega
   have hle : andN s d ≤ s := andN_le (by omega)
   have hp : pickD Tb s d = (Tb.getD (andN s d) 0 == Tb.getD s 0 - 1) := by unfold pickD; rw [c1]; rfl
   simp -dsimp only [aqA,↓seqK,↓blkK,↓loopK,step,stepBin,eqB,Nat.add_assoc nid,↓reduceIte,simprocAttr,LN_succ,List.take,shiftL,List.map,a1,a2,a3,a4,a5,a6,a7,a8,a9,b1,b2,b3,b4,b5,b6,b7,b8,b9,g1,g2,n1,m1,hA1,q1]
   refine RCut.go [12,3,1,2] fun s2 h => ?_
   simp only [List.forall_mem_cons,aqA,↓seqK,↓blkK,↓loopK,step,stepBin,eqB,Nat.add_assoc nid,↓reduceIte,simprocAttr,LN_succ] at h
   obtain ⟨f1,f2,f3,f4,-⟩ := h
   simp -dsimp only [aqA,↓seqK,↓blkK,↓loopK,step,stepBin,eqB,Nat.add_assoc nid,↓reduceIte,simprocAttr,LN_succ,List.take,shiftL,List.map,a1,a2,a3,a4,a5,a6,a7,a8,a9,b1,b2,b3,b4,b5,b6,b7,b8,b9,g1,g2,n1,m1,f1,f2,f3,f4,hsd,Int.toNat_natCast]
   refine ⟨by unfold inI64; omega,by omega,by omega,by unfold inI64; omega,Cov.go [] [] ?_⟩
   rw [hp]
   simp [cvT,step,res,boxI,boxNI,litI,-List.getD_eq_getElem?_getD,a1,a2,a3,a4,a5,a6,a7,a8,a9,b1,b2,b3,b4,b5,b6,b7,b8,b9,g1,g2,n1,m1,f1,f2,f3,f4]
  ·have q1 : (((s &&& d : Nat) : Int) == ((d : Nat) : Int)) = false := by
    rw [beq_eq_false_iff_ne]
    intro hh
    exact c1 (and_sub.1 (by omega))
   have hp : pickD Tb s d = false := by unfold pickD; rw [show subN d s = false from by simpa using c1]; rfl
   simp -dsimp only [aqA,↓seqK,↓blkK,↓loopK,step,stepBin,eqB,Nat.add_assoc nid,↓reduceIte,simprocAttr,LN_succ,List.take,shiftL,List.map,a1,a2,a3,a4,a5,a6,a7,a8,a9,b1,b2,b3,b4,b5,b6,b7,b8,b9,g1,g2,n1,m1,hA1,q1]
   refine RCut.go [12,3,1,2] fun s2 h => ?_
   simp only [List.forall_mem_cons,aqA,↓seqK,↓blkK,↓loopK,step,stepBin,eqB,Nat.add_assoc nid,↓reduceIte,simprocAttr,LN_succ] at h
   obtain ⟨f1,f2,f3,f4,-⟩ := h
   simp -dsimp only [aqA,↓seqK,↓blkK,↓loopK,step,stepBin,eqB,Nat.add_assoc nid,↓reduceIte,simprocAttr,LN_succ,List.take,shiftL,List.map,a1,a2,a3,a4,a5,a6,a7,a8,a9,b1,b2,b3,b4,b5,b6,b7,b8,b9,g1,g2,n1,m1,f1,f2,f3,f4]
   refine Cov.go [] [] ?_
   rw [hp]
   simp [cvT,step,res,boxI,boxNI,litI,-List.getD_eq_getElem?_getD,a1,a2,a3,a4,a5,a6,a7,a8,a9,b1,b2,b3,b4,b5,b6,b7,b8,b9,g1,g2,n1,m1,f1,f2,f3,f4]
 ·refine SR.run (t := .mk) ?_
  unfold boxI boxNI litI
  simp -dsimp only [aqA,↓seqK,↓blkK,↓loopK,step,stepBin,eqB,Nat.add_assoc nid,↓reduceIte,simprocAttr,LN_succ,a1,a2,a3,a4,a5,a6,a7,a8,a9,b1,b2,b3,b4,b5,b6,b7,b8,b9,g1,g2,n1,m1]
  refine RetOK.go [] [] (.inl rfl) ?_
  simp [a85,cvT,step,res,a1,a2,a3,a4,a5,a6,a7,a8,a9,b1,b2,b3,b4,b5,b6,b7,b8,b9,g1,g2,n1,m1,-List.getD_eq_getElem?_getD]
set_option maxHeartbeats 4000000 in
theorem indexD_c (i1 i2 : Nat) (nl nlT : Bool) (Tb : List Int) (L : List Pt) (S : List Nat) (s : Nat) (nid : Nat) (h1 : i1 < nid) (h2 : i2 < nid) (n1 : i1 ≠ i2) (hs : s < Tb.length) (hT : Tb.length ≤ 16384) (hS : S.length = L.length) (hL : L.length ≤ 1000000) (hd : ∀ d ∈ S,d < 16384) (hv : ∀ i,-1 ≤ Tb.getD i 0 ∧ Tb.getD i 0 ≤ 1000000) :
  ACall Tryz.prog 84 [litDn nl L S,.fn 85 [.ptr i1 0,.ptr i2 0]] [(i1,boxI s),(i2,boxNI nlT Tb)] nid (.int .i64 (nextD Tb S s)) [] := by
 obtain ⟨a1,a2,a3,a4,a5,a6,a7,a8,a9⟩ := id_all h1
 obtain ⟨b1,b2,b3,b4,b5,b6,b7,b8,b9⟩ := id_all h2
 have g1 : (i1 == i2) = false := by simpa using n1
 have g2 : (i2 == i1) = false := by simpa using fun h => n1 h.symm
 have m1 : ¬ i2 = i1 := fun h => n1 h.symm
 have hp := fun (p : Pt) (d : Nat) hd' k (k1 : i1 < k) (k2 : i2 < k) => pickD_c i1 i2 nlT Tb s d p k k1 k2 n1 hs hT hd' hv
 refine acall_run c84 (by simp [a84]) ?_
 unfold litDn
 simp -dsimp only [a84,aqA,↓seqK,↓blkK,↓loopK,step,stepBin,eqB,Nat.add_assoc nid,↓reduceIte,simprocAttr,LN_succ,a1,a2,a3,a4,a5,a6,a7,a8,a9,b1,b2,b3,b4,b5,b6,b7,b8,b9,g1,g2,n1,m1]
 refine LP.mkP (fun k : Nat => k ≤ L.length ∧ ∀ j,j < k → pickD Tb s (S.getD j 0) = false) (fun k : Nat => ⟨[(8,.int .i64 k),(7,.int .i64 L.length),(0,litDn nl L S),(1,.fn 85 [.ptr i1 0,.ptr i2 0])],[(i1,boxI s),(i2,boxNI nlT Tb)],nid + 100,nid⟩) (fun k => L.length + 1 - k) 0 ⟨by omega,fun j hj => by omega⟩ (Cov.go [] [] ?_) (fun k hk => ?_)
 ·simp [cvT,step,res,a1,a2,a3,a4,a5,a6,a7,a8,a9,b1,b2,b3,b4,b5,b6,b7,b8,b9,g1,g2,n1,m1,litDn,boxI,boxNI,litI,-List.getD_eq_getElem?_getD]
 obtain ⟨hk,hall⟩ := hk
 unfold litDn
 simp -dsimp only [aqA,↓seqK,↓blkK,↓loopK,step,stepBin,eqB,Nat.add_assoc nid,↓reduceIte,simprocAttr,LN_succ,a1,a2,a3,a4,a5,a6,a7,a8,a9,b1,b2,b3,b4,b5,b6,b7,b8,b9,g1,g2,n1,m1]
 refine S2.dec (fun h1 => ?_) (fun h1 => ?_) <;> simp -dsimp only [aqA,↓seqK,↓blkK,↓loopK,step,stepBin,eqB,Nat.add_assoc nid,↓reduceIte,simprocAttr,LN_succ,a1,a2,a3,a4,a5,a6,a7,a8,a9,b1,b2,b3,b4,b5,b6,b7,b8,b9,g1,g2,n1,m1]
 ·have hkl : k < S.length := by omega
  have hdm : S.getD k 0 ∈ S := by rw [List.getD_eq_getElem?_getD,List.getElem?_eq_getElem hkl]; exact List.getElem_mem _
  refine ⟨by omega,CallO.on (hp (L.getD k p0) (S.getD k 0) (hd _ hdm) _ (by omega) (by omega)) (subH_cons (by simp only [aqA,↓seqK,↓blkK,↓loopK,step,stepBin,eqB,Nat.add_assoc nid,↓reduceIte,simprocAttr,LN_succ,boxI,boxNI,litI,a1,a2,a3,a4,a5,a6,a7,a8,a9,b1,b2,b3,b4,b5,b6,b7,b8,b9,g1,g2,n1,m1]) (subH_get (by simp only [aqA,↓seqK,↓blkK,↓loopK,step,stepBin,eqB,Nat.add_assoc nid,↓reduceIte,simprocAttr,LN_succ,boxI,boxNI,litI,a1,a2,a3,a4,a5,a6,a7,a8,a9,b1,b2,b3,b4,b5,b6,b7,b8,b9,g1,g2,n1,m1]))) ?_⟩
  simp -dsimp only [aqA,↓seqK,↓blkK,↓loopK,step,stepBin,eqB,Nat.add_assoc nid,↓reduceIte,simprocAttr,LN_succ,a1,a2,a3,a4,a5,a6,a7,a8,a9,b1,b2,b3,b4,b5,b6,b7,b8,b9,g1,g2,n1,m1]
  refine S2.intro (fun h2 => ?_) (fun h2 => ?_) <;> simp -dsimp only [aqA,↓seqK,↓blkK,↓loopK,step,stepBin,eqB,Nat.add_assoc nid,↓reduceIte,simprocAttr,LN_succ,a1,a2,a3,a4,a5,a6,a7,a8,a9,b1,b2,b3,b4,b5,b6,b7,b8,b9,g1,g2,n1,m1]
  ·have e : nextD Tb S s = (k : Int) := by
    unfold nextD
    have : S.findIdx? (pickD Tb s) = some k := by
     refine List.findIdx?_eq_some_iff_getElem.2 ⟨hkl,?_,fun j hj => ?_⟩
     ·rw [List.getD_eq_getElem?_getD,List.getElem?_eq_getElem hkl] at h2; exact h2
     ·have := hall j hj
      rw [List.getD_eq_getElem?_getD,List.getElem?_eq_getElem (by omega)] at this
      simpa using this
    rw [this]
   rw [e]
   refine RetOK.go [] [] (.inl rfl) ?_
   simp [a84,cvT,step,res,a1,a2,a3,a4,a5,a6,a7,a8,a9,b1,b2,b3,b4,b5,b6,b7,b8,b9,g1,g2,n1,m1,boxI,boxNI,litI,-List.getD_eq_getElem?_getD]
  ·refine ⟨by unfold inI64; omega,k + 1,⟨⟨by omega,fun j hj => ?_⟩,by omega⟩,Cov.go [] [] ?_⟩
   ·rcases (by omega : j < k ∨ j = k) with hj | hj
    ·exact hall j hj
    ·rw [hj]; exact h2
   ·simp [cvT,step,res,a1,a2,a3,a4,a5,a6,a7,a8,a9,b1,b2,b3,b4,b5,b6,b7,b8,b9,g1,g2,n1,m1,litDn,boxI,boxNI,litI,-List.getD_eq_getElem?_getD]
 ·have hkn : k = S.length := by omega
  have e : nextD Tb S s = -1 := by
   unfold nextD
   have : S.findIdx? (pickD Tb s) = none := by
    refine List.findIdx?_eq_none_iff.2 fun d hd => ?_
    obtain ⟨j,hj,rfl⟩ := List.mem_iff_getElem.1 hd
    have := hall j (by omega)
    rw [List.getD_eq_getElem?_getD,List.getElem?_eq_getElem hj] at this
    exact this
   rw [this]
  rw [e]
  refine RetOK.go [] [] (.inl rfl) ?_
  simp [a84,cvT,step,res,a1,a2,a3,a4,a5,a6,a7,a8,a9,b1,b2,b3,b4,b5,b6,b7,b8,b9,g1,g2,n1,m1,boxI,boxNI,litI,-List.getD_eq_getElem?_getD]
theorem pickD_few {S : List Nat} {Tb : List Int} {M s : Nat} (hT : ∀ i,i < M → Tb.getD i 0 = encF S i) (hs : s < M) (hM : M < 2 ^ 64) (h0 : s ≠ 0) (hf : fewN S s ≠ 0) : pickD Tb s = pickN (fewN S) s := by
 funext d
 have hle : andN s d ≤ s := andN_le (by omega)
 have e1 := hT s hs
 have e2 := hT (andN s d) (by omega)
 have e3 : encF S s = fewN S s := encF_val (.inr hf)
 have e4 := encF_ok (l := S) (s := andN s d)
 have e5 := fun h => encF_val (l := S) (s := andN s d) h
 have e6 := encF_bd S (andN s d)
 unfold pickD pickN
 rw [e1,e2,e3]
 cases hsub : subN d s with
 | false => rfl
 | true =>
  rw [Bool.true_and,Bool.true_and,Bool.eq_iff_iff,beq_iff_eq,Bool.and_eq_true,Bool.or_eq_true,decide_eq_true_eq,decide_eq_true_eq,decide_eq_true_eq]
  constructor
  ·intro h
   have h1 := e4.1 (by omega)
   have h2 := e5 h1
   refine ⟨h1.imp id (by omega),by omega⟩
  ·rintro ⟨h1,h2⟩
   have h3 := e5 (h1.imp id (by omega))
   omega
def dnQ (W : Waf) (card : List Pt) : List Pt := sortV ((ptsV W card).filter (mayT W card))
theorem dnQ_td (W : Waf) (card : List Pt) : compTo (dnQ W card) (dnQ W card).length = tdV W card := comp_filter _ _
def arrDq (W : Waf) (card : List Pt) : Option ABlk := arrDd (fun a => ((setT W card a : Nat) : Int)) (doneC (dnQ W card)) (tdV W card).length
set_option maxHeartbeats 8000000 in
theorem fewestDowns_all (nl nlc : Bool) (W : Waf) (card : List Pt) (nid : Nat) (hW : WafOk W) (hl : card.length ≤ 1000) (hk : (opV W).length ≤ 14) (hcz : card ≠ [])
  (hdw : ∀ nlo k,ACall Tryz.prog 82 [wafP nl W,litPl nlc card,litPl nlo (opV W)] [] k (.sl k 0 (tdV W card).length) [(k,arrDq W card)]) :
  ACall Tryz.prog 24 [wafP nl W,litPl nlc card] [] nid (.tup [.sl nid 0 (fewOut W card).length,.bool (fewGo W card).isSome]) [(nid,arrPl (fewOut W card))] := by
 have hun := fun k => untR_c nl W k hW
 have hslt : ∀ a,setT W card a < 16384 := fun a => by
  have h1 : setT W card a = orT (opV W) (touchL card a) (touchL card a).length := (orT_all (opV_nodup W) _).symm
  have h2 := orT_lt (opV W) (q := touchL card a) (Nat.le_refl _)
  have h3 : (2 : Nat) ^ (opV W).length ≤ 2 ^ 14 := Nat.pow_le_pow_right (by omega) hk
  rw [h1]
  omega
 have hsl : ∀ d ∈ (tdV W card).map (setT W card),d < 16384 := fun d hd => by
  obtain ⟨a,ha,rfl⟩ := List.mem_map.1 hd
  exact hslt a
 have hsz : ∀ d ∈ (tdV W card).map (setT W card),d ≠ 0 := fun d hd => by
  obtain ⟨a,ha,rfl⟩ := List.mem_map.1 hd
  obtain ⟨⟨p,hp,s,hs,e⟩,_⟩ := ((tdOk (W := W) (card := card) (l := tdP W card) (sortV_perm _)) a).1 ha
  obtain ⟨i,hi,rfl⟩ := idx_of hp
  have ht : (setT W card a).testBit i = true := (maskT_test _ _ _).2 ⟨hi,by
   unfold touchL
   refine List.mem_map.2 ⟨s,hs,?_⟩
   rw [e]
   refine Prod.ext ?_ ?_ <;> simp only <;> omega⟩
  intro h0
  rw [h0,Nat.zero_testBit] at ht
  cases ht
 have htl : (tdV W card).length ≤ 1000000 := by
  have h1 : (tdV W card).length ≤ (tdC W card).length := List.length_filter_le _ _
  have h2 : (tdC W card).length ≤ (tdP W card).length := compTo_len _ _
  have h3 : (tdP W card).length = (ptsV W card).length := sortV_len _
  have h4 := ptsV_len W card
  have : (opV W).length * card.length ≤ 14 * 1000 := Nat.mul_le_mul hk hl
  omega
 have hne := fun nlt k => needed_c nlt (tdV W card) ((tdV W card).map (setT W card)) (opV W).length k (List.length_map ..) htl hsl hsz hk
 have hM : 2 ^ (opV W).length ≤ 2 ^ 14 := Nat.pow_le_pow_right (by omega) hk
 have hM1 : 1 ≤ 2 ^ (opV W).length := Nat.pow_pos (by omega)
 have hNl := midD_len (l := (tdV W card).map (setT W card)) (Nat.le_refl (2 ^ (opV W).length))
 have hNg : ∀ i,i < 2 ^ (opV W).length → (midD ((tdV W card).map (setT W card)) (2 ^ (opV W).length) (2 ^ (opV W).length)).getD i 0 = encF ((tdV W card).map (setT W card)) i := fun i hi => by
  unfold midD
  rw [List.getD_eq_getElem?_getD,List.getElem?_append_left (by simpa using hi),List.getElem?_map,List.getElem?_range hi]
  rfl
 have hgo : fewGo W card = goN ((tdV W card).map (setT W card)) (2 ^ (opV W).length - 1 + 1) (2 ^ (opV W).length - 1) := by unfold fewGo; rw [Nat.sub_add_cancel hM1]
 have hSl : ((tdV W card).map (setT W card)).length = (tdV W card).length := List.length_map ..
 have hq1 : ∀ j,j < (tdV W card).length → (doneC (dnQ W card)).getD j p0 = (tdV W card).getD j p0 := fun j hj => by
  rw [← dnQ_td] at hj ⊢
  exact doneC_get hj
 have hq2 : ∀ j,j < (tdV W card).length → (if j < (tdV W card).length then ((setT W card ((doneC (dnQ W card)).getD j p0) : Nat) : Int) else 0) = ((((tdV W card).map (setT W card)).getD j 0 : Nat) : Int) := fun j hj => by
  rw [if_pos hj,hq1 j hj,getD_map_set hj]
 unfold fewOut
 rw [hgo]
 clear hgo
 unfold arrDq arrDd at hdw
 generalize doneC (dnQ W card) = D at *
 generalize (tdV W card).map (setT W card) = S at *
 generalize tdV W card = L at *
 generalize opV W = op at *
 generalize 2 ^ op.length = M at *
 generalize midD S M M = N at *
 have hNb : ∀ i,-1 ≤ N.getD i 0 ∧ N.getD i 0 ≤ 1000000 := fun i => by
  by_cases hi : i < M
  ·rw [hNg i hi]
   have := encF_bd S i
   omega
  ·rw [List.getD_eq_getElem?_getD,List.getElem?_eq_none (by omega)]
   simp
 have hix := fun (nlt nlb : Bool) (i1 i2 : Nat) (s k : Nat) (k1 : i1 < k) (k2 : i2 < k) (k3 : i1 ≠ i2) (k4 : s < M) => indexD_c i1 i2 nlt nlb N L S s k k1 k2 k3 (by omega) (by omega) hSl htl hsl hNb
 refine acall_sr c24 (by simp [a24]) ?_
 unfold a24
 unfold wafP litPl at *
 refine SR.seq ?_
 simp -dsimp only [aqA,↓seqK,↓blkK,↓loopK,step,stepBin,eqB,Nat.add_assoc nid,↓reduceIte,simprocAttr,LN_succ]
 refine SR.seqTo ⟨[(6,.sl (nid + 4) 0 op.length),(1,litPl nlc card),(2,.ptr nid 0)],[(nid,boxW nl W),(nid + 4,arrPl op)],nid + 200,nid⟩ ?_ ?_
 ·unfold arrPl at hun
  simp -dsimp only [aqA,↓seqK,↓blkK,↓loopK,step,stepBin,eqB,Nat.add_assoc nid,↓reduceIte,simprocAttr,LN_succ]
  refine CallO.pure (hun _) ?_
  simp -dsimp only [aqA,↓seqK,↓blkK,↓loopK,step,stepBin,eqB,Nat.add_assoc nid,↓reduceIte,simprocAttr,LN_succ]
  refine Cov.go [(nid + 4,nid + 16)] [] ?_
  simp [cvT,step,res,boxW,arrPl,litPl,-List.getD_eq_getElem?_getD]
 refine SR.freezeB [nid + 4] (fun nl' => ?_)
 simp only [frzS,frzH,frzBlk,lends,lend,kill,noOs,aqA,↓seqK,↓blkK,↓loopK,step,stepBin,eqB,Nat.add_assoc nid,↓reduceIte,simprocAttr,LN_succ,boxW,arrPl,litPl]
 generalize nl' (nid + 4) = nlo
 refine SR.seqTo ⟨[(7,.sl (nid + 8) 0 L.length),(6,litPl nlo op)],[(nid + 8,arrDd (fun a => ((setT W card a : Nat) : Int)) D L.length)],nid + 500,nid⟩ ?_ ?_
 ·simp -dsimp only [aqA,↓seqK,↓blkK,↓loopK,step,stepBin,eqB,Nat.add_assoc nid,↓reduceIte,simprocAttr,LN_succ]
  refine CallO.pure (hdw _ _) ?_
  simp -dsimp only [aqA,↓seqK,↓blkK,↓loopK,step,stepBin,eqB,Nat.add_assoc nid,↓reduceIte,simprocAttr,LN_succ]
  refine Cov.go [(nid + 8,nid + 212)] [] ?_
  simp [cvT,step,res,arrDd,litPl,-List.getD_eq_getElem?_getD]
 refine SR.freezeB [nid + 8] (fun nl2 => ?_)
 simp only [frzS,frzH,frzBlk,lends,lend,kill,noOs,aqA,↓seqK,↓blkK,↓loopK,step,stepBin,eqB,Nat.add_assoc nid,↓reduceIte,simprocAttr,LN_succ,arrDd,litPl]
 generalize nl2 (nid + 8) = nlt
 refine SR.cov (t' := .mk) (st' := ⟨[(7,litDn nlt L S),(6,litPl nlo op)],[],nid + 600,nid⟩) (Cov.go [] [] ?_) ?_
 ·simp [cvT,step,res,litDn,litPl,-List.getD_eq_getElem?_getD]
  exact ⟨ColEq.i fun j hj => by rw [hq1 j hj],ColEq.i fun j hj => by rw [hq1 j hj],ColEq.i hq2⟩
 have hne' := fun k => hne nlt k
 unfold litDn arrI at hne'
 rw [hNl] at hne'
 unfold litPl litDn
 refine SR.seqTo ⟨[(8,.ptr (nid + 16) 0),(7,litDn nlt L S)],[(nid + 12,arrI N),(nid + 16,some (.box 22 [.sl (nid + 12) 0 M]))],nid + 700,nid⟩ ?_ ?_
 ·simp -dsimp only [aqA,↓seqK,↓blkK,↓loopK,step,stepBin,eqB,Nat.add_assoc nid,↓reduceIte,simprocAttr,LN_succ]
  refine CallO.pure (hne' _) ?_
  simp -dsimp only [aqA,↓seqK,↓blkK,↓loopK,step,stepBin,eqB,Nat.add_assoc nid,↓reduceIte,simprocAttr,LN_succ]
  refine Cov.go [(nid + 12,nid + 612),(nid + 16,nid + 616)] [] ?_
  simp [cvT,step,res,arrI,litDn,hNl,-List.getD_eq_getElem?_getD]
 refine SR.freezeB [nid + 12] (fun nl3 => ?_)
 unfold arrI
 rw [hNl]
 simp only [frzS,frzH,frzBlk,lends,lend,kill,noOs,aqA,↓seqK,↓blkK,↓loopK,step,stepBin,eqB,Nat.add_assoc nid,↓reduceIte,simprocAttr,LN_succ,litDn,litPl]
 generalize nl3 (nid + 12) = nlb
 refine SR.cov (t' := .mk) (st' := ⟨[(8,.ptr (nid + 16) 0),(7,litDn nlt L S)],[(nid + 16,boxNI nlb N)],nid + 800,nid⟩) (Cov.go [] [] ?_) ?_
 ·simp [cvT,step,res,litDn,litPl,boxNI,litI,hNl,-List.getD_eq_getElem?_getD]
 unfold litDn boxNI litI
 refine SR.seqTo ⟨[(9,.ptr (nid + 20) 0),(8,.ptr (nid + 16) 0),(7,litDn nlt L S)],[(nid + 16,boxNI nlb N),(nid + 20,boxI (M - 1))],nid + 900,nid⟩ ?_ ?_
 ·simp -dsimp only [aqA,↓seqK,↓blkK,↓loopK,step,stepBin,eqB,Nat.add_assoc nid,↓reduceIte,simprocAttr,LN_succ]
  have hN1 : ((N.length : Int) - 1) = ((M - 1 : Nat) : Int) := by omega
  rw [hN1]
  refine ⟨by unfold inI64; omega,Cov.go [(nid + 20,nid + 812)] [] ?_⟩
  simp [cvT,step,res,boxI,boxNI,litI,litDn,hNl,-List.getD_eq_getElem?_getD]
 generalize hfuel : M - 1 = s0 at *
 have hNs := hNg s0 (by omega)
 by_cases hneg : encF S s0 < 0
 ·have hno : goN S (s0 + 1) s0 = none := by
   have h1 : ¬ (s0 = 0 ∨ fewN S s0 ≠ 0) := fun h => by have := encF_ok.2 h; omega
   exact goN_none s0 (by omega) (by omega)
  have hn2 : N.getD s0 0 < 0 := by rw [hNs]; exact hneg
  rw [hno]
  refine SR.run (t := .mk) ?_
  unfold boxI boxNI litI
  simp -dsimp only [aqA,↓seqK,↓blkK,↓loopK,step,stepBin,eqB,Nat.add_assoc nid,↓reduceIte,simprocAttr,LN_succ,hn2]
  refine ⟨by omega,RetOK.go [] [(nid,2)] (.inl rfl) ?_⟩
  simp [a24,cvT,step,res,outP,-List.getD_eq_getElem?_getD]
 have hok0 : s0 = 0 ∨ fewN S s0 ≠ 0 := encF_ok.1 (by omega)
 have hn2 : ¬ N.getD s0 0 < 0 := by rw [hNs]; exact hneg
 refine SR.seqTo ⟨[(9,.ptr (nid + 20) 0),(8,.ptr (nid + 16) 0),(7,litDn nlt L S)],[(nid + 16,boxNI nlb N),(nid + 20,boxI s0)],nid + 1000,nid⟩ ?_ ?_
 ·unfold boxI boxNI litI litDn
  simp -dsimp only [aqA,↓seqK,↓blkK,↓loopK,step,stepBin,eqB,Nat.add_assoc nid,↓reduceIte,simprocAttr,LN_succ,hn2]
  refine ⟨by omega,Cov.go [] [] ?_⟩
  simp [cvT,step,res,boxI,boxNI,litI,litDn,-List.getD_eq_getElem?_getD]
 refine SR.seq ?_
 unfold litDn boxNI litI boxI
 simp -dsimp only [aqA,↓seqK,↓blkK,↓loopK,step,stepBin,eqB,Nat.add_assoc nid,↓reduceIte,simprocAttr,LN_succ]
 refine SR.seqW (ι := {is : List Nat // goN S (s0 + 1) s0 = some is}) (fun x => ⟨[(10,.sl (nid + 24) 0 (outP L x.1).length)],[(nid + 24,arrPl (outP L x.1))],nid + 90000,nid⟩) ?_ (fun x => ?_)
 ·refine SR.block ?_
  refine SR.loopP (fun x : Nat × List Nat => GoAt S s0 x.1 x.2 ∧ (x.1 = 0 ∨ fewN S x.1 ≠ 0)) (fun x : Nat × List Nat => ⟨[(10,.sl (nid + 24) 0 (outP L x.2).length),(9,.ptr (nid + 20) 0),(8,.ptr (nid + 16) 0),(7,litDn nlt L S)],[(nid + 16,boxNI nlb N),(nid + 20,boxI x.1),(nid + 24,arrPl (outP L x.2))],nid + 1200,nid⟩) (fun x => x.1) (s0,[]) ⟨GoAt.start S s0,hok0⟩ (Cov.go [] [(nid + 24,2)] ?_) (fun x hx => ?_)
  ·simp [cvT,step,res,litDn,boxNI,boxI,litI,arrPl,outP,-List.getD_eq_getElem?_getD]
  obtain ⟨s,is⟩ := x
  obtain ⟨hx,hsf⟩ := hx
  simp only at hx hsf ⊢
  have hs0 : s ≤ s0 := by have := hx.1; omega
  have hisl : is.length ≤ s0 := by have := hx.1; omega
  refine SR.seq ?_
  unfold boxI boxNI litI litDn arrPl
  by_cases hz : s = 0
  ·have hb : ¬ ((0 : Int) < ((s : Nat) : Int)) := by omega
   subst hz
   simp -dsimp only [aqA,↓seqK,↓blkK,↓loopK,step,stepBin,eqB,Nat.add_assoc nid,↓reduceIte,simprocAttr,LN_succ,hb]
   refine ⟨⟨is,hx.stop⟩,Cov.go [] [] ?_⟩
   simp [cvT,step,res,arrPl,-List.getD_eq_getElem?_getD]
  ·have hb : (0 : Int) < ((s : Nat) : Int) := by omega
   simp -dsimp only [aqA,↓seqK,↓blkK,↓loopK,step,stepBin,eqB,Nat.add_assoc nid,↓reduceIte,simprocAttr,LN_succ,hb]
   refine SR.block ?_
   have hfs := hsf.resolve_left hz
   obtain ⟨i,hn⟩ := nextTd_of (l := S) (s := s) (by omega) hfs
   have hpk : pickD N s = pickN (fewN S) s := pickD_few hNg (by omega) (by omega) hz hfs
   have hnd : nextD N S s = (i : Int) := by
    unfold nextD
    rw [hpk]
    have : S.findIdx? (pickN (fewN S) s) = some i := hn
    rw [this]
   obtain ⟨hst,hlt⟩ := hx.step (by omega) hz hn
   obtain ⟨hil,hpi⟩ := nextTd_some hn
   obtain ⟨g1,g2,g3,g4⟩ := pick_facts hpi
   have hix' := fun k (k1 : nid + 24 < k) => hix nlt nlb (nid + 20) (nid + 16) s k (by omega) (by omega) (by omega) (by omega)
   rw [hnd] at hix'
   refine SR.seqTo ⟨[(11,.int .i64 (i : Nat)),(10,.sl (nid + 24) 0 (outP L is).length),(9,.ptr (nid + 20) 0),(8,.ptr (nid + 16) 0),(7,litDn nlt L S)],[(nid + 16,boxNI nlb N),(nid + 20,boxI s),(nid + 24,arrPl (outP L is))],nid + 1400,nid⟩ ?_ ?_
   ·unfold litDn boxNI litI boxI at hix'
    simp -dsimp only [aqA,↓seqK,↓blkK,↓loopK,step,stepBin,eqB,Nat.add_assoc nid,↓reduceIte,simprocAttr,LN_succ]
    refine CallO.on (hix' _ (by omega)) (subH_cons (by simp only [aqA,↓seqK,↓blkK,↓loopK,step,stepBin,eqB,Nat.add_assoc nid,↓reduceIte,simprocAttr,LN_succ]) (subH_get (by simp only [aqA,↓seqK,↓blkK,↓loopK,step,stepBin,eqB,Nat.add_assoc nid,↓reduceIte,simprocAttr,LN_succ]))) ?_
    simp -dsimp only [aqA,↓seqK,↓blkK,↓loopK,step,stepBin,eqB,Nat.add_assoc nid,↓reduceIte,simprocAttr,LN_succ]
    refine Cov.go [] [] ?_
    simp [cvT,step,res,litDn,boxNI,boxI,litI,arrPl,-List.getD_eq_getElem?_getD]
   refine SR.seqTo ⟨[(11,.int .i64 (i : Nat)),(10,.sl (nid + 24) 0 (outP L (is ++ [i])).length),(9,.ptr (nid + 20) 0),(8,.ptr (nid + 16) 0),(7,litDn nlt L S)],[(nid + 16,boxNI nlb N),(nid + 20,boxI s),(nid + 24,arrPl (outP L (is ++ [i])))],nid + 1600,nid⟩ ?_ ?_
   ·have hos : outP L (is ++ [i]) = outP L is ++ [L.getD i p0] := by simp [outP]
    have hol : (outP L (is ++ [i])).length = (outP L is).length + 1 := by rw [hos]; simp
    have hopl : (outP L is).length = is.length := by simp [outP]
    unfold litDn boxNI litI boxI arrPl
    simp -dsimp only [aqA,↓seqK,↓blkK,↓loopK,step,stepBin,eqB,Nat.add_assoc nid,↓reduceIte,simprocAttr,LN_succ]
    rw [getD_appP (outP L is) (L.getD i p0) rfl (fun q => q.1) rfl rfl,getD_appP (outP L is) (L.getD i p0) rfl (fun q => q.2) rfl rfl,← hos]
    refine ⟨by omega,⟨by omega,by omega⟩,Cov.go [(nid + 24,nid + 1428)] [] ?_⟩
    simp [cvT,step,res,hol,litDn,boxNI,boxI,litI,arrPl,-List.getD_eq_getElem?_getD]
   have hsd : ((s : Int) - ((S.getD i 0 : Nat) : Int)) = ((andN s (S.getD i 0) : Nat) : Int) := by
    have h1 := sub_andN (s := s) (by omega) g1
    have h2 : S.getD i 0 ≤ s := by rw [← and_sub.2 g1]; exact Nat.and_le_left
    rw [← h1]
    omega
   unfold boxI boxNI litI litDn arrPl
   refine SR.run (t := .mk) ?_
   simp -dsimp only [aqA,↓seqK,↓blkK,↓loopK,step,stepBin,eqB,Nat.add_assoc nid,↓reduceIte,simprocAttr,LN_succ,hsd]
   refine ⟨by omega,by unfold inI64; omega,(andN s (S.getD i 0),is ++ [i]),⟨⟨hst,g2⟩,hlt⟩,Cov.go [] [] ?_⟩
   simp [cvT,step,res,litDn,boxNI,boxI,litI,arrPl,-List.getD_eq_getElem?_getD,-List.length_append]
 ·obtain ⟨is,his⟩ := x
  dsimp only
  rw [his]
  refine SR.run (t := .mk) ?_
  unfold arrPl
  simp -dsimp only [aqA,↓seqK,↓blkK,↓loopK,step,stepBin,eqB,Nat.add_assoc nid,↓reduceIte,simprocAttr,LN_succ]
  refine RetOK.go [(nid,nid + 24)] [] (.inl rfl) ?_
  simp [a24,cvT,step,res,-List.getD_eq_getElem?_getD]
end Go.Proofs.YtmgfcjblclanmaaGreatDoor
namespace Go.Proofs.YtmgfcjblclanmaaGreatDoor
open Go.RowKit Go.Lib
theorem indexPt_h (f : Nat) (caps : List PV) (Hs : Heap) (F : Nat → Bool) (nl : Bool) (n : Nat) (G : Nat → Int) (G2 : Nat → Int) (nid : Nat) (hs : Scoped nid Hs) (hcap : lowAll nid (idsOfs caps) = true) (hl : n ≤ 1000000)
  (hf : ∀ k,k < n → ∀ nid',nid ≤ nid' → ACall Tryz.prog f (.agg [.int .i64 (G k),.int .i64 (G2 k)] :: caps) Hs nid' (.bool (F k)) []) :
  ACall Tryz.prog 123 [.lit nl n [.i .i64 G,.i .i64 G2],.fn f caps] Hs nid (.int .i64 (idxR F n)) [] := by
 have hcv := capsC hcap
 refine acall_run c123 (by simp [a123]) ?_
 simp -dsimp only [a123,aqA,↓seqK,↓blkK,↓loopK,step,stepBin,eqB,Nat.add_assoc nid,↓reduceIte,simprocAttr,LN_succ]
 refine LP.mkP (fun k : Nat => k ≤ n ∧ ∀ j,j < k → F j = false) (fun k : Nat => ⟨[(8,.int .i64 k),(7,.int .i64 n),(0,.lit nl n [.i .i64 G,.i .i64 G2]),(1,.fn f caps)],Hs,nid + 100,nid⟩) (fun k => n + 1 - k) 0 ⟨by omega,fun j hj => by omega⟩ (Cov.goF Hs [] [] [] [] hs (by simp [kOK]) rfl ?_) (fun k hk => ?_)
 ·simp [cvT,step,res,hcv]
 obtain ⟨hk,hb⟩ := hk
 simp -dsimp only [aqA,↓seqK,↓blkK,↓loopK,step,stepBin,eqB,Nat.add_assoc nid,↓reduceIte,simprocAttr,LN_succ]
 refine S2.dec (fun h3 => ?_) (fun h3 => ?_) <;> simp -dsimp only [aqA,↓seqK,↓blkK,↓loopK,step,stepBin,eqB,Nat.add_assoc nid,↓reduceIte,simprocAttr,LN_succ]
 ·have hkl : k < n := by omega
  refine ⟨by omega,CallO.on (hf k hkl _ (by omega)) (subH_frame (X := []) hs (by simp [kOK])) ?_⟩
  simp -dsimp only [aqA,↓seqK,↓blkK,↓loopK,step,stepBin,eqB,Nat.add_assoc nid,↓reduceIte,simprocAttr,LN_succ]
  refine S2.intro (fun h4 => ?_) (fun h4 => ?_) <;> simp -dsimp only [aqA,↓seqK,↓blkK,↓loopK,step,stepBin,eqB,Nat.add_assoc nid,↓reduceIte,simprocAttr,LN_succ]
  ·rw [idxR_at hkl h4 hb]
   refine RetOK.goF Hs [] [] [] [] [] (.inl rfl) hs (by simp [kOK]) rfl ?_
   simp [a123,cvT,step,res]
  ·refine ⟨by unfold inI64; omega,k + 1,⟨⟨by omega,fun j hj => ?_⟩,by omega⟩,Cov.goF Hs [] [] [] [] hs (by simp [kOK]) rfl ?_⟩
   ·rcases (by omega : j < k ∨ j = k) with hj | hj
    ·exact hb j hj
    ·rw [hj]; exact h4
   ·simp [cvT,step,res,hcv]
 ·have hkn : k = n := by omega
  subst hkn
  rw [idxR_no hb]
  refine RetOK.goF Hs [] [] [] [] [] (.inl rfl) hs (by simp [kOK]) rfl ?_
  simp [a123,cvT,step,res]
theorem containsPt_h (f : Nat) (caps : List PV) (Hs : Heap) (F : Nat → Bool) (nl : Bool) (n : Nat) (G : Nat → Int) (G2 : Nat → Int) (nid : Nat) (hs : Scoped nid Hs) (hcap : lowAll nid (idsOfs caps) = true) (hl : n ≤ 1000000)
  (hf : ∀ k,k < n → ∀ nid',nid ≤ nid' → ACall Tryz.prog f (.agg [.int .i64 (G k),.int .i64 (G2 k)] :: caps) Hs nid' (.bool (F k)) []) :
  ACall Tryz.prog 136 [.lit nl n [.i .i64 G,.i .i64 G2],.fn f caps] Hs nid (.bool ((List.range n).any F)) [] := by
 have hcv := capsC hcap
 refine acall_run c136 (by simp [a136]) ?_
 simp -dsimp only [a136,aqA,↓seqK,↓blkK,↓loopK,step,stepBin,eqB,Nat.add_assoc nid,↓reduceIte,simprocAttr,LN_succ]
 refine CallO.on (indexPt_h f caps Hs F nl n G G2 _ (hs.mono (by omega)) (lowAll_mono hcap (by omega)) hl (fun k hk nid' h' => hf k hk nid' (by omega))) (fun _ _ h => h) ?_
 simp -dsimp only [aqA,↓seqK,↓blkK,↓loopK,step,stepBin,eqB,Nat.add_assoc nid,↓reduceIte,simprocAttr,LN_succ]
 have e := idxR_any F n
 generalize idxR F n = i at *
 rw [← e]
 refine RetOK.goF Hs [] [] [] [] [] (.inl rfl) hs (by simp [kOK]) rfl ?_
 simp [a136,cvT,step,res]
end Go.Proofs.YtmgfcjblclanmaaGreatDoor
namespace Go.Proofs.YtmgfcjblclanmaaGreatDoor
open Go.RowKit
theorem any_ptsD (l : List Pt) (F : Pt → Bool) : ((List.range l.length).any fun k => F (l.getD k p0)) = l.any F := by
 rw [Bool.eq_iff_iff,List.any_eq_true,List.any_eq_true]
 constructor
 ·rintro ⟨k,hk,h⟩
  exact ⟨_,ptMem (List.mem_range.1 hk),h⟩
 ·rintro ⟨p,hp,h⟩
  obtain ⟨k,hk,rfl⟩ := idx_of hp
  exact ⟨k,List.mem_range.2 hk,h⟩
theorem downs1_c (ia : Nat) (nl : Bool) (W : Waf) (p : Pt) (nid : Nat) (hia : ia < nid) (hW : WafOk W) (hp : inI64 p.1 ∧ inI64 p.2) : ACall Tryz.prog 137 [.agg [.int .i64 p.1,.int .i64 p.2],.ptr ia 0] [(ia,boxW nl W)] nid (.bool (allP W p)) [] := by
 obtain ⟨a1,a2,a3,a4,a5,a6,a7,a8,a9⟩ := id_all hia
 have hf := fun m => testedR_all nl W p m hW hp
 refine acall_run c137 (by simp [a137]) ?_
 unfold boxW
 unfold wafP at hf
 simp -dsimp only [a137,aqA,↓seqK,↓blkK,↓loopK,step,stepBin,eqB,Nat.add_assoc nid,↓reduceIte,simprocAttr,LN_succ,a1,a2,a3,a4,a5,a6,a7,a8,a9]
 refine CallO.pure (hf _) ?_
 simp -dsimp only [aqA,↓seqK,↓blkK,↓loopK,step,stepBin,eqB,Nat.add_assoc nid,↓reduceIte,simprocAttr,LN_succ,a1,a2,a3,a4,a5,a6,a7,a8,a9]
 refine RetOK.go [] [] (.inl rfl) ?_
 simp [a137,cvT,step,res,a1,a2,a3,a4,a5,a6,a7,a8,a9]
theorem mayT_any (W : Waf) (card : List Pt) (a : Pt) : mayT W card a = !((touchL card a).any (allP W)) := by
 unfold mayT
 rw [List.not_any_eq_all_not]
 rfl
set_option maxHeartbeats 16000000 in
theorem downs_c (nl nlc nlo : Bool) (W : Waf) (card : List Pt) (nid : Nat) (hW : WafOk W) (hl : card.length ≤ 1000) (hc : ∀ p ∈ card,p.1 ≤ 100 ∧ -100 ≤ p.1 ∧ p.2 ≤ 100 ∧ -100 ≤ p.2) (hk : (opV W).length ≤ 14)
  (hsort : ∀ (g : Pt → Int) (id : Nat) (l : List Pt) (k : Nat),id < k → l.length ≤ 1000000 → ACall Tryz.prog 138 [.sl id 0 l.length,.fn 139 []] [(id,arrDg g l)] k (.tup []) [(id,arrDg g (sortV l))]) :
  ACall Tryz.prog 82 [wafP nl W,litPl nlc card,litPl nlo (opV W)] [] nid (.sl nid 0 (tdV W card).length) [(nid,arrDq W card)] := by
 have hto := fun (a : Pt) k ha => sites_all nlc card a k hl (fun p hp => by obtain ⟨b1,b2,b3,b4⟩ := hc p hp; unfold PtBd; omega) ha
 have hsm := fun (p : Pt) (hp : p ∈ opV W) => op_small hW hp
 have hpa := ptTo_all W card
 have hse : ∀ a,setT W card a = maskB (fun i => (touchL card a).contains ((opV W).getD i p0)) (opV W).length := fun a => rfl
 have hlt : ∀ a,setT W card a < 16384 := fun a => by
  have h1 : setT W card a = orT (opV W) (touchL card a) (touchL card a).length := (orT_all (opV_nodup W) _).symm
  have h2 := orT_lt (opV W) (q := touchL card a) (Nat.le_refl _)
  have h3 : (2 : Nat) ^ (opV W).length ≤ 2 ^ 14 := Nat.pow_le_pow_right (by omega) hk
  rw [h1]
  omega
 have hpn : (ptsV W card).length ≤ 20000 := by
  have h1 := ptsV_len W card
  have : (opV W).length * card.length ≤ 14 * 1000 := Nat.mul_le_mul hk hl
  omega
 unfold arrDq
 have hq : dnQ W card = sortV ((ptsV W card).filter (mayT W card)) := rfl
 have hqt := dnQ_td W card
 generalize hg : (fun a => ((setT W card a : Nat) : Int)) = g at *
 have hgg : ∀ a,g a = ((setT W card a : Nat) : Int) := fun a => by rw [← hg]
 generalize hop : opV W = op at *
 refine acall_sr c82 (by simp [a82]) ?_
 unfold a82
 unfold wafP litPl at *
 refine SR.seq ?_
 simp -dsimp only [aqA,↓seqK,↓blkK,↓loopK,step,stepBin,eqB,Nat.add_assoc nid,↓reduceIte,simprocAttr,LN_succ]
 refine SR.seq ?_
 simp -dsimp only [aqA,↓seqK,↓blkK,↓loopK,step,stepBin,eqB,Nat.add_assoc nid,↓reduceIte,simprocAttr,LN_succ]
 refine SR.seqW (ι := Unit) (fun _ => ⟨[(7,.sl (nid + 4) 0 ((ptsV W card).filter (mayT W card)).length)],[(nid + 4,arrDg g ((ptsV W card).filter (mayT W card)))],nid + 50000,nid⟩) ?_ (fun _ => ?_)
 ·refine SR.seq ?_
  simp -dsimp only [aqA,↓seqK,↓blkK,↓loopK,step,stepBin,eqB,Nat.add_assoc nid,↓reduceIte,simprocAttr,LN_succ]
  refine SR.block ?_
  refine SR.loopP (fun k : Nat => k ≤ op.length) (fun k : Nat => ⟨[(18,.int .i64 k),(17,.int .i64 op.length),(16,litPl nlo op),(7,.sl (nid + 4) 0 ((ptTo card op k).filter (mayT W card)).length),(2,litPl nlo op),(1,litPl nlc card),(3,.ptr nid 0)],[(nid,boxW nl W),(nid + 4,arrDg g ((ptTo card op k).filter (mayT W card)))],nid + 100,nid⟩) (fun k => op.length + 1 - k) 0 (Nat.zero_le _) (Cov.go [] [(nid + 4,3)] ?_) (fun k hk' => ?_)
  ·simp [cvT,step,res,boxW,arrDg,litPl,ptTo,-List.getD_eq_getElem?_getD]
  refine SR.seq ?_
  unfold boxW litPl arrDg
  simp -dsimp only [aqA,↓seqK,↓blkK,↓loopK,step,stepBin,eqB,Nat.add_assoc nid,↓reduceIte,simprocAttr,LN_succ]
  refine SR.seq ?_
  simp -dsimp only [aqA,↓seqK,↓blkK,↓loopK,step,stepBin,eqB,Nat.add_assoc nid,↓reduceIte,simprocAttr,LN_succ]
  refine S2.dec (fun h3 => ?_) (fun h3 => ?_) <;> simp -dsimp only [aqA,↓seqK,↓blkK,↓loopK,step,stepBin,eqB,Nat.add_assoc nid,↓reduceIte,simprocAttr,LN_succ]
  ·have hkl : k < op.length := by omega
   have hps := hsm _ (ptMem hkl)
   have hpt := ptTo_succ card op hkl
   have hpl1 := ptTo_len card op k
   refine SR.seqW (ι := Unit) (fun _ => ⟨[(18,.int .i64 k),(17,.int .i64 op.length),(16,litPl nlo op),(7,.sl (nid + 4) 0 ((ptTo card op (k + 1)).filter (mayT W card)).length),(2,litPl nlo op),(1,litPl nlc card),(3,.ptr nid 0)],[(nid,boxW nl W),(nid + 4,arrDg g ((ptTo card op (k + 1)).filter (mayT W card)))],nid + 20000,nid⟩) ?_ (fun _ => ?_)
   ·refine SR.block ?_
    refine SR.seq ?_
    simp -dsimp only [aqA,↓seqK,↓blkK,↓loopK,step,stepBin,eqB,Nat.add_assoc nid,↓reduceIte,simprocAttr,LN_succ]
    refine ⟨by omega,?_⟩
    rw [hpt]
    generalize hpd : op.getD k p0 = p at *
    refine SR.seq ?_
    simp -dsimp only [aqA,↓seqK,↓blkK,↓loopK,step,stepBin,eqB,Nat.add_assoc nid,↓reduceIte,simprocAttr,LN_succ]
    refine SR.block ?_
    refine SR.loopP (fun j : Nat => j ≤ card.length) (fun j : Nat => ⟨[(25,.int .i64 j),(24,.int .i64 card.length),(23,litPl nlc card),(8,.int .i64 k),(9,.ptr (nid + 8) 0),(18,.int .i64 k),(17,.int .i64 op.length),(16,litPl nlo op),(7,.sl (nid + 4) 0 ((ptTo card op k ++ pfT (card.take j) p).filter (mayT W card)).length),(2,litPl nlo op),(1,litPl nlc card),(3,.ptr nid 0)],[(nid,boxW nl W),(nid + 4,arrDg g ((ptTo card op k ++ pfT (card.take j) p).filter (mayT W card))),(nid + 8,some (.box 34 [.int .i64 p.1,.int .i64 p.2]))],nid + 300,nid⟩) (fun j => card.length + 1 - j) 0 (Nat.zero_le _) (Cov.go [(nid + 8,nid + 116)] [] ?_) (fun j hj => ?_)
    ·simp [cvT,step,res,boxW,arrDg,litPl,pfT,-List.getD_eq_getElem?_getD]
    refine SR.seq ?_
    unfold boxW litPl arrDg
    simp -dsimp only [aqA,↓seqK,↓blkK,↓loopK,step,stepBin,eqB,Nat.add_assoc nid,↓reduceIte,simprocAttr,LN_succ]
    refine SR.seq ?_
    simp -dsimp only [aqA,↓seqK,↓blkK,↓loopK,step,stepBin,eqB,Nat.add_assoc nid,↓reduceIte,simprocAttr,LN_succ]
    refine S2.dec (fun h4 => ?_) (fun h4 => ?_) <;> simp -dsimp only [aqA,↓seqK,↓blkK,↓loopK,step,stepBin,eqB,Nat.add_assoc nid,↓reduceIte,simprocAttr,LN_succ]
    ·have hjl : j < card.length := by omega
     have hcb := hc _ (ptMem hjl)
     have hpj := pfT_snoc card p hjl
     refine SR.seqW (ι := Unit) (fun _ => ⟨[(25,.int .i64 j),(24,.int .i64 card.length),(23,litPl nlc card),(8,.int .i64 k),(9,.ptr (nid + 8) 0),(18,.int .i64 k),(17,.int .i64 op.length),(16,litPl nlo op),(7,.sl (nid + 4) 0 ((ptTo card op k ++ pfT (card.take (j + 1)) p).filter (mayT W card)).length),(2,litPl nlo op),(1,litPl nlc card),(3,.ptr nid 0)],[(nid,boxW nl W),(nid + 4,arrDg g ((ptTo card op k ++ pfT (card.take (j + 1)) p).filter (mayT W card))),(nid + 8,some (.box 34 [.int .i64 p.1,.int .i64 p.2]))],nid + 9000,nid⟩) ?_ (fun _ => ?_)
     ·refine SR.block ?_
      refine SR.seq ?_
      simp -dsimp only [aqA,↓seqK,↓blkK,↓loopK,step,stepBin,eqB,Nat.add_assoc nid,↓reduceIte,simprocAttr,LN_succ]
      refine ⟨by omega,?_⟩
      have hsm : card.getD j p0 ∈ card := ptMem hjl
      generalize hsd : card.getD j p0 = s at *
      obtain ⟨a,ha⟩ : ∃ a : Pt,a = (p.1 - s.1,p.2 - s.2) := ⟨_,rfl⟩
      have ha1 : a.1 = p.1 - s.1 := by rw [ha]
      have ha2 : a.2 = p.2 - s.2 := by rw [ha]
      rw [← ha] at hpj
      have hfj : (ptTo card op k ++ pfT (card.take (j + 1)) p).filter (mayT W card) = (ptTo card op k ++ pfT (card.take j) p).filter (mayT W card) ++ (if mayT W card a = true then [a] else []) := by
       rw [hpj,← List.append_assoc,List.filter_append]
       congr 1
       cases hh : mayT W card a <;> simp [hh]
      have hpt2 : p ∈ touchL card a := by
       unfold touchL
       refine List.mem_map.2 ⟨s,hsm,?_⟩
       rw [ha]
       refine Prod.ext ?_ ?_ <;> simp only <;> omega
      have hpl2 := pfT_len (card.take j) p
      have hLl : ((ptTo card op k ++ pfT (card.take j) p).filter (mayT W card)).length ≤ 20000 := by
       refine Nat.le_trans (List.length_filter_le _ _) ?_
       have h1 : k * card.length ≤ 14 * 1000 := Nat.mul_le_mul (by omega) hl
       rw [List.length_append,hpl1,hpl2,Nat.min_eq_left (by omega),List.length_take]
       omega
      rw [hfj]
      generalize (ptTo card op k ++ pfT (card.take j) p).filter (mayT W card) = A at *
      have hta := fun m => hto a m (by unfold PtBd; omega)
      have hmay := mayT_any W card a
      have hset := hse a
      have hsl := hlt a
      have hin : ∀ q ∈ touchL card a,inI64 q.1 ∧ inI64 q.2 := fun q hq => touchL_in (card := card) (a := a) (fun r hr => by have := hc r hr; omega) (by omega) hq
      have htl := touchL_len card a
      rw [hmay]
      unfold arrPl at hta
      have hga := hgg a
      generalize touchL card a = T at *
      refine SR.seqTo ⟨[(12,.ptr (nid + 16) 0),(25,.int .i64 j),(24,.int .i64 card.length),(23,litPl nlc card),(8,.int .i64 k),(9,.ptr (nid + 8) 0),(18,.int .i64 k),(17,.int .i64 op.length),(16,litPl nlo op),(7,.sl (nid + 4) 0 (A).length),(2,litPl nlo op),(1,litPl nlc card),(3,.ptr nid 0)],[(nid,boxW nl W),(nid + 4,arrDg g (A)),(nid + 8,some (.box 34 [.int .i64 p.1,.int .i64 p.2])),(nid + 16,some (.box 123 [.int .i64 a.1,.int .i64 a.2,.int .i64 0]))],nid + 600,nid⟩ ?_ ?_
      ·simp -dsimp only [aqA,↓seqK,↓blkK,↓loopK,step,stepBin,eqB,Nat.add_assoc nid,↓reduceIte,simprocAttr,LN_succ]
       rw [← ha1,← ha2]
       refine ⟨by unfold inI64; omega,by unfold inI64; omega,Cov.go [(nid + 16,nid + 368)] [] ?_⟩
       simp [cvT,step,res,boxW,arrDg,litPl,-List.getD_eq_getElem?_getD,-List.length_append]
      refine SR.seqTo ⟨[(13,.bool (T.any (allP W))),(12,.ptr (nid + 16) 0),(25,.int .i64 j),(24,.int .i64 card.length),(23,litPl nlc card),(8,.int .i64 k),(9,.ptr (nid + 8) 0),(18,.int .i64 k),(17,.int .i64 op.length),(16,litPl nlo op),(7,.sl (nid + 4) 0 (A).length),(2,litPl nlo op),(1,litPl nlc card),(3,.ptr nid 0)],[(nid,boxW nl W),(nid + 4,arrDg g (A)),(nid + 8,some (.box 34 [.int .i64 p.1,.int .i64 p.2])),(nid + 16,some (.box 123 [.int .i64 a.1,.int .i64 a.2,.int .i64 0]))],nid + 1000,nid⟩ ?_ ?_
      ·unfold boxW litPl arrDg
       simp -dsimp only [aqA,↓seqK,↓blkK,↓loopK,step,stepBin,eqB,Nat.add_assoc nid,↓reduceIte,simprocAttr,LN_succ]
       refine CallO.pure (hta _) ?_
       simp -dsimp only [aqA,↓seqK,↓blkK,↓loopK,step,stepBin,eqB,Nat.add_assoc nid,↓reduceIte,simprocAttr,LN_succ]
       refine CallO.x (CallX.given [nid + 612] (Hs := [(nid,boxW nl W)]) (r := .bool (T.any (allP W))) (u := []) (fun nl' => ?_) (subH_get (by simp only [aqA,↓seqK,↓blkK,↓loopK,step,stepBin,eqB,Nat.add_assoc nid,↓reduceIte,simprocAttr,LN_succ,boxW])) (fun i hi => ?_) ?_)
       ·simp only [lends,lend,noOs,aqA,↓seqK,↓blkK,↓loopK,step,stepBin,eqB,Nat.add_assoc nid,↓reduceIte,simprocAttr,LN_succ]
        have hK := containsPt_h 137 [.ptr nid 0] [(nid,boxW nl W)] (fun q => allP W (T.getD q p0)) (nl' (nid + 612)) T.length (fun q => (T.getD q p0).1) (fun q => (T.getD q p0).2) (nid + 620) (scp1 (by omega) rfl) (by simp [lowAll,idsOfs,idsOf]) (by omega) (fun q hq nid' h' => downs1_c nid nl W (T.getD q p0) nid' (by omega) hW (hin _ (ptMem hq)))
        rw [any_ptsD T (allP W)] at hK
        exact hK
       ·have hi' : i = nid + 612 := by simpa using hi
        subst hi'
        have e1 : (nid == nid + 612) = false := by rw [beq_eq_false_iff_ne]; omega
        exact ⟨by simp only [getH,e1,cond_false],rfl⟩
       simp -dsimp only [aqA,↓seqK,↓blkK,↓loopK,step,stepBin,eqB,Nat.add_assoc nid,↓reduceIte,simprocAttr,LN_succ,kill]
       refine Cov.go [] [] ?_
       simp [cvT,step,res,boxW,arrDg,litPl,-List.getD_eq_getElem?_getD,-List.length_append]
      refine SR.seqW (ι := Unit) (fun _ => ⟨[(13,.bool (T.any (allP W))),(12,.ptr (nid + 16) 0),(25,.int .i64 j),(24,.int .i64 card.length),(23,litPl nlc card),(8,.int .i64 k),(9,.ptr (nid + 8) 0),(18,.int .i64 k),(17,.int .i64 op.length),(16,litPl nlo op),(7,.sl (nid + 4) 0 (A).length),(2,litPl nlo op),(1,litPl nlc card),(3,.ptr nid 0)],[(nid,boxW nl W),(nid + 4,arrDg g (A)),(nid + 8,some (.box 34 [.int .i64 p.1,.int .i64 p.2])),(nid + 16,some (.box 123 [.int .i64 a.1,.int .i64 a.2,.int .i64 ((setT W card a : Nat) : Int)]))],nid + 5000,nid⟩) ?_ (fun _ => ?_)
      ·rw [hset]
       refine SR.seq ?_
       unfold boxW litPl arrDg
       simp -dsimp only [aqA,↓seqK,↓blkK,↓loopK,step,stepBin,eqB,Nat.add_assoc nid,↓reduceIte,simprocAttr,LN_succ]
       refine SR.block ?_
       refine SR.loopP (fun m : Nat => m ≤ op.length) (fun m : Nat => ⟨[(49,.int .i64 m),(48,.int .i64 op.length),(47,litPl nlo op),(13,.bool (T.any (allP W))),(12,.ptr (nid + 16) 0),(25,.int .i64 j),(24,.int .i64 card.length),(23,litPl nlc card),(8,.int .i64 k),(9,.ptr (nid + 8) 0),(18,.int .i64 k),(17,.int .i64 op.length),(16,litPl nlo op),(7,.sl (nid + 4) 0 (A).length),(2,litPl nlo op),(1,litPl nlc card),(3,.ptr nid 0)],[(nid,boxW nl W),(nid + 4,arrDg g (A)),(nid + 8,some (.box 34 [.int .i64 p.1,.int .i64 p.2])),(nid + 16,some (.box 123 [.int .i64 a.1,.int .i64 a.2,.int .i64 ((maskB (fun i => T.contains (op.getD i p0)) m : Nat) : Int)]))],nid + 1200,nid⟩) (fun m => op.length + 1 - m) 0 (Nat.zero_le _) (Cov.go [] [] ?_) (fun m hm => ?_)
       ·simp [cvT,step,res,boxW,arrDg,litPl,maskB,-List.getD_eq_getElem?_getD]
       refine SR.seq ?_
       unfold boxW litPl arrDg
       simp -dsimp only [aqA,↓seqK,↓blkK,↓loopK,step,stepBin,eqB,Nat.add_assoc nid,↓reduceIte,simprocAttr,LN_succ]
       refine SR.seq ?_
       simp -dsimp only [aqA,↓seqK,↓blkK,↓loopK,step,stepBin,eqB,Nat.add_assoc nid,↓reduceIte,simprocAttr,LN_succ]
       refine S2.dec (fun h5 => ?_) (fun h5 => ?_) <;> simp -dsimp only [aqA,↓seqK,↓blkK,↓loopK,step,stepBin,eqB,Nat.add_assoc nid,↓reduceIte,simprocAttr,LN_succ]
       ·have hml : m < op.length := by omega
        refine SR.seqW (ι := Unit) (fun _ => ⟨[(49,.int .i64 m),(48,.int .i64 op.length),(47,litPl nlo op),(13,.bool (T.any (allP W))),(12,.ptr (nid + 16) 0),(25,.int .i64 j),(24,.int .i64 card.length),(23,litPl nlc card),(8,.int .i64 k),(9,.ptr (nid + 8) 0),(18,.int .i64 k),(17,.int .i64 op.length),(16,litPl nlo op),(7,.sl (nid + 4) 0 (A).length),(2,litPl nlo op),(1,litPl nlc card),(3,.ptr nid 0)],[(nid,boxW nl W),(nid + 4,arrDg g (A)),(nid + 8,some (.box 34 [.int .i64 p.1,.int .i64 p.2])),(nid + 16,some (.box 123 [.int .i64 a.1,.int .i64 a.2,.int .i64 ((maskB (fun i => T.contains (op.getD i p0)) (m + 1) : Nat) : Int)]))],nid + 3000,nid⟩) ?_ (fun _ => ?_)
        ·refine SR.block ?_
         refine SR.seq ?_
         simp -dsimp only [aqA,↓seqK,↓blkK,↓loopK,step,stepBin,eqB,Nat.add_assoc nid,↓reduceIte,simprocAttr,LN_succ]
         refine ⟨by omega,?_⟩
         have hms : maskB (fun i => T.contains (op.getD i p0)) (m + 1) = maskB (fun i => T.contains (op.getD i p0)) m ||| (if T.contains (op.getD m p0) = true then 1 <<< m else 0) := rfl
         have hmb : maskB (fun i => T.contains (op.getD i p0)) m < 2 ^ 14 := Nat.lt_pow_two_of_testBit _ fun i hi => by rw [maskB_test,decide_eq_false (by omega)]; rfl
         have hcon := fun nl' k => containsPt_c nl' T (op.getD m p0) k (by omega)
         unfold litPl at hcon
         rw [hms]
         generalize maskB (fun i => T.contains (op.getD i p0)) m = z at *
         refine SR.run (t := .mk) ?_
         simp -dsimp only [aqA,↓seqK,↓blkK,↓loopK,step,stepBin,eqB,Nat.add_assoc nid,↓reduceIte,simprocAttr,LN_succ]
         refine CallX.pure (hta _) ?_
         simp -dsimp only [aqA,↓seqK,↓blkK,↓loopK,step,stepBin,eqB,Nat.add_assoc nid,↓reduceIte,simprocAttr,LN_succ]
         refine CallX.lent [nid + 1240] (fun nl' => by
          simp only [lends,lend,noOs,aqA,↓seqK,↓blkK,↓loopK,step,stepBin,eqB,Nat.add_assoc nid,↓reduceIte,simprocAttr,LN_succ]
          exact hcon _ _) rfl rfl (by simp [getH]) ?_
         cases hcq : T.contains (op.getD m p0) <;> simp -dsimp only [aqA,↓seqK,↓blkK,↓loopK,step,stepBin,eqB,Nat.add_assoc nid,↓reduceIte,simprocAttr,LN_succ]
         ·refine ⟨(),Cov.go [] [] ?_⟩
          simp [cvT,step,res,boxW,arrDg,litPl,-List.getD_eq_getElem?_getD,-List.length_append]
         ·have hsh : (1 <<< m : Nat) < 2 ^ 14 := by
           rw [Nat.one_shiftLeft]
           exact Nat.pow_lt_pow_right (by omega) (by omega)
          rw [shl64 m (by omega),or64 z _ (by omega) (by omega)]
          refine ⟨by omega,(),Cov.go [] [] ?_⟩
          simp [cvT,step,res,boxW,arrDg,litPl,-List.getD_eq_getElem?_getD,-List.length_append]
        ·refine SR.run (t := .mk) ?_
         simp -dsimp only [aqA,↓seqK,↓blkK,↓loopK,step,stepBin,eqB,Nat.add_assoc nid,↓reduceIte,simprocAttr,LN_succ]
         refine ⟨by unfold inI64; omega,m + 1,⟨by omega,by omega⟩,Cov.go [] [] ?_⟩
         simp [cvT,step,res,boxW,arrDg,litPl,-List.getD_eq_getElem?_getD,-List.length_append]
       ·obtain rfl : m = op.length := by omega
        refine ⟨(),Cov.go [] [] ?_⟩
        simp [cvT,step,res,boxW,arrDg,litPl,-List.getD_eq_getElem?_getD,-List.length_append]
      refine SR.run (t := .mk) ?_
      unfold boxW litPl arrDg
      cases hany : T.any (allP W) <;> simp -dsimp only [aqA,↓seqK,↓blkK,↓loopK,step,stepBin,eqB,Nat.add_assoc nid,↓reduceIte,simprocAttr,LN_succ]
      ·have hbit : (setT W card a).testBit k = true := by
        rw [hset,maskB_test,decide_eq_true hkl,hpd]
        simpa using hpt2
       have hX : IntKind.i64.wrap (((BitVec.ofInt IntKind.i64.bits ((setT W card a >>> k : Nat) : Int)) &&& (BitVec.ofInt IntKind.i64.bits 1)).toNat : Int) = 1 := by
        have h1 := and64 (setT W card a >>> k) 1 (by have := Nat.shiftRight_le (setT W card a) k; omega) (by omega)
        rw [Nat.testBit_eq_decide_div_mod_eq,decide_eq_true_eq] at hbit
        rw [Nat.and_one_is_mod,Nat.shiftRight_eq_div_pow,hbit] at h1
        rw [Nat.shiftRight_eq_div_pow]
        exact h1
       refine ⟨by omega,?_⟩
       rw [shr64 (setT W card a) k (by omega),hX]
       simp -dsimp only [aqA,↓seqK,↓blkK,↓loopK,step,stepBin,eqB,Nat.add_assoc nid,↓reduceIte,simprocAttr,LN_succ]
       rw [getD_appP A a rfl (fun q => q.1) rfl rfl,getD_appP A a rfl (fun q => q.2) rfl rfl]
       have hAl : (A ++ [a]).length = A.length + 1 := by simp
       refine ⟨⟨by omega,by omega⟩,(),Cov.go [(nid + 4,nid + 5052)] [] ?_⟩
       simp [cvT,step,res,boxW,arrDg,litPl,hAl,-List.getD_eq_getElem?_getD,-List.length_append]
       refine ColEq.i fun i hi => ?_
       by_cases h : i < A.length
       ·rw [if_pos h,List.getD_eq_getElem?_getD,List.getD_eq_getElem?_getD,List.getElem?_append_left h]
       ·have e : i = A.length := by omega
        subst e
        rw [if_neg (by omega),Nat.sub_self,List.getD_eq_getElem?_getD (l := A ++ [a]),List.getElem?_append_right (Nat.le_refl _),Nat.sub_self]
        exact hga.symm
      ·refine ⟨(),Cov.go [] [] ?_⟩
       simp [cvT,step,res,boxW,arrDg,litPl,-List.getD_eq_getElem?_getD,-List.length_append]
     ·refine SR.run (t := .mk) ?_
      simp -dsimp only [aqA,↓seqK,↓blkK,↓loopK,step,stepBin,eqB,Nat.add_assoc nid,↓reduceIte,simprocAttr,LN_succ]
      refine ⟨by unfold inI64; omega,j + 1,⟨by omega,by omega⟩,Cov.go [] [] ?_⟩
      simp [cvT,step,res,boxW,arrDg,litPl,-List.getD_eq_getElem?_getD,-List.length_append]
    ·obtain rfl : j = card.length := by omega
     rw [List.take_length]
     refine ⟨(),Cov.go [] [] ?_⟩
     simp [cvT,step,res,boxW,arrDg,litPl,-List.getD_eq_getElem?_getD,-List.length_append]
   ·refine SR.run (t := .mk) ?_
    simp -dsimp only [aqA,↓seqK,↓blkK,↓loopK,step,stepBin,eqB,Nat.add_assoc nid,↓reduceIte,simprocAttr,LN_succ]
    refine ⟨by unfold inI64; omega,k + 1,⟨by omega,by omega⟩,Cov.go [] [] ?_⟩
    simp [cvT,step,res,boxW,arrDg,litPl,-List.getD_eq_getElem?_getD,-List.length_append]
  ·obtain rfl : k = op.length := by omega
   rw [hpa]
   refine ⟨(),Cov.go [] [] ?_⟩
   simp [cvT,step,res,boxW,arrDg,litPl,-List.getD_eq_getElem?_getD,-List.length_append]
 ·generalize hId : (ptsV W card).filter (mayT W card) = I at *
  have hIl : I.length ≤ 20000 := by rw [← hId]; exact Nat.le_trans (List.length_filter_le _ _) hpn
  have hs := fun k (h : nid + 4 < k) => hsort g (nid + 4) I k h (by omega)
  have hsl := sortV_len I
  have hcomp := fun k (h : nid + 4 < k) => compactD_c g (nid + 4) (sortV I) k h (by omega)
  rw [← hq,hqt] at hcomp
  rw [← hq] at hs hsl
  unfold arrDg at hs hcomp
  rw [hsl] at hs hcomp
  refine SR.seqTo ⟨[(7,.sl (nid + 4) 0 I.length)],[(nid + 4,arrDg g (dnQ W card))],nid + 51000,nid⟩ ?_ ?_
  ·unfold arrDg
   simp -dsimp only [aqA,↓seqK,↓blkK,↓loopK,step,stepBin,eqB,Nat.add_assoc nid,↓reduceIte,simprocAttr,LN_succ]
   refine CallO.on (hs _ (by omega)) (subH_get (by simp only [aqA,↓seqK,↓blkK,↓loopK,step,stepBin,eqB,Nat.add_assoc nid,↓reduceIte,simprocAttr,LN_succ])) ?_
   simp -dsimp only [aqA,↓seqK,↓blkK,↓loopK,step,stepBin,eqB,Nat.add_assoc nid,↓reduceIte,simprocAttr,LN_succ]
   refine Cov.go [] [] ?_
   simp [cvT,step,res,arrDg,hsl,-List.getD_eq_getElem?_getD]
  refine SR.run (t := .mk) ?_
  unfold arrDg
  rw [hsl]
  unfold arrDd at *
  simp -dsimp only [aqA,↓seqK,↓blkK,↓loopK,step,stepBin,eqB,Nat.add_assoc nid,↓reduceIte,simprocAttr,LN_succ]
  refine CallO.on (hcomp _ (by omega)) (subH_get (by simp only [aqA,↓seqK,↓blkK,↓loopK,step,stepBin,eqB,Nat.add_assoc nid,↓reduceIte,simprocAttr,LN_succ])) ?_
  simp -dsimp only [aqA,↓seqK,↓blkK,↓loopK,step,stepBin,eqB,Nat.add_assoc nid,↓reduceIte,simprocAttr,LN_succ]
  refine RetOK.go [(nid,nid + 4)] [] (.inl rfl) ?_
  simp [a82,cvT,step,res,-List.getD_eq_getElem?_getD]
end Go.Proofs.YtmgfcjblclanmaaGreatDoor
namespace Go.Proofs.YtmgfcjblclanmaaGreatDoor
open Go.RowKit Go.Shelf Go.Lib
theorem countB_cc (s : List UInt8) (c : UInt8) (nid : Nat) : ACall Tryz.prog 77 [.str s,.str [c]] [] nid (.int .i64 (Lib.countByte s c : Nat)) [] :=
 acall_below (us := [.string ⟨s.toArray⟩,.string ⟨#[c]⟩]) nid Tryz.func77 (by kernel_rfl) (by kernel_rfl) rfl rfl (fun w => by
  have h := Any.strings_Count_one Tryz.lays138 ⟨s.toArray⟩ c w
  have hf : Tryz.lays138_ren.f 138 = 77 := by kernel_rfl
  rw [hf] at h
  exact h.mono fun e w' ⟨h1,h2⟩ => ⟨by simpa using h1,by rw [h2]; exact Below.refl _ _⟩)
end Go.Proofs.YtmgfcjblclanmaaGreatDoor
namespace Go.Proofs.YtmgfcjblclanmaaGreatDoor
open Go.RowKit Go.Shelf Go.Lib
theorem extra156 : Builder.Extra Tryz.prog Tryz.lays156_ren where
 sizeBuilder := by kernel_rfl
 liesBuilder := by kernel_rfl
 t5 := Tryz.underlying5
 a5 := Tryz.isAgg5
 z5 := Tryz.sizeOf5
 v5 := Tryz.zeroValue5
 infoByte := by kernel_rfl
 cellsByte := by kernel_rfl
 sizeByte := by kernel_rfl
 neB5 := by decide
theorem join_cc (nl : Bool) (l : List (List UInt8)) (sep : List UInt8) (nid : Nat) (hl : l.length ≤ 1000000) (hj : (Lib.join l sep).length ≤ 140737488355328) : ACall Tryz.prog 76 [.lit nl l.length [.s fun i => l.getD i []],.str sep] [] nid (.str (Lib.join l sep)) [] :=
 acall_lib nid Tryz.func76 (by kernel_rfl) (by kernel_rfl) (fun Y m w vs hvl hrep hG hY => by
  obtain ⟨v0,v1,rfl⟩ : ∃ v0 v1,vs = [v0,v1] := by
   match vs,hvl with
   | [a,b],_ => exact ⟨a,b,rfl⟩
  have r0 := hrep 0 _ _ rfl rfl
  have r1 := (hrep 1 _ _ rfl rfl).str_inv
  subst r1
  obtain ⟨A,cap,rfl,hle,hcells⟩ := r0.strs_inv
  have hf : Tryz.lays156_ren.f 156 = 76 := by kernel_rfl
  rcases Nat.eq_zero_or_pos l.length with h0 | h0
  ·have hl0 : l = [] := List.eq_nil_of_length_eq_zero h0
   subst hl0
   have h := Any.strings_Join_none Tryz.lays156 extra156 A cap ⟨sep.toArray⟩ w
   rw [hf] at h
   exact h.mono fun e w' ⟨he,hw⟩ => ⟨_,he,.str,hw ▸ Below.refl _ _⟩
  ·obtain ⟨b,o,rfl,hb,hc⟩ := hcells h0
   have hmap : (l.map fun s => (⟨s.toArray⟩ : ByteArray)).map (·.data.toList) = l := by
    rw [List.map_map]
    conv => rhs; rw [← List.map_id l]
    refine List.map_congr_left fun s _ => by simp
   have h := Any.strings_Join Tryz.lays156 extra156 b o cap (l.map fun s => ⟨s.toArray⟩) ⟨sep.toArray⟩ w (fun j x hx => by
    rw [List.getElem?_map] at hx
    rcases Nat.lt_or_ge j l.length with hj | hj
    ·rw [List.getElem?_eq_getElem hj] at hx
     simp only [Option.map_some,Option.some.injEq] at hx
     subst hx
     have := hc j hj
     rw [List.getD_eq_getElem?_getD,List.getElem?_eq_getElem hj] at this
     exact this
    ·rw [List.getElem?_eq_none hj] at hx; cases hx) hb (by rw [List.length_map]; omega) (by rw [List.length_map]; exact hle) (by rw [hmap]; simpa using hj)
   rw [hf,hmap,List.length_map] at h
   exact h.mono fun e w' ⟨he,hB⟩ => ⟨_,he,by simpa using Rep.str,hB⟩)
end Go.Proofs.YtmgfcjblclanmaaGreatDoor
namespace Go.Proofs.YtmgfcjblclanmaaGreatDoor
theorem join_flat : ∀ (l : List (List UInt8)),Lib.join l [] = l.flatten
 | [] => rfl
 | [a] => by simp [Lib.join,List.intercalate]
 | a :: b :: l => by
  have ih := join_flat (b :: l)
  unfold Lib.join at *
  simp only [List.intercalate,List.intersperse,List.flatten_cons,List.nil_append] at *
  rw [ih]
theorem cnt_row {W : Waf} (hW : WafOk W) {y : Nat} (hy : y < W.rows.length) : ∀ n,n ≤ (W.rows.getD y []).length → (rowPl y n).countP (untB W) = ((W.rows.getD y []).take n).count 63
 | 0,_ => by simp [rowPl]
 | n + 1,h => by
  have ih := cnt_row hW hy n (by omega)
  have hw := (hW.at hy).1
  have hd := dieV_in (W := W) (x := n) hy (by omega)
  have hu : untB W ((n : Int),(y : Int)) = ((W.rows.getD y []).getD n 0 == 63) := by
   unfold untB
   simp only
   rw [hd]
   unfold byteI
   rw [Bool.eq_iff_iff,beq_iff_eq,beq_iff_eq]
   constructor
   ·intro h2
    exact UInt8.toNat_inj.1 (by have : ((63 : UInt8).toNat) = 63 := rfl; omega)
   ·intro h2
    rw [h2]
    rfl
  rw [rowPl_succ,List.countP_append,ih,take_snoc (x := (W.rows.getD y []).getD n 0) (by rw [List.getD_eq_getElem?_getD (l := W.rows.getD y []),List.getElem?_eq_getElem (by omega)]; rfl),List.count_append]
  congr 1
  rw [List.countP_singleton,List.count_singleton,hu]
theorem cnt_rows {W : Waf} (hW : WafOk W) : ∀ k,k ≤ W.rows.length → (plTo W k).countP (untB W) = ((W.rows.take k).flatten).count 63
 | 0,_ => by simp [plTo]
 | k + 1,h => by
  have ih := cnt_rows hW k (by omega)
  rw [plTo_succ,List.countP_append,ih,cnt_row hW (by omega) _ (Nat.le_refl _),List.take_length,take_snoc (x := W.rows.getD k []) (by rw [List.getD_eq_getElem?_getD,List.getElem?_eq_getElem (by omega)]; rfl),List.flatten_append,List.count_append]
  simp
theorem cnt_unt {W : Waf} (hW : WafOk W) : Lib.countByte (Lib.join W.rows []) 63 = (opV W).length := by
 have h := cnt_rows hW W.rows.length (Nat.le_refl _)
 rw [List.take_length] at h
 unfold opV
 rw [← List.countP_eq_length_filter,join_flat]
 exact h.symm
end Go.Proofs.YtmgfcjblclanmaaGreatDoor
namespace Go.Proofs.YtmgfcjblclanmaaGreatDoor
open Go.RowKit Go.Shelf Go.Lib Go.Sort
theorem insertPr_0 (ix nid : Nat) (h : ix < nid) : ACall Tryz.prog 173 [.sl ix 0 0,.int .i64 0,.int .i64 0,.fn 80 []] [(ix,arrS2 78 [])] nid (.tup []) [(ix,arrS2 78 [])] := by
 obtain ⟨e1,e2,e3,e4,e5,e6,e7,e8,e9⟩ := id_all h
 refine acall_run c173 (by simp [a173]) ?_
 unfold arrS2
 simp -dsimp only [aqA,↓seqK,↓blkK,↓loopK,step,stepBin,eqB,Nat.add_assoc nid,↓reduceIte,simprocAttr,LN_succ,a173,e1,e2,e3,e4,e5,e6,e7,e8,e9]
 refine ⟨by unfold inI64; omega,?_⟩
 refine LP.mkP (fun _ : Unit => True) (fun _ => ⟨[(8,.int .i64 1),(2,.int .i64 0)],[(ix,arrS2 78 [])],nid + 50,nid⟩) (fun _ => 0) () trivial (Cov.go [] [] ?_) (fun _ _ => ?_)
 ·simp [cvT,step,res,e1,e2,e3,e4,e5,e6,e7,e8,e9,arrS2,-List.getD_eq_getElem?_getD]
 unfold arrS2
 simp -dsimp only [aqA,↓seqK,↓blkK,↓loopK,step,stepBin,eqB,Nat.add_assoc nid,↓reduceIte,simprocAttr,LN_succ,e1,e2,e3,e4,e5,e6,e7,e8,e9]
 refine RetOK.go [] [] (.inr rfl) ?_
 simp [a173,cvT,step,res,e1,e2,e3,e4,e5,e6,e7,e8,e9,arrS2,ColsEq.refl,-List.getD_eq_getElem?_getD]
theorem pdqPr_0 (ix nid : Nat) (h : ix < nid) : ACall Tryz.prog 133 [.sl ix 0 0,.int .i64 0,.int .i64 0,.int .i64 0,.fn 80 []] [(ix,arrS2 78 [])] nid (.tup []) [(ix,arrS2 78 [])] := by
 obtain ⟨e1,e2,e3,e4,e5,e6,e7,e8,e9⟩ := id_all h
 refine acall_run c133 (by simp [a133]) ?_
 unfold arrS2
 simp -dsimp only [aqA,↓seqK,↓blkK,↓loopK,step,stepBin,eqB,Nat.add_assoc nid,↓reduceIte,simprocAttr,LN_succ,a133,e1,e2,e3,e4,e5,e6,e7,e8,e9]
 refine LP.mkP (fun _ : Unit => True) (fun _ => ⟨[(0,.sl ix 0 0),(1,.int .i64 0),(2,.int .i64 0),(4,.fn 80 [])],[(ix,arrS2 78 [])],nid + 50,nid⟩) (fun _ => 0) () trivial (Cov.go [] [] ?_) (fun _ _ => ?_)
 ·simp [cvT,step,res,e1,e2,e3,e4,e5,e6,e7,e8,e9,arrS2,-List.getD_eq_getElem?_getD]
 unfold arrS2
 simp -dsimp only [aqA,↓seqK,↓blkK,↓loopK,step,stepBin,eqB,Nat.add_assoc nid,↓reduceIte,simprocAttr,LN_succ,e1,e2,e3,e4,e5,e6,e7,e8,e9]
 refine ⟨by unfold inI64; omega,?_⟩
 refine CallO.on (insertPr_0 ix _ (by omega)) (subH_get (by simp only [aqA,↓seqK,↓blkK,↓loopK,step,stepBin,eqB,Nat.add_assoc nid,↓reduceIte,simprocAttr,LN_succ,arrS2])) ?_
 unfold arrS2
 simp -dsimp only [aqA,↓seqK,↓blkK,↓loopK,step,stepBin,eqB,Nat.add_assoc nid,↓reduceIte,simprocAttr,LN_succ,e1,e2,e3,e4,e5,e6,e7,e8,e9]
 refine RetOK.go [] [] (.inl rfl) ?_
 simp [a133,cvT,step,res,e1,e2,e3,e4,e5,e6,e7,e8,e9,arrS2,ColsEq.refl,-List.getD_eq_getElem?_getD]
theorem sortPr_0 (ix nid : Nat) (h : ix < nid) : ACall Tryz.prog 79 [.sl ix 0 0,.fn 80 []] [(ix,arrS2 78 [])] nid (.tup []) [(ix,arrS2 78 [])] := by
 obtain ⟨e1,e2,e3,e4,e5,e6,e7,e8,e9⟩ := id_all h
 refine acall_run c79 (by simp [a79]) ?_
 unfold arrS2
 simp -dsimp only [aqA,↓seqK,↓blkK,↓loopK,step,stepBin,eqB,Nat.add_assoc nid,↓reduceIte,simprocAttr,LN_succ,a79,e1,e2,e3,e4,e5,e6,e7,e8,e9]
 rw [show IntKind.u64.wrap 0 = 0 from by decide]
 refine CallO.pure (lenP_0 _) ?_
 simp -dsimp only [aqA,↓seqK,↓blkK,↓loopK,step,stepBin,eqB,Nat.add_assoc nid,↓reduceIte,simprocAttr,LN_succ,e1,e2,e3,e4,e5,e6,e7,e8,e9]
 refine CallO.on (pdqPr_0 ix _ (by omega)) (subH_get (by simp only [aqA,↓seqK,↓blkK,↓loopK,step,stepBin,eqB,Nat.add_assoc nid,↓reduceIte,simprocAttr,LN_succ,arrS2])) ?_
 unfold arrS2
 simp -dsimp only [aqA,↓seqK,↓blkK,↓loopK,step,stepBin,eqB,Nat.add_assoc nid,↓reduceIte,simprocAttr,LN_succ,e1,e2,e3,e4,e5,e6,e7,e8,e9]
 refine RetOK.go [] [] (.inr rfl) ?_
 simp [a79,cvT,step,res,e1,e2,e3,e4,e5,e6,e7,e8,e9,arrS2,ColsEq.refl,-List.getD_eq_getElem?_getD]
theorem sortPr_any (ix : Nat) (l : List PrT) (nid : Nat) (h : ix < nid) (hl : l.length ≤ 1000000) :
  ACall Tryz.prog 79 [.sl ix 0 l.length,.fn 80 []] [(ix,arrS2 78 l)] nid (.tup []) [(ix,arrS2 78 (prSort l))] := by
 rcases Nat.eq_zero_or_pos l.length with h0 | h0
 ·have e := List.length_eq_zero_iff.1 h0
  subst e
  have e2 : prSort [] = [] := List.eq_nil_of_length_eq_zero (prSort_len [])
  rw [e2]
  exact sortPr_0 ix nid h
 ·exact sortPr_c ix l nid h0 (by omega)
theorem itoa_cc (n : Nat) (nid : Nat) (hn : n < 100) : ACall Tryz.prog 78 [.int .i64 (n : Nat)] [] nid (.str (Lib.decDigits n)) [] :=
 acall_below (us := [.int .i64 (n : Nat)]) nid Tryz.func78 (by kernel_rfl) (by kernel_rfl) rfl rfl (fun w => by
  have h := Any.strconv_Itoa_small Tryz.lays171 n hn w
  have hf : Tryz.lays171_ren.f 171 = 78 := by kernel_rfl
  rw [hf] at h
  refine h.mono ?_
  rintro e w' ⟨rfl,rfl⟩
  exact ⟨rfl,Below.refl _ _⟩)
def cntL (J : List UInt8) : Nat → List PrT
 | 0 => []
 | k + 1 => cntL J k ++ (if 0 < Lib.countByte J (binsL.getD k 0) then [([binsL.getD k 0],Lib.decDigits (Lib.countByte J (binsL.getD k 0)))] else [])
theorem cntL_len (J : List UInt8) : ∀ k,(cntL J k).length ≤ k
 | 0 => by simp [cntL]
 | k + 1 => by
  have := cntL_len J k
  unfold cntL
  split <;> simp <;> omega
theorem countByte_le (s : List UInt8) (c : UInt8) : Lib.countByte s c ≤ s.length := by
 unfold Lib.countByte
 first | exact List.countP_le_length | exact List.count_le_length | (rw [List.length_filter]; omega)
theorem bin_at {k : Nat} (h : k < 36) : (binsL.drop k).take 1 = [binsL.getD k 0] := by
 have hk : k < binsL.length := by rw [show binsL.length = 36 from rfl]; exact h
 rw [List.drop_eq_getElem_cons hk,List.getD_eq_getElem?_getD,List.getElem?_eq_getElem hk]
 rfl
set_option maxHeartbeats 4000000 in
theorem countsOf_c (nl : Bool) (W : Waf) (nid : Nat) (hl : W.rows.length ≤ 1000000) (hj : (Lib.join W.rows []).length < 100) :
  ACall Tryz.prog 23 [wafP nl W] [] nid (.tup [.sl nid 0 (cntL (Lib.join W.rows []) 36).length,.int .i64 (Lib.countByte (Lib.join W.rows []) 42 : Nat),.int .i64 (Lib.countByte (Lib.join W.rows []) 63 : Nat)]) [(nid,arrS2 78 (prSort (cntL (Lib.join W.rows []) 36)))] := by
 have hjc := fun k => join_cc nl W.rows [] k hl (by omega)
 refine acall_sr c23 (by simp [a23]) ?_
 unfold a23 wafP
 refine SR.seq ?_
 simp -dsimp only [aqA,↓seqK,↓blkK,↓loopK,step,stepBin,eqB,Nat.add_assoc nid,↓reduceIte,simprocAttr,LN_succ]
 refine SR.seq ?_
 simp -dsimp only [aqA,↓seqK,↓blkK,↓loopK,step,stepBin,eqB,Nat.add_assoc nid,↓reduceIte,simprocAttr,LN_succ]
 refine CallO.pure (hjc _) ?_
 clear hjc
 generalize Lib.join W.rows [] = J at *
 simp -dsimp only [aqA,↓seqK,↓blkK,↓loopK,step,stepBin,eqB,Nat.add_assoc nid,↓reduceIte,simprocAttr,LN_succ]
 refine SR.seq ?_
 simp -dsimp only [aqA,↓seqK,↓blkK,↓loopK,step,stepBin,eqB,Nat.add_assoc nid,↓reduceIte,simprocAttr,LN_succ]
 refine SR.seqW (ι := Unit) (fun _ => ⟨[(5,.str J),(6,.sl (nid + 20) 0 (cntL J 36).length)],[(nid + 20,arrS2 78 (cntL J 36))],nid + 4000,nid⟩) ?_ (fun _ => ?_)
 ·refine SR.seq ?_
  simp -dsimp only [aqA,↓seqK,↓blkK,↓loopK,step,stepBin,eqB,Nat.add_assoc nid,↓reduceIte,simprocAttr,LN_succ]
  refine SR.block ?_
  refine SR.loopP (fun k : Nat => k ≤ 36) (fun k : Nat => ⟨[(12,.int .i64 k),(5,.str J),(6,.sl (nid + 20) 0 (cntL J k).length)],[(nid + 20,arrS2 78 (cntL J k))],nid + 200,nid⟩) (fun k => 37 - k) 0 (by omega) (Cov.go [] [(nid + 20,2)] ?_) (fun k hk => ?_)
  ·simp [cvT,step,res,arrS2,cntL,-List.getD_eq_getElem?_getD]
  refine SR.seq ?_
  unfold arrS2
  simp -dsimp only [aqA,↓seqK,↓blkK,↓loopK,step,stepBin,eqB,Nat.add_assoc nid,↓reduceIte,simprocAttr,LN_succ]
  refine SR.seq ?_
  simp -dsimp only [aqA,↓seqK,↓blkK,↓loopK,step,stepBin,eqB,Nat.add_assoc nid,↓reduceIte,simprocAttr,LN_succ]
  refine S2.dec (fun h3 => ?_) (fun h3 => ?_) <;> simp -dsimp only [aqA,↓seqK,↓blkK,↓loopK,step,stepBin,eqB,Nat.add_assoc nid,↓reduceIte,simprocAttr,LN_succ]
  ·have hk3 : k < 36 := by omega
   have hb := bin_at hk3
   have hcl := countByte_le J (binsL.getD k 0)
   have hll := cntL_len J k
   have hsucc : cntL J (k + 1) = cntL J k ++ (if 0 < Lib.countByte J (binsL.getD k 0) then [([binsL.getD k 0],Lib.decDigits (Lib.countByte J (binsL.getD k 0)))] else []) := rfl
   have hcc := fun m => countB_cc J (binsL.getD k 0) m
   have hit := fun m => itoa_cc (Lib.countByte J (binsL.getD k 0)) m (by omega)
   generalize hB : binsL.getD k 0 = B at *
   unfold binsL at hb
   have hkk : ((k : Int) + 1).toNat - k = 1 := by omega
   refine SR.run (t := .mk) ?_
   simp -dsimp only [aqA,↓seqK,↓blkK,↓loopK,step,stepBin,eqB,Nat.add_assoc nid,↓reduceIte,simprocAttr,LN_succ]
   rw [hkk,hb]
   refine ⟨by unfold inI64; omega,⟨by omega,by omega,by omega⟩,?_⟩
   refine CallO.pure (hcc _) ?_
   simp -dsimp only [aqA,↓seqK,↓blkK,↓loopK,step,stepBin,eqB,Nat.add_assoc nid,↓reduceIte,simprocAttr,LN_succ]
   refine S2.dec (fun h4 => ?_) (fun h4 => ?_) <;> simp -dsimp only [aqA,↓seqK,↓blkK,↓loopK,step,stepBin,eqB,Nat.add_assoc nid,↓reduceIte,simprocAttr,LN_succ]
   ·rw [hkk,hb]
    have hpos : 0 < Lib.countByte J B := by omega
    rw [if_pos hpos] at hsucc
    refine ⟨by unfold inI64; omega,⟨by omega,by omega,by omega⟩,?_⟩
    refine CallX.pure (hit _) ?_
    simp -dsimp only [aqA,↓seqK,↓blkK,↓loopK,step,stepBin,eqB,Nat.add_assoc nid,↓reduceIte,simprocAttr,LN_succ]
    have hl2 : (cntL J (k + 1)).length = (cntL J k).length + 1 := by rw [hsucc]; simp
    have hg1 : ∀ j,j < (cntL J k).length + 1 → (if j < (cntL J k).length then ((cntL J k).getD j pr0).1 else ([[B]].getD (j - (cntL J k).length) [] : List UInt8)) = ((cntL J (k + 1)).getD j pr0).1 := fun j hj => by
     rw [hsucc]
     by_cases h : j < (cntL J k).length
     ·rw [if_pos h,List.getD_eq_getElem?_getD,List.getD_eq_getElem?_getD,List.getElem?_append_left h]
     ·obtain rfl : j = (cntL J k).length := by omega
      rw [if_neg h]
      simp
    have hg2 : ∀ j,j < (cntL J k).length + 1 → (if j < (cntL J k).length then ((cntL J k).getD j pr0).2 else ([Lib.decDigits (Lib.countByte J B)].getD (j - (cntL J k).length) [] : List UInt8)) = ((cntL J (k + 1)).getD j pr0).2 := fun j hj => by
     rw [hsucc]
     by_cases h : j < (cntL J k).length
     ·rw [if_pos h,List.getD_eq_getElem?_getD,List.getD_eq_getElem?_getD,List.getElem?_append_left h]
     ·obtain rfl : j = (cntL J k).length := by omega
      rw [if_neg h]
      simp
    refine ⟨⟨by omega,by omega⟩,by unfold inI64; omega,k + 1,⟨by omega,by omega⟩,Cov.go [(nid + 20,nid + 284)] [] ?_⟩
    simp [cvT,step,res,arrS2,hl2,-List.getD_eq_getElem?_getD,-List.length_append]
    exact ⟨ColEq.s hg1,ColEq.s hg2⟩
   ·rw [if_neg (by omega),List.append_nil] at hsucc
    refine ⟨by unfold inI64; omega,k + 1,⟨by omega,by omega⟩,Cov.go [] [] ?_⟩
    rw [hsucc]
    simp [cvT,step,res,arrS2,-List.getD_eq_getElem?_getD]
  ·obtain rfl : k = 36 := by omega
   refine ⟨(),Cov.go [] [] ?_⟩
   simp [cvT,step,res,arrS2,-List.getD_eq_getElem?_getD]
 ·have hll := cntL_len J 36
  have hso := fun m h => sortPr_any (nid + 20) (cntL J 36) m h (by omega)
  have hcc := fun c m => countB_cc J c m
  generalize cntL J 36 = L at *
  unfold arrS2 at *
  refine SR.seqTo ⟨[(5,.str J),(6,.sl (nid + 20) 0 L.length)],[(nid + 20,arrS2 78 (prSort L))],nid + 5000,nid⟩ ?_ ?_
  ·simp -dsimp only [aqA,↓seqK,↓blkK,↓loopK,step,stepBin,eqB,Nat.add_assoc nid,↓reduceIte,simprocAttr,LN_succ]
   refine CallO.on (hso _ (by omega)) (subH_get (by simp only [aqA,↓seqK,↓blkK,↓loopK,step,stepBin,eqB,Nat.add_assoc nid,↓reduceIte,simprocAttr,LN_succ])) ?_
   simp -dsimp only [aqA,↓seqK,↓blkK,↓loopK,step,stepBin,eqB,Nat.add_assoc nid,↓reduceIte,simprocAttr,LN_succ]
   refine Cov.go [] [] ?_
   simp [cvT,step,res,arrS2,prSort_len,-List.getD_eq_getElem?_getD]
  unfold arrS2
  refine SR.run (t := .mk) ?_
  simp -dsimp only [aqA,↓seqK,↓blkK,↓loopK,step,stepBin,eqB,Nat.add_assoc nid,↓reduceIte,simprocAttr,LN_succ]
  refine CallO.pure (hcc _ _) ?_
  simp -dsimp only [aqA,↓seqK,↓blkK,↓loopK,step,stepBin,eqB,Nat.add_assoc nid,↓reduceIte,simprocAttr,LN_succ]
  refine CallO.pure (hcc _ _) ?_
  simp -dsimp only [aqA,↓seqK,↓blkK,↓loopK,step,stepBin,eqB,Nat.add_assoc nid,↓reduceIte,simprocAttr,LN_succ]
  refine RetOK.go [(nid,nid + 20)] [] (.inl rfl) ?_
  simp [a23,cvT,step,res,-List.getD_eq_getElem?_getD]
end Go.Proofs.YtmgfcjblclanmaaGreatDoor
namespace Go.Proofs.YtmgfcjblclanmaaGreatDoor
theorem cardZ_right {card : List Pt} (h : cardV card = 0) : 0 < card.length ∧ card.length ≤ 8 ∧ card.Pairwise ltP ∧ ∀ p ∈ card,p.1 ≤ 59 ∧ 0 ≤ p.1 ∧ p.2 ≤ 59 ∧ 0 ≤ p.2 := by
 unfold cardV at h
 by_cases h1 : card.length = 0
 ·rw [if_pos h1] at h; omega
 rw [if_neg h1] at h
 by_cases h2 : 8 < card.length
 ·rw [if_pos h2] at h; omega
 rw [if_neg h2] at h
 by_cases h3 : firstBad (siteBad card) (List.range card.length) ≠ 0
 ·rw [if_pos h3] at h; exact absurd h h3
 have h4 := firstBad_all (Decidable.not_not.1 h3)
 have h5 : ∀ j,j < card.length → siteBad card j = 0 := fun j hj => h4 j (List.mem_range.2 hj)
 have hin : ∀ j,j < card.length → outB (card.getD j p0).1 0 59 = false ∧ outB (card.getD j p0).2 0 59 = false := fun j hj => by
  have := h5 j hj
  unfold siteBad at this
  by_cases hb : outB (card.getD j p0).1 0 59 = true ∨ outB (card.getD j p0).2 0 59 = true
  ·rw [if_pos hb] at this; omega
  ·exact ⟨by simpa using fun hh => hb (.inl hh),by simpa using fun hh => hb (.inr hh)⟩
 have hlt : ∀ j,0 < j → j < card.length → ltP (card.getD (j - 1) p0) (card.getD j p0) := fun j h0 hj => by
  have h6 := h5 j hj
  have h7 := hin j hj
  unfold siteBad at h6
  rw [if_neg (by rw [h7.1,h7.2]; simp)] at h6
  by_cases hb : 0 < j ∧ ¬ ltP (card.getD (j - 1) p0) (card.getD j p0)
  ·rw [if_pos hb] at h6; omega
  ·exact Decidable.not_not.1 fun hh => hb ⟨h0,hh⟩
 have hchain : ∀ j i,i < j → j < card.length → ltP (card.getD i p0) (card.getD j p0) := by
  intro j
  induction j with
  | zero => intro i hi; omega
  | succ j ih =>
   intro i hi hj
   have a1 := hlt (j + 1) (by omega) hj
   rw [Nat.add_sub_cancel] at a1
   rcases Nat.lt_succ_iff_lt_or_eq.1 hi with hi' | rfl
   ·have a2 := ih i hi' (by omega)
    unfold ltP at *
    omega
   ·exact a1
 refine ⟨by omega,by omega,?_,fun p hp => ?_⟩
 ·rw [List.pairwise_iff_getElem]
  intro i j hi hj hij
  have a1 := hchain j i hij hj
  rw [List.getD_eq_getElem?_getD,List.getElem?_eq_getElem hi,List.getD_eq_getElem?_getD,List.getElem?_eq_getElem hj] at a1
  exact a1
 ·obtain ⟨j,hj,rfl⟩ := idx_of hp
  obtain ⟨a1,a2⟩ := hin j hj
  have := outB_no a1
  have := outB_no a2
  omega
theorem touchL_pw {card : List Pt} (h : card.Pairwise ltP) (a : Pt) : (touchL card a).Pairwise ltP := by
 unfold touchL
 rw [List.pairwise_map]
 refine h.imp ?_
 intro p q hpq
 unfold ltP at *
 simp only
 omega
theorem tb_tV {W : Waf} (hW : WafOk W) {card : List Pt} (h : card.Pairwise ltP) (a : Pt) : tbV W card a = tV W card a := by
 unfold tbV tV
 refine sorted_eq ((plV_pw W).filter _) ((touchL_pw h a).filter _) (fun q => ?_)
 rw [List.mem_filter,List.mem_filter,Bool.and_eq_true,List.contains_iff_mem]
 constructor
 ·rintro ⟨_,h1,h2⟩
  exact ⟨h2,h1⟩
 ·rintro ⟨h1,h2⟩
  exact ⟨(List.mem_filter.1 ((opV_mem hW).2 h2)).1,h2,h1⟩
theorem cardZ_nodup {card : List Pt} (h : card.Pairwise ltP) : card.Nodup := by
 unfold List.Nodup
 refine h.imp ?_
 intro p q hpq e
 subst e
 unfold ltP at hpq
 omega
end Go.Proofs.YtmgfcjblclanmaaGreatDoor
namespace Go.Proofs.YtmgfcjblclanmaaGreatDoor
open Go.RowKit Go.Shelf Go.Lib Go.Sort
set_option maxHeartbeats 2000000
set_option maxRecDepth 20000 in
set_option maxHeartbeats 4000000 in
theorem byPointR_calls (p q : Pt) (W : World) : Calls Tryz.prog 49 #[.agg #[.int .i64 p.1,.int .i64 p.2],.agg #[.int .i64 q.1,.int .i64 q.2]] W fun e w' => e = .returned (.int .i64 (byRowV p q)) ∧ ∃ n os',w' = grow (W.drewN n) os' := by
 obtain ⟨px,py⟩ := p
 obtain ⟨qx,qy⟩ := q
 have hC := fun a b W' => AnyG.cmp_Compare_int Tryz.cmpI a b W'
 change ∀ a b W',Calls Tryz.prog 119 _ _ _ at hC
 unfold byRowV
 simp only
 generalize Lib.compareInt = F at *
 have hO : ∀ b w,w.cell? ⟨b,0,none⟩ = some (.int .i64 (F py qy)) → w.cell? ⟨b,1,none⟩ = some (.int .i64 (F px qx)) → Calls Tryz.prog 118 #[.slice (some ⟨b,0,none⟩) 2 2] w fun e w' => e = .returned (.int .i64 (if F py qy = 0 then F px qx else F py qy)) ∧ w' = w :=
  fun b w h0 h1 => cmpOr_calls (F py qy) (F px qx) _ b w (fun h => by rw [if_pos h]) (fun h => by rw [if_neg h]) h0 h1
 generalize (if F py qy = 0 then F px qx else F py qy) = r at *
 go_enter Tryz.func49,Tryz.ntmps49
 go_wp2
 have c1 : ((W.alloc (.cells #[.int .i64 px,.int .i64 py] 34)).alloc (.cells #[.int .i64 qx,.int .i64 qy] 34)).drew.cell? ⟨W.heap.size,0,none⟩ = some (.int .i64 px) := by simp
 have c2 : ((W.alloc (.cells #[.int .i64 px,.int .i64 py] 34)).alloc (.cells #[.int .i64 qx,.int .i64 qy] 34)).drew.cell? ⟨W.heap.size,1,none⟩ = some (.int .i64 py) := by simp
 have c3 : ((W.alloc (.cells #[.int .i64 px,.int .i64 py] 34)).alloc (.cells #[.int .i64 qx,.int .i64 qy] 34)).drew.cell? ⟨W.heap.size + 1,0,none⟩ = some (.int .i64 qx) := by simp
 have c4 : ((W.alloc (.cells #[.int .i64 px,.int .i64 py] 34)).alloc (.cells #[.int .i64 qx,.int .i64 qy] 34)).drew.cell? ⟨W.heap.size + 1,1,none⟩ = some (.int .i64 qy) := by simp
 have hg : Kept ((W.alloc (.cells #[.int .i64 px,.int .i64 py] 34)).alloc (.cells #[.int .i64 qx,.int .i64 qy] 34) = grow W #[.cells #[.int .i64 px,.int .i64 py] 34 (0,0),.cells #[.int .i64 qx,.int .i64 qy] 34 (0,0)]) := by
  unfold Kept
  rw [alloc_eq_grow,alloc_eq_grow,grow_grow]
  rfl
 generalize (W.alloc (.cells #[.int .i64 px,.int .i64 py] 34)).alloc (.cells #[.int .i64 qx,.int .i64 qy] 34) = W2 at *
 refine wp_region_still_tail 10 (by kernel_rfl) (by kernel_rfl) ?_
 simp only [List.take_succ_cons,List.take_zero,List.drop_succ_cons,List.drop_zero]
 change wpStill _ _ W2.drew _ _ _
 generalize hw3 : W2.drew = w3 at c1 c2 c3 c4
 have hk : Kept (w3 = W2.drew) := hw3.symm
 clear hw3
 still_step
 still_step
 still_step
 still_step
 still_call (hC _ _ _)
 still_step
 still_step
 still_step
 still_step
 still_call (hC _ _ _)
 refine wpStill_nil ?_
 change wpList _ _ _ _ _ W2.drew
 have hk2 := hk
 unfold Kept at hk2
 rw [← hk2]
 clear hk2
 have hN := hO w3.heap.size (w3.alloc (.cells #[.int .i64 (F py qy),.int .i64 (F px qx)] 3)) (by simp) (by simp)
 go_wp2_with (go_at_call 118; refine hN.mono ?_; rintro e w' ⟨rfl,rfl⟩)
 go_ret
 have e : ∀ o,w3.alloc o = grow (W.drewN 1) (#[.cells #[.int .i64 px,.int .i64 py] 34 (0,0),.cells #[.int .i64 qx,.int .i64 qy] 34 (0,0)] ++ #[o]) := by
  intro o
  unfold Kept at hk hg
  rw [hk,hg,alloc_eq_grow,← grow_grow]
  rfl
 exact ⟨rfl,1,_,e _⟩
set_option maxRecDepth 20000 in
set_option maxHeartbeats 4000000 in
theorem downs2_calls (g : Pt → Int) (p q : Pt) (W : World) : Calls Tryz.prog 139 #[.agg #[.int .i64 p.1,.int .i64 p.2,.int .i64 (g p)],.agg #[.int .i64 q.1,.int .i64 q.2,.int .i64 (g q)]] W fun e w' => e = .returned (.int .i64 (byRowV p q)) ∧ ∃ n os',w' = grow (W.drewN n) os' := by
 have hB := fun W' => byPointR_calls p q W'
 obtain ⟨px,py⟩ := p
 obtain ⟨qx,qy⟩ := q
 simp only at hB
 generalize byRowV (px,py) (qx,qy) = r at *
 generalize g (px,py) = gx at *
 generalize g (qx,qy) = gy at *
 go_enter Tryz.func139,Tryz.ntmps139
 go_wp2_with (go_at_call 49; refine (hB _).mono ?_; rintro e w' ⟨rfl,n,os',rfl⟩)
 go_ret
 have e : ∀ (X : World) (xs : Array Obj),(grow X xs).drewN n = grow (X.drewN n) xs := fun X xs => rfl
 refine ⟨rfl,n,#[.cells #[.int .i64 px,.int .i64 py,.int .i64 gx] 123 (0,0),.cells #[.int .i64 qx,.int .i64 qy,.int .i64 gy] 123 (0,0)] ++ os',?_⟩
 rw [alloc_eq_grow,alloc_eq_grow,grow_grow,e,grow_grow]
 rfl
end Go.Proofs.YtmgfcjblclanmaaGreatDoor
namespace Go.Proofs.YtmgfcjblclanmaaGreatDoor
open Go.RowKit Go.Shelf Go.Lib Go.Sort
set_option maxHeartbeats 2000000
def encD (G : Pt → Int) (p : Pt) : List Value := [.int .i64 p.1,.int .i64 p.2,.int .i64 (G p)]
def arrD3 (T : Nat) (G : Pt → Int) (l : List Pt) : Option ABlk := some (.arr T l.length [.i .i64 fun i => (l.getD i p0).1,.i .i64 fun i => (l.getD i p0).2,.i .i64 fun i => G (l.getD i p0)])
theorem flat_get3 (G : Pt → Int) (l : List Pt) {i : Nat} (hi : i < l.length) : (flatK (encD G) 3 l.toArray).toList[i * 3 + 0]? = some (.int .i64 (l.getD i p0).1) ∧ (flatK (encD G) 3 l.toArray).toList[i * 3 + 1]? = some (.int .i64 (l.getD i p0).2) ∧ (flatK (encD G) 3 l.toArray).toList[i * 3 + 2]? = some (.int .i64 (G (l.getD i p0))) := by
 have hg : (l.toArray)[i]! = l.getD i p0 := by
  rw [getElem!_pos (l.toArray) i (by simpa using hi),List.getD_eq_getElem?_getD,List.getElem?_eq_getElem hi]
  simp
 have hs : (flatK (encD G) 3 l.toArray).size = l.length * 3 := by simp
 have key : ∀ t,t < l.length * 3 → (flatK (encD G) 3 l.toArray).toList[t]? = some ((encD G (l.toArray)[t / 3]!)[t % 3]!) := fun t ht => by
  have h := get_flatK (encD G) 3 l.toArray t (by simpa using ht)
  rw [getElem!_pos _ t (by rw [hs]; exact ht)] at h
  rw [Array.getElem?_toList,Array.getElem?_eq_getElem (by rw [hs]; exact ht),h]
 refine ⟨?_,?_,?_⟩
 ·rw [key _ (by omega),show (i * 3 + 0) / 3 = i by omega,show (i * 3 + 0) % 3 = 0 by omega,hg]
  rfl
 ·rw [key _ (by omega),show (i * 3 + 1) / 3 = i by omega,show (i * 3 + 1) % 3 = 1 by omega,hg]
  rfl
 ·rw [key _ (by omega),show (i * 3 + 2) / 3 = i by omega,show (i * 3 + 2) % 3 = 2 by omega,hg]
  rfl
theorem acall_turned3 {P : Program} (G : Pt → Int) {f g : Nat} {fn : Func} {T : Nat} {l l' : List Pt} (ix nid : Nat) (hf : P.funcs[f]? = some fn) (h1 : (fn.name == "runtime.NumGoroutine") = false) (h2 : fn.body.isNone = false)
  (hT : T ≠ TS) (hpos : 0 < l.length) (hlen : l'.length = l.length)
  (h : ∀ (w : World) (blk off cap : Nat), HoldsK (encD G) 3 w blk off l.toArray → blk < w.heap.size → Calls P f #[.slice (some ⟨blk, off, none⟩) l.toArray.size cap, .func (.func g) #[] #[]] w fun e w' => e = .returned (.tuple #[]) ∧ ∃ n os, w' = sortWorldK (encD G) 3 w blk off n l'.toArray os) :
  ACall P f [.sl ix 0 l.length, .fn g []] [(ix, arrD3 T G l)] nid (.tup []) [(ix, arrD3 T G l')] := by
 intro C vs hb hl hrep hs
 obtain ⟨v0, v1, rfl⟩ : ∃ v0 v1, vs = [v0, v1] := by
  match vs, hl with
  | [a, b], _ => exact ⟨a, b, rfl⟩
 have r0 := hrep 0 _ _ rfl rfl
 have r1 := hrep 1 _ _ rfl rfl
 have hgb : getH [(ix, arrD3 T G l)] ix = some (.arr T l.length [.i .i64 fun i => (l.getD i p0).1, .i .i64 fun i => (l.getD i p0).2, .i .i64 fun i => G (l.getD i p0)]) := by simp [getH, arrD3]
 obtain ⟨pl', hm', hbs, hlies⟩ := hs.blk ix _ hgb
 cases r1 with
 | @fn _ _ us hul hu =>
 have hus : us = [] := List.eq_nil_of_length_eq_zero hul
 subst hus
 cases r0 with
 | @sl _ _ _ pl A B c cap hm hh hl0 h0 hB hB0 hle hc =>
 rw [hm] at hm'
 injection hm' with hm'
 subst hm'
 obtain ⟨hBA, hcc⟩ := h0 rfl
 have hBv := hB (by omega)
 rw [Nat.zero_mul, Nat.add_zero] at hBv
 have hbs' := hbs
 obtain ⟨xs, cap2, s1, s2, s3, s4, s5, s6, s7⟩ := hbs'
 have hol := s4 hpos
 have hs2 : pl.sz = 3 := s2
 have hcells := s3.cells hol
 have hxl : xs.length = l.length * 3 := s3.1
 have hblt := s3.lt pl.blk hol
 have hF : ∀ t, t < l.length * 3 → (flatK (encD G) 3 l'.toArray).size = l.length * 3 := fun _ _ => by simp [hlen]
 have hFs : (flatK (encD G) 3 l'.toArray).toList.length = l.length * 3 := by simp [hlen]
 obtain ⟨cur, hcur, hcsz, Y', hY', hev⟩ := HSF.setArr nid hs (cols' := [.i .i64 fun i => (l'.getD i p0).1, .i .i64 fun i => (l'.getD i p0).2, .i .i64 fun i => G (l'.getD i p0)]) hm hgb hpos 0 (flatK (encD G) 3 l'.toArray).toList (by
   intro v hv
   obtain ⟨t, ht, rfl⟩ := List.getElem_of_mem hv
   have ht' : t < l'.length * 3 := by rw [hFs] at ht; omega
   have hg := flat_get3 G l' (i := t / 3) (by omega)
   have hcase : t = t / 3 * 3 + 0 ∨ t = t / 3 * 3 + 1 ∨ t = t / 3 * 3 + 2 := by omega
   rcases hcase with hc | hc | hc
   ·have := hg.1; rw [← hc, List.getElem?_eq_getElem ht] at this; injection this with this; rw [this]; rfl
   ·have := hg.2.1; rw [← hc, List.getElem?_eq_getElem ht] at this; injection this with this; rw [this]; rfl
   ·have := hg.2.2; rw [← hc, List.getElem?_eq_getElem ht] at this; injection this with this; rw [this]; rfl)
  (by rw [hFs]; simp) rfl
  (by
   intro a k c' ha hk _ _
   have hg := flat_get3 G l' (i := a) (by omega)
   match k, hk with
   | 0, hk => injection hk with hk; subst hk; exact ⟨_, hg.1, .i⟩
   | 1, hk => injection hk with hk; subst hk; exact ⟨_, hg.2.1, .i⟩
   | 2, hk => injection hk with hk; subst hk; exact ⟨_, hg.2.2, .i⟩)
  (by
   intro a k c' ha hk hn
   exfalso
   apply hn
   rw [hFs]
   have : k < 3 := (List.getElem?_eq_some_iff.1 hk).1
   simp only [List.length_cons, List.length_nil]
   omega)
 have hex := hcur.exact hT
 have hold : HoldsK (encD G) 3 C.w0 pl.blk pl.o l.toArray := by
  intro j hj
  have hj' : j < l.length * 3 := by simpa using hj
  have hg := flat_get3 G l (i := j / 3) (by omega)
  have hx : ∀ k c, k < 3 → ([.i .i64 fun i => (l.getD i p0).1, .i .i64 fun i => (l.getD i p0).2, .i .i64 fun i => G (l.getD i p0)] : List Col)[k]? = some c → ∃ v, xs[j / 3 * 3 + k]? = some v ∧ ColRep C.Y0 C.w0 c (j / 3) v := fun k c _ hk => by
   obtain ⟨v, e1, e2⟩ := s7 (j / 3) k c (by omega) hk
   exact ⟨v, e1, e2.col (noOs_get (by rfl) hk)⟩
  have hlt : j < (flatK (encD G) 3 l.toArray).size := by simpa using hj'
  have key : xs[j]? = (flatK (encD G) 3 l.toArray).toList[j]? := by
   have hcase : j = j / 3 * 3 + 0 ∨ j = j / 3 * 3 + 1 ∨ j = j / 3 * 3 + 2 := by omega
   rcases hcase with hc | hc | hc
   ·obtain ⟨v, e1, e2⟩ := hx 0 _ (by omega) rfl
    cases e2
    rw [hc, e1, hg.1]
   ·obtain ⟨v, e1, e2⟩ := hx 1 _ (by omega) rfl
    cases e2
    rw [hc, e1, hg.2.1]
   ·obtain ⟨v, e1, e2⟩ := hx 2 _ (by omega) rfl
    cases e2
    rw [hc, e1, hg.2.2]
  rw [Array.getElem?_toList (xs := flatK (encD G) 3 l.toArray), Array.getElem?_eq_getElem hlt] at key
  refine ⟨?_, ?_⟩
  ·rw [hcells j _ key, getElem!_pos _ j hlt]
   rfl
  ·simp [World.frozen?, hex]
 have hcall := h C.w0 pl.blk pl.o c hold hblt
 refine .inl ⟨fn, hf, h1, h2, ?_⟩
 have hargs : ([Value.slice B l.length c, Value.func (.func g) #[] ([] : List Value).toArray] : List Value).toArray = #[.slice (some ⟨pl.blk, pl.o, none⟩) l.toArray.size c, .func (.func g) #[] #[]] := by
  rw [hBv]; simp
 rw [hargs]
 refine hcall.mono fun e w' ⟨he, n, os, hw⟩ => ⟨_, he, Y', C.m0, .tup rfl (fun i p v hp => by simp at hp), ?_, ?_⟩
 all_goals
  have hgr : (C.w0.setRow pl.blk (splice cur.toList (pl.o + 0) (flatK (encD G) 3 l'.toArray).toList).toArray).grownBy w' none := by
   rw [hw]
   unfold sortWorldK putRowK
   have e1 : putRow id (Sort.ahead C.w0 n) pl.blk pl.o (flatK (encD G) 3 l'.toArray) = Sort.ahead (putRow id C.w0 pl.blk pl.o (flatK (encD G) 3 l'.toArray)) n := rfl
   rw [e1, putRow_setRow C.w0 pl.blk pl.o _ cur T (0, 0) hex (by rw [Array.length_toList] at hcsz; simpa using hcsz)]
   exact ⟨rfl, rfl, rfl, by simp [grow, Sort.ahead], fun k hk _ => by simp only [grow, Sort.ahead, Nat.add_zero] at hk ⊢; rw [Array.getElem?_append_left hk]⟩
  obtain ⟨q1, q2⟩ := hY'.push (Fr' := fun id => nid + 4 ≤ id) (fun id hid => ⟨by omega, by omega⟩) hgr
 ·exact q1.same (fun i => by by_cases hi : ix = i <;> simp [getH, arrD3, hi, hlen])
 ·exact hev.trans q2
set_option maxRecDepth 20000 in
theorem sortD_c (G : Pt → Int) (ix : Nat) (l : List Pt) (nid : Nat) (hpos : 0 < l.length) (hl : l.length < 4611686018427387904) :
  ACall Tryz.prog 138 [.sl ix 0 l.length,.fn 139 []] [(ix,arrD3 123 G l)] nid (.tup []) [(ix,arrD3 123 G (sortV l))] :=
 acall_turned3 G ix nid Tryz.func138 (by kernel_rfl) (by kernel_rfl) (by decide) hpos (sortV_len l) (fun w blk off cap hH hblk => by
  have eg : ∀ args w,(callFunc 139 args).run Tryz.prog w = .ok (.enter 139 args) w := enters_of Tryz.func139 (by kernel_rfl) rfl
  have h := AnyQ.slices_SortFunc_total Tryz.sortD 3 Tryz.isAgg123 Tryz.sizeOf123 (encD G) (fun _ => rfl) (fun x v hv => by simp [encD] at hv; rcases hv with rfl | rfl | rfl <;> rfl) byRowV byRow_swo 139 #[] blk off cap l.toArray w eg (fun _ _ _ _ x y => downs2_calls G x y _) hH hblk (by simpa using hl) (fun x y h1 h2 => ltP_total (by simpa [byRow_lt] using h1) (by simpa [byRow_lt] using h2))
  have hf : Tryz.sortD_ren.f 6 = 138 := by kernel_rfl
  rw [hf] at h
  exact h)
end Go.Proofs.YtmgfcjblclanmaaGreatDoor
namespace Go.Proofs.YtmgfcjblclanmaaGreatDoor
open Go.RowKit
theorem insertD_0 (g : Pt → Int) (ix nid : Nat) (h : ix < nid) : ACall Tryz.prog 222 [.sl ix 0 0,.int .i64 0,.int .i64 0,.fn 139 []] [(ix,arrDg g [])] nid (.tup []) [(ix,arrDg g [])] := by
 obtain ⟨e1,e2,e3,e4,e5,e6,e7,e8,e9⟩ := id_all h
 refine acall_run c222 (by simp [a222]) ?_
 unfold arrDg
 simp -dsimp only [aqA,↓seqK,↓blkK,↓loopK,step,stepBin,eqB,Nat.add_assoc nid,↓reduceIte,simprocAttr,LN_succ,a222,e1,e2,e3,e4,e5,e6,e7,e8,e9]
 refine ⟨by unfold inI64; omega,?_⟩
 refine LP.mkP (fun _ : Unit => True) (fun _ => ⟨[(8,.int .i64 1),(2,.int .i64 0)],[(ix,arrDg g [])],nid + 50,nid⟩) (fun _ => 0) () trivial (Cov.go [] [] ?_) (fun _ _ => ?_)
 ·simp [cvT,step,res,e1,e2,e3,e4,e5,e6,e7,e8,e9,arrDg,-List.getD_eq_getElem?_getD]
 unfold arrDg
 simp -dsimp only [aqA,↓seqK,↓blkK,↓loopK,step,stepBin,eqB,Nat.add_assoc nid,↓reduceIte,simprocAttr,LN_succ,e1,e2,e3,e4,e5,e6,e7,e8,e9]
 refine RetOK.go [] [] (.inr rfl) ?_
 simp [a222,cvT,step,res,e1,e2,e3,e4,e5,e6,e7,e8,e9,arrDg,ColsEq.refl,-List.getD_eq_getElem?_getD]
theorem pdqD_0 (g : Pt → Int) (ix nid : Nat) (h : ix < nid) : ACall Tryz.prog 184 [.sl ix 0 0,.int .i64 0,.int .i64 0,.int .i64 0,.fn 139 []] [(ix,arrDg g [])] nid (.tup []) [(ix,arrDg g [])] := by
 obtain ⟨e1,e2,e3,e4,e5,e6,e7,e8,e9⟩ := id_all h
 refine acall_run c184 (by simp [a184]) ?_
 unfold arrDg
 simp -dsimp only [aqA,↓seqK,↓blkK,↓loopK,step,stepBin,eqB,Nat.add_assoc nid,↓reduceIte,simprocAttr,LN_succ,a184,e1,e2,e3,e4,e5,e6,e7,e8,e9]
 refine LP.mkP (fun _ : Unit => True) (fun _ => ⟨[(0,.sl ix 0 0),(1,.int .i64 0),(2,.int .i64 0),(4,.fn 139 [])],[(ix,arrDg g [])],nid + 50,nid⟩) (fun _ => 0) () trivial (Cov.go [] [] ?_) (fun _ _ => ?_)
 ·simp [cvT,step,res,e1,e2,e3,e4,e5,e6,e7,e8,e9,arrDg,-List.getD_eq_getElem?_getD]
 unfold arrDg
 simp -dsimp only [aqA,↓seqK,↓blkK,↓loopK,step,stepBin,eqB,Nat.add_assoc nid,↓reduceIte,simprocAttr,LN_succ,e1,e2,e3,e4,e5,e6,e7,e8,e9]
 refine ⟨by unfold inI64; omega,?_⟩
 refine CallO.on (insertD_0 g ix _ (by omega)) (subH_get (by simp only [aqA,↓seqK,↓blkK,↓loopK,step,stepBin,eqB,Nat.add_assoc nid,↓reduceIte,simprocAttr,LN_succ,arrDg])) ?_
 unfold arrDg
 simp -dsimp only [aqA,↓seqK,↓blkK,↓loopK,step,stepBin,eqB,Nat.add_assoc nid,↓reduceIte,simprocAttr,LN_succ,e1,e2,e3,e4,e5,e6,e7,e8,e9]
 refine RetOK.go [] [] (.inl rfl) ?_
 simp [a184,cvT,step,res,e1,e2,e3,e4,e5,e6,e7,e8,e9,arrDg,ColsEq.refl,-List.getD_eq_getElem?_getD]
theorem sortD_0 (g : Pt → Int) (ix nid : Nat) (h : ix < nid) : ACall Tryz.prog 138 [.sl ix 0 0,.fn 139 []] [(ix,arrDg g [])] nid (.tup []) [(ix,arrDg g [])] := by
 obtain ⟨e1,e2,e3,e4,e5,e6,e7,e8,e9⟩ := id_all h
 refine acall_run c138 (by simp [a138]) ?_
 unfold arrDg
 simp -dsimp only [aqA,↓seqK,↓blkK,↓loopK,step,stepBin,eqB,Nat.add_assoc nid,↓reduceIte,simprocAttr,LN_succ,a138,e1,e2,e3,e4,e5,e6,e7,e8,e9]
 rw [show IntKind.u64.wrap 0 = 0 from by decide]
 refine CallO.pure (lenP_0 _) ?_
 simp -dsimp only [aqA,↓seqK,↓blkK,↓loopK,step,stepBin,eqB,Nat.add_assoc nid,↓reduceIte,simprocAttr,LN_succ,e1,e2,e3,e4,e5,e6,e7,e8,e9]
 refine CallO.on (pdqD_0 g ix _ (by omega)) (subH_get (by simp only [aqA,↓seqK,↓blkK,↓loopK,step,stepBin,eqB,Nat.add_assoc nid,↓reduceIte,simprocAttr,LN_succ,arrDg])) ?_
 unfold arrDg
 simp -dsimp only [aqA,↓seqK,↓blkK,↓loopK,step,stepBin,eqB,Nat.add_assoc nid,↓reduceIte,simprocAttr,LN_succ,e1,e2,e3,e4,e5,e6,e7,e8,e9]
 refine RetOK.go [] [] (.inr rfl) ?_
 simp [a138,cvT,step,res,e1,e2,e3,e4,e5,e6,e7,e8,e9,arrDg,ColsEq.refl,-List.getD_eq_getElem?_getD]
theorem sortD_any (g : Pt → Int) (ix : Nat) (l : List Pt) (nid : Nat) (h : ix < nid) (hl : l.length ≤ 1000000) :
  ACall Tryz.prog 138 [.sl ix 0 l.length,.fn 139 []] [(ix,arrDg g l)] nid (.tup []) [(ix,arrDg g (sortV l))] := by
 rcases Nat.eq_zero_or_pos l.length with h0 | h0
 ·have e := List.length_eq_zero_iff.1 h0
  subst e
  have e2 : sortV [] = [] := by simp [sortV]
  rw [e2]
  exact sortD_0 g ix nid h
 ·exact sortD_c g ix l nid h0 (by omega)
theorem downs_all (nl nlc nlo : Bool) (W : Waf) (card : List Pt) (nid : Nat) (hW : WafOk W) (hl : card.length ≤ 1000) (hc : ∀ p ∈ card,p.1 ≤ 100 ∧ -100 ≤ p.1 ∧ p.2 ≤ 100 ∧ -100 ≤ p.2) (hk : (opV W).length ≤ 14) :
  ACall Tryz.prog 82 [wafP nl W,litPl nlc card,litPl nlo (opV W)] [] nid (.sl nid 0 (tdV W card).length) [(nid,arrDq W card)] :=
 downs_c nl nlc nlo W card nid hW hl hc hk fun g id l k h1 h2 => sortD_any g id l k h1 h2
theorem fewestR_all (nl nlc : Bool) (W : Waf) (card : List Pt) (nid : Nat) (hW : WafOk W) (hl : card.length ≤ 1000) (hc : ∀ p ∈ card,p.1 ≤ 100 ∧ -100 ≤ p.1 ∧ p.2 ≤ 100 ∧ -100 ≤ p.2) (hk : (opV W).length ≤ 14) (hcz : card ≠ []) :
  ACall Tryz.prog 24 [wafP nl W,litPl nlc card] [] nid (.tup [.sl nid 0 (fewOut W card).length,.bool (fewGo W card).isSome]) [(nid,arrPl (fewOut W card))] :=
 fewestDowns_all nl nlc W card nid hW hl hk hcz fun nlo k => downs_all nl nlc nlo W card k hW hl hc hk
end Go.Proofs.YtmgfcjblclanmaaGreatDoor
